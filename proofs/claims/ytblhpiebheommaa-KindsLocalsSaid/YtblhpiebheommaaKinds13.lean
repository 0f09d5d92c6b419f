/- The walks of kinds' whole: checker, room. Printed by gen-kinds13.py. -/
import Derived.Test.YtblhpiebheommaaKinds11
namespace Go.Proofs.Ytblhpiebheommaa
open Go.RowKit

/-- A checker, made. -/
def MadeCk (F : Nat → Prop) (w : World) (t : List NameD) (fs : List FuncD) (wh : Int) (e : Ending) (w' : World) : Prop :=
  ∃ B, e = .returned (.pointer (some ⟨B, 0, none⟩)) ∧ w.heap.size ≤ B ∧ Ck F w' B t fs wh 0 0 [] (.slice none 0 0) ∧ Below w.heap.size w w'

set_option maxRecDepth 100000 in
set_option maxHeartbeats 1000000 in
theorem checker_calls (t : List NameD) (s : SrcD) (wh : Int) (F : Nat → Prop) (w : World) (tv : Value) (ss : List Value) (hF : Inn F w) (h0 : RdNames F w t tv) (h1 : Holds.src.R F w s ss) :
    Calls Try.prog 81 #[.agg (tv :: ss).toArray, .int .i64 wh] w (MadeCk F w t s.funcs wh) := by
  obtain ⟨a0, c0, rfl⟩ := h0.shape
  obtain ⟨a5, c5, a6, c6, a7, c7, a8, c8, a9, c9, a10, c10, a11, c11, a12, c12, rfl, g5, g6, g7, g8, g9, g10, g11, g12⟩ := src_shape h1
  have hB1 : Below w.heap.size w (w.alloc (.cells #[.slice a0 t.length c0, .string s.title, .string s.author, .string s.start, .int .i64 s.release, .int .i64 s.most, .slice a5 s.flags.length c5, .slice a6 s.props.length c6, .slice a7 s.globals.length c7, .slice a8 s.objects.length c8, .slice a9 s.verbs.length c9, .slice a10 s.rules.length c10, .slice a11 s.funcs.length c11, .slice a12 s.daemons.length c12] 91)) := (Below.refl _ w).alloc (Nat.le_refl _) _
  have hB2 : Below w.heap.size w ((w.alloc (.cells #[.slice a0 t.length c0, .string s.title, .string s.author, .string s.start, .int .i64 s.release, .int .i64 s.most, .slice a5 s.flags.length c5, .slice a6 s.props.length c6, .slice a7 s.globals.length c7, .slice a8 s.objects.length c8, .slice a9 s.verbs.length c9, .slice a10 s.rules.length c10, .slice a11 s.funcs.length c11, .slice a12 s.daemons.length c12] 91)).alloc (.cells #[.slice a0 t.length c0, .string s.title, .string s.author, .string s.start, .int .i64 s.release, .int .i64 s.most, .slice a5 s.flags.length c5, .slice a6 s.props.length c6, .slice a7 s.globals.length c7, .slice a8 s.objects.length c8, .slice a9 s.verbs.length c9, .slice a10 s.rules.length c10, .slice a11 s.funcs.length c11, .slice a12 s.daemons.length c12, .slice none 0 0, .int .i64 wh, .int .i64 0] 80)) := hB1.alloc (by simp) _
  have hbx := bx_new (w.alloc (.cells #[.slice a0 t.length c0, .string s.title, .string s.author, .string s.start, .int .i64 s.release, .int .i64 s.most, .slice a5 s.flags.length c5, .slice a6 s.props.length c6, .slice a7 s.globals.length c7, .slice a8 s.objects.length c8, .slice a9 s.verbs.length c9, .slice a10 s.rules.length c10, .slice a11 s.funcs.length c11, .slice a12 s.daemons.length c12] 91)) [.slice a0 t.length c0, .string s.title, .string s.author, .string s.start, .int .i64 s.release, .int .i64 s.most, .slice a5 s.flags.length c5, .slice a6 s.props.length c6, .slice a7 s.globals.length c7, .slice a8 s.objects.length c8, .slice a9 s.verbs.length c9, .slice a10 s.rules.length c10, .slice a11 s.funcs.length c11, .slice a12 s.daemons.length c12, .slice none 0 0, .int .i64 wh, .int .i64 0] 80 _ rfl
  have hz : (w.alloc (.cells #[.slice a0 t.length c0, .string s.title, .string s.author, .string s.start, .int .i64 s.release, .int .i64 s.most, .slice a5 s.flags.length c5, .slice a6 s.props.length c6, .slice a7 s.globals.length c7, .slice a8 s.objects.length c8, .slice a9 s.verbs.length c9, .slice a10 s.rules.length c10, .slice a11 s.funcs.length c11, .slice a12 s.daemons.length c12] 91)).heap.size < ((w.alloc (.cells #[.slice a0 t.length c0, .string s.title, .string s.author, .string s.start, .int .i64 s.release, .int .i64 s.most, .slice a5 s.flags.length c5, .slice a6 s.props.length c6, .slice a7 s.globals.length c7, .slice a8 s.objects.length c8, .slice a9 s.verbs.length c9, .slice a10 s.rules.length c10, .slice a11 s.funcs.length c11, .slice a12 s.daemons.length c12] 91)).alloc (.cells #[.slice a0 t.length c0, .string s.title, .string s.author, .string s.start, .int .i64 s.release, .int .i64 s.most, .slice a5 s.flags.length c5, .slice a6 s.props.length c6, .slice a7 s.globals.length c7, .slice a8 s.objects.length c8, .slice a9 s.verbs.length c9, .slice a10 s.rules.length c10, .slice a11 s.funcs.length c11, .slice a12 s.daemons.length c12, .slice none 0 0, .int .i64 wh, .int .i64 0] 80)).heap.size := by simp
  have hck : Ck F ((w.alloc (.cells #[.slice a0 t.length c0, .string s.title, .string s.author, .string s.start, .int .i64 s.release, .int .i64 s.most, .slice a5 s.flags.length c5, .slice a6 s.props.length c6, .slice a7 s.globals.length c7, .slice a8 s.objects.length c8, .slice a9 s.verbs.length c9, .slice a10 s.rules.length c10, .slice a11 s.funcs.length c11, .slice a12 s.daemons.length c12] 91)).alloc (.cells #[.slice a0 t.length c0, .string s.title, .string s.author, .string s.start, .int .i64 s.release, .int .i64 s.most, .slice a5 s.flags.length c5, .slice a6 s.props.length c6, .slice a7 s.globals.length c7, .slice a8 s.objects.length c8, .slice a9 s.verbs.length c9, .slice a10 s.rules.length c10, .slice a11 s.funcs.length c11, .slice a12 s.daemons.length c12, .slice none 0 0, .int .i64 wh, .int .i64 0] 80)) (w.alloc (.cells #[.slice a0 t.length c0, .string s.title, .string s.author, .string s.start, .int .i64 s.release, .int .i64 s.most, .slice a5 s.flags.length c5, .slice a6 s.props.length c6, .slice a7 s.globals.length c7, .slice a8 s.objects.length c8, .slice a9 s.verbs.length c9, .slice a10 s.rules.length c10, .slice a11 s.funcs.length c11, .slice a12 s.daemons.length c12] 91)).heap.size t s.funcs wh 0 0 [] (.slice none 0 0) := ⟨fun b hb => by have := hF b hb; simp; omega, ⟨hz, _, hbx 0 (by simp), h0.below hF hB2 (Nat.le_refl _)⟩, ⟨hz, _, hbx 12 (by simp), g11.below hF hB2 (Nat.le_refl _)⟩, hbx 15 (by simp), hbx 16 (by simp), hbx 14 (by simp), Loc.nil _ _ _, World.frozen?_alloc_new _ _ _ _, World.frozen?_alloc_new _ _ _ _⟩
  have HP : Hid (MadeCk F w t s.funcs wh (.returned (.pointer (some ⟨w.heap.size + 1, 0, none⟩))) ((w.alloc (.cells #[.slice a0 t.length c0, .string s.title, .string s.author, .string s.start, .int .i64 s.release, .int .i64 s.most, .slice a5 s.flags.length c5, .slice a6 s.props.length c6, .slice a7 s.globals.length c7, .slice a8 s.objects.length c8, .slice a9 s.verbs.length c9, .slice a10 s.rules.length c10, .slice a11 s.funcs.length c11, .slice a12 s.daemons.length c12] 91)).alloc (.cells #[.slice a0 t.length c0, .string s.title, .string s.author, .string s.start, .int .i64 s.release, .int .i64 s.most, .slice a5 s.flags.length c5, .slice a6 s.props.length c6, .slice a7 s.globals.length c7, .slice a8 s.objects.length c8, .slice a9 s.verbs.length c9, .slice a10 s.rules.length c10, .slice a11 s.funcs.length c11, .slice a12 s.daemons.length c12, .slice none 0 0, .int .i64 wh, .int .i64 0] 80))) := ⟨w.heap.size + 1, rfl, by omega, by rw [show w.heap.size + 1 = (w.alloc (.cells #[.slice a0 t.length c0, .string s.title, .string s.author, .string s.start, .int .i64 s.release, .int .i64 s.most, .slice a5 s.flags.length c5, .slice a6 s.props.length c6, .slice a7 s.globals.length c7, .slice a8 s.objects.length c8, .slice a9 s.verbs.length c9, .slice a10 s.rules.length c10, .slice a11 s.funcs.length c11, .slice a12 s.daemons.length c12] 91)).heap.size by simp]; exact hck, hB2⟩
  clear hbx hz hck g5 g6 g7 g8 g9 g10 g11 g12 h0 h1 hB1 hB2
  go_enter Try.func81, Try.ntmps81
  go_wp2
  go_ret
  exact HP.out

/-- What is wrong with a name that must be a room's. -/
def roomW (t : List NameD) (os : List ObjD) (n : ByteArray) : Int × ByteArray :=
  if (ofN t 4 n).2 = 0 then (if ((os.map ObjD.room)[(ofN t 4 n).1.toNat - 2]?).getD false = true then fineW else (12, n)) else ((ofN t 4 n).2, n)

set_option maxRecDepth 100000 in
set_option maxHeartbeats 2000000 in
theorem room_calls (t : List NameD) (s : SrcD) (n : ByteArray) (F : Nat → Prop) (w : World) (tv : Value) (ss : List Value) (hF : Inn F w) (hri : Rises t) (ht : t.length ≤ 1000000000000) (htab : TabOk t s.funcs s.objects.length) (h0 : RdNames F w t tv) (h1 : Holds.src.R F w s ss) :
    Calls Try.prog 68 #[.agg (tv :: ss).toArray, .string n] w (Judged w (roomW t s.objects n) (.tuple #[])) := by
  have hch := fun o => checker_calls t s 0 F (w.alloc o) tv ss (hF.alloc o) (h0.alloc hF o) (Holds.below _ h1 hF ((Below.refl _ w).alloc (Nat.le_refl _) o) (Nat.le_refl _))
  obtain ⟨a0, c0, rfl⟩ := h0.shape
  obtain ⟨a5, c5, a6, c6, a7, c7, a8, c8, a9, c9, a10, c10, a11, c11, a12, c12, rfl, g5, g6, g7, g8, g9, g10, g11, g12⟩ := src_shape h1
  have hB1 : Below w.heap.size w (w.alloc (.cells #[.slice a0 t.length c0, .string s.title, .string s.author, .string s.start, .int .i64 s.release, .int .i64 s.most, .slice a5 s.flags.length c5, .slice a6 s.props.length c6, .slice a7 s.globals.length c7, .slice a8 s.objects.length c8, .slice a9 s.verbs.length c9, .slice a10 s.rules.length c10, .slice a11 s.funcs.length c11, .slice a12 s.daemons.length c12] 91)) := (Below.refl _ w).alloc (Nat.le_refl _) _
  have hbx := bx_new w [.slice a0 t.length c0, .string s.title, .string s.author, .string s.start, .int .i64 s.release, .int .i64 s.most, .slice a5 s.flags.length c5, .slice a6 s.props.length c6, .slice a7 s.globals.length c7, .slice a8 s.objects.length c8, .slice a9 s.verbs.length c9, .slice a10 s.rules.length c10, .slice a11 s.funcs.length c11, .slice a12 s.daemons.length c12] 91 _ rfl 9 (by simp)
  have HCH := Lib.hid (hch (.cells #[.slice a0 t.length c0, .string s.title, .string s.author, .string s.start, .int .i64 s.release, .int .i64 s.most, .slice a5 s.flags.length c5, .slice a6 s.props.length c6, .slice a7 s.globals.length c7, .slice a8 s.objects.length c8, .slice a9 s.verbs.length c9, .slice a10 s.rules.length c10, .slice a11 s.funcs.length c11, .slice a12 s.daemons.length c12] 91))
  have HO := Lib.hid (fun (W : World) (B : Nat) (hb : Below (w.alloc (.cells #[.slice a0 t.length c0, .string s.title, .string s.author, .string s.start, .int .i64 s.release, .int .i64 s.most, .slice a5 s.flags.length c5, .slice a6 s.props.length c6, .slice a7 s.globals.length c7, .slice a8 s.objects.length c8, .slice a9 s.verbs.length c9, .slice a10 s.rules.length c10, .slice a11 s.funcs.length c11, .slice a12 s.daemons.length c12] 91)).heap.size (w.alloc (.cells #[.slice a0 t.length c0, .string s.title, .string s.author, .string s.start, .int .i64 s.release, .int .i64 s.most, .slice a5 s.flags.length c5, .slice a6 s.props.length c6, .slice a7 s.globals.length c7, .slice a8 s.objects.length c8, .slice a9 s.verbs.length c9, .slice a10 s.rules.length c10, .slice a11 s.funcs.length c11, .slice a12 s.daemons.length c12] 91)) W) (hc : Ck F W B t s.funcs 0 0 0 [] (.slice none 0 0)) => of_calls t 4 n F W B hc.inw hc.ct hri ht)
  unfold roomW
  obtain ⟨z, er, hze⟩ : ∃ z er, ofN t 4 n = (z, er) := ⟨_, _, rfl⟩
  unfold ofW at HO
  rw [hze] at HO ⊢
  simp only at HO ⊢
  clear hch h0 h1 g5 g6 g7 g9 g10 g11 g12
  by_cases hz : er = 0
  · subst hz
    obtain ⟨x, hxm, hxk, hxz⟩ := ofN_ok hze
    obtain ⟨hx0, hx1⟩ := (htab x hxm).2 hxk
    rw [hxz] at hx0 hx1
    obtain ⟨j, rfl⟩ : ∃ j : Nat, z = ((j + 2 : Nat) : Int) := ⟨z.toNat - 2, by omega⟩
    have hj : j < s.objects.length := by omega
    obtain ⟨_, _, he8, hl8, hc8, h8⟩ := g8.opn
    cases he8
    obtain ⟨ob, off, rfl, hFob, hel⟩ := h8 (by omega)
    have hrd : Hid (∀ W, Below w.heap.size w W → W.cell? ⟨ob, off + j * 10 + 4, none⟩ = some (.bool (s.objects[j].room))) := fun W hW => by
      obtain ⟨cs, ⟨-, -, -, -, v5, v6, v7, v8, v9, rfl, -⟩, -, hcell⟩ := hel W (hW.block ob (hF ob hFob)) j hj
      exact hcell 4 _ rfl
    have hge : ((s.objects.map ObjD.room)[((j + 2 : Nat) : Int).toNat - 2]?).getD false = s.objects[j].room := by rw [show ((j + 2 : Nat) : Int).toNat - 2 = j by omega]; simp [hj]
    rw [if_pos rfl, hge]
    have HX := Lib.hid hbx
    have hsub : IntKind.i64.wrap (((j + 2 : Nat) : Int) - 2) = (j : Int) := by rw [IntKind.wrap_i64]; unfold maxLen at hc8; omega
    have hjl : (j : Int) < (s.objects.length : Int) := by omega
    have hj0 : (0 : Int) ≤ (j : Int) := by omega
    have hcap : c8 ≤ 9223372036854775807 := by unfold maxLen at hc8; omega
    clear hel h8 hbx hxm hxk hxz hx0 hx1 htab g8 hze hc8 hge
    have HB1 := Lib.hid hB1
    have hstep : Hid (∀ w1, Below (w.alloc (.cells #[.slice a0 t.length c0, .string s.title, .string s.author, .string s.start, .int .i64 s.release, .int .i64 s.most, .slice a5 s.flags.length c5, .slice a6 s.props.length c6, .slice a7 s.globals.length c7, .slice (some ⟨ob, off, none⟩) s.objects.length c8, .slice a9 s.verbs.length c9, .slice a10 s.rules.length c10, .slice a11 s.funcs.length c11, .slice a12 s.daemons.length c12] 91)).heap.size (w.alloc (.cells #[.slice a0 t.length c0, .string s.title, .string s.author, .string s.start, .int .i64 s.release, .int .i64 s.most, .slice a5 s.flags.length c5, .slice a6 s.props.length c6, .slice a7 s.globals.length c7, .slice (some ⟨ob, off, none⟩) s.objects.length c8, .slice a9 s.verbs.length c9, .slice a10 s.rules.length c10, .slice a11 s.funcs.length c11, .slice a12 s.daemons.length c12] 91)) w1 → w1.cell? ⟨w.heap.size, 9, none⟩ = some (.slice (some ⟨ob, off, none⟩) s.objects.length c8) ∧ w1.cell? ⟨ob, off + j * 10 + 4, none⟩ = some (.bool (s.objects[j].room)) ∧ Below w.heap.size w w1) := fun w1 hb => ⟨(hb.cell (p := ⟨w.heap.size, 9, none⟩) (by simp)).trans HX.out, hrd.out w1 (HB1.out.trans (hb.mono HB1.out.size)), HB1.out.trans (hb.mono HB1.out.size)⟩
    generalize hR : s.objects[j].room = R at hstep ⊢
    clear hR hrd HX
    have HJ := Lib.hid (fun W B hb hc => judged_ok (HO.out W B hb hc) rfl)
    clear HO
    cases R
    · go_enter Try.func68, Try.ntmps68
      go_wp2_with (first | (go_at_call 81; refine HCH.out.mono ?_; rintro e w1 ⟨B, rfl, hB, hck, hb⟩; have HCK := Lib.hid hck; clear hck) | (go_at_call 58; refine (HJ.out _ B hb HCK.out).mono ?_; rintro e w2 ⟨rfl, hb2⟩; obtain ⟨r0, r1, r2⟩ := hstep.out w2 (hb.trans (hb2.mono hb.size))))
      exact ⟨rfl, Judged.thrown rfl (by decide) rfl r2⟩
    · go_enter Try.func68, Try.ntmps68
      go_wp2_with (first | (go_at_call 81; refine HCH.out.mono ?_; rintro e w1 ⟨B, rfl, hB, hck, hb⟩; have HCK := Lib.hid hck; clear hck) | (go_at_call 58; refine (HJ.out _ B hb HCK.out).mono ?_; rintro e w2 ⟨rfl, hb2⟩; obtain ⟨r0, r1, r2⟩ := hstep.out w2 (hb.trans (hb2.mono hb.size))))
      go_end0
      exact Judged.fine rfl rfl r2
  · rw [if_neg hz]
    rw [if_neg hz] at HO
    have HZ := Lib.hid hz
    have HB1 := Lib.hid hB1
    have HJ := Lib.hid (fun W B hb hc => judged_bad (HO.out W B hb hc) hz)
    clear HO hz hbx htab g8 hze
    go_enter Try.func68, Try.ntmps68
    go_wp2_with (first | (go_at_call 81; refine HCH.out.mono ?_; rintro e w1 ⟨B, rfl, hB, hck, hb⟩; have HCK := Lib.hid hck; clear hck) | (go_at_call 58; refine (HJ.out _ B hb HCK.out).mono ?_; rintro e w2 ⟨rfl, hb2⟩))
    exact ⟨rfl, Judged.thrown rfl HZ.out rfl (HB1.out.trans ((hb.trans (hb2.mono hb.size)).mono HB1.out.size))⟩
end Go.Proofs.Ytblhpiebheommaa
