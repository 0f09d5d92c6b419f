/- The walk of a whole's round. Printed by gen-kinds28.py. -/
import Derived.Test.YtblhpiebheommaaGreatKindsChecksPart17
import Derived.Test.YtblhpiebheommaaGreatKindsChecksPart7
import Derived.Deep.RegionHeld3
namespace Go.Proofs.YtblhpiebheommaaGreat
open Go.RowKit

/-- The object that an object is in. -/
def stepN (t : List NameD) (os : List ObjD) (at' : Nat) : Option Nat := if (ofN t 4 ((os.map ObjD.inn)[at']?.getD ⟨#[]⟩)).2 = 0 then some ((ofN t 4 ((os.map ObjD.inn)[at']?.getD ⟨#[]⟩)).1.toNat - 2) else none
/-- Does one come back to an object, in so many steps? -/
def roundN (t : List NameD) (os : List ObjD) (i : Nat) : Nat → Nat → Bool
  | 0, _ => false
  | f + 1, at' => match stepN t os at' with
    | none => false
    | some a => if a = i then true else roundN t os i f a

set_option maxRecDepth 100000 in
set_option maxHeartbeats 4000000 in
theorem round_calls (t : List NameD) (s : SrcD) (i : Nat) (F : Nat → Prop) (w : World) (tv : Value) (ss : List Value) (hF : Inn F w) (hri : Rises t) (ht : t.length ≤ 1000000000000) (htab : TabOk t s.funcs s.objects.length) (h0 : RdNames F w t tv) (h1 : Holds.src.R F w s ss) (hi : i < s.objects.length) :
    Calls Tryz.prog 70 #[.agg (tv :: ss).toArray, .int .i64 i] w (Gives w (.bool (roundN t s.objects i s.objects.length i))) := by
  have HOF := Lib.hid (fun (n : ByteArray) W (hW : Below w.heap.size w W) => ofT_calls t 4 n F W tv (hF.below hW) (h0.below hF hW (Nat.le_refl _)) hri ht)
  obtain ⟨a0, c0, rfl⟩ := h0.shape
  obtain ⟨a5, c5, a6, c6, a7, c7, a8, c8, a9, c9, a10, c10, a11, c11, a12, c12, rfl, g5, g6, g7, g8, g9, g10, g11, g12⟩ := src_shape h1
  obtain ⟨_, _, he8, hl8, hc8, h8⟩ := g8.opn
  cases he8
  obtain ⟨ob, off, rfl, hFob, hel⟩ := h8 (by omega)
  have HF := Lib.hid hF
  have HTAB := Lib.hid htab
  have hin : Hid (∀ W, Below w.heap.size w W → ∀ j (hj : j < s.objects.length), W.cell? ⟨ob, off + j * 10 + 2, none⟩ = some (.string ((s.objects.map ObjD.inn)[j]?.getD ⟨#[]⟩))) := fun W hW j hj => by
    obtain ⟨cs, ⟨-, -, -, -, v5, v6, v7, v8, v9, rfl, -⟩, -, hcell⟩ := hel W (hW.block ob (hF ob hFob)) j hj
    have := hcell 2 _ rfl
    rw [this]
    simp [hj]
  obtain ⟨r, hr⟩ : ∃ r, roundN t s.objects i s.objects.length i = r := ⟨_, rfl⟩
  rw [hr]
  have HR := Lib.hid hr
  have HI := Lib.hid hi
  have hcap : c8 ≤ 9223372036854775807 := by unfold maxLen at hc8; omega
  have hA : Hid (∃ W0, w.alloc (.cells #[.slice a0 t.length c0, .string s.title, .string s.author, .string s.start, .int .i64 s.release, .int .i64 s.most, .slice a5 s.flags.length c5, .slice a6 s.props.length c6, .slice a7 s.globals.length c7, .slice (some ⟨ob, off, none⟩) s.objects.length c8, .slice a9 s.verbs.length c9, .slice a10 s.rules.length c10, .slice a11 s.funcs.length c11, .slice a12 s.daemons.length c12] 73) = W0 ∧ Below w.heap.size w W0 ∧ BoxAt W0 w.heap.size [.slice a0 t.length c0, .string s.title, .string s.author, .string s.start, .int .i64 s.release, .int .i64 s.most, .slice a5 s.flags.length c5, .slice a6 s.props.length c6, .slice a7 s.globals.length c7, .slice (some ⟨ob, off, none⟩) s.objects.length c8, .slice a9 s.verbs.length c9, .slice a10 s.rules.length c10, .slice a11 s.funcs.length c11, .slice a12 s.daemons.length c12] ∧ w.heap.size < W0.heap.size) := ⟨_, rfl, (Below.refl _ w).alloc (Nat.le_refl _) _, BoxAt.new _ _ _, by simp⟩
  clear h0 h1 hr hF htab hri g5 g6 g7 g8 g9 g10 g11 g12 hel h8 hc8 hi ht
  go_enter Tryz.func70, Tryz.ntmps70
  go_upto_region 1 with fail
  obtain ⟨W0, hW0, hB0, hbox, hz0⟩ := hA.out
  rw [hW0]
  have HB0 := Lib.hid hB0
  have HBOX := Lib.hid hbox
  clear hA hW0 hB0 hbox
  have z9 := HBOX.out.2 9 (by simp)
  simp only [List.getElem?_cons_succ, List.getElem?_cons_zero] at z9
  go_wp2_with fail
  clear z9
  go_loopw [5, 13] (fun at' n wr => ∃ (k a : Nat), k ≤ s.objects.length ∧ n = .int .i64 k ∧ at' = .int .i64 a ∧ a < s.objects.length ∧ Hid (r = roundN t s.objects i (s.objects.length - k) a) ∧ Below W0.heap.size W0 wr) (fun _ n _ => s.objects.length - (intOf n).toNat)
  case atStart => exact ⟨0, i, Nat.zero_le _, rfl, rfl, HI.out, by show _ = _; exact HR.out.symm, Below.refl _ _⟩
  case round =>
    obtain ⟨k, a, hk, rfl, rfl, ha, hinv, hB⟩ := hrel
    have hBw : Below w.heap.size w wr := HB0.out.trans (hB.mono HB0.out.size)
    by_cases hlt : k < s.objects.length
    · have HB := Lib.hid hB
      have HBw := Lib.hid hBw
      have hsk : Hid (∀ W, Below wr.heap.size wr W → W.cell? ⟨w.heap.size, 0, none⟩ = some (.slice a0 t.length c0) ∧ W.cell? ⟨w.heap.size, 9, none⟩ = some (.slice (some ⟨ob, off, none⟩) s.objects.length c8) ∧ W.cell? ⟨ob, off + a * 10 + 2, none⟩ = some (.string ((s.objects.map ObjD.inn)[a]?.getD ⟨#[]⟩))) := fun W hW => by
        have hbx := HBOX.out.below (HB.out.trans (hW.mono HB.out.size)) HBOX.out.1
        exact ⟨hbx.2 0 (by simp), hbx.2 9 (by simp), hin.out W (HBw.out.trans (hW.mono HBw.out.size)) a ha⟩
      have hcall := fun W (hW : Below wr.heap.size wr W) => HOF.out ((s.objects.map ObjD.inn)[a]?.getD ⟨#[]⟩) W (HBw.out.trans (hW.mono HBw.out.size))
      have hrn : roundN t s.objects i (s.objects.length - k) a = (match stepN t s.objects a with | none => false | some a' => if a' = i then true else roundN t s.objects i (s.objects.length - (k + 1)) a') := by
        rw [show s.objects.length - k = (s.objects.length - (k + 1)) + 1 by omega]; rfl
      have hst : stepN t s.objects a = if (ofN t 4 ((s.objects.map ObjD.inn)[a]?.getD ⟨#[]⟩)).2 = 0 then some ((ofN t 4 ((s.objects.map ObjD.inn)[a]?.getD ⟨#[]⟩)).1.toNat - 2) else none := rfl
      generalize (s.objects.map ObjD.inn)[a]?.getD ⟨#[]⟩ = nm at hsk hcall hst
      obtain ⟨z, er, hze⟩ : ∃ z er, ofN t 4 nm = (z, er) := ⟨_, _, rfl⟩
      rw [hze] at hcall hst
      simp only at hst
      have HCL := Lib.hid hcall
      have hi2 := hinv.out
      rw [hrn] at hi2
      have hal : (a : Int) < (s.objects.length : Int) := by omega
      have ha0 : (0 : Int) ≤ (a : Int) := by omega
      have hz := Lib.hid hze
      have hT := Lib.hid (And.intro hst hi2)
      clear hcall hrn hst hi2 hinv hB hBw hze
      go_wp2_with fail
      go_region_held3 (fun W => W.cell? ⟨w.heap.size, 0, none⟩ = some (.slice a0 t.length c0) ∧ W.cell? ⟨w.heap.size, 9, none⟩ = some (.slice (some ⟨ob, off, none⟩) s.objects.length c8) ∧ W.cell? ⟨ob, off + a * 10 + 2, none⟩ = some (.string nm)) (first | exact hsk.out _ (Below.refl _ wr).drew | exact hsk.out _ ((Below.refl _ wr).drew.trans hb)) (first | (go_at_call 88; (with_reducible refine (HCL.out _ (Below.refl _ wr).drew).mono ?_); rintro e w1 ⟨rfl, hb⟩))
      by_cases he : er = 0
      · subst he
        obtain ⟨x, hxm, hxk, hxz⟩ := ofN_ok hz.out
        obtain ⟨hx0, hx1⟩ := (HTAB.out x hxm).2 hxk
        rw [hxz] at hx0 hx1
        obtain ⟨j, rfl⟩ : ∃ j : Nat, z = ((j + 2 : Nat) : Int) := ⟨z.toNat - 2, by omega⟩
        have hj : j < s.objects.length := by omega
        obtain ⟨hst, hi2⟩ := hT.out
        rw [if_pos rfl, show ((j + 2 : Nat) : Int).toNat - 2 = j by omega] at hst
        rw [hst] at hi2
        have hi3 : r = if j = i then true else roundN t s.objects i (s.objects.length - (k + 1)) j := hi2
        have hb1 : Below W0.heap.size W0 w1 := HB.out.trans (((Below.refl _ wr).drew.trans hb).mono HB.out.size)
        have hsub : IntKind.i64.wrap (((j + 2 : Nat) : Int) - 2) = (j : Int) := by rw [IntKind.wrap_i64]; omega
        have HB1 := Lib.hid hb1
        have HBR := Lib.hid (HB0.out.trans (hb1.mono HB0.out.size))
        by_cases hji : j = i
        · have hfin : Hid (r = true) := by show _ = _; rw [hi3, if_pos hji]
          have hjb : ((j : Int) == (i : Int)) = true := by simp; omega
          clear hi2 hi3 hst hb hb1 hxm hxk hxz hx0 hx1 hT hz hji
          go_wp2_with fail
          go_ret
          exact ⟨ret_bool hfin.out.symm, HBR.out⟩
        · have hnx : Hid (r = roundN t s.objects i (s.objects.length - (k + 1)) j) := by show _ = _; rw [hi3, if_neg hji]
          have hjb : ((j : Int) == (i : Int)) = false := by simp; omega
          clear hi2 hi3 hst hb hb1 hxm hxk hxz hx0 hx1 hT hz hji
          go_wp2_with fail
          go_roundw
          case rel => exact ⟨k + 1, j, by omega, by go_num, rfl, hj, hnx, HB1.out⟩
          case measure => simp [intOf]; omega
      · have heb : (er != 0) = true := by simpa using he
        have hfin : Hid (r = false) := by
          obtain ⟨hst, hi2⟩ := hT.out
          rw [if_neg he] at hst
          rw [hst] at hi2
          exact hi2
        have HBR := Lib.hid (HBw.out.trans (((Below.refl _ wr).drew.trans hb).mono HBw.out.size))
        clear he hT hz hb
        go_wp2_with fail
        go_ret
        exact ⟨ret_bool hfin.out.symm, HBR.out⟩
    · have hfin : Hid (r = false) := by show _ = _; rw [hinv.out, show s.objects.length - k = 0 by omega]; rfl
      have HB := Lib.hid hBw
      clear hinv hB hBw
      go_wp2_with fail
      go_ret
      exact ⟨ret_bool hfin.out.symm, HB.out⟩
end Go.Proofs.YtblhpiebheommaaGreat
