/- The walks of clewref16's words, room, turned. Printed by gen-refa.py. -/
import Derived.Test.YtblhpiebheommaaGreatKinds22
import Derived.Test.YtblhpiebheommaaGreatKinds29
import Derived.Test.YtblhpiebheommaaGreatKindsChecksPart17
namespace Go.Proofs.YtblhpiebheommaaGreat
open Go.RowKit

set_option maxRecDepth 100000 in
set_option maxHeartbeats 2000000 in
theorem wordsR_calls (l : List ByteArray) (F : Nat → Prop) (w : World) (lv : Value) (hF : Inn F w) (hr : RdStrs F w l lv) :
    Calls Tryz.prog 54 #[lv] w (Gives w (wrongR (wordsW l))) := by
  obtain ⟨a, cap, rfl, hl, hc, ha⟩ := hr.opn
  unfold maxLen at hc
  have HI := Lib.hid (fun (s : ByteArray) (W : World) (hs : s.size ≤ maxLen) => isWordR_calls s W hs)
  have HFI := Lib.hid fineR_calls
  have HF := Lib.hid hF
  obtain ⟨q, hq⟩ : ∃ q, wordsW l = q := ⟨_, rfl⟩
  rw [hq]
  have HQ := Lib.hid hq
  have hA : Hid (∃ W0, w.alloc (.cells #[.int .i64 0, .string ⟨#[]⟩] 79) = W0 ∧ Below w.heap.size w W0 ∧ WrAt W0 w.heap.size (0, ⟨#[]⟩) ∧ w.heap.size < W0.heap.size) := ⟨_, rfl, (Below.refl _ w).alloc (Nat.le_refl _) _, wr_new _ _ _ _, by simp⟩
  clear hr hq hF
  go_enter Tryz.func54, Tryz.ntmps54
  go_upto_region 1 with fail
  obtain ⟨W0, hW0, hB0, hwr0, hz0⟩ := hA.out
  rw [hW0]
  have HB0 := Lib.hid hB0
  have hE : Hid (∀ W, Below W0.heap.size W0 W → WrAt W w.heap.size (0, ⟨#[]⟩) ∧ Below w.heap.size w W) := fun W hW => ⟨wr_kept hwr0 hz0 hW, hB0.trans (hW.mono hB0.size)⟩
  clear hA hW0 hB0 hz0 hwr0
  go_wp2_with fail
  go_loopw [3] (fun i wr => ∃ k : Nat, k ≤ l.length ∧ i = .int .i64 k ∧ Hid (q = wordsW (l.drop k)) ∧ Below W0.heap.size W0 wr) (fun i _ => l.length - (intOf i).toNat)
  case atStart => exact ⟨0, Nat.zero_le _, rfl, by show _ = _; rw [List.drop_zero]; exact HQ.out.symm, Below.refl _ _⟩
  case round =>
    obtain ⟨k, hk, rfl, hinv, hB⟩ := hrel
    obtain ⟨hwr, hbt⟩ := hE.out wr hB
    by_cases hlt : k < l.length
    · obtain ⟨b, off, rfl, hFb, hel⟩ := ha (by omega)
      obtain ⟨cs, ⟨h1, rfl⟩, -, hcell⟩ := hel wr (hbt.block b (HF.out b hFb)) k hlt
      have g0 := hcell 0 _ rfl
      simp only [Nat.add_zero, Nat.mul_one] at g0
      have hdk : wordsW (l.drop k) = seqW (if dec (IsWord l[k]) = true then fineW else (9, l[k])) (wordsW (l.drop (k + 1))) := by rw [List.drop_eq_getElem_cons hlt]; rfl
      have HI2 := HI.out l[k] wr h1
      have hi2 := hinv.out
      rw [hdk] at hi2
      generalize l[k] = x at g0 HI2 hi2 h1
      have HB := Lib.hid hB
      have HBT := Lib.hid hbt
      have HWR := Lib.hid hwr
      clear hel hcell ha hdk hinv h1 hB hwr hbt
      by_cases hw : IsWord x
      · rw [dec_true hw] at HI2 hi2
        have HI3 := Lib.hid HI2
        have hnx : Hid (q = wordsW (l.drop (k + 1))) := by show _ = _; rw [hi2]; exact seqW_fine rfl
        clear HI2 hi2 hw
        go_wp2_with (go_at_call 77; refine HI3.out.mono ?_; rintro e w1 ⟨rfl, rfl⟩)
        go_roundw
        case rel => exact ⟨k + 1, by omega, by go_num, hnx, HB.out⟩
        case measure => simp [intOf]; omega
      · rw [dec_false hw] at HI2 hi2
        have HI3 := Lib.hid HI2
        have hfin : Hid (q = (9, x)) := by show _ = _; rw [hi2]; exact seqW_bad (show ¬ ((9 : Int) = 0) by decide)
        clear HI2 hi2 hw
        obtain ⟨⟨f0, f1⟩, z0, z1⟩ := HWR.out
        go_wp2_with (go_at_call 77; refine HI3.out.mono ?_; rintro e w1 ⟨rfl, rfl⟩)
        exact bodyPost_ret (v := wrongR (9, x)) (by simp [results, Tryz.results54, go_sem, wrongR, f0, f1]; try rfl) rfl ⟨by rw [hfin.out], two_set HBT.out (Nat.le_refl _)⟩
    · have hfin : Hid (q = fineW) := by show _ = _; rw [hinv.out, List.drop_eq_nil_of_le (by omega)]; rfl
      have HB := Lib.hid hB
      clear hinv hB ha hwr hbt
      go_wp2_with (go_at_call 52; refine (HFI.out _).mono ?_; rintro e w2 ⟨rfl, hb2⟩; obtain ⟨⟨⟨f0, f1⟩, z0, z1⟩, hbw⟩ := hE.out w2 (HB.out.trans (hb2.mono HB.out.size)); unfold wrongR fineW)
      exact bodyPost_ret (v := wrongR fineW) (by simp [results, Tryz.results54, go_sem, wrongR, fineW, f0, f1]; try rfl) rfl ⟨by rw [hfin.out], two_set hbw (Nat.le_refl _)⟩

set_option maxRecDepth 100000 in
set_option maxHeartbeats 4000000 in
theorem roomR_calls (t : List NameD) (s : SrcD) (n : ByteArray) (F : Nat → Prop) (w : World) (tv : Value) (ss : List Value) (hF : Inn F w) (htab : TabOk t s.funcs s.objects.length) (h0 : RdNames F w t tv) (h1 : Holds.src.R F w s ss) :
    Calls Tryz.prog 25 #[tv, .agg ss.toArray, .string n] w (Gives w (wrongR (roomW t s.objects n))) := by
  have hc1 := fun (W : World) (hW : Below w.heap.size w W) => ofW_calls t 4 n F W tv (hF.below hW) (RdL.below h0 hF hW (Nat.le_refl _))
  have hc2 := fun (W : World) (hW : Below w.heap.size w W) => ofR_calls t 4 n F W tv (hF.below hW) (RdL.below h0 hF hW (Nat.le_refl _))
  obtain ⟨a0, c0, rfl⟩ := h0.shape
  obtain ⟨a5, c5, a6, c6, a7, c7, a8, c8, a9, c9, a10, c10, a11, c11, a12, c12, rfl, g5, g6, g7, g8, g9, g10, g11, g12⟩ := src_shape h1
  obtain ⟨q, hq⟩ : ∃ q, roomW t s.objects n = q := ⟨_, rfl⟩
  rw [hq]
  unfold roomW at hq
  unfold ofW at hc1
  obtain ⟨z, er, hze⟩ : ∃ z er, ofN t 4 n = (z, er) := ⟨_, _, rfl⟩
  rw [hze] at hq hc1 hc2
  simp only at hq hc1 hc2
  clear h0 h1 g5 g6 g7 g9 g10 g11 g12
  by_cases hz : er = 0
  · subst hz
    obtain ⟨x, hxm, hxk, hxz⟩ := ofN_ok hze
    obtain ⟨hx0, hx1⟩ := (htab x hxm).2 hxk
    rw [hxz] at hx0 hx1
    obtain ⟨j, rfl⟩ : ∃ j : Nat, z = ((j + 2 : Nat) : Int) := ⟨z.toNat - 2, by omega⟩
    have hj : j < s.objects.length := by omega
    obtain ⟨_, _, he8, hl8, hc8, h8⟩ := g8.opn
    cases he8
    obtain ⟨ob, off, rfl, hFob, hel⟩ := h8 (by omega)
    have hrd : Hid (∀ W, Below w.heap.size w W → W.cell? ⟨ob, off + j * 10 + 4, none⟩ = some (.bool (s.objects[j].room))) := fun W hW => by
      obtain ⟨cs, ⟨-, -, -, -, v5, v6, v7, v8, v9, rfl, -⟩, -, hcell⟩ := hel W (hW.block ob (hF ob hFob)) j hj
      exact hcell 4 _ rfl
    have hge : ((s.objects.map ObjD.room)[((j + 2 : Nat) : Int).toNat - 2]?).getD false = s.objects[j].room := by rw [show ((j + 2 : Nat) : Int).toNat - 2 = j by omega]; simp [hj]
    rw [if_pos rfl, hge] at hq
    rw [if_pos rfl] at hc1
    have HC1 := Lib.hid hc1
    have HC2 := Lib.hid hc2
    have HQ := Lib.hid hq
    have hsub : IntKind.i64.wrap (((j + 2 : Nat) : Int) - 2) = (j : Int) := by rw [IntKind.wrap_i64]; unfold maxLen at hc8; omega
    have hjl : (j : Int) < (s.objects.length : Int) := by omega
    have hj0 : (0 : Int) ≤ (j : Int) := by omega
    have hjb : decide ((j : Int) ≥ (s.objects.length : Int)) = false := by simp; omega
    have hj2 : decide (((j + 2 : Nat) : Int) < 2) = false := by simp; omega
    have hcap : c8 ≤ 9223372036854775807 := by unfold maxLen at hc8; omega
    clear hel h8 hxm hxk hxz hx0 hx1 htab g8 hze hc8 hge hc1 hc2 hq
    have hA : Hid (∃ W0, ((w.alloc (.cells #[.string s.title, .string s.author, .string s.start, .int .i64 s.release, .int .i64 s.most, .slice a5 s.flags.length c5, .slice a6 s.props.length c6, .slice a7 s.globals.length c7, .slice (some ⟨ob, off, none⟩) s.objects.length c8, .slice a9 s.verbs.length c9, .slice a10 s.rules.length c10, .slice a11 s.funcs.length c11, .slice a12 s.daemons.length c12] 29)).alloc (.cells #[.int .i64 0, .string ⟨#[]⟩] 79)) = W0 ∧ Below w.heap.size w W0 ∧ W0.heap.size = w.heap.size + 1 + 1 ∧ BoxAt W0 w.heap.size [.string s.title, .string s.author, .string s.start, .int .i64 s.release, .int .i64 s.most, .slice a5 s.flags.length c5, .slice a6 s.props.length c6, .slice a7 s.globals.length c7, .slice (some ⟨ob, off, none⟩) s.objects.length c8, .slice a9 s.verbs.length c9, .slice a10 s.rules.length c10, .slice a11 s.funcs.length c11, .slice a12 s.daemons.length c12] ∧ WrAt W0 (w.heap.size + 1) (0, ⟨#[]⟩)) := by
      refine ⟨_, rfl, ((Below.refl _ w).alloc (Nat.le_refl _) _).alloc (by simp) _, by simp, ?_, ?_⟩
      · exact (BoxAt.new w [.string s.title, .string s.author, .string s.start, .int .i64 s.release, .int .i64 s.most, .slice a5 s.flags.length c5, .slice a6 s.props.length c6, .slice a7 s.globals.length c7, .slice (some ⟨ob, off, none⟩) s.objects.length c8, .slice a9 s.verbs.length c9, .slice a10 s.rules.length c10, .slice a11 s.funcs.length c11, .slice a12 s.daemons.length c12] 29).below ((Below.refl _ _).alloc (Nat.le_refl _) _) (by simp)
      · have := wr_new (w.alloc (.cells #[.string s.title, .string s.author, .string s.start, .int .i64 s.release, .int .i64 s.most, .slice a5 s.flags.length c5, .slice a6 s.props.length c6, .slice a7 s.globals.length c7, .slice (some ⟨ob, off, none⟩) s.objects.length c8, .slice a9 s.verbs.length c9, .slice a10 s.rules.length c10, .slice a11 s.funcs.length c11, .slice a12 s.daemons.length c12] 29)) 0 ⟨#[]⟩ 79
        rw [show (w.alloc (.cells #[.string s.title, .string s.author, .string s.start, .int .i64 s.release, .int .i64 s.most, .slice a5 s.flags.length c5, .slice a6 s.props.length c6, .slice a7 s.globals.length c7, .slice (some ⟨ob, off, none⟩) s.objects.length c8, .slice a9 s.verbs.length c9, .slice a10 s.rules.length c10, .slice a11 s.funcs.length c11, .slice a12 s.daemons.length c12] 29)).heap.size = w.heap.size + 1 by simp] at this
        exact this
    generalize hR : s.objects[j].room = R at hrd HQ
    clear hR
    go_enter Tryz.func25, Tryz.ntmps25
    go_upto_region 1 with fail
    obtain ⟨W0, hW0, hB0, hz0, hsb, hwr0⟩ := hA.out
    rw [hW0]
    have HB0 := Lib.hid hB0
    have HZ0 := Lib.hid hz0
    have hE : Hid (∀ W, Below W0.heap.size W0 W → BoxAt W w.heap.size [.string s.title, .string s.author, .string s.start, .int .i64 s.release, .int .i64 s.most, .slice a5 s.flags.length c5, .slice a6 s.props.length c6, .slice a7 s.globals.length c7, .slice (some ⟨ob, off, none⟩) s.objects.length c8, .slice a9 s.verbs.length c9, .slice a10 s.rules.length c10, .slice a11 s.funcs.length c11, .slice a12 s.daemons.length c12] ∧ WrAt W (w.heap.size + 1) (0, ⟨#[]⟩) ∧ Below w.heap.size w W) := fun W hW => ⟨hsb.below hW (by omega), wr_kept hwr0 (by omega) hW, hB0.trans (hW.mono hB0.size)⟩
    clear hA hW0 hB0 hz0 hsb hwr0
    go_upto_region 2 with (go_at_call 50; refine (HC1.out W0 HB0.out).mono ?_; rintro e w1 ⟨rfl, hb1⟩; unfold wrongR fineW)
    have hAb : Hid (∃ wb b7, w1.alloc (.cells #[.int .i64 0, .string ⟨#[]⟩] 79) = wb ∧ w1.heap.size = b7 ∧ Below W0.heap.size W0 wb ∧ W0.heap.size ≤ b7 ∧ b7 < wb.heap.size ∧ WrAt wb b7 (0, ⟨#[]⟩)) := ⟨_, _, rfl, rfl, hb1.alloc hb1.size _, hb1.size, by simp, wr_new _ _ _ _⟩
    obtain ⟨wb, b7, hwb, hb7, hBw, hz1, hz2, hwr7⟩ := hAb.out
    rw [hwb]
    simp only [hb7]
    clear hAb hwb hb7 hb1
    go_upto_region 3 with (go_at_call 51; refine (HC2.out wb (HB0.out.trans (hBw.mono HB0.out.size))).mono ?_; rintro e w2 ⟨rfl, hb2⟩)
    obtain ⟨hbx, ⟨⟨f0, f1⟩, z0, z1⟩, hbt⟩ := hE.out w2 (hBw.trans (hb2.mono hBw.size))
    obtain ⟨⟨k0, k1⟩, y0, y1⟩ := wr_kept hwr7 hz2 hb2
    have x8 := hbx.2 8 (by simp)
    simp only [List.getElem?_cons_succ, List.getElem?_cons_zero] at x8
    have r4 := hrd.out w2 hbt
    have HBT := Lib.hid hbt
    clear hbx hbt hBw hb2 hwr7
    cases R
    · go_wp2_with fail
      exact bodyPost_ret (v := wrongR (12, n)) (by simp [results, Tryz.results25, go_sem, wrongR, f0, f1]; try rfl) rfl ⟨by rw [← HQ.out]; rfl, two_set HBT.out (by omega)⟩
    · go_wp2_with fail
      exact bodyPost_ret (v := wrongR fineW) (by simp [results, Tryz.results25, go_sem, wrongR, fineW, f0, f1]; try rfl) rfl ⟨by rw [← HQ.out]; rfl, two_set HBT.out (by omega)⟩
  · rw [if_neg hz] at hq hc1
    have HC1 := Lib.hid hc1
    have HC2 := Lib.hid hc2
    have HQ := Lib.hid hq
    have e0 : (er == 0) = false := by simpa using hz
    clear hz hc1 hc2 hq htab g8 hze
    have hA : Hid (∃ W0, ((w.alloc (.cells #[.string s.title, .string s.author, .string s.start, .int .i64 s.release, .int .i64 s.most, .slice a5 s.flags.length c5, .slice a6 s.props.length c6, .slice a7 s.globals.length c7, .slice a8 s.objects.length c8, .slice a9 s.verbs.length c9, .slice a10 s.rules.length c10, .slice a11 s.funcs.length c11, .slice a12 s.daemons.length c12] 29)).alloc (.cells #[.int .i64 0, .string ⟨#[]⟩] 79)) = W0 ∧ Below w.heap.size w W0 ∧ W0.heap.size = w.heap.size + 1 + 1 ∧ BoxAt W0 w.heap.size [.string s.title, .string s.author, .string s.start, .int .i64 s.release, .int .i64 s.most, .slice a5 s.flags.length c5, .slice a6 s.props.length c6, .slice a7 s.globals.length c7, .slice a8 s.objects.length c8, .slice a9 s.verbs.length c9, .slice a10 s.rules.length c10, .slice a11 s.funcs.length c11, .slice a12 s.daemons.length c12] ∧ WrAt W0 (w.heap.size + 1) (0, ⟨#[]⟩)) := by
      refine ⟨_, rfl, ((Below.refl _ w).alloc (Nat.le_refl _) _).alloc (by simp) _, by simp, ?_, ?_⟩
      · exact (BoxAt.new w [.string s.title, .string s.author, .string s.start, .int .i64 s.release, .int .i64 s.most, .slice a5 s.flags.length c5, .slice a6 s.props.length c6, .slice a7 s.globals.length c7, .slice a8 s.objects.length c8, .slice a9 s.verbs.length c9, .slice a10 s.rules.length c10, .slice a11 s.funcs.length c11, .slice a12 s.daemons.length c12] 29).below ((Below.refl _ _).alloc (Nat.le_refl _) _) (by simp)
      · have := wr_new (w.alloc (.cells #[.string s.title, .string s.author, .string s.start, .int .i64 s.release, .int .i64 s.most, .slice a5 s.flags.length c5, .slice a6 s.props.length c6, .slice a7 s.globals.length c7, .slice a8 s.objects.length c8, .slice a9 s.verbs.length c9, .slice a10 s.rules.length c10, .slice a11 s.funcs.length c11, .slice a12 s.daemons.length c12] 29)) 0 ⟨#[]⟩ 79
        rw [show (w.alloc (.cells #[.string s.title, .string s.author, .string s.start, .int .i64 s.release, .int .i64 s.most, .slice a5 s.flags.length c5, .slice a6 s.props.length c6, .slice a7 s.globals.length c7, .slice a8 s.objects.length c8, .slice a9 s.verbs.length c9, .slice a10 s.rules.length c10, .slice a11 s.funcs.length c11, .slice a12 s.daemons.length c12] 29)).heap.size = w.heap.size + 1 by simp] at this
        exact this
    go_enter Tryz.func25, Tryz.ntmps25
    go_upto_region 1 with fail
    obtain ⟨W0, hW0, hB0, hz0, hsb, hwr0⟩ := hA.out
    rw [hW0]
    have HB0 := Lib.hid hB0
    have HZ0 := Lib.hid hz0
    have hE : Hid (∀ W, Below W0.heap.size W0 W → BoxAt W w.heap.size [.string s.title, .string s.author, .string s.start, .int .i64 s.release, .int .i64 s.most, .slice a5 s.flags.length c5, .slice a6 s.props.length c6, .slice a7 s.globals.length c7, .slice a8 s.objects.length c8, .slice a9 s.verbs.length c9, .slice a10 s.rules.length c10, .slice a11 s.funcs.length c11, .slice a12 s.daemons.length c12] ∧ WrAt W (w.heap.size + 1) (0, ⟨#[]⟩) ∧ Below w.heap.size w W) := fun W hW => ⟨hsb.below hW (by omega), wr_kept hwr0 (by omega) hW, hB0.trans (hW.mono hB0.size)⟩
    clear hA hW0 hB0 hz0 hsb hwr0
    go_upto_region 2 with (go_at_call 50; refine (HC1.out W0 HB0.out).mono ?_; rintro e w1 ⟨rfl, hb1⟩; unfold wrongR)
    have hAb : Hid (∃ wb b7, w1.alloc (.cells #[.int .i64 er, .string n] 79) = wb ∧ w1.heap.size = b7 ∧ Below W0.heap.size W0 wb ∧ W0.heap.size ≤ b7 ∧ b7 < wb.heap.size ∧ WrAt wb b7 (er, n)) := ⟨_, _, rfl, rfl, hb1.alloc hb1.size _, hb1.size, by simp, wr_new _ _ _ _⟩
    obtain ⟨wb, b7, hwb, hb7, hBw, hz1, hz2, hwr7⟩ := hAb.out
    rw [hwb]
    simp only [hb7]
    clear hAb hwb hb7 hb1
    go_upto_region 3 with (go_at_call 51; refine (HC2.out wb (HB0.out.trans (hBw.mono HB0.out.size))).mono ?_; rintro e w2 ⟨rfl, hb2⟩)
    obtain ⟨hbx, ⟨⟨f0, f1⟩, z0, z1⟩, hbt⟩ := hE.out w2 (hBw.trans (hb2.mono hBw.size))
    obtain ⟨⟨k0, k1⟩, y0, y1⟩ := wr_kept hwr7 hz2 hb2
    have HBT := Lib.hid hbt
    clear hbx hbt hBw hb2 hwr7
    go_wp2_with fail
    exact bodyPost_ret (v := wrongR (er, n)) (by simp [results, Tryz.results25, go_sem, wrongR, f0, f1]; try rfl) rfl ⟨by rw [← HQ.out], two_set HBT.out (by omega)⟩

set_option maxRecDepth 100000 in
set_option maxHeartbeats 4000000 in
theorem turnedR_calls (t : List NameD) (s : SrcD) (i : Nat) (F : Nat → Prop) (w : World) (tv : Value) (ss : List Value) (hF : Inn F w) (htab : TabOk t s.funcs s.objects.length) (h0 : RdNames F w t tv) (h1 : Holds.src.R F w s ss) (hne : (ofN t 4 ⟨#[]⟩).2 ≠ 0) (hi : i < s.objects.length) (hsm : s.objects.length ≤ 1000000) :
    Calls Tryz.prog 53 #[tv, .agg ss.toArray, .int .i64 i] w (Gives w (.bool (roundN t s.objects i (s.objects.length + 1) i))) := by
  have HOF := Lib.hid (fun (n : ByteArray) W (hW : Below w.heap.size w W) => ofR_calls t 4 n F W tv (hF.below hW) (RdL.below h0 hF hW (Nat.le_refl _)))
  obtain ⟨a0, c0, rfl⟩ := h0.shape
  obtain ⟨a5, c5, a6, c6, a7, c7, a8, c8, a9, c9, a10, c10, a11, c11, a12, c12, rfl, g5, g6, g7, g8, g9, g10, g11, g12⟩ := src_shape h1
  obtain ⟨_, _, he8, hl8, hc8, h8⟩ := g8.opn
  cases he8
  obtain ⟨ob, off, rfl, hFob, hel⟩ := h8 (by omega)
  have HF := Lib.hid hF
  have HTAB := Lib.hid htab
  have HNE := Lib.hid hne
  have hin : Hid (∀ W, Below w.heap.size w W → ∀ j (hj : j < s.objects.length), W.cell? ⟨ob, off + j * 10 + 2, none⟩ = some (.string ((s.objects.map ObjD.inn)[j]?.getD ⟨#[]⟩))) := fun W hW j hj => by
    obtain ⟨cs, ⟨-, -, -, -, v5, v6, v7, v8, v9, rfl, -⟩, -, hcell⟩ := hel W (hW.block ob (hF ob hFob)) j hj
    have := hcell 2 _ rfl
    rw [this]
    simp [hj]
  obtain ⟨r, hr⟩ : ∃ r, roundN t s.objects i (s.objects.length + 1) i = r := ⟨_, rfl⟩
  rw [hr]
  have HR := Lib.hid hr
  have HI := Lib.hid hi
  have hcap : c8 ≤ 9223372036854775807 := by unfold maxLen at hc8; omega
  have hA : Hid (∃ W0, w.alloc (.cells #[.string s.title, .string s.author, .string s.start, .int .i64 s.release, .int .i64 s.most, .slice a5 s.flags.length c5, .slice a6 s.props.length c6, .slice a7 s.globals.length c7, .slice (some ⟨ob, off, none⟩) s.objects.length c8, .slice a9 s.verbs.length c9, .slice a10 s.rules.length c10, .slice a11 s.funcs.length c11, .slice a12 s.daemons.length c12] 29) = W0 ∧ Below w.heap.size w W0 ∧ BoxAt W0 w.heap.size [.string s.title, .string s.author, .string s.start, .int .i64 s.release, .int .i64 s.most, .slice a5 s.flags.length c5, .slice a6 s.props.length c6, .slice a7 s.globals.length c7, .slice (some ⟨ob, off, none⟩) s.objects.length c8, .slice a9 s.verbs.length c9, .slice a10 s.rules.length c10, .slice a11 s.funcs.length c11, .slice a12 s.daemons.length c12] ∧ w.heap.size < W0.heap.size) := ⟨_, rfl, (Below.refl _ w).alloc (Nat.le_refl _) _, BoxAt.new _ _ _, by simp⟩
  clear h0 h1 hr hF htab g5 g6 g7 g8 g9 g10 g11 g12 hel h8 hc8 hi hne
  go_enter Tryz.func53, Tryz.ntmps53
  go_upto_region 1 with fail
  obtain ⟨W0, hW0, hB0, hbox, hz0⟩ := hA.out
  rw [hW0]
  have HB0 := Lib.hid hB0
  have HBOX := Lib.hid hbox
  clear hA hW0 hB0 hbox
  go_wp2_with fail
  go_loopw [7, 8] (fun at' n wr => ∃ (k a : Nat), k ≤ s.objects.length + 1 ∧ n = .int .i64 k ∧ at' = .int .i64 a ∧ a < s.objects.length ∧ Hid (r = roundN t s.objects i (s.objects.length + 1 - k) a) ∧ Below W0.heap.size W0 wr) (fun _ n _ => s.objects.length + 1 - (intOf n).toNat)
  case atStart => exact ⟨0, i, Nat.zero_le _, rfl, rfl, HI.out, by show _ = _; exact HR.out.symm, Below.refl _ _⟩
  case round =>
    obtain ⟨k, a, hk, rfl, rfl, ha, hinv, hB⟩ := hrel
    have hBw : Below w.heap.size w wr := HB0.out.trans (hB.mono HB0.out.size)
    have HB := Lib.hid hB
    have HBw := Lib.hid hBw
    have hsk : Hid (∀ W, Below wr.heap.size wr W → W.cell? ⟨w.heap.size, 8, none⟩ = some (.slice (some ⟨ob, off, none⟩) s.objects.length c8) ∧ W.cell? ⟨ob, off + a * 10 + 2, none⟩ = some (.string ((s.objects.map ObjD.inn)[a]?.getD ⟨#[]⟩))) := fun W hW => by
      have hbx := HBOX.out.below (HB.out.trans (hW.mono HB.out.size)) HBOX.out.1
      exact ⟨hbx.2 8 (by simp), hin.out W (HBw.out.trans (hW.mono HBw.out.size)) a ha⟩
    obtain ⟨x8, xi⟩ := hsk.out wr (Below.refl _ _)
    by_cases hlt : k < s.objects.length + 1
    · have hcall := fun W (hW : Below wr.heap.size wr W) => HOF.out ((s.objects.map ObjD.inn)[a]?.getD ⟨#[]⟩) W (HBw.out.trans (hW.mono HBw.out.size))
      have hrn : roundN t s.objects i (s.objects.length + 1 - k) a = (match stepN t s.objects a with | none => false | some a' => if a' = i then true else roundN t s.objects i (s.objects.length + 1 - (k + 1)) a') := by
        rw [show s.objects.length + 1 - k = (s.objects.length + 1 - (k + 1)) + 1 by omega]; rfl
      have hst : stepN t s.objects a = if (ofN t 4 ((s.objects.map ObjD.inn)[a]?.getD ⟨#[]⟩)).2 = 0 then some ((ofN t 4 ((s.objects.map ObjD.inn)[a]?.getD ⟨#[]⟩)).1.toNat - 2) else none := rfl
      generalize (s.objects.map ObjD.inn)[a]?.getD ⟨#[]⟩ = nm at hsk hcall hst xi
      have hnm : (ofN t 4 nm).2 = 0 → nm.toList.isEmpty = false := fun h => by
        rw [emp_str]
        exact decide_eq_false fun he => HNE.out (by rw [← he]; exact h)
      obtain ⟨z, er, hze⟩ : ∃ z er, ofN t 4 nm = (z, er) := ⟨_, _, rfl⟩
      rw [hze] at hcall hst hnm
      simp only at hst hnm
      have HCL := Lib.hid hcall
      have hi2 := hinv.out
      rw [hrn] at hi2
      have hal : (a : Int) < (s.objects.length : Int) := by omega
      have ha0 : (0 : Int) ≤ (a : Int) := by omega
      have hkl : decide ((k : Int) ≤ (s.objects.length : Int)) = true := by simp; omega
      have hz := Lib.hid hze
      have hT := Lib.hid (And.intro hst hi2)
      clear hcall hrn hst hi2 hinv hB hBw hze
      by_cases he : er = 0
      · subst he
        have hn0 := hnm rfl
        obtain ⟨x, hxm, hxk, hxz⟩ := ofN_ok hz.out
        obtain ⟨hx0, hx1⟩ := (HTAB.out x hxm).2 hxk
        rw [hxz] at hx0 hx1
        obtain ⟨j, rfl⟩ : ∃ j : Nat, z = ((j + 2 : Nat) : Int) := ⟨z.toNat - 2, by omega⟩
        have hj : j < s.objects.length := by omega
        obtain ⟨hst, hi2⟩ := hT.out
        rw [if_pos rfl, show ((j + 2 : Nat) : Int).toNat - 2 = j by omega] at hst
        rw [hst] at hi2
        have hi3 : r = if j = i then true else roundN t s.objects i (s.objects.length + 1 - (k + 1)) j := hi2
        have hsub : IntKind.i64.wrap (((j + 2 : Nat) : Int) - 2) = (j : Int) := by rw [IntKind.wrap_i64]; omega
        have hjb : decide ((j : Int) ≥ (s.objects.length : Int)) = false := by simp; omega
        have hj2 : decide (((j + 2 : Nat) : Int) < 2) = false := by simp; omega
        by_cases hji : j = i
        · have hfin : Hid (r = true) := by show _ = _; rw [hi3, if_pos hji]
          have hjb2 : ((j : Int) == (i : Int)) = true := by simp; omega
          clear hi2 hi3 hst hxm hxk hxz hx0 hx1 hT hz hji hnm
          go_wp2_with (go_at_call 51; refine (HCL.out wr (Below.refl _ _)).mono ?_; rintro e w1 ⟨rfl, hb⟩; obtain ⟨x8', xi'⟩ := hsk.out w1 hb)
          go_ret
          exact ⟨ret_bool hfin.out.symm, HBw.out.trans (hb.mono HBw.out.size)⟩
        · have hnx : Hid (r = roundN t s.objects i (s.objects.length + 1 - (k + 1)) j) := by show _ = _; rw [hi3, if_neg hji]
          have hjb2 : ((j : Int) == (i : Int)) = false := by simp; omega
          clear hi2 hi3 hst hxm hxk hxz hx0 hx1 hT hz hji hnm
          go_wp2_with (go_at_call 51; refine (HCL.out wr (Below.refl _ _)).mono ?_; rintro e w1 ⟨rfl, hb⟩; obtain ⟨x8', xi'⟩ := hsk.out w1 hb)
          go_roundw
          case rel => exact ⟨k + 1, j, by omega, by go_num, rfl, hj, hnx, HB.out.trans (hb.mono HB.out.size)⟩
          case measure => simp [intOf]; omega
      · have heb : (er != 0) = true := by simpa using he
        have hfin : Hid (r = false) := by
          obtain ⟨hst, hi2⟩ := hT.out
          rw [if_neg he] at hst
          rw [hst] at hi2
          exact hi2
        clear he hT hz hnm
        generalize hem : nm.toList.isEmpty = em
        cases em
        all_goals (
          go_wp2_with (go_at_call 51; refine (HCL.out wr (Below.refl _ _)).mono ?_; rintro e w1 ⟨rfl, hb⟩; obtain ⟨x8', xi'⟩ := hsk.out w1 hb)
          go_ret
          exact ⟨ret_bool hfin.out.symm, HBw.out.trans (hb.mono HBw.out.size)⟩)
    · have hfin : Hid (r = false) := by show _ = _; rw [hinv.out, show s.objects.length + 1 - k = 0 by omega]; rfl
      have hkl : decide ((k : Int) ≤ (s.objects.length : Int)) = false := by simp; omega
      have hBO := Lib.hid hBw
      clear hinv hB hBw
      go_wp2_with fail
      go_ret
      exact ⟨ret_bool hfin.out.symm, hBO.out⟩
end Go.Proofs.YtblhpiebheommaaGreat
