/- The walk of clewref16's Check. Printed by gen-refg.py. -/
import Derived.Test.YtblhpiebheommaaGreatRefF
namespace Go.Proofs.YtblhpiebheommaaGreat
open Go.RowKit

set_option maxRecDepth 100000 in
set_option maxHeartbeats 16000000 in
theorem checkR_calls (t : List NameD) (s : SrcD) (F : Nat → Prop) (w : World) (tv : Value) (ss : List Value) (hF : Inn F w) (htab : TabOk t s.funcs s.objects.length) (h0 : RdNames F w t tv) (h1 : Holds.src.R F w s ss) (hne : (ofN t 4 ⟨#[]⟩).2 ≠ 0) (hsm : s.objects.length ≤ 1000000)
    (hex : ∀ o ∈ s.objects, ∀ x ∈ o.exits, x.cond.length ≤ 1) (hru : ∀ r ∈ s.rules, r.cond.length ≤ 1 ∧ St.lones r.body ∧ St.sizes r.body ≤ 1000000) (hfu : ∀ f ∈ s.funcs, f.params.length ≤ 1000 ∧ St.lones f.body ∧ St.sizes f.body ≤ 1000000) (hda : ∀ f ∈ s.daemons, St.lones f.body ∧ St.sizes f.body ≤ 1000000) :
    Calls Tryz.prog 8 #[.agg ss.toArray, tv] w (Gives w (faultV (checkW t s) (firstBad (checkW t s) (pairsOf s parts6)))) := by
  have HRM := Lib.hid (fun (n : ByteArray) (W : World) (hW : Below w.heap.size w W) => roomR_calls t s n F W tv ss (hF.below hW) htab (RdL.below h0 hF hW (Nat.le_refl _)) (Holds.below _ h1 hF hW (Nat.le_refl _)))
  have HOB := Lib.hid (fun (i : Nat) (hi : i < s.objects.length) (W : World) (hW : Below w.heap.size w W) => objectR_calls t s i s.objects[i] F W tv ss (hF.below hW) htab (RdL.below h0 hF hW (Nat.le_refl _)) (Holds.below _ h1 hF hW (Nat.le_refl _)) hne (List.getElem?_eq_getElem hi) (hex _ (List.getElem_mem hi)) hsm)
  have HVE := Lib.hid (fun (o : VerbD) (_ : o ∈ s.verbs) (rs : List Value) (hr : Holds.verb.R F w o rs) (W : World) (hW : Below w.heap.size w W) => verbR_calls o F W rs (hF.below hW) (Holds.below _ hr hF hW (Nat.le_refl _)))
  have HRU := Lib.hid (fun (o : RuleD) (ho : o ∈ s.rules) (rs : List Value) (hr : Holds.rule.R F w o rs) (W : World) (hW : Below w.heap.size w W) => ruleR_calls t s o F W tv ss rs (hF.below hW) htab (RdL.below h0 hF hW (Nat.le_refl _)) (Holds.below _ h1 hF hW (Nat.le_refl _)) (Holds.below _ hr hF hW (Nat.le_refl _)) (hru o ho).1 (hru o ho).2.1 (hru o ho).2.2)
  have HFU := Lib.hid (fun (o : FuncD) (ho : o ∈ s.funcs) (rs : List Value) (hr : Holds.fnc.R F w o rs) (W : World) (hW : Below w.heap.size w W) => functionR_calls t s o F W tv ss rs (hF.below hW) htab (RdL.below h0 hF hW (Nat.le_refl _)) (Holds.below _ h1 hF hW (Nat.le_refl _)) (Holds.below _ hr hF hW (Nat.le_refl _)) (hfu o ho).2.1 (hfu o ho).2.2 (hfu o ho).1)
  have HDA := Lib.hid (fun (o : FuncD) (ho : o ∈ s.daemons) (v : Value) (hr : Sts F w o.body v) (W : World) (hW : Below w.heap.size w W) => rBlock_calls t s htab o.body [] 9 0 F W tv (.slice none 0 0) v ss (hF.below hW) (hda o ho).1 (hda o ho).2 (RdL.below h0 hF hW (Nat.le_refl _)) (Holds.below _ h1 hF hW (Nat.le_refl _)) (RdL.nil _ _ _ _ _ _ (Nat.zero_le _)) (Sts.below hr hF hW (Nat.le_refl _)) (by omega) (by omega) (by simp))
  have HFA := Lib.hid fault_calls
  obtain ⟨a0, c0, rfl⟩ := h0.shape
  obtain ⟨a5, c5, a6, c6, a7, c7, a8, c8, a9, c9, a10, c10, a11, c11, a12, c12, rfl, g5, g6, g7, g8, g9, g10, g11, g12⟩ := src_shape h1
  have HF := Lib.hid hF
  have G5 := Lib.hid g8
  have G6 := Lib.hid g9
  have G7 := Lib.hid g10
  have G8 := Lib.hid g11
  have G9 := Lib.hid g12
  obtain ⟨R, hR⟩ : ∃ R, firstBad (checkW t s) (pairsOf s parts6) = R := ⟨_, rfl⟩
  rw [hR]
  have HR0 : Hid (R = if (checkW t s 1 0).1 = 0 then firstBad (checkW t s) ((((List.range s.objects.length).drop 0).map fun i => ((5 : Int), i)) ++ pairsOf s [6, 7, 8, 9]) else some ((1 : Int), 0)) := hR.symm
  obtain ⟨W1, hW1⟩ : ∃ W1, w.alloc (.cells #[.string s.title, .string s.author, .string s.start, .int .i64 s.release, .int .i64 s.most, .slice a5 s.flags.length c5, .slice a6 s.props.length c6, .slice a7 s.globals.length c7, .slice a8 s.objects.length c8, .slice a9 s.verbs.length c9, .slice a10 s.rules.length c10, .slice a11 s.funcs.length c11, .slice a12 s.daemons.length c12] 29) = W1 := ⟨_, rfl⟩
  have hs1 : W1.heap.size = w.heap.size + 1 := by rw [← hW1]; simp
  have hb1 : Below w.heap.size w W1 := by rw [← hW1]; exact (Below.refl _ _).alloc (Nat.le_refl _) _
  have hx1 : BoxAt W1 w.heap.size [.string s.title, .string s.author, .string s.start, .int .i64 s.release, .int .i64 s.most, .slice a5 s.flags.length c5, .slice a6 s.props.length c6, .slice a7 s.globals.length c7, .slice a8 s.objects.length c8, .slice a9 s.verbs.length c9, .slice a10 s.rules.length c10, .slice a11 s.funcs.length c11, .slice a12 s.daemons.length c12] := by rw [← hW1]; exact BoxAt.new _ _ _
  obtain ⟨W2, hW2⟩ : ∃ W2, W1.alloc (.cells #[.int .i64 0, .int .i64 0, .int .i64 0, .string ⟨#[]⟩] 35) = W2 := ⟨_, rfl⟩
  have hs2 : W2.heap.size = w.heap.size + 1 + 1 := by rw [← hW2]; simp; exact hs1
  have hb2 : Below W1.heap.size W1 W2 := by rw [← hW2]; exact (Below.refl _ _).alloc (Nat.le_refl _) _
  have hx2 : FaultAt W2 W1.heap.size := by rw [← hW2]; exact fault_new _
  rw [hs1] at hx2
  have hE : Hid (∀ W, Below W2.heap.size W2 W → BoxAt W (w.heap.size) [.string s.title, .string s.author, .string s.start, .int .i64 s.release, .int .i64 s.most, .slice a5 s.flags.length c5, .slice a6 s.props.length c6, .slice a7 s.globals.length c7, .slice a8 s.objects.length c8, .slice a9 s.verbs.length c9, .slice a10 s.rules.length c10, .slice a11 s.funcs.length c11, .slice a12 s.daemons.length c12] ∧ FaultAt W (w.heap.size + 1) ∧ Below w.heap.size w W) := fun W h3 => ⟨hx1.below (hb2.trans (h3.mono hb2.size)) (by omega), fault_kept hx2 (by omega) h3, (hb1.trans ((hb2.trans (h3.mono hb2.size)).mono hb1.size))⟩
  have HZ0 := Lib.hid hs2
  have HW1 := Lib.hid hW1
  have HW2 := Lib.hid hW2
  clear hW1 hs1 hb1 hx1 hW2 hs2 hb2 hx2
  clear h0 h1 hR hF htab g5 g6 g7 g8 g9 g10 g11 g12 hne hex hru hfu hda
  go_enter Tryz.func8, Tryz.ntmps8
  go_upto_region 1 with fail
  rw [HW1.out, HW2.out]
  obtain ⟨hbx, -, hbt⟩ := hE.out W2 (Below.refl _ _)
  have hc := HRM.out s.start W2 hbt
  rw [show roomW t s.objects s.start = checkW t s 1 0 from rfl] at hc
  have hfv : faultV (checkW t s) (some ((1 : Int), 0)) = .agg #[.int .i64 (checkW t s 1 0).1, .int .i64 1, .int .i64 0, .string (checkW t s 1 0).2] := rfl
  generalize checkW t s 1 0 = p at hc HR0 hfv
  have HC := Lib.hid hc
  have HFV := Lib.hid hfv
  have x0 := hbx.2 0 (by simp)
  have x1 := hbx.2 1 (by simp)
  have x2 := hbx.2 2 (by simp)
  have x3 := hbx.2 3 (by simp)
  have x4 := hbx.2 4 (by simp)
  have x5 := hbx.2 5 (by simp)
  have x6 := hbx.2 6 (by simp)
  have x7 := hbx.2 7 (by simp)
  have x8 := hbx.2 8 (by simp)
  have x9 := hbx.2 9 (by simp)
  have x10 := hbx.2 10 (by simp)
  have x11 := hbx.2 11 (by simp)
  have x12 := hbx.2 12 (by simp)
  simp only [List.getElem?_cons_succ, List.getElem?_cons_zero] at x0 x1 x2 x3 x4 x5 x6 x7 x8 x9 x10 x11 x12
  clear hc hbx hbt hfv
  go_upto_region 2 with (go_at_call 25; refine HC.out.mono ?_; rintro e w1 ⟨rfl, hb1⟩; unfold wrongR)
  have hAb : Hid (∃ wb b7, w1.alloc (.cells #[.int .i64 p.1, .string p.2] 79) = wb ∧ w1.heap.size = b7 ∧ Below W2.heap.size W2 wb ∧ WrAt wb b7 p) := ⟨_, _, rfl, rfl, hb1.alloc hb1.size _, wr_new _ _ _ _⟩
  obtain ⟨wb, b7, hwb, hb7, hBw, hwr7⟩ := hAb.out
  rw [hwb]
  simp only [hb7]
  have HBS := Lib.hid hBw
  obtain ⟨⟨q0, q1⟩, y0, y1⟩ := hwr7
  obtain ⟨hbx, -, -⟩ := hE.out wb hBw
  clear hAb hwb hb7 hBw hb1 HC x0 x1 x2 x3 x4 x5 x6 x7 x8 x9 x10 x11 x12
  by_cases hz : p.1 = 0
  rotate_left
  · have hp1 : (p.1 != 0) = true := by simpa using hz
    have hfin : Hid (faultV (checkW t s) R = .agg #[.int .i64 p.1, .int .i64 1, .int .i64 0, .string p.2]) := by show _ = _; rw [HR0.out, if_neg hz]; exact HFV.out
    clear hz hbx
    go_wp2_with (go_at_call 26; refine (HFA.out p 1 0 _).mono ?_; rintro e w5 ⟨rfl, hb5⟩; obtain ⟨hbx, ⟨⟨f0, f1, f2, f3⟩, n0, n1, n2, n3⟩, hbt⟩ := hE.out w5 (HBS.out.trans (hb5.mono HBS.out.size)))
    exact bodyPost_ret (v := .agg #[.int .i64 p.1, .int .i64 1, .int .i64 0, .string p.2]) (by simp [results, Tryz.results8, go_sem, f0, f1, f2, f3]; try rfl) rfl ⟨by rw [hfin.out], four_set hbt (by omega)⟩
  have hp1 : (p.1 != 0) = false := by simpa using hz
  have HR5 : Hid (R = firstBad (checkW t s) ((((List.range s.objects.length).drop 0).map fun i => ((5 : Int), i)) ++ pairsOf s [6, 7, 8, 9])) := by show _ = _; rw [HR0.out, if_pos hz]
  clear hz hbx HR0 HFV
  obtain ⟨_, _, he, hl5, hc5, h5⟩ := (G5.out).opn
  cases he
  unfold maxLen at hc5
  go_wp2_with fail
  go_loopw [6] (fun i wr => ∃ k : Nat, k ≤ s.objects.length ∧ i = .int .i64 k ∧ Hid (R = firstBad (checkW t s) ((((List.range s.objects.length).drop k).map fun i => ((5 : Int), i)) ++ pairsOf s [6, 7, 8, 9])) ∧ Below W2.heap.size W2 wr) (fun i _ => s.objects.length - (intOf i).toNat)
  case atStart => exact ⟨0, Nat.zero_le _, rfl, by rw [List.drop_zero]; exact HR5.out, HBS.out⟩
  case round =>
    obtain ⟨k, hk, rfl, hinv, hB⟩ := hrel
    obtain ⟨hbx, -, hbt⟩ := hE.out wr hB
    have HB := Lib.hid hB
    have HBT := Lib.hid hbt
    by_cases hlt : k < s.objects.length
    · have hdk : firstBad (checkW t s) ((((List.range s.objects.length).drop k).map fun i => ((5 : Int), i)) ++ pairsOf s [6, 7, 8, 9]) = (if (checkW t s 5 k).1 = 0 then firstBad (checkW t s) ((((List.range s.objects.length).drop (k + 1)).map fun i => ((5 : Int), i)) ++ pairsOf s [6, 7, 8, 9]) else some ((5 : Int), k)) := by
        rw [List.drop_eq_getElem_cons (by simpa using hlt), List.map_cons, List.cons_append, List.getElem_range]; rfl
      have hq1 := hinv.out
      rw [hdk] at hq1
      have hcall := fun (W : World) (hW : Below wr.heap.size wr W) => HOB.out k hlt W (hbt.trans (hW.mono hbt.size))
      rw [show objW t s.funcs s.objects k s.objects[k] = checkW t s 5 k from by unfold checkW; rw [if_neg (by decide)]; rw [if_pos rfl]; rw [List.getElem?_eq_getElem hlt]] at hcall
      have hfv : faultV (checkW t s) (some ((5 : Int), k)) = .agg #[.int .i64 (checkW t s 5 k).1, .int .i64 5, .int .i64 k, .string (checkW t s 5 k).2] := rfl
      generalize checkW t s 5 k = p at hcall hq1 hfv
      have HCL := Lib.hid hcall
      have HQ1 := Lib.hid hq1
      have HFV := Lib.hid hfv
      have x0 := hbx.2 0 (by simp)
      have x1 := hbx.2 1 (by simp)
      have x2 := hbx.2 2 (by simp)
      have x3 := hbx.2 3 (by simp)
      have x4 := hbx.2 4 (by simp)
      have x5 := hbx.2 5 (by simp)
      have x6 := hbx.2 6 (by simp)
      have x7 := hbx.2 7 (by simp)
      have x8 := hbx.2 8 (by simp)
      have x9 := hbx.2 9 (by simp)
      have x10 := hbx.2 10 (by simp)
      have x11 := hbx.2 11 (by simp)
      have x12 := hbx.2 12 (by simp)
      simp only [List.getElem?_cons_succ, List.getElem?_cons_zero] at x0 x1 x2 x3 x4 x5 x6 x7 x8 x9 x10 x11 x12
      have x0a := alloc_cell x0
      have x1a := alloc_cell x1
      have x2a := alloc_cell x2
      have x3a := alloc_cell x3
      have x4a := alloc_cell x4
      have x5a := alloc_cell x5
      have x6a := alloc_cell x6
      have x7a := alloc_cell x7
      have x8a := alloc_cell x8
      have x9a := alloc_cell x9
      have x10a := alloc_cell x10
      have x11a := alloc_cell x11
      have x12a := alloc_cell x12
      have hki : (k : Int) < (s.objects.length : Int) := by omega
      have hki0 : (0 : Int) ≤ (k : Int) := by omega
      clear hdk hinv hq1 hcall hfv hbx hbt hB 
      go_upto_region 7 with fail
      obtain ⟨wo, rfl⟩ : ∃ wo : World, wo = wr := ⟨_, rfl⟩
      go_cut [7] (fun v wc => Hid (∃ b9, v = .pointer (some ⟨b9, 0, none⟩) ∧ WrAt wc b9 p ∧ Below W2.heap.size W2 wc))
      case first =>
        go_wp2_with (go_at_call 27; refine (HCL.out _ (Below.refl _ wo)).mono ?_; rintro e w3 ⟨rfl, hb3⟩; unfold wrongR)
        go_meet
        exact ⟨_, rfl, wr_new _ _ _ _, HB.out.trans ((hb3.alloc hb3.size _).mono HB.out.size)⟩
      case rest =>
        clear  x0 x0a x1 x1a x2 x2a x3 x3a x4 x4a x5 x5a x6 x6a x7 x7a x8 x8a x9 x9a x10 x10a x11 x11a x12 x12a HCL
        obtain ⟨b9, rfl, hw9, hbc⟩ := hcut.out
        obtain ⟨⟨q0, q1⟩, y0, y1⟩ := hw9
        have HBC := Lib.hid hbc
        clear hcut hbc
        by_cases hz : p.1 = 0
        · have hp1 : (p.1 != 0) = false := by simpa using hz
          have hnx : Hid (R = firstBad (checkW t s) ((((List.range s.objects.length).drop (k + 1)).map fun i => ((5 : Int), i)) ++ pairsOf s [6, 7, 8, 9])) := by show _ = _; rw [HQ1.out, if_pos hz]
          clear hz
          go_wp2_with fail
          go_roundw
          case rel => exact ⟨k + 1, by omega, by go_num, hnx.out, HBC.out⟩
          case measure => simp [intOf]; omega
        · have hp1 : (p.1 != 0) = true := by simpa using hz
          have hfin : Hid (faultV (checkW t s) R = .agg #[.int .i64 p.1, .int .i64 5, .int .i64 k, .string p.2]) := by show _ = _; rw [HQ1.out, if_neg hz]; exact HFV.out
          clear hz
          go_wp2_with (go_at_call 26; refine (HFA.out p 5 k _).mono ?_; rintro e w5 ⟨rfl, hb5⟩; obtain ⟨hbx, ⟨⟨f0, f1, f2, f3⟩, n0, n1, n2, n3⟩, hbt⟩ := hE.out w5 (HBC.out.trans (hb5.mono HBC.out.size)))
          exact bodyPost_ret (v := .agg #[.int .i64 p.1, .int .i64 5, .int .i64 k, .string p.2]) (by simp [results, Tryz.results8, go_sem, f0, f1, f2, f3]; try rfl) rfl ⟨by rw [hfin.out], four_set hbt (by omega)⟩
    · have HR6 : Hid (R = firstBad (checkW t s) ((((List.range s.verbs.length).drop 0).map fun i => ((6 : Int), i)) ++ pairsOf s [7, 8, 9])) := by
        show _ = _
        rw [hinv.out, List.drop_eq_nil_of_le (by simp; omega)]
        rfl
      have HBS := Lib.hid hB
      have hki : decide ((k : Int) < (s.objects.length : Int)) = false := by simpa using hlt
      have x8 := hbx.2 8 (by simp)
      simp only [List.getElem?_cons_succ, List.getElem?_cons_zero] at x8
      clear hinv hB hbt hbx h5
      obtain ⟨_, _, he, hl6, hc6, h6⟩ := (G6.out).opn
      cases he
      unfold maxLen at hc6
      go_wp2_with fail
      go_loopw [8] (fun i wr => ∃ k : Nat, k ≤ s.verbs.length ∧ i = .int .i64 k ∧ Hid (R = firstBad (checkW t s) ((((List.range s.verbs.length).drop k).map fun i => ((6 : Int), i)) ++ pairsOf s [7, 8, 9])) ∧ Below W2.heap.size W2 wr) (fun i _ => s.verbs.length - (intOf i).toNat)
      case atStart => exact ⟨0, Nat.zero_le _, rfl, by rw [List.drop_zero]; exact HR6.out, HBS.out⟩
      case round =>
        clear x8
        obtain ⟨k, hk, rfl, hinv, hB⟩ := hrel
        obtain ⟨hbx, -, hbt⟩ := hE.out wr hB
        have HB := Lib.hid hB
        have HBT := Lib.hid hbt
        by_cases hlt : k < s.verbs.length
        · have hdk : firstBad (checkW t s) ((((List.range s.verbs.length).drop k).map fun i => ((6 : Int), i)) ++ pairsOf s [7, 8, 9]) = (if (checkW t s 6 k).1 = 0 then firstBad (checkW t s) ((((List.range s.verbs.length).drop (k + 1)).map fun i => ((6 : Int), i)) ++ pairsOf s [7, 8, 9]) else some ((6 : Int), k)) := by
            rw [List.drop_eq_getElem_cons (by simpa using hlt), List.map_cons, List.cons_append, List.getElem_range]; rfl
          have hq1 := hinv.out
          rw [hdk] at hq1
          obtain ⟨ob, off, rfl, hFob, hel⟩ := h6 (by omega)
          obtain ⟨cs, hR, -, hcell⟩ := hel wr (hbt.block ob (HF.out ob hFob)) k hlt
          have hRR := hR
          obtain ⟨-, v2, rfl, k2⟩ := hR
          obtain ⟨d2, e2, rfl⟩ := k2.shape
          have g0 := hcell 0 _ rfl
          have g1 := hcell 1 _ rfl
          have g2 := hcell 2 _ rfl
          simp only [Nat.add_zero] at g0
          have hR := k2
          clear k2
          have hcall := fun (W : World) (hW : Below wr.heap.size wr W) => HVE.out _ (List.getElem_mem hlt) _ hRR W (hbt.trans (hW.mono hbt.size))
          rw [show verbW s.verbs[k] = checkW t s 6 k from by unfold checkW; rw [if_neg (by decide)]; rw [if_neg (by decide)]; rw [if_pos rfl]; rw [List.getElem?_eq_getElem hlt]] at hcall
          have hfv : faultV (checkW t s) (some ((6 : Int), k)) = .agg #[.int .i64 (checkW t s 6 k).1, .int .i64 6, .int .i64 k, .string (checkW t s 6 k).2] := rfl
          generalize checkW t s 6 k = p at hcall hq1 hfv
          have HCL := Lib.hid hcall
          have HQ1 := Lib.hid hq1
          have HFV := Lib.hid hfv
          have x9 := hbx.2 9 (by simp)
          simp only [List.getElem?_cons_succ, List.getElem?_cons_zero] at x9
          have g0a := alloc_cell g0
          have g1a := alloc_cell g1
          have g2a := alloc_cell g2
          have x9a := alloc_cell x9
          have hki : (k : Int) < (s.verbs.length : Int) := by omega
          have hki0 : (0 : Int) ≤ (k : Int) := by omega
          clear hdk hinv hq1 hcall hfv hbx hbt hB hR hRR hcell hel
          go_upto_region 13 with fail
          obtain ⟨wo, rfl⟩ : ∃ wo : World, wo = wr := ⟨_, rfl⟩
          go_cut [9] (fun v wc => Hid (∃ b9, v = .pointer (some ⟨b9, 0, none⟩) ∧ WrAt wc b9 p ∧ Below W2.heap.size W2 wc))
          case first =>
            go_wp2_with (go_at_call 28; refine (HCL.out _ (Below.refl _ wo)).mono ?_; rintro e w3 ⟨rfl, hb3⟩; unfold wrongR)
            go_meet
            exact ⟨_, rfl, wr_new _ _ _ _, HB.out.trans ((hb3.alloc hb3.size _).mono HB.out.size)⟩
          case rest =>
            clear g0 g1 g2 g0a g1a g2a x9 x9a HCL
            obtain ⟨b9, rfl, hw9, hbc⟩ := hcut.out
            obtain ⟨⟨q0, q1⟩, y0, y1⟩ := hw9
            have HBC := Lib.hid hbc
            clear hcut hbc
            by_cases hz : p.1 = 0
            · have hp1 : (p.1 != 0) = false := by simpa using hz
              have hnx : Hid (R = firstBad (checkW t s) ((((List.range s.verbs.length).drop (k + 1)).map fun i => ((6 : Int), i)) ++ pairsOf s [7, 8, 9])) := by show _ = _; rw [HQ1.out, if_pos hz]
              clear hz
              go_wp2_with fail
              go_roundw
              case rel => exact ⟨k + 1, by omega, by go_num, hnx.out, HBC.out⟩
              case measure => simp [intOf]; omega
            · have hp1 : (p.1 != 0) = true := by simpa using hz
              have hfin : Hid (faultV (checkW t s) R = .agg #[.int .i64 p.1, .int .i64 6, .int .i64 k, .string p.2]) := by show _ = _; rw [HQ1.out, if_neg hz]; exact HFV.out
              clear hz
              go_wp2_with (go_at_call 26; refine (HFA.out p 6 k _).mono ?_; rintro e w5 ⟨rfl, hb5⟩; obtain ⟨hbx, ⟨⟨f0, f1, f2, f3⟩, n0, n1, n2, n3⟩, hbt⟩ := hE.out w5 (HBC.out.trans (hb5.mono HBC.out.size)))
              exact bodyPost_ret (v := .agg #[.int .i64 p.1, .int .i64 6, .int .i64 k, .string p.2]) (by simp [results, Tryz.results8, go_sem, f0, f1, f2, f3]; try rfl) rfl ⟨by rw [hfin.out], four_set hbt (by omega)⟩
        · have HR7 : Hid (R = firstBad (checkW t s) ((((List.range s.rules.length).drop 0).map fun i => ((7 : Int), i)) ++ pairsOf s [8, 9])) := by
            show _ = _
            rw [hinv.out, List.drop_eq_nil_of_le (by simp; omega)]
            rfl
          have HBS := Lib.hid hB
          have hki : decide ((k : Int) < (s.verbs.length : Int)) = false := by simpa using hlt
          have x9 := hbx.2 9 (by simp)
          simp only [List.getElem?_cons_succ, List.getElem?_cons_zero] at x9
          clear hinv hB hbt hbx h6
          obtain ⟨_, _, he, hl7, hc7, h7⟩ := (G7.out).opn
          cases he
          unfold maxLen at hc7
          go_wp2_with fail
          go_loopw [10] (fun i wr => ∃ k : Nat, k ≤ s.rules.length ∧ i = .int .i64 k ∧ Hid (R = firstBad (checkW t s) ((((List.range s.rules.length).drop k).map fun i => ((7 : Int), i)) ++ pairsOf s [8, 9])) ∧ Below W2.heap.size W2 wr) (fun i _ => s.rules.length - (intOf i).toNat)
          case atStart => exact ⟨0, Nat.zero_le _, rfl, by rw [List.drop_zero]; exact HR7.out, HBS.out⟩
          case round =>
            clear x9
            obtain ⟨k, hk, rfl, hinv, hB⟩ := hrel
            obtain ⟨hbx, -, hbt⟩ := hE.out wr hB
            have HB := Lib.hid hB
            have HBT := Lib.hid hbt
            by_cases hlt : k < s.rules.length
            · have hdk : firstBad (checkW t s) ((((List.range s.rules.length).drop k).map fun i => ((7 : Int), i)) ++ pairsOf s [8, 9]) = (if (checkW t s 7 k).1 = 0 then firstBad (checkW t s) ((((List.range s.rules.length).drop (k + 1)).map fun i => ((7 : Int), i)) ++ pairsOf s [8, 9]) else some ((7 : Int), k)) := by
                rw [List.drop_eq_getElem_cons (by simpa using hlt), List.map_cons, List.cons_append, List.getElem_range]; rfl
              have hq1 := hinv.out
              rw [hdk] at hq1
              obtain ⟨ob, off, rfl, hFob, hel⟩ := h7 (by omega)
              obtain ⟨cs, hR, -, hcell⟩ := hel wr (hbt.block ob (HF.out ob hFob)) k hlt
              have hRR := hR
              obtain ⟨-, -, -, -, v4, v5, rfl, k4, k5⟩ := hR
              obtain ⟨d4, e4, rfl⟩ := k4.shape
              obtain ⟨d5, e5, rfl⟩ := k5.shape
              have g0 := hcell 0 _ rfl
              have g1 := hcell 1 _ rfl
              have g2 := hcell 2 _ rfl
              have g3 := hcell 3 _ rfl
              have g4 := hcell 4 _ rfl
              have g5 := hcell 5 _ rfl
              simp only [Nat.add_zero] at g0
              have hR := k4
              clear k4 k5
              have hcall := fun (W : World) (hW : Below wr.heap.size wr W) => HRU.out _ (List.getElem_mem hlt) _ hRR W (hbt.trans (hW.mono hbt.size))
              rw [show ruleW t s.funcs s.rules[k] = checkW t s 7 k from by unfold checkW; rw [if_neg (by decide)]; rw [if_neg (by decide)]; rw [if_neg (by decide)]; rw [if_pos rfl]; rw [List.getElem?_eq_getElem hlt]] at hcall
              have hfv : faultV (checkW t s) (some ((7 : Int), k)) = .agg #[.int .i64 (checkW t s 7 k).1, .int .i64 7, .int .i64 k, .string (checkW t s 7 k).2] := rfl
              generalize checkW t s 7 k = p at hcall hq1 hfv
              have HCL := Lib.hid hcall
              have HQ1 := Lib.hid hq1
              have HFV := Lib.hid hfv
              have x0 := hbx.2 0 (by simp)
              have x1 := hbx.2 1 (by simp)
              have x2 := hbx.2 2 (by simp)
              have x3 := hbx.2 3 (by simp)
              have x4 := hbx.2 4 (by simp)
              have x5 := hbx.2 5 (by simp)
              have x6 := hbx.2 6 (by simp)
              have x7 := hbx.2 7 (by simp)
              have x8 := hbx.2 8 (by simp)
              have x9 := hbx.2 9 (by simp)
              have x10 := hbx.2 10 (by simp)
              have x11 := hbx.2 11 (by simp)
              have x12 := hbx.2 12 (by simp)
              simp only [List.getElem?_cons_succ, List.getElem?_cons_zero] at x0 x1 x2 x3 x4 x5 x6 x7 x8 x9 x10 x11 x12
              have g0a := alloc_cell g0
              have g1a := alloc_cell g1
              have g2a := alloc_cell g2
              have g3a := alloc_cell g3
              have g4a := alloc_cell g4
              have g5a := alloc_cell g5
              have x0a := alloc_cell x0
              have x1a := alloc_cell x1
              have x2a := alloc_cell x2
              have x3a := alloc_cell x3
              have x4a := alloc_cell x4
              have x5a := alloc_cell x5
              have x6a := alloc_cell x6
              have x7a := alloc_cell x7
              have x8a := alloc_cell x8
              have x9a := alloc_cell x9
              have x10a := alloc_cell x10
              have x11a := alloc_cell x11
              have x12a := alloc_cell x12
              have hki : (k : Int) < (s.rules.length : Int) := by omega
              have hki0 : (0 : Int) ≤ (k : Int) := by omega
              clear hdk hinv hq1 hcall hfv hbx hbt hB hR hRR hcell hel
              go_upto_region 19 with fail
              obtain ⟨wo, rfl⟩ : ∃ wo : World, wo = wr := ⟨_, rfl⟩
              go_cut [11] (fun v wc => Hid (∃ b9, v = .pointer (some ⟨b9, 0, none⟩) ∧ WrAt wc b9 p ∧ Below W2.heap.size W2 wc))
              case first =>
                go_region_with (first | (go_at_call 29; (with_reducible refine (HCL.out _ (Below.refl _ wo).drew).mono ?_); rintro e w3 ⟨rfl, hb3⟩; have hbq := (Below.refl wo.heap.size wo).drew.trans hb3; unfold wrongR) | (go_at_call 29; (with_reducible refine (HCL.out _ (((Below.refl _ wo).alloc (Nat.le_refl _) _).drew)).mono ?_); rintro e w3 ⟨rfl, hb3⟩; have hbq := (Below.refl (wo.alloc (.cells #[.int .i64 0, .string ⟨#[]⟩] 79)).heap.size (wo.alloc (.cells #[.int .i64 0, .string ⟨#[]⟩] 79))).drew.trans hb3; obtain ⟨⟨f0', f1'⟩, z0', z1'⟩ := wr_kept (wr_new wo 0 ⟨#[]⟩ 79) (by simp) hbq; unfold wrongR))
                all_goals (go_wp2_with fail; go_meet; first | exact ⟨_, rfl, wr_new _ _ _ _, HB.out.trans ((hbq.alloc hbq.size _).mono HB.out.size)⟩ | exact ⟨_, rfl, wr_set (p0 := (0, ⟨#[]⟩)) p ⟨⟨f0', f1'⟩, z0', z1'⟩, HB.out.trans ((two_set (((Below.refl wo.heap.size wo).alloc (Nat.le_refl _) _).trans (hbq.mono (by simp))) (Nat.le_refl _)).mono HB.out.size)⟩)
              case rest =>
                clear g0 g1 g2 g3 g4 g5 g0a g1a g2a g3a g4a g5a x0 x0a x1 x1a x2 x2a x3 x3a x4 x4a x5 x5a x6 x6a x7 x7a x8 x8a x9 x9a x10 x10a x11 x11a x12 x12a HCL
                obtain ⟨b9, rfl, hw9, hbc⟩ := hcut.out
                obtain ⟨⟨q0, q1⟩, y0, y1⟩ := hw9
                have HBC := Lib.hid hbc
                clear hcut hbc
                by_cases hz : p.1 = 0
                · have hp1 : (p.1 != 0) = false := by simpa using hz
                  have hnx : Hid (R = firstBad (checkW t s) ((((List.range s.rules.length).drop (k + 1)).map fun i => ((7 : Int), i)) ++ pairsOf s [8, 9])) := by show _ = _; rw [HQ1.out, if_pos hz]
                  clear hz
                  go_wp2_with fail
                  go_roundw
                  case rel => exact ⟨k + 1, by omega, by go_num, hnx.out, HBC.out⟩
                  case measure => simp [intOf]; omega
                · have hp1 : (p.1 != 0) = true := by simpa using hz
                  have hfin : Hid (faultV (checkW t s) R = .agg #[.int .i64 p.1, .int .i64 7, .int .i64 k, .string p.2]) := by show _ = _; rw [HQ1.out, if_neg hz]; exact HFV.out
                  clear hz
                  go_wp2_with (go_at_call 26; refine (HFA.out p 7 k _).mono ?_; rintro e w5 ⟨rfl, hb5⟩; obtain ⟨hbx, ⟨⟨f0, f1, f2, f3⟩, n0, n1, n2, n3⟩, hbt⟩ := hE.out w5 (HBC.out.trans (hb5.mono HBC.out.size)))
                  exact bodyPost_ret (v := .agg #[.int .i64 p.1, .int .i64 7, .int .i64 k, .string p.2]) (by simp [results, Tryz.results8, go_sem, f0, f1, f2, f3]; try rfl) rfl ⟨by rw [hfin.out], four_set hbt (by omega)⟩
            · have HR8 : Hid (R = firstBad (checkW t s) ((((List.range s.funcs.length).drop 0).map fun i => ((8 : Int), i)) ++ pairsOf s [9])) := by
                show _ = _
                rw [hinv.out, List.drop_eq_nil_of_le (by simp; omega)]
                rfl
              have HBS := Lib.hid hB
              have hki : decide ((k : Int) < (s.rules.length : Int)) = false := by simpa using hlt
              have x10 := hbx.2 10 (by simp)
              simp only [List.getElem?_cons_succ, List.getElem?_cons_zero] at x10
              clear hinv hB hbt hbx h7
              obtain ⟨_, _, he, hl8, hc8, h8⟩ := (G8.out).opn
              cases he
              unfold maxLen at hc8
              go_wp2_with fail
              go_loopw [12] (fun i wr => ∃ k : Nat, k ≤ s.funcs.length ∧ i = .int .i64 k ∧ Hid (R = firstBad (checkW t s) ((((List.range s.funcs.length).drop k).map fun i => ((8 : Int), i)) ++ pairsOf s [9])) ∧ Below W2.heap.size W2 wr) (fun i _ => s.funcs.length - (intOf i).toNat)
              case atStart => exact ⟨0, Nat.zero_le _, rfl, by rw [List.drop_zero]; exact HR8.out, HBS.out⟩
              case round =>
                clear x10
                obtain ⟨k, hk, rfl, hinv, hB⟩ := hrel
                obtain ⟨hbx, -, hbt⟩ := hE.out wr hB
                have HB := Lib.hid hB
                have HBT := Lib.hid hbt
                by_cases hlt : k < s.funcs.length
                · have hdk : firstBad (checkW t s) ((((List.range s.funcs.length).drop k).map fun i => ((8 : Int), i)) ++ pairsOf s [9]) = (if (checkW t s 8 k).1 = 0 then firstBad (checkW t s) ((((List.range s.funcs.length).drop (k + 1)).map fun i => ((8 : Int), i)) ++ pairsOf s [9]) else some ((8 : Int), k)) := by
                    rw [List.drop_eq_getElem_cons (by simpa using hlt), List.map_cons, List.cons_append, List.getElem_range]; rfl
                  have hq1 := hinv.out
                  rw [hdk] at hq1
                  obtain ⟨ob, off, rfl, hFob, hel⟩ := h8 (by omega)
                  obtain ⟨cs, hR, -, hcell⟩ := hel wr (hbt.block ob (HF.out ob hFob)) k hlt
                  have hRR := hR
                  obtain ⟨-, v1, v2, rfl, k1, k2⟩ := hR
                  obtain ⟨d1, e1, rfl⟩ := k1.shape
                  obtain ⟨d2, e2, rfl⟩ := k2.shape
                  have g0 := hcell 0 _ rfl
                  have g1 := hcell 1 _ rfl
                  have g2 := hcell 2 _ rfl
                  simp only [Nat.add_zero] at g0
                  have hR := k2
                  clear k1 k2
                  have hcall := fun (W : World) (hW : Below wr.heap.size wr W) => HFU.out _ (List.getElem_mem hlt) _ hRR W (hbt.trans (hW.mono hbt.size))
                  rw [show funcW t s.funcs s.funcs[k] = checkW t s 8 k from by unfold checkW; rw [if_neg (by decide)]; rw [if_neg (by decide)]; rw [if_neg (by decide)]; rw [if_neg (by decide)]; rw [if_pos rfl]; rw [List.getElem?_eq_getElem hlt]] at hcall
                  have hfv : faultV (checkW t s) (some ((8 : Int), k)) = .agg #[.int .i64 (checkW t s 8 k).1, .int .i64 8, .int .i64 k, .string (checkW t s 8 k).2] := rfl
                  generalize checkW t s 8 k = p at hcall hq1 hfv
                  have HCL := Lib.hid hcall
                  have HQ1 := Lib.hid hq1
                  have HFV := Lib.hid hfv
                  have x0 := hbx.2 0 (by simp)
                  have x1 := hbx.2 1 (by simp)
                  have x2 := hbx.2 2 (by simp)
                  have x3 := hbx.2 3 (by simp)
                  have x4 := hbx.2 4 (by simp)
                  have x5 := hbx.2 5 (by simp)
                  have x6 := hbx.2 6 (by simp)
                  have x7 := hbx.2 7 (by simp)
                  have x8 := hbx.2 8 (by simp)
                  have x9 := hbx.2 9 (by simp)
                  have x10 := hbx.2 10 (by simp)
                  have x11 := hbx.2 11 (by simp)
                  have x12 := hbx.2 12 (by simp)
                  simp only [List.getElem?_cons_succ, List.getElem?_cons_zero] at x0 x1 x2 x3 x4 x5 x6 x7 x8 x9 x10 x11 x12
                  have g0a := alloc_cell g0
                  have g1a := alloc_cell g1
                  have g2a := alloc_cell g2
                  have x0a := alloc_cell x0
                  have x1a := alloc_cell x1
                  have x2a := alloc_cell x2
                  have x3a := alloc_cell x3
                  have x4a := alloc_cell x4
                  have x5a := alloc_cell x5
                  have x6a := alloc_cell x6
                  have x7a := alloc_cell x7
                  have x8a := alloc_cell x8
                  have x9a := alloc_cell x9
                  have x10a := alloc_cell x10
                  have x11a := alloc_cell x11
                  have x12a := alloc_cell x12
                  have hki : (k : Int) < (s.funcs.length : Int) := by omega
                  have hki0 : (0 : Int) ≤ (k : Int) := by omega
                  clear hdk hinv hq1 hcall hfv hbx hbt hB hR hRR hcell hel
                  go_upto_region 25 with fail
                  obtain ⟨wo, rfl⟩ : ∃ wo : World, wo = wr := ⟨_, rfl⟩
                  go_cut [13] (fun v wc => Hid (∃ b9, v = .pointer (some ⟨b9, 0, none⟩) ∧ WrAt wc b9 p ∧ Below W2.heap.size W2 wc))
                  case first =>
                    go_region_with (first | (go_at_call 30; (with_reducible refine (HCL.out _ (Below.refl _ wo).drew).mono ?_); rintro e w3 ⟨rfl, hb3⟩; have hbq := (Below.refl wo.heap.size wo).drew.trans hb3; unfold wrongR) | (go_at_call 30; (with_reducible refine (HCL.out _ (((Below.refl _ wo).alloc (Nat.le_refl _) _).drew)).mono ?_); rintro e w3 ⟨rfl, hb3⟩; have hbq := (Below.refl (wo.alloc (.cells #[.int .i64 0, .string ⟨#[]⟩] 79)).heap.size (wo.alloc (.cells #[.int .i64 0, .string ⟨#[]⟩] 79))).drew.trans hb3; obtain ⟨⟨f0', f1'⟩, z0', z1'⟩ := wr_kept (wr_new wo 0 ⟨#[]⟩ 79) (by simp) hbq; unfold wrongR))
                    all_goals (go_wp2_with fail; go_meet; first | exact ⟨_, rfl, wr_new _ _ _ _, HB.out.trans ((hbq.alloc hbq.size _).mono HB.out.size)⟩ | exact ⟨_, rfl, wr_set (p0 := (0, ⟨#[]⟩)) p ⟨⟨f0', f1'⟩, z0', z1'⟩, HB.out.trans ((two_set (((Below.refl wo.heap.size wo).alloc (Nat.le_refl _) _).trans (hbq.mono (by simp))) (Nat.le_refl _)).mono HB.out.size)⟩)
                  case rest =>
                    clear g0 g1 g2 g0a g1a g2a x0 x0a x1 x1a x2 x2a x3 x3a x4 x4a x5 x5a x6 x6a x7 x7a x8 x8a x9 x9a x10 x10a x11 x11a x12 x12a HCL
                    obtain ⟨b9, rfl, hw9, hbc⟩ := hcut.out
                    obtain ⟨⟨q0, q1⟩, y0, y1⟩ := hw9
                    have HBC := Lib.hid hbc
                    clear hcut hbc
                    by_cases hz : p.1 = 0
                    · have hp1 : (p.1 != 0) = false := by simpa using hz
                      have hnx : Hid (R = firstBad (checkW t s) ((((List.range s.funcs.length).drop (k + 1)).map fun i => ((8 : Int), i)) ++ pairsOf s [9])) := by show _ = _; rw [HQ1.out, if_pos hz]
                      clear hz
                      go_wp2_with fail
                      go_roundw
                      case rel => exact ⟨k + 1, by omega, by go_num, hnx.out, HBC.out⟩
                      case measure => simp [intOf]; omega
                    · have hp1 : (p.1 != 0) = true := by simpa using hz
                      have hfin : Hid (faultV (checkW t s) R = .agg #[.int .i64 p.1, .int .i64 8, .int .i64 k, .string p.2]) := by show _ = _; rw [HQ1.out, if_neg hz]; exact HFV.out
                      clear hz
                      go_wp2_with (go_at_call 26; refine (HFA.out p 8 k _).mono ?_; rintro e w5 ⟨rfl, hb5⟩; obtain ⟨hbx, ⟨⟨f0, f1, f2, f3⟩, n0, n1, n2, n3⟩, hbt⟩ := hE.out w5 (HBC.out.trans (hb5.mono HBC.out.size)))
                      exact bodyPost_ret (v := .agg #[.int .i64 p.1, .int .i64 8, .int .i64 k, .string p.2]) (by simp [results, Tryz.results8, go_sem, f0, f1, f2, f3]; try rfl) rfl ⟨by rw [hfin.out], four_set hbt (by omega)⟩
                · have HR9 : Hid (R = firstBad (checkW t s) ((((List.range s.daemons.length).drop 0).map fun i => ((9 : Int), i)) ++ pairsOf s [])) := by
                    show _ = _
                    rw [hinv.out, List.drop_eq_nil_of_le (by simp; omega)]
                    rfl
                  have HBS := Lib.hid hB
                  have hki : decide ((k : Int) < (s.funcs.length : Int)) = false := by simpa using hlt
                  have x11 := hbx.2 11 (by simp)
                  simp only [List.getElem?_cons_succ, List.getElem?_cons_zero] at x11
                  clear hinv hB hbt hbx h8
                  obtain ⟨_, _, he, hl9, hc9, h9⟩ := (G9.out).opn
                  cases he
                  unfold maxLen at hc9
                  go_wp2_with fail
                  go_loopw [14] (fun i wr => ∃ k : Nat, k ≤ s.daemons.length ∧ i = .int .i64 k ∧ Hid (R = firstBad (checkW t s) ((((List.range s.daemons.length).drop k).map fun i => ((9 : Int), i)) ++ pairsOf s [])) ∧ Below W2.heap.size W2 wr) (fun i _ => s.daemons.length - (intOf i).toNat)
                  case atStart => exact ⟨0, Nat.zero_le _, rfl, by rw [List.drop_zero]; exact HR9.out, HBS.out⟩
                  case round =>
                    clear x11
                    obtain ⟨k, hk, rfl, hinv, hB⟩ := hrel
                    obtain ⟨hbx, -, hbt⟩ := hE.out wr hB
                    have HB := Lib.hid hB
                    have HBT := Lib.hid hbt
                    by_cases hlt : k < s.daemons.length
                    · have hdk : firstBad (checkW t s) ((((List.range s.daemons.length).drop k).map fun i => ((9 : Int), i)) ++ pairsOf s []) = (if (checkW t s 9 k).1 = 0 then firstBad (checkW t s) ((((List.range s.daemons.length).drop (k + 1)).map fun i => ((9 : Int), i)) ++ pairsOf s []) else some ((9 : Int), k)) := by
                        rw [List.drop_eq_getElem_cons (by simpa using hlt), List.map_cons, List.cons_append, List.getElem_range]; rfl
                      have hq1 := hinv.out
                      rw [hdk] at hq1
                      obtain ⟨ob, off, rfl, hFob, hel⟩ := h9 (by omega)
                      obtain ⟨cs, hR, -, hcell⟩ := hel wr (hbt.block ob (HF.out ob hFob)) k hlt
                      obtain ⟨-, v1, v2, rfl, k1, k2⟩ := hR
                      obtain ⟨d1, e1, rfl⟩ := k1.shape
                      obtain ⟨d2, e2, rfl⟩ := k2.shape
                      have g2 := hcell 2 _ rfl
                      have hR := k2
                      clear k1
                      have hcall := fun (W : World) (hW : Below wr.heap.size wr W) => HDA.out _ (List.getElem_mem hlt) _ k2 W (hbt.trans (hW.mono hbt.size))
                      rw [show St.kWs t s.funcs 9 [] 0 s.daemons[k].body = checkW t s 9 k from by unfold checkW; rw [if_neg (by decide)]; rw [if_neg (by decide)]; rw [if_neg (by decide)]; rw [if_neg (by decide)]; rw [if_neg (by decide)]; rw [List.getElem?_eq_getElem hlt]] at hcall
                      have hfv : faultV (checkW t s) (some ((9 : Int), k)) = .agg #[.int .i64 (checkW t s 9 k).1, .int .i64 9, .int .i64 k, .string (checkW t s 9 k).2] := rfl
                      generalize checkW t s 9 k = p at hcall hq1 hfv
                      have HCL := Lib.hid hcall
                      have HQ1 := Lib.hid hq1
                      have HFV := Lib.hid hfv
                      have x0 := hbx.2 0 (by simp)
                      have x1 := hbx.2 1 (by simp)
                      have x2 := hbx.2 2 (by simp)
                      have x3 := hbx.2 3 (by simp)
                      have x4 := hbx.2 4 (by simp)
                      have x5 := hbx.2 5 (by simp)
                      have x6 := hbx.2 6 (by simp)
                      have x7 := hbx.2 7 (by simp)
                      have x8 := hbx.2 8 (by simp)
                      have x9 := hbx.2 9 (by simp)
                      have x10 := hbx.2 10 (by simp)
                      have x11 := hbx.2 11 (by simp)
                      have x12 := hbx.2 12 (by simp)
                      simp only [List.getElem?_cons_succ, List.getElem?_cons_zero] at x0 x1 x2 x3 x4 x5 x6 x7 x8 x9 x10 x11 x12
                      have g2a := alloc_cell g2
                      have x0a := alloc_cell x0
                      have x1a := alloc_cell x1
                      have x2a := alloc_cell x2
                      have x3a := alloc_cell x3
                      have x4a := alloc_cell x4
                      have x5a := alloc_cell x5
                      have x6a := alloc_cell x6
                      have x7a := alloc_cell x7
                      have x8a := alloc_cell x8
                      have x9a := alloc_cell x9
                      have x10a := alloc_cell x10
                      have x11a := alloc_cell x11
                      have x12a := alloc_cell x12
                      have hki : (k : Int) < (s.daemons.length : Int) := by omega
                      have hki0 : (0 : Int) ≤ (k : Int) := by omega
                      clear hdk hinv hq1 hcall hfv hbx hbt hB hR hcell hel
                      go_upto_region 31 with fail
                      obtain ⟨wo, rfl⟩ : ∃ wo : World, wo = wr := ⟨_, rfl⟩
                      go_cut [15] (fun v wc => Hid (∃ b9, v = .pointer (some ⟨b9, 0, none⟩) ∧ WrAt wc b9 p ∧ Below W2.heap.size W2 wc))
                      case first =>
                        go_region_with (first | (go_at_call 31; (with_reducible refine (HCL.out _ (Below.refl _ wo).drew).mono ?_); rintro e w3 ⟨rfl, hb3⟩; have hbq := (Below.refl wo.heap.size wo).drew.trans hb3; unfold wrongR) | (go_at_call 31; (with_reducible refine (HCL.out _ (((Below.refl _ wo).alloc (Nat.le_refl _) _).drew)).mono ?_); rintro e w3 ⟨rfl, hb3⟩; have hbq := (Below.refl (wo.alloc (.cells #[.int .i64 0, .string ⟨#[]⟩] 79)).heap.size (wo.alloc (.cells #[.int .i64 0, .string ⟨#[]⟩] 79))).drew.trans hb3; obtain ⟨⟨f0', f1'⟩, z0', z1'⟩ := wr_kept (wr_new wo 0 ⟨#[]⟩ 79) (by simp) hbq; unfold wrongR))
                        all_goals (go_wp2_with fail; go_meet; first | exact ⟨_, rfl, wr_new _ _ _ _, HB.out.trans ((hbq.alloc hbq.size _).mono HB.out.size)⟩ | exact ⟨_, rfl, wr_set (p0 := (0, ⟨#[]⟩)) p ⟨⟨f0', f1'⟩, z0', z1'⟩, HB.out.trans ((two_set (((Below.refl wo.heap.size wo).alloc (Nat.le_refl _) _).trans (hbq.mono (by simp))) (Nat.le_refl _)).mono HB.out.size)⟩)
                      case rest =>
                        clear g2 g2a x0 x0a x1 x1a x2 x2a x3 x3a x4 x4a x5 x5a x6 x6a x7 x7a x8 x8a x9 x9a x10 x10a x11 x11a x12 x12a HCL
                        obtain ⟨b9, rfl, hw9, hbc⟩ := hcut.out
                        obtain ⟨⟨q0, q1⟩, y0, y1⟩ := hw9
                        have HBC := Lib.hid hbc
                        clear hcut hbc
                        by_cases hz : p.1 = 0
                        · have hp1 : (p.1 != 0) = false := by simpa using hz
                          have hnx : Hid (R = firstBad (checkW t s) ((((List.range s.daemons.length).drop (k + 1)).map fun i => ((9 : Int), i)) ++ pairsOf s [])) := by show _ = _; rw [HQ1.out, if_pos hz]
                          clear hz
                          go_wp2_with fail
                          go_roundw
                          case rel => exact ⟨k + 1, by omega, by go_num, hnx.out, HBC.out⟩
                          case measure => simp [intOf]; omega
                        · have hp1 : (p.1 != 0) = true := by simpa using hz
                          have hfin : Hid (faultV (checkW t s) R = .agg #[.int .i64 p.1, .int .i64 9, .int .i64 k, .string p.2]) := by show _ = _; rw [HQ1.out, if_neg hz]; exact HFV.out
                          clear hz
                          go_wp2_with (go_at_call 26; refine (HFA.out p 9 k _).mono ?_; rintro e w5 ⟨rfl, hb5⟩; obtain ⟨hbx, ⟨⟨f0, f1, f2, f3⟩, n0, n1, n2, n3⟩, hbt⟩ := hE.out w5 (HBC.out.trans (hb5.mono HBC.out.size)))
                          exact bodyPost_ret (v := .agg #[.int .i64 p.1, .int .i64 9, .int .i64 k, .string p.2]) (by simp [results, Tryz.results8, go_sem, f0, f1, f2, f3]; try rfl) rfl ⟨by rw [hfin.out], four_set hbt (by omega)⟩
                    · have HR10 : Hid (R = firstBad (checkW t s) ([])) := by
                        show _ = _
                        rw [hinv.out, List.drop_eq_nil_of_le (by simp; omega)]
                        rfl
                      have HBS := Lib.hid hB
                      have hki : decide ((k : Int) < (s.daemons.length : Int)) = false := by simpa using hlt
                      have x12 := hbx.2 12 (by simp)
                      simp only [List.getElem?_cons_succ, List.getElem?_cons_zero] at x12
                      clear hinv hB hbt hbx h9
                      obtain ⟨hbx, ⟨⟨f0, f1, f2, f3⟩, n0, n1, n2, n3⟩, hbt⟩ := hE.out wr HBS.out
                      have hfin : Hid (faultV (checkW t s) R = .agg #[.int .i64 0, .int .i64 0, .int .i64 0, .string ⟨#[]⟩]) := by show _ = _; rw [HR10.out]; rfl
                      have HBT9 := Lib.hid hbt
                      clear hbx hbt
                      go_wp2_with fail
                      exact bodyPost_ret (v := .agg #[.int .i64 0, .int .i64 0, .int .i64 0, .string ⟨#[]⟩]) (by simp [results, Tryz.results8, go_sem, f0, f1, f2, f3]; try rfl) rfl ⟨by rw [hfin.out], four_set HBT9.out (by omega)⟩
end Go.Proofs.YtblhpiebheommaaGreat
