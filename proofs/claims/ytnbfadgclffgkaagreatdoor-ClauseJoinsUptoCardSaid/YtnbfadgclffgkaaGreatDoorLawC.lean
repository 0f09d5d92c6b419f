/- The laws ClausePrints and ClauseJoins, walked. Printed by gen-cl2.py. -/
import Derived.Test.YtnbfadgclffgkaaGreatDoorParte4b5c37b
import Derived.Test.YtnbfadgclffgkaaGreatDoorTtO
import Derived.Test.YtnbfadgclffgkaaGreatDoorPrZ
import Derived.Test.YtnbfadgclffgkaaGreatDoorPart8b5b231c
import Derived.Test.YtnbfadgclffgkaaGreatDoorSizeAny14
namespace Go.Proofs.YtnbfadgclffgkaaGreatDoor
open Go.RowKit Go.Sort
theorem St.total_mem : ∀ (l : List St) (s : St), s ∈ l → s.total ≤ St.totals l
  | x :: l, s, h => by
    rcases List.mem_cons.1 h with rfl | h
    · simp only [St.totals]; omega
    · have := St.total_mem l s h
      simp only [St.totals]; omega
def LightQ (w : World) (l : List St) (e : Ending) (w' : World) : Prop := ∃ t : Bool, e = .returned (.bool t) ∧ (t = true → Blk l) ∧ Below w.heap.size w w'
set_option maxRecDepth 100000 in
set_option maxHeartbeats 4000000 in
theorem light_calls (l : List St) (F : Nat → Prop) (w : World) (v : Value) (hF : Inn F w) (hr : Sts F w l v) (hn : St.totals l ≤ 1048576) : Calls Tryz.prog 6 #[v] w (LightQ w l) := by
  obtain ⟨q, hq⟩ := sizeBA_calls l
  obtain ⟨a, cap, rfl⟩ := hr.shape
  have HQ := Lib.hid (hq F w _ hF hr)
  have HRB := Lib.hid (fun W (h : Below w.heap.size w W) => rightBlockR_calls l F W _ (hF.below h) (hr.below hF h (Nat.le_refl _)))
  have HPB := Lib.hid (fun W (h : Below w.heap.size w W) (hb : Blk l) => blkAllR_calls l F W _ 0 (hF.below h) hb.2 (by
    have h1 := St.blk_sz l hb.2 (clip 0) (by unfold clip; omega)
    omega) (hr.below hF h (Nat.le_refl _)))
  have HBR : Hid (RightB l → Blk l) := fun h => h.2
  clear hq hr hF hn
  by_cases h3 : (300 : Int) < q
  · go_enter Tryz.func6, Tryz.ntmps6
    go_wp2_with (go_at_call 19; (with_reducible refine HQ.out.mono ?_); rintro e w1 ⟨rfl, hb1⟩)
    go_ret
    exact ⟨false, rfl, fun h => (by cases h), hb1⟩
  by_cases hR : RightB l
  · have hB := HBR.out hR
    have hrb := HRB.out
    rw [dec_true hR] at hrb
    have hpb := fun W h => HPB.out W h hB
    obtain ⟨x, hx⟩ : ∃ x, St.blk l (clip 0) = x := ⟨_, rfl⟩
    simp only [hx] at hpb
    have HRT := Lib.hid hrb; have HPT := Lib.hid hpb; have HBL := Lib.hid hB
    clear hrb hpb hx hB hR HRB HPB HBR
    go_enter Tryz.func6, Tryz.ntmps6
    go_wp2_with (first | (go_at_call 19; (with_reducible refine HQ.out.mono ?_); rintro e w1 ⟨rfl, hb1⟩) | (go_at_call 20; (with_reducible refine (HRT.out _ hb1).mono ?_); rintro e w2 ⟨rfl, hb2⟩; have hB2 := bt hb1 hb2) | (go_at_call 11; (with_reducible refine (HPT.out _ hB2).mono ?_); rintro e w3 ⟨rfl, hb3⟩; have hB3 := bt hB2 hb3))
    go_ret
    exact ⟨_, rfl, fun _ => HBL.out, hB3⟩
  · have hrb := HRB.out
    rw [dec_false hR] at hrb
    have HRT := Lib.hid hrb
    clear hrb hR HRB HPB HBR
    go_enter Tryz.func6, Tryz.ntmps6
    go_wp2_with (first | (go_at_call 19; (with_reducible refine HQ.out.mono ?_); rintro e w1 ⟨rfl, hb1⟩) | (go_at_call 20; (with_reducible refine (HRT.out _ hb1).mono ?_); rintro e w2 ⟨rfl, hb2⟩; have hB2 := bt hb1 hb2))
    go_ret
    exact ⟨false, rfl, fun h => (by cases h), hB2⟩
set_option maxRecDepth 100000 in
set_option maxHeartbeats 4000000 in
theorem clausePrints_calls (l : List St) (D : Int) (F : Nat → Prop) (w : World) (v : Value) (hF : Inn F w) (ht : TB w) (hr : Sts F w l v) (hn : St.totals l ≤ 1048576) : Calls Tryz.prog 3 #[v, .int .i64 D] w (Gives w (.bool true)) := by
  have HLI := Lib.hid (light_calls l F w v hF hr hn)
  have HAW := Lib.hid (fun W (h : Below w.heap.size w W) => awakeC_calls W (ht.below h (Nat.le_refl _)))
  obtain ⟨a, cap, rfl⟩ := hr.shape
  obtain ⟨-, hlc, hc, ha⟩ := hr.opn
  have hsz : ∀ s ∈ l, StOk s → (s.pr (clip D)).size ≤ 1000000000000 := fun s hs ho => by
    have h1 := St.pr_sz s ho (clip D) (clip_le D)
    have h2 := St.total_mem l s hs
    omega
  have HPT : Hid (Blk l → ∀ i (hi : i < l.length) (cs : List Value), RdSt F w l[i] cs → ∀ W, Below w.heap.size w W → Calls Tryz.prog 8 #[.agg cs.toArray, .int .i64 D] W (Gives W (.string (l[i].pr (clip D))))) := fun hb i hi cs hcs W hW =>
    stPrintT_calls l[i] (lineT_calls l[i]) F W cs D (hF.below hW) (ht.below hW (Nat.le_refl _)) (hb.2 _ (List.getElem_mem hi)) (hsz _ (List.getElem_mem hi) (hb.2 _ (List.getElem_mem hi))) (hcs.below hF hW (Nat.le_refl _))
  have HPR : Hid (Blk l → ∀ i (hi : i < l.length) (cs : List Value), RdSt F w l[i] cs → ∀ W, Below w.heap.size w W → Calls Tryz.prog 9 #[.agg cs.toArray, .int .i64 D] W (Gives W (.string (l[i].pr (clip D))))) := fun hb i hi cs hcs W hW =>
    printSR_calls l[i] F W cs D (hF.below hW) (hb.2 _ (List.getElem_mem hi)) (hsz _ (List.getElem_mem hi) (hb.2 _ (List.getElem_mem hi))) (hcs.below hF hW (Nat.le_refl _))
  have hbz : Blk l → (St.blk l (clip D)).size ≤ 1000000000000 := fun hb => by
    have h1 := St.blk_sz l hb.2 (clip D) (clip_le D)
    omega
  have HBT : Hid (Blk l → ∀ W, Below w.heap.size w W → Calls Tryz.prog 10 #[.slice a l.length cap, .int .i64 D] W (Gives W (.string (St.blk l (clip D))))) := fun hb W hW => blkAllT_calls l F W _ D (hF.below hW) (ht.below hW (Nat.le_refl _)) hb.2 (hbz hb) (hr.below hF hW (Nat.le_refl _))
  have HBR : Hid (Blk l → ∀ W, Below w.heap.size w W → Calls Tryz.prog 11 #[.slice a l.length cap, .int .i64 D] W (Gives W (.string (St.blk l (clip D))))) := fun hb W hW => blkAllR_calls l F W _ D (hF.below hW) hb.2 (hbz hb) (hr.below hF hW (Nat.le_refl _))
  have HA := Lib.hid ha; have HF := Lib.hid hF
  clear ha hr hn hsz hbz ht hF
  go_enter Tryz.func3, Tryz.ntmps3
  go_wp2_with (go_at_call 6; (with_reducible refine HLI.out.mono ?_))
  rintro e w1 ⟨t, rfl, hbk, hb1⟩
  cases t
  · clear HPT HPR HBT HBR hbk
    go_wp2_with (go_at_call 7; (with_reducible refine (HAW.out _ hb1).mono ?_); rintro e w2 ⟨rfl, hb2⟩)
    go_ret
    exact ⟨rfl, btK hb1 hb2⟩
  have hb := hbk rfl
  have hpt := HPT.out hb; have hpr := HPR.out hb; have hbt := HBT.out hb; have hbr := HBR.out hb
  obtain ⟨xb, hxb⟩ : ∃ x, St.blk l (clip D) = x := ⟨_, rfl⟩
  simp only [hxb] at hbt hbr
  have HP1 := Lib.hid hpt; have HP2 := Lib.hid hpr; have HB1 := Lib.hid hbt; have HB2 := Lib.hid hbr; have HW1 := Lib.hid hb1
  clear hbk hb hpt hpr hbt hbr HPT HPR HBT HBR hxb hb1 HLI
  go_wp2
  go_loopw [13] (fun i wr => ∃ k : Nat, k ≤ l.length ∧ i = .int .i64 k ∧ Below w.heap.size w wr) (fun i _ => l.length - (intOf i).toNat)
  case atStart => exact ⟨0, Nat.zero_le _, rfl, HW1.out⟩
  case round =>
    obtain ⟨k, hk, rfl, hB⟩ := hrel
    have HB := Lib.hid hB
    clear hB
    by_cases hlt : k < l.length
    · have h1 : (k : Int) < (l.length : Int) := by omega
      obtain ⟨b, off, rfl, hFb, hel⟩ := HA.out (by omega)
      obtain ⟨kd, n0, s0, a0, m0, cap0, a2, m2, cap2, a3, m3, cap3, hx0, g0, g1, g2, g3, g4, g5⟩ := hel wr (HB.out.block b (HF.out b hFb)) k hlt
      have hc1 := HP1.out k hlt _ hx0
      have hc2 := HP2.out k hlt _ hx0
      obtain ⟨x, hx⟩ : ∃ x, l[k].pr (clip D) = x := ⟨_, rfl⟩
      simp only [hx] at hc1 hc2
      clear hx hx0 hel
      go_upto_region 6 with fail
      obtain ⟨wq, hwq⟩ : ∃ z, wr.alloc (.cells #[.int .i64 kd, .int .i64 n0, .string s0, .slice a0 m0 cap0, .slice a2 m2 cap2, .slice a3 m3 cap3] 27) = z := ⟨_, rfl⟩
      rw [hwq]
      have hbq : Below wr.heap.size wr wq := by rw [← hwq]; exact (Below.refl _ _).alloc (Nat.le_refl _) _
      have hyq : BoxT wq wr.heap.size [.int .i64 kd, .int .i64 n0, .string s0, .slice a0 m0 cap0, .slice a2 m2 cap2, .slice a3 m3 cap3] 27 := by rw [← hwq]; exact BoxT.new _ _ _
      have HBQ := Lib.hid (bt HB.out hbq)
      obtain ⟨y0, y1, y2, y3, y4, y5⟩ := hyq.cells6
      generalize wr.heap.size = y at y0 y1 y2 y3 y4 y5 ⊢
      have K {f : FuncId} {args : Array Value} {u : Value} (h : ∀ w', Below wq.heap.size wq w' → Calls Tryz.prog f args w' (Gives w' u)) (p : Regrown) : Calls Tryz.prog f args (grow (redrawn wq p.d) p.os) fun e w3 => e = .returned u ∧ ∃ p : Regrown, w3 = grow (redrawn wq p.d) p.os := regrown_gives (fun w3 hb => h w3 hb) p
      have G1 := Lib.hid (K (fun W hW => hc1 W (btK HBQ.out hW)))
      have G2 := Lib.hid (K (fun W hW => hc2 W (btK HBQ.out hW)))
      have c0 := fun d os => cell_regrown y0 d os; have c1 := fun d os => cell_regrown y1 d os; have c2 := fun d os => cell_regrown y2 d os; have c3 := fun d os => cell_regrown y3 d os; have c4 := fun d os => cell_regrown y4 d os; have c5 := fun d os => cell_regrown y5 d os
      clear K hc1 hc2 hwq hbq hyq
      refine wp_region_quiet_below (by kernel_rfl) (by kernel_rfl) ?_
      repeat (go_big_quiet_step (first | with_reducible exact G1.out _ | with_reducible exact G2.out _))
      refine wpQuiet_nil ?_
      intro w6 hw6
      have hb6 := below_of_regrown hw6
      clear hw6 c0 c1 c2 c3 c4 c5 G1 G2 y0 y1 y2 y3 y4 y5 g0 g1 g2 g3 g4 g5
      have HB6 := Lib.hid (btK HBQ.out hb6)
      clear hb6
      go_wp2
      go_roundw
      case rel => exact ⟨k + 1, by omega, by go_num, HB6.out⟩
      case measure => simp [intOf]; omega
    · have h1 : ¬ (k : Int) < (l.length : Int) := by omega
      obtain rfl : k = l.length := by omega
      go_wp2_with (first | (go_at_call 10; (with_reducible refine (HB1.out _ HB.out).mono ?_); rintro e w2 ⟨rfl, hb2⟩; have hB2 := btK HB.out hb2) | (go_at_call 11; (with_reducible refine (HB2.out _ hB2).mono ?_); rintro e w3 ⟨rfl, hb3⟩; have hB3 := btK hB2 hb3) | (go_at_call 7; (with_reducible refine (HAW.out _ hB3).mono ?_); rintro e w4 ⟨rfl, hb4⟩; have hB4 := btK hB3 hb4))
      go_ret
      exact ⟨rfl, hB4⟩
set_option maxRecDepth 100000 in
set_option maxHeartbeats 4000000 in
theorem tabs9_calls (d : Nat) (hd : d ≤ 64) (w : World) : Calls Tryz.prog 12 #[.int .i64 d] w (Gives w (.string (tabsB d))) := by
  go_enter Tryz.func12, Tryz.ntmps12
  go_wp2
  go_loopw [3, 5] (fun v i wr => ∃ k : Nat, k ≤ d ∧ i = .int .i64 k ∧ Hid (∃ A, v = .string A ∧ A = tabsB k) ∧ Below w.heap.size w wr) (fun _ i _ => d - (intOf i).toNat)
  case atStart => exact ⟨0, Nat.zero_le _, rfl, Lib.hid ⟨_, rfl, rfl⟩, Below.refl _ _⟩
  case round =>
    obtain ⟨k, hk, rfl, hA0, hB⟩ := hrel
    obtain ⟨A, rfl, hA⟩ := hA0.out
    have hz : A.size ≤ 64 := by rw [hA, tabsB_size]; omega
    have HA := Lib.hid hA
    have HB := Lib.hid hB
    clear hA hA0 hB
    by_cases hlt : k < d
    · have h1 : (k : Int) < (d : Int) := by omega
      have h2 : (k : Int) < 64 := by omega
      have HN : Hid (A ++ ⟨#[9]⟩ = tabsB (k + 1)) := Lib.hid (by rw [HA.out]; rfl)
      clear HA
      go_wp2_with fail
      go_roundw
      case rel => exact ⟨k + 1, by omega, by go_num, Lib.hid ⟨_, rfl, HN.out⟩, HB.out⟩
      case measure => simp [intOf]; omega
    · have h1 : ¬ (k : Int) < (d : Int) := by omega
      have hkd : k = d := by omega
      have hfin : Hid (A = tabsB d) := Lib.hid (by rw [HA.out, hkd])
      clear HA hkd
      go_wp2_with fail
      go_ret
      exact ⟨ret_str hfin.out, HB.out⟩
set_option maxRecDepth 100000 in
set_option maxHeartbeats 4000000 in
theorem clauseJoins_calls (l : List St) (n : Nat) (hn9 : n ≤ 255) (F : Nat → Prop) (w : World) (v : Value) (hF : Inn F w) (ht : TB w) (hr : Sts F w l v) (hn : St.totals l ≤ 1048576) : Calls Tryz.prog 4 #[v, .int .u8 n] w (Gives w (.bool true)) := by
  have HLI := Lib.hid (light_calls l F w v hF hr hn)
  have HAW := Lib.hid (fun W (h : Below w.heap.size w W) => awakeC_calls W (ht.below h (Nat.le_refl _)))
  obtain ⟨a, cap, rfl⟩ := hr.shape
  obtain ⟨-, hlc, hc, ha⟩ := hr.opn
  have e0 : (0 : Int) ≤ (n : Int) := by omega
  have e1 : (n : Int) ≤ 255 := by omega
  obtain ⟨d, hd, hd40⟩ : ∃ d : Nat, (n : Int) % 40 = (d : Int) ∧ d < 40 := ⟨n % 40, by omega, by omega⟩
  obtain ⟨ls, hls⟩ : ∃ ls, St.lns l (dn d) = ls := ⟨_, rfl⟩
  have hll : ls.length = l.length := by rw [← hls, St.lns_eq]; simp
  have hli : ∀ i (hi : i < l.length), l[i].ln (dn d) = ls[i]'(by rw [hll]; exact hi) := fun i hi => by
    have h1 : ls[i]? = some (l[i].ln (dn d)) := by rw [← hls, St.lns_eq, List.getElem?_map, List.getElem?_eq_getElem hi]; rfl
    rw [List.getElem?_eq_getElem (by rw [hll]; exact hi)] at h1
    exact (Option.some.inj h1).symm
  have hblk : St.blk l d = ⟨#[123, 10]⟩ ++ linesB (dn d) ls ++ tabsB d ++ ⟨#[125]⟩ := by rw [← hls]; rfl
  have hbz : Blk l → (St.blk l d).size ≤ 1000000000000 := fun hb => by
    have h1 := St.blk_sz l hb.2 d (by omega)
    omega
  have HSZ : Hid (Blk l → ∀ k : Nat, (⟨#[123, 10]⟩ ++ linesB (dn d) (ls.take k) : ByteArray).size ≤ 1000000000000) := fun hb k => by
    have h1 := hbz hb
    rw [hblk] at h1
    have h2 := linesB_take_le (dn d) ls k
    simp only [ByteArray.size_append] at h1 ⊢
    omega
  have HPT : Hid (Blk l → ∀ i (hi : i < l.length) (cs : List Value), RdSt F w l[i] cs → ∀ W, Below w.heap.size w W → Calls Tryz.prog 8 #[.agg cs.toArray, .int .i64 ((d : Int) + 1)] W (Gives W (.string (tabsB (dn d) ++ ls[i]'(by rw [hll]; exact hi) ++ ⟨#[10]⟩)))) := fun hb i hi cs hcs W hW => by
    have hz := St.pr_sz l[i] (hb.2 _ (List.getElem_mem hi)) (clip ((d : Int) + 1)) (clip_le _)
    have h2 := St.total_mem l l[i] (List.getElem_mem hi)
    have h4 := stPrintT_calls l[i] (lineT_calls l[i]) F W cs ((d : Int) + 1) (hF.below hW) (ht.below hW (Nat.le_refl _)) (hb.2 _ (List.getElem_mem hi)) (by omega) (hcs.below hF hW (Nat.le_refl _))
    rw [clip_dn] at h4
    unfold St.pr at h4
    rw [hli i hi] at h4
    exact h4
  have HBT : Hid (Blk l → ∀ W, Below w.heap.size w W → Calls Tryz.prog 10 #[.slice a l.length cap, .int .i64 d] W (Gives W (.string (⟨#[123, 10]⟩ ++ linesB (dn d) ls ++ tabsB d ++ ⟨#[125]⟩)))) := fun hb W hW => by
    have h4 := blkAllT_calls l F W _ (d : Int) (hF.below hW) (ht.below hW (Nat.le_refl _)) hb.2 (by rw [clip_nat (by omega)]; exact hbz hb) (hr.below hF hW (Nat.le_refl _))
    rw [clip_nat (by omega), hblk] at h4
    exact h4
  have HA := Lib.hid ha; have HF := Lib.hid hF; have HXL := Lib.hid hll; have HD := Lib.hid hd
  have hd1 : (d : Int) ≤ 40 := by omega
  clear ha hr hn hbz ht hF hblk hli hls hd hn9
  go_enter Tryz.func4, Tryz.ntmps4
  go_wp2_with (go_at_call 6; (with_reducible refine HLI.out.mono ?_))
  rintro e w1 ⟨t, rfl, hbk, hb1⟩
  cases t
  · clear HPT HBT HSZ hbk
    go_wp2_with (go_at_call 7; (with_reducible refine (HAW.out _ hb1).mono ?_); rintro e w2 ⟨rfl, hb2⟩)
    go_ret
    exact ⟨rfl, btK hb1 hb2⟩
  have hb := hbk rfl
  have hpt := HPT.out hb; have hbt := HBT.out hb; have hsz := HSZ.out hb
  have HP := Lib.hid hpt; have HB1 := Lib.hid hbt; have HW1 := Lib.hid hb1; have HZ := Lib.hid hsz
  clear hbk hb hpt hbt hsz HPT HBT HSZ hb1 HLI
  go_upto_region 4 with fail
  rw [HD.out]
  clear e0 e1 HD
  go_wp2
  go_loopw [6, 18] (fun v i wr => ∃ k : Nat, k ≤ l.length ∧ i = .int .i64 k ∧ Hid (∃ A, v = .string A ∧ A = ⟨#[123, 10]⟩ ++ linesB (dn d) (ls.take k)) ∧ Below w.heap.size w wr) (fun _ i _ => l.length - (intOf i).toNat)
  case atStart => exact ⟨0, Nat.zero_le _, rfl, Lib.hid ⟨_, rfl, by simp [linesB, app_emp]⟩, HW1.out⟩
  case round =>
    obtain ⟨k, hk, rfl, hA0, hB⟩ := hrel
    obtain ⟨A, rfl, hA⟩ := hA0.out
    have HAA := Lib.hid hA
    have HB := Lib.hid hB
    clear hA hA0 hB
    by_cases hlt : k < l.length
    · have h1 : (k : Int) < (l.length : Int) := by omega
      have hlk : k < ls.length := by rw [HXL.out]; exact hlt
      have hstep : linesB (dn d) (ls.take (k + 1)) = linesB (dn d) (ls.take k) ++ (tabsB (dn d) ++ ls[k] ++ ⟨#[10]⟩) := by
        rw [List.take_succ_eq_append_getElem hlk, linesB_snoc]
      have hnx : A ++ (tabsB (dn d) ++ ls[k] ++ ⟨#[10]⟩) = ⟨#[123, 10]⟩ ++ linesB (dn d) (ls.take (k + 1)) := by rw [HAA.out, hstep, ByteArray.append_assoc]
      have hz := HZ.out (k + 1)
      rw [← hnx] at hz
      obtain ⟨b, off, rfl, hFb, hel⟩ := HA.out (by omega)
      obtain ⟨kd, n0, s0, a0, m0, cap0, a2, m2, cap2, a3, m3, cap3, hx0, g0, g1, g2, g3, g4, g5⟩ := hel wr (HB.out.block b (HF.out b hFb)) k hlt
      have hc1 := HP.out k hlt _ hx0
      obtain ⟨x, hx⟩ : ∃ x, tabsB (dn d) ++ ls[k] ++ ⟨#[10]⟩ = x := ⟨_, rfl⟩
      rw [hx] at hz hnx
      simp only [hx] at hc1
      simp only [ByteArray.size_append] at hz
      have HN := Lib.hid hnx; have HC := Lib.hid hc1
      clear hx hx0 hel hstep hnx hc1 hlk
      go_upto_region 8 with fail
      obtain ⟨wq, hwq⟩ : ∃ z, wr.alloc (.cells #[.int .i64 kd, .int .i64 n0, .string s0, .slice a0 m0 cap0, .slice a2 m2 cap2, .slice a3 m3 cap3] 27) = z := ⟨_, rfl⟩
      rw [hwq]
      have hbq : Below wr.heap.size wr wq := by rw [← hwq]; exact (Below.refl _ _).alloc (Nat.le_refl _) _
      have hyq : BoxT wq wr.heap.size [.int .i64 kd, .int .i64 n0, .string s0, .slice a0 m0 cap0, .slice a2 m2 cap2, .slice a3 m3 cap3] 27 := by rw [← hwq]; exact BoxT.new _ _ _
      have HBQ := Lib.hid (bt HB.out hbq)
      obtain ⟨y0, y1, y2, y3, y4, y5⟩ := hyq.cells6
      generalize wr.heap.size = y at y0 y1 y2 y3 y4 y5 ⊢
      clear hwq hbq hyq g0 g1 g2 g3 g4 g5
      go_wp2_with (go_at_call 8; (with_reducible refine (HC.out _ HBQ.out).mono ?_); rintro e w2 ⟨rfl, hb2⟩; have HB2 := Lib.hid (btK HBQ.out hb2); clear y0 y1 y2 y3 y4 y5 hb2)
      go_roundw
      case rel => exact ⟨k + 1, by omega, by go_num, Lib.hid ⟨_, rfl, HN.out⟩, HB2.out⟩
      case measure => simp [intOf]; omega
    · have h1 : ¬ (k : Int) < (l.length : Int) := by omega
      have hAz : A.size ≤ 1000000000000 := by rw [HAA.out]; exact HZ.out k
      have hkl : ls.take k = ls := List.take_of_length_le (by rw [HXL.out]; omega)
      obtain ⟨x, hx⟩ : ∃ x, tabsB d = x := ⟨_, rfl⟩
      have hxz : x.size ≤ 64 := by rw [← hx, tabsB_size]; omega
      have hfin := HAA.out
      rw [hkl] at hfin
      have hT := fun W => tabs9_calls d (by omega) W
      have hbt := HB1.out
      rw [← hfin] at hbt
      simp only [hx] at hT hbt
      have HT2 := Lib.hid hT; have HB2 := Lib.hid hbt
      clear HAA hkl hx hfin hT hbt HB1 HZ HP
      go_wp2_with (first | (go_at_call 10; (with_reducible refine (HB2.out _ HB.out).mono ?_); rintro e w2 ⟨rfl, hb2⟩; have hB2 := btK HB.out hb2) | (go_at_call 12; (with_reducible refine (HT2.out _).mono ?_); rintro e w3 ⟨rfl, hb3⟩; have hB3 := btK hB2 hb3) | (go_at_call 7; (with_reducible refine (HAW.out _ hB3).mono ?_); rintro e w4 ⟨rfl, hb4⟩; have hB4 := btK hB3 hb4))
      go_ret
      exact ⟨rfl, hB4⟩
end Go.Proofs.YtnbfadgclffgkaaGreatDoor
