/- clewref19's listed and Nested. Printed by gen-ac9.py. -/
import Derived.Test.YtapjglpiofpbmaaGreatAdA
namespace Go.Proofs.YtapjglpiofpbmaaGreat
open Go.RowKit Go.Sort

theorem newB_inn (lo : Nat) (w : World) : Inn (NewB lo w.heap.size) w := fun _ hb => hb.2
/-- The things are within one another as they must be, each once. -/
def NestK (x : WorldD) : Prop := Nest x ∧ ∀ c, IsTh x.n c → (x.kids c).Nodup
set_option maxRecDepth 100000 in
set_option maxHeartbeats 8000000 in
theorem listed_some (F : Nat → Prop) (w : World) (x : WorldD) (cs : List Value) (hF : Inn F w) (hx : Holds.world.R F w x cs) (hsm : x.parent.length ≤ 1000000) (hcl : x.child.length = x.n) (hnl : x.next.length = x.n) (c0 : Int) (h0 : IsTh x.n c0) : Calls Tryz.prog 74 #[.agg cs.toArray, .int .i64 c0] w (SomeQ ((∀ c ∈ x.kids c0, atI x.parent c = c0) ∧ (x.kids c0).Nodup) w) := by
  have HK0 := Lib.hid (fun (W : World) (h : Below w.heap.size w W) => kids19_calls F W x cs (fun b hb => Nat.lt_of_lt_of_le (hF b hb) h.size) (Holds.world.keep (fun b hb => h.block b (hF b hb)) (fun _ h => h) hx) hsm c0)
  have HKT := Lib.hid (fun c (hc : c ∈ x.kids c0) => (kids_is hc).2)
  have HMEM : Hid ((∀ i (hi : i < (x.kids c0).length), atI x.parent (x.kids c0)[i] = c0 ∧ (x.kids c0).count (x.kids c0)[i] = 1) → ((∀ c ∈ x.kids c0, atI x.parent c = c0) ∧ (x.kids c0).Nodup)) := fun h => ⟨getI_mem (P := fun c => atI x.parent c = c0) fun i hi => (h i hi).1, List.nodup_iff_count.2 fun a => by
    by_cases ha : a ∈ x.kids c0
    · exact Nat.le_of_eq (getI_mem (P := fun c => (x.kids c0).count c = 1) (fun i hi => (h i hi).2) a ha)
    · rw [List.count_eq_zero_of_not_mem ha]; exact Nat.zero_le _⟩
  obtain ⟨j0, rfl, j1, j2⟩ := th_nat h0
  have hn9 : x.n = x.parent.length := rfl
  have HCL := Lib.hid hcl; have HNL := Lib.hid hnl
  have HL0 : Hid (∀ i (hi : i < (x.kids j0).length), IsTh x.n (x.kids j0)[i]) := fun i hi => (HKT.out _ (List.getElem_mem hi))
  generalize x.kids (j0 : Int) = l at HK0 HMEM HL0 ⊢
  have HN9 := Lib.hid hn9
  clear HKT h0 hcl hnl hn9
  obtain ⟨-, -, -, -, -, -, wv0, wv1, wv2, wv3, wv4, wv5, wv6, rfl, wg0, wg1, wg2, wg3, wg4, wg5, wg6⟩ := hx
  obtain ⟨wa0, wc0, rfl⟩ := wg0.shape
  have wl0 := wg0.len
  obtain ⟨wa1, wc1, rfl⟩ := wg1.shape
  have wl1 := wg1.len
  obtain ⟨wa2, wc2, rfl⟩ := wg2.shape
  have wl2 := wg2.len
  obtain ⟨wa3, wc3, rfl⟩ := wg3.shape
  have wl3 := wg3.len
  obtain ⟨wa4, wc4, rfl⟩ := wg4.shape
  have wl4 := wg4.len
  obtain ⟨wa5, wc5, rfl⟩ := wg5.shape
  have wl5 := wg5.len
  obtain ⟨wa6, wc6, rfl⟩ := wg6.shape
  have wl6 := wg6.len
  unfold maxLen at wl0 wl1 wl2 wl3 wl4 wl5 wl6
  obtain ⟨xa1, xc1, he1, -, -, hA1⟩ := RdInts.elem wg1 hF
  cases he1
  have WA1 := Lib.hid hA1
  clear hA1
  obtain ⟨xa2, xc2, he2, -, -, hA2⟩ := RdInts.elem wg2 hF
  cases he2
  have WA2 := Lib.hid hA2
  clear hA2
  obtain ⟨xa3, xc3, he3, -, -, hA3⟩ := RdInts.elem wg3 hF
  cases he3
  have WA3 := Lib.hid hA3
  clear hA3
  clear wg0 wg1 wg2 wg3 wg4 wg5 wg6
  obtain ⟨W1, hW1⟩ : ∃ z, w.alloc (.cells #[.slice wa0 x.globals.length wc0, .slice wa1 x.parent.length wc1, .slice wa2 x.child.length wc2, .slice wa3 x.next.length wc3, .slice wa4 x.flags.length wc4, .slice wa5 x.props.length wc5, .slice wa6 x.timers.length wc6, .int .u64 x.seed, .int .i64 x.score, .int .i64 x.turns, .int .i64 x.over, .int .i64 x.it, .int .i64 x.go] 31) = z := ⟨_, rfl⟩
  have hb1 : Below w.heap.size w W1 := by rw [← hW1]; exact (Below.refl _ _).alloc (Nat.le_refl _) _
  have hx1 : BoxT W1 w.heap.size [.slice wa0 x.globals.length wc0, .slice wa1 x.parent.length wc1, .slice wa2 x.child.length wc2, .slice wa3 x.next.length wc3, .slice wa4 x.flags.length wc4, .slice wa5 x.props.length wc5, .slice wa6 x.timers.length wc6, .int .u64 x.seed, .int .i64 x.score, .int .i64 x.turns, .int .i64 x.over, .int .i64 x.it, .int .i64 x.go] 31 := by rw [← hW1]; exact BoxT.new _ _ _
  have HW1 := Lib.hid hW1; have HBv := Lib.hid hb1; have HXv := Lib.hid hx1
  clear hW1 hb1 hx1
  go_enter Tryz.func74, Tryz.ntmps74
  go_upto_region 1 with fail
  rw [HW1.out]
  obtain ⟨WV, hWV⟩ : ∃ v, Value.agg #[.slice wa0 x.globals.length wc0, .slice wa1 x.parent.length wc1, .slice wa2 x.child.length wc2, .slice wa3 x.next.length wc3, .slice wa4 x.flags.length wc4, .slice wa5 x.props.length wc5, .slice wa6 x.timers.length wc6, .int .u64 x.seed, .int .i64 x.score, .int .i64 x.turns, .int .i64 x.over, .int .i64 x.it, .int .i64 x.go] = v := ⟨_, rfl⟩
  have HLW : Hid (∀ W, BoxT W w.heap.size [.slice wa0 x.globals.length wc0, .slice wa1 x.parent.length wc1, .slice wa2 x.child.length wc2, .slice wa3 x.next.length wc3, .slice wa4 x.flags.length wc4, .slice wa5 x.props.length wc5, .slice wa6 x.timers.length wc6, .int .u64 x.seed, .int .i64 x.score, .int .i64 x.turns, .int .i64 x.over, .int .i64 x.it, .int .i64 x.go] 31 → (Instr.loadAt 31 (.pointer (some ⟨w.heap.size, 0, none⟩))).run Tryz.prog W = .ok WV W) := fun W h => by
    rw [← hWV]
    exact run_loadAt_mid W _ 0 31 _ _ h.range Tryz.underlying31 rfl (by kernel_rfl)
  rw [hWV]
  clear HW1
  have HK := Lib.hid HK0.out
  rw [hWV] at HK
  clear hWV HK0
  have HX1 := HXv; have HB1 := HBv
  go_upto_region 2 with (first | ((with_reducible refine wpList_load_T 31 (.tmp 2) ?hw9 ⟨w.heap.size, 0, none⟩ ?hx9 WV (HLW.out _ HXv.out) ?_); (case hw9 => rfl); (case hx9 => first | rfl | (exact rfl))) | (go_at_call 76; (with_reducible refine (HK.out _ HBv.out).mono ?_); rintro e w1 ⟨v, rfl, hown, hb1⟩; have hrd := hown.rdl; clear hown; obtain ⟨va, vc, rfl⟩ := hrd.shape))
  have HXv := Lib.hid (HXv.out.below hb1)
  have HBv := Lib.hid (btK HBv.out hb1)
  have HRD := Lib.hid hrd
  have hCO := fun (W : World) (h : Below w1.heap.size w1 W) (m : Int) => count19_calls _ W _ _ (fun b hb => Nat.lt_of_lt_of_le (newB_inn _ w1 b hb) h.size) (RdL.below hrd (newB_inn _ w1) h (Nat.le_refl _)) m
  have HCO := Lib.hid hCO
  obtain ⟨ya, yc, he, -, -, hel⟩ := RdInts.elem hrd (newB_inn _ w1)
  cases he
  have hll := hrd.len
  unfold maxLen at hll
  have HEL := Lib.hid hel
  have HX2 := HXv; have HB2 := HBv
  clear hrd hel hb1 hCO HRD
  go_wp2
  go_loopw [6] (fun i wr => ∃ (k : Nat), k ≤ l.length ∧ i = .int .i64 k ∧ Hid (∀ i (hi : i < l.length), i < k → atI x.parent l[i] = j0 ∧ l.count l[i] = 1) ∧ Below w1.heap.size w1 wr) (fun i _ => l.length - (intOf i).toNat)
  case atStart => exact ⟨0, Nat.zero_le _, rfl, (fun i _ h => by omega), Below.refl _ _⟩
  case round =>
    obtain ⟨k, hk, rfl, HPA, hB⟩ := hrel
    have HXv := Lib.hid (HX2.out.below hB)
    have HBv := Lib.hid (btK HB2.out hB)
    have HBr := Lib.hid hB
    clear hB
    have wy1 := HXv.out.cell 1
    have wy2 := HXv.out.cell 2
    have wy3 := HXv.out.cell 3
    simp only [List.getElem?_cons_succ, List.getElem?_cons_zero] at wy1 wy2 wy3
    by_cases hlt : k < l.length
    rotate_left
    · have h1 : ¬ (k : Int) < (l.length : Int) := by omega
      have HF : Hid ((∀ c ∈ l, atI x.parent c = j0) ∧ l.Nodup) := HMEM.out fun i hi => HPA.out i hi (by omega)
      have j3 : (j0 : Int) < (x.child.length : Int) := by have := HCL.out; omega
      have j4 : (0 : Int) ≤ (j0 : Int) := by omega
      have j5 : j0 < x.child.length := by have := HCL.out; omega
      obtain ⟨b2, off2, rfl, hel2⟩ := WA2.out (by omega)
      have p2 := hel2 _ HBv.out j0 j5
      generalize x.child[j0] = y2 at p2
      clear hel2 j5 HPA
      rcases Nat.eq_zero_or_pos l.length with hz | hz
      · have z1 : ¬ (0 : Int) < (l.length : Int) := by omega
        clear hz hlt hk
        go_wp2
        go_ret
        exact ⟨_, rfl, (fun _ => HF.out), HBv.out⟩
      · obtain ⟨m, hm⟩ : ∃ m, l.length = m + 1 := ⟨l.length - 1, by omega⟩
        obtain ⟨vb, voff, rfl, hel4⟩ := HEL.out (by omega)
        have p4 := hel4 _ HBr.out m (by omega)
        have hth := HL0.out m (by omega)
        generalize l[m]'(by omega) = q at p4 hth
        obtain ⟨jq, rfl, jq1, jq2⟩ := th_nat hth
        have jq3 : (jq : Int) < (x.next.length : Int) := by have := HNL.out; omega
        have jq4 : (0 : Int) ≤ (jq : Int) := by omega
        have jq5 : jq < x.next.length := by have := HNL.out; omega
        obtain ⟨b3, off3, rfl, hel3⟩ := WA3.out (by omega)
        have p3 := hel3 _ HBv.out jq jq5
        generalize x.next[jq] = y3 at p3
        have hz1 : (0 : Int) < (l.length : Int) := by omega
        go_upto_region 9 with fail
        simp only [hm]
        have e3 := fun d os => cell_regrown wy3 d os
        have e4 := fun d os => cell_regrown p4 d os
        have e5 := fun d os => cell_regrown p3 d os
        have m0 : (0 : Int) ≤ (m : Int) := by omega
        have m1 : (m : Int) < (m : Int) + 1 := by omega
        have m2 : (m : Int) ≤ 9223372036854775806 := by omega
        clear wy1 wy2 wy3 p3 p4 p2 hel3 hel4 hth h1 hlt hk hz hz1 hm jq5
        as_aux_lemma =>
          refine wp_region_quiet_below (by kernel_rfl) (by kernel_rfl) ?_
          (try dsimp only [List.append])
          repeat (first | go_big_quiet_step (fail))
          with_reducible refine wpQuiet_nil ?_
          intro w3 hw3
          have hb3 := below_of_regrown hw3
          clear hw3
          go_wp2
          go_ret
          exact ⟨_, rfl, (fun _ => HF.out), btK HBv.out hb3⟩
    have h1 : (k : Int) < (l.length : Int) := by omega
    have h2 : (0 : Int) ≤ (k : Int) := by omega
    obtain ⟨vb, voff, rfl, hel4⟩ := HEL.out (by omega)
    have p4 := hel4 _ HBr.out k hlt
    have hth := HL0.out k hlt
    have HPN0 : Hid (atI x.parent l[k] = j0 ∧ l.count l[k] = 1 → ∀ i (hi : i < l.length), i < k + 1 → atI x.parent l[i] = j0 ∧ l.count l[i] = 1) := fun h i hi h2 => by
      rcases Nat.lt_or_ge i k with h9 | h9
      · exact HPA.out i hi h9
      · obtain rfl : i = k := by omega
        exact h
    generalize l[k] = q at p4 hth HPN0
    obtain ⟨jq, rfl, jq1, jq2⟩ := th_nat hth
    have jq3 : (jq : Int) < (x.parent.length : Int) := by have := HN9.out; omega
    have jq4 : (0 : Int) ≤ (jq : Int) := by omega
    have jq5 : jq < x.parent.length := by have := HN9.out; omega
    obtain ⟨b3, off3, rfl, hel3⟩ := WA1.out (by omega)
    have p3 := hel3 _ HBv.out jq jq5
    rw [← atI_get jq5] at p3
    go_wp2_with fail
    have e1 := fun d os => cell_regrown wy1 d os
    have e4 := fun d os => cell_regrown p4 d os
    by_cases hpe : atI x.parent (jq : Int) = j0
    · have HPN1 := Lib.hid (fun h => HPN0.out ⟨hpe, h⟩)
      rw [hpe] at p3
      have e5 := fun d os => cell_regrown p3 d os
      have g1 := regrownG (w := wr) fun w' h => HCO.out w' (btK HBr.out h) (jq : Int)
      clear wy1 wy2 wy3 p3 p4 hel3 hel4 hth hpe jq5 HPN0
      by_cases hcnt : List.count (jq : Int) l = 1
      · have HPN := Lib.hid (HPN1.out hcnt)
        rw [hcnt] at g1
        have G1 := Lib.hid g1
        clear g1 hcnt HPN1
        as_aux_lemma =>
          refine wp_region_quiet_below (by kernel_rfl) (by kernel_rfl) ?_
          (try dsimp only [List.append])
          repeat (first | go_big_quiet_step (first | with_reducible exact G1.out _))
          with_reducible refine wpQuiet_nil ?_
          intro w3 hw3
          have hb3 := below_of_regrown hw3
          clear hw3
          go_wp2
          all_goals
            first
            | (go_ret; exact ⟨_, rfl, (fun h => by cases h), btK HBv.out hb3⟩)
            | (go_roundw
               case rel => exact ⟨k + 1, by omega, by go_num, HPN.out, btK HBr.out hb3⟩
               case measure => simp [intOf]; omega)
      · have cn1 : (((List.count (jq : Int) l : Nat) : Int) != 1) = true := by rw [bne_iff_ne]; omega
        have G1 := Lib.hid g1
        clear g1 hcnt HPN1
        as_aux_lemma =>
          refine wp_region_quiet_below (by kernel_rfl) (by kernel_rfl) ?_
          (try dsimp only [List.append])
          repeat (first | go_big_quiet_step (first | with_reducible exact G1.out _))
          with_reducible refine wpQuiet_nil ?_
          intro w3 hw3
          have hb3 := below_of_regrown hw3
          clear hw3
          go_wp2
          go_ret
          exact ⟨_, rfl, (fun h => by cases h), btK HBv.out hb3⟩
    · have ne1 : (atI x.parent (jq : Int) == (j0 : Int)) = false := by simpa using hpe
      have ne2 : (atI x.parent (jq : Int) != (j0 : Int)) = true := by simp only [bne, ne1, Bool.not_false]
      have e5 := fun d os => cell_regrown p3 d os
      generalize atI x.parent (jq : Int) = z at e5 ne1 ne2
      clear wy1 wy2 wy3 p3 p4 hel3 hel4 hth hpe jq5 HPN0
      as_aux_lemma =>
        refine wp_region_quiet_below (by kernel_rfl) (by kernel_rfl) ?_
        (try dsimp only [List.append])
        repeat (first | go_big_quiet_step (fail))
        with_reducible refine wpQuiet_nil ?_
        intro w3 hw3
        have hb3 := below_of_regrown hw3
        clear hw3
        go_wp2
        go_ret
        exact ⟨_, rfl, (fun h => by cases h), btK HBv.out hb3⟩
set_option maxRecDepth 100000 in
set_option maxHeartbeats 8000000 in
theorem nested_some (F : Nat → Prop) (w : World) (x : WorldD) (cs : List Value) (hF : Inn F w) (hx : Holds.world.R F w x cs) (hsm : x.parent.length ≤ 1000000) : Calls Tryz.prog 34 #[.agg cs.toArray] w (SomeQ (NestK x) w) := by
  have HIS0 := Lib.hid (fun (W : World) (h : Below w.heap.size w W) (c : Int) => is19_calls F W x cs (fun b hb => Nat.lt_of_lt_of_le (hF b hb) h.size) (Holds.world.keep (fun b hb => h.block b (hF b hb)) (fun _ h => h) hx) c)
  have HLI0 := Lib.hid (fun (W : World) (h : Below w.heap.size w W) hcl hnl (c : Int) h0 => listed_some F W x cs (fun b hb => Nat.lt_of_lt_of_le (hF b hb) h.size) (Holds.world.keep (fun b hb => h.block b (hF b hb)) (fun _ h => h) hx) hsm hcl hnl c h0)
  have HWI0 := Lib.hid (fun (W : World) (h : Below w.heap.size w W) (c y : Int) => within19_calls F W x cs (fun b hb => Nat.lt_of_lt_of_le (hF b hb) h.size) (Holds.world.keep (fun b hb => h.block b (hF b hb)) (fun _ h => h) hx) c y)
  have HKI0 := Lib.hid (fun (W : World) (h : Below w.heap.size w W) (c : Int) => kids19_calls F W x cs (fun b hb => Nat.lt_of_lt_of_le (hF b hb) h.size) (Holds.world.keep (fun b hb => h.block b (hF b hb)) (fun _ h => h) hx) hsm c)
  have HSM := Lib.hid hsm
  have HN9 : Hid (x.n = x.parent.length) := rfl
  clear hsm
  obtain ⟨-, -, -, -, -, -, wv0, wv1, wv2, wv3, wv4, wv5, wv6, rfl, wg0, wg1, wg2, wg3, wg4, wg5, wg6⟩ := hx
  obtain ⟨wa0, wc0, rfl⟩ := wg0.shape
  have wl0 := wg0.len
  obtain ⟨wa1, wc1, rfl⟩ := wg1.shape
  have wl1 := wg1.len
  obtain ⟨wa2, wc2, rfl⟩ := wg2.shape
  have wl2 := wg2.len
  obtain ⟨wa3, wc3, rfl⟩ := wg3.shape
  have wl3 := wg3.len
  obtain ⟨wa4, wc4, rfl⟩ := wg4.shape
  have wl4 := wg4.len
  obtain ⟨wa5, wc5, rfl⟩ := wg5.shape
  have wl5 := wg5.len
  obtain ⟨wa6, wc6, rfl⟩ := wg6.shape
  have wl6 := wg6.len
  unfold maxLen at wl0 wl1 wl2 wl3 wl4 wl5 wl6
  obtain ⟨xa1, xc1, he1, -, -, hA1⟩ := RdInts.elem wg1 hF
  cases he1
  have WA1 := Lib.hid hA1
  clear hA1
  obtain ⟨xa2, xc2, he2, -, -, hA2⟩ := RdInts.elem wg2 hF
  cases he2
  have WA2 := Lib.hid hA2
  clear hA2
  obtain ⟨xa3, xc3, he3, -, -, hA3⟩ := RdInts.elem wg3 hF
  cases he3
  have WA3 := Lib.hid hA3
  clear hA3
  clear wg0 wg1 wg2 wg3 wg4 wg5 wg6
  obtain ⟨W1, hW1⟩ : ∃ z, w.alloc (.cells #[.slice wa0 x.globals.length wc0, .slice wa1 x.parent.length wc1, .slice wa2 x.child.length wc2, .slice wa3 x.next.length wc3, .slice wa4 x.flags.length wc4, .slice wa5 x.props.length wc5, .slice wa6 x.timers.length wc6, .int .u64 x.seed, .int .i64 x.score, .int .i64 x.turns, .int .i64 x.over, .int .i64 x.it, .int .i64 x.go] 31) = z := ⟨_, rfl⟩
  have hb1 : Below w.heap.size w W1 := by rw [← hW1]; exact (Below.refl _ _).alloc (Nat.le_refl _) _
  have hx1 : BoxT W1 w.heap.size [.slice wa0 x.globals.length wc0, .slice wa1 x.parent.length wc1, .slice wa2 x.child.length wc2, .slice wa3 x.next.length wc3, .slice wa4 x.flags.length wc4, .slice wa5 x.props.length wc5, .slice wa6 x.timers.length wc6, .int .u64 x.seed, .int .i64 x.score, .int .i64 x.turns, .int .i64 x.over, .int .i64 x.it, .int .i64 x.go] 31 := by rw [← hW1]; exact BoxT.new _ _ _
  have HW1 := Lib.hid hW1; have HBv := Lib.hid hb1; have HXv := Lib.hid hx1
  clear hW1 hb1 hx1
  go_enter Tryz.func34, Tryz.ntmps34
  go_upto_region 1 with fail
  rw [HW1.out]
  obtain ⟨WV, hWV⟩ : ∃ v, Value.agg #[.slice wa0 x.globals.length wc0, .slice wa1 x.parent.length wc1, .slice wa2 x.child.length wc2, .slice wa3 x.next.length wc3, .slice wa4 x.flags.length wc4, .slice wa5 x.props.length wc5, .slice wa6 x.timers.length wc6, .int .u64 x.seed, .int .i64 x.score, .int .i64 x.turns, .int .i64 x.over, .int .i64 x.it, .int .i64 x.go] = v := ⟨_, rfl⟩
  have HLW : Hid (∀ W, BoxT W w.heap.size [.slice wa0 x.globals.length wc0, .slice wa1 x.parent.length wc1, .slice wa2 x.child.length wc2, .slice wa3 x.next.length wc3, .slice wa4 x.flags.length wc4, .slice wa5 x.props.length wc5, .slice wa6 x.timers.length wc6, .int .u64 x.seed, .int .i64 x.score, .int .i64 x.turns, .int .i64 x.over, .int .i64 x.it, .int .i64 x.go] 31 → (Instr.loadAt 31 (.pointer (some ⟨w.heap.size, 0, none⟩))).run Tryz.prog W = .ok WV W) := fun W h => by
    rw [← hWV]
    exact run_loadAt_mid W _ 0 31 _ _ h.range Tryz.underlying31 rfl (by kernel_rfl)
  rw [hWV]
  clear HW1
  have HIS := Lib.hid HIS0.out; have HLIa := Lib.hid HLI0.out; have HWIa := Lib.hid HWI0.out; have HKIa := Lib.hid HKI0.out
  rw [hWV] at HIS HLIa HWIa HKIa
  clear hWV HIS0 HLI0 HWI0 HKI0
  have HB1 := HBv
  have wy1 := HXv.out.cell 1
  have wy2 := HXv.out.cell 2
  have wy3 := HXv.out.cell 3
  simp only [List.getElem?_cons_succ, List.getElem?_cons_zero] at wy1 wy2 wy3
  rcases Nat.eq_zero_or_pos x.parent.length with hz | hz
  · simp only [hz] at wy1
    clear hz
    go_wp2
    go_ret
    exact ⟨_, rfl, (fun h => by cases h), HBv.out⟩
  have z1 : ((x.parent.length : Int) == 0) = false := by rw [beq_eq_false_iff_ne]; omega
  have z2 : ¬ (x.parent.length : Int) = 0 := by omega
  by_cases hcl : x.child.length = x.parent.length
  rotate_left
  · have e1 : ((x.child.length : Int) != (x.parent.length : Int)) = true := by first | (rw [bne_iff_ne]; omega) | (rw [bne_eq_false_iff_eq]; omega)
    clear hcl
    go_wp2
    go_ret
    exact ⟨_, rfl, (fun h => by cases h), HBv.out⟩
  by_cases hnl : x.next.length = x.parent.length
  rotate_left
  · have e1 : ((x.child.length : Int) != (x.parent.length : Int)) = false := by first | (rw [bne_iff_ne]; omega) | (rw [bne_eq_false_iff_eq]; omega)
    have e2 : ((x.next.length : Int) != (x.parent.length : Int)) = true := by first | (rw [bne_iff_ne]; omega) | (rw [bne_eq_false_iff_eq]; omega)
    clear hnl hcl
    go_wp2
    go_ret
    exact ⟨_, rfl, (fun h => by cases h), HBv.out⟩
  have e1 : ((x.child.length : Int) != (x.parent.length : Int)) = false := by first | (rw [bne_iff_ne]; omega) | (rw [bne_eq_false_iff_eq]; omega)
  have e2 : ((x.next.length : Int) != (x.parent.length : Int)) = false := by first | (rw [bne_iff_ne]; omega) | (rw [bne_eq_false_iff_eq]; omega)
  have l1 : (0 : Int) < (x.parent.length : Int) := by omega
  have l2 : (0 : Int) < (x.child.length : Int) := by omega
  have l3 : (0 : Int) < (x.next.length : Int) := by omega
  have l4 : 0 < x.child.length := by omega
  have l5 : 0 < x.next.length := by omega
  have HCL := Lib.hid hcl; have HNL := Lib.hid hnl
  clear hcl hnl
  have HLI := Lib.hid (fun W h c h0 => HLIa.out W h HCL.out HNL.out c h0)
  obtain ⟨xb1, xo1, rfl, hel1⟩ := WA1.out (by omega)
  obtain ⟨xb2, xo2, rfl, hel2⟩ := WA2.out (by omega)
  obtain ⟨xb3, xo3, rfl, hel3⟩ := WA3.out (by omega)
  have c1 := hel1 _ HBv.out 0 (by omega)
  have c2 := hel2 _ HBv.out 0 (by omega)
  have c3 := hel3 _ HBv.out 0 (by omega)
  rw [Nat.add_zero] at c1 c2 c3
  generalize x.parent[0] = d1 at c1
  generalize x.child[0] = d2 at c2
  generalize x.next[0] = d3 at c3
  have HE1 := Lib.hid hel1; have HE3 := Lib.hid hel3
  clear hel1 hel2 hel3 WA1 WA2 WA3
  have hd1 : d1 = 0 ∨ (d1 != 0) = true := by by_cases h : d1 = 0 <;> simp [h]
  have hd2 : d2 = 0 ∨ (d2 != 0) = true := by by_cases h : d2 = 0 <;> simp [h]
  have hd3 : d3 = 0 ∨ (d3 != 0) = true := by by_cases h : d3 = 0 <;> simp [h]
  rcases hd1 with rfl | hd1
  rotate_left
  · clear hd2 hd3
    go_wp2
    all_goals
      go_ret
      exact ⟨_, rfl, (fun h => by cases h), HBv.out⟩
  rcases hd2 with rfl | hd2
  rotate_left
  · clear hd3
    go_wp2
    all_goals
      go_ret
      exact ⟨_, rfl, (fun h => by cases h), HBv.out⟩
  rcases hd3 with rfl | hd3
  rotate_left
  · go_wp2
    all_goals
      go_ret
      exact ⟨_, rfl, (fun h => by cases h), HBv.out⟩
  go_wp2
  clear c1 c2 c3 wy1 wy2 wy3
  go_loopw [4] (fun i wr => ∃ (k : Nat), 1 ≤ k ∧ k ≤ x.parent.length ∧ i = .int .i64 k ∧ Hid (∀ i : Nat, 1 ≤ i → i < k → (((∀ c ∈ x.kids (i : Int), atI x.parent c = (i : Int)) ∧ (x.kids (i : Int)).Nodup) ∧ (IsTh x.n (atI x.parent (i : Int)) → inF x.parent x.n (i : Int) x.n (atI x.parent (i : Int)) = false))) ∧ Below w.heap.size w wr ∧ BoxT wr w.heap.size [.slice wa0 x.globals.length wc0, .slice (some ⟨xb1, xo1, none⟩) x.parent.length wc1, .slice (some ⟨xb2, xo2, none⟩) x.child.length wc2, .slice (some ⟨xb3, xo3, none⟩) x.next.length wc3, .slice wa4 x.flags.length wc4, .slice wa5 x.props.length wc5, .slice wa6 x.timers.length wc6, .int .u64 x.seed, .int .i64 x.score, .int .i64 x.turns, .int .i64 x.over, .int .i64 x.it, .int .i64 x.go] 31) (fun i _ => x.parent.length - (intOf i).toNat)
  case atStart => exact ⟨1, Nat.le_refl _, by omega, rfl, (fun i h1 h2 => by omega), HBv.out, HXv.out⟩
  case round =>
    obtain ⟨k, hk1, hk, rfl, HPA, hB, hX⟩ := hrel
    have HBv := Lib.hid hB
    have HXv := Lib.hid hX
    clear hB hX
    have wy1 := HXv.out.cell 1
    have wy2 := HXv.out.cell 2
    have wy3 := HXv.out.cell 3
    simp only [List.getElem?_cons_succ, List.getElem?_cons_zero] at wy1 wy2 wy3
    by_cases hlt : k < x.parent.length
    rotate_left
    · have h1 : ¬ (k : Int) < (x.parent.length : Int) := by omega
      have HF : Hid (NestK x) := by
        refine ⟨⟨HCL.out, HNL.out, hz, fun c hc => ?_, fun c hc => ?_⟩, fun c hc => ?_⟩
        · obtain ⟨i, rfl, i1, i2⟩ := th_nat hc
          exact (HPA.out i i1 (by have := HN9.out; omega)).1.1
        rotate_left
        · obtain ⟨i, rfl, i1, i2⟩ := th_nat hc
          exact (HPA.out i i1 (by have := HN9.out; omega)).1.2
        · obtain ⟨i, rfl, i1, i2⟩ := th_nat hc
          exact (HPA.out i i1 (by have := HN9.out; omega)).2
      clear hz
      go_wp2
      go_ret
      exact ⟨_, rfl, (fun _ => HF.out), HBv.out⟩
    have h1 : (k : Int) < (x.parent.length : Int) := by omega
    have h2 : (0 : Int) ≤ (k : Int) := by omega
    have h3 : (k : Int) < (x.next.length : Int) := by have := HNL.out; omega
    have hth : IsTh x.n (k : Int) := by have := HN9.out; unfold IsTh; omega
    have HLK := Lib.hid (fun W h => HLI.out W h (k : Int) hth)
    have HPN : Hid (((∀ c ∈ x.kids (k : Int), atI x.parent c = (k : Int)) ∧ (x.kids (k : Int)).Nodup) → (IsTh x.n (atI x.parent (k : Int)) → inF x.parent x.n (k : Int) x.n (atI x.parent (k : Int)) = false) → ∀ i : Nat, 1 ≤ i → i < k + 1 → (((∀ c ∈ x.kids (i : Int), atI x.parent c = (i : Int)) ∧ (x.kids (i : Int)).Nodup) ∧ (IsTh x.n (atI x.parent (i : Int)) → inF x.parent x.n (i : Int) x.n (atI x.parent (i : Int)) = false))) := fun q1 q2 i i1 i2 => by
      rcases Nat.lt_or_ge i k with h9 | h9
      · exact HPA.out i i1 h9
      · obtain rfl : i = k := by omega
        exact ⟨q1, q2⟩
    have hpk : ∀ W, Below w.heap.size w W → W.cell? ⟨xb1, xo1 + k, none⟩ = some (.int .i64 (atI x.parent (k : Int))) ∧ W.cell? ⟨xb3, xo3 + k, none⟩ = some (.int .i64 (atI x.next (k : Int))) := fun W h => by
      rw [atI_get hlt, atI_get (by have := HNL.out; omega : k < x.next.length)]
      exact ⟨HE1.out W h k hlt, HE3.out W h k (by have := HNL.out; omega)⟩
    have HPK := Lib.hid hpk
    have HWK := Lib.hid (fun W h => HWIa.out W h (atI x.parent (k : Int)) (k : Int))
    have HKK := Lib.hid (fun W h => HKIa.out W h (atI x.parent (k : Int)))
    generalize atI x.parent (k : Int) = p at HPN HPK HWK HKK
    generalize atI x.next (k : Int) = d at HPK
    have HISq := Lib.hid (fun W h => HIS.out W h p)
    clear hpk hth HPA
    by_cases hp : p = 0
    · subst hp
      obtain ⟨p1, p3⟩ := HPK.out _ HBv.out
      have hnt : ¬ IsTh x.n 0 := by unfold IsTh; omega
      have hh := HISq.out
      rw [decide_eq_false hnt] at hh
      have HISp := Lib.hid hh
      have HQ9 : Hid (IsTh x.n 0 → inF x.parent x.n (k : Int) x.n 0 = false) := fun h => absurd h hnt
      clear hh hnt
      have hd : d = 0 ∨ (d != 0) = true := by by_cases h : d = 0 <;> simp [h]
      rcases hd with rfl | hd
      · go_wp2_with (first | ((with_reducible refine wpList_load_T 31 (.tmp 1) ?hw9 ⟨w.heap.size, 0, none⟩ ?hx9 WV (HLW.out _ HXv.out) ?_); (case hw9 => rfl); (case hx9 => first | rfl | (exact rfl))) | (go_at_call 73; (with_reducible refine (HISp.out _ HBv.out).mono ?_); rintro e w1 ⟨rfl, hb1⟩ <;> (have HXv := Lib.hid (HXv.out.below hb1); have HBv := Lib.hid (btK HBv.out hb1); clear wy1 wy2 wy3; have wy1 := HXv.out.cell 1; have wy2 := HXv.out.cell 2; have wy3 := HXv.out.cell 3; simp only [List.getElem?_cons_succ, List.getElem?_cons_zero] at wy1 wy2 wy3)) | (go_at_call 74; (with_reducible refine (HLK.out _ HBv.out).mono ?_); rintro e w1 ⟨_ | _, rfl, hP, hb1⟩ <;> (first | (have HP9 := Lib.hid (hP rfl); clear hP) | clear hP) <;> (have HXv := Lib.hid (HXv.out.below hb1); have HBv := Lib.hid (btK HBv.out hb1); clear wy1 wy2 wy3; have wy1 := HXv.out.cell 1; have wy2 := HXv.out.cell 2; have wy3 := HXv.out.cell 3; simp only [List.getElem?_cons_succ, List.getElem?_cons_zero] at wy1 wy2 wy3)) | (go_at_call 77; (with_reducible refine (HWK.out _ HBv.out).mono ?_); rintro e w1 ⟨rfl, hb1⟩ <;> (have HXv := Lib.hid (HXv.out.below hb1); have HBv := Lib.hid (btK HBv.out hb1); clear wy1 wy2 wy3; have wy1 := HXv.out.cell 1; have wy2 := HXv.out.cell 2; have wy3 := HXv.out.cell 3; simp only [List.getElem?_cons_succ, List.getElem?_cons_zero] at wy1 wy2 wy3)))
        all_goals
          first
          | (go_ret; exact ⟨_, rfl, (fun h => by cases h), HBv.out⟩)
          | (go_roundw
             case rel => exact ⟨k + 1, by omega, by omega, by go_num, HPN.out HP9.out HQ9.out, HBv.out, HXv.out⟩
             case measure => simp [intOf]; omega)
      · go_wp2_with (first | ((with_reducible refine wpList_load_T 31 (.tmp 1) ?hw9 ⟨w.heap.size, 0, none⟩ ?hx9 WV (HLW.out _ HXv.out) ?_); (case hw9 => rfl); (case hx9 => first | rfl | (exact rfl))) | (go_at_call 73; (with_reducible refine (HISp.out _ HBv.out).mono ?_); rintro e w1 ⟨rfl, hb1⟩ <;> (have HXv := Lib.hid (HXv.out.below hb1); have HBv := Lib.hid (btK HBv.out hb1); clear wy1 wy2 wy3; have wy1 := HXv.out.cell 1; have wy2 := HXv.out.cell 2; have wy3 := HXv.out.cell 3; simp only [List.getElem?_cons_succ, List.getElem?_cons_zero] at wy1 wy2 wy3)) | (go_at_call 74; (with_reducible refine (HLK.out _ HBv.out).mono ?_); rintro e w1 ⟨_ | _, rfl, hP, hb1⟩ <;> (first | (have HP9 := Lib.hid (hP rfl); clear hP) | clear hP) <;> (have HXv := Lib.hid (HXv.out.below hb1); have HBv := Lib.hid (btK HBv.out hb1); clear wy1 wy2 wy3; have wy1 := HXv.out.cell 1; have wy2 := HXv.out.cell 2; have wy3 := HXv.out.cell 3; simp only [List.getElem?_cons_succ, List.getElem?_cons_zero] at wy1 wy2 wy3)) | (go_at_call 77; (with_reducible refine (HWK.out _ HBv.out).mono ?_); rintro e w1 ⟨rfl, hb1⟩ <;> (have HXv := Lib.hid (HXv.out.below hb1); have HBv := Lib.hid (btK HBv.out hb1); clear wy1 wy2 wy3; have wy1 := HXv.out.cell 1; have wy2 := HXv.out.cell 2; have wy3 := HXv.out.cell 3; simp only [List.getElem?_cons_succ, List.getElem?_cons_zero] at wy1 wy2 wy3)))
        all_goals
          go_ret
          exact ⟨_, rfl, (fun h => by cases h), HBv.out⟩
    obtain ⟨p1, p3⟩ := HPK.out _ HBv.out
    have n1 : (p == 0) = false := by simpa using hp
    have n2 : (p != 0) = true := by simp only [bne, n1, Bool.not_false]
    by_cases hpt : IsTh x.n p
    rotate_left
    · have hh := HISq.out
      rw [decide_eq_false hpt] at hh
      have HISp := Lib.hid hh
      clear hh hpt hp
      go_wp2_with (first | ((with_reducible refine wpList_load_T 31 (.tmp 1) ?hw9 ⟨w.heap.size, 0, none⟩ ?hx9 WV (HLW.out _ HXv.out) ?_); (case hw9 => rfl); (case hx9 => first | rfl | (exact rfl))) | (go_at_call 73; (with_reducible refine (HISp.out _ HBv.out).mono ?_); rintro e w1 ⟨rfl, hb1⟩ <;> (have HXv := Lib.hid (HXv.out.below hb1); have HBv := Lib.hid (btK HBv.out hb1); clear wy1 wy2 wy3; have wy1 := HXv.out.cell 1; have wy2 := HXv.out.cell 2; have wy3 := HXv.out.cell 3; simp only [List.getElem?_cons_succ, List.getElem?_cons_zero] at wy1 wy2 wy3)) | (go_at_call 74; (with_reducible refine (HLK.out _ HBv.out).mono ?_); rintro e w1 ⟨_ | _, rfl, hP, hb1⟩ <;> (first | (have HP9 := Lib.hid (hP rfl); clear hP) | clear hP) <;> (have HXv := Lib.hid (HXv.out.below hb1); have HBv := Lib.hid (btK HBv.out hb1); clear wy1 wy2 wy3; have wy1 := HXv.out.cell 1; have wy2 := HXv.out.cell 2; have wy3 := HXv.out.cell 3; simp only [List.getElem?_cons_succ, List.getElem?_cons_zero] at wy1 wy2 wy3)) | (go_at_call 77; (with_reducible refine (HWK.out _ HBv.out).mono ?_); rintro e w1 ⟨rfl, hb1⟩ <;> (have HXv := Lib.hid (HXv.out.below hb1); have HBv := Lib.hid (btK HBv.out hb1); clear wy1 wy2 wy3; have wy1 := HXv.out.cell 1; have wy2 := HXv.out.cell 2; have wy3 := HXv.out.cell 3; simp only [List.getElem?_cons_succ, List.getElem?_cons_zero] at wy1 wy2 wy3)))
      all_goals
        go_ret
        exact ⟨_, rfl, (fun h => by cases h), HBv.out⟩
    have hh := HISq.out
    rw [decide_eq_true hpt] at hh
    have HISp := Lib.hid hh
    clear hh hpt hp
    generalize x.kids p = lk at HKK
    generalize inF x.parent x.n (k : Int) x.n p = iv at HPN HWK
    have hcn : (((List.count (k : Int) lk : Nat) : Int) != 1) = true ∨ (((List.count (k : Int) lk : Nat) : Int) != 1) = false := by cases h : (((List.count (k : Int) lk : Nat) : Int) != 1) <;> simp
    rcases hcn with hcn | hcn
    · go_wp2_with (first | ((with_reducible refine wpList_load_T 31 (.tmp 1) ?hw9 ⟨w.heap.size, 0, none⟩ ?hx9 WV (HLW.out _ HXv.out) ?_); (case hw9 => rfl); (case hx9 => first | rfl | (exact rfl))) | (go_at_call 73; (with_reducible refine (HISp.out _ HBv.out).mono ?_); rintro e w1 ⟨rfl, hb1⟩ <;> (have HXv := Lib.hid (HXv.out.below hb1); have HBv := Lib.hid (btK HBv.out hb1); clear wy1 wy2 wy3; have wy1 := HXv.out.cell 1; have wy2 := HXv.out.cell 2; have wy3 := HXv.out.cell 3; simp only [List.getElem?_cons_succ, List.getElem?_cons_zero] at wy1 wy2 wy3)) | (go_at_call 74; (with_reducible refine (HLK.out _ HBv.out).mono ?_); rintro e w1 ⟨_ | _, rfl, hP, hb1⟩ <;> (first | (have HP9 := Lib.hid (hP rfl); clear hP) | clear hP) <;> (have HXv := Lib.hid (HXv.out.below hb1); have HBv := Lib.hid (btK HBv.out hb1); clear wy1 wy2 wy3; have wy1 := HXv.out.cell 1; have wy2 := HXv.out.cell 2; have wy3 := HXv.out.cell 3; simp only [List.getElem?_cons_succ, List.getElem?_cons_zero] at wy1 wy2 wy3)) | (go_at_call 77; (with_reducible refine (HWK.out _ HBv.out).mono ?_); rintro e w1 ⟨rfl, hb1⟩ <;> (have HXv := Lib.hid (HXv.out.below hb1); have HBv := Lib.hid (btK HBv.out hb1); clear wy1 wy2 wy3; have wy1 := HXv.out.cell 1; have wy2 := HXv.out.cell 2; have wy3 := HXv.out.cell 3; simp only [List.getElem?_cons_succ, List.getElem?_cons_zero] at wy1 wy2 wy3)) | (go_at_call 76; (with_reducible refine (HKK.out _ HBv.out).mono ?_); rintro e w1 ⟨v, rfl, hown, hb1⟩; have HXv := Lib.hid (HXv.out.below hb1); have HBv := Lib.hid (btK HBv.out hb1); clear wy1 wy2 wy3; have wy1 := HXv.out.cell 1; have wy2 := HXv.out.cell 2; have wy3 := HXv.out.cell 3; simp only [List.getElem?_cons_succ, List.getElem?_cons_zero] at wy1 wy2 wy3; have hrd := hown.rdl; clear hown; (obtain ⟨va, vc, rfl⟩ := hrd.shape); have HCN := Lib.hid (count19_calls _ _ _ _ (newB_inn _ _) hrd (k : Int)); clear hrd) | (go_at_call 75; (with_reducible refine (HCN.out).mono ?_); rintro e w1 ⟨rfl, hb1⟩ <;> (have HXv := Lib.hid (HXv.out.below hb1); have HBv := Lib.hid (btK HBv.out hb1); clear wy1 wy2 wy3; have wy1 := HXv.out.cell 1; have wy2 := HXv.out.cell 2; have wy3 := HXv.out.cell 3; simp only [List.getElem?_cons_succ, List.getElem?_cons_zero] at wy1 wy2 wy3)))
      all_goals
        go_ret
        exact ⟨_, rfl, (fun h => by cases h), HBv.out⟩
    · cases iv
      · have HQ9 : Hid (IsTh x.n p → false = false) := fun _ => rfl
        go_wp2_with (first | ((with_reducible refine wpList_load_T 31 (.tmp 1) ?hw9 ⟨w.heap.size, 0, none⟩ ?hx9 WV (HLW.out _ HXv.out) ?_); (case hw9 => rfl); (case hx9 => first | rfl | (exact rfl))) | (go_at_call 73; (with_reducible refine (HISp.out _ HBv.out).mono ?_); rintro e w1 ⟨rfl, hb1⟩ <;> (have HXv := Lib.hid (HXv.out.below hb1); have HBv := Lib.hid (btK HBv.out hb1); clear wy1 wy2 wy3; have wy1 := HXv.out.cell 1; have wy2 := HXv.out.cell 2; have wy3 := HXv.out.cell 3; simp only [List.getElem?_cons_succ, List.getElem?_cons_zero] at wy1 wy2 wy3)) | (go_at_call 74; (with_reducible refine (HLK.out _ HBv.out).mono ?_); rintro e w1 ⟨_ | _, rfl, hP, hb1⟩ <;> (first | (have HP9 := Lib.hid (hP rfl); clear hP) | clear hP) <;> (have HXv := Lib.hid (HXv.out.below hb1); have HBv := Lib.hid (btK HBv.out hb1); clear wy1 wy2 wy3; have wy1 := HXv.out.cell 1; have wy2 := HXv.out.cell 2; have wy3 := HXv.out.cell 3; simp only [List.getElem?_cons_succ, List.getElem?_cons_zero] at wy1 wy2 wy3)) | (go_at_call 77; (with_reducible refine (HWK.out _ HBv.out).mono ?_); rintro e w1 ⟨rfl, hb1⟩ <;> (have HXv := Lib.hid (HXv.out.below hb1); have HBv := Lib.hid (btK HBv.out hb1); clear wy1 wy2 wy3; have wy1 := HXv.out.cell 1; have wy2 := HXv.out.cell 2; have wy3 := HXv.out.cell 3; simp only [List.getElem?_cons_succ, List.getElem?_cons_zero] at wy1 wy2 wy3)) | (go_at_call 76; (with_reducible refine (HKK.out _ HBv.out).mono ?_); rintro e w1 ⟨v, rfl, hown, hb1⟩; have HXv := Lib.hid (HXv.out.below hb1); have HBv := Lib.hid (btK HBv.out hb1); clear wy1 wy2 wy3; have wy1 := HXv.out.cell 1; have wy2 := HXv.out.cell 2; have wy3 := HXv.out.cell 3; simp only [List.getElem?_cons_succ, List.getElem?_cons_zero] at wy1 wy2 wy3; have hrd := hown.rdl; clear hown; (obtain ⟨va, vc, rfl⟩ := hrd.shape); have HCN := Lib.hid (count19_calls _ _ _ _ (newB_inn _ _) hrd (k : Int)); clear hrd) | (go_at_call 75; (with_reducible refine (HCN.out).mono ?_); rintro e w1 ⟨rfl, hb1⟩ <;> (have HXv := Lib.hid (HXv.out.below hb1); have HBv := Lib.hid (btK HBv.out hb1); clear wy1 wy2 wy3; have wy1 := HXv.out.cell 1; have wy2 := HXv.out.cell 2; have wy3 := HXv.out.cell 3; simp only [List.getElem?_cons_succ, List.getElem?_cons_zero] at wy1 wy2 wy3)))
        all_goals
          first
          | (go_ret; exact ⟨_, rfl, (fun h => by cases h), HBv.out⟩)
          | (go_roundw
             case rel => exact ⟨k + 1, by omega, by omega, by go_num, HPN.out HP9.out HQ9.out, HBv.out, HXv.out⟩
             case measure => simp [intOf]; omega)
      · go_wp2_with (first | ((with_reducible refine wpList_load_T 31 (.tmp 1) ?hw9 ⟨w.heap.size, 0, none⟩ ?hx9 WV (HLW.out _ HXv.out) ?_); (case hw9 => rfl); (case hx9 => first | rfl | (exact rfl))) | (go_at_call 73; (with_reducible refine (HISp.out _ HBv.out).mono ?_); rintro e w1 ⟨rfl, hb1⟩ <;> (have HXv := Lib.hid (HXv.out.below hb1); have HBv := Lib.hid (btK HBv.out hb1); clear wy1 wy2 wy3; have wy1 := HXv.out.cell 1; have wy2 := HXv.out.cell 2; have wy3 := HXv.out.cell 3; simp only [List.getElem?_cons_succ, List.getElem?_cons_zero] at wy1 wy2 wy3)) | (go_at_call 74; (with_reducible refine (HLK.out _ HBv.out).mono ?_); rintro e w1 ⟨_ | _, rfl, hP, hb1⟩ <;> (first | (have HP9 := Lib.hid (hP rfl); clear hP) | clear hP) <;> (have HXv := Lib.hid (HXv.out.below hb1); have HBv := Lib.hid (btK HBv.out hb1); clear wy1 wy2 wy3; have wy1 := HXv.out.cell 1; have wy2 := HXv.out.cell 2; have wy3 := HXv.out.cell 3; simp only [List.getElem?_cons_succ, List.getElem?_cons_zero] at wy1 wy2 wy3)) | (go_at_call 77; (with_reducible refine (HWK.out _ HBv.out).mono ?_); rintro e w1 ⟨rfl, hb1⟩ <;> (have HXv := Lib.hid (HXv.out.below hb1); have HBv := Lib.hid (btK HBv.out hb1); clear wy1 wy2 wy3; have wy1 := HXv.out.cell 1; have wy2 := HXv.out.cell 2; have wy3 := HXv.out.cell 3; simp only [List.getElem?_cons_succ, List.getElem?_cons_zero] at wy1 wy2 wy3)) | (go_at_call 76; (with_reducible refine (HKK.out _ HBv.out).mono ?_); rintro e w1 ⟨v, rfl, hown, hb1⟩; have HXv := Lib.hid (HXv.out.below hb1); have HBv := Lib.hid (btK HBv.out hb1); clear wy1 wy2 wy3; have wy1 := HXv.out.cell 1; have wy2 := HXv.out.cell 2; have wy3 := HXv.out.cell 3; simp only [List.getElem?_cons_succ, List.getElem?_cons_zero] at wy1 wy2 wy3; have hrd := hown.rdl; clear hown; (obtain ⟨va, vc, rfl⟩ := hrd.shape); have HCN := Lib.hid (count19_calls _ _ _ _ (newB_inn _ _) hrd (k : Int)); clear hrd) | (go_at_call 75; (with_reducible refine (HCN.out).mono ?_); rintro e w1 ⟨rfl, hb1⟩ <;> (have HXv := Lib.hid (HXv.out.below hb1); have HBv := Lib.hid (btK HBv.out hb1); clear wy1 wy2 wy3; have wy1 := HXv.out.cell 1; have wy2 := HXv.out.cell 2; have wy3 := HXv.out.cell 3; simp only [List.getElem?_cons_succ, List.getElem?_cons_zero] at wy1 wy2 wy3)))
        all_goals
          go_ret
          exact ⟨_, rfl, (fun h => by cases h), HBv.out⟩
end Go.Proofs.YtapjglpiofpbmaaGreat
/- clewref20's Is, Top and Children, clewref23's Here. Printed by gen-ac11.py. -/
namespace Go.Proofs.YtapjglpiofpbmaaGreat
open Go.RowKit Go.Sort

/-- What lies from lo on lies from any lower number on. -/
theorem OwnR.lower {α : Type} {R : Holds α} {te sz lo lo' : Nat} {w : World} {xs : List α} {v : Value} (h : OwnR R te sz lo w xs v) (hl : lo' ≤ lo) : OwnR R te sz lo' w xs v := by
  obtain ⟨ys, G, ⟨h1, h2⟩, h3, h4⟩ := h
  refine ⟨ys, G, ⟨h1, ?_⟩, fun b hb => ⟨Nat.le_trans hl (h3 b hb).1, (h3 b hb).2⟩, h4⟩
  rcases h2 with h2 | ⟨g, cap, cur, e, q1, q2, q3⟩
  · exact .inl h2
  · exact .inr ⟨g, cap, cur, e, Nat.le_trans hl q1, q2, q3⟩
set_option maxRecDepth 100000 in
set_option maxHeartbeats 2000000 in
theorem is20_calls (F : Nat → Prop) (w : World) (x : WorldD) (cs : List Value) (_hF : Inn F w) (hx : Holds.world.R F w x cs) (c : Int) : Calls Tryz.prog 97 #[.agg cs.toArray, .int .i64 c] w (Gives w (.bool (decide (IsTh x.n c)))) := by
  have hn : x.n = x.parent.length := rfl
  obtain ⟨R, hR⟩ : ∃ r, decide (IsTh x.n c) = r := ⟨_, rfl⟩
  rw [hR]
  have HR : Hid (R = (decide (1 ≤ c) && decide (c < (x.parent.length : Int)))) := by
    show R = _
    rw [← hR, hn, ← Bool.decide_and]
    rfl
  clear hR hn
  obtain ⟨-, -, -, -, -, -, wv0, wv1, wv2, wv3, wv4, wv5, wv6, rfl, wg0, wg1, wg2, wg3, wg4, wg5, wg6⟩ := hx
  obtain ⟨wa0, wc0, rfl⟩ := wg0.shape
  have wl0 := wg0.len
  obtain ⟨wa1, wc1, rfl⟩ := wg1.shape
  have wl1 := wg1.len
  obtain ⟨wa2, wc2, rfl⟩ := wg2.shape
  have wl2 := wg2.len
  obtain ⟨wa3, wc3, rfl⟩ := wg3.shape
  have wl3 := wg3.len
  obtain ⟨wa4, wc4, rfl⟩ := wg4.shape
  have wl4 := wg4.len
  obtain ⟨wa5, wc5, rfl⟩ := wg5.shape
  have wl5 := wg5.len
  obtain ⟨wa6, wc6, rfl⟩ := wg6.shape
  have wl6 := wg6.len
  unfold maxLen at wl0 wl1 wl2 wl3 wl4 wl5 wl6
  clear wg0 wg1 wg2 wg3 wg4 wg5 wg6
  obtain ⟨W1, hW1⟩ : ∃ z, w.alloc (.cells #[.slice wa0 x.globals.length wc0, .slice wa1 x.parent.length wc1, .slice wa2 x.child.length wc2, .slice wa3 x.next.length wc3, .slice wa4 x.flags.length wc4, .slice wa5 x.props.length wc5, .slice wa6 x.timers.length wc6, .int .u64 x.seed, .int .i64 x.score, .int .i64 x.turns, .int .i64 x.over, .int .i64 x.it, .int .i64 x.go] 31) = z := ⟨_, rfl⟩
  have hb1 : Below w.heap.size w W1 := by rw [← hW1]; exact (Below.refl _ _).alloc (Nat.le_refl _) _
  have hx1 : BoxT W1 w.heap.size [.slice wa0 x.globals.length wc0, .slice wa1 x.parent.length wc1, .slice wa2 x.child.length wc2, .slice wa3 x.next.length wc3, .slice wa4 x.flags.length wc4, .slice wa5 x.props.length wc5, .slice wa6 x.timers.length wc6, .int .u64 x.seed, .int .i64 x.score, .int .i64 x.turns, .int .i64 x.over, .int .i64 x.it, .int .i64 x.go] 31 := by rw [← hW1]; exact BoxT.new _ _ _
  have HW1 := Lib.hid hW1; have HBv := Lib.hid hb1; have HXv := Lib.hid hx1
  clear hW1 hb1 hx1
  go_enter Tryz.func97, Tryz.ntmps97
  go_upto_region 1 with fail
  rw [HW1.out]
  obtain ⟨WV, hWV⟩ : ∃ v, Value.agg #[.slice wa0 x.globals.length wc0, .slice wa1 x.parent.length wc1, .slice wa2 x.child.length wc2, .slice wa3 x.next.length wc3, .slice wa4 x.flags.length wc4, .slice wa5 x.props.length wc5, .slice wa6 x.timers.length wc6, .int .u64 x.seed, .int .i64 x.score, .int .i64 x.turns, .int .i64 x.over, .int .i64 x.it, .int .i64 x.go] = v := ⟨_, rfl⟩
  have HLW : Hid (∀ W, BoxT W w.heap.size [.slice wa0 x.globals.length wc0, .slice wa1 x.parent.length wc1, .slice wa2 x.child.length wc2, .slice wa3 x.next.length wc3, .slice wa4 x.flags.length wc4, .slice wa5 x.props.length wc5, .slice wa6 x.timers.length wc6, .int .u64 x.seed, .int .i64 x.score, .int .i64 x.turns, .int .i64 x.over, .int .i64 x.it, .int .i64 x.go] 31 → (Instr.loadAt 31 (.pointer (some ⟨w.heap.size, 0, none⟩))).run Tryz.prog W = .ok WV W) := fun W h => by
    rw [← hWV]
    exact run_loadAt_mid W _ 0 31 _ _ h.range Tryz.underlying31 rfl (by kernel_rfl)
  rw [hWV]
  clear HW1
  clear hWV HLW
  have wy1 := HXv.out.cell 1
  simp only [List.getElem?_cons_succ, List.getElem?_cons_zero] at wy1
  by_cases h1 : 1 ≤ c
  · have e : Hid (R = decide (c < (x.parent.length : Int))) := by
      show R = _
      rw [HR.out, decide_eq_true h1, Bool.true_and]
    clear HR
    go_wp2
    go_ret
    exact ⟨ret_bool e.out.symm, HBv.out⟩
  · have e : Hid (R = false) := by
      show R = _
      rw [HR.out, decide_eq_false h1, Bool.false_and]
    clear HR
    go_wp2
    go_ret
    exact ⟨ret_bool e.out.symm, HBv.out⟩
set_option maxRecDepth 100000 in
set_option maxHeartbeats 2000000 in
theorem top20_calls (F : Nat → Prop) (w : World) (x : WorldD) (cs : List Value) (hF : Inn F w) (hx : Holds.world.R F w x cs) (c0 : Int) : Calls Tryz.prog 62 #[.agg cs.toArray, .int .i64 c0] w (Gives w (.int .i64 (x.top c0))) := by
  have HIS0 := Lib.hid (fun (W : World) (h : Below w.heap.size w W) (c : Int) => is20_calls F W x cs (fun b hb => Nat.lt_of_lt_of_le (hF b hb) h.size) (Holds.world.keep (fun b hb => h.block b (hF b hb)) (fun _ h => h) hx) c)
  have HT0 : Hid (∀ f t c, topF x.parent x.n (f + 1) t c = if IsTh x.n c then topF x.parent x.n f c (atI x.parent c) else t) := fun f t c => rfl
  obtain ⟨R, hR⟩ : ∃ r, x.top c0 = r := ⟨_, rfl⟩
  rw [hR]
  have HR : Hid (topF x.parent x.n x.parent.length 0 c0 = R) := hR
  clear hR
  obtain ⟨-, -, -, -, -, -, wv0, wv1, wv2, wv3, wv4, wv5, wv6, rfl, wg0, wg1, wg2, wg3, wg4, wg5, wg6⟩ := hx
  obtain ⟨wa0, wc0, rfl⟩ := wg0.shape
  have wl0 := wg0.len
  obtain ⟨wa1, wc1, rfl⟩ := wg1.shape
  have wl1 := wg1.len
  obtain ⟨wa2, wc2, rfl⟩ := wg2.shape
  have wl2 := wg2.len
  obtain ⟨wa3, wc3, rfl⟩ := wg3.shape
  have wl3 := wg3.len
  obtain ⟨wa4, wc4, rfl⟩ := wg4.shape
  have wl4 := wg4.len
  obtain ⟨wa5, wc5, rfl⟩ := wg5.shape
  have wl5 := wg5.len
  obtain ⟨wa6, wc6, rfl⟩ := wg6.shape
  have wl6 := wg6.len
  unfold maxLen at wl0 wl1 wl2 wl3 wl4 wl5 wl6
  obtain ⟨xa1, xc1, he1, -, -, hA1⟩ := RdInts.elem wg1 hF
  cases he1
  have WA1 := Lib.hid hA1
  clear hA1
  clear wg0 wg1 wg2 wg3 wg4 wg5 wg6
  obtain ⟨W1, hW1⟩ : ∃ z, w.alloc (.cells #[.slice wa0 x.globals.length wc0, .slice wa1 x.parent.length wc1, .slice wa2 x.child.length wc2, .slice wa3 x.next.length wc3, .slice wa4 x.flags.length wc4, .slice wa5 x.props.length wc5, .slice wa6 x.timers.length wc6, .int .u64 x.seed, .int .i64 x.score, .int .i64 x.turns, .int .i64 x.over, .int .i64 x.it, .int .i64 x.go] 31) = z := ⟨_, rfl⟩
  have hb1 : Below w.heap.size w W1 := by rw [← hW1]; exact (Below.refl _ _).alloc (Nat.le_refl _) _
  have hx1 : BoxT W1 w.heap.size [.slice wa0 x.globals.length wc0, .slice wa1 x.parent.length wc1, .slice wa2 x.child.length wc2, .slice wa3 x.next.length wc3, .slice wa4 x.flags.length wc4, .slice wa5 x.props.length wc5, .slice wa6 x.timers.length wc6, .int .u64 x.seed, .int .i64 x.score, .int .i64 x.turns, .int .i64 x.over, .int .i64 x.it, .int .i64 x.go] 31 := by rw [← hW1]; exact BoxT.new _ _ _
  have HW1 := Lib.hid hW1; have HBv := Lib.hid hb1; have HXv := Lib.hid hx1
  clear hW1 hb1 hx1
  go_enter Tryz.func62, Tryz.ntmps62
  go_upto_region 1 with fail
  rw [HW1.out]
  obtain ⟨WV, hWV⟩ : ∃ v, Value.agg #[.slice wa0 x.globals.length wc0, .slice wa1 x.parent.length wc1, .slice wa2 x.child.length wc2, .slice wa3 x.next.length wc3, .slice wa4 x.flags.length wc4, .slice wa5 x.props.length wc5, .slice wa6 x.timers.length wc6, .int .u64 x.seed, .int .i64 x.score, .int .i64 x.turns, .int .i64 x.over, .int .i64 x.it, .int .i64 x.go] = v := ⟨_, rfl⟩
  have HLW : Hid (∀ W, BoxT W w.heap.size [.slice wa0 x.globals.length wc0, .slice wa1 x.parent.length wc1, .slice wa2 x.child.length wc2, .slice wa3 x.next.length wc3, .slice wa4 x.flags.length wc4, .slice wa5 x.props.length wc5, .slice wa6 x.timers.length wc6, .int .u64 x.seed, .int .i64 x.score, .int .i64 x.turns, .int .i64 x.over, .int .i64 x.it, .int .i64 x.go] 31 → (Instr.loadAt 31 (.pointer (some ⟨w.heap.size, 0, none⟩))).run Tryz.prog W = .ok WV W) := fun W h => by
    rw [← hWV]
    exact run_loadAt_mid W _ 0 31 _ _ h.range Tryz.underlying31 rfl (by kernel_rfl)
  rw [hWV]
  clear HW1
  have HIS := Lib.hid HIS0.out
  rw [hWV] at HIS
  clear hWV HIS0
  have wy1 := HXv.out.cell 1
  simp only [List.getElem?_cons_succ, List.getElem?_cons_zero] at wy1
  go_wp2
  clear wy1
  go_loopw [1, 5, 6] (fun a t i wr => ∃ (k : Nat) (c u : Int), k ≤ x.parent.length ∧ i = .int .i64 k ∧ a = .int .i64 c ∧ t = .int .i64 u ∧ Hid (topF x.parent x.n (x.parent.length - k) u c = R) ∧ Below w.heap.size w wr ∧ BoxT wr w.heap.size [.slice wa0 x.globals.length wc0, .slice wa1 x.parent.length wc1, .slice wa2 x.child.length wc2, .slice wa3 x.next.length wc3, .slice wa4 x.flags.length wc4, .slice wa5 x.props.length wc5, .slice wa6 x.timers.length wc6, .int .u64 x.seed, .int .i64 x.score, .int .i64 x.turns, .int .i64 x.over, .int .i64 x.it, .int .i64 x.go] 31) (fun _ _ i _ => x.parent.length - (intOf i).toNat)
  case atStart => exact ⟨0, c0, 0, Nat.zero_le _, rfl, rfl, rfl, HR.out, HBv.out, HXv.out⟩
  case round =>
    obtain ⟨k, c, u, hk, rfl, rfl, rfl, HQ, hB, hX⟩ := hrel
    have HBv := Lib.hid hB
    have HXv := Lib.hid hX
    clear hB hX
    have wy1 := HXv.out.cell 1
    simp only [List.getElem?_cons_succ, List.getElem?_cons_zero] at wy1
    by_cases hlt : k < x.parent.length
    rotate_left
    · have h1 : ¬ (k : Int) < (x.parent.length : Int) := by omega
      have HF : Hid (u = R) := by
        have := HQ.out
        rwa [show x.parent.length - k = 0 by omega] at this
      go_wp2
      go_ret
      exact ⟨congrArg (fun q : Int => Ending.returned (.int .i64 q)) HF.out, HBv.out⟩
    have h1 : (k : Int) < (x.parent.length : Int) := by omega
    by_cases hc : IsTh x.n c
    rotate_left
    · have hi := fun W h => HIS.out W h c
      rw [decide_eq_false hc] at hi
      have HIS := Lib.hid hi
      clear hi
      have HF : Hid (u = R) := by
        have := HQ.out
        rwa [show x.parent.length - k = (x.parent.length - (k + 1)) + 1 by omega, HT0.out, if_neg hc] at this
      clear hc
      go_wp2_with (first | ((with_reducible refine wpList_load_T 31 (.tmp 2) ?hw9 ⟨w.heap.size, 0, none⟩ ?hx9 WV (HLW.out _ HXv.out) ?_); (case hw9 => rfl); (case hx9 => first | rfl | (exact rfl))) | (go_at_call 97; (with_reducible refine (HIS.out _ HBv.out).mono ?_); rintro e w1 ⟨rfl, hb1⟩; have HXv := Lib.hid (HXv.out.below hb1); have HBv := Lib.hid (btK HBv.out hb1); clear wy1; have wy1 := HXv.out.cell 1; simp only [List.getElem?_cons_succ, List.getElem?_cons_zero] at wy1))
      go_ret
      exact ⟨congrArg (fun q : Int => Ending.returned (.int .i64 q)) HF.out, HBv.out⟩
    have hi := fun W h => HIS.out W h c
    rw [decide_eq_true hc] at hi
    have HISa := HIS
    have HIS := Lib.hid hi
    clear hi
    obtain ⟨j, rfl, j1, j2⟩ := th_nat hc
    have j0 : (0 : Int) ≤ (j : Int) := by omega
    have j3 : (j : Int) < (x.parent.length : Int) := by have : x.n = x.parent.length := rfl; omega
    have j4 : j < x.parent.length := j2
    obtain ⟨b, off, rfl, hel⟩ := WA1.out (by omega)
    have HEL := Lib.hid hel
    have hg := atI_get j4
    clear hel
    have HQ2 : Hid (topF x.parent x.n (x.parent.length - (k + 1)) (j : Int) (atI x.parent (j : Int)) = R) := by
      show _ = _
      rw [← HQ.out, show x.parent.length - k = (x.parent.length - (k + 1)) + 1 by omega, HT0.out, if_pos hc]
    clear hc HQ
    have HG := Lib.hid hg
    clear hg
    go_upto_region 6 with (first | ((with_reducible refine wpList_load_T 31 (.tmp 2) ?hw9 ⟨w.heap.size, 0, none⟩ ?hx9 WV (HLW.out _ HXv.out) ?_); (case hw9 => rfl); (case hx9 => first | rfl | (exact rfl))) | (go_at_call 97; (with_reducible refine (HIS.out _ HBv.out).mono ?_); rintro e w1 ⟨rfl, hb1⟩; have HXv := Lib.hid (HXv.out.below hb1); have HBv := Lib.hid (btK HBv.out hb1); clear wy1; have wy1 := HXv.out.cell 1; simp only [List.getElem?_cons_succ, List.getElem?_cons_zero] at wy1))
    have p0 := HEL.out _ HBv.out j j4
    rw [← HG.out] at p0
    generalize atI x.parent (j : Int) = y at p0 HQ2
    go_wp2
    go_roundw
    case rel => exact ⟨k + 1, y, j, by omega, by go_num, rfl, rfl, HQ2.out, HBv.out, HXv.out⟩
    case measure => simp [intOf]; omega
set_option maxRecDepth 100000 in
set_option maxHeartbeats 2000000 in
theorem kids20_calls (F : Nat → Prop) (w : World) (x : WorldD) (cs : List Value) (hF : Inn F w) (hx : Holds.world.R F w x cs) (hsm : x.parent.length ≤ 1000000) (c0 : Int) : Calls Tryz.prog 60 #[.agg cs.toArray, .int .i64 c0] w (fun e w' => ∃ v, e = .returned v ∧ OwnI (w.heap.size + 1) w' (x.kids c0) v ∧ Below w.heap.size w w') := by
  have HK0 := Lib.hid (fun (W : World) (h : Below w.heap.size w W) => kids19_calls F W x cs (fun b hb => Nat.lt_of_lt_of_le (hF b hb) h.size) (Holds.world.keep (fun b hb => h.block b (hF b hb)) (fun _ h => h) hx) hsm c0)
  generalize x.kids c0 = l at HK0 ⊢
  obtain ⟨-, -, -, -, -, -, wv0, wv1, wv2, wv3, wv4, wv5, wv6, rfl, wg0, wg1, wg2, wg3, wg4, wg5, wg6⟩ := hx
  obtain ⟨wa0, wc0, rfl⟩ := wg0.shape
  have wl0 := wg0.len
  obtain ⟨wa1, wc1, rfl⟩ := wg1.shape
  have wl1 := wg1.len
  obtain ⟨wa2, wc2, rfl⟩ := wg2.shape
  have wl2 := wg2.len
  obtain ⟨wa3, wc3, rfl⟩ := wg3.shape
  have wl3 := wg3.len
  obtain ⟨wa4, wc4, rfl⟩ := wg4.shape
  have wl4 := wg4.len
  obtain ⟨wa5, wc5, rfl⟩ := wg5.shape
  have wl5 := wg5.len
  obtain ⟨wa6, wc6, rfl⟩ := wg6.shape
  have wl6 := wg6.len
  unfold maxLen at wl0 wl1 wl2 wl3 wl4 wl5 wl6
  clear wg0 wg1 wg2 wg3 wg4 wg5 wg6
  obtain ⟨W1, hW1⟩ : ∃ z, w.alloc (.cells #[.slice wa0 x.globals.length wc0, .slice wa1 x.parent.length wc1, .slice wa2 x.child.length wc2, .slice wa3 x.next.length wc3, .slice wa4 x.flags.length wc4, .slice wa5 x.props.length wc5, .slice wa6 x.timers.length wc6, .int .u64 x.seed, .int .i64 x.score, .int .i64 x.turns, .int .i64 x.over, .int .i64 x.it, .int .i64 x.go] 31) = z := ⟨_, rfl⟩
  have hb1 : Below w.heap.size w W1 := by rw [← hW1]; exact (Below.refl _ _).alloc (Nat.le_refl _) _
  have hx1 : BoxT W1 w.heap.size [.slice wa0 x.globals.length wc0, .slice wa1 x.parent.length wc1, .slice wa2 x.child.length wc2, .slice wa3 x.next.length wc3, .slice wa4 x.flags.length wc4, .slice wa5 x.props.length wc5, .slice wa6 x.timers.length wc6, .int .u64 x.seed, .int .i64 x.score, .int .i64 x.turns, .int .i64 x.over, .int .i64 x.it, .int .i64 x.go] 31 := by rw [← hW1]; exact BoxT.new _ _ _
  have HW1 := Lib.hid hW1; have HBv := Lib.hid hb1; have HXv := Lib.hid hx1
  clear hW1 hb1 hx1
  go_enter Tryz.func60, Tryz.ntmps60
  go_upto_region 1 with fail
  rw [HW1.out]
  obtain ⟨WV, hWV⟩ : ∃ v, Value.agg #[.slice wa0 x.globals.length wc0, .slice wa1 x.parent.length wc1, .slice wa2 x.child.length wc2, .slice wa3 x.next.length wc3, .slice wa4 x.flags.length wc4, .slice wa5 x.props.length wc5, .slice wa6 x.timers.length wc6, .int .u64 x.seed, .int .i64 x.score, .int .i64 x.turns, .int .i64 x.over, .int .i64 x.it, .int .i64 x.go] = v := ⟨_, rfl⟩
  have HLW : Hid (∀ W, BoxT W w.heap.size [.slice wa0 x.globals.length wc0, .slice wa1 x.parent.length wc1, .slice wa2 x.child.length wc2, .slice wa3 x.next.length wc3, .slice wa4 x.flags.length wc4, .slice wa5 x.props.length wc5, .slice wa6 x.timers.length wc6, .int .u64 x.seed, .int .i64 x.score, .int .i64 x.turns, .int .i64 x.over, .int .i64 x.it, .int .i64 x.go] 31 → (Instr.loadAt 31 (.pointer (some ⟨w.heap.size, 0, none⟩))).run Tryz.prog W = .ok WV W) := fun W h => by
    rw [← hWV]
    exact run_loadAt_mid W _ 0 31 _ _ h.range Tryz.underlying31 rfl (by kernel_rfl)
  rw [hWV]
  clear HW1
  have HK := Lib.hid HK0.out
  rw [hWV] at HK
  clear hWV HK0
  go_wp2_with (first | ((with_reducible refine wpList_load_T 31 (.tmp 2) ?hw9 ⟨w.heap.size, 0, none⟩ ?hx9 WV (HLW.out _ HXv.out) ?_); (case hw9 => rfl); (case hx9 => first | rfl | (exact rfl))) | (go_at_call 76; (with_reducible refine (HK.out _ HBv.out).mono ?_); rintro e w1 ⟨v, rfl, hown, hb1⟩))
  go_ret
  exact ⟨_, rfl, hown.lower (Nat.succ_le_succ HBv.out.size), btK HBv.out hb1⟩
set_option maxRecDepth 100000 in
set_option maxHeartbeats 2000000 in
theorem here_calls (F : Nat → Prop) (w : World) (x : WorldD) (cs : List Value) (hF : Inn F w) (hx : Holds.world.R F w x cs) : Calls Tryz.prog 29 #[.agg cs.toArray] w (Gives w (.int .i64 (x.top 1))) := by
  have HK0 := Lib.hid (fun (W : World) (h : Below w.heap.size w W) => top20_calls F W x cs (fun b hb => Nat.lt_of_lt_of_le (hF b hb) h.size) (Holds.world.keep (fun b hb => h.block b (hF b hb)) (fun _ h => h) hx) 1)
  generalize x.top 1 = l at HK0 ⊢
  obtain ⟨-, -, -, -, -, -, wv0, wv1, wv2, wv3, wv4, wv5, wv6, rfl, wg0, wg1, wg2, wg3, wg4, wg5, wg6⟩ := hx
  obtain ⟨wa0, wc0, rfl⟩ := wg0.shape
  have wl0 := wg0.len
  obtain ⟨wa1, wc1, rfl⟩ := wg1.shape
  have wl1 := wg1.len
  obtain ⟨wa2, wc2, rfl⟩ := wg2.shape
  have wl2 := wg2.len
  obtain ⟨wa3, wc3, rfl⟩ := wg3.shape
  have wl3 := wg3.len
  obtain ⟨wa4, wc4, rfl⟩ := wg4.shape
  have wl4 := wg4.len
  obtain ⟨wa5, wc5, rfl⟩ := wg5.shape
  have wl5 := wg5.len
  obtain ⟨wa6, wc6, rfl⟩ := wg6.shape
  have wl6 := wg6.len
  unfold maxLen at wl0 wl1 wl2 wl3 wl4 wl5 wl6
  clear wg0 wg1 wg2 wg3 wg4 wg5 wg6
  obtain ⟨W1, hW1⟩ : ∃ z, w.alloc (.cells #[.slice wa0 x.globals.length wc0, .slice wa1 x.parent.length wc1, .slice wa2 x.child.length wc2, .slice wa3 x.next.length wc3, .slice wa4 x.flags.length wc4, .slice wa5 x.props.length wc5, .slice wa6 x.timers.length wc6, .int .u64 x.seed, .int .i64 x.score, .int .i64 x.turns, .int .i64 x.over, .int .i64 x.it, .int .i64 x.go] 31) = z := ⟨_, rfl⟩
  have hb1 : Below w.heap.size w W1 := by rw [← hW1]; exact (Below.refl _ _).alloc (Nat.le_refl _) _
  have hx1 : BoxT W1 w.heap.size [.slice wa0 x.globals.length wc0, .slice wa1 x.parent.length wc1, .slice wa2 x.child.length wc2, .slice wa3 x.next.length wc3, .slice wa4 x.flags.length wc4, .slice wa5 x.props.length wc5, .slice wa6 x.timers.length wc6, .int .u64 x.seed, .int .i64 x.score, .int .i64 x.turns, .int .i64 x.over, .int .i64 x.it, .int .i64 x.go] 31 := by rw [← hW1]; exact BoxT.new _ _ _
  have HW1 := Lib.hid hW1; have HBv := Lib.hid hb1; have HXv := Lib.hid hx1
  clear hW1 hb1 hx1
  go_enter Tryz.func29, Tryz.ntmps29
  go_upto_region 1 with fail
  rw [HW1.out]
  obtain ⟨WV, hWV⟩ : ∃ v, Value.agg #[.slice wa0 x.globals.length wc0, .slice wa1 x.parent.length wc1, .slice wa2 x.child.length wc2, .slice wa3 x.next.length wc3, .slice wa4 x.flags.length wc4, .slice wa5 x.props.length wc5, .slice wa6 x.timers.length wc6, .int .u64 x.seed, .int .i64 x.score, .int .i64 x.turns, .int .i64 x.over, .int .i64 x.it, .int .i64 x.go] = v := ⟨_, rfl⟩
  have HLW : Hid (∀ W, BoxT W w.heap.size [.slice wa0 x.globals.length wc0, .slice wa1 x.parent.length wc1, .slice wa2 x.child.length wc2, .slice wa3 x.next.length wc3, .slice wa4 x.flags.length wc4, .slice wa5 x.props.length wc5, .slice wa6 x.timers.length wc6, .int .u64 x.seed, .int .i64 x.score, .int .i64 x.turns, .int .i64 x.over, .int .i64 x.it, .int .i64 x.go] 31 → (Instr.loadAt 31 (.pointer (some ⟨w.heap.size, 0, none⟩))).run Tryz.prog W = .ok WV W) := fun W h => by
    rw [← hWV]
    exact run_loadAt_mid W _ 0 31 _ _ h.range Tryz.underlying31 rfl (by kernel_rfl)
  rw [hWV]
  clear HW1
  have HK := Lib.hid HK0.out
  rw [hWV] at HK
  clear hWV HK0
  go_wp2_with (first | ((with_reducible refine wpList_load_T 31 (.tmp 1) ?hw9 ⟨w.heap.size, 0, none⟩ ?hx9 WV (HLW.out _ HXv.out) ?_); (case hw9 => rfl); (case hx9 => first | rfl | (exact rfl))) | (go_at_call 62; (with_reducible refine (HK.out _ HBv.out).mono ?_); rintro e w1 ⟨rfl, hb1⟩))
  go_ret
  exact ⟨rfl, btK HBv.out hb1⟩
end Go.Proofs.YtapjglpiofpbmaaGreat
