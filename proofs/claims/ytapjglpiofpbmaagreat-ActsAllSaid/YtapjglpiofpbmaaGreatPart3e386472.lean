/- clewref19's ways. Printed by gen-ac4.py. -/
import Derived.Test.YtapjglpiofpbmaaGreatPart801a157b
import Derived.Test.YtapjglpiofpbmaaGreatAcQ
namespace Go.Proofs.YtapjglpiofpbmaaGreat
open Go.RowKit Go.Sort

theorem from_gives (n lo hi : Int) (w : World) : Calls Tryz.prog 39 #[.int .i64 n, .int .i64 lo, .int .i64 hi] w (Gives w (.bool (decide (lo ≤ n) && decide (n ≤ hi)))) :=
  (from_calls n lo hi w).mono (fun _ _ h9 => ⟨h9.1, h9.2 ▸ Below.refl _ _⟩)
set_option maxRecDepth 100000 in
set_option maxHeartbeats 40000000 in
theorem ways_some (F : Nat → Prop) (w : World) (t : TabD) (cs : List Value) (l : List WayD) (v : Value) (hF : Inn F w) (ht : Holds.tab.R F w t cs) (hr : RdL Holds.way 4 F w l v) : Calls Tryz.prog 68 #[.agg cs.toArray, v] w (SomeB w) := by
  obtain ⟨a, cap, rfl, hlc, hc, ha⟩ := hr.opn
  unfold maxLen at hc
  have HE := Lib.hid ha
  clear ha hr
  have HT0 := Lib.hid (fun (W : World) (h : Below w.heap.size w W) (m : Int) => thing_calls F W t cs m (Holds.tab.keep (fun b hb => h.block b (hF b hb)) (fun _ h => h) ht))
  have HR0 := Lib.hid (fun (W : World) (h : Below w.heap.size w W) (m : Int) (z : Bool) => routine_calls F W t cs m z (fun b hb => Nat.lt_of_lt_of_le (hF b hb) h.size) (Holds.tab.keep (fun b hb => h.block b (hF b hb)) (fun _ h => h) ht))
  have HS0 := Lib.hid (fun (W : World) (h : Below w.heap.size w W) (m : Int) (z : Bool) => text_calls F W t cs m z (Holds.tab.keep (fun b hb => h.block b (hF b hb)) (fun _ h => h) ht))
  obtain ⟨i0, i1, i2, i3, i5, v4, v6, v7, v8, v9, v10, v11, v12, v13, v14, rfl, g4, g6, g7, g8, g9, g10, g11, g12, g13, g14⟩ := ht
  obtain ⟨ad4, ca4, rfl⟩ := g4.shape
  obtain ⟨ad6, ca6, rfl⟩ := g6.shape
  obtain ⟨ad7, ca7, rfl⟩ := g7.shape
  obtain ⟨ad8, ca8, rfl⟩ := g8.shape
  obtain ⟨ad9, ca9, rfl⟩ := g9.shape
  obtain ⟨ad10, ca10, rfl⟩ := g10.shape
  obtain ⟨ad11, ca11, rfl⟩ := g11.shape
  obtain ⟨ad12, ca12, rfl⟩ := g12.shape
  obtain ⟨ad13, ca13, rfl⟩ := g13.shape
  obtain ⟨ad14, ca14, rfl⟩ := g14.shape
  have ln4 := g4.len
  have ln6 := g6.len
  have ln7 := g7.len
  have ln8 := g8.len
  have ln9 := g9.len
  have ln10 := g10.len
  have ln11 := g11.len
  have ln12 := g12.len
  have ln13 := g13.len
  have ln14 := g14.len
  unfold maxLen at ln4 ln6 ln7 ln8 ln9 ln10 ln11 ln12 ln13 ln14
  obtain ⟨a8, c8, he8, -, -, ha8⟩ := g8.opn
  cases he8
  clear g4 g6 g7 g8 g9 g10 g11 g12 g13 g14
  clear i0 i1 i2 i3 i5
  have HA8 := Lib.hid ha8
  have HN := Lib.hid hF
  clear ha8 hF
  obtain ⟨W1, hW1⟩ : ∃ x, w.alloc (.cells #[.int .i64 t.title, .int .i64 t.byl, .int .i64 t.release, .int .i64 t.most, .slice ad4 t.texts.length ca4, .int .i64 t.flags, .slice ad6 t.props.length ca6, .slice ad7 t.globals.length ca7, .slice ad8 t.things.length ca8, .slice ad9 t.acts.length ca9, .slice ad10 t.deeds.length ca10, .slice ad11 t.funcs.length ca11, .slice ad12 t.daemons.length ca12, .slice ad13 t.params.length ca13, .slice ad14 t.locals.length ca14] 28) = x := ⟨_, rfl⟩
  have hb1 : Below w.heap.size w W1 := by rw [← hW1]; exact (Below.refl _ _).alloc (Nat.le_refl _) _
  have hx1 : BoxT W1 w.heap.size [.int .i64 t.title, .int .i64 t.byl, .int .i64 t.release, .int .i64 t.most, .slice ad4 t.texts.length ca4, .int .i64 t.flags, .slice ad6 t.props.length ca6, .slice ad7 t.globals.length ca7, .slice ad8 t.things.length ca8, .slice ad9 t.acts.length ca9, .slice ad10 t.deeds.length ca10, .slice ad11 t.funcs.length ca11, .slice ad12 t.daemons.length ca12, .slice ad13 t.params.length ca13, .slice ad14 t.locals.length ca14] 28 := by rw [← hW1]; exact BoxT.new _ _ _
  have HW1 := Lib.hid hW1; have HB1 := Lib.hid hb1; have HX1 := Lib.hid hx1
  clear hW1 hb1 hx1
  go_enter Tryz.func68, Tryz.ntmps68
  go_upto_region 1 with fail
  rw [HW1.out]
  obtain ⟨TV, hTV⟩ : ∃ v, Value.agg #[.int .i64 t.title, .int .i64 t.byl, .int .i64 t.release, .int .i64 t.most, .slice ad4 t.texts.length ca4, .int .i64 t.flags, .slice ad6 t.props.length ca6, .slice ad7 t.globals.length ca7, .slice ad8 t.things.length ca8, .slice ad9 t.acts.length ca9, .slice ad10 t.deeds.length ca10, .slice ad11 t.funcs.length ca11, .slice ad12 t.daemons.length ca12, .slice ad13 t.params.length ca13, .slice ad14 t.locals.length ca14] = v := ⟨_, rfl⟩
  have HL : Hid (∀ W, BoxT W w.heap.size [.int .i64 t.title, .int .i64 t.byl, .int .i64 t.release, .int .i64 t.most, .slice ad4 t.texts.length ca4, .int .i64 t.flags, .slice ad6 t.props.length ca6, .slice ad7 t.globals.length ca7, .slice ad8 t.things.length ca8, .slice ad9 t.acts.length ca9, .slice ad10 t.deeds.length ca10, .slice ad11 t.funcs.length ca11, .slice ad12 t.daemons.length ca12, .slice ad13 t.params.length ca13, .slice ad14 t.locals.length ca14] 28 → (Instr.loadAt 28 (.pointer (some ⟨w.heap.size, 0, none⟩))).run Tryz.prog W = .ok TV W) := fun W h => by
    rw [← hTV]
    exact run_loadAt_mid W _ 0 28 _ _ h.range Tryz.underlying28 rfl (by kernel_rfl)
  rw [hTV]
  have HT := Lib.hid HT0.out; have HR := Lib.hid HR0.out; have HS := Lib.hid HS0.out
  rw [hTV] at HT HR HS
  clear hTV HT0 HR0 HS0
  go_wp2
  go_loopw [5] (fun i wr => ∃ (k : Nat), k ≤ l.length ∧ i = .int .i64 k ∧ Below w.heap.size w wr ∧ BoxT wr w.heap.size [.int .i64 t.title, .int .i64 t.byl, .int .i64 t.release, .int .i64 t.most, .slice ad4 t.texts.length ca4, .int .i64 t.flags, .slice ad6 t.props.length ca6, .slice ad7 t.globals.length ca7, .slice ad8 t.things.length ca8, .slice ad9 t.acts.length ca9, .slice ad10 t.deeds.length ca10, .slice ad11 t.funcs.length ca11, .slice ad12 t.daemons.length ca12, .slice ad13 t.params.length ca13, .slice ad14 t.locals.length ca14] 28) (fun i _ => l.length - (intOf i).toNat)
  case atStart => exact ⟨0, Nat.zero_le _, rfl, HB1.out, HX1.out⟩
  case round =>
    obtain ⟨k, hk, rfl, hB, hX⟩ := hrel
    have HB := Lib.hid hB
    have HX := Lib.hid hX
    clear hB hX HW1 HB1 HX1
    by_cases hlt : k < l.length
    · rcases k with _ | m
      · rw [show ((0 : Nat) : Int) = (0 : Int) from rfl]
        have h1 : (0 : Int) < (l.length : Int) := by omega
        have q8 := fun d os => cell_regrown (HX.out.cell 8) d os
        have hql : ∀ W, (∃ p : Regrown, W = grow (redrawn wr p.d) p.os) → (Instr.loadAt 28 (.pointer (some ⟨w.heap.size, 0, none⟩))).run Tryz.prog W = .ok TV W := fun W h => HL.out _ (HX.out.below (below_of_regrown h))
        have QL := Lib.hid hql
        clear hql
        obtain ⟨b, off, rfl, hFb, hel⟩ := HE.out (by omega)
        obtain ⟨xs, ⟨-, -, -, -, rfl⟩, -, hcell⟩ := hel wr (HB.out.block b (HN.out b hFb)) (0) (by omega)
        have p0 := hcell 0 _ rfl
        have p1 := hcell 1 _ rfl
        have p2 := hcell 2 _ rfl
        have p3 := hcell 3 _ rfl
        simp only [Nat.zero_mul, Nat.add_zero] at p0 p1 p2 p3
        have e0 := fun d os => cell_regrown p0 d os
        have e1 := fun d os => cell_regrown p1 d os
        have e2 := fun d os => cell_regrown p2 d os
        have e3 := fun d os => cell_regrown p3 d os
        generalize l[0] = x at e0 e1 e2 e3
        clear hel hcell p0 p1 p2 p3
        have g1 := regrownG (w := wr) fun w' h => from_gives x.dir 1 12 w'
        have g4 := regrownG (w := wr) fun w' h => HT.out w' (btK HB.out h) x.goes
        have g6 := regrownG (w := wr) fun w' h => HR.out w' (btK HB.out h) x.cond true
        have g7 := regrownG (w := wr) fun w' h => HS.out w' (btK HB.out h) x.els true
        generalize (decide (1 ≤ x.dir) && decide (x.dir ≤ 12)) = b1 at g1
        generalize routF t x.cond true = b6 at g6
        generalize textF t x.els true = b7 at g7
        go_wp2_with fail
        obtain ⟨xd, xg, xc, xe⟩ := x
        simp only at e0 e1 e2 e3 g1 g4 g6 g7
        by_cases hin : 1 ≤ xg ∧ xg ≤ (t.things.length : Int) - 1
        · rw [decide_eq_true hin.1, decide_eq_true hin.2] at g4
          obtain ⟨j, rfl⟩ : ∃ j : Nat, xg = j := ⟨xg.toNat, by omega⟩
          have j0 : (0 : Int) ≤ (j : Int) := by omega
          have j1 : (j : Int) < (t.things.length : Int) := by omega
          obtain ⟨b8, off8, rfl, hF8, hel8⟩ := HA8.out (by omega)
          obtain ⟨xs, ⟨-, -, -, -, u5, u6, u7, u8, rfl, -, -, -, -⟩, -, hcell8⟩ := hel8 wr (HB.out.block b8 (HN.out b8 hF8)) j (by omega)
          have p8 := hcell8 4 _ rfl
          have e8 := fun d os => cell_regrown p8 d os
          generalize t.things[j].room = b5 at e8
          have G1 := Lib.hid g1; have G4 := Lib.hid g4; have G6 := Lib.hid g6; have G7 := Lib.hid g7
          clear g1 g4 g6 g7 hel8 hcell8 p8 hin hF8 hFb HT HR HS HA8 HE
          as_aux_lemma =>
            refine wp_region_quiet_below (by kernel_rfl) (by kernel_rfl) ?_
            dsimp only [List.append]
            repeat (first | (go_big_quiet_want; (refine quiet_load 28 _ (by rfl) _ (by rfl) TV (fun W hW => QL.out W hW) ?_); simp only [Act.put, List.setIfInBounds_toArray, List.set_cons_succ, List.set_cons_zero]; go_big_quiet_on) | go_big_quiet_step (first | with_reducible exact G1.out _ | with_reducible exact G4.out _ | with_reducible exact G6.out _ | with_reducible exact G7.out _))
            first
            | (with_reducible refine wpQuiet_nil ?_
               intro w3 hw3
               have hb3 := below_of_regrown hw3
               clear hw3
               go_wp2
               all_goals
                 first
                 | (go_ret; exact ⟨_, rfl, btK HB.out hb3⟩)
                 | (go_roundw
                    case rel => exact ⟨1, by omega, by go_num, btK HB.out hb3, HX.out.below hb3⟩
                    case measure => simp [intOf]; omega))
            | (cases b1
               all_goals
                 (try simp only [Bool.not_true, Bool.not_false])
                 repeat (first | (go_big_quiet_want; (refine quiet_load 28 _ (by rfl) _ (by rfl) TV (fun W hW => QL.out W hW) ?_); simp only [Act.put, List.setIfInBounds_toArray, List.set_cons_succ, List.set_cons_zero]; go_big_quiet_on) | go_big_quiet_step (first | with_reducible exact G1.out _ | with_reducible exact G4.out _ | with_reducible exact G6.out _ | with_reducible exact G7.out _))
                 first
                 | (with_reducible refine wpQuiet_nil ?_
                    intro w3 hw3
                    have hb3 := below_of_regrown hw3
                    clear hw3
                    go_wp2
                    all_goals
                      first
                      | (go_ret; exact ⟨_, rfl, btK HB.out hb3⟩)
                      | (go_roundw
                         case rel => exact ⟨1, by omega, by go_num, btK HB.out hb3, HX.out.below hb3⟩
                         case measure => simp [intOf]; omega))
                 | (cases b5
                    all_goals
                      (try simp only [Bool.not_true, Bool.not_false])
                      repeat (first | (go_big_quiet_want; (refine quiet_load 28 _ (by rfl) _ (by rfl) TV (fun W hW => QL.out W hW) ?_); simp only [Act.put, List.setIfInBounds_toArray, List.set_cons_succ, List.set_cons_zero]; go_big_quiet_on) | go_big_quiet_step (first | with_reducible exact G1.out _ | with_reducible exact G4.out _ | with_reducible exact G6.out _ | with_reducible exact G7.out _))
                      first
                      | (with_reducible refine wpQuiet_nil ?_
                         intro w3 hw3
                         have hb3 := below_of_regrown hw3
                         clear hw3
                         go_wp2
                         all_goals
                           first
                           | (go_ret; exact ⟨_, rfl, btK HB.out hb3⟩)
                           | (go_roundw
                              case rel => exact ⟨1, by omega, by go_num, btK HB.out hb3, HX.out.below hb3⟩
                              case measure => simp [intOf]; omega))
                      | (cases b6
                         all_goals
                           (try simp only [Bool.not_true, Bool.not_false])
                           repeat (first | (go_big_quiet_want; (refine quiet_load 28 _ (by rfl) _ (by rfl) TV (fun W hW => QL.out W hW) ?_); simp only [Act.put, List.setIfInBounds_toArray, List.set_cons_succ, List.set_cons_zero]; go_big_quiet_on) | go_big_quiet_step (first | with_reducible exact G1.out _ | with_reducible exact G4.out _ | with_reducible exact G6.out _ | with_reducible exact G7.out _))
                           with_reducible refine wpQuiet_nil ?_
                           intro w3 hw3
                           have hb3 := below_of_regrown hw3
                           clear hw3
                           go_wp2
                           all_goals
                             first
                             | (go_ret; exact ⟨_, rfl, btK HB.out hb3⟩)
                             | (go_roundw
                                case rel => exact ⟨1, by omega, by go_num, btK HB.out hb3, HX.out.below hb3⟩
                                case measure => simp [intOf]; omega))))
        · have hf : (decide (1 ≤ xg) && decide (xg ≤ (t.things.length : Int) - 1)) = false := by simpa using hin
          rw [hf] at g4
          have G1 := Lib.hid g1; have G4 := Lib.hid g4; have G6 := Lib.hid g6; have G7 := Lib.hid g7
          clear g1 g4 g6 g7 hin hf hFb HT HR HS HA8 HE
          as_aux_lemma =>
            refine wp_region_quiet_below (by kernel_rfl) (by kernel_rfl) ?_
            dsimp only [List.append]
            repeat (first | (go_big_quiet_want; (refine quiet_load 28 _ (by rfl) _ (by rfl) TV (fun W hW => QL.out W hW) ?_); simp only [Act.put, List.setIfInBounds_toArray, List.set_cons_succ, List.set_cons_zero]; go_big_quiet_on) | go_big_quiet_step (first | with_reducible exact G1.out _ | with_reducible exact G4.out _ | with_reducible exact G6.out _ | with_reducible exact G7.out _))
            first
            | (with_reducible refine wpQuiet_nil ?_
               intro w3 hw3
               have hb3 := below_of_regrown hw3
               clear hw3
               go_wp2
               all_goals
                 first
                 | (go_ret; exact ⟨_, rfl, btK HB.out hb3⟩)
                 | (go_roundw
                    case rel => exact ⟨1, by omega, by go_num, btK HB.out hb3, HX.out.below hb3⟩
                    case measure => simp [intOf]; omega))
            | (cases b1
               all_goals
                 (try simp only [Bool.not_true, Bool.not_false])
                 repeat (first | (go_big_quiet_want; (refine quiet_load 28 _ (by rfl) _ (by rfl) TV (fun W hW => QL.out W hW) ?_); simp only [Act.put, List.setIfInBounds_toArray, List.set_cons_succ, List.set_cons_zero]; go_big_quiet_on) | go_big_quiet_step (first | with_reducible exact G1.out _ | with_reducible exact G4.out _ | with_reducible exact G6.out _ | with_reducible exact G7.out _))
                 with_reducible refine wpQuiet_nil ?_
                 intro w3 hw3
                 have hb3 := below_of_regrown hw3
                 clear hw3
                 go_wp2
                 all_goals
                   first
                   | (go_ret; exact ⟨_, rfl, btK HB.out hb3⟩)
                   | (go_roundw
                      case rel => exact ⟨1, by omega, by go_num, btK HB.out hb3, HX.out.below hb3⟩
                      case measure => simp [intOf]; omega))
      · have h1 : (m : Int) + 1 < (l.length : Int) := by omega
        have h2 : (0 : Int) ≤ (m : Int) + 1 := by omega
        have h3 : (m : Int) < (l.length : Int) := by omega
        have h4 : (0 : Int) ≤ (m : Int) := by omega
        have h5 : (0 : Int) < (m : Int) + 1 := by omega
        have q8 := fun d os => cell_regrown (HX.out.cell 8) d os
        have hql : ∀ W, (∃ p : Regrown, W = grow (redrawn wr p.d) p.os) → (Instr.loadAt 28 (.pointer (some ⟨w.heap.size, 0, none⟩))).run Tryz.prog W = .ok TV W := fun W h => HL.out _ (HX.out.below (below_of_regrown h))
        have QL := Lib.hid hql
        clear hql
        obtain ⟨b, off, rfl, hFb, hel⟩ := HE.out (by omega)
        obtain ⟨xs, ⟨-, -, -, -, rfl⟩, -, hcell⟩ := hel wr (HB.out.block b (HN.out b hFb)) (m + 1) (by omega)
        have p0 := hcell 0 _ rfl
        have p1 := hcell 1 _ rfl
        have p2 := hcell 2 _ rfl
        have p3 := hcell 3 _ rfl
        simp only [Nat.add_zero] at p0
        have e0 := fun d os => cell_regrown p0 d os
        have e1 := fun d os => cell_regrown p1 d os
        have e2 := fun d os => cell_regrown p2 d os
        have e3 := fun d os => cell_regrown p3 d os
        obtain ⟨xs, ⟨-, -, -, -, rfl⟩, -, hcell2⟩ := hel wr (HB.out.block b (HN.out b hFb)) m (by omega)
        have p9 := hcell2 0 _ rfl
        simp only [Nat.add_zero] at p9
        have e9 := fun d os => cell_regrown p9 d os
        clear p9 hcell2
        generalize l[m + 1] = x at e0 e1 e2 e3
        generalize l[m] = y at e9
        clear hel hcell p0 p1 p2 p3
        have g1 := regrownG (w := wr) fun w' h => from_gives x.dir 1 12 w'
        have g4 := regrownG (w := wr) fun w' h => HT.out w' (btK HB.out h) x.goes
        have g6 := regrownG (w := wr) fun w' h => HR.out w' (btK HB.out h) x.cond true
        have g7 := regrownG (w := wr) fun w' h => HS.out w' (btK HB.out h) x.els true
        generalize (decide (1 ≤ x.dir) && decide (x.dir ≤ 12)) = b1 at g1
        generalize routF t x.cond true = b6 at g6
        generalize textF t x.els true = b7 at g7
        go_wp2_with fail
        generalize y.dir = yd at e9
        obtain ⟨xd, xg, xc, xe⟩ := x
        simp only at e0 e1 e2 e3 g1 g4 g6 g7
        by_cases hin : 1 ≤ xg ∧ xg ≤ (t.things.length : Int) - 1
        · rw [decide_eq_true hin.1, decide_eq_true hin.2] at g4
          obtain ⟨j, rfl⟩ : ∃ j : Nat, xg = j := ⟨xg.toNat, by omega⟩
          have j0 : (0 : Int) ≤ (j : Int) := by omega
          have j1 : (j : Int) < (t.things.length : Int) := by omega
          obtain ⟨b8, off8, rfl, hF8, hel8⟩ := HA8.out (by omega)
          obtain ⟨xs, ⟨-, -, -, -, u5, u6, u7, u8, rfl, -, -, -, -⟩, -, hcell8⟩ := hel8 wr (HB.out.block b8 (HN.out b8 hF8)) j (by omega)
          have p8 := hcell8 4 _ rfl
          have e8 := fun d os => cell_regrown p8 d os
          generalize t.things[j].room = b5 at e8
          have G1 := Lib.hid g1; have G4 := Lib.hid g4; have G6 := Lib.hid g6; have G7 := Lib.hid g7
          clear g1 g4 g6 g7 hel8 hcell8 p8 hin hF8 hFb HT HR HS HA8 HE
          as_aux_lemma =>
            refine wp_region_quiet_below (by kernel_rfl) (by kernel_rfl) ?_
            dsimp only [List.append]
            repeat (first | (go_big_quiet_want; (refine quiet_load 28 _ (by rfl) _ (by rfl) TV (fun W hW => QL.out W hW) ?_); simp only [Act.put, List.setIfInBounds_toArray, List.set_cons_succ, List.set_cons_zero]; go_big_quiet_on) | go_big_quiet_step (first | with_reducible exact G1.out _ | with_reducible exact G4.out _ | with_reducible exact G6.out _ | with_reducible exact G7.out _))
            first
            | (with_reducible refine wpQuiet_nil ?_
               intro w3 hw3
               have hb3 := below_of_regrown hw3
               clear hw3
               go_wp2
               all_goals
                 first
                 | (go_ret; exact ⟨_, rfl, btK HB.out hb3⟩)
                 | (go_roundw
                    case rel => exact ⟨m + 1 + 1, by omega, by go_num, btK HB.out hb3, HX.out.below hb3⟩
                    case measure => simp [intOf]; omega))
            | (cases b1
               all_goals
                 (try simp only [Bool.not_true, Bool.not_false])
                 repeat (first | (go_big_quiet_want; (refine quiet_load 28 _ (by rfl) _ (by rfl) TV (fun W hW => QL.out W hW) ?_); simp only [Act.put, List.setIfInBounds_toArray, List.set_cons_succ, List.set_cons_zero]; go_big_quiet_on) | go_big_quiet_step (first | with_reducible exact G1.out _ | with_reducible exact G4.out _ | with_reducible exact G6.out _ | with_reducible exact G7.out _))
                 first
                 | (with_reducible refine wpQuiet_nil ?_
                    intro w3 hw3
                    have hb3 := below_of_regrown hw3
                    clear hw3
                    go_wp2
                    all_goals
                      first
                      | (go_ret; exact ⟨_, rfl, btK HB.out hb3⟩)
                      | (go_roundw
                         case rel => exact ⟨m + 1 + 1, by omega, by go_num, btK HB.out hb3, HX.out.below hb3⟩
                         case measure => simp [intOf]; omega))
                 | (cases hle : decide (xd ≤ yd) <;> clear hle
                    all_goals
                      (try simp only [Bool.not_true, Bool.not_false])
                      repeat (first | (go_big_quiet_want; (refine quiet_load 28 _ (by rfl) _ (by rfl) TV (fun W hW => QL.out W hW) ?_); simp only [Act.put, List.setIfInBounds_toArray, List.set_cons_succ, List.set_cons_zero]; go_big_quiet_on) | go_big_quiet_step (first | with_reducible exact G1.out _ | with_reducible exact G4.out _ | with_reducible exact G6.out _ | with_reducible exact G7.out _))
                      first
                      | (with_reducible refine wpQuiet_nil ?_
                         intro w3 hw3
                         have hb3 := below_of_regrown hw3
                         clear hw3
                         go_wp2
                         all_goals
                           first
                           | (go_ret; exact ⟨_, rfl, btK HB.out hb3⟩)
                           | (go_roundw
                              case rel => exact ⟨m + 1 + 1, by omega, by go_num, btK HB.out hb3, HX.out.below hb3⟩
                              case measure => simp [intOf]; omega))
                      | (cases b5
                         all_goals
                           (try simp only [Bool.not_true, Bool.not_false])
                           repeat (first | (go_big_quiet_want; (refine quiet_load 28 _ (by rfl) _ (by rfl) TV (fun W hW => QL.out W hW) ?_); simp only [Act.put, List.setIfInBounds_toArray, List.set_cons_succ, List.set_cons_zero]; go_big_quiet_on) | go_big_quiet_step (first | with_reducible exact G1.out _ | with_reducible exact G4.out _ | with_reducible exact G6.out _ | with_reducible exact G7.out _))
                           first
                           | (with_reducible refine wpQuiet_nil ?_
                              intro w3 hw3
                              have hb3 := below_of_regrown hw3
                              clear hw3
                              go_wp2
                              all_goals
                                first
                                | (go_ret; exact ⟨_, rfl, btK HB.out hb3⟩)
                                | (go_roundw
                                   case rel => exact ⟨m + 1 + 1, by omega, by go_num, btK HB.out hb3, HX.out.below hb3⟩
                                   case measure => simp [intOf]; omega))
                           | (cases b6
                              all_goals
                                (try simp only [Bool.not_true, Bool.not_false])
                                repeat (first | (go_big_quiet_want; (refine quiet_load 28 _ (by rfl) _ (by rfl) TV (fun W hW => QL.out W hW) ?_); simp only [Act.put, List.setIfInBounds_toArray, List.set_cons_succ, List.set_cons_zero]; go_big_quiet_on) | go_big_quiet_step (first | with_reducible exact G1.out _ | with_reducible exact G4.out _ | with_reducible exact G6.out _ | with_reducible exact G7.out _))
                                with_reducible refine wpQuiet_nil ?_
                                intro w3 hw3
                                have hb3 := below_of_regrown hw3
                                clear hw3
                                go_wp2
                                all_goals
                                  first
                                  | (go_ret; exact ⟨_, rfl, btK HB.out hb3⟩)
                                  | (go_roundw
                                     case rel => exact ⟨m + 1 + 1, by omega, by go_num, btK HB.out hb3, HX.out.below hb3⟩
                                     case measure => simp [intOf]; omega)))))
        · have hf : (decide (1 ≤ xg) && decide (xg ≤ (t.things.length : Int) - 1)) = false := by simpa using hin
          rw [hf] at g4
          have G1 := Lib.hid g1; have G4 := Lib.hid g4; have G6 := Lib.hid g6; have G7 := Lib.hid g7
          clear g1 g4 g6 g7 hin hf hFb HT HR HS HA8 HE
          as_aux_lemma =>
            refine wp_region_quiet_below (by kernel_rfl) (by kernel_rfl) ?_
            dsimp only [List.append]
            repeat (first | (go_big_quiet_want; (refine quiet_load 28 _ (by rfl) _ (by rfl) TV (fun W hW => QL.out W hW) ?_); simp only [Act.put, List.setIfInBounds_toArray, List.set_cons_succ, List.set_cons_zero]; go_big_quiet_on) | go_big_quiet_step (first | with_reducible exact G1.out _ | with_reducible exact G4.out _ | with_reducible exact G6.out _ | with_reducible exact G7.out _))
            first
            | (with_reducible refine wpQuiet_nil ?_
               intro w3 hw3
               have hb3 := below_of_regrown hw3
               clear hw3
               go_wp2
               all_goals
                 first
                 | (go_ret; exact ⟨_, rfl, btK HB.out hb3⟩)
                 | (go_roundw
                    case rel => exact ⟨m + 1 + 1, by omega, by go_num, btK HB.out hb3, HX.out.below hb3⟩
                    case measure => simp [intOf]; omega))
            | (cases b1
               all_goals
                 (try simp only [Bool.not_true, Bool.not_false])
                 repeat (first | (go_big_quiet_want; (refine quiet_load 28 _ (by rfl) _ (by rfl) TV (fun W hW => QL.out W hW) ?_); simp only [Act.put, List.setIfInBounds_toArray, List.set_cons_succ, List.set_cons_zero]; go_big_quiet_on) | go_big_quiet_step (first | with_reducible exact G1.out _ | with_reducible exact G4.out _ | with_reducible exact G6.out _ | with_reducible exact G7.out _))
                 first
                 | (with_reducible refine wpQuiet_nil ?_
                    intro w3 hw3
                    have hb3 := below_of_regrown hw3
                    clear hw3
                    go_wp2
                    all_goals
                      first
                      | (go_ret; exact ⟨_, rfl, btK HB.out hb3⟩)
                      | (go_roundw
                         case rel => exact ⟨m + 1 + 1, by omega, by go_num, btK HB.out hb3, HX.out.below hb3⟩
                         case measure => simp [intOf]; omega))
                 | (cases hle : decide (xd ≤ yd) <;> clear hle
                    all_goals
                      (try simp only [Bool.not_true, Bool.not_false])
                      repeat (first | (go_big_quiet_want; (refine quiet_load 28 _ (by rfl) _ (by rfl) TV (fun W hW => QL.out W hW) ?_); simp only [Act.put, List.setIfInBounds_toArray, List.set_cons_succ, List.set_cons_zero]; go_big_quiet_on) | go_big_quiet_step (first | with_reducible exact G1.out _ | with_reducible exact G4.out _ | with_reducible exact G6.out _ | with_reducible exact G7.out _))
                      with_reducible refine wpQuiet_nil ?_
                      intro w3 hw3
                      have hb3 := below_of_regrown hw3
                      clear hw3
                      go_wp2
                      all_goals
                        first
                        | (go_ret; exact ⟨_, rfl, btK HB.out hb3⟩)
                        | (go_roundw
                           case rel => exact ⟨m + 1 + 1, by omega, by go_num, btK HB.out hb3, HX.out.below hb3⟩
                           case measure => simp [intOf]; omega)))
    · have h1 : ¬ (k : Int) < (l.length : Int) := by omega
      go_wp2
      go_ret
      exact ⟨_, rfl, HB.out⟩
end Go.Proofs.YtapjglpiofpbmaaGreat
/- clewref19's head. Printed by gen-ac5.py. -/
namespace Go.Proofs.YtapjglpiofpbmaaGreat
open Go.RowKit Go.Sort

theorem from_some0 (n lo hi : Int) (w : World) : Calls Tryz.prog 39 #[.int .i64 n, .int .i64 lo, .int .i64 hi] w (Some0 w) :=
  (from_calls n lo hi w).mono (fun _ _ h9 => ⟨_, h9.1, h9.2⟩)
set_option maxRecDepth 100000 in
set_option maxHeartbeats 20000000 in
theorem head_some (F : Nat → Prop) (w : World) (t : TabD) (cs : List Value) (hF : Inn F w) (ht : Holds.tab.R F w t cs) : Calls Tryz.prog 31 #[.agg cs.toArray] w (SomeB w) := by
  have HS := Lib.hid (fun (W : World) (h : Below w.heap.size w W) (m : Int) (z : Bool) => text_some F W t cs m z (Holds.tab.keep (fun b hb => h.block b (hF b hb)) (fun _ h => h) ht))
  obtain ⟨i0, i1, i2, i3, i5, v4, v6, v7, v8, v9, v10, v11, v12, v13, v14, rfl, g4, g6, g7, g8, g9, g10, g11, g12, g13, g14⟩ := ht
  obtain ⟨ad4, ca4, rfl⟩ := g4.shape
  obtain ⟨ad6, ca6, rfl⟩ := g6.shape
  obtain ⟨ad7, ca7, rfl⟩ := g7.shape
  obtain ⟨ad8, ca8, rfl⟩ := g8.shape
  obtain ⟨ad9, ca9, rfl⟩ := g9.shape
  obtain ⟨ad10, ca10, rfl⟩ := g10.shape
  obtain ⟨ad11, ca11, rfl⟩ := g11.shape
  obtain ⟨ad12, ca12, rfl⟩ := g12.shape
  obtain ⟨ad13, ca13, rfl⟩ := g13.shape
  obtain ⟨ad14, ca14, rfl⟩ := g14.shape
  have ln4 := g4.len
  have ln6 := g6.len
  have ln7 := g7.len
  have ln8 := g8.len
  have ln9 := g9.len
  have ln10 := g10.len
  have ln11 := g11.len
  have ln12 := g12.len
  have ln13 := g13.len
  have ln14 := g14.len
  unfold maxLen at ln4 ln6 ln7 ln8 ln9 ln10 ln11 ln12 ln13 ln14
  have HV6 := Lib.hid (fun (W : World) (h : Below w.heap.size w W) => values_some F W t.props _ (RdL.below g6 hF h (Nat.le_refl _)))
  have HV7 := Lib.hid (fun (W : World) (h : Below w.heap.size w W) => values_some F W t.globals _ (RdL.below g7 hF h (Nat.le_refl _)))
  obtain ⟨a4, c4, he4, -, -, ha4⟩ := RdL.opn g4
  cases he4
  obtain ⟨a13, c13, he13, -, -, ha13⟩ := g13.opn
  cases he13
  obtain ⟨a14, c14, he14, -, -, ha14⟩ := g14.opn
  cases he14
  clear g4 g6 g7 g8 g9 g10 g11 g12 g13 g14
  clear i0 i1 i2 i3 i5
  have HA4 := Lib.hid ha4; have HA13 := Lib.hid ha13; have HA14 := Lib.hid ha14
  have HN := Lib.hid hF
  clear ha4 ha13 ha14 hF
  obtain ⟨W1, hW1⟩ : ∃ x, w.alloc (.cells #[.int .i64 t.title, .int .i64 t.byl, .int .i64 t.release, .int .i64 t.most, .slice ad4 t.texts.length ca4, .int .i64 t.flags, .slice ad6 t.props.length ca6, .slice ad7 t.globals.length ca7, .slice ad8 t.things.length ca8, .slice ad9 t.acts.length ca9, .slice ad10 t.deeds.length ca10, .slice ad11 t.funcs.length ca11, .slice ad12 t.daemons.length ca12, .slice ad13 t.params.length ca13, .slice ad14 t.locals.length ca14] 28) = x := ⟨_, rfl⟩
  have hb1 : Below w.heap.size w W1 := by rw [← hW1]; exact (Below.refl _ _).alloc (Nat.le_refl _) _
  have hx1 : BoxT W1 w.heap.size [.int .i64 t.title, .int .i64 t.byl, .int .i64 t.release, .int .i64 t.most, .slice ad4 t.texts.length ca4, .int .i64 t.flags, .slice ad6 t.props.length ca6, .slice ad7 t.globals.length ca7, .slice ad8 t.things.length ca8, .slice ad9 t.acts.length ca9, .slice ad10 t.deeds.length ca10, .slice ad11 t.funcs.length ca11, .slice ad12 t.daemons.length ca12, .slice ad13 t.params.length ca13, .slice ad14 t.locals.length ca14] 28 := by rw [← hW1]; exact BoxT.new _ _ _
  have y0 := hx1.cell 0
  have y1 := hx1.cell 1
  have y2 := hx1.cell 2
  have y3 := hx1.cell 3
  have y4 := hx1.cell 4
  have y5 := hx1.cell 5
  have y6 := hx1.cell 6
  have y7 := hx1.cell 7
  have y8 := hx1.cell 8
  have y9 := hx1.cell 9
  have y10 := hx1.cell 10
  have y11 := hx1.cell 11
  have y12 := hx1.cell 12
  have y13 := hx1.cell 13
  have y14 := hx1.cell 14
  simp only [List.getElem?_cons_succ, List.getElem?_cons_zero] at y0 y1 y2 y3 y4 y5 y6 y7 y8 y9 y10 y11 y12 y13 y14
  have HW1 := Lib.hid hW1; have HB1 := Lib.hid hb1; have HX1 := Lib.hid hx1
  clear hW1 hb1 hx1
  go_enter Tryz.func31, Tryz.ntmps31
  go_upto_region 1 with fail
  rw [HW1.out]
  have HX := HX1; have HB := HB1
  clear HX1 HB1 HW1
  by_cases hpl : t.params.length = t.locals.length
  · have e1 : (((t.params.length : Int)) != (t.locals.length : Int)) = false := by simp; omega
    have HPL := Lib.hid hpl
    clear hpl
    go_wp2_with (first | (go_at_call 63; (with_reducible refine (HS.out _ HB.out _ _).mono ?_); rintro e w1 ⟨_ | _, rfl, hb1⟩ <;> (have HX := Lib.hid (HX.out.below hb1); have HB := Lib.hid (btK HB.out hb1); clear y0 y1 y2 y3 y4 y5 y6 y7 y8 y9 y10 y11 y12 y13 y14; have y0 := HX.out.cell 0; have y1 := HX.out.cell 1; have y2 := HX.out.cell 2; have y3 := HX.out.cell 3; have y4 := HX.out.cell 4; have y5 := HX.out.cell 5; have y6 := HX.out.cell 6; have y7 := HX.out.cell 7; have y8 := HX.out.cell 8; have y9 := HX.out.cell 9; have y10 := HX.out.cell 10; have y11 := HX.out.cell 11; have y12 := HX.out.cell 12; have y13 := HX.out.cell 13; have y14 := HX.out.cell 14; simp only [List.getElem?_cons_succ, List.getElem?_cons_zero] at y0 y1 y2 y3 y4 y5 y6 y7 y8 y9 y10 y11 y12 y13 y14)) | (go_at_call 39; (with_reducible refine (from_some0 _ _ _ _).mono ?_); rintro e w1 ⟨_ | _, rfl, rfl⟩) | (go_at_call 35; (with_reducible refine (HV6.out _ HB.out).mono ?_); rintro e w1 ⟨_ | _, rfl, rfl⟩) | (go_at_call 35; (with_reducible refine (HV7.out _ HB.out).mono ?_); rintro e w1 ⟨_ | _, rfl, rfl⟩))
    all_goals
      first
      | (go_ret; exact ⟨_, rfl, HB.out⟩)
      | (
        clear y0 y1 y2 y3 y4 y5 y6 y7 y8 y9 y10 y11 y12 y13 y14
        go_loopw [3] (fun i wr => ∃ (k : Nat), k ≤ t.texts.length ∧ i = .int .i64 k ∧ Below w.heap.size w wr ∧ BoxT wr w.heap.size [.int .i64 t.title, .int .i64 t.byl, .int .i64 t.release, .int .i64 t.most, .slice ad4 t.texts.length ca4, .int .i64 t.flags, .slice ad6 t.props.length ca6, .slice ad7 t.globals.length ca7, .slice ad8 t.things.length ca8, .slice ad9 t.acts.length ca9, .slice ad10 t.deeds.length ca10, .slice ad11 t.funcs.length ca11, .slice ad12 t.daemons.length ca12, .slice ad13 t.params.length ca13, .slice ad14 t.locals.length ca14] 28) (fun i _ => t.texts.length - (intOf i).toNat)
        case atStart => exact ⟨0, Nat.zero_le _, rfl, HB.out, HX.out⟩
        case round =>
          obtain ⟨k, hk, rfl, hB, hX⟩ := hrel
          have HB := Lib.hid hB
          have HX := Lib.hid hX
          clear hB hX
          have y0 := HX.out.cell 0
          have y1 := HX.out.cell 1
          have y2 := HX.out.cell 2
          have y3 := HX.out.cell 3
          have y4 := HX.out.cell 4
          have y5 := HX.out.cell 5
          have y6 := HX.out.cell 6
          have y7 := HX.out.cell 7
          have y8 := HX.out.cell 8
          have y9 := HX.out.cell 9
          have y10 := HX.out.cell 10
          have y11 := HX.out.cell 11
          have y12 := HX.out.cell 12
          have y13 := HX.out.cell 13
          have y14 := HX.out.cell 14
          simp only [List.getElem?_cons_succ, List.getElem?_cons_zero] at y0 y1 y2 y3 y4 y5 y6 y7 y8 y9 y10 y11 y12 y13 y14
          by_cases hlt : k < t.texts.length
          · have h1 : (k : Int) < (t.texts.length : Int) := by omega
            have h2 : (0 : Int) ≤ (k : Int) := by omega
            obtain ⟨b, off, rfl, hFb, hel⟩ := HA4.out (by omega)
            obtain ⟨xs, ⟨hsz, rfl⟩, -, hcell⟩ := hel wr (HB.out.block b (HN.out b hFb)) k hlt
            have p0 := hcell 0 _ rfl
            simp only [Nat.mul_one, Nat.add_zero] at p0
            have HI := Lib.hid (fun W => isText_some t.texts[k] W hsz)
            generalize t.texts[k] = x at p0 HI
            clear hel hcell hsz
            go_wp2_with ((go_at_call 64; (with_reducible refine (HI.out _).mono ?_); rintro e w1 ⟨_ | _, rfl, rfl⟩))
            all_goals
              first
              | (go_ret; exact ⟨_, rfl, HB.out⟩)
              | (go_roundw
                 case rel => exact ⟨k + 1, by omega, by go_num, HB.out, HX.out⟩
                 case measure => simp [intOf]; omega)
          · have h1 : ¬ (k : Int) < (t.texts.length : Int) := by omega
            clear hk hlt
            go_wp2
            clear y0 y1 y2 y3 y4 y5 y6 y7 y8 y9 y10 y11 y12 y13 y14 h1
            go_loopw [4] (fun i wr => ∃ (k : Nat), k ≤ t.params.length ∧ i = .int .i64 k ∧ Below w.heap.size w wr ∧ BoxT wr w.heap.size [.int .i64 t.title, .int .i64 t.byl, .int .i64 t.release, .int .i64 t.most, .slice ad4 t.texts.length ca4, .int .i64 t.flags, .slice ad6 t.props.length ca6, .slice ad7 t.globals.length ca7, .slice ad8 t.things.length ca8, .slice ad9 t.acts.length ca9, .slice ad10 t.deeds.length ca10, .slice ad11 t.funcs.length ca11, .slice ad12 t.daemons.length ca12, .slice ad13 t.params.length ca13, .slice ad14 t.locals.length ca14] 28) (fun i _ => t.params.length - (intOf i).toNat)
            case atStart => exact ⟨0, Nat.zero_le _, rfl, HB.out, HX.out⟩
            case round =>
              obtain ⟨k, hk, rfl, hB, hX⟩ := hrel
              have HB := Lib.hid hB
              have HX := Lib.hid hX
              clear hB hX
              have y0 := HX.out.cell 0
              have y1 := HX.out.cell 1
              have y2 := HX.out.cell 2
              have y3 := HX.out.cell 3
              have y4 := HX.out.cell 4
              have y5 := HX.out.cell 5
              have y6 := HX.out.cell 6
              have y7 := HX.out.cell 7
              have y8 := HX.out.cell 8
              have y9 := HX.out.cell 9
              have y10 := HX.out.cell 10
              have y11 := HX.out.cell 11
              have y12 := HX.out.cell 12
              have y13 := HX.out.cell 13
              have y14 := HX.out.cell 14
              simp only [List.getElem?_cons_succ, List.getElem?_cons_zero] at y0 y1 y2 y3 y4 y5 y6 y7 y8 y9 y10 y11 y12 y13 y14
              by_cases hlt : k < t.params.length
              · have h1 : (k : Int) < (t.params.length : Int) := by omega
                have h2 : (0 : Int) ≤ (k : Int) := by omega
                have h3 : (k : Int) < (t.locals.length : Int) := by have := HPL.out; omega
                obtain ⟨b, off, rfl, hFb, hel⟩ := HA13.out (by omega)
                obtain ⟨-, p0⟩ := hel wr (HB.out.block b (HN.out b hFb)) k hlt
                have h4 : k < t.locals.length := by omega
                obtain ⟨b2, off2, rfl, hFb2, hel2⟩ := HA14.out (by omega)
                obtain ⟨-, p1⟩ := hel2 wr (HB.out.block b2 (HN.out b2 hFb2)) k (by omega)
                have q13 := fun d os => cell_regrown y13 d os
                have q14 := fun d os => cell_regrown y14 d os
                have e0 := fun d os => cell_regrown p0 d os
                have e1 := fun d os => cell_regrown p1 d os
                generalize t.params[k] = x at e0
                generalize t.locals[k] = y at e1
                have g1 := regrownG (w := wr) fun w' _ => from_gives x 0 8 w'
                have g2 := regrownG (w := wr) fun w' _ => from_gives y x 24 w'
                generalize (decide (0 ≤ x) && decide (x ≤ 8)) = b1 at g1
                generalize (decide (x ≤ y) && decide (y ≤ 24)) = b3 at g2
                have G1 := Lib.hid g1; have G2 := Lib.hid g2
                clear g1 g2 hel hel2 p0 p1 hFb hFb2
                go_wp2_with fail
                clear y0 y1 y2 y3 y4 y5 y6 y7 y8 y9 y10 y11 y12 y13 y14
                as_aux_lemma =>
                  refine wp_region_quiet_below (by kernel_rfl) (by kernel_rfl) ?_
                  (try dsimp only [List.append])
                  repeat (first | go_big_quiet_step (first | with_reducible exact G1.out _ | with_reducible exact G2.out _))
                  first
                  | (with_reducible refine wpQuiet_nil ?_
                     intro w3 hw3
                     have hb3 := below_of_regrown hw3
                     clear hw3
                     go_wp2
                     all_goals
                       first
                       | (go_ret; exact ⟨_, rfl, btK HB.out hb3⟩)
                       | (go_roundw
                          case rel => exact ⟨k + 1, by omega, by go_num, btK HB.out hb3, HX.out.below hb3⟩
                          case measure => simp [intOf]; omega))
                  | (cases b1
                     all_goals
                       (try simp only [Bool.not_true, Bool.not_false])
                       repeat (first | go_big_quiet_step (first | with_reducible exact G1.out _ | with_reducible exact G2.out _))
                       with_reducible refine wpQuiet_nil ?_
                       intro w3 hw3
                       have hb3 := below_of_regrown hw3
                       clear hw3
                       go_wp2
                       all_goals
                         first
                         | (go_ret; exact ⟨_, rfl, btK HB.out hb3⟩)
                         | (go_roundw
                            case rel => exact ⟨k + 1, by omega, by go_num, btK HB.out hb3, HX.out.below hb3⟩
                            case measure => simp [intOf]; omega))
              · have h1 : ¬ (k : Int) < (t.params.length : Int) := by omega
                go_wp2
                go_ret
                exact ⟨_, rfl, HB.out⟩
        )
  · have e1 : (((t.params.length : Int)) != (t.locals.length : Int)) = true := by simp; omega
    have e2 : ¬ (t.params.length : Int) = (t.locals.length : Int) := by omega
    clear hpl
    go_wp2_with (first | (go_at_call 63; (with_reducible refine (HS.out _ HB.out _ _).mono ?_); rintro e w1 ⟨_ | _, rfl, hb1⟩ <;> (have HX := Lib.hid (HX.out.below hb1); have HB := Lib.hid (btK HB.out hb1); clear y0 y1 y2 y3 y4 y5 y6 y7 y8 y9 y10 y11 y12 y13 y14; have y0 := HX.out.cell 0; have y1 := HX.out.cell 1; have y2 := HX.out.cell 2; have y3 := HX.out.cell 3; have y4 := HX.out.cell 4; have y5 := HX.out.cell 5; have y6 := HX.out.cell 6; have y7 := HX.out.cell 7; have y8 := HX.out.cell 8; have y9 := HX.out.cell 9; have y10 := HX.out.cell 10; have y11 := HX.out.cell 11; have y12 := HX.out.cell 12; have y13 := HX.out.cell 13; have y14 := HX.out.cell 14; simp only [List.getElem?_cons_succ, List.getElem?_cons_zero] at y0 y1 y2 y3 y4 y5 y6 y7 y8 y9 y10 y11 y12 y13 y14)) | (go_at_call 39; (with_reducible refine (from_some0 _ _ _ _).mono ?_); rintro e w1 ⟨_ | _, rfl, rfl⟩) | (go_at_call 35; (with_reducible refine (HV6.out _ HB.out).mono ?_); rintro e w1 ⟨_ | _, rfl, rfl⟩) | (go_at_call 35; (with_reducible refine (HV7.out _ HB.out).mono ?_); rintro e w1 ⟨_ | _, rfl, rfl⟩))
    all_goals
      go_ret
      exact ⟨_, rfl, HB.out⟩
end Go.Proofs.YtapjglpiofpbmaaGreat
