/- clewref19's rules and Fits. Printed by gen-ac7.py. -/
import Derived.Test.YtapjglpiofpbmaaGreatAcY
import Derived.Test.YtapjglpiofpbmaaGreatPart3e386472
namespace Go.Proofs.YtapjglpiofpbmaaGreat
open Go.RowKit Go.Sort

theorem givesB {w : World} {f : FuncId} {args : Array Value} {b : Bool} (h : Calls Tryz.prog f args w (Gives w (.bool b))) : Calls Tryz.prog f args w (SomeB w) := h.mono fun _ _ h => ⟨_, h.1, h.2⟩
theorem getA_mem {l : List ActD} {P : ActD → Prop} (h : ∀ i (hi : i < l.length), P l[i]) : ∀ x ∈ l, P x := fun x hx => by
  obtain ⟨i, hi, rfl⟩ := List.getElem_of_mem hx
  exact h i hi
set_option maxRecDepth 100000 in
set_option maxHeartbeats 20000000 in
theorem rules_some (F : Nat → Prop) (w : World) (t : TabD) (cs : List Value) (hF : Inn F w) (ht : Holds.tab.R F w t cs) : Calls Tryz.prog 33 #[.agg cs.toArray] w (SomeQ (t.acts.length ≤ 64 ∧ ∀ a ∈ t.acts, a.lines.length ≤ 8) w) := by
  have HT0 := Lib.hid (fun (W : World) (h : Below w.heap.size w W) (m : Int) => givesB (thing_calls F W t cs m (Holds.tab.keep (fun b hb => h.block b (hF b hb)) (fun _ h => h) ht)))
  have HR0 := Lib.hid (fun (W : World) (h : Below w.heap.size w W) (m : Int) (z : Bool) => routine_calls F W t cs m z (fun b hb => Nat.lt_of_lt_of_le (hF b hb) h.size) (Holds.tab.keep (fun b hb => h.block b (hF b hb)) (fun _ h => h) ht))
  obtain ⟨i0, i1, i2, i3, i5, v4, v6, v7, v8, v9, v10, v11, v12, v13, v14, rfl, g4, g6, g7, g8, g9, g10, g11, g12, g13, g14⟩ := ht
  obtain ⟨ad4, ca4, rfl⟩ := g4.shape
  obtain ⟨ad6, ca6, rfl⟩ := g6.shape
  obtain ⟨ad7, ca7, rfl⟩ := g7.shape
  obtain ⟨ad8, ca8, rfl⟩ := g8.shape
  obtain ⟨ad9, ca9, rfl⟩ := g9.shape
  obtain ⟨ad10, ca10, rfl⟩ := g10.shape
  obtain ⟨ad11, ca11, rfl⟩ := g11.shape
  obtain ⟨ad12, ca12, rfl⟩ := g12.shape
  obtain ⟨ad13, ca13, rfl⟩ := g13.shape
  obtain ⟨ad14, ca14, rfl⟩ := g14.shape
  have ln4 := g4.len
  have ln6 := g6.len
  have ln7 := g7.len
  have ln8 := g8.len
  have ln9 := g9.len
  have ln10 := g10.len
  have ln11 := g11.len
  have ln12 := g12.len
  have ln13 := g13.len
  have ln14 := g14.len
  unfold maxLen at ln4 ln6 ln7 ln8 ln9 ln10 ln11 ln12 ln13 ln14
  obtain ⟨a9, c9, he9, -, -, hA9⟩ := RdL.elem g9 hF
  cases he9
  obtain ⟨a10, c10, he10, -, -, hA10⟩ := RdL.elem g10 hF
  cases he10
  obtain ⟨a11, c11, he11, -, -, hA11⟩ := RdL.elem g11 hF
  cases he11
  obtain ⟨a12, c12, he12, -, -, hA12⟩ := RdL.elem g12 hF
  cases he12
  have HA9 := Lib.hid hA9; have HA10 := Lib.hid hA10; have HA11 := Lib.hid hA11; have HA12 := Lib.hid hA12
  have HN := Lib.hid hF
  clear g4 g6 g7 g8 g9 g10 g11 g12 g13 g14 hA9 hA10 hA11 hA12
  clear i0 i1 i2 i3 i5
  obtain ⟨W1, hW1⟩ : ∃ x, w.alloc (.cells #[.int .i64 t.title, .int .i64 t.byl, .int .i64 t.release, .int .i64 t.most, .slice ad4 t.texts.length ca4, .int .i64 t.flags, .slice ad6 t.props.length ca6, .slice ad7 t.globals.length ca7, .slice ad8 t.things.length ca8, .slice ad9 t.acts.length ca9, .slice ad10 t.deeds.length ca10, .slice ad11 t.funcs.length ca11, .slice ad12 t.daemons.length ca12, .slice ad13 t.params.length ca13, .slice ad14 t.locals.length ca14] 28) = x := ⟨_, rfl⟩
  have hb1 : Below w.heap.size w W1 := by rw [← hW1]; exact (Below.refl _ _).alloc (Nat.le_refl _) _
  have hx1 : BoxT W1 w.heap.size [.int .i64 t.title, .int .i64 t.byl, .int .i64 t.release, .int .i64 t.most, .slice ad4 t.texts.length ca4, .int .i64 t.flags, .slice ad6 t.props.length ca6, .slice ad7 t.globals.length ca7, .slice ad8 t.things.length ca8, .slice ad9 t.acts.length ca9, .slice ad10 t.deeds.length ca10, .slice ad11 t.funcs.length ca11, .slice ad12 t.daemons.length ca12, .slice ad13 t.params.length ca13, .slice ad14 t.locals.length ca14] 28 := by rw [← hW1]; exact BoxT.new _ _ _
  have HW1 := Lib.hid hW1; have HB1 := Lib.hid hb1; have HX1 := Lib.hid hx1
  clear hW1 hb1 hx1
  go_enter Tryz.func33, Tryz.ntmps33
  go_upto_region 1 with fail
  rw [HW1.out]
  obtain ⟨TV, hTV⟩ : ∃ v, Value.agg #[.int .i64 t.title, .int .i64 t.byl, .int .i64 t.release, .int .i64 t.most, .slice ad4 t.texts.length ca4, .int .i64 t.flags, .slice ad6 t.props.length ca6, .slice ad7 t.globals.length ca7, .slice ad8 t.things.length ca8, .slice ad9 t.acts.length ca9, .slice ad10 t.deeds.length ca10, .slice ad11 t.funcs.length ca11, .slice ad12 t.daemons.length ca12, .slice ad13 t.params.length ca13, .slice ad14 t.locals.length ca14] = v := ⟨_, rfl⟩
  have HL : Hid (∀ W, BoxT W w.heap.size [.int .i64 t.title, .int .i64 t.byl, .int .i64 t.release, .int .i64 t.most, .slice ad4 t.texts.length ca4, .int .i64 t.flags, .slice ad6 t.props.length ca6, .slice ad7 t.globals.length ca7, .slice ad8 t.things.length ca8, .slice ad9 t.acts.length ca9, .slice ad10 t.deeds.length ca10, .slice ad11 t.funcs.length ca11, .slice ad12 t.daemons.length ca12, .slice ad13 t.params.length ca13, .slice ad14 t.locals.length ca14] 28 → (Instr.loadAt 28 (.pointer (some ⟨w.heap.size, 0, none⟩))).run Tryz.prog W = .ok TV W) := fun W h => by
    rw [← hTV]
    exact run_loadAt_mid W _ 0 28 _ _ h.range Tryz.underlying28 rfl (by kernel_rfl)
  rw [hTV]
  have HTB := Lib.hid HT0.out; have HRC := Lib.hid HR0.out
  rw [hTV] at HTB HRC
  have HRB := Lib.hid (fun W h m z => givesB (HRC.out W h m z))
  clear hTV HT0 HR0
  have HBv := HB1
  have HXv := HX1
  have y9 := HXv.out.cell 9
  have y10 := HXv.out.cell 10
  have y11 := HXv.out.cell 11
  have y12 := HXv.out.cell 12
  simp only [List.getElem?_cons_succ, List.getElem?_cons_zero] at y9 y10 y11 y12
  by_cases hc1 : t.acts.length ≤ 64
  rotate_left
  · have e1 : (64 : Int) < (t.acts.length : Int) := by omega
    clear hc1
    go_wp2
    go_ret
    exact ⟨_, rfl, (fun h => by cases h), HBv.out⟩
  have e1 : ¬ (64 : Int) < (t.acts.length : Int) := by omega
  have HC1 := Lib.hid hc1
  clear hc1
  go_wp2
  all_goals
    first
    | (go_ret; exact ⟨_, rfl, (fun h => by cases h), HBv.out⟩)
    | (clear y9 y10 y11 y12 e1
       go_loopw [3] (fun i wr => ∃ (k : Nat), k ≤ t.acts.length ∧ i = .int .i64 k ∧ Hid (∀ j (hj : j < t.acts.length), j < k → t.acts[j].lines.length ≤ 8) ∧ Below w.heap.size w wr ∧ BoxT wr w.heap.size [.int .i64 t.title, .int .i64 t.byl, .int .i64 t.release, .int .i64 t.most, .slice ad4 t.texts.length ca4, .int .i64 t.flags, .slice ad6 t.props.length ca6, .slice ad7 t.globals.length ca7, .slice ad8 t.things.length ca8, .slice ad9 t.acts.length ca9, .slice ad10 t.deeds.length ca10, .slice ad11 t.funcs.length ca11, .slice ad12 t.daemons.length ca12, .slice ad13 t.params.length ca13, .slice ad14 t.locals.length ca14] 28) (fun i _ => t.acts.length - (intOf i).toNat)
       case atStart => exact ⟨0, Nat.zero_le _, rfl, (fun j _ h => by omega), HBv.out, HXv.out⟩
       case round =>
         obtain ⟨k, hk, rfl, HPA, hB, hX⟩ := hrel
         have HBv := Lib.hid hB
         have HXv := Lib.hid hX
         clear hB hX
         have y9 := HXv.out.cell 9
         simp only [List.getElem?_cons_succ, List.getElem?_cons_zero] at y9
         by_cases hlt : k < t.acts.length
         rotate_left
         · have h1 : ¬ (k : Int) < (t.acts.length : Int) := by omega
           have HPA : Hid (∀ j (hj : j < t.acts.length), t.acts[j].lines.length ≤ 8) := fun j hj => HPA.out j hj (by omega)
           go_wp2
           clear h1 y9 hlt hk
           go_loopw [5] (fun i wr => ∃ (k : Nat), k ≤ t.deeds.length ∧ i = .int .i64 k ∧ Below w.heap.size w wr ∧ BoxT wr w.heap.size [.int .i64 t.title, .int .i64 t.byl, .int .i64 t.release, .int .i64 t.most, .slice ad4 t.texts.length ca4, .int .i64 t.flags, .slice ad6 t.props.length ca6, .slice ad7 t.globals.length ca7, .slice ad8 t.things.length ca8, .slice ad9 t.acts.length ca9, .slice ad10 t.deeds.length ca10, .slice ad11 t.funcs.length ca11, .slice ad12 t.daemons.length ca12, .slice ad13 t.params.length ca13, .slice ad14 t.locals.length ca14] 28) (fun i _ => t.deeds.length - (intOf i).toNat)
           case atStart => exact ⟨0, Nat.zero_le _, rfl, HBv.out, HXv.out⟩
           case round =>
             obtain ⟨k, hk, rfl, hB, hX⟩ := hrel
             have HBv := Lib.hid hB
             have HXv := Lib.hid hX
             clear hB hX
             have y9 := HXv.out.cell 9
             have y10 := HXv.out.cell 10
             simp only [List.getElem?_cons_succ, List.getElem?_cons_zero] at y9 y10
             by_cases hlt : k < t.deeds.length
             rotate_left
             · have h1 : ¬ (k : Int) < (t.deeds.length : Int) := by omega
               go_wp2
               clear h1 y9 y10 hlt hk
               go_loopw [7] (fun i wr => ∃ (k : Nat), k ≤ t.funcs.length ∧ i = .int .i64 k ∧ Below w.heap.size w wr ∧ BoxT wr w.heap.size [.int .i64 t.title, .int .i64 t.byl, .int .i64 t.release, .int .i64 t.most, .slice ad4 t.texts.length ca4, .int .i64 t.flags, .slice ad6 t.props.length ca6, .slice ad7 t.globals.length ca7, .slice ad8 t.things.length ca8, .slice ad9 t.acts.length ca9, .slice ad10 t.deeds.length ca10, .slice ad11 t.funcs.length ca11, .slice ad12 t.daemons.length ca12, .slice ad13 t.params.length ca13, .slice ad14 t.locals.length ca14] 28) (fun i _ => t.funcs.length - (intOf i).toNat)
               case atStart => exact ⟨0, Nat.zero_le _, rfl, HBv.out, HXv.out⟩
               case round =>
                 obtain ⟨k, hk, rfl, hB, hX⟩ := hrel
                 have HBv := Lib.hid hB
                 have HXv := Lib.hid hX
                 clear hB hX
                 have y11 := HXv.out.cell 11
                 have y13 := HXv.out.cell 13
                 simp only [List.getElem?_cons_succ, List.getElem?_cons_zero] at y11 y13
                 by_cases hlt : k < t.funcs.length
                 rotate_left
                 · have h1 : ¬ (k : Int) < (t.funcs.length : Int) := by omega
                   go_wp2
                   clear h1 y11 y13 hlt hk
                   go_loopw [8] (fun i wr => ∃ (k : Nat), k ≤ t.daemons.length ∧ i = .int .i64 k ∧ Below w.heap.size w wr ∧ BoxT wr w.heap.size [.int .i64 t.title, .int .i64 t.byl, .int .i64 t.release, .int .i64 t.most, .slice ad4 t.texts.length ca4, .int .i64 t.flags, .slice ad6 t.props.length ca6, .slice ad7 t.globals.length ca7, .slice ad8 t.things.length ca8, .slice ad9 t.acts.length ca9, .slice ad10 t.deeds.length ca10, .slice ad11 t.funcs.length ca11, .slice ad12 t.daemons.length ca12, .slice ad13 t.params.length ca13, .slice ad14 t.locals.length ca14] 28) (fun i _ => t.daemons.length - (intOf i).toNat)
                   case atStart => exact ⟨0, Nat.zero_le _, rfl, HBv.out, HXv.out⟩
                   case round =>
                     obtain ⟨k, hk, rfl, hB, hX⟩ := hrel
                     have HBv := Lib.hid hB
                     have HXv := Lib.hid hX
                     clear hB hX
                     have y12 := HXv.out.cell 12
                     simp only [List.getElem?_cons_succ, List.getElem?_cons_zero] at y12
                     by_cases hlt : k < t.daemons.length
                     rotate_left
                     · have h1 : ¬ (k : Int) < (t.daemons.length : Int) := by omega
                       go_wp2
                       go_ret
                       exact ⟨_, rfl, (fun _ => ⟨HC1.out, getA_mem HPA.out⟩), HBv.out⟩
                     have h1 : (k : Int) < (t.daemons.length : Int) := by omega
                     have h2 : (0 : Int) ≤ (k : Int) := by omega
                     go_wp2_with fail
                     obtain ⟨b12, off12, rfl, hel⟩ := HA12.out (by omega)
                     obtain ⟨xs, -, ⟨-, rfl⟩, hr⟩ := hel k hlt
                     have p0 := hr wr HBv.out 0 _ rfl
                     simp only [Nat.mul_one, Nat.add_zero] at p0
                     have q12 := fun d os => cell_regrown y12 d os
                     have e0 := fun d os => cell_regrown p0 d os
                     have hql : ∀ W, (∃ p : Regrown, W = grow (redrawn wr p.d) p.os) → (Instr.loadAt 28 (.pointer (some ⟨w.heap.size, 0, none⟩))).run Tryz.prog W = .ok TV W := fun W h => HL.out _ (HXv.out.below (below_of_regrown h))
                     have QL := Lib.hid hql
                     generalize t.daemons[k] = x at e0
                     have g1 := regrownG (w := wr) fun w' h => HRC.out w' (btK HBv.out h) x false
                     generalize routF t x false = b1 at g1
                     have G1 := Lib.hid g1
                     clear g1 hel hr p0 hql
                     clear y12
                     as_aux_lemma =>
                       refine wp_region_quiet_below (by kernel_rfl) (by kernel_rfl) ?_
                       (try dsimp only [List.append])
                       repeat (first | (go_big_quiet_want; (refine quiet_load 28 _ (by rfl) _ (by rfl) TV (fun W hW => QL.out W hW) ?_); simp only [Act.put, List.setIfInBounds_toArray, List.set_cons_succ, List.set_cons_zero]; go_big_quiet_on) | go_big_quiet_step (first | with_reducible exact G1.out _))
                       with_reducible refine wpQuiet_nil ?_
                       intro w3 hw3
                       have hb3 := below_of_regrown hw3
                       clear hw3
                       go_wp2
                       all_goals
                         first
                         | (go_ret; exact ⟨_, rfl, (fun h => by cases h), btK HBv.out hb3⟩)
                         | (go_roundw
                            case rel => exact ⟨k + 1, by omega, by go_num, btK HBv.out hb3, HXv.out.below hb3⟩
                            case measure => simp [intOf]; omega)
                 have h1 : (k : Int) < (t.funcs.length : Int) := by omega
                 have h2 : (0 : Int) ≤ (k : Int) := by omega
                 go_wp2_with fail
                 obtain ⟨b11, off11, rfl, hel⟩ := HA11.out (by omega)
                 obtain ⟨xs, -, ⟨-, rfl⟩, hr⟩ := hel k hlt
                 have p0 := hr wr HBv.out 0 _ rfl
                 simp only [Nat.mul_one, Nat.add_zero] at p0
                 have q11 := fun d os => cell_regrown y11 d os
                 have q13 := fun d os => cell_regrown y13 d os
                 have e0 := fun d os => cell_regrown p0 d os
                 generalize t.funcs[k] = x at e0
                 have g1 := regrownG (w := wr) fun w' _ => from_gives x 0 ((t.params.length : Int) - 1) w'
                 generalize (decide (0 ≤ x) && decide (x ≤ (t.params.length : Int) - 1)) = b1 at g1
                 have G1 := Lib.hid g1
                 clear g1 hel hr p0
                 clear y11 y13
                 as_aux_lemma =>
                   refine wp_region_quiet_below (by kernel_rfl) (by kernel_rfl) ?_
                   (try dsimp only [List.append])
                   repeat (first | go_big_quiet_step (first | with_reducible exact G1.out _))
                   with_reducible refine wpQuiet_nil ?_
                   intro w3 hw3
                   have hb3 := below_of_regrown hw3
                   clear hw3
                   go_wp2
                   all_goals
                     first
                     | (go_ret; exact ⟨_, rfl, (fun h => by cases h), btK HBv.out hb3⟩)
                     | (go_roundw
                        case rel => exact ⟨k + 1, by omega, by go_num, btK HBv.out hb3, HXv.out.below hb3⟩
                        case measure => simp [intOf]; omega)
             have h1 : (k : Int) < (t.deeds.length : Int) := by omega
             have h2 : (0 : Int) ≤ (k : Int) := by omega
             obtain ⟨b10, off10, rfl, hel⟩ := HA10.out (by omega)
             obtain ⟨xs, -, ⟨-, -, -, -, -, -, rfl⟩, hr⟩ := hel k hlt
             have hp := hr wr HBv.out
             have p0 := hp 0 _ rfl
             have p1 := hp 1 _ rfl
             have p2 := hp 2 _ rfl
             have p3 := hp 3 _ rfl
             have p4 := hp 4 _ rfl
             have p5 := hp 5 _ rfl
             simp only [Nat.add_zero] at p0
             generalize t.deeds[k] = x at p0 p1 p2 p3 p4 p5
             obtain ⟨xv, xp, xn, xs, xc, xb⟩ := x
             simp only at p0 p1 p2 p3 p4 p5
             clear hel hr hp
             have hn : xn = -1 ∨ (xn != -1) = true := by by_cases h : xn = -1 <;> simp [h]
             have hs : xs = -1 ∨ (xs != -1) = true := by by_cases h : xs = -1 <;> simp [h]
             rcases hn with rfl | hn <;> rcases hs with rfl | hs
             · go_upto_region 17 with fail
               obtain ⟨wq, hwq⟩ : ∃ z, wr.alloc (.cells #[.int .i64 xv, .int .i64 xp, .int .i64 (-1), .int .i64 (-1), .int .i64 xc, .int .i64 xb] 101) = z := ⟨_, rfl⟩
               rw [hwq]
               have hbq : Below wr.heap.size wr wq := by rw [← hwq]; exact (Below.refl _ _).alloc (Nat.le_refl _) _
               have hyq : BoxT wq wr.heap.size [.int .i64 xv, .int .i64 xp, .int .i64 (-1), .int .i64 (-1), .int .i64 xc, .int .i64 xb] 101 := by rw [← hwq]; exact BoxT.new _ _ _
               have HBv := Lib.hid (btK HBv.out hbq)
               have HXv := Lib.hid (HXv.out.below hbq)
               generalize wr.heap.size = y at hyq ⊢
               have HZ := Lib.hid hyq
               have HXq := HXv
               clear hwq hbq hyq p0 p1 p2 p3 p4 p5 y9 y10
               have HFX : Hid (∀ W, Below wq.heap.size wq W → W.cell? ⟨y, 0, none⟩ = some (.int .i64 xv) ∧ W.cell? ⟨y, 1, none⟩ = some (.int .i64 xp) ∧ W.cell? ⟨y, 2, none⟩ = some (.int .i64 (-1)) ∧ W.cell? ⟨y, 3, none⟩ = some (.int .i64 (-1)) ∧ W.cell? ⟨y, 4, none⟩ = some (.int .i64 xc) ∧ W.cell? ⟨y, 5, none⟩ = some (.int .i64 xb) ∧ W.cell? ⟨w.heap.size, 9, none⟩ = some (.slice ad9 t.acts.length ca9)) := fun W h => ⟨(HZ.out.below h).cell 0, (HZ.out.below h).cell 1, (HZ.out.below h).cell 2, (HZ.out.below h).cell 3, (HZ.out.below h).cell 4, (HZ.out.below h).cell 5, (HXq.out.below h).cell 9⟩
               have HB0 : Hid (Below wq.heap.size wq wq) := Below.refl _ _
               obtain ⟨z0, z1, z2, z3, z4, z5, y9⟩ := HFX.out _ HB0.out
               go_wp2_with (first | ((with_reducible refine wpList_load_T 28 (.tmp 1) ?hw9 ⟨w.heap.size, 0, none⟩ ?hx9 TV (HL.out _ HXv.out) ?_); (case hw9 => rfl); (case hx9 => first | rfl | (exact rfl))) | (go_at_call 39; (with_reducible refine (from_someB _ _ _ _).mono ?_); rintro e w1 ⟨_ | _, rfl, hb1⟩ <;> (have HXv := Lib.hid (HXv.out.below hb1); have HBv := Lib.hid (btK HBv.out hb1); have HB0 := Lib.hid (btK HB0.out hb1); clear z0 z1 z2 z3 z4 z5 y9; obtain ⟨z0, z1, z2, z3, z4, z5, y9⟩ := HFX.out _ HB0.out)) | (go_at_call 67; (with_reducible refine ((HTB.out _ HBv.out _)).mono ?_); rintro e w1 ⟨_ | _, rfl, hb1⟩ <;> (have HXv := Lib.hid (HXv.out.below hb1); have HBv := Lib.hid (btK HBv.out hb1); have HB0 := Lib.hid (btK HB0.out hb1); clear z0 z1 z2 z3 z4 z5 y9; obtain ⟨z0, z1, z2, z3, z4, z5, y9⟩ := HFX.out _ HB0.out)) | (go_at_call 72; (with_reducible refine ((HRB.out _ HBv.out _ _)).mono ?_); rintro e w1 ⟨_ | _, rfl, hb1⟩ <;> (have HXv := Lib.hid (HXv.out.below hb1); have HBv := Lib.hid (btK HBv.out hb1); have HB0 := Lib.hid (btK HB0.out hb1); clear z0 z1 z2 z3 z4 z5 y9; obtain ⟨z0, z1, z2, z3, z4, z5, y9⟩ := HFX.out _ HB0.out)))
               all_goals
                 first
                 | (go_ret; exact ⟨_, rfl, (fun h => by cases h), HBv.out⟩)
                 | (go_roundw
                    case rel => exact ⟨k + 1, by omega, by go_num, HBv.out, HXv.out⟩
                    case measure => simp [intOf]; omega)
             · go_upto_region 17 with fail
               obtain ⟨wq, hwq⟩ : ∃ z, wr.alloc (.cells #[.int .i64 xv, .int .i64 xp, .int .i64 (-1), .int .i64 (xs), .int .i64 xc, .int .i64 xb] 101) = z := ⟨_, rfl⟩
               rw [hwq]
               have hbq : Below wr.heap.size wr wq := by rw [← hwq]; exact (Below.refl _ _).alloc (Nat.le_refl _) _
               have hyq : BoxT wq wr.heap.size [.int .i64 xv, .int .i64 xp, .int .i64 (-1), .int .i64 (xs), .int .i64 xc, .int .i64 xb] 101 := by rw [← hwq]; exact BoxT.new _ _ _
               have HBv := Lib.hid (btK HBv.out hbq)
               have HXv := Lib.hid (HXv.out.below hbq)
               generalize wr.heap.size = y at hyq ⊢
               have HZ := Lib.hid hyq
               have HXq := HXv
               clear hwq hbq hyq p0 p1 p2 p3 p4 p5 y9 y10
               have HFX : Hid (∀ W, Below wq.heap.size wq W → W.cell? ⟨y, 0, none⟩ = some (.int .i64 xv) ∧ W.cell? ⟨y, 1, none⟩ = some (.int .i64 xp) ∧ W.cell? ⟨y, 2, none⟩ = some (.int .i64 (-1)) ∧ W.cell? ⟨y, 3, none⟩ = some (.int .i64 (xs)) ∧ W.cell? ⟨y, 4, none⟩ = some (.int .i64 xc) ∧ W.cell? ⟨y, 5, none⟩ = some (.int .i64 xb) ∧ W.cell? ⟨w.heap.size, 9, none⟩ = some (.slice ad9 t.acts.length ca9)) := fun W h => ⟨(HZ.out.below h).cell 0, (HZ.out.below h).cell 1, (HZ.out.below h).cell 2, (HZ.out.below h).cell 3, (HZ.out.below h).cell 4, (HZ.out.below h).cell 5, (HXq.out.below h).cell 9⟩
               have HB0 : Hid (Below wq.heap.size wq wq) := Below.refl _ _
               obtain ⟨z0, z1, z2, z3, z4, z5, y9⟩ := HFX.out _ HB0.out
               go_wp2_with (first | ((with_reducible refine wpList_load_T 28 (.tmp 1) ?hw9 ⟨w.heap.size, 0, none⟩ ?hx9 TV (HL.out _ HXv.out) ?_); (case hw9 => rfl); (case hx9 => first | rfl | (exact rfl))) | (go_at_call 39; (with_reducible refine (from_someB _ _ _ _).mono ?_); rintro e w1 ⟨_ | _, rfl, hb1⟩ <;> (have HXv := Lib.hid (HXv.out.below hb1); have HBv := Lib.hid (btK HBv.out hb1); have HB0 := Lib.hid (btK HB0.out hb1); clear z0 z1 z2 z3 z4 z5 y9; obtain ⟨z0, z1, z2, z3, z4, z5, y9⟩ := HFX.out _ HB0.out)) | (go_at_call 67; (with_reducible refine ((HTB.out _ HBv.out _)).mono ?_); rintro e w1 ⟨_ | _, rfl, hb1⟩ <;> (have HXv := Lib.hid (HXv.out.below hb1); have HBv := Lib.hid (btK HBv.out hb1); have HB0 := Lib.hid (btK HB0.out hb1); clear z0 z1 z2 z3 z4 z5 y9; obtain ⟨z0, z1, z2, z3, z4, z5, y9⟩ := HFX.out _ HB0.out)) | (go_at_call 72; (with_reducible refine ((HRB.out _ HBv.out _ _)).mono ?_); rintro e w1 ⟨_ | _, rfl, hb1⟩ <;> (have HXv := Lib.hid (HXv.out.below hb1); have HBv := Lib.hid (btK HBv.out hb1); have HB0 := Lib.hid (btK HB0.out hb1); clear z0 z1 z2 z3 z4 z5 y9; obtain ⟨z0, z1, z2, z3, z4, z5, y9⟩ := HFX.out _ HB0.out)))
               all_goals
                 first
                 | (go_ret; exact ⟨_, rfl, (fun h => by cases h), HBv.out⟩)
                 | (go_roundw
                    case rel => exact ⟨k + 1, by omega, by go_num, HBv.out, HXv.out⟩
                    case measure => simp [intOf]; omega)
             · go_upto_region 17 with fail
               obtain ⟨wq, hwq⟩ : ∃ z, wr.alloc (.cells #[.int .i64 xv, .int .i64 xp, .int .i64 (xn), .int .i64 (-1), .int .i64 xc, .int .i64 xb] 101) = z := ⟨_, rfl⟩
               rw [hwq]
               have hbq : Below wr.heap.size wr wq := by rw [← hwq]; exact (Below.refl _ _).alloc (Nat.le_refl _) _
               have hyq : BoxT wq wr.heap.size [.int .i64 xv, .int .i64 xp, .int .i64 (xn), .int .i64 (-1), .int .i64 xc, .int .i64 xb] 101 := by rw [← hwq]; exact BoxT.new _ _ _
               have HBv := Lib.hid (btK HBv.out hbq)
               have HXv := Lib.hid (HXv.out.below hbq)
               generalize wr.heap.size = y at hyq ⊢
               have HZ := Lib.hid hyq
               have HXq := HXv
               clear hwq hbq hyq p0 p1 p2 p3 p4 p5 y9 y10
               have HFX : Hid (∀ W, Below wq.heap.size wq W → W.cell? ⟨y, 0, none⟩ = some (.int .i64 xv) ∧ W.cell? ⟨y, 1, none⟩ = some (.int .i64 xp) ∧ W.cell? ⟨y, 2, none⟩ = some (.int .i64 (xn)) ∧ W.cell? ⟨y, 3, none⟩ = some (.int .i64 (-1)) ∧ W.cell? ⟨y, 4, none⟩ = some (.int .i64 xc) ∧ W.cell? ⟨y, 5, none⟩ = some (.int .i64 xb) ∧ W.cell? ⟨w.heap.size, 9, none⟩ = some (.slice ad9 t.acts.length ca9)) := fun W h => ⟨(HZ.out.below h).cell 0, (HZ.out.below h).cell 1, (HZ.out.below h).cell 2, (HZ.out.below h).cell 3, (HZ.out.below h).cell 4, (HZ.out.below h).cell 5, (HXq.out.below h).cell 9⟩
               have HB0 : Hid (Below wq.heap.size wq wq) := Below.refl _ _
               obtain ⟨z0, z1, z2, z3, z4, z5, y9⟩ := HFX.out _ HB0.out
               go_wp2_with (first | ((with_reducible refine wpList_load_T 28 (.tmp 1) ?hw9 ⟨w.heap.size, 0, none⟩ ?hx9 TV (HL.out _ HXv.out) ?_); (case hw9 => rfl); (case hx9 => first | rfl | (exact rfl))) | (go_at_call 39; (with_reducible refine (from_someB _ _ _ _).mono ?_); rintro e w1 ⟨_ | _, rfl, hb1⟩ <;> (have HXv := Lib.hid (HXv.out.below hb1); have HBv := Lib.hid (btK HBv.out hb1); have HB0 := Lib.hid (btK HB0.out hb1); clear z0 z1 z2 z3 z4 z5 y9; obtain ⟨z0, z1, z2, z3, z4, z5, y9⟩ := HFX.out _ HB0.out)) | (go_at_call 67; (with_reducible refine ((HTB.out _ HBv.out _)).mono ?_); rintro e w1 ⟨_ | _, rfl, hb1⟩ <;> (have HXv := Lib.hid (HXv.out.below hb1); have HBv := Lib.hid (btK HBv.out hb1); have HB0 := Lib.hid (btK HB0.out hb1); clear z0 z1 z2 z3 z4 z5 y9; obtain ⟨z0, z1, z2, z3, z4, z5, y9⟩ := HFX.out _ HB0.out)) | (go_at_call 72; (with_reducible refine ((HRB.out _ HBv.out _ _)).mono ?_); rintro e w1 ⟨_ | _, rfl, hb1⟩ <;> (have HXv := Lib.hid (HXv.out.below hb1); have HBv := Lib.hid (btK HBv.out hb1); have HB0 := Lib.hid (btK HB0.out hb1); clear z0 z1 z2 z3 z4 z5 y9; obtain ⟨z0, z1, z2, z3, z4, z5, y9⟩ := HFX.out _ HB0.out)))
               all_goals
                 first
                 | (go_ret; exact ⟨_, rfl, (fun h => by cases h), HBv.out⟩)
                 | (go_roundw
                    case rel => exact ⟨k + 1, by omega, by go_num, HBv.out, HXv.out⟩
                    case measure => simp [intOf]; omega)
             · go_upto_region 17 with fail
               obtain ⟨wq, hwq⟩ : ∃ z, wr.alloc (.cells #[.int .i64 xv, .int .i64 xp, .int .i64 (xn), .int .i64 (xs), .int .i64 xc, .int .i64 xb] 101) = z := ⟨_, rfl⟩
               rw [hwq]
               have hbq : Below wr.heap.size wr wq := by rw [← hwq]; exact (Below.refl _ _).alloc (Nat.le_refl _) _
               have hyq : BoxT wq wr.heap.size [.int .i64 xv, .int .i64 xp, .int .i64 (xn), .int .i64 (xs), .int .i64 xc, .int .i64 xb] 101 := by rw [← hwq]; exact BoxT.new _ _ _
               have HBv := Lib.hid (btK HBv.out hbq)
               have HXv := Lib.hid (HXv.out.below hbq)
               generalize wr.heap.size = y at hyq ⊢
               have HZ := Lib.hid hyq
               have HXq := HXv
               clear hwq hbq hyq p0 p1 p2 p3 p4 p5 y9 y10
               have HFX : Hid (∀ W, Below wq.heap.size wq W → W.cell? ⟨y, 0, none⟩ = some (.int .i64 xv) ∧ W.cell? ⟨y, 1, none⟩ = some (.int .i64 xp) ∧ W.cell? ⟨y, 2, none⟩ = some (.int .i64 (xn)) ∧ W.cell? ⟨y, 3, none⟩ = some (.int .i64 (xs)) ∧ W.cell? ⟨y, 4, none⟩ = some (.int .i64 xc) ∧ W.cell? ⟨y, 5, none⟩ = some (.int .i64 xb) ∧ W.cell? ⟨w.heap.size, 9, none⟩ = some (.slice ad9 t.acts.length ca9)) := fun W h => ⟨(HZ.out.below h).cell 0, (HZ.out.below h).cell 1, (HZ.out.below h).cell 2, (HZ.out.below h).cell 3, (HZ.out.below h).cell 4, (HZ.out.below h).cell 5, (HXq.out.below h).cell 9⟩
               have HB0 : Hid (Below wq.heap.size wq wq) := Below.refl _ _
               obtain ⟨z0, z1, z2, z3, z4, z5, y9⟩ := HFX.out _ HB0.out
               go_wp2_with (first | ((with_reducible refine wpList_load_T 28 (.tmp 1) ?hw9 ⟨w.heap.size, 0, none⟩ ?hx9 TV (HL.out _ HXv.out) ?_); (case hw9 => rfl); (case hx9 => first | rfl | (exact rfl))) | (go_at_call 39; (with_reducible refine (from_someB _ _ _ _).mono ?_); rintro e w1 ⟨_ | _, rfl, hb1⟩ <;> (have HXv := Lib.hid (HXv.out.below hb1); have HBv := Lib.hid (btK HBv.out hb1); have HB0 := Lib.hid (btK HB0.out hb1); clear z0 z1 z2 z3 z4 z5 y9; obtain ⟨z0, z1, z2, z3, z4, z5, y9⟩ := HFX.out _ HB0.out)) | (go_at_call 67; (with_reducible refine ((HTB.out _ HBv.out _)).mono ?_); rintro e w1 ⟨_ | _, rfl, hb1⟩ <;> (have HXv := Lib.hid (HXv.out.below hb1); have HBv := Lib.hid (btK HBv.out hb1); have HB0 := Lib.hid (btK HB0.out hb1); clear z0 z1 z2 z3 z4 z5 y9; obtain ⟨z0, z1, z2, z3, z4, z5, y9⟩ := HFX.out _ HB0.out)) | (go_at_call 72; (with_reducible refine ((HRB.out _ HBv.out _ _)).mono ?_); rintro e w1 ⟨_ | _, rfl, hb1⟩ <;> (have HXv := Lib.hid (HXv.out.below hb1); have HBv := Lib.hid (btK HBv.out hb1); have HB0 := Lib.hid (btK HB0.out hb1); clear z0 z1 z2 z3 z4 z5 y9; obtain ⟨z0, z1, z2, z3, z4, z5, y9⟩ := HFX.out _ HB0.out)))
               all_goals
                 first
                 | (go_ret; exact ⟨_, rfl, (fun h => by cases h), HBv.out⟩)
                 | (go_roundw
                    case rel => exact ⟨k + 1, by omega, by go_num, HBv.out, HXv.out⟩
                    case measure => simp [intOf]; omega)
         have h1 : (k : Int) < (t.acts.length : Int) := by omega
         have h2 : (0 : Int) ≤ (k : Int) := by omega
         obtain ⟨b9, off9, rfl, hel⟩ := HA9.out (by omega)
         obtain ⟨xs, -, ⟨v1, rfl, hl⟩, hr⟩ := hel k hlt
         obtain ⟨al, cl, rfl, -, -, hll⟩ := RdL.elem hl HN.out
         have HLN := Lib.hid hll
         have hp1 := fun W h => hr W h 1 _ rfl
         have HP1 := Lib.hid hp1
         have p1 := hp1 wr HBv.out
         have hPN : t.acts[k].lines.length ≤ 8 → ∀ j (hj : j < t.acts.length), j < k + 1 → t.acts[j].lines.length ≤ 8 := fun h j hj h2 => by
           rcases Nat.lt_or_ge j k with h9 | h9
           · exact HPA.out j hj h9
           · obtain rfl : j = k := by omega
             exact h
         have hln := hl.len
         unfold maxLen at hln
         have HPN := Lib.hid hPN
         generalize t.acts[k] = x at HLN HP1 p1 HPN hln
         clear hel hr hp1 hPN hl hll
         by_cases h8 : 1 ≤ x.lines.length ∧ x.lines.length ≤ 8
         · have HF9 : Hid (∀ W, Calls Tryz.prog 39 #[.int .i64 (x.lines.length : Int), .int .i64 1, .int .i64 8] W (Gives W (.bool true))) := fun W => by
             have h9 := from_gives (x.lines.length : Int) 1 8 W
             rwa [decide_eq_true (by omega : (1 : Int) ≤ (x.lines.length : Int)), decide_eq_true (by omega : (x.lines.length : Int) ≤ 8)] at h9
           have HPN := Lib.hid (HPN.out h8.2)
           clear h8
           go_wp2_with ((go_at_call 39; (with_reducible refine (HF9.out _).mono ?_); rintro e w1 ⟨rfl, hb1⟩ <;> (have HXv := Lib.hid (HXv.out.below hb1); have HBv := Lib.hid (btK HBv.out hb1))))
           clear y9 p1
           go_loopw [4] (fun i wr => ∃ (k : Nat), k ≤ x.lines.length ∧ i = .int .i64 k ∧ Below w.heap.size w wr ∧ BoxT wr w.heap.size [.int .i64 t.title, .int .i64 t.byl, .int .i64 t.release, .int .i64 t.most, .slice ad4 t.texts.length ca4, .int .i64 t.flags, .slice ad6 t.props.length ca6, .slice ad7 t.globals.length ca7, .slice ad8 t.things.length ca8, .slice (some ⟨b9, off9, none⟩) t.acts.length ca9, .slice ad10 t.deeds.length ca10, .slice ad11 t.funcs.length ca11, .slice ad12 t.daemons.length ca12, .slice ad13 t.params.length ca13, .slice ad14 t.locals.length ca14] 28) (fun i _ => x.lines.length - (intOf i).toNat)
           case atStart => exact ⟨0, Nat.zero_le _, rfl, HBv.out, HXv.out⟩
           case round =>
             obtain ⟨m, hk, rfl, hB, hX⟩ := hrel
             have HBv := Lib.hid hB
             have HXv := Lib.hid hX
             clear hB hX
             have y9 := HXv.out.cell 9
             simp only [List.getElem?_cons_succ, List.getElem?_cons_zero] at y9
             by_cases hlt : m < x.lines.length
             rotate_left
             · have h1 : ¬ (m : Int) < (x.lines.length : Int) := by omega
               have p1 := HP1.out wr HBv.out
               go_wp2
               go_roundw
               case rel => exact ⟨k + 1, by omega, by go_num, HPN.out, HBv.out, HXv.out⟩
               case measure => simp [intOf]; omega
             have h1 : (m : Int) < (x.lines.length : Int) := by omega
             have h2 : (0 : Int) ≤ (m : Int) := by omega
             obtain ⟨bl, offl, rfl, hell⟩ := HLN.out (by omega)
             obtain ⟨xs2, -, ⟨v2, rfl, hsl⟩, hr2⟩ := hell m hlt
             have r0 := hr2 wr HBv.out 0 _ rfl
             simp only [Nat.mul_one, Nat.add_zero] at r0
             have p1 := HP1.out wr HBv.out
             have HLI := Lib.hid (line_some F wr _ v2 (fun b hb => Nat.lt_of_lt_of_le (HN.out b hb) HBv.out.size) (RdL.below hsl HN.out HBv.out (Nat.le_refl _)))
             clear hell hr2 hsl
             go_wp2_with ((go_at_call 71; (with_reducible refine (HLI.out).mono ?_); rintro e w1 ⟨_ | _, rfl, hb1⟩ <;> (have HXv := Lib.hid (HXv.out.below hb1); have HBv := Lib.hid (btK HBv.out hb1))))
             all_goals
               first
               | (go_ret; exact ⟨_, rfl, (fun h => by cases h), HBv.out⟩)
               | (go_roundw
                  case rel => exact ⟨m + 1, by omega, by go_num, HBv.out, HXv.out⟩
                  case measure => simp [intOf]; omega)
         · have hf : (decide ((1 : Int) ≤ (x.lines.length : Int)) && decide ((x.lines.length : Int) ≤ 8)) = false := by
             rw [Bool.and_eq_false_iff]
             simp only [decide_eq_false_iff_not]
             omega
           have HF9 : Hid (∀ W, Calls Tryz.prog 39 #[.int .i64 (x.lines.length : Int), .int .i64 1, .int .i64 8] W (Gives W (.bool false))) := fun W => by
             have h9 := from_gives (x.lines.length : Int) 1 8 W
             rwa [hf] at h9
           clear hf h8
           go_wp2_with ((go_at_call 39; (with_reducible refine (HF9.out _).mono ?_); rintro e w1 ⟨rfl, hb1⟩ <;> (have HXv := Lib.hid (HXv.out.below hb1); have HBv := Lib.hid (btK HBv.out hb1))))
           go_ret
           exact ⟨_, rfl, (fun h => by cases h), HBv.out⟩
      )
set_option maxRecDepth 100000 in
set_option maxHeartbeats 2000000 in
theorem fits_some (F : Nat → Prop) (w : World) (t : TabD) (cs : List Value) (hF : Inn F w) (ht : Holds.tab.R F w t cs) : Calls Tryz.prog 16 #[.agg cs.toArray] w (SomeQ ((3 ≤ t.things.length ∧ t.things.length ≤ 128) ∧ t.acts.length ≤ 64 ∧ ∀ a ∈ t.acts, a.lines.length ≤ 8) w) := by
  have H10 := Lib.hid (fun (W : World) (h : Below w.heap.size w W) => head_some F W t cs (fun b hb => Nat.lt_of_lt_of_le (hF b hb) h.size) (Holds.tab.keep (fun b hb => h.block b (hF b hb)) (fun _ h => h) ht))
  have H20 := Lib.hid (fun (W : World) (h : Below w.heap.size w W) => things_some F W t cs (fun b hb => Nat.lt_of_lt_of_le (hF b hb) h.size) (Holds.tab.keep (fun b hb => h.block b (hF b hb)) (fun _ h => h) ht))
  have H30 := Lib.hid (fun (W : World) (h : Below w.heap.size w W) => rules_some F W t cs (fun b hb => Nat.lt_of_lt_of_le (hF b hb) h.size) (Holds.tab.keep (fun b hb => h.block b (hF b hb)) (fun _ h => h) ht))
  obtain ⟨i0, i1, i2, i3, i5, v4, v6, v7, v8, v9, v10, v11, v12, v13, v14, rfl, g4, g6, g7, g8, g9, g10, g11, g12, g13, g14⟩ := ht
  obtain ⟨ad4, ca4, rfl⟩ := g4.shape
  obtain ⟨ad6, ca6, rfl⟩ := g6.shape
  obtain ⟨ad7, ca7, rfl⟩ := g7.shape
  obtain ⟨ad8, ca8, rfl⟩ := g8.shape
  obtain ⟨ad9, ca9, rfl⟩ := g9.shape
  obtain ⟨ad10, ca10, rfl⟩ := g10.shape
  obtain ⟨ad11, ca11, rfl⟩ := g11.shape
  obtain ⟨ad12, ca12, rfl⟩ := g12.shape
  obtain ⟨ad13, ca13, rfl⟩ := g13.shape
  obtain ⟨ad14, ca14, rfl⟩ := g14.shape
  have ln4 := g4.len
  have ln6 := g6.len
  have ln7 := g7.len
  have ln8 := g8.len
  have ln9 := g9.len
  have ln10 := g10.len
  have ln11 := g11.len
  have ln12 := g12.len
  have ln13 := g13.len
  have ln14 := g14.len
  unfold maxLen at ln4 ln6 ln7 ln8 ln9 ln10 ln11 ln12 ln13 ln14
  clear g4 g6 g7 g8 g9 g10 g11 g12 g13 g14
  clear i0 i1 i2 i3 i5
  obtain ⟨W1, hW1⟩ : ∃ x, w.alloc (.cells #[.int .i64 t.title, .int .i64 t.byl, .int .i64 t.release, .int .i64 t.most, .slice ad4 t.texts.length ca4, .int .i64 t.flags, .slice ad6 t.props.length ca6, .slice ad7 t.globals.length ca7, .slice ad8 t.things.length ca8, .slice ad9 t.acts.length ca9, .slice ad10 t.deeds.length ca10, .slice ad11 t.funcs.length ca11, .slice ad12 t.daemons.length ca12, .slice ad13 t.params.length ca13, .slice ad14 t.locals.length ca14] 28) = x := ⟨_, rfl⟩
  have hb1 : Below w.heap.size w W1 := by rw [← hW1]; exact (Below.refl _ _).alloc (Nat.le_refl _) _
  have hx1 : BoxT W1 w.heap.size [.int .i64 t.title, .int .i64 t.byl, .int .i64 t.release, .int .i64 t.most, .slice ad4 t.texts.length ca4, .int .i64 t.flags, .slice ad6 t.props.length ca6, .slice ad7 t.globals.length ca7, .slice ad8 t.things.length ca8, .slice ad9 t.acts.length ca9, .slice ad10 t.deeds.length ca10, .slice ad11 t.funcs.length ca11, .slice ad12 t.daemons.length ca12, .slice ad13 t.params.length ca13, .slice ad14 t.locals.length ca14] 28 := by rw [← hW1]; exact BoxT.new _ _ _
  have HW1 := Lib.hid hW1; have HB1 := Lib.hid hb1; have HX1 := Lib.hid hx1
  clear hW1 hb1 hx1
  go_enter Tryz.func16, Tryz.ntmps16
  go_upto_region 1 with fail
  rw [HW1.out]
  obtain ⟨TV, hTV⟩ : ∃ v, Value.agg #[.int .i64 t.title, .int .i64 t.byl, .int .i64 t.release, .int .i64 t.most, .slice ad4 t.texts.length ca4, .int .i64 t.flags, .slice ad6 t.props.length ca6, .slice ad7 t.globals.length ca7, .slice ad8 t.things.length ca8, .slice ad9 t.acts.length ca9, .slice ad10 t.deeds.length ca10, .slice ad11 t.funcs.length ca11, .slice ad12 t.daemons.length ca12, .slice ad13 t.params.length ca13, .slice ad14 t.locals.length ca14] = v := ⟨_, rfl⟩
  have HL : Hid (∀ W, BoxT W w.heap.size [.int .i64 t.title, .int .i64 t.byl, .int .i64 t.release, .int .i64 t.most, .slice ad4 t.texts.length ca4, .int .i64 t.flags, .slice ad6 t.props.length ca6, .slice ad7 t.globals.length ca7, .slice ad8 t.things.length ca8, .slice ad9 t.acts.length ca9, .slice ad10 t.deeds.length ca10, .slice ad11 t.funcs.length ca11, .slice ad12 t.daemons.length ca12, .slice ad13 t.params.length ca13, .slice ad14 t.locals.length ca14] 28 → (Instr.loadAt 28 (.pointer (some ⟨w.heap.size, 0, none⟩))).run Tryz.prog W = .ok TV W) := fun W h => by
    rw [← hTV]
    exact run_loadAt_mid W _ 0 28 _ _ h.range Tryz.underlying28 rfl (by kernel_rfl)
  rw [hTV]
  have H1 := Lib.hid H10.out; have H2 := Lib.hid H20.out; have H3 := Lib.hid H30.out
  rw [hTV] at H1 H2 H3
  clear hTV H10 H20 H30
  have HBv := HB1
  have HXv := HX1
  go_wp2_with (first | ((with_reducible refine wpList_load_T 28 (.tmp 1) ?hw9 ⟨w.heap.size, 0, none⟩ ?hx9 TV (HL.out _ HXv.out) ?_); (case hw9 => rfl); (case hx9 => first | rfl | (exact rfl))) | (go_at_call 31; (with_reducible refine (H1.out _ HBv.out).mono ?_); rintro e w1 ⟨_ | _, rfl, hb1⟩ <;> (have HXv := Lib.hid (HXv.out.below hb1); have HBv := Lib.hid (btK HBv.out hb1))) | (go_at_call 32; (with_reducible refine (H2.out _ HBv.out).mono ?_); rintro e w1 ⟨_ | _, rfl, hP2, hb1⟩ <;> (first | (have HQ2 := Lib.hid (hP2 rfl); clear hP2) | clear hP2) <;> (have HXv := Lib.hid (HXv.out.below hb1); have HBv := Lib.hid (btK HBv.out hb1))) | (go_at_call 33; (with_reducible refine (H3.out _ HBv.out).mono ?_); rintro e w1 ⟨_ | _, rfl, hP3, hb1⟩ <;> (first | (have HQ3 := Lib.hid (hP3 rfl); clear hP3) | clear hP3) <;> (have HXv := Lib.hid (HXv.out.below hb1); have HBv := Lib.hid (btK HBv.out hb1))))
  all_goals
    go_ret
    first
    | exact ⟨_, rfl, (fun _ => ⟨HQ2.out, HQ3.out⟩), HBv.out⟩
    | exact ⟨_, rfl, (fun h => by cases h), HBv.out⟩
end Go.Proofs.YtapjglpiofpbmaaGreat
