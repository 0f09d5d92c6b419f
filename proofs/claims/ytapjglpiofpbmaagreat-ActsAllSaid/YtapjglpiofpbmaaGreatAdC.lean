/- clewref19's placed and Right. Printed by gen-ac10.py. -/
import Derived.Test.YtapjglpiofpbmaaGreatPart8b08d1c7
import Derived.Test.YtapjglpiofpbmaaGreatAcZ
namespace Go.Proofs.YtapjglpiofpbmaaGreat
open Go.RowKit Go.Sort

theorem topF_th {pa : List Int} {n : Nat} : ∀ (f : Nat) (t c : Int), (t = 0 ∨ IsTh n t) → (topF pa n f t c = 0 ∨ IsTh n (topF pa n f t c))
  | 0, _, _, h => h
  | f + 1, t, c, h => by
    unfold topF
    split
    · rename_i hc
      exact topF_th f c _ (.inr hc)
    · exact h
theorem top_nat (x : WorldD) (c : Int) (h : 0 < x.n) : ∃ j : Nat, x.top c = j ∧ j < x.n := by
  rcases topF_th (pa := x.parent) (n := x.n) x.n 0 c (.inl rfl) with h1 | h1
  · exact ⟨0, h1, h⟩
  · obtain ⟨j, h2, _, h3⟩ := th_nat h1
    exact ⟨j, h2, h3⟩
set_option maxRecDepth 100000 in
set_option maxHeartbeats 8000000 in
theorem placed_some (F : Nat → Prop) (w : World) (t : TabD) (x : WorldD) (cs ds : List Value) (hF : Inn F w) (ht : Holds.tab.R F w t cs) (hx : Holds.world.R F w x ds) (hn : x.parent.length = t.things.length) (h3 : 3 ≤ t.things.length) : Calls Tryz.prog 40 #[.agg cs.toArray, .agg ds.toArray] w (SomeB w) := by
  have HT0 := Lib.hid (fun (W : World) (h : Below w.heap.size w W) => top19_calls F W x ds (fun b hb => Nat.lt_of_lt_of_le (hF b hb) h.size) (Holds.world.keep (fun b hb => h.block b (hF b hb)) (fun _ h => h) hx) 1)
  obtain ⟨jt, hjt, jt1⟩ := top_nat x 1 (by have : x.n = x.parent.length := rfl; omega)
  have jt2 : jt < t.things.length := by have : x.n = x.parent.length := rfl; omega
  rw [hjt] at HT0
  have HN := Lib.hid hn
  clear hn hjt jt1
  obtain ⟨i0, i1, i2, i3, i5, v4, v6, v7, v8, v9, v10, v11, v12, v13, v14, rfl, g4, g6, g7, g8, g9, g10, g11, g12, g13, g14⟩ := ht
  obtain ⟨ad4, ca4, rfl⟩ := g4.shape
  obtain ⟨ad6, ca6, rfl⟩ := g6.shape
  obtain ⟨ad7, ca7, rfl⟩ := g7.shape
  obtain ⟨ad8, ca8, rfl⟩ := g8.shape
  obtain ⟨ad9, ca9, rfl⟩ := g9.shape
  obtain ⟨ad10, ca10, rfl⟩ := g10.shape
  obtain ⟨ad11, ca11, rfl⟩ := g11.shape
  obtain ⟨ad12, ca12, rfl⟩ := g12.shape
  obtain ⟨ad13, ca13, rfl⟩ := g13.shape
  obtain ⟨ad14, ca14, rfl⟩ := g14.shape
  have ln4 := g4.len
  have ln6 := g6.len
  have ln7 := g7.len
  have ln8 := g8.len
  have ln9 := g9.len
  have ln10 := g10.len
  have ln11 := g11.len
  have ln12 := g12.len
  have ln13 := g13.len
  have ln14 := g14.len
  unfold maxLen at ln4 ln6 ln7 ln8 ln9 ln10 ln11 ln12 ln13 ln14
  obtain ⟨-, -, -, -, -, -, wv0, wv1, wv2, wv3, wv4, wv5, wv6, rfl, wg0, wg1, wg2, wg3, wg4, wg5, wg6⟩ := hx
  obtain ⟨wa0, wc0, rfl⟩ := wg0.shape
  have wl0 := wg0.len
  obtain ⟨wa1, wc1, rfl⟩ := wg1.shape
  have wl1 := wg1.len
  obtain ⟨wa2, wc2, rfl⟩ := wg2.shape
  have wl2 := wg2.len
  obtain ⟨wa3, wc3, rfl⟩ := wg3.shape
  have wl3 := wg3.len
  obtain ⟨wa4, wc4, rfl⟩ := wg4.shape
  have wl4 := wg4.len
  obtain ⟨wa5, wc5, rfl⟩ := wg5.shape
  have wl5 := wg5.len
  obtain ⟨wa6, wc6, rfl⟩ := wg6.shape
  have wl6 := wg6.len
  unfold maxLen at wl0 wl1 wl2 wl3 wl4 wl5 wl6
  obtain ⟨xa1, xc1, he1, -, -, hA1⟩ := RdInts.elem wg1 hF
  cases he1
  have WA1 := Lib.hid hA1
  clear hA1
  obtain ⟨a8, c8, he8, -, -, hA8⟩ := RdL.elem g8 hF
  cases he8
  have HA8 := Lib.hid hA8
  clear hA8
  clear g4 g6 g7 g8 g9 g10 g11 g12 g13 g14 wg0 wg1 wg2 wg3 wg4 wg5 wg6
  clear i0 i1 i2 i3 i5
  obtain ⟨W1, hW1⟩ : ∃ z, w.alloc (.cells #[.int .i64 t.title, .int .i64 t.byl, .int .i64 t.release, .int .i64 t.most, .slice ad4 t.texts.length ca4, .int .i64 t.flags, .slice ad6 t.props.length ca6, .slice ad7 t.globals.length ca7, .slice ad8 t.things.length ca8, .slice ad9 t.acts.length ca9, .slice ad10 t.deeds.length ca10, .slice ad11 t.funcs.length ca11, .slice ad12 t.daemons.length ca12, .slice ad13 t.params.length ca13, .slice ad14 t.locals.length ca14] 28) = z := ⟨_, rfl⟩
  obtain ⟨W2, hW2⟩ : ∃ z, W1.alloc (.cells #[.slice wa0 x.globals.length wc0, .slice wa1 x.parent.length wc1, .slice wa2 x.child.length wc2, .slice wa3 x.next.length wc3, .slice wa4 x.flags.length wc4, .slice wa5 x.props.length wc5, .slice wa6 x.timers.length wc6, .int .u64 x.seed, .int .i64 x.score, .int .i64 x.turns, .int .i64 x.over, .int .i64 x.it, .int .i64 x.go] 31) = z := ⟨_, rfl⟩
  have hz1 : W1.heap.size = w.heap.size + 1 := by rw [← hW1]; simp
  have hb1 : Below w.heap.size w W1 := by rw [← hW1]; exact (Below.refl _ _).alloc (Nat.le_refl _) _
  have hb2 : Below W1.heap.size W1 W2 := by rw [← hW2]; exact (Below.refl _ _).alloc (Nat.le_refl _) _
  have hx1 : BoxT W1 w.heap.size [.int .i64 t.title, .int .i64 t.byl, .int .i64 t.release, .int .i64 t.most, .slice ad4 t.texts.length ca4, .int .i64 t.flags, .slice ad6 t.props.length ca6, .slice ad7 t.globals.length ca7, .slice ad8 t.things.length ca8, .slice ad9 t.acts.length ca9, .slice ad10 t.deeds.length ca10, .slice ad11 t.funcs.length ca11, .slice ad12 t.daemons.length ca12, .slice ad13 t.params.length ca13, .slice ad14 t.locals.length ca14] 28 := by rw [← hW1]; exact BoxT.new _ _ _
  have hx2 : BoxT W2 (w.heap.size + 1) [.slice wa0 x.globals.length wc0, .slice wa1 x.parent.length wc1, .slice wa2 x.child.length wc2, .slice wa3 x.next.length wc3, .slice wa4 x.flags.length wc4, .slice wa5 x.props.length wc5, .slice wa6 x.timers.length wc6, .int .u64 x.seed, .int .i64 x.score, .int .i64 x.turns, .int .i64 x.over, .int .i64 x.it, .int .i64 x.go] 31 := by rw [← hz1, ← hW2]; exact BoxT.new _ _ _
  have HXt := Lib.hid (hx1.below hb2); have HXv := Lib.hid hx2; have HBv := Lib.hid (btK hb1 hb2)
  have HW1 := Lib.hid hW1; have HW2 := Lib.hid hW2
  have hs2 : W2.heap.size = W1.heap.size + 1 := by rw [← hW2]; simp
  rw [hz1] at hs2
  have HS2 := Lib.hid hs2
  clear hs2
  clear hW1 hW2 hz1 hb1 hb2 hx1 hx2
  go_enter Tryz.func40, Tryz.ntmps40
  go_upto_region 1 with fail
  rw [HW1.out, HW2.out]
  obtain ⟨TV, hTV⟩ : ∃ v, Value.agg #[.int .i64 t.title, .int .i64 t.byl, .int .i64 t.release, .int .i64 t.most, .slice ad4 t.texts.length ca4, .int .i64 t.flags, .slice ad6 t.props.length ca6, .slice ad7 t.globals.length ca7, .slice ad8 t.things.length ca8, .slice ad9 t.acts.length ca9, .slice ad10 t.deeds.length ca10, .slice ad11 t.funcs.length ca11, .slice ad12 t.daemons.length ca12, .slice ad13 t.params.length ca13, .slice ad14 t.locals.length ca14] = v := ⟨_, rfl⟩
  obtain ⟨WV, hWV⟩ : ∃ v, Value.agg #[.slice wa0 x.globals.length wc0, .slice wa1 x.parent.length wc1, .slice wa2 x.child.length wc2, .slice wa3 x.next.length wc3, .slice wa4 x.flags.length wc4, .slice wa5 x.props.length wc5, .slice wa6 x.timers.length wc6, .int .u64 x.seed, .int .i64 x.score, .int .i64 x.turns, .int .i64 x.over, .int .i64 x.it, .int .i64 x.go] = v := ⟨_, rfl⟩
  have HLT : Hid (∀ W, BoxT W w.heap.size [.int .i64 t.title, .int .i64 t.byl, .int .i64 t.release, .int .i64 t.most, .slice ad4 t.texts.length ca4, .int .i64 t.flags, .slice ad6 t.props.length ca6, .slice ad7 t.globals.length ca7, .slice ad8 t.things.length ca8, .slice ad9 t.acts.length ca9, .slice ad10 t.deeds.length ca10, .slice ad11 t.funcs.length ca11, .slice ad12 t.daemons.length ca12, .slice ad13 t.params.length ca13, .slice ad14 t.locals.length ca14] 28 → (Instr.loadAt 28 (.pointer (some ⟨w.heap.size, 0, none⟩))).run Tryz.prog W = .ok TV W) := fun W h => by
    rw [← hTV]
    exact run_loadAt_mid W _ 0 28 _ _ h.range Tryz.underlying28 rfl (by kernel_rfl)
  have HLW : Hid (∀ W, BoxT W (w.heap.size + 1) [.slice wa0 x.globals.length wc0, .slice wa1 x.parent.length wc1, .slice wa2 x.child.length wc2, .slice wa3 x.next.length wc3, .slice wa4 x.flags.length wc4, .slice wa5 x.props.length wc5, .slice wa6 x.timers.length wc6, .int .u64 x.seed, .int .i64 x.score, .int .i64 x.turns, .int .i64 x.over, .int .i64 x.it, .int .i64 x.go] 31 → (Instr.loadAt 31 (.pointer (some ⟨w.heap.size + 1, 0, none⟩))).run Tryz.prog W = .ok WV W) := fun W h => by
    rw [← hWV]
    exact run_loadAt_mid W _ 0 31 _ _ h.range Tryz.underlying31 rfl (by kernel_rfl)
  rw [hTV, hWV]
  clear HW1 HW2
  have HT := Lib.hid HT0.out
  rw [hWV] at HT
  clear hTV hWV HT0
  obtain ⟨b8, off8, rfl, hel8⟩ := HA8.out (by omega)
  obtain ⟨xb1, xo1, rfl, hel1⟩ := WA1.out (by have := HN.out; omega)
  have HE8 := Lib.hid hel8; have HE1 := Lib.hid hel1
  clear hel8 hel1 HA8 WA1
  go_wp2
  go_loopw [5] (fun i wr => ∃ (k : Nat), 1 ≤ k ∧ k ≤ t.things.length ∧ i = .int .i64 k ∧ W2 = wr) (fun i _ => t.things.length - (intOf i).toNat)
  case atStart => exact ⟨1, Nat.le_refl _, by omega, rfl, rfl⟩
  case round =>
    obtain ⟨k, hk1, hk, rfl, rfl⟩ := hrel
    have y8 := HXt.out.cell 8
    simp only [List.getElem?_cons_succ, List.getElem?_cons_zero] at y8
    have wy1 := HXv.out.cell 1
    simp only [List.getElem?_cons_succ, List.getElem?_cons_zero] at wy1
    by_cases hlt : k < t.things.length
    rotate_left
    · have h1 : ¬ (k : Int) < (t.things.length : Int) := by omega
      obtain ⟨xs, -, ⟨-, -, -, -, u5, u6, u7, u8, rfl, -, -, -, -⟩, hr⟩ := HE8.out jt jt2
      have p4 := hr W2 HBv.out 4 _ rfl
      generalize t.things[jt].room = r at p4
      have jt3 : (jt : Int) < (t.things.length : Int) := by omega
      have jt4 : (0 : Int) ≤ (jt : Int) := by omega
      go_wp2_with fail
      have e8 := fun d os => cell_regrown y8 d os
      have e4 := fun d os => cell_regrown p4 d os
      have hql : ∀ W, (∃ p : Regrown, W = grow (redrawn W2 p.d) p.os) → (Instr.loadAt 31 (.pointer (some ⟨w.heap.size + 1, 0, none⟩))).run Tryz.prog W = .ok WV W := fun W h => HLW.out _ (HXv.out.below (below_of_regrown h))
      have QL := Lib.hid hql
      have g1 := regrownG (w := W2) fun w' h => HT.out w' (btK HBv.out h)
      have G1 := Lib.hid g1
      clear g1 hql hr y8 wy1 p4
      as_aux_lemma =>
        refine wp_region_quiet_below (by kernel_rfl) (by kernel_rfl) ?_
        (try dsimp only [List.append])
        repeat (first | (go_big_quiet_want; (refine quiet_load 31 _ (by rfl) _ (by rfl) WV (fun W hW => QL.out W hW) ?_); simp only [Act.put, List.setIfInBounds_toArray, List.set_cons_succ, List.set_cons_zero]; go_big_quiet_on) | go_big_quiet_step (first | with_reducible exact G1.out _))
        with_reducible refine wpQuiet_nil ?_
        intro w3 hw3
        have hb3 := below_of_regrown hw3
        clear hw3
        go_wp2
        go_ret
        exact ⟨_, rfl, btK HBv.out hb3⟩
    have h1 : (k : Int) < (t.things.length : Int) := by omega
    have h2 : (0 : Int) ≤ (k : Int) := by omega
    have h4 : (k : Int) < (x.parent.length : Int) := by have := HN.out; omega
    have h5 : k < x.parent.length := by have := HN.out; omega
    obtain ⟨xs, -, ⟨-, -, -, -, u5, u6, u7, u8, rfl, -, -, -, -⟩, hr⟩ := HE8.out k hlt
    have p4 := hr W2 HBv.out 4 _ rfl
    generalize t.things[k].room = r at p4
    have p1 := HE1.out W2 HBv.out k h5
    generalize x.parent[k] = d at p1
    clear hr
    cases r
    all_goals
      go_wp2
      all_goals
        first
        | (go_ret; exact ⟨_, rfl, HBv.out⟩)
        | (go_roundw
           case rel => exact ⟨k + 1, by omega, by omega, by go_num, by first | rfl | trivial⟩
           case measure => simp [intOf]; omega)
theorem is01_someB (n : Int) (w : World) : Calls Tryz.prog 38 #[.int .i64 n] w (SomeB w) := (is01_calls n w).mono fun _ _ h => ⟨_, h.1, h.2 ▸ Below.refl _ _⟩
theorem someP0 {P : Prop} {w : World} {f : FuncId} {args : Array Value} (h : Calls Tryz.prog f args w (SomeP P w)) : Calls Tryz.prog f args w (SomeQ P w) := h.mono fun _ _ ⟨b, h1, h2, h3⟩ => ⟨b, h1, h2, h3 ▸ Below.refl _ _⟩
theorem somePB {P : Prop} {w : World} {f : FuncId} {args : Array Value} (h : Calls Tryz.prog f args w (SomeP P w)) : Calls Tryz.prog f args w (SomeB w) := h.mono fun _ _ ⟨b, h1, _, h3⟩ => ⟨b, h1, h3 ▸ Below.refl _ _⟩
set_option maxRecDepth 100000 in
set_option maxHeartbeats 8000000 in
theorem right19_some (F : Nat → Prop) (w : World) (t : TabD) (x : WorldD) (cs ds : List Value) (hF : Inn F w) (ht : Holds.tab.R F w t cs) (hx : Holds.world.R F w x ds) (h3 : 3 ≤ t.things.length) (h128 : t.things.length ≤ 128) : Calls Tryz.prog 17 #[.agg cs.toArray, .agg ds.toArray] w (SomeQ (NestK x ∧ x.parent.length = t.things.length ∧ x.flags.length = t.things.length ∧ ∀ f ∈ x.flags, 0 ≤ f) w) := by
  have HNE0 := Lib.hid (fun (W : World) (h : Below w.heap.size w W) (hsm : x.parent.length ≤ 1000000) => nested_some F W x ds (fun b hb => Nat.lt_of_lt_of_le (hF b hb) h.size) (Holds.world.keep (fun b hb => h.block b (hF b hb)) (fun _ h => h) hx) hsm)
  have HPL0 := Lib.hid (fun (W : World) (h : Below w.heap.size w W) (hn : x.parent.length = t.things.length) => placed_some F W t x cs ds (fun b hb => Nat.lt_of_lt_of_le (hF b hb) h.size) (Holds.tab.keep (fun b hb => h.block b (hF b hb)) (fun _ h => h) ht) (Holds.world.keep (fun b hb => h.block b (hF b hb)) (fun _ h => h) hx) hn h3)
  have HH3 := Lib.hid h3; have HH128 := Lib.hid h128
  clear h3 h128
  obtain ⟨i0, i1, i2, i3, i5, v4, v6, v7, v8, v9, v10, v11, v12, v13, v14, rfl, g4, g6, g7, g8, g9, g10, g11, g12, g13, g14⟩ := ht
  obtain ⟨ad4, ca4, rfl⟩ := g4.shape
  obtain ⟨ad6, ca6, rfl⟩ := g6.shape
  obtain ⟨ad7, ca7, rfl⟩ := g7.shape
  obtain ⟨ad8, ca8, rfl⟩ := g8.shape
  obtain ⟨ad9, ca9, rfl⟩ := g9.shape
  obtain ⟨ad10, ca10, rfl⟩ := g10.shape
  obtain ⟨ad11, ca11, rfl⟩ := g11.shape
  obtain ⟨ad12, ca12, rfl⟩ := g12.shape
  obtain ⟨ad13, ca13, rfl⟩ := g13.shape
  obtain ⟨ad14, ca14, rfl⟩ := g14.shape
  have ln4 := g4.len
  have ln6 := g6.len
  have ln7 := g7.len
  have ln8 := g8.len
  have ln9 := g9.len
  have ln10 := g10.len
  have ln11 := g11.len
  have ln12 := g12.len
  have ln13 := g13.len
  have ln14 := g14.len
  unfold maxLen at ln4 ln6 ln7 ln8 ln9 ln10 ln11 ln12 ln13 ln14
  obtain ⟨-, -, -, -, -, -, wv0, wv1, wv2, wv3, wv4, wv5, wv6, rfl, wg0, wg1, wg2, wg3, wg4, wg5, wg6⟩ := hx
  obtain ⟨wa0, wc0, rfl⟩ := wg0.shape
  have wl0 := wg0.len
  obtain ⟨wa1, wc1, rfl⟩ := wg1.shape
  have wl1 := wg1.len
  obtain ⟨wa2, wc2, rfl⟩ := wg2.shape
  have wl2 := wg2.len
  obtain ⟨wa3, wc3, rfl⟩ := wg3.shape
  have wl3 := wg3.len
  obtain ⟨wa4, wc4, rfl⟩ := wg4.shape
  have wl4 := wg4.len
  obtain ⟨wa5, wc5, rfl⟩ := wg5.shape
  have wl5 := wg5.len
  obtain ⟨wa6, wc6, rfl⟩ := wg6.shape
  have wl6 := wg6.len
  unfold maxLen at wl0 wl1 wl2 wl3 wl4 wl5 wl6
  have HVA0 := Lib.hid (fun (W : World) (h : Below w.heap.size w W) => some0B (values_some F W _ _ (RdL.below wg0 hF h (Nat.le_refl _))))
  have HVA5 := Lib.hid (fun (W : World) (h : Below w.heap.size w W) => some0B (values_some F W _ _ (RdL.below wg5 hF h (Nat.le_refl _))))
  have HAL4 := Lib.hid (fun (W : World) (h : Below w.heap.size w W) (lo hi : Int) => someP0 (all_some F W _ _ lo hi (RdL.below wg4 hF h (Nat.le_refl _))))
  have HAL6 := Lib.hid (fun (W : World) (h : Below w.heap.size w W) (lo hi : Int) => somePB (all_some F W _ _ lo hi (RdL.below wg6 hF h (Nat.le_refl _))))
  clear g4 g6 g7 g8 g9 g10 g11 g12 g13 g14 wg0 wg1 wg2 wg3 wg4 wg5 wg6
  clear i0 i1 i2 i3 i5
  obtain ⟨W1, hW1⟩ : ∃ z, w.alloc (.cells #[.int .i64 t.title, .int .i64 t.byl, .int .i64 t.release, .int .i64 t.most, .slice ad4 t.texts.length ca4, .int .i64 t.flags, .slice ad6 t.props.length ca6, .slice ad7 t.globals.length ca7, .slice ad8 t.things.length ca8, .slice ad9 t.acts.length ca9, .slice ad10 t.deeds.length ca10, .slice ad11 t.funcs.length ca11, .slice ad12 t.daemons.length ca12, .slice ad13 t.params.length ca13, .slice ad14 t.locals.length ca14] 28) = z := ⟨_, rfl⟩
  obtain ⟨W2, hW2⟩ : ∃ z, W1.alloc (.cells #[.slice wa0 x.globals.length wc0, .slice wa1 x.parent.length wc1, .slice wa2 x.child.length wc2, .slice wa3 x.next.length wc3, .slice wa4 x.flags.length wc4, .slice wa5 x.props.length wc5, .slice wa6 x.timers.length wc6, .int .u64 x.seed, .int .i64 x.score, .int .i64 x.turns, .int .i64 x.over, .int .i64 x.it, .int .i64 x.go] 31) = z := ⟨_, rfl⟩
  have hz1 : W1.heap.size = w.heap.size + 1 := by rw [← hW1]; simp
  have hb1 : Below w.heap.size w W1 := by rw [← hW1]; exact (Below.refl _ _).alloc (Nat.le_refl _) _
  have hb2 : Below W1.heap.size W1 W2 := by rw [← hW2]; exact (Below.refl _ _).alloc (Nat.le_refl _) _
  have hx1 : BoxT W1 w.heap.size [.int .i64 t.title, .int .i64 t.byl, .int .i64 t.release, .int .i64 t.most, .slice ad4 t.texts.length ca4, .int .i64 t.flags, .slice ad6 t.props.length ca6, .slice ad7 t.globals.length ca7, .slice ad8 t.things.length ca8, .slice ad9 t.acts.length ca9, .slice ad10 t.deeds.length ca10, .slice ad11 t.funcs.length ca11, .slice ad12 t.daemons.length ca12, .slice ad13 t.params.length ca13, .slice ad14 t.locals.length ca14] 28 := by rw [← hW1]; exact BoxT.new _ _ _
  have hx2 : BoxT W2 (w.heap.size + 1) [.slice wa0 x.globals.length wc0, .slice wa1 x.parent.length wc1, .slice wa2 x.child.length wc2, .slice wa3 x.next.length wc3, .slice wa4 x.flags.length wc4, .slice wa5 x.props.length wc5, .slice wa6 x.timers.length wc6, .int .u64 x.seed, .int .i64 x.score, .int .i64 x.turns, .int .i64 x.over, .int .i64 x.it, .int .i64 x.go] 31 := by rw [← hz1, ← hW2]; exact BoxT.new _ _ _
  have HXt := Lib.hid (hx1.below hb2); have HXv := Lib.hid hx2; have HBv := Lib.hid (btK hb1 hb2)
  have HW1 := Lib.hid hW1; have HW2 := Lib.hid hW2
  have hs2 : W2.heap.size = W1.heap.size + 1 := by rw [← hW2]; simp
  rw [hz1] at hs2
  have HS2 := Lib.hid hs2
  clear hs2
  clear hW1 hW2 hz1 hb1 hb2 hx1 hx2
  go_enter Tryz.func17, Tryz.ntmps17
  go_upto_region 1 with fail
  rw [HW1.out, HW2.out]
  obtain ⟨TV, hTV⟩ : ∃ v, Value.agg #[.int .i64 t.title, .int .i64 t.byl, .int .i64 t.release, .int .i64 t.most, .slice ad4 t.texts.length ca4, .int .i64 t.flags, .slice ad6 t.props.length ca6, .slice ad7 t.globals.length ca7, .slice ad8 t.things.length ca8, .slice ad9 t.acts.length ca9, .slice ad10 t.deeds.length ca10, .slice ad11 t.funcs.length ca11, .slice ad12 t.daemons.length ca12, .slice ad13 t.params.length ca13, .slice ad14 t.locals.length ca14] = v := ⟨_, rfl⟩
  obtain ⟨WV, hWV⟩ : ∃ v, Value.agg #[.slice wa0 x.globals.length wc0, .slice wa1 x.parent.length wc1, .slice wa2 x.child.length wc2, .slice wa3 x.next.length wc3, .slice wa4 x.flags.length wc4, .slice wa5 x.props.length wc5, .slice wa6 x.timers.length wc6, .int .u64 x.seed, .int .i64 x.score, .int .i64 x.turns, .int .i64 x.over, .int .i64 x.it, .int .i64 x.go] = v := ⟨_, rfl⟩
  have HLT : Hid (∀ W, BoxT W w.heap.size [.int .i64 t.title, .int .i64 t.byl, .int .i64 t.release, .int .i64 t.most, .slice ad4 t.texts.length ca4, .int .i64 t.flags, .slice ad6 t.props.length ca6, .slice ad7 t.globals.length ca7, .slice ad8 t.things.length ca8, .slice ad9 t.acts.length ca9, .slice ad10 t.deeds.length ca10, .slice ad11 t.funcs.length ca11, .slice ad12 t.daemons.length ca12, .slice ad13 t.params.length ca13, .slice ad14 t.locals.length ca14] 28 → (Instr.loadAt 28 (.pointer (some ⟨w.heap.size, 0, none⟩))).run Tryz.prog W = .ok TV W) := fun W h => by
    rw [← hTV]
    exact run_loadAt_mid W _ 0 28 _ _ h.range Tryz.underlying28 rfl (by kernel_rfl)
  have HLW : Hid (∀ W, BoxT W (w.heap.size + 1) [.slice wa0 x.globals.length wc0, .slice wa1 x.parent.length wc1, .slice wa2 x.child.length wc2, .slice wa3 x.next.length wc3, .slice wa4 x.flags.length wc4, .slice wa5 x.props.length wc5, .slice wa6 x.timers.length wc6, .int .u64 x.seed, .int .i64 x.score, .int .i64 x.turns, .int .i64 x.over, .int .i64 x.it, .int .i64 x.go] 31 → (Instr.loadAt 31 (.pointer (some ⟨w.heap.size + 1, 0, none⟩))).run Tryz.prog W = .ok WV W) := fun W h => by
    rw [← hWV]
    exact run_loadAt_mid W _ 0 31 _ _ h.range Tryz.underlying31 rfl (by kernel_rfl)
  rw [hTV, hWV]
  clear HW1 HW2
  have HNEa := Lib.hid HNE0.out; have HPLa := Lib.hid HPL0.out
  rw [hWV] at HNEa
  rw [hTV, hWV] at HPLa
  clear hTV hWV HNE0 HPL0
  have y6 := HXt.out.cell 6
  have y7 := HXt.out.cell 7
  have y8 := HXt.out.cell 8
  have y12 := HXt.out.cell 12
  simp only [List.getElem?_cons_succ, List.getElem?_cons_zero] at y6 y7 y8 y12
  have wy0 := HXv.out.cell 0
  have wy1 := HXv.out.cell 1
  have wy4 := HXv.out.cell 4
  have wy5 := HXv.out.cell 5
  have wy6 := HXv.out.cell 6
  simp only [List.getElem?_cons_succ, List.getElem?_cons_zero] at wy0 wy1 wy4 wy5 wy6
  by_cases hc0 : x.globals.length = t.globals.length
  rotate_left
  · have en0 : (((x.globals.length : Nat) : Int) != ((t.globals.length : Nat) : Int)) = true := by first | (rw [bne_iff_ne]; omega) | (rw [bne_eq_false_iff_eq]; omega)
    clear hc0
    as_aux_lemma =>
      go_wp2
      all_goals
        go_ret
        exact ⟨_, rfl, (fun h => by cases h), HBv.out⟩
  by_cases hc1 : x.parent.length = t.things.length
  rotate_left
  · have en0 : (((x.globals.length : Nat) : Int) != ((t.globals.length : Nat) : Int)) = false := by first | (rw [bne_iff_ne]; omega) | (rw [bne_eq_false_iff_eq]; omega)
    have en1 : (((x.parent.length : Nat) : Int) != ((t.things.length : Nat) : Int)) = true := by first | (rw [bne_iff_ne]; omega) | (rw [bne_eq_false_iff_eq]; omega)
    clear hc0 hc1
    as_aux_lemma =>
      go_wp2
      all_goals
        go_ret
        exact ⟨_, rfl, (fun h => by cases h), HBv.out⟩
  by_cases hc2 : x.flags.length = t.things.length
  rotate_left
  · have en0 : (((x.globals.length : Nat) : Int) != ((t.globals.length : Nat) : Int)) = false := by first | (rw [bne_iff_ne]; omega) | (rw [bne_eq_false_iff_eq]; omega)
    have en1 : (((x.parent.length : Nat) : Int) != ((t.things.length : Nat) : Int)) = false := by first | (rw [bne_iff_ne]; omega) | (rw [bne_eq_false_iff_eq]; omega)
    have en2 : (((x.flags.length : Nat) : Int) != ((t.things.length : Nat) : Int)) = true := by first | (rw [bne_iff_ne]; omega) | (rw [bne_eq_false_iff_eq]; omega)
    clear hc0 hc1 hc2
    as_aux_lemma =>
      go_wp2
      all_goals
        go_ret
        exact ⟨_, rfl, (fun h => by cases h), HBv.out⟩
  have en0 : (((x.globals.length : Nat) : Int) != ((t.globals.length : Nat) : Int)) = false := by first | (rw [bne_iff_ne]; omega) | (rw [bne_eq_false_iff_eq]; omega)
  have en1 : (((x.parent.length : Nat) : Int) != ((t.things.length : Nat) : Int)) = false := by first | (rw [bne_iff_ne]; omega) | (rw [bne_eq_false_iff_eq]; omega)
  have en2 : (((x.flags.length : Nat) : Int) != ((t.things.length : Nat) : Int)) = false := by first | (rw [bne_iff_ne]; omega) | (rw [bne_eq_false_iff_eq]; omega)
  have HNE := Lib.hid (fun W h => HNEa.out W h (by have := HH128.out; omega))
  have HPL := Lib.hid (fun W h => HPLa.out W h hc1)
  have HC1 := Lib.hid hc1; have HC2 := Lib.hid hc2
  clear hc0 hc1 hc2 HNEa HPLa
  have ht5 : (((x.timers.length : Nat) : Int) != ((t.daemons.length : Nat) : Int)) = true ∨ (((x.timers.length : Nat) : Int) != ((t.daemons.length : Nat) : Int)) = false := by cases h : (((x.timers.length : Nat) : Int) != ((t.daemons.length : Nat) : Int)) <;> simp
  have ht3 : (((x.props.length : Nat) : Int) != wrap64 ((t.things.length : Int) * (t.props.length : Int))) = true ∨ (((x.props.length : Nat) : Int) != wrap64 ((t.things.length : Int) * (t.props.length : Int))) = false := by cases h : (((x.props.length : Nat) : Int) != wrap64 ((t.things.length : Int) * (t.props.length : Int))) <;> simp
  rcases ht3 with ht3 | ht3
  · clear ht5
    as_aux_lemma =>
      go_wp2
      all_goals
        go_ret
        exact ⟨_, rfl, (fun h => by cases h), HBv.out⟩
  rcases ht5 with ht5 | ht5
  · as_aux_lemma =>
      go_wp2
      all_goals
        go_ret
        exact ⟨_, rfl, (fun h => by cases h), HBv.out⟩
  go_upto_region 4 with (first | ((with_reducible refine wpList_load_T 31 (.tmp 3) ?hw9 ⟨w.heap.size + 1, 0, none⟩ ?hx9 WV (HLW.out _ HXv.out) ?_); (case hw9 => rfl); (case hx9 => first | rfl | (exact rfl))) | (go_at_call 34; (with_reducible refine (HNE.out _ HBv.out).mono ?_); rintro e w1 ⟨_ | _, rfl, hPn, hb1⟩ <;> (first | (have HPN := Lib.hid (hPn rfl); clear hPn) | clear hPn) <;> (have HXt := Lib.hid (HXt.out.below hb1); have HXv := Lib.hid (HXv.out.below hb1); have HBv := Lib.hid (btK HBv.out hb1))))
  all_goals try (go_ret; exact ⟨_, rfl, (fun h => by cases h), HBv.out⟩)
  clear y6 y7 y8 y12 wy0 wy1 wy4 wy5 wy6 en0 en1 en2 ht3 ht5
  have HFX : Hid (∀ W, Below w1.heap.size w1 W → W.cell? ⟨w.heap.size, 5, none⟩ = some (.int .i64 t.flags) ∧ W.cell? ⟨w.heap.size + 1, 0, none⟩ = some (.slice wa0 x.globals.length wc0) ∧ W.cell? ⟨w.heap.size + 1, 4, none⟩ = some (.slice wa4 x.flags.length wc4) ∧ W.cell? ⟨w.heap.size + 1, 5, none⟩ = some (.slice wa5 x.props.length wc5) ∧ W.cell? ⟨w.heap.size + 1, 6, none⟩ = some (.slice wa6 x.timers.length wc6) ∧ W.cell? ⟨w.heap.size + 1, 8, none⟩ = some (.int .i64 x.score) ∧ W.cell? ⟨w.heap.size + 1, 9, none⟩ = some (.int .i64 x.turns)) := fun W h => ⟨(HXt.out.below h).cell 5, (HXv.out.below h).cell 0, (HXv.out.below h).cell 4, (HXv.out.below h).cell 5, (HXv.out.below h).cell 6, (HXv.out.below h).cell 8, (HXv.out.below h).cell 9⟩
  refine tkStart (S := fun W => Below w1.heap.size w1 W) (js := [2, 7, 15, 17, 23, 29, 35]) (by kernel_rfl) (by kernel_rfl) (by kernel_rfl) (Below.refl _ _).drew (fun v0 h0 HK HF => ?_)
  all_goals first
    | (refine tkU (j := 0) (fuel := 37) (oi := ⟨_, _, _, _, _, _⟩) HK rfl rfl (by rfl) (by assumption) ?_; simp only [Act.put, List.setIfInBounds_toArray, List.set_cons_succ, List.set_cons_zero])
    | (refine tkW (j := 0) (fuel := 37) (oi := ⟨_, _, _, _, _, _⟩) (v := ?_) HK rfl rfl (by rfl) ?_ (by assumption) ?_; rotate_left; (focus (intro W hW; go_simp; (try with_reducible rfl); done)); simp only [Act.put, List.setIfInBounds_toArray, List.set_cons_succ, List.set_cons_zero])
  all_goals first
    | (refine tkU (j := 1) (fuel := 36) (oi := ⟨_, _, _, _, _, _⟩) HK rfl rfl (by rfl) (by assumption) ?_; simp only [Act.put, List.setIfInBounds_toArray, List.set_cons_succ, List.set_cons_zero])
    | (refine tkW (j := 1) (fuel := 36) (oi := ⟨_, _, _, _, _, _⟩) (v := ?_) HK rfl rfl (by rfl) ?_ (by assumption) ?_; rotate_left; (focus (intro W hW; obtain ⟨y5, wy0, wy4, wy5, wy6, wy8, wy9⟩ := HFX.out _ hW; go_simp; (try with_reducible rfl); done)); simp only [Act.put, List.setIfInBounds_toArray, List.set_cons_succ, List.set_cons_zero])
  all_goals first
    | (refine tkV (j := 2) (fuel := 35) (oi := ⟨_, _, _, _, _, _⟩) HK HF rfl rfl (by rfl) (by assumption) ?_; simp only [Act.put, List.setIfInBounds_toArray, List.set_cons_succ, List.set_cons_zero])
    | (refine tkC (j := 2) (fuel := 35) (oi := ⟨_, _, _, _, _, _⟩) HK rfl rfl (fun K hK => ?_)
       go_simp
       refine (HVA0.out _ (btK HBv.out h0)).mono ?_
       rintro e v1 ⟨_ | _, rfl, hb1⟩ <;> (have h0 := btK h0 hb1; refine hK.out _ _ h0 ?_; clear hK K hb1))
  all_goals first
    | (refine tkU (j := 3) (fuel := 34) (oi := ⟨_, _, _, _, _, _⟩) HK rfl rfl (by rfl) (by assumption) ?_; simp only [Act.put, List.setIfInBounds_toArray, List.set_cons_succ, List.set_cons_zero])
    | (refine tkW (j := 3) (fuel := 34) (oi := ⟨_, _, _, _, _, _⟩) (v := ?_) HK rfl rfl (by rfl) ?_ (by assumption) ?_; rotate_left; (focus (intro W hW; go_simp; (try with_reducible rfl); done)); simp only [Act.put, List.setIfInBounds_toArray, List.set_cons_succ, List.set_cons_zero])
  all_goals first
    | (refine tkU (j := 4) (fuel := 33) (oi := ⟨_, _, _, _, _, _⟩) HK rfl rfl (by rfl) (by assumption) ?_; simp only [Act.put, List.setIfInBounds_toArray, List.set_cons_succ, List.set_cons_zero])
    | (refine tkW (j := 4) (fuel := 33) (oi := ⟨_, _, _, _, _, _⟩) (v := ?_) HK rfl rfl (by rfl) ?_ (by assumption) ?_; rotate_left; (focus (intro W hW; go_simp; (try with_reducible rfl); done)); simp only [Act.put, List.setIfInBounds_toArray, List.set_cons_succ, List.set_cons_zero])
  all_goals first
    | (refine tkU (j := 5) (fuel := 32) (oi := ⟨_, _, _, _, _, _⟩) HK rfl rfl (by rfl) (by assumption) ?_; simp only [Act.put, List.setIfInBounds_toArray, List.set_cons_succ, List.set_cons_zero])
    | (refine tkW (j := 5) (fuel := 32) (oi := ⟨_, _, _, _, _, _⟩) (v := ?_) HK rfl rfl (by rfl) ?_ (by assumption) ?_; rotate_left; (focus (intro W hW; go_simp; (try with_reducible rfl); done)); simp only [Act.put, List.setIfInBounds_toArray, List.set_cons_succ, List.set_cons_zero])
  all_goals first
    | (refine tkU (j := 6) (fuel := 31) (oi := ⟨_, _, _, _, _, _⟩) HK rfl rfl (by rfl) (by assumption) ?_; simp only [Act.put, List.setIfInBounds_toArray, List.set_cons_succ, List.set_cons_zero])
    | (refine tkW (j := 6) (fuel := 31) (oi := ⟨_, _, _, _, _, _⟩) (v := ?_) HK rfl rfl (by rfl) ?_ (by assumption) ?_; rotate_left; (focus (intro W hW; obtain ⟨y5, wy0, wy4, wy5, wy6, wy8, wy9⟩ := HFX.out _ hW; go_simp; (try with_reducible rfl); done)); simp only [Act.put, List.setIfInBounds_toArray, List.set_cons_succ, List.set_cons_zero])
  all_goals first
    | (refine tkV (j := 7) (fuel := 30) (oi := ⟨_, _, _, _, _, _⟩) HK HF rfl rfl (by rfl) (by assumption) ?_; simp only [Act.put, List.setIfInBounds_toArray, List.set_cons_succ, List.set_cons_zero])
    | (refine tkC (j := 7) (fuel := 30) (oi := ⟨_, _, _, _, _, _⟩) HK rfl rfl (fun K hK => ?_)
       go_simp
       refine (HVA5.out _ (btK HBv.out h0)).mono ?_
       rintro e v1 ⟨_ | _, rfl, hb1⟩ <;> (have h0 := btK h0 hb1; refine hK.out _ _ h0 ?_; clear hK K hb1))
  all_goals first
    | (refine tkU (j := 8) (fuel := 29) (oi := ⟨_, _, _, _, _, _⟩) HK rfl rfl (by rfl) (by assumption) ?_; simp only [Act.put, List.setIfInBounds_toArray, List.set_cons_succ, List.set_cons_zero])
    | (refine tkW (j := 8) (fuel := 29) (oi := ⟨_, _, _, _, _, _⟩) (v := ?_) HK rfl rfl (by rfl) ?_ (by assumption) ?_; rotate_left; (focus (intro W hW; go_simp; (try with_reducible rfl); done)); simp only [Act.put, List.setIfInBounds_toArray, List.set_cons_succ, List.set_cons_zero])
  all_goals first
    | (refine tkU (j := 9) (fuel := 28) (oi := ⟨_, _, _, _, _, _⟩) HK rfl rfl (by rfl) (by assumption) ?_; simp only [Act.put, List.setIfInBounds_toArray, List.set_cons_succ, List.set_cons_zero])
    | (refine tkW (j := 9) (fuel := 28) (oi := ⟨_, _, _, _, _, _⟩) (v := ?_) HK rfl rfl (by rfl) ?_ (by assumption) ?_; rotate_left; (focus (intro W hW; go_simp; (try with_reducible rfl); done)); simp only [Act.put, List.setIfInBounds_toArray, List.set_cons_succ, List.set_cons_zero])
  all_goals first
    | (refine tkU (j := 10) (fuel := 27) (oi := ⟨_, _, _, _, _, _⟩) HK rfl rfl (by rfl) (by assumption) ?_; simp only [Act.put, List.setIfInBounds_toArray, List.set_cons_succ, List.set_cons_zero])
    | (refine tkW (j := 10) (fuel := 27) (oi := ⟨_, _, _, _, _, _⟩) (v := ?_) HK rfl rfl (by rfl) ?_ (by assumption) ?_; rotate_left; (focus (intro W hW; go_simp; (try with_reducible rfl); done)); simp only [Act.put, List.setIfInBounds_toArray, List.set_cons_succ, List.set_cons_zero])
  all_goals first
    | (refine tkU (j := 11) (fuel := 26) (oi := ⟨_, _, _, _, _, _⟩) HK rfl rfl (by rfl) (by assumption) ?_; simp only [Act.put, List.setIfInBounds_toArray, List.set_cons_succ, List.set_cons_zero])
    | (refine tkW (j := 11) (fuel := 26) (oi := ⟨_, _, _, _, _, _⟩) (v := ?_) HK rfl rfl (by rfl) ?_ (by assumption) ?_; rotate_left; (focus (intro W hW; go_simp; (try with_reducible rfl); done)); simp only [Act.put, List.setIfInBounds_toArray, List.set_cons_succ, List.set_cons_zero])
  all_goals first
    | (refine tkU (j := 12) (fuel := 25) (oi := ⟨_, _, _, _, _, _⟩) HK rfl rfl (by rfl) (by assumption) ?_; simp only [Act.put, List.setIfInBounds_toArray, List.set_cons_succ, List.set_cons_zero])
    | (refine tkW (j := 12) (fuel := 25) (oi := ⟨_, _, _, _, _, _⟩) (v := ?_) HK rfl rfl (by rfl) ?_ (by assumption) ?_; rotate_left; (focus (intro W hW; obtain ⟨y5, wy0, wy4, wy5, wy6, wy8, wy9⟩ := HFX.out _ hW; go_simp; (try with_reducible rfl); done)); simp only [Act.put, List.setIfInBounds_toArray, List.set_cons_succ, List.set_cons_zero])
  all_goals first
    | (refine tkU (j := 13) (fuel := 24) (oi := ⟨_, _, _, _, _, _⟩) HK rfl rfl (by rfl) (by assumption) ?_; simp only [Act.put, List.setIfInBounds_toArray, List.set_cons_succ, List.set_cons_zero])
    | (refine tkW (j := 13) (fuel := 24) (oi := ⟨_, _, _, _, _, _⟩) (v := ?_) HK rfl rfl (by rfl) ?_ (by assumption) ?_; rotate_left; (focus (intro W hW; go_simp; (try with_reducible rfl); done)); simp only [Act.put, List.setIfInBounds_toArray, List.set_cons_succ, List.set_cons_zero])
  all_goals first
    | (refine tkU (j := 14) (fuel := 23) (oi := ⟨_, _, _, _, _, _⟩) HK rfl rfl (by rfl) (by assumption) ?_; simp only [Act.put, List.setIfInBounds_toArray, List.set_cons_succ, List.set_cons_zero])
    | (refine tkW (j := 14) (fuel := 23) (oi := ⟨_, _, _, _, _, _⟩) (v := ?_) HK rfl rfl (by rfl) ?_ (by assumption) ?_; rotate_left; (focus (intro W hW; obtain ⟨y5, wy0, wy4, wy5, wy6, wy8, wy9⟩ := HFX.out _ hW; go_simp; (try with_reducible rfl); done)); simp only [Act.put, List.setIfInBounds_toArray, List.set_cons_succ, List.set_cons_zero])
  all_goals first
    | (refine tkV (j := 15) (fuel := 22) (oi := ⟨_, _, _, _, _, _⟩) HK HF rfl rfl (by rfl) (by assumption) ?_; simp only [Act.put, List.setIfInBounds_toArray, List.set_cons_succ, List.set_cons_zero])
    | (refine tkC (j := 15) (fuel := 22) (oi := ⟨_, _, _, _, _, _⟩) HK rfl rfl (fun K hK => ?_)
       go_simp
       refine (bits_someB _ _).mono ?_
       rintro e v1 ⟨q, hq1, hq2, rfl, hb1⟩ <;> (have h0 := btK h0 hb1; refine hK.out _ _ h0 ?_; clear hK K hb1))
  all_goals first
    | (refine tkU (j := 16) (fuel := 21) (oi := ⟨_, _, _, _, _, _⟩) HK rfl rfl (by rfl) (by assumption) ?_; simp only [Act.put, List.setIfInBounds_toArray, List.set_cons_succ, List.set_cons_zero])
    | (refine tkW (j := 16) (fuel := 21) (oi := ⟨_, _, _, _, _, _⟩) (v := ?_) HK rfl rfl (by rfl) ?_ (by assumption) ?_; rotate_left; (focus (intro W hW; go_simp; (try with_reducible rfl); done)); simp only [Act.put, List.setIfInBounds_toArray, List.set_cons_succ, List.set_cons_zero])
  all_goals first
    | (refine tkV (j := 17) (fuel := 20) (oi := ⟨_, _, _, _, _, _⟩) HK HF rfl rfl (by rfl) (by assumption) ?_; simp only [Act.put, List.setIfInBounds_toArray, List.set_cons_succ, List.set_cons_zero])
    | (refine tkC (j := 17) (fuel := 20) (oi := ⟨_, _, _, _, _, _⟩) HK rfl rfl (fun K hK => ?_)
       go_simp
       refine (HAL4.out _ (btK HBv.out h0) _ _).mono ?_
       rintro e v1 ⟨_ | _, rfl, hPf, hb1⟩ <;> (first | (have HPF := Lib.hid (hPf rfl); clear hPf) | clear hPf) <;> (have h0 := btK h0 hb1; refine hK.out _ _ h0 ?_; clear hK K hb1))
  all_goals first
    | (refine tkU (j := 18) (fuel := 19) (oi := ⟨_, _, _, _, _, _⟩) HK rfl rfl (by rfl) (by assumption) ?_; simp only [Act.put, List.setIfInBounds_toArray, List.set_cons_succ, List.set_cons_zero])
    | (refine tkW (j := 18) (fuel := 19) (oi := ⟨_, _, _, _, _, _⟩) (v := ?_) HK rfl rfl (by rfl) ?_ (by assumption) ?_; rotate_left; (focus (intro W hW; go_simp; (try with_reducible rfl); done)); simp only [Act.put, List.setIfInBounds_toArray, List.set_cons_succ, List.set_cons_zero])
  all_goals first
    | (refine tkU (j := 19) (fuel := 18) (oi := ⟨_, _, _, _, _, _⟩) HK rfl rfl (by rfl) (by assumption) ?_; simp only [Act.put, List.setIfInBounds_toArray, List.set_cons_succ, List.set_cons_zero])
    | (refine tkW (j := 19) (fuel := 18) (oi := ⟨_, _, _, _, _, _⟩) (v := ?_) HK rfl rfl (by rfl) ?_ (by assumption) ?_; rotate_left; (focus (intro W hW; go_simp; (try with_reducible rfl); done)); simp only [Act.put, List.setIfInBounds_toArray, List.set_cons_succ, List.set_cons_zero])
  all_goals first
    | (refine tkU (j := 20) (fuel := 17) (oi := ⟨_, _, _, _, _, _⟩) HK rfl rfl (by rfl) (by assumption) ?_; simp only [Act.put, List.setIfInBounds_toArray, List.set_cons_succ, List.set_cons_zero])
    | (refine tkW (j := 20) (fuel := 17) (oi := ⟨_, _, _, _, _, _⟩) (v := ?_) HK rfl rfl (by rfl) ?_ (by assumption) ?_; rotate_left; (focus (intro W hW; go_simp; (try with_reducible rfl); done)); simp only [Act.put, List.setIfInBounds_toArray, List.set_cons_succ, List.set_cons_zero])
  all_goals first
    | (refine tkU (j := 21) (fuel := 16) (oi := ⟨_, _, _, _, _, _⟩) HK rfl rfl (by rfl) (by assumption) ?_; simp only [Act.put, List.setIfInBounds_toArray, List.set_cons_succ, List.set_cons_zero])
    | (refine tkW (j := 21) (fuel := 16) (oi := ⟨_, _, _, _, _, _⟩) (v := ?_) HK rfl rfl (by rfl) ?_ (by assumption) ?_; rotate_left; (focus (intro W hW; go_simp; (try with_reducible rfl); done)); simp only [Act.put, List.setIfInBounds_toArray, List.set_cons_succ, List.set_cons_zero])
  all_goals first
    | (refine tkU (j := 22) (fuel := 15) (oi := ⟨_, _, _, _, _, _⟩) HK rfl rfl (by rfl) (by assumption) ?_; simp only [Act.put, List.setIfInBounds_toArray, List.set_cons_succ, List.set_cons_zero])
    | (refine tkW (j := 22) (fuel := 15) (oi := ⟨_, _, _, _, _, _⟩) (v := ?_) HK rfl rfl (by rfl) ?_ (by assumption) ?_; rotate_left; (focus (intro W hW; obtain ⟨y5, wy0, wy4, wy5, wy6, wy8, wy9⟩ := HFX.out _ hW; go_simp; (try with_reducible rfl); done)); simp only [Act.put, List.setIfInBounds_toArray, List.set_cons_succ, List.set_cons_zero])
  all_goals first
    | (refine tkV (j := 23) (fuel := 14) (oi := ⟨_, _, _, _, _, _⟩) HK HF rfl rfl (by rfl) (by assumption) ?_; simp only [Act.put, List.setIfInBounds_toArray, List.set_cons_succ, List.set_cons_zero])
    | (refine tkC (j := 23) (fuel := 14) (oi := ⟨_, _, _, _, _, _⟩) HK rfl rfl (fun K hK => ?_)
       go_simp
       refine (HAL6.out _ (btK HBv.out h0) _ _).mono ?_
       rintro e v1 ⟨_ | _, rfl, hb1⟩ <;> (have h0 := btK h0 hb1; refine hK.out _ _ h0 ?_; clear hK K hb1))
  all_goals first
    | (refine tkU (j := 24) (fuel := 13) (oi := ⟨_, _, _, _, _, _⟩) HK rfl rfl (by rfl) (by assumption) ?_; simp only [Act.put, List.setIfInBounds_toArray, List.set_cons_succ, List.set_cons_zero])
    | (refine tkW (j := 24) (fuel := 13) (oi := ⟨_, _, _, _, _, _⟩) (v := ?_) HK rfl rfl (by rfl) ?_ (by assumption) ?_; rotate_left; (focus (intro W hW; go_simp; (try with_reducible rfl); done)); simp only [Act.put, List.setIfInBounds_toArray, List.set_cons_succ, List.set_cons_zero])
  all_goals first
    | (refine tkU (j := 25) (fuel := 12) (oi := ⟨_, _, _, _, _, _⟩) HK rfl rfl (by rfl) (by assumption) ?_; simp only [Act.put, List.setIfInBounds_toArray, List.set_cons_succ, List.set_cons_zero])
    | (refine tkW (j := 25) (fuel := 12) (oi := ⟨_, _, _, _, _, _⟩) (v := ?_) HK rfl rfl (by rfl) ?_ (by assumption) ?_; rotate_left; (focus (intro W hW; go_simp; (try with_reducible rfl); done)); simp only [Act.put, List.setIfInBounds_toArray, List.set_cons_succ, List.set_cons_zero])
  all_goals first
    | (refine tkU (j := 26) (fuel := 11) (oi := ⟨_, _, _, _, _, _⟩) HK rfl rfl (by rfl) (by assumption) ?_; simp only [Act.put, List.setIfInBounds_toArray, List.set_cons_succ, List.set_cons_zero])
    | (refine tkW (j := 26) (fuel := 11) (oi := ⟨_, _, _, _, _, _⟩) (v := ?_) HK rfl rfl (by rfl) ?_ (by assumption) ?_; rotate_left; (focus (intro W hW; go_simp; (try with_reducible rfl); done)); simp only [Act.put, List.setIfInBounds_toArray, List.set_cons_succ, List.set_cons_zero])
  all_goals first
    | (refine tkU (j := 27) (fuel := 10) (oi := ⟨_, _, _, _, _, _⟩) HK rfl rfl (by rfl) (by assumption) ?_; simp only [Act.put, List.setIfInBounds_toArray, List.set_cons_succ, List.set_cons_zero])
    | (refine tkW (j := 27) (fuel := 10) (oi := ⟨_, _, _, _, _, _⟩) (v := ?_) HK rfl rfl (by rfl) ?_ (by assumption) ?_; rotate_left; (focus (intro W hW; go_simp; (try with_reducible rfl); done)); simp only [Act.put, List.setIfInBounds_toArray, List.set_cons_succ, List.set_cons_zero])
  all_goals first
    | (refine tkU (j := 28) (fuel := 9) (oi := ⟨_, _, _, _, _, _⟩) HK rfl rfl (by rfl) (by assumption) ?_; simp only [Act.put, List.setIfInBounds_toArray, List.set_cons_succ, List.set_cons_zero])
    | (refine tkW (j := 28) (fuel := 9) (oi := ⟨_, _, _, _, _, _⟩) (v := ?_) HK rfl rfl (by rfl) ?_ (by assumption) ?_; rotate_left; (focus (intro W hW; obtain ⟨y5, wy0, wy4, wy5, wy6, wy8, wy9⟩ := HFX.out _ hW; go_simp; (try with_reducible rfl); done)); simp only [Act.put, List.setIfInBounds_toArray, List.set_cons_succ, List.set_cons_zero])
  all_goals first
    | (refine tkV (j := 29) (fuel := 8) (oi := ⟨_, _, _, _, _, _⟩) HK HF rfl rfl (by rfl) (by assumption) ?_; simp only [Act.put, List.setIfInBounds_toArray, List.set_cons_succ, List.set_cons_zero])
    | (refine tkC (j := 29) (fuel := 8) (oi := ⟨_, _, _, _, _, _⟩) HK rfl rfl (fun K hK => ?_)
       go_simp
       refine (is01_someB _ _).mono ?_
       rintro e v1 ⟨_ | _, rfl, hb1⟩ <;> (have h0 := btK h0 hb1; refine hK.out _ _ h0 ?_; clear hK K hb1))
  all_goals first
    | (refine tkU (j := 30) (fuel := 7) (oi := ⟨_, _, _, _, _, _⟩) HK rfl rfl (by rfl) (by assumption) ?_; simp only [Act.put, List.setIfInBounds_toArray, List.set_cons_succ, List.set_cons_zero])
    | (refine tkW (j := 30) (fuel := 7) (oi := ⟨_, _, _, _, _, _⟩) (v := ?_) HK rfl rfl (by rfl) ?_ (by assumption) ?_; rotate_left; (focus (intro W hW; go_simp; (try with_reducible rfl); done)); simp only [Act.put, List.setIfInBounds_toArray, List.set_cons_succ, List.set_cons_zero])
  all_goals first
    | (refine tkU (j := 31) (fuel := 6) (oi := ⟨_, _, _, _, _, _⟩) HK rfl rfl (by rfl) (by assumption) ?_; simp only [Act.put, List.setIfInBounds_toArray, List.set_cons_succ, List.set_cons_zero])
    | (refine tkW (j := 31) (fuel := 6) (oi := ⟨_, _, _, _, _, _⟩) (v := ?_) HK rfl rfl (by rfl) ?_ (by assumption) ?_; rotate_left; (focus (intro W hW; go_simp; (try with_reducible rfl); done)); simp only [Act.put, List.setIfInBounds_toArray, List.set_cons_succ, List.set_cons_zero])
  all_goals first
    | (refine tkU (j := 32) (fuel := 5) (oi := ⟨_, _, _, _, _, _⟩) HK rfl rfl (by rfl) (by assumption) ?_; simp only [Act.put, List.setIfInBounds_toArray, List.set_cons_succ, List.set_cons_zero])
    | (refine tkW (j := 32) (fuel := 5) (oi := ⟨_, _, _, _, _, _⟩) (v := ?_) HK rfl rfl (by rfl) ?_ (by assumption) ?_; rotate_left; (focus (intro W hW; go_simp; (try with_reducible rfl); done)); simp only [Act.put, List.setIfInBounds_toArray, List.set_cons_succ, List.set_cons_zero])
  all_goals first
    | (refine tkU (j := 33) (fuel := 4) (oi := ⟨_, _, _, _, _, _⟩) HK rfl rfl (by rfl) (by assumption) ?_; simp only [Act.put, List.setIfInBounds_toArray, List.set_cons_succ, List.set_cons_zero])
    | (refine tkW (j := 33) (fuel := 4) (oi := ⟨_, _, _, _, _, _⟩) (v := ?_) HK rfl rfl (by rfl) ?_ (by assumption) ?_; rotate_left; (focus (intro W hW; go_simp; (try with_reducible rfl); done)); simp only [Act.put, List.setIfInBounds_toArray, List.set_cons_succ, List.set_cons_zero])
  all_goals first
    | (refine tkU (j := 34) (fuel := 3) (oi := ⟨_, _, _, _, _, _⟩) HK rfl rfl (by rfl) (by assumption) ?_; simp only [Act.put, List.setIfInBounds_toArray, List.set_cons_succ, List.set_cons_zero])
    | (refine tkW (j := 34) (fuel := 3) (oi := ⟨_, _, _, _, _, _⟩) (v := ?_) HK rfl rfl (by rfl) ?_ (by assumption) ?_; rotate_left; (focus (intro W hW; obtain ⟨y5, wy0, wy4, wy5, wy6, wy8, wy9⟩ := HFX.out _ hW; go_simp; (try with_reducible rfl); done)); simp only [Act.put, List.setIfInBounds_toArray, List.set_cons_succ, List.set_cons_zero])
  all_goals first
    | (refine tkV (j := 35) (fuel := 2) (oi := ⟨_, _, _, _, _, _⟩) HK HF rfl rfl (by rfl) (by assumption) ?_; simp only [Act.put, List.setIfInBounds_toArray, List.set_cons_succ, List.set_cons_zero])
    | (refine tkC (j := 35) (fuel := 2) (oi := ⟨_, _, _, _, _, _⟩) HK rfl rfl (fun K hK => ?_)
       go_simp
       refine (from_someB _ _ _ _).mono ?_
       rintro e v1 ⟨_ | _, rfl, hb1⟩ <;> (have h0 := btK h0 hb1; refine hK.out _ _ h0 ?_; clear hK K hb1))
  all_goals first
    | (refine tkU (j := 36) (fuel := 1) (oi := ⟨_, _, _, _, _, _⟩) HK rfl rfl (by rfl) (by assumption) ?_; simp only [Act.put, List.setIfInBounds_toArray, List.set_cons_succ, List.set_cons_zero])
    | (refine tkW (j := 36) (fuel := 1) (oi := ⟨_, _, _, _, _, _⟩) (v := ?_) HK rfl rfl (by rfl) ?_ (by assumption) ?_; rotate_left; (focus (intro W hW; go_simp; (try with_reducible rfl); done)); simp only [Act.put, List.setIfInBounds_toArray, List.set_cons_succ, List.set_cons_zero])
  all_goals first
    | (refine tkU (j := 37) (fuel := 0) (oi := ⟨_, _, _, _, _, _⟩) HK rfl rfl (by rfl) (by assumption) ?_; simp only [Act.put, List.setIfInBounds_toArray, List.set_cons_succ, List.set_cons_zero])
    | (refine tkW (j := 37) (fuel := 0) (oi := ⟨_, _, _, _, _, _⟩) (v := ?_) HK rfl rfl (by rfl) ?_ (by assumption) ?_; rotate_left; (focus (intro W hW; go_simp; (try with_reducible rfl); done)); simp only [Act.put, List.setIfInBounds_toArray, List.set_cons_succ, List.set_cons_zero])
  all_goals refine tkE (by kernel_rfl) ?_ _
  all_goals go_simp
  all_goals
    have HXt := Lib.hid (HXt.out.below h0)
    have HXv := Lib.hid (HXv.out.below h0)
    have HBv := Lib.hid (btK HBv.out h0)
    clear h0
    go_upto_region 6 with fail
    all_goals try (go_ret; exact ⟨_, rfl, (fun h => by cases h), HBv.out⟩)
  have HF : Hid (NestK x ∧ x.parent.length = t.things.length ∧ x.flags.length = t.things.length ∧ ∀ f ∈ x.flags, 0 ≤ f) := ⟨HPN.out, HC1.out, HC2.out, fun f hf => (HPF.out f hf).1⟩
  have wy10 := HXv.out.cell 10
  have wy11 := HXv.out.cell 11
  have wy12 := HXv.out.cell 12
  simp only [List.getElem?_cons_succ, List.getElem?_cons_zero] at wy10 wy11 wy12
  go_wp2_with (first | ((with_reducible refine wpList_load_T 28 (.tmp 2) ?hw9 ⟨w.heap.size, 0, none⟩ ?hx9 TV (HLT.out _ HXt.out) ?_); (case hw9 => rfl); (case hx9 => first | rfl | (exact rfl))) | ((with_reducible refine wpList_load_T 31 (.tmp 3) ?hw9 ⟨w.heap.size + 1, 0, none⟩ ?hx9 WV (HLW.out _ HXv.out) ?_); (case hw9 => rfl); (case hx9 => first | rfl | (exact rfl))) | (go_at_call 39; (with_reducible refine (from_someB _ _ _ _).mono ?_); rintro e w1 ⟨_ | _, rfl, hb1⟩ <;> (have HXt := Lib.hid (HXt.out.below hb1); have HXv := Lib.hid (HXv.out.below hb1); have HBv := Lib.hid (btK HBv.out hb1); clear wy11 wy12; have wy11 := HXv.out.cell 11; have wy12 := HXv.out.cell 12; simp only [List.getElem?_cons_succ, List.getElem?_cons_zero] at wy11 wy12)) | (go_at_call 40; (with_reducible refine (HPL.out _ HBv.out).mono ?_); rintro e w1 ⟨_ | _, rfl, hb1⟩ <;> (have HXt := Lib.hid (HXt.out.below hb1); have HXv := Lib.hid (HXv.out.below hb1); have HBv := Lib.hid (btK HBv.out hb1))))
  all_goals
    go_ret
    exact ⟨_, rfl, (fun _ => HF.out), HBv.out⟩
end Go.Proofs.YtapjglpiofpbmaaGreat
