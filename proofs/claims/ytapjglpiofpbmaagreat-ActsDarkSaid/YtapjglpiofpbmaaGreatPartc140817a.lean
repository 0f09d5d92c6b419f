/- clewref23's Carried, Lit and Visible. Printed by gen-ac14.py. -/
import Derived.Test.YtapjglpiofpbmaaGreatPart8102bba3
namespace Go.Proofs.YtapjglpiofpbmaaGreat
open Go.RowKit Go.Sort

set_option maxRecDepth 100000 in
set_option maxHeartbeats 2000000 in
theorem carried23_calls (F : Nat → Prop) (w : World) (t : TabD) (x : WorldD) (cs ds : List Value) (hF : Inn F w) (ht : Holds.tab.R F w t cs) (hx : Holds.world.R F w x ds) (hn : NestK x) (h128 : x.parent.length ≤ 128) : Calls Tryz.prog 15 #[.agg cs.toArray, .agg ds.toArray] w (GivesInts (x.reach 1) w) := by
  have HRE0 := Lib.hid (fun (W : World) (h : Below w.heap.size w W) (c : Int) => rch_n (F := F) (w := W) c (fun b hb => Nat.lt_of_lt_of_le (hF b hb) h.size) (Holds.world.keep (fun b hb => h.block b (hF b hb)) (fun _ h => h) hx) hn h128)
  have HRE1 := Lib.hid (fun W h => HRE0.out W h 1)
  clear HRE0
  have HRE0 := HRE1
  clear HRE1
  generalize x.reach 1 = l at HRE0 ⊢
  obtain ⟨i0, i1, i2, i3, i5, v4, v6, v7, v8, v9, v10, v11, v12, v13, v14, rfl, g4, g6, g7, g8, g9, g10, g11, g12, g13, g14⟩ := ht
  obtain ⟨ad4, ca4, rfl⟩ := g4.shape
  obtain ⟨ad6, ca6, rfl⟩ := g6.shape
  obtain ⟨ad7, ca7, rfl⟩ := g7.shape
  obtain ⟨ad8, ca8, rfl⟩ := g8.shape
  obtain ⟨ad9, ca9, rfl⟩ := g9.shape
  obtain ⟨ad10, ca10, rfl⟩ := g10.shape
  obtain ⟨ad11, ca11, rfl⟩ := g11.shape
  obtain ⟨ad12, ca12, rfl⟩ := g12.shape
  obtain ⟨ad13, ca13, rfl⟩ := g13.shape
  obtain ⟨ad14, ca14, rfl⟩ := g14.shape
  have ln4 := g4.len
  have ln6 := g6.len
  have ln7 := g7.len
  have ln8 := g8.len
  have ln9 := g9.len
  have ln10 := g10.len
  have ln11 := g11.len
  have ln12 := g12.len
  have ln13 := g13.len
  have ln14 := g14.len
  unfold maxLen at ln4 ln6 ln7 ln8 ln9 ln10 ln11 ln12 ln13 ln14
  obtain ⟨-, -, -, -, -, -, wv0, wv1, wv2, wv3, wv4, wv5, wv6, rfl, wg0, wg1, wg2, wg3, wg4, wg5, wg6⟩ := hx
  obtain ⟨wa0, wc0, rfl⟩ := wg0.shape
  have wl0 := wg0.len
  obtain ⟨wa1, wc1, rfl⟩ := wg1.shape
  have wl1 := wg1.len
  obtain ⟨wa2, wc2, rfl⟩ := wg2.shape
  have wl2 := wg2.len
  obtain ⟨wa3, wc3, rfl⟩ := wg3.shape
  have wl3 := wg3.len
  obtain ⟨wa4, wc4, rfl⟩ := wg4.shape
  have wl4 := wg4.len
  obtain ⟨wa5, wc5, rfl⟩ := wg5.shape
  have wl5 := wg5.len
  obtain ⟨wa6, wc6, rfl⟩ := wg6.shape
  have wl6 := wg6.len
  unfold maxLen at wl0 wl1 wl2 wl3 wl4 wl5 wl6
  clear g4 g6 g7 g8 g9 g10 g11 g12 g13 g14 wg0 wg1 wg2 wg3 wg4 wg5 wg6
  clear i0 i1 i2 i3 i5
  obtain ⟨W1, hW1⟩ : ∃ z, w.alloc (.cells #[.int .i64 t.title, .int .i64 t.byl, .int .i64 t.release, .int .i64 t.most, .slice ad4 t.texts.length ca4, .int .i64 t.flags, .slice ad6 t.props.length ca6, .slice ad7 t.globals.length ca7, .slice ad8 t.things.length ca8, .slice ad9 t.acts.length ca9, .slice ad10 t.deeds.length ca10, .slice ad11 t.funcs.length ca11, .slice ad12 t.daemons.length ca12, .slice ad13 t.params.length ca13, .slice ad14 t.locals.length ca14] 28) = z := ⟨_, rfl⟩
  obtain ⟨W2, hW2⟩ : ∃ z, W1.alloc (.cells #[.slice wa0 x.globals.length wc0, .slice wa1 x.parent.length wc1, .slice wa2 x.child.length wc2, .slice wa3 x.next.length wc3, .slice wa4 x.flags.length wc4, .slice wa5 x.props.length wc5, .slice wa6 x.timers.length wc6, .int .u64 x.seed, .int .i64 x.score, .int .i64 x.turns, .int .i64 x.over, .int .i64 x.it, .int .i64 x.go] 31) = z := ⟨_, rfl⟩
  have hz1 : W1.heap.size = w.heap.size + 1 := by rw [← hW1]; simp
  have hb1 : Below w.heap.size w W1 := by rw [← hW1]; exact (Below.refl _ _).alloc (Nat.le_refl _) _
  have hb2 : Below W1.heap.size W1 W2 := by rw [← hW2]; exact (Below.refl _ _).alloc (Nat.le_refl _) _
  have hx1 : BoxT W1 w.heap.size [.int .i64 t.title, .int .i64 t.byl, .int .i64 t.release, .int .i64 t.most, .slice ad4 t.texts.length ca4, .int .i64 t.flags, .slice ad6 t.props.length ca6, .slice ad7 t.globals.length ca7, .slice ad8 t.things.length ca8, .slice ad9 t.acts.length ca9, .slice ad10 t.deeds.length ca10, .slice ad11 t.funcs.length ca11, .slice ad12 t.daemons.length ca12, .slice ad13 t.params.length ca13, .slice ad14 t.locals.length ca14] 28 := by rw [← hW1]; exact BoxT.new _ _ _
  have hx2 : BoxT W2 (w.heap.size + 1) [.slice wa0 x.globals.length wc0, .slice wa1 x.parent.length wc1, .slice wa2 x.child.length wc2, .slice wa3 x.next.length wc3, .slice wa4 x.flags.length wc4, .slice wa5 x.props.length wc5, .slice wa6 x.timers.length wc6, .int .u64 x.seed, .int .i64 x.score, .int .i64 x.turns, .int .i64 x.over, .int .i64 x.it, .int .i64 x.go] 31 := by rw [← hz1, ← hW2]; exact BoxT.new _ _ _
  have HXt := Lib.hid (hx1.below hb2); have HXv := Lib.hid hx2; have HBv := Lib.hid (btK hb1 hb2)
  have HW1 := Lib.hid hW1; have HW2 := Lib.hid hW2
  have hs2 : W2.heap.size = W1.heap.size + 1 := by rw [← hW2]; simp
  rw [hz1] at hs2
  have HS2 := Lib.hid hs2
  clear hs2
  clear hW1 hW2 hz1 hb1 hb2 hx1 hx2
  go_enter Tryz.func15, Tryz.ntmps15
  go_upto_region 1 with fail
  rw [HW1.out, HW2.out]
  obtain ⟨TV, hTV⟩ : ∃ v, Value.agg #[.int .i64 t.title, .int .i64 t.byl, .int .i64 t.release, .int .i64 t.most, .slice ad4 t.texts.length ca4, .int .i64 t.flags, .slice ad6 t.props.length ca6, .slice ad7 t.globals.length ca7, .slice ad8 t.things.length ca8, .slice ad9 t.acts.length ca9, .slice ad10 t.deeds.length ca10, .slice ad11 t.funcs.length ca11, .slice ad12 t.daemons.length ca12, .slice ad13 t.params.length ca13, .slice ad14 t.locals.length ca14] = v := ⟨_, rfl⟩
  obtain ⟨WV, hWV⟩ : ∃ v, Value.agg #[.slice wa0 x.globals.length wc0, .slice wa1 x.parent.length wc1, .slice wa2 x.child.length wc2, .slice wa3 x.next.length wc3, .slice wa4 x.flags.length wc4, .slice wa5 x.props.length wc5, .slice wa6 x.timers.length wc6, .int .u64 x.seed, .int .i64 x.score, .int .i64 x.turns, .int .i64 x.over, .int .i64 x.it, .int .i64 x.go] = v := ⟨_, rfl⟩
  have HLT : Hid (∀ W, BoxT W w.heap.size [.int .i64 t.title, .int .i64 t.byl, .int .i64 t.release, .int .i64 t.most, .slice ad4 t.texts.length ca4, .int .i64 t.flags, .slice ad6 t.props.length ca6, .slice ad7 t.globals.length ca7, .slice ad8 t.things.length ca8, .slice ad9 t.acts.length ca9, .slice ad10 t.deeds.length ca10, .slice ad11 t.funcs.length ca11, .slice ad12 t.daemons.length ca12, .slice ad13 t.params.length ca13, .slice ad14 t.locals.length ca14] 28 → (Instr.loadAt 28 (.pointer (some ⟨w.heap.size, 0, none⟩))).run Tryz.prog W = .ok TV W) := fun W h => by
    rw [← hTV]
    exact run_loadAt_mid W _ 0 28 _ _ h.range Tryz.underlying28 rfl (by kernel_rfl)
  have HLW : Hid (∀ W, BoxT W (w.heap.size + 1) [.slice wa0 x.globals.length wc0, .slice wa1 x.parent.length wc1, .slice wa2 x.child.length wc2, .slice wa3 x.next.length wc3, .slice wa4 x.flags.length wc4, .slice wa5 x.props.length wc5, .slice wa6 x.timers.length wc6, .int .u64 x.seed, .int .i64 x.score, .int .i64 x.turns, .int .i64 x.over, .int .i64 x.it, .int .i64 x.go] 31 → (Instr.loadAt 31 (.pointer (some ⟨w.heap.size + 1, 0, none⟩))).run Tryz.prog W = .ok WV W) := fun W h => by
    rw [← hWV]
    exact run_loadAt_mid W _ 0 31 _ _ h.range Tryz.underlying31 rfl (by kernel_rfl)
  rw [hTV, hWV]
  clear HW1 HW2
  have HRE := Lib.hid HRE0.out
  rw [hWV] at HRE
  clear hTV hWV HRE0
  have wy1 := HXv.out.cell 1
  simp only [List.getElem?_cons_succ, List.getElem?_cons_zero] at wy1
  go_wp2_with (first | ((with_reducible refine wpList_load_T 31 (.tmp 3) ?hw9 ⟨w.heap.size + 1, 0, none⟩ ?hx9 WV (HLW.out _ HXv.out) ?_); (case hw9 => rfl); (case hx9 => first | rfl | (exact rfl))) | (go_at_call 28; (with_reducible refine (HRE.out _ HBv.out).mono ?_); rintro e w1 ⟨v, rfl, hown, hb1⟩))
  go_ret
  exact ⟨_, rfl, hown.lower (Nat.succ_le_succ HBv.out.size), btK HBv.out hb1⟩
set_option maxRecDepth 100000 in
set_option maxHeartbeats 4000000 in
theorem lit23_calls (F : Nat → Prop) (w : World) (t : TabD) (x : WorldD) (cs ds : List Value) (hF : Inn F w) (ht : Holds.tab.R F w t cs) (hx : Holds.world.R F w x ds) (hn : NestK x) (h128 : x.parent.length ≤ 128) : Calls Tryz.prog 14 #[.agg cs.toArray, .agg ds.toArray] w (Gives w (.bool x.lit)) := by
  have HRE9 := Lib.hid (fun (W : World) (h : Below w.heap.size w W) => rch_n (F := F) (w := W) (x.top 1) (fun b hb => Nat.lt_of_lt_of_le (hF b hb) h.size) (Holds.world.keep (fun b hb => h.block b (hF b hb)) (fun _ h => h) hx) hn h128)
  have hll0 := reach_len hn h128 (x.top 1)
  have HHE0 := Lib.hid (fun (W : World) (h : Below w.heap.size w W) => here_calls F W x ds (fun b hb => Nat.lt_of_lt_of_le (hF b hb) h.size) (Holds.world.keep (fun b hb => h.block b (hF b hb)) (fun _ h => h) hx))
  have HH0 : Hid (∀ W, Below w.heap.size w W → ∀ c : Int, Calls Tryz.prog 30 #[.agg ds.toArray, .int .i64 c, .int .i64 0] W (Gives W (.bool (flagF x.flags 0 c)))) := fun W h c => has23_calls F W x ds (fun b hb => Nat.lt_of_lt_of_le (hF b hb) h.size) (Holds.world.keep (fun b hb => h.block b (hF b hb)) (fun _ h => h) hx) c 0 (by omega)
  obtain ⟨R, hR⟩ : ∃ r, x.lit = r := ⟨_, rfl⟩
  rw [hR]
  have HQ0 : Hid ((flagF x.flags 0 (x.top 1) || (x.reach (x.top 1)).any (flagF x.flags 0)) = R) := hR
  clear hR
  generalize x.reach (x.top 1) = l at HRE9 HQ0 hll0
  generalize x.top 1 = c0 at HRE9 HHE0 HQ0
  have HRE0 := HRE9
  clear HRE9
  generalize flagF x.flags 0 = fl at HH0 HQ0
  obtain ⟨i0, i1, i2, i3, i5, v4, v6, v7, v8, v9, v10, v11, v12, v13, v14, rfl, g4, g6, g7, g8, g9, g10, g11, g12, g13, g14⟩ := ht
  obtain ⟨ad4, ca4, rfl⟩ := g4.shape
  obtain ⟨ad6, ca6, rfl⟩ := g6.shape
  obtain ⟨ad7, ca7, rfl⟩ := g7.shape
  obtain ⟨ad8, ca8, rfl⟩ := g8.shape
  obtain ⟨ad9, ca9, rfl⟩ := g9.shape
  obtain ⟨ad10, ca10, rfl⟩ := g10.shape
  obtain ⟨ad11, ca11, rfl⟩ := g11.shape
  obtain ⟨ad12, ca12, rfl⟩ := g12.shape
  obtain ⟨ad13, ca13, rfl⟩ := g13.shape
  obtain ⟨ad14, ca14, rfl⟩ := g14.shape
  have ln4 := g4.len
  have ln6 := g6.len
  have ln7 := g7.len
  have ln8 := g8.len
  have ln9 := g9.len
  have ln10 := g10.len
  have ln11 := g11.len
  have ln12 := g12.len
  have ln13 := g13.len
  have ln14 := g14.len
  unfold maxLen at ln4 ln6 ln7 ln8 ln9 ln10 ln11 ln12 ln13 ln14
  obtain ⟨-, -, -, -, -, -, wv0, wv1, wv2, wv3, wv4, wv5, wv6, rfl, wg0, wg1, wg2, wg3, wg4, wg5, wg6⟩ := hx
  obtain ⟨wa0, wc0, rfl⟩ := wg0.shape
  have wl0 := wg0.len
  obtain ⟨wa1, wc1, rfl⟩ := wg1.shape
  have wl1 := wg1.len
  obtain ⟨wa2, wc2, rfl⟩ := wg2.shape
  have wl2 := wg2.len
  obtain ⟨wa3, wc3, rfl⟩ := wg3.shape
  have wl3 := wg3.len
  obtain ⟨wa4, wc4, rfl⟩ := wg4.shape
  have wl4 := wg4.len
  obtain ⟨wa5, wc5, rfl⟩ := wg5.shape
  have wl5 := wg5.len
  obtain ⟨wa6, wc6, rfl⟩ := wg6.shape
  have wl6 := wg6.len
  unfold maxLen at wl0 wl1 wl2 wl3 wl4 wl5 wl6
  clear g4 g6 g7 g8 g9 g10 g11 g12 g13 g14 wg0 wg1 wg2 wg3 wg4 wg5 wg6
  clear i0 i1 i2 i3 i5
  obtain ⟨W1, hW1⟩ : ∃ z, w.alloc (.cells #[.int .i64 t.title, .int .i64 t.byl, .int .i64 t.release, .int .i64 t.most, .slice ad4 t.texts.length ca4, .int .i64 t.flags, .slice ad6 t.props.length ca6, .slice ad7 t.globals.length ca7, .slice ad8 t.things.length ca8, .slice ad9 t.acts.length ca9, .slice ad10 t.deeds.length ca10, .slice ad11 t.funcs.length ca11, .slice ad12 t.daemons.length ca12, .slice ad13 t.params.length ca13, .slice ad14 t.locals.length ca14] 28) = z := ⟨_, rfl⟩
  obtain ⟨W2, hW2⟩ : ∃ z, W1.alloc (.cells #[.slice wa0 x.globals.length wc0, .slice wa1 x.parent.length wc1, .slice wa2 x.child.length wc2, .slice wa3 x.next.length wc3, .slice wa4 x.flags.length wc4, .slice wa5 x.props.length wc5, .slice wa6 x.timers.length wc6, .int .u64 x.seed, .int .i64 x.score, .int .i64 x.turns, .int .i64 x.over, .int .i64 x.it, .int .i64 x.go] 31) = z := ⟨_, rfl⟩
  have hz1 : W1.heap.size = w.heap.size + 1 := by rw [← hW1]; simp
  have hb1 : Below w.heap.size w W1 := by rw [← hW1]; exact (Below.refl _ _).alloc (Nat.le_refl _) _
  have hb2 : Below W1.heap.size W1 W2 := by rw [← hW2]; exact (Below.refl _ _).alloc (Nat.le_refl _) _
  have hx1 : BoxT W1 w.heap.size [.int .i64 t.title, .int .i64 t.byl, .int .i64 t.release, .int .i64 t.most, .slice ad4 t.texts.length ca4, .int .i64 t.flags, .slice ad6 t.props.length ca6, .slice ad7 t.globals.length ca7, .slice ad8 t.things.length ca8, .slice ad9 t.acts.length ca9, .slice ad10 t.deeds.length ca10, .slice ad11 t.funcs.length ca11, .slice ad12 t.daemons.length ca12, .slice ad13 t.params.length ca13, .slice ad14 t.locals.length ca14] 28 := by rw [← hW1]; exact BoxT.new _ _ _
  have hx2 : BoxT W2 (w.heap.size + 1) [.slice wa0 x.globals.length wc0, .slice wa1 x.parent.length wc1, .slice wa2 x.child.length wc2, .slice wa3 x.next.length wc3, .slice wa4 x.flags.length wc4, .slice wa5 x.props.length wc5, .slice wa6 x.timers.length wc6, .int .u64 x.seed, .int .i64 x.score, .int .i64 x.turns, .int .i64 x.over, .int .i64 x.it, .int .i64 x.go] 31 := by rw [← hz1, ← hW2]; exact BoxT.new _ _ _
  have HXt := Lib.hid (hx1.below hb2); have HXv := Lib.hid hx2; have HBv := Lib.hid (btK hb1 hb2)
  have HW1 := Lib.hid hW1; have HW2 := Lib.hid hW2
  have hs2 : W2.heap.size = W1.heap.size + 1 := by rw [← hW2]; simp
  rw [hz1] at hs2
  have HS2 := Lib.hid hs2
  clear hs2
  clear hW1 hW2 hz1 hb1 hb2 hx1 hx2
  go_enter Tryz.func14, Tryz.ntmps14
  go_upto_region 1 with fail
  rw [HW1.out, HW2.out]
  obtain ⟨TV, hTV⟩ : ∃ v, Value.agg #[.int .i64 t.title, .int .i64 t.byl, .int .i64 t.release, .int .i64 t.most, .slice ad4 t.texts.length ca4, .int .i64 t.flags, .slice ad6 t.props.length ca6, .slice ad7 t.globals.length ca7, .slice ad8 t.things.length ca8, .slice ad9 t.acts.length ca9, .slice ad10 t.deeds.length ca10, .slice ad11 t.funcs.length ca11, .slice ad12 t.daemons.length ca12, .slice ad13 t.params.length ca13, .slice ad14 t.locals.length ca14] = v := ⟨_, rfl⟩
  obtain ⟨WV, hWV⟩ : ∃ v, Value.agg #[.slice wa0 x.globals.length wc0, .slice wa1 x.parent.length wc1, .slice wa2 x.child.length wc2, .slice wa3 x.next.length wc3, .slice wa4 x.flags.length wc4, .slice wa5 x.props.length wc5, .slice wa6 x.timers.length wc6, .int .u64 x.seed, .int .i64 x.score, .int .i64 x.turns, .int .i64 x.over, .int .i64 x.it, .int .i64 x.go] = v := ⟨_, rfl⟩
  have HLT : Hid (∀ W, BoxT W w.heap.size [.int .i64 t.title, .int .i64 t.byl, .int .i64 t.release, .int .i64 t.most, .slice ad4 t.texts.length ca4, .int .i64 t.flags, .slice ad6 t.props.length ca6, .slice ad7 t.globals.length ca7, .slice ad8 t.things.length ca8, .slice ad9 t.acts.length ca9, .slice ad10 t.deeds.length ca10, .slice ad11 t.funcs.length ca11, .slice ad12 t.daemons.length ca12, .slice ad13 t.params.length ca13, .slice ad14 t.locals.length ca14] 28 → (Instr.loadAt 28 (.pointer (some ⟨w.heap.size, 0, none⟩))).run Tryz.prog W = .ok TV W) := fun W h => by
    rw [← hTV]
    exact run_loadAt_mid W _ 0 28 _ _ h.range Tryz.underlying28 rfl (by kernel_rfl)
  have HLW : Hid (∀ W, BoxT W (w.heap.size + 1) [.slice wa0 x.globals.length wc0, .slice wa1 x.parent.length wc1, .slice wa2 x.child.length wc2, .slice wa3 x.next.length wc3, .slice wa4 x.flags.length wc4, .slice wa5 x.props.length wc5, .slice wa6 x.timers.length wc6, .int .u64 x.seed, .int .i64 x.score, .int .i64 x.turns, .int .i64 x.over, .int .i64 x.it, .int .i64 x.go] 31 → (Instr.loadAt 31 (.pointer (some ⟨w.heap.size + 1, 0, none⟩))).run Tryz.prog W = .ok WV W) := fun W h => by
    rw [← hWV]
    exact run_loadAt_mid W _ 0 31 _ _ h.range Tryz.underlying31 rfl (by kernel_rfl)
  rw [hTV, hWV]
  clear HW1 HW2
  have HRE := Lib.hid HRE0.out; have HHE := Lib.hid HHE0.out; have HH := Lib.hid HH0.out
  rw [hWV] at HRE HHE HH
  clear hTV hWV HRE0 HHE0 HH0
  have HX0 := HXv; have HB0 := HBv
  have wy1 := HXv.out.cell 1
  simp only [List.getElem?_cons_succ, List.getElem?_cons_zero] at wy1
  go_upto_region 4 with (first | ((with_reducible refine wpList_load_T 31 (.tmp 3) ?hw9 ⟨w.heap.size + 1, 0, none⟩ ?hx9 WV (HLW.out _ HXv.out) ?_); (case hw9 => rfl); (case hx9 => first | rfl | (exact rfl))) | (go_at_call 29; (with_reducible refine (HHE.out _ HBv.out).mono ?_); rintro e w1 ⟨rfl, hb1⟩; have HXv := Lib.hid (HXv.out.below hb1); have HBv := Lib.hid (btK HBv.out hb1); clear wy1; have wy1 := HXv.out.cell 1; simp only [List.getElem?_cons_succ, List.getElem?_cons_zero] at wy1) | (go_at_call 30; (with_reducible refine (HH.out _ HBv.out _).mono ?_); rintro e w2 ⟨rfl, hb2⟩; have HXv := Lib.hid (HXv.out.below hb2); have HBv := Lib.hid (btK HBv.out hb2); clear wy1; have wy1 := HXv.out.cell 1; simp only [List.getElem?_cons_succ, List.getElem?_cons_zero] at wy1) | (go_at_call 28; (with_reducible refine (HRE.out _ HBv.out).mono ?_); rintro e w3 ⟨v, rfl, hown, hb3⟩; have hrd := hown.rdl; clear hown; obtain ⟨va, vc, rfl⟩ := hrd.shape))
  have HX2 := Lib.hid (HXv.out.below hb3)
  have HB2 := Lib.hid (btK HBv.out hb3)
  obtain ⟨ya, yc, he, -, -, hel⟩ := RdInts.elem hrd (newB_inn _ w3)
  cases he
  have hll := hll0
  have HEL := Lib.hid hel
  clear hrd hel hb1 hb2 hb3 HXv HBv wy1 hll0
  go_wp2
  generalize hr0 : fl c0 = r0
  have HST : Hid ((fl c0 || (l.take 0).any fl) = r0) := by show _ = _; simp [hr0]
  clear hr0
  go_loopw [6, 8] (fun a i wr => ∃ (k : Nat) (b : Bool), k ≤ l.length ∧ i = .int .i64 k ∧ a = .bool b ∧ Hid ((fl c0 || (l.take k).any fl) = b) ∧ Below w3.heap.size w3 wr) (fun _ i _ => l.length - (intOf i).toNat)
  case atStart => exact ⟨0, r0, Nat.zero_le _, rfl, rfl, HST.out, Below.refl _ _⟩
  case round =>
    obtain ⟨k, b, hk, rfl, rfl, HQ, hB⟩ := hrel
    have HBL := Lib.hid hB
    have HXv := Lib.hid (HX2.out.below hB)
    have HBv := Lib.hid (btK HB2.out hB)
    clear hB
    by_cases hlt : k < l.length
    rotate_left
    · have h1 : ¬ (k : Int) < (l.length : Int) := by omega
      have HF : Hid (b = R) := by
        have h9 := HQ.out
        rw [List.take_of_length_le (by omega)] at h9
        rw [← HQ0.out, h9]
        rfl
      go_wp2
      go_ret
      exact ⟨ret_bool HF.out, HBv.out⟩
    have h1 : (k : Int) < (l.length : Int) := by omega
    have h2 : (0 : Int) ≤ (k : Int) := by omega
    obtain ⟨vb, voff, rfl, hel4⟩ := HEL.out (by omega)
    have p4 := hel4 _ HBL.out k hlt
    have hnx : (fl c0 || (l.take (k + 1)).any fl) = (b || fl l[k]) := by
      rw [List.take_add_one, List.getElem?_eq_getElem hlt, Option.toList_some, List.any_append, ← Bool.or_assoc, HQ.out]
      simp
    have hhq := fun W h => HH.out W h l[k]
    generalize l[k] = q at p4 hhq hnx
    generalize fl q = g at hhq hnx
    have HH := Lib.hid hhq
    have HNX0 := Lib.hid hnx
    clear hhq hnx hel4
    go_upto_region 7 with fail
    cases b
    · have HNX : Hid ((fl c0 || (l.take (k + 1)).any fl) = g) := by show _ = _; rw [HNX0.out, Bool.false_or]
      have e4 := fun d os => cell_regrown p4 d os
      have hql : ∀ W, (∃ p : Regrown, W = grow (redrawn wr p.d) p.os) → (Instr.loadAt 31 (.pointer (some ⟨w.heap.size + 1, 0, none⟩))).run Tryz.prog W = .ok WV W := fun W h => HLW.out _ (HXv.out.below (below_of_regrown h))
      have QL := Lib.hid hql
      have g1 := regrownG (w := wr) fun w' h => HH.out w' (btK HBv.out h)
      have G1 := Lib.hid g1
      clear g1 hql p4
      as_aux_lemma =>
        refine wp_region_quiet_below (by kernel_rfl) (by kernel_rfl) ?_
        (try dsimp only [List.append])
        repeat (first | (go_big_quiet_want; (refine quiet_load 31 _ (by rfl) _ (by rfl) WV (fun W hW => QL.out W hW) ?_); simp only [Act.put, List.setIfInBounds_toArray, List.set_cons_succ, List.set_cons_zero]; go_big_quiet_on) | go_big_quiet_step (first | with_reducible exact G1.out _))
        with_reducible refine wpQuiet_nil ?_
        intro w3 hw3
        have hb3 := below_of_regrown hw3
        clear hw3
        go_wp2
        go_roundw
        case rel => exact ⟨k + 1, _, by omega, by go_num, rfl, HNX.out, HBL.out.trans (hb3.mono HBL.out.size)⟩
        case measure => simp [intOf]; omega
    · have HNX : Hid ((fl c0 || (l.take (k + 1)).any fl) = true) := by show _ = _; rw [HNX0.out, Bool.true_or]
      have e4 := fun d os => cell_regrown p4 d os
      have hql : ∀ W, (∃ p : Regrown, W = grow (redrawn wr p.d) p.os) → (Instr.loadAt 31 (.pointer (some ⟨w.heap.size + 1, 0, none⟩))).run Tryz.prog W = .ok WV W := fun W h => HLW.out _ (HXv.out.below (below_of_regrown h))
      have QL := Lib.hid hql
      have g1 := regrownG (w := wr) fun w' h => HH.out w' (btK HBv.out h)
      have G1 := Lib.hid g1
      clear g1 hql p4
      as_aux_lemma =>
        refine wp_region_quiet_below (by kernel_rfl) (by kernel_rfl) ?_
        (try dsimp only [List.append])
        repeat (first | (go_big_quiet_want; (refine quiet_load 31 _ (by rfl) _ (by rfl) WV (fun W hW => QL.out W hW) ?_); simp only [Act.put, List.setIfInBounds_toArray, List.set_cons_succ, List.set_cons_zero]; go_big_quiet_on) | go_big_quiet_step (first | with_reducible exact G1.out _))
        with_reducible refine wpQuiet_nil ?_
        intro w3 hw3
        have hb3 := below_of_regrown hw3
        clear hw3
        go_wp2
        go_roundw
        case rel => exact ⟨k + 1, _, by omega, by go_num, rfl, HNX.out, HBL.out.trans (hb3.mono HBL.out.size)⟩
        case measure => simp [intOf]; omega
set_option maxRecDepth 100000 in
set_option maxHeartbeats 4000000 in
theorem visible23_calls (F : Nat → Prop) (w : World) (t : TabD) (x : WorldD) (cs ds : List Value) (hF : Inn F w) (ht : Holds.tab.R F w t cs) (hx : Holds.world.R F w x ds) (hn : NestK x) (h128 : x.parent.length ≤ 128) : Calls Tryz.prog 13 #[.agg cs.toArray, .agg ds.toArray] w (GivesInts x.vis w) := by
  have HRE0 := Lib.hid (fun (W : World) (h : Below w.heap.size w W) => rch_n (F := F) (w := W) (x.top 1) (fun b hb => Nat.lt_of_lt_of_le (hF b hb) h.size) (Holds.world.keep (fun b hb => h.block b (hF b hb)) (fun _ h => h) hx) hn h128)
  have hll := reach_len hn h128 (x.top 1)
  have HI0 : Hid (∀ i (hi : i < (x.reach (x.top 1)).length), I64 (x.reach (x.top 1))[i]) := fun i hi => by
    have h9 := reach_is x.n (x.top 1) _ (List.getElem_mem hi)
    have hn9 : x.n = x.parent.length := rfl
    unfold IsTh at h9
    unfold I64
    omega
  have HHE0 := Lib.hid (fun (W : World) (h : Below w.heap.size w W) => here_calls F W x ds (fun b hb => Nat.lt_of_lt_of_le (hF b hb) h.size) (Holds.world.keep (fun b hb => h.block b (hF b hb)) (fun _ h => h) hx))
  have HCA0 := Lib.hid (fun (W : World) (h : Below w.heap.size w W) => carried23_calls F W t x cs ds (fun b hb => Nat.lt_of_lt_of_le (hF b hb) h.size) (Holds.tab.keep (fun b hb => h.block b (hF b hb)) (fun _ h => h) ht) (Holds.world.keep (fun b hb => h.block b (hF b hb)) (fun _ h => h) hx) hn h128)
  have HLI0 := Lib.hid (fun (W : World) (h : Below w.heap.size w W) => lit23_calls F W t x cs ds (fun b hb => Nat.lt_of_lt_of_le (hF b hb) h.size) (Holds.tab.keep (fun b hb => h.block b (hF b hb)) (fun _ h => h) ht) (Holds.world.keep (fun b hb => h.block b (hF b hb)) (fun _ h => h) hx) hn h128)
  obtain ⟨R, hR⟩ : ∃ r, x.vis = r := ⟨_, rfl⟩
  rw [hR]
  have HQ0 : Hid ((if x.lit then (x.reach (x.top 1)).filter (fun c => decide (c ≠ 1)) else x.reach 1) = R) := hR
  clear hR
  generalize x.reach (x.top 1) = l at HRE0 HQ0 HI0 hll
  generalize x.top 1 = c0 at HRE0 HHE0
  generalize x.reach 1 = l1 at HCA0 HQ0
  generalize x.lit = b at HLI0 HQ0
  obtain ⟨i0, i1, i2, i3, i5, v4, v6, v7, v8, v9, v10, v11, v12, v13, v14, rfl, g4, g6, g7, g8, g9, g10, g11, g12, g13, g14⟩ := ht
  obtain ⟨ad4, ca4, rfl⟩ := g4.shape
  obtain ⟨ad6, ca6, rfl⟩ := g6.shape
  obtain ⟨ad7, ca7, rfl⟩ := g7.shape
  obtain ⟨ad8, ca8, rfl⟩ := g8.shape
  obtain ⟨ad9, ca9, rfl⟩ := g9.shape
  obtain ⟨ad10, ca10, rfl⟩ := g10.shape
  obtain ⟨ad11, ca11, rfl⟩ := g11.shape
  obtain ⟨ad12, ca12, rfl⟩ := g12.shape
  obtain ⟨ad13, ca13, rfl⟩ := g13.shape
  obtain ⟨ad14, ca14, rfl⟩ := g14.shape
  have ln4 := g4.len
  have ln6 := g6.len
  have ln7 := g7.len
  have ln8 := g8.len
  have ln9 := g9.len
  have ln10 := g10.len
  have ln11 := g11.len
  have ln12 := g12.len
  have ln13 := g13.len
  have ln14 := g14.len
  unfold maxLen at ln4 ln6 ln7 ln8 ln9 ln10 ln11 ln12 ln13 ln14
  obtain ⟨-, -, -, -, -, -, wv0, wv1, wv2, wv3, wv4, wv5, wv6, rfl, wg0, wg1, wg2, wg3, wg4, wg5, wg6⟩ := hx
  obtain ⟨wa0, wc0, rfl⟩ := wg0.shape
  have wl0 := wg0.len
  obtain ⟨wa1, wc1, rfl⟩ := wg1.shape
  have wl1 := wg1.len
  obtain ⟨wa2, wc2, rfl⟩ := wg2.shape
  have wl2 := wg2.len
  obtain ⟨wa3, wc3, rfl⟩ := wg3.shape
  have wl3 := wg3.len
  obtain ⟨wa4, wc4, rfl⟩ := wg4.shape
  have wl4 := wg4.len
  obtain ⟨wa5, wc5, rfl⟩ := wg5.shape
  have wl5 := wg5.len
  obtain ⟨wa6, wc6, rfl⟩ := wg6.shape
  have wl6 := wg6.len
  unfold maxLen at wl0 wl1 wl2 wl3 wl4 wl5 wl6
  clear g4 g6 g7 g8 g9 g10 g11 g12 g13 g14 wg0 wg1 wg2 wg3 wg4 wg5 wg6
  clear i0 i1 i2 i3 i5
  obtain ⟨W1, hW1⟩ : ∃ z, w.alloc (.cells #[.int .i64 t.title, .int .i64 t.byl, .int .i64 t.release, .int .i64 t.most, .slice ad4 t.texts.length ca4, .int .i64 t.flags, .slice ad6 t.props.length ca6, .slice ad7 t.globals.length ca7, .slice ad8 t.things.length ca8, .slice ad9 t.acts.length ca9, .slice ad10 t.deeds.length ca10, .slice ad11 t.funcs.length ca11, .slice ad12 t.daemons.length ca12, .slice ad13 t.params.length ca13, .slice ad14 t.locals.length ca14] 28) = z := ⟨_, rfl⟩
  obtain ⟨W2, hW2⟩ : ∃ z, W1.alloc (.cells #[.slice wa0 x.globals.length wc0, .slice wa1 x.parent.length wc1, .slice wa2 x.child.length wc2, .slice wa3 x.next.length wc3, .slice wa4 x.flags.length wc4, .slice wa5 x.props.length wc5, .slice wa6 x.timers.length wc6, .int .u64 x.seed, .int .i64 x.score, .int .i64 x.turns, .int .i64 x.over, .int .i64 x.it, .int .i64 x.go] 31) = z := ⟨_, rfl⟩
  have hz1 : W1.heap.size = w.heap.size + 1 := by rw [← hW1]; simp
  have hb1 : Below w.heap.size w W1 := by rw [← hW1]; exact (Below.refl _ _).alloc (Nat.le_refl _) _
  have hb2 : Below W1.heap.size W1 W2 := by rw [← hW2]; exact (Below.refl _ _).alloc (Nat.le_refl _) _
  have hx1 : BoxT W1 w.heap.size [.int .i64 t.title, .int .i64 t.byl, .int .i64 t.release, .int .i64 t.most, .slice ad4 t.texts.length ca4, .int .i64 t.flags, .slice ad6 t.props.length ca6, .slice ad7 t.globals.length ca7, .slice ad8 t.things.length ca8, .slice ad9 t.acts.length ca9, .slice ad10 t.deeds.length ca10, .slice ad11 t.funcs.length ca11, .slice ad12 t.daemons.length ca12, .slice ad13 t.params.length ca13, .slice ad14 t.locals.length ca14] 28 := by rw [← hW1]; exact BoxT.new _ _ _
  have hx2 : BoxT W2 (w.heap.size + 1) [.slice wa0 x.globals.length wc0, .slice wa1 x.parent.length wc1, .slice wa2 x.child.length wc2, .slice wa3 x.next.length wc3, .slice wa4 x.flags.length wc4, .slice wa5 x.props.length wc5, .slice wa6 x.timers.length wc6, .int .u64 x.seed, .int .i64 x.score, .int .i64 x.turns, .int .i64 x.over, .int .i64 x.it, .int .i64 x.go] 31 := by rw [← hz1, ← hW2]; exact BoxT.new _ _ _
  have HXt := Lib.hid (hx1.below hb2); have HXv := Lib.hid hx2; have HBv := Lib.hid (btK hb1 hb2)
  have HW1 := Lib.hid hW1; have HW2 := Lib.hid hW2
  have hs2 : W2.heap.size = W1.heap.size + 1 := by rw [← hW2]; simp
  rw [hz1] at hs2
  have HS2 := Lib.hid hs2
  clear hs2
  clear hW1 hW2 hz1 hb1 hb2 hx1 hx2
  go_enter Tryz.func13, Tryz.ntmps13
  go_upto_region 1 with fail
  rw [HW1.out, HW2.out]
  obtain ⟨TV, hTV⟩ : ∃ v, Value.agg #[.int .i64 t.title, .int .i64 t.byl, .int .i64 t.release, .int .i64 t.most, .slice ad4 t.texts.length ca4, .int .i64 t.flags, .slice ad6 t.props.length ca6, .slice ad7 t.globals.length ca7, .slice ad8 t.things.length ca8, .slice ad9 t.acts.length ca9, .slice ad10 t.deeds.length ca10, .slice ad11 t.funcs.length ca11, .slice ad12 t.daemons.length ca12, .slice ad13 t.params.length ca13, .slice ad14 t.locals.length ca14] = v := ⟨_, rfl⟩
  obtain ⟨WV, hWV⟩ : ∃ v, Value.agg #[.slice wa0 x.globals.length wc0, .slice wa1 x.parent.length wc1, .slice wa2 x.child.length wc2, .slice wa3 x.next.length wc3, .slice wa4 x.flags.length wc4, .slice wa5 x.props.length wc5, .slice wa6 x.timers.length wc6, .int .u64 x.seed, .int .i64 x.score, .int .i64 x.turns, .int .i64 x.over, .int .i64 x.it, .int .i64 x.go] = v := ⟨_, rfl⟩
  have HLT : Hid (∀ W, BoxT W w.heap.size [.int .i64 t.title, .int .i64 t.byl, .int .i64 t.release, .int .i64 t.most, .slice ad4 t.texts.length ca4, .int .i64 t.flags, .slice ad6 t.props.length ca6, .slice ad7 t.globals.length ca7, .slice ad8 t.things.length ca8, .slice ad9 t.acts.length ca9, .slice ad10 t.deeds.length ca10, .slice ad11 t.funcs.length ca11, .slice ad12 t.daemons.length ca12, .slice ad13 t.params.length ca13, .slice ad14 t.locals.length ca14] 28 → (Instr.loadAt 28 (.pointer (some ⟨w.heap.size, 0, none⟩))).run Tryz.prog W = .ok TV W) := fun W h => by
    rw [← hTV]
    exact run_loadAt_mid W _ 0 28 _ _ h.range Tryz.underlying28 rfl (by kernel_rfl)
  have HLW : Hid (∀ W, BoxT W (w.heap.size + 1) [.slice wa0 x.globals.length wc0, .slice wa1 x.parent.length wc1, .slice wa2 x.child.length wc2, .slice wa3 x.next.length wc3, .slice wa4 x.flags.length wc4, .slice wa5 x.props.length wc5, .slice wa6 x.timers.length wc6, .int .u64 x.seed, .int .i64 x.score, .int .i64 x.turns, .int .i64 x.over, .int .i64 x.it, .int .i64 x.go] 31 → (Instr.loadAt 31 (.pointer (some ⟨w.heap.size + 1, 0, none⟩))).run Tryz.prog W = .ok WV W) := fun W h => by
    rw [← hWV]
    exact run_loadAt_mid W _ 0 31 _ _ h.range Tryz.underlying31 rfl (by kernel_rfl)
  rw [hTV, hWV]
  clear HW1 HW2
  have HRE := Lib.hid HRE0.out; have HHE := Lib.hid HHE0.out; have HCA := Lib.hid HCA0.out; have HLI := Lib.hid HLI0.out
  rw [hWV] at HRE HHE HCA HLI
  rw [hTV] at HCA HLI
  clear hTV hWV HRE0 HHE0 HCA0 HLI0
  have ARMLI := HLI
  cases b
  · have HF : Hid (l1 = R) := by show _ = _; have h9 := HQ0.out; simpa using h9
    go_wp2_with (first | ((with_reducible refine wpList_load_T 28 (.tmp 2) ?hw9 ⟨w.heap.size, 0, none⟩ ?hx9 TV (HLT.out _ HXt.out) ?_); (case hw9 => rfl); (case hx9 => first | rfl | (exact rfl))) | ((with_reducible refine wpList_load_T 31 (.tmp 3) ?hw9 ⟨w.heap.size + 1, 0, none⟩ ?hx9 WV (HLW.out _ HXv.out) ?_); (case hw9 => rfl); (case hx9 => first | rfl | (exact rfl))) | (go_at_call 14; (with_reducible refine (HLI.out _ HBv.out).mono ?_); rintro e w1 ⟨rfl, hb1⟩; have HXv := Lib.hid (HXv.out.below hb1); have HXt := Lib.hid (HXt.out.below hb1); have HBv := Lib.hid (btK HBv.out hb1)) | (go_at_call 15; (with_reducible refine (HCA.out _ HBv.out).mono ?_); rintro e w2 ⟨v, rfl, hown, hb2⟩))
    go_ret
    exact ⟨_, rfl, by rw [← HF.out]; exact hown.lower (Nat.succ_le_succ HBv.out.size), btK HBv.out hb2⟩
  have HF : Hid (l.filter (fun c => decide (c ≠ 1)) = R) := by have h9 := HQ0.out; rw [if_pos rfl] at h9; exact h9
  go_upto_region 4 with (first | ((with_reducible refine wpList_load_T 28 (.tmp 2) ?hw9 ⟨w.heap.size, 0, none⟩ ?hx9 TV (HLT.out _ HXt.out) ?_); (case hw9 => rfl); (case hx9 => first | rfl | (exact rfl))) | ((with_reducible refine wpList_load_T 31 (.tmp 3) ?hw9 ⟨w.heap.size + 1, 0, none⟩ ?hx9 WV (HLW.out _ HXv.out) ?_); (case hw9 => rfl); (case hx9 => first | rfl | (exact rfl))) | (go_at_call 14; (with_reducible refine (HLI.out _ HBv.out).mono ?_); rintro e w1 ⟨rfl, hb1⟩; have HXv := Lib.hid (HXv.out.below hb1); have HXt := Lib.hid (HXt.out.below hb1); have HBv := Lib.hid (btK HBv.out hb1)))
  have HB1 := Lib.hid (Below.refl w1.heap.size w1)
  clear hb1
  go_cut [6] (fun v wc => OwnI (w.heap.size + 1) wc l v ∧ Below w.heap.size w wc ∧ w.heap.size + 1 ≤ wc.heap.size)
  case first =>
    refine wp_region_held_drew (S := fun W => Below w1.heap.size w1 W) (by kernel_rfl) (Below.refl _ _).drew (fun hHeld => ?_)
    have h0 : Below w1.heap.size w1 w1.drew := (Below.refl _ _).drew
    refine wpAnyH_take (i := 0) (v := WV) rfl (by kernel_rfl) (by kernel_rfl) (by kernel_rfl) (fun _ _ _ h => h) (Or.inl ⟨by rfl, ?_⟩) (by assumption) ?_
    · intro W hW
      exact load_run 31 (.tmp 3) rfl ⟨w.heap.size + 1, 0, none⟩ rfl WV W (HLW.out _ (HXv.out.below hW))
    simp only [Act.put]
    refine wpAnyH_take (i := 1) (v := WV) rfl (by kernel_rfl) (by kernel_rfl) (by kernel_rfl) (fun _ _ _ h => h) (Or.inl ⟨by rfl, ?_⟩) (by assumption) ?_
    · intro W hW
      exact load_run 31 (.tmp 3) rfl ⟨w.heap.size + 1, 0, none⟩ rfl WV W (HLW.out _ (HXv.out.below hW))
    simp only [Act.put]
    refine wpAnyH_take (i := 3) (v := .pointer (some ⟨w.heap.size + 1, 1, none⟩)) rfl (by kernel_rfl) (by kernel_rfl) (by kernel_rfl) (fun _ _ _ h => h) (Or.inl ⟨by rfl, ?_⟩) (by assumption) ?_
    · intro W hW
      go_simp
    simp only [Act.put]
    refine wpAnyH_take (i := 4) (v := .slice wa1 x.parent.length wc1) rfl (by kernel_rfl) (by kernel_rfl) (by kernel_rfl) (fun _ _ _ h => h) (Or.inl ⟨by rfl, ?_⟩) (by assumption) ?_
    · intro W hW
      have c1 := (HXv.out.below hW).cell 1
      simp only [List.getElem?_cons_succ, List.getElem?_cons_zero] at c1
      go_simp
    simp only [Act.put]
    refine wpAnyH_take (i := 5) (v := .int .i64 x.parent.length) rfl (by kernel_rfl) (by kernel_rfl) (by kernel_rfl) (fun _ _ _ h => h) (Or.inl ⟨by rfl, ?_⟩) (by assumption) ?_
    · intro W hW
      go_simp
    simp only [Act.put]
    refine wpAnyH_ready (rs := [2]) (by kernel_rfl) (by simp) ?_
    refine AllReadyH.cons rfl (fun K hK => ?_) (AllReadyH.nil)
    · go_simp
      refine (HHE.out _ (btK HBv.out h0)).mono ?_
      rintro e v1 ⟨rfl, hbv1⟩
      have Hv1 := btK h0 hbv1
      refine hK.out _ _ Hv1 (fun hHeld => ?_)
      clear hK K
      refine wpAnyH_ready (rs := [6]) (by kernel_rfl) (by simp) ?_
      refine AllReadyH.cons rfl (fun K hK => ?_) (AllReadyH.nil)
      · go_simp
        refine (HRE.out _ (btK HBv.out Hv1)).mono ?_
        rintro e v2 ⟨v, rfl, hown, hbv2⟩
        have Hv2 := btK Hv1 hbv2
        have hvw9 := Hv1
        refine hK.out _ _ Hv2 (fun hHeld => ?_)
        clear hK K
        refine wpAnyH_take (i := 7) (v := v) rfl (by kernel_rfl) (by kernel_rfl) (by kernel_rfl) (fun _ _ _ h => h) (Or.inl ⟨by rfl, ?_⟩) (by assumption) ?_
        · intro W hW
          go_simp
        simp only [Act.put]
        refine wpAnyH_done (by kernel_rfl) ?_ _
        go_simp
        go_wp2_with fail
        go_meet
        have hz1 := HXv.out.lt
        have hz2 := Hv2.size
        have hz3 := hvw9.size
        exact ⟨hown.lower (by omega), btK HBv.out Hv2, by omega⟩
  case rest =>
    obtain ⟨hown, hb, hlo⟩ := hcut
    have hrd := hown.rdl
    clear hown
    obtain ⟨va, vc, rfl⟩ := hrd.shape
    obtain ⟨ya, yc, he, -, -, hel⟩ := RdInts.elem hrd (newB_inn _ wc)
    cases he
    have HEL := Lib.hid hel
    have HBW := Lib.hid hb
    have HLO := Lib.hid hlo
    clear hrd hel hb hlo
    have HQ1 : Hid ([] ++ (l.drop 0).filter (fun c => decide (c ≠ 1)) = R) := by show _ = _; rw [← HF.out]; simp
    go_wp2
    go_loopw [5, 7] (fun u i wr => ∃ (k : Nat) (acc : List Int), k ≤ l.length ∧ i = .int .i64 k ∧ acc.length ≤ k ∧ Hid (acc ++ (l.drop k).filter (fun c => decide (c ≠ 1)) = R) ∧ Hid (OwnI wc.heap.size wr acc u) ∧ Below wc.heap.size wc wr) (fun _ i _ => l.length - (intOf i).toNat)
    case atStart => exact ⟨0, [], Nat.zero_le _, rfl, Nat.zero_le _, HQ1.out, OwnR.nil _ _ _ _ _, Below.refl _ _⟩
    case round =>
      obtain ⟨k, acc, hk, rfl, hac, HQ, HO, hB⟩ := hrel
      have HBL := Lib.hid hB
      clear hB
      by_cases hlt : k < l.length
      rotate_left
      · have h1 : ¬ (k : Int) < (l.length : Int) := by omega
        have HF2 : Hid (acc = R) := by
          have h9 := HQ.out
          rwa [List.drop_eq_nil_of_le (by omega), List.filter_nil, List.append_nil] at h9
        go_wp2
        go_ret
        exact ⟨_, rfl, by rw [← HF2.out]; exact HO.out.lower HLO.out, btK HBW.out HBL.out⟩
      have h1 : (k : Int) < (l.length : Int) := by omega
      have h2 : (0 : Int) ≤ (k : Int) := by omega
      obtain ⟨vb, voff, rfl, hel4⟩ := HEL.out (by omega)
      have p4 := hel4 _ HBL.out k hlt
      have hq2 := HQ.out
      have hiq := HI0.out k hlt
      rw [List.drop_eq_getElem_cons hlt, List.filter_cons] at hq2
      generalize l[k] = q at p4 hq2 hiq
      have HIQ := Lib.hid hiq
      by_cases hq1 : q = 1
      · subst hq1
        have HQ2 : Hid (acc ++ (l.drop (k + 1)).filter (fun c => decide (c ≠ 1)) = R) := by show _ = _; simpa using hq2
        clear hel4 hq2 hiq
        go_wp2
        go_roundw
        case rel => exact ⟨k + 1, acc, by omega, by go_num, by omega, HQ2.out, HO.out, HBL.out⟩
        case measure => simp [intOf]; omega
      · have HQ2 : Hid ((acc ++ [q]) ++ (l.drop (k + 1)).filter (fun c => decide (c ≠ 1)) = R) := by show _ = _; simpa [hq1] using hq2
        have b1 : (q == 1) = false := by simpa using hq1
        have b2 : (q != 1) = true := by simpa using hq1
        clear hel4 hq2 hiq
        go_wp2_with (first | (at_builtin; refine wpList_app rfl (.tmp 33) (.tmp 38) 23 rfl _ _ (fun v' w' => OwnI wc.heap.size w' (acc ++ [q]) v' ∧ Below wc.heap.size wr w') rfl rfl (ints_push HO.out HIQ.out HBL.out.size (by omega) _ _) ?_; rintro v4 w4 ⟨ho4, hb4⟩))
        go_roundw
        case rel => exact ⟨k + 1, acc ++ [q], by omega, by go_num, by simp; omega, HQ2.out, ho4, HBL.out.trans hb4⟩
        case measure => simp [intOf]; omega
end Go.Proofs.YtapjglpiofpbmaaGreat
/- clewref50's Less, Has and row; commands behind commands. Printed by gen-ac15.py. -/
namespace Go.Proofs.YtapjglpiofpbmaaGreat
open Go.RowKit Go.Sort

/-- Commands in memory of the call's own. -/
abbrev OwnC (lo : Nat) (w : World) (l : List CmdD) (v : Value) : Prop := OwnR Holds.cmd 38 5 lo w l v
abbrev RdCmds (F : Nat → Prop) (w : World) (l : List CmdD) (v : Value) : Prop := RdL Holds.cmd 5 F w l v
/-- A command whose numbers are 64-bit ones. -/
def CmdD.Fit (c : CmdD) : Prop := I64 c.verb ∧ I64 c.noun ∧ I64 c.second ∧ I64 c.number ∧ I64 c.dir
/-- A call that hands back numbers, commands in new memory. -/
def GivesI (l : List Int) (w : World) (e : Ending) (w' : World) : Prop := ∃ v, e = .returned v ∧ OwnI w.heap.size w' l v ∧ Below w.heap.size w w'
def GivesC (l : List CmdD) (w : World) (e : Ending) (w' : World) : Prop := ∃ v, e = .returned v ∧ OwnC w.heap.size w' l v ∧ Below w.heap.size w w'
theorem own_lit0 (W : World) : OwnI W.heap.size (W.alloc (.cells #[.int .i64 0] 3)) [0] (.slice (some ⟨W.heap.size, 0, none⟩) 1 1) := by
  refine ⟨[.int .i64 0], fun _ => False, ⟨rfl, .inr ⟨W.heap.size, 1, #[.int .i64 0], rfl, Nat.le_refl _, Array.getElem?_push_size, Nat.le_refl _, by decide, rfl, rfl⟩⟩, fun b h => h.elim, fun i hi => ?_⟩
  have : i = 0 := by simpa using hi
  subst this
  exact ⟨(by unfold I64; decide : I64 0), rfl⟩
theorem Tryz.infoCmd : (Tryz.prog.info? 38).map (fun i => (i.zero, i.size, i.bytes)) = some (some (.agg #[.int .i64 0, .int .i64 0, .int .i64 0, .int .i64 0, .int .i64 0]), 5, 40) := by kernel_rfl
theorem cell_new5 (W : World) (a b c d e : Value) (T : TypeId) : ∀ j u, [a, b, c, d, e][j]? = some u → (W.alloc (.cells #[a, b, c, d, e] T)).cell? ((⟨W.heap.size, 0, none⟩ : Addr).add j) = some u := by
  intro j u hj
  have h := (BoxT.new W [a, b, c, d, e] T).cell j
  rw [show (⟨W.heap.size, 0, none⟩ : Addr).add j = ⟨W.heap.size, j, none⟩ by unfold Addr.add; split <;> simp_all]
  exact h.trans hj
/-- One command behind commands: the run of append. -/
theorem cmds_push {lo : Nat} {W : World} {acc : List CmdD} {u : Value} {c : CmdD} (ho : OwnC lo W acc u) (hc : c.Fit) (hlo : lo ≤ W.heap.size) (hl : acc.length ≤ 3000000000) (T ty : TypeId) :
    ∃ v' w', (Builtin.append_ #[35, 35] ty #[u, .slice (some ⟨W.heap.size, 0, none⟩) 1 1]).run Tryz.prog (W.alloc (.cells #[.int .i64 c.verb, .int .i64 c.noun, .int .i64 c.second, .int .i64 c.number, .int .i64 c.dir] T)) = .ok v' w' ∧ OwnC lo w' (acc ++ [c]) v' ∧ Below lo W w' := by
  obtain ⟨i0, hi, hz0, hz1, hz2⟩ := info_parts Tryz.infoCmd
  obtain ⟨ys, hys⟩ := ho.owns
  have hin := ownsRow_in hys
  have hal : Below W.heap.size W (W.alloc (.cells #[.int .i64 c.verb, .int .i64 c.noun, .int .i64 c.second, .int .i64 c.number, .int .i64 c.dir] T)) := (Below.refl _ W).alloc (Nat.le_refl _) _
  obtain ⟨v', w', h1, h2, h3, -, h4⟩ := run_append_own_at (P := Tryz.prog) (W.alloc (.cells #[.int .i64 c.verb, .int .i64 c.noun, .int .i64 c.second, .int .i64 c.number, .int .i64 c.dir] T)) lo 35 ty 38 i0 _ 5 40 Tryz.underlying35 hi hz0 hz1 hz2 rfl (by decide) u _ ys (hys.alloc _) ⟨W.heap.size, 0, none⟩ 1 1 [.int .i64 c.verb, .int .i64 c.noun, .int .i64 c.second, .int .i64 c.number, .int .i64 c.dir] rfl (cell_new5 W _ _ _ _ _ _) (by simp [Value.oneCell']) (by unfold maxLen; omega) (by omega) (by simp; omega)
  refine ⟨v', w', h1, ?_, (hal.mono hlo).grown h3 (by simp; omega) (fun k e => (hin k e).1)⟩
  exact OwnR.push (cs := [.int .i64 c.verb, .int .i64 c.noun, .int .i64 c.second, .int .i64 c.number, .int .i64 c.dir]) (G2 := fun _ => False) (ho.below hal) (hys.alloc _) h2 rfl h3 h4 (fun _ h => h.elim) ⟨hc.1, hc.2.1, hc.2.2.1, hc.2.2.2.1, hc.2.2.2.2, rfl⟩
set_option maxRecDepth 100000 in
set_option maxHeartbeats 2000000 in
theorem less50_calls (a b : CmdD) (w : World) : Calls Tryz.prog 58 #[a.val, b.val] w (Gives w (.bool (decide (a.lt b)))) := by
  obtain ⟨R, hR⟩ : ∃ r, decide (a.lt b) = r := ⟨_, rfl⟩
  rw [hR]
  have HR := Lib.hid hR
  clear hR
  unfold CmdD.val
  obtain ⟨W1, hW1⟩ : ∃ z, w.alloc (.cells #[.int .i64 a.verb, .int .i64 a.noun, .int .i64 a.second, .int .i64 a.number, .int .i64 a.dir] 38) = z := ⟨_, rfl⟩
  obtain ⟨W2, hW2⟩ : ∃ z, W1.alloc (.cells #[.int .i64 b.verb, .int .i64 b.noun, .int .i64 b.second, .int .i64 b.number, .int .i64 b.dir] 38) = z := ⟨_, rfl⟩
  have hz1 : W1.heap.size = w.heap.size + 1 := by rw [← hW1]; simp
  have hb1 : Below w.heap.size w W1 := by rw [← hW1]; exact (Below.refl _ _).alloc (Nat.le_refl _) _
  have hb2 : Below W1.heap.size W1 W2 := by rw [← hW2]; exact (Below.refl _ _).alloc (Nat.le_refl _) _
  have hx1 : BoxT W1 w.heap.size [.int .i64 a.verb, .int .i64 a.noun, .int .i64 a.second, .int .i64 a.number, .int .i64 a.dir] 38 := by rw [← hW1]; exact BoxT.new _ _ _
  have hx2 : BoxT W2 (w.heap.size + 1) [.int .i64 b.verb, .int .i64 b.noun, .int .i64 b.second, .int .i64 b.number, .int .i64 b.dir] 38 := by rw [← hz1, ← hW2]; exact BoxT.new _ _ _
  have HB := Lib.hid (btK hb1 hb2)
  have hx1 := hx1.below hb2
  have y0 := hx1.cell 0
  have z0 := hx2.cell 0
  have y1 := hx1.cell 1
  have z1 := hx2.cell 1
  have y2 := hx1.cell 2
  have z2 := hx2.cell 2
  have y3 := hx1.cell 3
  have z3 := hx2.cell 3
  have y4 := hx1.cell 4
  have z4 := hx2.cell 4
  simp only [List.getElem?_cons_succ, List.getElem?_cons_zero] at y0 z0 y1 z1 y2 z2 y3 z3 y4 z4
  have HW1 := Lib.hid hW1; have HW2 := Lib.hid hW2
  clear hW1 hW2 hz1 hb1 hb2 hx1 hx2
  go_enter Tryz.func58, Tryz.ntmps58
  go_upto_region 1 with fail
  rw [HW1.out, HW2.out]
  clear HW1 HW2
  by_cases h0 : a.verb = b.verb
  rotate_left
  · have e1 : (a.verb == b.verb) = false := by simpa using h0
    have e2 : (a.verb != b.verb) = true := by simpa using h0
    have HF : Hid (R = decide (a.verb < b.verb)) := by
      show _ = _
      rw [← HR.out]
      exact decide_eq_decide.2 (by unfold CmdD.lt; omega)
    clear h0 
    go_wp2
    go_ret
    exact ⟨ret_bool HF.out.symm, HB.out⟩
  have e0 : (a.verb == b.verb) = true := by simpa using h0
  have f0 : (a.verb != b.verb) = false := by simpa using h0
  by_cases h1 : a.noun = b.noun
  rotate_left
  · have e1 : (a.noun == b.noun) = false := by simpa using h1
    have e2 : (a.noun != b.noun) = true := by simpa using h1
    have HF : Hid (R = decide (a.noun < b.noun)) := by
      show _ = _
      rw [← HR.out]
      exact decide_eq_decide.2 (by unfold CmdD.lt; omega)
    clear h1 h0
    go_wp2
    go_ret
    exact ⟨ret_bool HF.out.symm, HB.out⟩
  have e1 : (a.noun == b.noun) = true := by simpa using h1
  have f1 : (a.noun != b.noun) = false := by simpa using h1
  by_cases h2 : a.second = b.second
  rotate_left
  · have e1 : (a.second == b.second) = false := by simpa using h2
    have e2 : (a.second != b.second) = true := by simpa using h2
    have HF : Hid (R = decide (a.second < b.second)) := by
      show _ = _
      rw [← HR.out]
      exact decide_eq_decide.2 (by unfold CmdD.lt; omega)
    clear h2 h0 h1
    go_wp2
    go_ret
    exact ⟨ret_bool HF.out.symm, HB.out⟩
  have e2 : (a.second == b.second) = true := by simpa using h2
  have f2 : (a.second != b.second) = false := by simpa using h2
  by_cases h3 : a.number = b.number
  rotate_left
  · have e1 : (a.number == b.number) = false := by simpa using h3
    have e2 : (a.number != b.number) = true := by simpa using h3
    have HF : Hid (R = decide (a.number < b.number)) := by
      show _ = _
      rw [← HR.out]
      exact decide_eq_decide.2 (by unfold CmdD.lt; omega)
    clear h3 h0 h1 h2
    go_wp2
    go_ret
    exact ⟨ret_bool HF.out.symm, HB.out⟩
  have e3 : (a.number == b.number) = true := by simpa using h3
  have f3 : (a.number != b.number) = false := by simpa using h3
  have HF : Hid (R = decide (a.dir < b.dir)) := by
    show _ = _
    rw [← HR.out]
    exact decide_eq_decide.2 (by unfold CmdD.lt; omega)
  clear h0 h1 h2 h3
  go_wp2
  go_ret
  exact ⟨ret_bool HF.out.symm, HB.out⟩
theorem hasN_zero (a b : Int) : hasN [] a b = 0 := rfl
theorem hasN_le (l : List SlotD) (a b : Int) : hasN l a b ≤ l.length := List.length_filter_le _ _
set_option maxRecDepth 100000 in
set_option maxHeartbeats 2000000 in
theorem has50_calls (F : Nat → Prop) (w : World) (l : List SlotD) (v : Value) (hF : Inn F w) (hl : RdL Holds.slot 2 F w l v) (a b : Int) : Calls Tryz.prog 41 #[v, .int .i64 a, .int .i64 b] w (Gives w (.int .i64 (hasN l a b : Nat))) := by
  obtain ⟨ad, cap, rfl, -, hc, ha⟩ := hl.elem hF
  have hlm := hl.len
  unfold maxLen at hlm
  have HA := Lib.hid ha
  have HC := Lib.hid (fun k (h : k < l.length) => (by rw [List.take_add_one, List.getElem?_eq_getElem h, Option.toList_some, hasN_snoc] : hasN (l.take (k + 1)) a b = hasN (l.take k) a b + if l[k].kind = a ∨ l[k].kind = b then 1 else 0))
  clear ha hl
  go_enter Tryz.func41, Tryz.ntmps41
  go_wp2
  go_loopw [7, 8] (fun c i wr => ∃ (k m : Nat), k ≤ l.length ∧ i = .int .i64 k ∧ c = .int .i64 m ∧ m ≤ k ∧ Hid (m = hasN (l.take k) a b) ∧ w = wr) (fun _ i _ => l.length - (intOf i).toNat)
  case atStart => exact ⟨0, 0, Nat.zero_le _, rfl, rfl, Nat.le_refl _, rfl, rfl⟩
  case round =>
    obtain ⟨k, m, hk, rfl, rfl, hm, HM, rfl⟩ := hrel
    by_cases hlt : k < l.length
    · have h1 : (k : Int) < (l.length : Int) := by omega
      have h2 : (0 : Int) ≤ (k : Int) := by omega
      obtain ⟨b0, off, rfl, hel⟩ := HA.out (by omega)
      obtain ⟨xs, -, ⟨-, sv, rfl, -⟩, hr⟩ := hel k hlt
      have p0 := hr w (Below.refl _ _) 0 _ rfl
      simp only [Nat.add_zero] at p0
      have hc1 := HC.out k hlt
      rw [← HM.out] at hc1
      have m1 : (m : Int) ≤ 9223372036854775806 := by omega
      have m0 : (0 : Int) ≤ (m : Int) := by omega
      generalize l[k].kind = q at p0 hc1
      clear hel hr
      by_cases e : q = a
      · rw [if_pos (Or.inl e)] at hc1
        have HC1 := Lib.hid hc1
        have e1 : (q == a) = true := by simpa using e
        clear hc1 e
        go_wp2
        go_roundw
        case rel => exact ⟨k + 1, m + 1, by omega, by go_num, by go_num, by omega, HC1.out.symm, by first | rfl | trivial⟩
        case measure => simp [intOf]; omega
      · have e1 : (q == a) = false := by simpa using e
        have e2 : decide (q = a) = false := by simpa using e
        by_cases e' : q = b
        · rw [if_pos (Or.inr e')] at hc1
          have HC1 := Lib.hid hc1
          have e3 : (q == b) = true := by simpa using e'
          clear hc1 e e'
          go_wp2
          go_roundw
          case rel => exact ⟨k + 1, m + 1, by omega, by go_num, by go_num, by omega, HC1.out.symm, by first | rfl | trivial⟩
          case measure => simp [intOf]; omega
        · rw [if_neg (by simp [e, e']), Nat.add_zero] at hc1
          have HC1 := Lib.hid hc1
          have e3 : (q == b) = false := by simpa using e'
          have e4 : decide (q = b) = false := by simpa using e'
          clear hc1 e e'
          go_wp2
          go_roundw
          case rel => exact ⟨k + 1, m, by omega, by go_num, rfl, by omega, HC1.out.symm, by first | rfl | trivial⟩
          case measure => simp [intOf]; omega
    · have h1 : ¬ (k : Int) < (l.length : Int) := by omega
      have hm2 : Hid (m = hasN l a b) := by
        show m = _
        rw [HM.out, List.take_of_length_le (by omega)]
      clear HM
      go_wp2
      go_ret
      exact ⟨congrArg (fun q : Nat => Ending.returned (.int .i64 (q : Int))) hm2.out, Below.refl _ _⟩
set_option maxRecDepth 100000 in
set_option maxHeartbeats 2000000 in
theorem row50_calls (w : World) (b : Bool) (lo hi : Int) (k : Nat) (h0 : 0 ≤ lo) (h1 : hi + 1 = lo + k) (h2 : hi ≤ 1000) : Calls Tryz.prog 57 #[.bool b, .int .i64 lo, .int .i64 hi] w (GivesI (rowI b lo k) w) := by
  cases b
  · go_enter Tryz.func57, Tryz.ntmps57
    go_wp2
    go_ret
    exact ⟨_, rfl, own_lit0 w, (Below.refl _ _).alloc (Nat.le_refl _) _⟩
  · have HQ0 : Hid ((List.range k).map (fun i : Nat => lo + (i : Int)) = rowI true lo k) := rfl
    generalize rowI true lo k = R at HQ0
    have hk1000 : k ≤ 1001 := by omega
    go_enter Tryz.func57, Tryz.ntmps57
    go_wp2
    go_loopw [7, 8] (fun u i wr => ∃ (j : Nat) (n : Int), j ≤ k ∧ i = .int .i64 n ∧ n = lo + j ∧ Hid (OwnI w.heap.size wr ((List.range j).map (fun i : Nat => lo + (i : Int))) u) ∧ Below w.heap.size w wr) (fun _ i _ => (hi + 1 - intOf i).toNat)
    case atStart => exact ⟨0, lo, Nat.zero_le _, rfl, by simp, OwnR.nil _ _ _ _ _, Below.refl _ _⟩
    case round =>
      obtain ⟨j, n, hj, rfl, hn, HO, hB⟩ := hrel
      have HBL := Lib.hid hB
      clear hB
      by_cases hlt : j < k
      · have e1 : n ≤ hi := by omega
        have HI : Hid (I64 n) := by show I64 n; unfold I64; omega
        have HNX : Hid ((List.range j).map (fun i : Nat => lo + (i : Int)) ++ [n] = (List.range (j + 1)).map (fun i : Nat => lo + (i : Int))) := by
          show _ = _
          rw [List.range_succ, List.map_append, hn]
          rfl
        have HLN : Hid (((List.range j).map (fun i : Nat => lo + (i : Int))).length ≤ 1000000) := by show _ ≤ _; simp; omega
        generalize (List.range j).map (fun i : Nat => lo + (i : Int)) = acc at HO HNX HLN
        have HN := Lib.hid hn
        have n0 : 0 ≤ n := by omega
        clear hn
        go_wp2_with (first | (at_builtin; refine wpList_app rfl (.tmp 18) (.tmp 20) 23 rfl _ _ (fun v' w' => OwnI w.heap.size w' (acc ++ [n]) v' ∧ Below w.heap.size wr w') rfl rfl (ints_push HO.out HI.out HBL.out.size HLN.out _ _) ?_; rintro v4 w4 ⟨ho4, hb4⟩))
        go_roundw
        case rel => exact ⟨j + 1, n + 1, by omega, by go_num, by have := HN.out; omega, by rw [← HNX.out]; exact ho4, HBL.out.trans hb4⟩
        case measure => simp [intOf]; omega
      · have e1 : ¬ n ≤ hi := by omega
        have HF : Hid ((List.range j).map (fun i : Nat => lo + (i : Int)) = R) := by
          show _ = _
          rw [show j = k by omega]
          exact HQ0.out
        go_wp2
        go_ret
        exact ⟨_, rfl, by rw [← HF.out]; exact HO.out, HBL.out⟩
end Go.Proofs.YtapjglpiofpbmaaGreat
