/- acts.Is; clewlaw50.may. Printed by gen-ac36.py. -/
import Derived.Test.YtapjglpiofpbmaaPart8607f62d
import Derived.Test.YtapjglpiofpbmaaPartbbaf3aaf
namespace Go.Proofs.Ytapjglpiofpbmaa
open Go.RowKit Go.Sort

set_option maxRecDepth 100000 in
set_option maxHeartbeats 4000000 in
theorem isP_calls (F : Nat → Prop) (w : World) (t : TabD) (x : WorldD) (cs ds : List Value) (hF : Inn F w) (ht : Holds.tab.R F w t cs) (hx : Holds.world.R F w x ds) (hN : NestK x) (h128 : x.parent.length ≤ 128) (hfl : x.flags.length = x.parent.length) (hf0 : ∀ f ∈ x.flags, 0 ≤ f) (ha : t.acts.length ≤ 64) (ha8 : ∀ a ∈ t.acts, a.lines.length ≤ 8) (c : CmdD) : Calls Try.prog 11 #[.agg cs.toArray, .agg ds.toArray, c.val] w (Gives w (.bool (decide (c ∈ allC t x)))) := by
  have HAL0 := Lib.hid (fun (W : World) (h : Below w.heap.size w W) => allP_calls F W t x cs ds (fun b hb => Nat.lt_of_lt_of_le (hF b hb) h.size) (Holds.tab.keep (fun b hb => h.block b (hF b hb)) (fun _ h => h) ht) (Holds.world.keep (fun b hb => h.block b (hF b hb)) (fun _ h => h) hx) hN h128 hfl hf0 ha ha8)
  generalize allC t x = l at HAL0 ⊢
  obtain ⟨r, hr⟩ : ∃ r, decide (c ∈ l) = r := ⟨_, rfl⟩
  rw [hr]
  obtain ⟨cv, hcv⟩ : ∃ v, c.val = v := ⟨_, rfl⟩
  have HCT0 : Hid (∀ (W : World), Below w.heap.size w W → ∀ (v : Value) (_ : Below W.heap.size W W), ∀ {lo : Nat}, OwnC lo W l v → Calls Try.prog 17 #[v, cv] W (Gives W (.bool r))) := fun W _ v _ lo ho => by
    rw [← hcv, ← hr]
    exact containsC_calls (NewB lo W.heap.size) W l v c (newB_inn lo W) ho.rdl
  have HLD : Hid (∀ W b (a : CmdD), BoxT W b [.int .i64 a.verb, .int .i64 a.noun, .int .i64 a.second, .int .i64 a.number, .int .i64 a.dir] 23 → (Instr.loadAt 23 (.pointer (some ⟨b, 0, none⟩))).run Try.prog W = .ok a.val W) := fun W b a h => run_loadAt_mid W b 0 23 _ _ h.range Try.underlying23 rfl (by kernel_rfl)
  have HCV := Lib.hid hcv
  clear hcv hr hN h128 hfl hf0 ha ha8
  obtain ⟨i0, i1, i2, i3, i5, v4, v6, v7, v8, v9, v10, v11, v12, v13, v14, rfl, g4, g6, g7, g8, g9, g10, g11, g12, g13, g14⟩ := ht
  obtain ⟨ad4, ca4, rfl⟩ := g4.shape
  obtain ⟨ad6, ca6, rfl⟩ := g6.shape
  obtain ⟨ad7, ca7, rfl⟩ := g7.shape
  obtain ⟨ad8, ca8, rfl⟩ := g8.shape
  obtain ⟨ad9, ca9, rfl⟩ := g9.shape
  obtain ⟨ad10, ca10, rfl⟩ := g10.shape
  obtain ⟨ad11, ca11, rfl⟩ := g11.shape
  obtain ⟨ad12, ca12, rfl⟩ := g12.shape
  obtain ⟨ad13, ca13, rfl⟩ := g13.shape
  obtain ⟨ad14, ca14, rfl⟩ := g14.shape
  have ln4 := g4.len
  have ln6 := g6.len
  have ln7 := g7.len
  have ln8 := g8.len
  have ln9 := g9.len
  have ln10 := g10.len
  have ln11 := g11.len
  have ln12 := g12.len
  have ln13 := g13.len
  have ln14 := g14.len
  unfold maxLen at ln4 ln6 ln7 ln8 ln9 ln10 ln11 ln12 ln13 ln14
  obtain ⟨-, -, -, -, -, -, wv0, wv1, wv2, wv3, wv4, wv5, wv6, rfl, wg0, wg1, wg2, wg3, wg4, wg5, wg6⟩ := hx
  obtain ⟨wa0, wc0, rfl⟩ := wg0.shape
  have wl0 := wg0.len
  obtain ⟨wa1, wc1, rfl⟩ := wg1.shape
  have wl1 := wg1.len
  obtain ⟨wa2, wc2, rfl⟩ := wg2.shape
  have wl2 := wg2.len
  obtain ⟨wa3, wc3, rfl⟩ := wg3.shape
  have wl3 := wg3.len
  obtain ⟨wa4, wc4, rfl⟩ := wg4.shape
  have wl4 := wg4.len
  obtain ⟨wa5, wc5, rfl⟩ := wg5.shape
  have wl5 := wg5.len
  obtain ⟨wa6, wc6, rfl⟩ := wg6.shape
  have wl6 := wg6.len
  unfold maxLen at wl0 wl1 wl2 wl3 wl4 wl5 wl6
  clear g4 g6 g7 g8 g9 g10 g11 g12 g13 g14 wg0 wg1 wg2 wg3 wg4 wg5 wg6
  clear i0 i1 i2 i3 i5
  obtain ⟨W1, hW1⟩ : ∃ z, w.alloc (.cells #[.int .i64 t.title, .int .i64 t.byl, .int .i64 t.release, .int .i64 t.most, .slice ad4 t.texts.length ca4, .int .i64 t.flags, .slice ad6 t.props.length ca6, .slice ad7 t.globals.length ca7, .slice ad8 t.things.length ca8, .slice ad9 t.acts.length ca9, .slice ad10 t.deeds.length ca10, .slice ad11 t.funcs.length ca11, .slice ad12 t.daemons.length ca12, .slice ad13 t.params.length ca13, .slice ad14 t.locals.length ca14] 35) = z := ⟨_, rfl⟩
  obtain ⟨W2, hW2⟩ : ∃ z, W1.alloc (.cells #[.slice wa0 x.globals.length wc0, .slice wa1 x.parent.length wc1, .slice wa2 x.child.length wc2, .slice wa3 x.next.length wc3, .slice wa4 x.flags.length wc4, .slice wa5 x.props.length wc5, .slice wa6 x.timers.length wc6, .int .u64 x.seed, .int .i64 x.score, .int .i64 x.turns, .int .i64 x.over, .int .i64 x.it, .int .i64 x.go] 38) = z := ⟨_, rfl⟩
  have hz1 : W1.heap.size = w.heap.size + 1 := by rw [← hW1]; simp
  have hb1 : Below w.heap.size w W1 := by rw [← hW1]; exact (Below.refl _ _).alloc (Nat.le_refl _) _
  have hb2 : Below W1.heap.size W1 W2 := by rw [← hW2]; exact (Below.refl _ _).alloc (Nat.le_refl _) _
  have hx1 : BoxT W1 w.heap.size [.int .i64 t.title, .int .i64 t.byl, .int .i64 t.release, .int .i64 t.most, .slice ad4 t.texts.length ca4, .int .i64 t.flags, .slice ad6 t.props.length ca6, .slice ad7 t.globals.length ca7, .slice ad8 t.things.length ca8, .slice ad9 t.acts.length ca9, .slice ad10 t.deeds.length ca10, .slice ad11 t.funcs.length ca11, .slice ad12 t.daemons.length ca12, .slice ad13 t.params.length ca13, .slice ad14 t.locals.length ca14] 35 := by rw [← hW1]; exact BoxT.new _ _ _
  have hx2 : BoxT W2 (w.heap.size + 1) [.slice wa0 x.globals.length wc0, .slice wa1 x.parent.length wc1, .slice wa2 x.child.length wc2, .slice wa3 x.next.length wc3, .slice wa4 x.flags.length wc4, .slice wa5 x.props.length wc5, .slice wa6 x.timers.length wc6, .int .u64 x.seed, .int .i64 x.score, .int .i64 x.turns, .int .i64 x.over, .int .i64 x.it, .int .i64 x.go] 38 := by rw [← hz1, ← hW2]; exact BoxT.new _ _ _
  have HXt := Lib.hid (hx1.below hb2); have HXv := Lib.hid hx2; have HBv := Lib.hid (btK hb1 hb2)
  have HW1 := Lib.hid hW1; have HW2 := Lib.hid hW2
  have hs2 : W2.heap.size = W1.heap.size + 1 := by rw [← hW2]; simp
  rw [hz1] at hs2
  have HS2 := Lib.hid hs2
  clear hs2
  clear hW1 hW2 hz1 hb1 hb2 hx1 hx2
  obtain ⟨W3, hW3⟩ : ∃ z, W2.alloc (.cells #[.int .i64 c.verb, .int .i64 c.noun, .int .i64 c.second, .int .i64 c.number, .int .i64 c.dir] 23) = z := ⟨_, rfl⟩
  have hb3 : Below W2.heap.size W2 W3 := by rw [← hW3]; exact (Below.refl _ _).alloc (Nat.le_refl _) _
  have hx3 : BoxT W3 (w.heap.size + 1 + 1) [.int .i64 c.verb, .int .i64 c.noun, .int .i64 c.second, .int .i64 c.number, .int .i64 c.dir] 23 := by rw [← HS2.out, ← hW3]; exact BoxT.new _ _ _
  have HXc := Lib.hid hx3; have HW3 := Lib.hid hW3
  have HXt := Lib.hid (HXt.out.below hb3); have HXv := Lib.hid (HXv.out.below hb3); have HBv := Lib.hid (btK HBv.out hb3)
  clear hW3 hb3 hx3
  unfold CmdD.val
  go_enter Try.func11, Try.ntmps11
  go_upto_region 1 with fail
  rw [HW1.out, HW2.out, HW3.out]
  have hcw : Value.agg #[.int .i64 c.verb, .int .i64 c.noun, .int .i64 c.second, .int .i64 c.number, .int .i64 c.dir] = cv := HCV.out
  rw [hcw]
  clear hcw HW3
  obtain ⟨TV, hTV⟩ : ∃ v, Value.agg #[.int .i64 t.title, .int .i64 t.byl, .int .i64 t.release, .int .i64 t.most, .slice ad4 t.texts.length ca4, .int .i64 t.flags, .slice ad6 t.props.length ca6, .slice ad7 t.globals.length ca7, .slice ad8 t.things.length ca8, .slice ad9 t.acts.length ca9, .slice ad10 t.deeds.length ca10, .slice ad11 t.funcs.length ca11, .slice ad12 t.daemons.length ca12, .slice ad13 t.params.length ca13, .slice ad14 t.locals.length ca14] = v := ⟨_, rfl⟩
  obtain ⟨WV, hWV⟩ : ∃ v, Value.agg #[.slice wa0 x.globals.length wc0, .slice wa1 x.parent.length wc1, .slice wa2 x.child.length wc2, .slice wa3 x.next.length wc3, .slice wa4 x.flags.length wc4, .slice wa5 x.props.length wc5, .slice wa6 x.timers.length wc6, .int .u64 x.seed, .int .i64 x.score, .int .i64 x.turns, .int .i64 x.over, .int .i64 x.it, .int .i64 x.go] = v := ⟨_, rfl⟩
  have HLT : Hid (∀ W, BoxT W w.heap.size [.int .i64 t.title, .int .i64 t.byl, .int .i64 t.release, .int .i64 t.most, .slice ad4 t.texts.length ca4, .int .i64 t.flags, .slice ad6 t.props.length ca6, .slice ad7 t.globals.length ca7, .slice ad8 t.things.length ca8, .slice ad9 t.acts.length ca9, .slice ad10 t.deeds.length ca10, .slice ad11 t.funcs.length ca11, .slice ad12 t.daemons.length ca12, .slice ad13 t.params.length ca13, .slice ad14 t.locals.length ca14] 35 → (Instr.loadAt 35 (.pointer (some ⟨w.heap.size, 0, none⟩))).run Try.prog W = .ok TV W) := fun W h => by
    rw [← hTV]
    exact run_loadAt_mid W _ 0 35 _ _ h.range Try.underlying35 rfl (by kernel_rfl)
  have HLW : Hid (∀ W, BoxT W (w.heap.size + 1) [.slice wa0 x.globals.length wc0, .slice wa1 x.parent.length wc1, .slice wa2 x.child.length wc2, .slice wa3 x.next.length wc3, .slice wa4 x.flags.length wc4, .slice wa5 x.props.length wc5, .slice wa6 x.timers.length wc6, .int .u64 x.seed, .int .i64 x.score, .int .i64 x.turns, .int .i64 x.over, .int .i64 x.it, .int .i64 x.go] 38 → (Instr.loadAt 38 (.pointer (some ⟨w.heap.size + 1, 0, none⟩))).run Try.prog W = .ok WV W) := fun W h => by
    rw [← hWV]
    exact run_loadAt_mid W _ 0 38 _ _ h.range Try.underlying38 rfl (by kernel_rfl)
  rw [hTV, hWV]
  clear HW1 HW2
  clear ln4 ln6 ln7 ln8 ln9 ln10 ln11 ln12 ln13 ln14 wl0 wl1 wl2 wl3 wl4 wl5 wl6
  have HAL := Lib.hid HAL0.out
  rw [hWV, hTV] at HAL
  clear hTV hWV HAL0
  have HLC : Hid (∀ W, BoxT W (w.heap.size + 1 + 1) [.int .i64 c.verb, .int .i64 c.noun, .int .i64 c.second, .int .i64 c.number, .int .i64 c.dir] 23 → (Instr.loadAt 23 (.pointer (some ⟨w.heap.size + 1 + 1, 0, none⟩))).run Try.prog W = .ok cv W) := fun W h => HCV.out ▸ HLD.out W _ c h
  clear HLD HCV
  refine wp_region_held_drew (S := fun W => Below W3.heap.size W3 W) (by kernel_rfl) (Below.refl _ _).drew (fun hHeld => ?_)
  have h0 : Below W3.heap.size W3 W3.drew := (Below.refl _ _).drew
  refine wpAnyH_take (i := 0) (v := TV) rfl (by kernel_rfl) (by kernel_rfl) (by kernel_rfl) (fun _ _ _ h => h) (Or.inl ⟨by rfl, ?_⟩) (by assumption) ?_
  · intro W hW
    exact load_run 35 (.tmp 3) rfl ⟨w.heap.size, 0, none⟩ rfl TV W (HLT.out W (HXt.out.below hW))
  simp only [Act.put]
  refine wpAnyH_take (i := 1) (v := WV) rfl (by kernel_rfl) (by kernel_rfl) (by kernel_rfl) (fun _ _ _ h => h) (Or.inl ⟨by rfl, ?_⟩) (by assumption) ?_
  · intro W hW
    exact load_run 38 (.tmp 4) rfl ⟨w.heap.size + 1, 0, none⟩ rfl WV W (HLW.out W (HXv.out.below hW))
  simp only [Act.put]
  refine wpAnyH_take (i := 3) (v := cv) rfl (by kernel_rfl) (by kernel_rfl) (by kernel_rfl) (fun _ _ _ h => h) (Or.inl ⟨by rfl, ?_⟩) (by assumption) ?_
  · intro W hW
    exact load_run 23 (.tmp 5) rfl ⟨w.heap.size + 1 + 1, 0, none⟩ rfl cv W (HLC.out W (HXc.out.below hW))
  simp only [Act.put]
  refine wpAnyH_ready (rs := [2]) (by kernel_rfl) (by simp) ?_
  refine AllReadyH.cons rfl (fun K hK => ?_) (AllReadyH.nil)
  · go_simp
    refine (HAL.out _ (btK HBv.out h0)).mono ?_
    rintro e v1 ⟨av, rfl, hov1, hbv1⟩
    have Hv1 := btK h0 hbv1
    refine hK.out _ _ Hv1 (fun hHeld => ?_)
    clear hK K
    refine wpAnyH_ready (rs := [4]) (by kernel_rfl) (by simp) ?_
    refine AllReadyH.cons rfl (fun K hK => ?_) (AllReadyH.nil)
    · go_simp
      refine (HCT0.out _ (btK HBv.out Hv1) av (Below.refl _ _) hov1).mono ?_
      rintro e v2 ⟨rfl, hbv2⟩
      have Hv2 := btK Hv1 hbv2
      refine hK.out _ _ Hv2 (fun hHeld => ?_)
      clear hK K
      refine wpAnyH_take (i := 5) (v := .bool r) rfl (by kernel_rfl) (by kernel_rfl) (by kernel_rfl) (fun _ _ _ h => h) (Or.inl ⟨by rfl, ?_⟩) (by assumption) ?_
      · intro W hW
        go_simp
      simp only [Act.put]
      refine wpAnyH_done (by kernel_rfl) ?_ _
      go_simp
      go_wp2
      go_ret
      exact ⟨rfl, btK HBv.out Hv2⟩

/-- What is told of tables and a world that may be asked of. -/
structure MayP (t : TabD) (x : WorldD) : Prop where
  nest : NestK x
  len : x.parent.length = t.things.length
  few : x.parent.length ≤ 128
  three : 3 ≤ t.things.length
  flags : x.flags.length = x.parent.length
  pos : ∀ f ∈ x.flags, 0 ≤ f
  acts : t.acts.length ≤ 64
  lines : ∀ a ∈ t.acts, a.lines.length ≤ 8
end Go.Proofs.Ytapjglpiofpbmaa
