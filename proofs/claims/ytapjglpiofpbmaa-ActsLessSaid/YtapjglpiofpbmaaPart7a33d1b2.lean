/- slices.DeleteFunc at numbers of the call's own. Printed by gen-ac28.py. -/
import Derived.Test.YtapjglpiofpbmaaPart292ddb28
import Derived.Test.YtapjglpiofpbmaaShelfG
import Derived.Sort.OwnSortedInts
namespace Go.Proofs.Ytapjglpiofpbmaa
open Go.RowKit Go.Sort Go.Shelf
attribute [local go_sem] Oper.semAt_some

/-- The literal that Visible hands to DeleteFunc. -/
theorem one_gives (W : World) (c : Int) : FnGives Try.prog 25 #[] #[.int .i64 c] (.bool (c == 1)) W := by
  show Calls Try.prog 25 #[.int .i64 c] W _
  go_enter Try.func25, Try.ntmps25
  by_cases h : c = 1
  · subst h
    go_wp2
    go_ret
    exact ⟨rfl, 0, rfl⟩
  · have HB : (c == 1) = false := beq_eq_false_iff_ne.2 h
    rw [HB]
    go_wp2
    go_ret
    first | exact ⟨by simp, 0, rfl⟩ | exact ⟨rfl, 0, rfl⟩
theorem one_filter (l : List Int) : (l.toArray.toList.filter fun x => !(x == 1)) = l.filter fun c => decide (c ≠ 1) := by
  show l.filter _ = _
  congr 1
  funext c
  by_cases h : c = 1
  · subst h; rfl
  · simp [h]
theorem ints_cells {G : Nat → Prop} {w : World} {l : List Int} {ys : List Value} (h : ys.length = l.length * 1) (hE : ∀ i (h : i < l.length), Holds.int.R G w l[i] (cellsAt 1 ys i)) : ys = l.map (Value.int .i64) := by
  apply List.ext_getElem
  · simpa using h
  · intro i h1 h2
    have hi : i < l.length := by simpa using h2
    have h3 := (hE i hi).2
    unfold cellsAt at h3
    rw [Nat.mul_one, List.drop_eq_getElem_cons h1] at h3
    injection h3 with h4 _
    rw [List.getElem_map]
    exact h4
set_option maxRecDepth 100000 in
set_option maxHeartbeats 2000000 in
theorem deleted_calls (lo : Nat) (w : World) (l : List Int) (v : Value) (hl : l.length ≤ 9223372036854775807) (ho : OwnI lo w l v) (hlo : lo ≤ w.heap.size) : Calls Try.prog 24 #[v, .func (.func 25) #[] #[]] w fun e w' => ∃ v', e = .returned v' ∧ OwnI lo w' (l.filter fun c => decide (c ≠ 1)) v' ∧ Below lo w w' := by
  have hfit : ∀ n ∈ l, I64 n := fun n hn => by
    obtain ⟨ys, G, -, -, hE⟩ := ho
    obtain ⟨i, hi, rfl⟩ := List.getElem_of_mem hn
    exact (hE i hi).1
  obtain ⟨ys, G, ⟨hyl, hown⟩, hG, hE⟩ := ho
  have hys := ints_cells hyl hE
  subst hys
  have eg : ∀ args w, (callFunc 25 args).run Try.prog w = .ok (.enter 25 args) w := enters_of Try.func25 (by kernel_rfl) rfl
  rcases hown with ⟨rfl, h0⟩ | ⟨g, cap, cur, rfl, hg, hb, hn, hcap, hsz, htk⟩
  · obtain rfl : l = [] := List.length_eq_zero_iff.1 h0
    have hIF : Calls Try.prog 38 #[.slice none 0 0, .func (.func 25) #[] #[]] w _ := AnyE.slices_IndexFunc_empty (P := Try.prog) (ρ := Try.laysDF_ren) { Try.laysDF with } none 0 (.func (.func 25) #[] #[]) w
    clear hyl hG hE hfit
    go_enter Try.func24, Try.ntmps24
    go_wp2_with (go_at_call 38; refine hIF.mono ?_; rintro e w' ⟨rfl, rfl⟩)
    go_ret
    exact ⟨_, rfl, OwnR.nil _ _ _ _ _, Below.refl _ _⟩
  · rw [Nat.mul_one] at htk
    have hH := holds_of_blockI hb htk
    have hcon := AnyE.slices_DeleteFunc Try.laysDF (Value.int .i64) (fun _ => rfl) (fun x => x == 1) 25 #[] eg 0 Try.zeroValue3 g 0 cap l.toArray w (fun W x _ => one_gives W x) (fun n os dk x _ => one_gives _ x) hH hl hn
    rw [one_filter] at hcon
    refine (show Calls Try.prog 24 #[.slice (some ⟨g, 0, none⟩) l.length cap, .func (.func 25) #[] #[]] w _ from hcon).mono ?_
    rintro e w' ⟨rfl, q, rfl⟩
    generalize hr : (l.filter fun c => decide (c ≠ 1)) = r
    have hrl : r.length ≤ l.length := by rw [← hr]; exact List.length_filter_le _ _
    have hrf : ∀ n ∈ r, I64 n := fun n hn => hfit n (by rw [← hr] at hn; exact (List.mem_filter.1 hn).1)
    obtain ⟨ts, hts⟩ : ∃ ts, r ++ List.replicate (l.toArray.size - r.length) 0 = ts := ⟨_, rfl⟩
    have htl : ts.length = l.length := by rw [← hts]; simp; omega
    rw [hts]
    have hblk := heap_sortedI (n := q) (os := #[]) ts.toArray hb
    rw [grow_empty] at hblk
    have htake := take_putCellsI cur ts (by omega)
    have hput : (putCells (Value.int .i64) 0 ts.toArray cur).toList.take r.length = r.map (Value.int .i64) := by
      have h9 := congrArg (List.take r.length) htake
      rw [List.take_take, Nat.min_eq_left (by omega), ← List.map_take, ← hts, List.take_left'  rfl] at h9
      rw [← hts]
      exact h9
    refine ⟨_, rfl, ⟨r.map (Value.int .i64), fun _ => False, ⟨by simp, .inr ⟨g, cap, _, rfl, hg, hblk, by omega, hcap, by simp [putCells, hsz], by rw [Nat.mul_one]; exact hput⟩⟩, fun _ h => h.elim, fun i hi => ⟨hrf _ (List.getElem_mem hi), ?_⟩⟩, ?_⟩
    · unfold cellsAt
      rw [Nat.mul_one, List.drop_eq_getElem_cons (by simpa using hi)]
      simp
    · have h8 := grownBy_sortedI (w := w) (g := g) (n := q) (os := #[]) ts.toArray
      rw [grow_empty] at h8
      exact ⟨h8.os, h8.tape, h8.output, h8.size, fun k hk => h8.block k (by omega) (by simp; omega)⟩
end Go.Proofs.Ytapjglpiofpbmaa
/- view.Visible. Printed by gen-ac29.py. -/
namespace Go.Proofs.Ytapjglpiofpbmaa
open Go.RowKit Go.Sort
attribute [local go_sem] Oper.semAt_some

set_option maxRecDepth 100000 in
set_option maxHeartbeats 4000000 in
theorem visP_calls (F : Nat → Prop) (w : World) (t : TabD) (x : WorldD) (cs ds : List Value) (hF : Inn F w) (ht : Holds.tab.R F w t cs) (hx : Holds.world.R F w x ds) (hN : NestK x) (h128 : x.parent.length ≤ 128) (hfl : x.flags.length = x.parent.length) (hf0 : ∀ f ∈ x.flags, 0 ≤ f) : Calls Try.prog 13 #[.agg cs.toArray, .agg ds.toArray] w (GivesI x.vis w) := by
  have HHE0 : Hid (∀ W, Below w.heap.size w W → Calls Try.prog 23 #[.agg ds.toArray] W (Gives W (.int .i64 (x.top 1)))) := fun W h => hereP_calls F W x ds (fun b hb => Nat.lt_of_lt_of_le (hF b hb) h.size) (Holds.world.keep (fun b hb => h.block b (hF b hb)) (fun _ h => h) hx) (by omega)
  have HLI0 : Hid (∀ W, Below w.heap.size w W → Calls Try.prog 19 #[.agg cs.toArray, .agg ds.toArray] W (Gives W (.bool x.lit))) := fun W h => litP_calls F W t x cs ds (fun b hb => Nat.lt_of_lt_of_le (hF b hb) h.size) (Holds.tab.keep (fun b hb => h.block b (hF b hb)) (fun _ h => h) ht) (Holds.world.keep (fun b hb => h.block b (hF b hb)) (fun _ h => h) hx) hN h128 hfl hf0
  have HCA0 : Hid (∀ W, Below w.heap.size w W → Calls Try.prog 20 #[.agg cs.toArray, .agg ds.toArray] W (GivesI (x.reach 1) W)) := fun W h => carried_calls F W t x cs ds (fun b hb => Nat.lt_of_lt_of_le (hF b hb) h.size) (Holds.tab.keep (fun b hb => h.block b (hF b hb)) (fun _ h => h) ht) (Holds.world.keep (fun b hb => h.block b (hF b hb)) (fun _ h => h) hx) hN h128 hfl hf0
  have HRE0 : Hid (∀ W, Below w.heap.size w W → Calls Try.prog 22 #[.agg ds.toArray, .int .i64 (x.top 1)] W (fun e w' => ∃ bw bx, e = .returned (.func (.func 35) #[] #[.pointer (some ⟨bw, 0, none⟩), .pointer (some ⟨bx, 0, none⟩)]) ∧ BoxT w' bw ds 38 ∧ BoxT w' bx [.int .i64 (x.top 1)] 3 ∧ Below W.heap.size W w')) := fun W h => reached_calls F W x ds (fun b hb => Nat.lt_of_lt_of_le (hF b hb) h.size) (Holds.world.keep (fun b hb => h.block b (hF b hb)) (fun _ h => h) hx) (x.top 1)
  have HCO := Lib.hid (fun (W : World) (h : Below w.heap.size w W) (bw bx : Nat) (h1 : BoxT W bw ds 38) (h2 : BoxT W bx [.int .i64 (x.top 1)] 3) => collected F w x ds hF hx hN h128 hfl hf0 (x.top 1) W h bw bx h1 h2)
  have hll : (x.reach (x.top 1)).length ≤ 9223372036854775807 := Nat.le_trans (reach_len hN h128 (x.top 1)) (by decide)
  obtain ⟨R, hR⟩ : ∃ r, x.vis = r := ⟨_, rfl⟩
  rw [hR]
  have HQ0 : Hid ((if x.lit then (x.reach (x.top 1)).filter (fun c => decide (c ≠ 1)) else x.reach 1) = R) := hR
  clear hR
  generalize x.reach (x.top 1) = l at HCO HQ0 hll
  generalize x.top 1 = c0 at HRE0 HHE0 HCO
  generalize x.reach 1 = l1 at HCA0 HQ0
  generalize x.lit = b at HLI0 HQ0
  clear hfl hf0
  obtain ⟨i0, i1, i2, i3, i5, v4, v6, v7, v8, v9, v10, v11, v12, v13, v14, rfl, g4, g6, g7, g8, g9, g10, g11, g12, g13, g14⟩ := ht
  obtain ⟨ad4, ca4, rfl⟩ := g4.shape
  obtain ⟨ad6, ca6, rfl⟩ := g6.shape
  obtain ⟨ad7, ca7, rfl⟩ := g7.shape
  obtain ⟨ad8, ca8, rfl⟩ := g8.shape
  obtain ⟨ad9, ca9, rfl⟩ := g9.shape
  obtain ⟨ad10, ca10, rfl⟩ := g10.shape
  obtain ⟨ad11, ca11, rfl⟩ := g11.shape
  obtain ⟨ad12, ca12, rfl⟩ := g12.shape
  obtain ⟨ad13, ca13, rfl⟩ := g13.shape
  obtain ⟨ad14, ca14, rfl⟩ := g14.shape
  have ln4 := g4.len
  have ln6 := g6.len
  have ln7 := g7.len
  have ln8 := g8.len
  have ln9 := g9.len
  have ln10 := g10.len
  have ln11 := g11.len
  have ln12 := g12.len
  have ln13 := g13.len
  have ln14 := g14.len
  unfold maxLen at ln4 ln6 ln7 ln8 ln9 ln10 ln11 ln12 ln13 ln14
  obtain ⟨-, -, -, -, -, -, wv0, wv1, wv2, wv3, wv4, wv5, wv6, rfl, wg0, wg1, wg2, wg3, wg4, wg5, wg6⟩ := hx
  obtain ⟨wa0, wc0, rfl⟩ := wg0.shape
  have wl0 := wg0.len
  obtain ⟨wa1, wc1, rfl⟩ := wg1.shape
  have wl1 := wg1.len
  obtain ⟨wa2, wc2, rfl⟩ := wg2.shape
  have wl2 := wg2.len
  obtain ⟨wa3, wc3, rfl⟩ := wg3.shape
  have wl3 := wg3.len
  obtain ⟨wa4, wc4, rfl⟩ := wg4.shape
  have wl4 := wg4.len
  obtain ⟨wa5, wc5, rfl⟩ := wg5.shape
  have wl5 := wg5.len
  obtain ⟨wa6, wc6, rfl⟩ := wg6.shape
  have wl6 := wg6.len
  unfold maxLen at wl0 wl1 wl2 wl3 wl4 wl5 wl6
  clear g4 g6 g7 g8 g9 g10 g11 g12 g13 g14 wg0 wg1 wg2 wg3 wg4 wg5 wg6
  clear i0 i1 i2 i3 i5
  obtain ⟨W1, hW1⟩ : ∃ z, w.alloc (.cells #[.int .i64 t.title, .int .i64 t.byl, .int .i64 t.release, .int .i64 t.most, .slice ad4 t.texts.length ca4, .int .i64 t.flags, .slice ad6 t.props.length ca6, .slice ad7 t.globals.length ca7, .slice ad8 t.things.length ca8, .slice ad9 t.acts.length ca9, .slice ad10 t.deeds.length ca10, .slice ad11 t.funcs.length ca11, .slice ad12 t.daemons.length ca12, .slice ad13 t.params.length ca13, .slice ad14 t.locals.length ca14] 35) = z := ⟨_, rfl⟩
  obtain ⟨W2, hW2⟩ : ∃ z, W1.alloc (.cells #[.slice wa0 x.globals.length wc0, .slice wa1 x.parent.length wc1, .slice wa2 x.child.length wc2, .slice wa3 x.next.length wc3, .slice wa4 x.flags.length wc4, .slice wa5 x.props.length wc5, .slice wa6 x.timers.length wc6, .int .u64 x.seed, .int .i64 x.score, .int .i64 x.turns, .int .i64 x.over, .int .i64 x.it, .int .i64 x.go] 38) = z := ⟨_, rfl⟩
  have hz1 : W1.heap.size = w.heap.size + 1 := by rw [← hW1]; simp
  have hb1 : Below w.heap.size w W1 := by rw [← hW1]; exact (Below.refl _ _).alloc (Nat.le_refl _) _
  have hb2 : Below W1.heap.size W1 W2 := by rw [← hW2]; exact (Below.refl _ _).alloc (Nat.le_refl _) _
  have hx1 : BoxT W1 w.heap.size [.int .i64 t.title, .int .i64 t.byl, .int .i64 t.release, .int .i64 t.most, .slice ad4 t.texts.length ca4, .int .i64 t.flags, .slice ad6 t.props.length ca6, .slice ad7 t.globals.length ca7, .slice ad8 t.things.length ca8, .slice ad9 t.acts.length ca9, .slice ad10 t.deeds.length ca10, .slice ad11 t.funcs.length ca11, .slice ad12 t.daemons.length ca12, .slice ad13 t.params.length ca13, .slice ad14 t.locals.length ca14] 35 := by rw [← hW1]; exact BoxT.new _ _ _
  have hx2 : BoxT W2 (w.heap.size + 1) [.slice wa0 x.globals.length wc0, .slice wa1 x.parent.length wc1, .slice wa2 x.child.length wc2, .slice wa3 x.next.length wc3, .slice wa4 x.flags.length wc4, .slice wa5 x.props.length wc5, .slice wa6 x.timers.length wc6, .int .u64 x.seed, .int .i64 x.score, .int .i64 x.turns, .int .i64 x.over, .int .i64 x.it, .int .i64 x.go] 38 := by rw [← hz1, ← hW2]; exact BoxT.new _ _ _
  have HXt := Lib.hid (hx1.below hb2); have HXv := Lib.hid hx2; have HBv := Lib.hid (btK hb1 hb2)
  have HW1 := Lib.hid hW1; have HW2 := Lib.hid hW2
  have hs2 : W2.heap.size = W1.heap.size + 1 := by rw [← hW2]; simp
  rw [hz1] at hs2
  have HS2 := Lib.hid hs2
  clear hs2
  clear hW1 hW2 hz1 hb1 hb2 hx1 hx2
  go_enter Try.func13, Try.ntmps13
  go_upto_region 1 with fail
  rw [HW1.out, HW2.out]
  obtain ⟨TV, hTV⟩ : ∃ v, Value.agg #[.int .i64 t.title, .int .i64 t.byl, .int .i64 t.release, .int .i64 t.most, .slice ad4 t.texts.length ca4, .int .i64 t.flags, .slice ad6 t.props.length ca6, .slice ad7 t.globals.length ca7, .slice ad8 t.things.length ca8, .slice ad9 t.acts.length ca9, .slice ad10 t.deeds.length ca10, .slice ad11 t.funcs.length ca11, .slice ad12 t.daemons.length ca12, .slice ad13 t.params.length ca13, .slice ad14 t.locals.length ca14] = v := ⟨_, rfl⟩
  obtain ⟨WV, hWV⟩ : ∃ v, Value.agg #[.slice wa0 x.globals.length wc0, .slice wa1 x.parent.length wc1, .slice wa2 x.child.length wc2, .slice wa3 x.next.length wc3, .slice wa4 x.flags.length wc4, .slice wa5 x.props.length wc5, .slice wa6 x.timers.length wc6, .int .u64 x.seed, .int .i64 x.score, .int .i64 x.turns, .int .i64 x.over, .int .i64 x.it, .int .i64 x.go] = v := ⟨_, rfl⟩
  have HLT : Hid (∀ W, BoxT W w.heap.size [.int .i64 t.title, .int .i64 t.byl, .int .i64 t.release, .int .i64 t.most, .slice ad4 t.texts.length ca4, .int .i64 t.flags, .slice ad6 t.props.length ca6, .slice ad7 t.globals.length ca7, .slice ad8 t.things.length ca8, .slice ad9 t.acts.length ca9, .slice ad10 t.deeds.length ca10, .slice ad11 t.funcs.length ca11, .slice ad12 t.daemons.length ca12, .slice ad13 t.params.length ca13, .slice ad14 t.locals.length ca14] 35 → (Instr.loadAt 35 (.pointer (some ⟨w.heap.size, 0, none⟩))).run Try.prog W = .ok TV W) := fun W h => by
    rw [← hTV]
    exact run_loadAt_mid W _ 0 35 _ _ h.range Try.underlying35 rfl (by kernel_rfl)
  have HLW : Hid (∀ W, BoxT W (w.heap.size + 1) [.slice wa0 x.globals.length wc0, .slice wa1 x.parent.length wc1, .slice wa2 x.child.length wc2, .slice wa3 x.next.length wc3, .slice wa4 x.flags.length wc4, .slice wa5 x.props.length wc5, .slice wa6 x.timers.length wc6, .int .u64 x.seed, .int .i64 x.score, .int .i64 x.turns, .int .i64 x.over, .int .i64 x.it, .int .i64 x.go] 38 → (Instr.loadAt 38 (.pointer (some ⟨w.heap.size + 1, 0, none⟩))).run Try.prog W = .ok WV W) := fun W h => by
    rw [← hWV]
    exact run_loadAt_mid W _ 0 38 _ _ h.range Try.underlying38 rfl (by kernel_rfl)
  rw [hTV, hWV]
  clear HW1 HW2
  have HRE := Lib.hid HRE0.out; have HHE := Lib.hid HHE0.out; have HCA := Lib.hid HCA0.out; have HLI := Lib.hid HLI0.out
  rw [hWV] at HRE HHE HCA HLI
  rw [hTV] at HCA HLI
  clear hTV hWV HRE0 HHE0 HCA0 HLI0
  cases b
  · have HF : Hid (l1 = R) := by show _ = _; have h9 := HQ0.out; simpa using h9
    go_wp2_with (first | ((with_reducible refine wpList_load_T 35 (.tmp 2) ?hw9 ⟨w.heap.size, 0, none⟩ ?hx9 TV (HLT.out _ HXt.out) ?_); (case hw9 => rfl); (case hx9 => first | rfl | (exact rfl))) | ((with_reducible refine wpList_load_T 38 (.tmp 3) ?hw9 ⟨w.heap.size + 1, 0, none⟩ ?hx9 WV (HLW.out _ HXv.out) ?_); (case hw9 => rfl); (case hx9 => first | rfl | (exact rfl))) | (go_at_call 19; (with_reducible refine (HLI.out _ HBv.out).mono ?_); rintro e w1 ⟨rfl, hb1⟩; have HXv := Lib.hid (HXv.out.below hb1); have HXt := Lib.hid (HXt.out.below hb1); have HBv := Lib.hid (btK HBv.out hb1)) | (go_at_call 20; (with_reducible refine (HCA.out _ HBv.out).mono ?_); rintro e w2 ⟨v, rfl, hown, hb2⟩))
    go_ret
    exact ⟨_, rfl, by rw [← HF.out]; exact hown.lower HBv.out.size, btK HBv.out hb2⟩
  have HF : Hid (l.filter (fun c => decide (c ≠ 1)) = R) := by have h9 := HQ0.out; rw [if_pos rfl] at h9; exact h9
  go_upto_region 3 with (first | ((with_reducible refine wpList_load_T 35 (.tmp 2) ?hw9 ⟨w.heap.size, 0, none⟩ ?hx9 TV (HLT.out _ HXt.out) ?_); (case hw9 => rfl); (case hx9 => first | rfl | (exact rfl))) | ((with_reducible refine wpList_load_T 38 (.tmp 3) ?hw9 ⟨w.heap.size + 1, 0, none⟩ ?hx9 WV (HLW.out _ HXv.out) ?_); (case hw9 => rfl); (case hx9 => first | rfl | (exact rfl))) | (go_at_call 19; (with_reducible refine (HLI.out _ HBv.out).mono ?_); rintro e w1 ⟨rfl, hb1⟩; have HXv := Lib.hid (HXv.out.below hb1); have HXt := Lib.hid (HXt.out.below hb1); have HBv := Lib.hid (btK HBv.out hb1)))
  have HB1 := Lib.hid (Below.refl w1.heap.size w1)
  clear hb1
  go_cut [5] (fun v wc => OwnI w.heap.size wc l v ∧ Below w.heap.size w wc)
  case first =>
    refine wp_region_held_drew (S := fun W => Below w1.heap.size w1 W) (by kernel_rfl) (Below.refl _ _).drew (fun hHeld => ?_)
    have h0 : Below w1.heap.size w1 w1.drew := (Below.refl _ _).drew
    refine wpAnyH_take (i := 0) (v := WV) rfl (by kernel_rfl) (by kernel_rfl) (by kernel_rfl) (fun _ _ _ h => h) (Or.inl ⟨by rfl, ?_⟩) (by assumption) ?_
    · intro W hW
      exact load_run 38 (.tmp 3) rfl ⟨w.heap.size + 1, 0, none⟩ rfl WV W (HLW.out _ (HXv.out.below hW))
    simp only [Act.put]
    refine wpAnyH_take (i := 1) (v := WV) rfl (by kernel_rfl) (by kernel_rfl) (by kernel_rfl) (fun _ _ _ h => h) (Or.inl ⟨by rfl, ?_⟩) (by assumption) ?_
    · intro W hW
      exact load_run 38 (.tmp 3) rfl ⟨w.heap.size + 1, 0, none⟩ rfl WV W (HLW.out _ (HXv.out.below hW))
    simp only [Act.put]
    refine wpAnyH_ready (rs := [2]) (by kernel_rfl) (by simp) ?_
    refine AllReadyH.cons rfl (fun K hK => ?_) (AllReadyH.nil)
    · go_simp
      refine (HHE.out _ (btK HBv.out h0)).mono ?_
      rintro e v1 ⟨rfl, hbv1⟩
      have Hv1 := btK h0 hbv1
      refine hK.out _ _ Hv1 (fun hHeld => ?_)
      clear hK K
      refine wpAnyH_ready (rs := [3]) (by kernel_rfl) (by simp) ?_
      refine AllReadyH.cons rfl (fun K hK => ?_) (AllReadyH.nil)
      · go_simp
        refine (HRE.out _ (btK HBv.out Hv1)).mono ?_
        rintro e v2 ⟨bw, bx, rfl, hx1, hx2, hbv2⟩
        have Hv2 := btK Hv1 hbv2
        refine hK.out _ _ Hv2 (fun hHeld => ?_)
        clear hK K
        refine wpAnyH_ready (rs := [4]) (by kernel_rfl) (by simp) ?_
        refine AllReadyH.cons rfl (fun K hK => ?_) (AllReadyH.nil)
        · go_simp
          refine (HCO.out _ (btK HBv.out Hv2) bw bx hx1 hx2).mono ?_
          rintro e v3 ⟨v, rfl, hown, hbv3⟩
          have Hv3 := btK Hv2 hbv3
          have hvw9 := Hv2
          refine hK.out _ _ Hv3 (fun hHeld => ?_)
          clear hK K
          refine wpAnyH_take (i := 5) (v := v) rfl (by kernel_rfl) (by kernel_rfl) (by kernel_rfl) (fun _ _ _ h => h) (Or.inl ⟨by rfl, ?_⟩) (by assumption) ?_
          · intro W hW
            go_simp
          simp only [Act.put]
          refine wpAnyH_done (by kernel_rfl) ?_ _
          go_simp
          go_wp2_with fail
          go_meet
          have hz1 := HBv.out.size
          have hz3 := hvw9.size
          exact ⟨hown.lower (by omega), btK HBv.out Hv3⟩
  case rest =>
    obtain ⟨hown, hb⟩ := hcut
    have hde := deleted_calls w.heap.size wc l _ hll hown hb.size
    rw [HF.out] at hde
    have HDE := Lib.hid hde
    have HBC := Lib.hid hb
    clear hown hb hde hll
    go_wp2_with (go_at_call 24; (with_reducible refine HDE.out.mono ?_); rintro e w9 ⟨v', rfl, ho9, hb9⟩)
    go_ret
    exact ⟨_, rfl, ho9, HBC.out.trans hb9⟩
end Go.Proofs.Ytapjglpiofpbmaa
/- acts.by. Printed by gen-ac30.py. -/
namespace Go.Proofs.Ytapjglpiofpbmaa
open Go.RowKit Go.Sort
attribute [local go_sem] Oper.semAt_some

/-- A command whose numbers fit. -/
abbrev CmdF := {c : CmdD // c.Fit}
/-- Numbers in memory, apart from box B and from the block of the slice in it. -/
def RdB (B : Nat) (W : World) (N : List Int) (v : Value) : Prop := ∃ ad cap, v = .slice ad N.length cap ∧ N.length ≤ 9223372036854775807 ∧
  (0 < N.length → ∃ b off, ad = some ⟨b, off, none⟩ ∧ b ≠ B ∧ ownB W B ≠ some b ∧ ∀ k (hk : k < N.length), W.cell? ⟨b, off + k, none⟩ = some (.int .i64 N[k]))
section
variable {n₀ B : Nat} {W W' : World} {N : List Int} {v : Value}
theorem RdB.step (h : RdB B W N v) (g : KpB n₀ B W W') : RdB B W' N v := by
  obtain ⟨ad, cap, e, hl, h⟩ := h
  refine ⟨ad, cap, e, hl, fun h0 => ?_⟩
  obtain ⟨b, off, e, hb, hne, hc⟩ := h h0
  obtain ⟨cs, ty, fr, ho, -⟩ := cells_of_cell? (hc 0 h0)
  have hbl := (g.keep b _ ho rfl hb hne).trans ho.symm
  exact ⟨b, off, e, hb, g.ne (lt_of_some ho) hne, fun k hk => (World.cell?_of_block (a := ⟨b, off + k, none⟩) hbl).trans (hc k hk)⟩
theorem RdB.ofOwn {s : Nat} (h : OwnI s W N v) (hB : B < s) (hI : ∀ g, ownB W B = some g → g < s) : RdB B W N v := by
  have hr := h.rdl
  have hln := hr.len
  unfold maxLen at hln
  obtain ⟨a, cap, rfl, h1, h2, h3⟩ := RdInts.opn hr
  refine ⟨a, cap, rfl, hln, fun h0 => ?_⟩
  obtain ⟨b, off, rfl, hb, hc⟩ := h3 h0
  exact ⟨b, off, rfl, by have := hb.1; omega, fun e => by have := hI b e; have := hb.1; omega, fun k hk => (hc W rfl k hk).2⟩
theorem RdB.get {ad : Option Addr} {n cap : Nat} (h : RdB B W N (.slice ad n cap)) {k : Nat} (hk : k < N.length) : ∃ b off, ad = some ⟨b, off, none⟩ ∧ W.cell? ⟨b, off + k, none⟩ = some (.int .i64 N[k]) := by
  obtain ⟨ad', cap', e, -, h⟩ := h
  cases e
  obtain ⟨b, off, rfl, -, -, hc⟩ := h (by omega)
  exact ⟨b, off, rfl, hc k hk⟩
theorem RdB.shape (h : RdB B W N v) : ∃ ad cap, v = .slice ad N.length cap := by
  obtain ⟨ad, cap, e, -⟩ := h
  exact ⟨ad, cap, e⟩
theorem RdB.len (h : RdB B W N v) : N.length ≤ 9223372036854775807 := by
  obtain ⟨ad, cap, -, e, -⟩ := h
  exact e
theorem own_below (hI : InR W B) (hB : B < W.heap.size) (hb : Below W.heap.size W W') : ∀ g, ownB W' B = some g → g < W.heap.size := fun g hg => by
  rw [ownB_of (hb.block B hB)] at hg
  exact hI g hg
set_option maxRecDepth 100000 in
set_option maxHeartbeats 2000000 in
theorem nounsB_calls (b : Bool) (hs : RdB B W N v) (hB : B < W.heap.size) (hI : InR W B) : Calls Try.prog 28 #[.bool b, v] W (fun e w' => ∃ u, e = .returned u ∧ RdB B w' (if b then N else [0]) u ∧ Below W.heap.size W w') := by
  have HS := Lib.hid hs
  obtain ⟨a, cap, rfl⟩ := hs.shape
  clear hs
  cases b
  · go_enter Try.func28, Try.ntmps28
    go_wp2
    go_ret
    have hb : Below W.heap.size W (W.alloc (.cells #[.int .i64 0] 3)) := (Below.refl _ _).alloc (Nat.le_refl _) _
    exact ⟨_, rfl, RdB.ofOwn (own_lit0 W) hB (own_below hI hB hb), hb⟩
  · go_enter Try.func28, Try.ntmps28
    go_wp2
    go_ret
    exact ⟨_, rfl, HS.out, Below.refl _ _⟩
end
theorem has_lit2 (F : Nat → Prop) (w : World) (l : List SlotD) (lv : Value) (hF : Inn F w) (hl : RdL Holds.slot 2 F w l lv) (W : World) (h : Below w.heap.size w W) (a b : Int) (ha : I64 a) (hb : I64 b) :
    Calls Try.prog 27 #[lv, .slice (some ⟨W.heap.size, 0, none⟩) 2 2] (W.alloc (.cells #[.int .i64 a, .int .i64 b] 3)) (fun e w' => e = .returned (.int .i64 (hasN l a b : Nat)) ∧ Below W.heap.size W w') := by
  have h1 : Below W.heap.size W (W.alloc (.cells #[.int .i64 a, .int .i64 b] 3)) := (Below.refl _ _).alloc (Nat.le_refl _) _
  have ho : OwnI W.heap.size (W.alloc (.cells #[.int .i64 a, .int .i64 b] 3)) [a, b] (.slice (some ⟨W.heap.size, 0, none⟩) 2 2) := by
    refine ownI_of_row (xs := [a, b]) ⟨rfl, .inr ⟨W.heap.size, 2, #[.int .i64 a, .int .i64 b], rfl, Nat.le_refl _, BoxT.new _ _ _, Nat.le_refl _, by decide, rfl, rfl⟩⟩ (fun n hn => ?_)
    rcases List.mem_cons.1 hn with rfl | hn
    · exact ha
    · obtain rfl : n = b := by simpa using hn
      exact hb
  have hh := h.trans (h1.mono h.size)
  have h9 := has_calls F (NewB W.heap.size (W.alloc (.cells #[.int .i64 a, .int .i64 b] 3)).heap.size) _ l lv [a, b] _ (fun b hb => Nat.lt_of_lt_of_le (hF b hb) hh.size) (newB_inn _ _) (RdL.below hl hF hh (Nat.le_refl _)) ho.rdl (by simp)
  refine h9.mono ?_
  rintro e w' ⟨rfl, hb'⟩
  rw [hasK_two]
  exact ⟨rfl, h1.trans (hb'.mono h1.size)⟩
theorem has_lit1 (F : Nat → Prop) (w : World) (l : List SlotD) (lv : Value) (hF : Inn F w) (hl : RdL Holds.slot 2 F w l lv) (W : World) (h : Below w.heap.size w W) (a : Int) (ha : I64 a) :
    Calls Try.prog 27 #[lv, .slice (some ⟨W.heap.size, 0, none⟩) 1 1] (W.alloc (.cells #[.int .i64 a] 3)) (fun e w' => e = .returned (.int .i64 (hasN l a a : Nat)) ∧ Below W.heap.size W w') := by
  have h1 : Below W.heap.size W (W.alloc (.cells #[.int .i64 a] 3)) := (Below.refl _ _).alloc (Nat.le_refl _) _
  have ho : OwnI W.heap.size (W.alloc (.cells #[.int .i64 a] 3)) [a] (.slice (some ⟨W.heap.size, 0, none⟩) 1 1) := by
    refine ownI_of_row (xs := [a]) ⟨rfl, .inr ⟨W.heap.size, 1, #[.int .i64 a], rfl, Nat.le_refl _, BoxT.new _ _ _, Nat.le_refl _, by decide, rfl, rfl⟩⟩ (fun n hn => ?_)
    obtain rfl : n = a := by simpa using hn
    exact ha
  have hh := h.trans (h1.mono h.size)
  have h9 := has_calls F (NewB W.heap.size (W.alloc (.cells #[.int .i64 a] 3)).heap.size) _ l lv [a] _ (fun b hb => Nat.lt_of_lt_of_le (hF b hb) hh.size) (newB_inn _ _) (RdL.below hl hF hh (Nat.le_refl _)) ho.rdl (by simp)
  refine h9.mono ?_
  rintro e w' ⟨rfl, hb'⟩
  rw [hasK_one]
  exact ⟨rfl, h1.trans (hb'.mono h1.size)⟩
end Go.Proofs.Ytapjglpiofpbmaa
/- The iterator over the commands of a line. Printed by gen-ac31.py. -/
namespace Go.Proofs.Ytapjglpiofpbmaa
open Go.RowKit Go.Sort
attribute [local go_sem] Oper.semAt_some

set_option maxRecDepth 100000 in
set_option maxHeartbeats 8000000 in
theorem by_seq (F : Nat → Prop) (w : World) (l : List SlotD) (lv : Value) (verb : Int) (seen : List Int) (ev : Value) (hF : Inn F w) (hl : RdL Holds.slot 2 F w l lv) (hv : I64 verb) (hsi : ∀ n ∈ seen, I64 n)
    (nf : Nat) (W : World) (hW : Below w.heap.size w W) (B bl bs bv : Nat) (_hB0 : w.heap.size ≤ B) (hBl : B < W.heap.size) (hbl : BoxT W bl [lv] 50) (hbs : BoxT W bs [ev] 27) (hbv : BoxT W bv [.int .i64 verb] 3)
    (hne : bl ≠ B ∧ bs ≠ B ∧ bv ≠ B) (hno : ownB W B ≠ some bl ∧ ownB W B ≠ some bs ∧ ownB W B ≠ some bv) (hIR : InR W B) (hsv : RdB B W seen ev) :
    SeqStopsK Fence.wide nf Try.prog 26 #[.pointer (some ⟨bl, 0, none⟩), .pointer (some ⟨bs, 0, none⟩), .pointer (some ⟨bv, 0, none⟩)] (fun c : CmdF => #[c.1.val]) (KpB w.heap.size B) (fun ys => ys.map (fun c => c.1) = lineC verb l seen) (fun p => p.map (fun c => c.1) <+: lineC verb l seen) (lineC verb l seen).length W := by
  intro lp J Jx V hV hJ hJx hY h0
  obtain ⟨R, hR⟩ : ∃ r, lineC verb l seen = r := ⟨_, rfl⟩
  rw [hR] at hY ⊢
  have HY : Hid (∀ pre x y n d (_ : CmdD.Fit ⟨verb, x, y, n, d⟩) W1, J pre W1 → pre.length < R.length → YieldAt Fence.wide (nf - 1) Try.prog lp #[.agg #[.int .i64 verb, .int .i64 x, .int .i64 y, .int .i64 n, .int .i64 d]] W1 fun e W' => (e = .returned (.bool true) ∧ J (pre ++ [⟨⟨verb, x, y, n, d⟩, by assumption⟩]) W' ∧ KpB w.heap.size B W1 W') ∨ (e = .returned (.bool false) ∧ Jx (pre ++ [⟨⟨verb, x, y, n, d⟩, by assumption⟩]) W')) := fun pre x y n d h W1 h1 h2 => hY pre ⟨⟨verb, x, y, n, d⟩, h⟩ W1 h1 h2
  have HJH : Hid (∀ (s : List CmdF) (W W' : World), J s W → Below W.heap.size W W' → J s W') := fun s W W' h hb => abides hJ h hb
  have hoV : ownB V B = ownB W B := ownB_of (hV.block B hBl)
  have HST : Hid (∀ W', KpB w.heap.size B V W' → W'.cell? ⟨bl, 0, none⟩ = some lv ∧ W'.cell? ⟨bs, 0, none⟩ = some ev ∧ W'.cell? ⟨bv, 0, none⟩ = some (.int .i64 verb) ∧ Below w.heap.size w W' ∧ B < W'.heap.size ∧ InR W' B ∧ RdB B W' seen ev) := fun W' h => by
    have hIV : InR V B := fun g hg => by rw [hoV] at hg; exact Nat.lt_of_lt_of_le (hIR g hg) hV.size
    have hkV : KpB w.heap.size B W V := KpB.on hV hW.size hBl
    exact ⟨(h.box (hbl.below hV) hne.1 (by rw [hoV]; exact hno.1)).cell 0, (h.box (hbs.below hV) hne.2.1 (by rw [hoV]; exact hno.2.1)).cell 0, (h.box (hbv.below hV) hne.2.2 (by rw [hoV]; exact hno.2.2)).cell 0, (btK hW hV).trans h.below, by have := hV.size; have := h.below.size; omega, h.inR hIV, (hsv.step hkV).step h⟩
  have HON : Hid (∀ W1 W2, KpB w.heap.size B V W1 → Below W1.heap.size W1 W2 → KpB w.heap.size B W1 W2) := fun W1 W2 k h => KpB.on h (HST.out W1 k).2.2.2.1.size (HST.out W1 k).2.2.2.2.1
  have hver := Lib.hid hv
  unfold lineC at hR
  have hc2 := hasN_le l 2 3
  have hc2' := hl.len
  unfold maxLen at hc2'
  have HH20 : Hid (∀ W, Below w.heap.size w W → Calls Try.prog 27 #[lv, .slice (some ⟨W.heap.size, 0, none⟩) 2 2] (W.alloc (.cells #[.int .i64 2, .int .i64 3] 3)) (fun e w' => e = .returned (.int .i64 (hasN l 2 3 : Nat)) ∧ Below W.heap.size W w')) := fun W h => has_lit2 F w l lv hF hl W h 2 3 (by unfold I64; omega) (by unfold I64; omega)
  have HHNU0 : Hid (∀ W, Below w.heap.size w W → Calls Try.prog 27 #[lv, .slice (some ⟨W.heap.size, 0, none⟩) 1 1] (W.alloc (.cells #[.int .i64 4] 3)) (fun e w' => e = .returned (.int .i64 (hasN l 4 4 : Nat)) ∧ Below W.heap.size W w')) := fun W h => has_lit1 F w l lv hF hl W h 4 (by unfold I64; omega)
  have HHDI0 : Hid (∀ W, Below w.heap.size w W → Calls Try.prog 27 #[lv, .slice (some ⟨W.heap.size, 0, none⟩) 1 1] (W.alloc (.cells #[.int .i64 5] 3)) (fun e w' => e = .returned (.int .i64 (hasN l 5 5 : Nat)) ∧ Below W.heap.size W w')) := fun W h => has_lit1 F w l lv hF hl W h 5 (by unfold I64; omega)
  generalize hasN l 2 3 = c2 at HH20 hR hc2
  generalize hasN l 4 4 = c4 at HHNU0 hR
  generalize hasN l 5 5 = c5 at HHDI0 hR
  have HH2 := HH20; have HHNU := HHNU0; have HHDI := HHDI0
  have HRNU0 : Hid (∀ W, Calls Try.prog 29 #[.bool (decide (0 < c4)), .int .i64 0, .int .i64 9] W (GivesI (rowI (decide (0 < c4)) 0 10) W)) := fun W => span_calls W _ 0 9 10 (by omega) (by omega) (by omega)
  have HRDI0 : Hid (∀ W, Calls Try.prog 29 #[.bool (decide (0 < c5)), .int .i64 1, .int .i64 12] W (GivesI (rowI (decide (0 < c5)) 1 12) W)) := fun W => span_calls W _ 1 12 12 (by omega) (by omega) (by omega)
  have HINU := Lib.hid (rowI_fit (decide (0 < c4)) 0 10 (by omega) (by omega))
  have HIDI := Lib.hid (rowI_fit (decide (0 < c5)) 1 12 (by omega) (by omega))
  have lNU := rowI_len (decide (0 < c4)) 0 10 (by decide)
  have lDI := rowI_len (decide (0 < c5)) 1 12 (by decide)
  generalize rowI (decide (0 < c4)) 0 10 = NU at HRNU0 HINU hR lNU
  generalize rowI (decide (0 < c5)) 1 12 = DI at HRDI0 HIDI hR lDI
  have HRNU := HRNU0; have HRDI := HRDI0
  clear HH20 HHNU0 HHDI0 HRNU0 HRDI0
  obtain ⟨N, hN⟩ : ∃ N, (if 0 < c2 then seen else [0]) = N := ⟨_, rfl⟩
  obtain ⟨S, hS⟩ : ∃ S, (if 1 < c2 then seen else [0]) = S := ⟨_, rfl⟩
  rw [hN, hS] at hR
  have hz : ∀ n ∈ ([0] : List Int), I64 n := by intro n hn; obtain rfl : n = 0 := by simpa using hn
                                                unfold I64; omega
  have HIN : Hid (∀ n ∈ N, I64 n) := by show ∀ n ∈ N, I64 n; rw [← hN]; split; exact hsi; exact hz
  have HIS : Hid (∀ n ∈ S, I64 n) := by show ∀ n ∈ S, I64 n; rw [← hS]; split; exact hsi; exact hz
  have HNN : Hid (∀ W, RdB B W seen ev → B < W.heap.size → InR W B → Calls Try.prog 28 #[.bool (decide (0 < c2)), ev] W (fun e w' => ∃ u, e = .returned u ∧ RdB B w' N u ∧ Below W.heap.size W w')) := fun W h1 h2 h3 => by
    have h9 := nounsB_calls (decide (0 < c2)) h1 h2 h3
    simp only [decide_eq_true_eq] at h9
    rw [hN] at h9
    exact h9
  have HNS : Hid (∀ W, RdB B W seen ev → B < W.heap.size → InR W B → Calls Try.prog 28 #[.bool (decide (1 < (c2 : Int))), ev] W (fun e w' => ∃ u, e = .returned u ∧ RdB B w' S u ∧ Below W.heap.size W w')) := fun W h1 h2 h3 => by
    have h9 := nounsB_calls (decide (1 < c2)) h1 h2 h3
    simp only [decide_eq_true_eq] at h9
    rw [hS, show decide (1 < c2) = decide (1 < (c2 : Int)) by rw [decide_eq_decide]; omega] at h9
    exact h9
  obtain ⟨f4, hf4⟩ : ∃ f4 : Int → Int → Int → Int → CmdD, f4 = fun x y n d => ⟨verb, x, y, n, d⟩ := ⟨_, rfl⟩
  obtain ⟨f3, hf3⟩ : ∃ f3 : Int → Int → Int → List CmdD, f3 = fun x y n => DI.map (f4 x y n) := ⟨_, rfl⟩
  obtain ⟨f2, hf2⟩ : ∃ f2 : Int → Int → List CmdD, f2 = fun x y => NU.flatMap (f3 x y) := ⟨_, rfl⟩
  obtain ⟨f1, hf1⟩ : ∃ f1 : Int → List CmdD, f1 = fun x => S.flatMap (f2 x) := ⟨_, rfl⟩
  have HQ0 : Hid (([] : List CmdF).map (fun c => c.1) ++ ((N.drop 0).flatMap f1 ++ []) = R) := by
    show _ = R
    rw [← hR, hf1, hf2, hf3, hf4]
    simp
  have HF1 : Hid (∀ x, f1 x = S.flatMap (f2 x)) := fun x => by rw [hf1]
  have HF2 : Hid (∀ x y, f2 x y = NU.flatMap (f3 x y)) := fun x y => by rw [hf2]
  have HF3 : Hid (∀ x y n, f3 x y n = DI.map (f4 x y n)) := fun x y n => by rw [hf3]
  have HF4 : Hid (∀ x y n d, f4 x y n d = ⟨verb, x, y, n, d⟩) := fun x y n d => by rw [hf4]
  have hc9 : (c2 : Int) ≤ 9223372036854775807 := by omega
  obtain ⟨hd1, hd2, hd3, hBw, hBlV, hIRV, hsvV⟩ := HST.out V (KpB.refl _ _ _)
  have HBwV := Lib.hid hBw; have HBlV := Lib.hid hBlV; have HIRV := Lib.hid hIRV; have HSV := Lib.hid hsvV
  have hnl : ∀ W, RdB B W N ev → True := fun _ _ => trivial
  have HJV := Lib.hid h0
  clear hR hf1 hf2 hf3 hf4 hN hS hz hsi hc2 hc2' hl hv hd3 hBw hBlV hIRV hsvV hnl hY hJ hJx hoV hsv hIR hno hne hbl hbs hbv hBl _hB0 hW hV h0
  refine callsIn_of_wp Try.func26 rfl trivial ?_ rfl
  simp only [Try.ntmps26, List.size_toArray, List.length_cons, List.length_nil, Nat.reduceAdd, Nat.reduceSub, Array.replicate_succ, Array.replicate_zero, List.push_toArray, List.append_toArray, List.nil_append, List.cons_append]
  gi_upto_region 1 with (first | ((first | (refine ⟨trivial, ?_⟩; gi_at_call 27; (with_reducible refine (callsIn_wide.2 (HH2.out _ HBwV.out)).mono ?_)) | (refine ⟨trivial, fun hh => (by simp [Fence.wide] at hh), ?_⟩; gi_at_call 27; (with_reducible refine (callsIn_wide.2 (HH2.out _ HBwV.out)).mono ?_))); rintro e w1 ⟨rfl, hb1⟩))
  have HKV : Hid (KpB w.heap.size B V w1) := HON.out _ _ (KpB.refl _ _ _) hb1
  have HJ1 := Lib.hid (HJH.out _ _ _ HJV.out hb1)
  clear hb1 hd1 hd2 HSV HBlV HIRV HBwV HJV HH2
  obtain ⟨hd1, hd2, hd3, hBw, hBl, hIR, hsv⟩ := HST.out _ HKV.out
  have HNC := Lib.hid (HNN.out _ hsv hBl hIR)
  clear hd1 hd3 hBw hBl hIR hsv
  gi_wp2_with (first | ((first | (refine ⟨trivial, ?_⟩; gi_at_call 28; (with_reducible refine (callsIn_wide.2 (HNC.out)).mono ?_)) | (refine ⟨trivial, fun hh => (by simp [Fence.wide] at hh), ?_⟩; gi_at_call 28; (with_reducible refine (callsIn_wide.2 (HNC.out)).mono ?_))); rintro e wa ⟨vs, rfl, hxs, hba⟩; (obtain ⟨nad, ncap, rfl⟩ := hxs.shape)))
  have hst := HON.out _ _ HKV.out hba
  have HKa := Lib.hid (HKV.out.trans hst)
  have HJa := Lib.hid (HJH.out _ _ _ HJ1.out hba)
  have HXb := Lib.hid hxs
  have lN := hxs.len
  clear hst hba hxs hd2
  gi_loopw [22] (fun i wr => ∃ (k : Nat) (pre : List CmdF), k ≤ N.length ∧ i = .int .i64 k ∧ Hid (pre.map (fun c => c.1) ++ ((N.drop k).flatMap f1 ++ []) = R) ∧ Hid (J pre wr) ∧ Hid (KpB w.heap.size B V wr) ∧ Hid (RdB B wr N (.slice nad N.length ncap))) (fun i _ => N.length - (intOf i).toNat)
  case atStart => exact ⟨0, [], Nat.zero_le _, rfl, HQ0.out, HJa.out, HKa.out, HXb.out⟩
  case round =>
    clear HNC HNN HQ0 HJa HKa HXb HJ1 HKV
    obtain ⟨k0, pre0, hk0, rfl, HQ0, HJ0, HK0, HXN0⟩ := hrel
    obtain ⟨w0r, rfl⟩ : ∃ z : World, z = wr := ⟨_, rfl⟩
    by_cases hlt0 : k0 < N.length
    rotate_left
    · have h1 : ¬ (k0 : Int) < (N.length : Int) := by omega
      have HF : Hid (pre0.map (fun c => c.1) ++ [] = R) := by
        have h9 := HQ0.out
        rwa [List.drop_eq_nil_of_le (by omega), List.flatMap_nil, List.nil_append] at h9
      gi_wp2
      go_end0
      exact ⟨⟨_, rfl⟩, .inl ⟨pre0, by have h9 := HF.out; rwa [List.append_nil] at h9, HJ0.out⟩⟩
    have h1 : (k0 : Int) < (N.length : Int) := by omega
    have h2 : (0 : Int) ≤ (k0 : Int) := by omega
    obtain ⟨b0, off0, rfl, p0⟩ := HXN0.out.get hlt0
    have hq0 := HQ0.out
    have hi0 := HIN.out _ (List.getElem_mem hlt0)
    obtain ⟨hd1, hd2, hd3, hBw, hBl, hIR, hsv⟩ := HST.out _ HK0.out
    rw [flat_drop _ _ _ hlt0, List.append_assoc, HF1.out] at hq0
    generalize N[k0] = x at p0 hq0 hi0
    generalize hT0 : (N.drop (k0 + 1)).flatMap f1 ++ [] = TL1 at hq0
    have HQN0 := Lib.hid hq0
    have HT0 := Lib.hid hT0
    clear hT0
    have HIx := Lib.hid hi0
    clear hq0 hi0
    have HBw0 := Lib.hid hBw; have HBl0 := Lib.hid hBl; have HIR0 := Lib.hid hIR
    have HNC := Lib.hid (HNS.out _ hsv hBl hIR)
    clear hd1 hd3 hBw hBl hIR hsv
    gi_wp2_with (first | ((first | (refine ⟨trivial, ?_⟩; gi_at_call 28; (with_reducible refine (callsIn_wide.2 (HNC.out)).mono ?_)) | (refine ⟨trivial, fun hh => (by simp [Fence.wide] at hh), ?_⟩; gi_at_call 28; (with_reducible refine (callsIn_wide.2 (HNC.out)).mono ?_))); rintro e wa0 ⟨vs, rfl, hxs, hba0⟩; (obtain ⟨sad, scap, rfl⟩ := hxs.shape)))
    have hst0 := HON.out _ _ HK0.out hba0
    have HKa0 := Lib.hid (HK0.out.trans hst0)
    have HJa0 := Lib.hid (HJH.out _ _ _ HJ0.out hba0)
    have HXa0 := Lib.hid (HXN0.out.step hst0)
    have HXb0 := Lib.hid hxs
    have lS := hxs.len
    clear hst0 hba0 hxs hd2 p0
    gi_loopw [31] (fun i wr => ∃ (k : Nat) (pre : List CmdF), k ≤ S.length ∧ i = .int .i64 k ∧ Hid (pre.map (fun c => c.1) ++ ((S.drop k).flatMap (f2 x) ++ TL1) = R) ∧ Hid (J pre wr) ∧ Hid (KpB w.heap.size B V wr) ∧ Hid (RdB B wr N (.slice (some ⟨b0, off0, none⟩) N.length ncap)) ∧ Hid (RdB B wr S (.slice sad S.length scap))) (fun i _ => S.length - (intOf i).toNat)
    case atStart => exact ⟨0, pre0, Nat.zero_le _, rfl, HQN0.out, HJa0.out, HKa0.out, HXa0.out, HXb0.out⟩
    case round =>
      clear HNC HJa0 HKa0 HXa0 HXb0
      obtain ⟨k1, pre1, hk1, rfl, HQ1, HJ1, HK1, HXN1, HXS1⟩ := hrel
      obtain ⟨w1r, rfl⟩ : ∃ z : World, z = wr := ⟨_, rfl⟩
      by_cases hlt1 : k1 < S.length
      rotate_left
      · have h1 : ¬ (k1 : Int) < (S.length : Int) := by omega
        have HF : Hid (pre1.map (fun c => c.1) ++ TL1 = R) := by
          have h9 := HQ1.out
          rwa [List.drop_eq_nil_of_le (by omega), List.flatMap_nil, List.nil_append] at h9
        gi_wp2
        go_roundw
        case rel => exact ⟨k0 + 1, pre1, by omega, by go_num, by rw [HT0.out]; exact HF.out, HJ1.out, HK1.out, HXN1.out⟩
        case measure => simp [intOf]; omega
      have h1 : (k1 : Int) < (S.length : Int) := by omega
      have h2 : (0 : Int) ≤ (k1 : Int) := by omega
      obtain ⟨b1, off1, rfl, p1⟩ := HXS1.out.get hlt1
      have hq1 := HQ1.out
      have hi1 := HIS.out _ (List.getElem_mem hlt1)
      obtain ⟨hd1, hd2, hd3, hBw, hBl, hIR, hsv⟩ := HST.out _ HK1.out
      rw [flat_drop _ _ _ hlt1, List.append_assoc, HF2.out x] at hq1
      generalize S[k1] = y at p1 hq1 hi1
      generalize hT1 : (S.drop (k1 + 1)).flatMap (f2 x) ++ TL1 = TL2 at hq1
      have HQN1 := Lib.hid hq1
      have HT1 := Lib.hid hT1
      clear hT1
      have HIy := Lib.hid hi1
      clear hq1 hi1
      have HBw1 := Lib.hid hBw; have HBl1 := Lib.hid hBl; have HIR1 := Lib.hid hIR
      clear hd2 hd3 hBw hBl hIR hsv
      gi_wp2_with (first | ((first | (refine ⟨trivial, ?_⟩; gi_at_call 27; (with_reducible refine (callsIn_wide.2 (HHNU.out _ HBw1.out)).mono ?_)) | (refine ⟨trivial, fun hh => (by simp [Fence.wide] at hh), ?_⟩; gi_at_call 27; (with_reducible refine (callsIn_wide.2 (HHNU.out _ HBw1.out)).mono ?_))); rintro e wa1 ⟨rfl, hba1⟩) | ((first | (refine ⟨trivial, ?_⟩; gi_at_call 29; (with_reducible refine (callsIn_wide.2 (HRNU.out _)).mono ?_)) | (refine ⟨trivial, fun hh => (by simp [Fence.wide] at hh), ?_⟩; gi_at_call 29; (with_reducible refine (callsIn_wide.2 (HRNU.out _)).mono ?_))); rintro e wb1 ⟨vr1, rfl, hor1, hbb1⟩; (obtain ⟨uad, ucap, rfl⟩ := hor1.shape)))
      have hbc1 := btK hba1 hbb1
      have hst1 := HON.out _ _ HK1.out hbc1
      have HKa1 := Lib.hid (HK1.out.trans hst1)
      have HJa1 := Lib.hid (HJH.out _ _ _ HJ1.out hbc1)
      have HXn1 : Hid (RdB B wb1 NU (.slice uad NU.length ucap)) := RdB.ofOwn hor1 (Nat.lt_of_lt_of_le HBl1.out hba1.size) (fun g hg => Nat.lt_of_lt_of_le (own_below HIR1.out HBl1.out hbc1 g hg) hba1.size)
      have HXNa1 := Lib.hid (HXN1.out.step hst1)
      have HXSa1 := Lib.hid (HXS1.out.step hst1)
      clear hst1 hbc1 hba1 hbb1 hor1 hd1 p1
      gi_loopw [41] (fun i wr => ∃ (k : Nat) (pre : List CmdF), k ≤ NU.length ∧ i = .int .i64 k ∧ Hid (pre.map (fun c => c.1) ++ ((NU.drop k).flatMap (f3 x y) ++ TL2) = R) ∧ Hid (J pre wr) ∧ Hid (KpB w.heap.size B V wr) ∧ Hid (RdB B wr N (.slice (some ⟨b0, off0, none⟩) N.length ncap)) ∧ Hid (RdB B wr S (.slice (some ⟨b1, off1, none⟩) S.length scap)) ∧ Hid (RdB B wr NU (.slice uad NU.length ucap))) (fun i _ => NU.length - (intOf i).toNat)
      case atStart => exact ⟨0, pre1, Nat.zero_le _, rfl, HQN1.out, HJa1.out, HKa1.out, HXNa1.out, HXSa1.out, HXn1.out⟩
      case round =>
        clear HJa1 HKa1 HXn1 HXNa1 HXSa1
        obtain ⟨k2, pre2, hk2, rfl, HQ2, HJ2, HK2, HXN2, HXS2, HXNU2⟩ := hrel
        obtain ⟨w2r, rfl⟩ : ∃ z : World, z = wr := ⟨_, rfl⟩
        by_cases hlt2 : k2 < NU.length
        rotate_left
        · have h1 : ¬ (k2 : Int) < (NU.length : Int) := by omega
          have HF : Hid (pre2.map (fun c => c.1) ++ TL2 = R) := by
            have h9 := HQ2.out
            rwa [List.drop_eq_nil_of_le (by omega), List.flatMap_nil, List.nil_append] at h9
          gi_wp2
          go_roundw
          case rel => exact ⟨k1 + 1, pre2, by omega, by go_num, by rw [HT1.out]; exact HF.out, HJ2.out, HK2.out, HXN2.out, HXS2.out⟩
          case measure => simp [intOf]; omega
        have h1 : (k2 : Int) < (NU.length : Int) := by omega
        have h2 : (0 : Int) ≤ (k2 : Int) := by omega
        obtain ⟨b2, off2, rfl, p2⟩ := HXNU2.out.get hlt2
        have hq2 := HQ2.out
        have hi2 := HINU.out _ (List.getElem_mem hlt2)
        obtain ⟨hd1, hd2, hd3, hBw, hBl, hIR, hsv⟩ := HST.out _ HK2.out
        rw [flat_drop _ _ _ hlt2, List.append_assoc, HF3.out x y] at hq2
        generalize NU[k2] = n at p2 hq2 hi2
        generalize hT2 : (NU.drop (k2 + 1)).flatMap (f3 x y) ++ TL2 = TL3 at hq2
        have HQN2 := Lib.hid hq2
        have HT2 := Lib.hid hT2
        clear hT2
        have HIn := Lib.hid hi2
        clear hq2 hi2
        have HBw2 := Lib.hid hBw; have HBl2 := Lib.hid hBl; have HIR2 := Lib.hid hIR
        clear hd2 hd3 hBw hBl hIR hsv
        gi_wp2_with (first | ((first | (refine ⟨trivial, ?_⟩; gi_at_call 27; (with_reducible refine (callsIn_wide.2 (HHDI.out _ HBw2.out)).mono ?_)) | (refine ⟨trivial, fun hh => (by simp [Fence.wide] at hh), ?_⟩; gi_at_call 27; (with_reducible refine (callsIn_wide.2 (HHDI.out _ HBw2.out)).mono ?_))); rintro e wa2 ⟨rfl, hba2⟩) | ((first | (refine ⟨trivial, ?_⟩; gi_at_call 29; (with_reducible refine (callsIn_wide.2 (HRDI.out _)).mono ?_)) | (refine ⟨trivial, fun hh => (by simp [Fence.wide] at hh), ?_⟩; gi_at_call 29; (with_reducible refine (callsIn_wide.2 (HRDI.out _)).mono ?_))); rintro e wb2 ⟨vr2, rfl, hor2, hbb2⟩; (obtain ⟨dad, dcap, rfl⟩ := hor2.shape)))
        have hbc2 := btK hba2 hbb2
        have hst2 := HON.out _ _ HK2.out hbc2
        have HKa2 := Lib.hid (HK2.out.trans hst2)
        have HJa2 := Lib.hid (HJH.out _ _ _ HJ2.out hbc2)
        have HXn2 : Hid (RdB B wb2 DI (.slice dad DI.length dcap)) := RdB.ofOwn hor2 (Nat.lt_of_lt_of_le HBl2.out hba2.size) (fun g hg => Nat.lt_of_lt_of_le (own_below HIR2.out HBl2.out hbc2 g hg) hba2.size)
        have HXNa2 := Lib.hid (HXN2.out.step hst2)
        have HXSa2 := Lib.hid (HXS2.out.step hst2)
        have HXNUa2 := Lib.hid (HXNU2.out.step hst2)
        clear hst2 hbc2 hba2 hbb2 hor2 hd1 p2
        gi_loopw [51] (fun i wr => ∃ (k : Nat) (pre : List CmdF), k ≤ DI.length ∧ i = .int .i64 k ∧ Hid (pre.map (fun c => c.1) ++ ((DI.drop k).map (f4 x y n) ++ TL3) = R) ∧ Hid (J pre wr) ∧ Hid (KpB w.heap.size B V wr) ∧ Hid (RdB B wr N (.slice (some ⟨b0, off0, none⟩) N.length ncap)) ∧ Hid (RdB B wr S (.slice (some ⟨b1, off1, none⟩) S.length scap)) ∧ Hid (RdB B wr NU (.slice (some ⟨b2, off2, none⟩) NU.length ucap)) ∧ Hid (RdB B wr DI (.slice dad DI.length dcap))) (fun i _ => DI.length - (intOf i).toNat)
        case atStart => exact ⟨0, pre2, Nat.zero_le _, rfl, HQN2.out, HJa2.out, HKa2.out, HXNa2.out, HXSa2.out, HXNUa2.out, HXn2.out⟩
        case round =>
          clear HJa2 HKa2 HXn2 HXNa2 HXSa2 HXNUa2
          obtain ⟨k3, pre3, hk3, rfl, HQ3, HJ3, HK3, HXN3, HXS3, HXNU3, HXDI3⟩ := hrel
          obtain ⟨w3r, rfl⟩ : ∃ z : World, z = wr := ⟨_, rfl⟩
          by_cases hlt3 : k3 < DI.length
          rotate_left
          · have h1 : ¬ (k3 : Int) < (DI.length : Int) := by omega
            have HF : Hid (pre3.map (fun c => c.1) ++ TL3 = R) := by
              have h9 := HQ3.out
              rwa [List.drop_eq_nil_of_le (by omega), List.map_nil, List.nil_append] at h9
            gi_wp2
            go_roundw
            case rel => exact ⟨k2 + 1, pre3, by omega, by go_num, by rw [HT2.out]; exact HF.out, HJ3.out, HK3.out, HXN3.out, HXS3.out, HXNU3.out⟩
            case measure => simp [intOf]; omega
          have h1 : (k3 : Int) < (DI.length : Int) := by omega
          have h2 : (0 : Int) ≤ (k3 : Int) := by omega
          obtain ⟨b3, off3, rfl, p3⟩ := HXDI3.out.get hlt3
          have hq3 := HQ3.out
          have hi3 := HIDI.out _ (List.getElem_mem hlt3)
          obtain ⟨hd1, hd2, hd3, hBw, hBl, hIR, hsv⟩ := HST.out _ HK3.out
          rw [List.drop_eq_getElem_cons hlt3, List.map_cons, List.cons_append, HF4.out] at hq3
          generalize DI[k3] = d at p3 hq3 hi3
          have HFT : CmdD.Fit ⟨verb, x, y, n, d⟩ := ⟨hver.out, HIx.out, HIy.out, HIn.out, hi3⟩
          have HQN3 : Hid ((pre3 ++ [(⟨⟨verb, x, y, n, d⟩, HFT⟩ : CmdF)]).map (fun c => c.1) ++ ((DI.drop (k3 + 1)).map (f4 x y n) ++ TL3) = R) := by
            show _ = _
            rw [List.map_append, List.append_assoc]
            exact hq3
          have HLT : Hid (pre3.length < R.length) := by
            have h9 := congrArg List.length hq3
            simp only [List.length_append, List.length_map, List.length_cons] at h9
            show _ < _
            omega
          obtain ⟨fn, tmps, assign, body, hy, hR⟩ := HY.out pre3 x y n d HFT w3r HJ3.out HLT.out
          clear hq3 hi3 hd1 hd2 hBw hBl hIR hsv
          gi_wp2
          refine ⟨fun hh => (by simp [Fence.wide] at hh), hR.mono ?_⟩
          rintro e w9 (⟨rfl, hJ9, hk9⟩ | ⟨rfl, hJx9⟩)
          · have HJ9 := Lib.hid hJ9
            have HK9 := Lib.hid hk9
            clear hJ9 hk9 hR hy
            gi_wp2
            go_roundw
            case rel => exact ⟨k3 + 1, pre3 ++ [(⟨⟨verb, x, y, n, d⟩, HFT⟩ : CmdF)], by omega, by go_num, HQN3.out, HJ9.out, HK3.out.trans HK9.out, HXN3.out.step HK9.out, HXS3.out.step HK9.out, HXNU3.out.step HK9.out, HXDI3.out.step HK9.out⟩
            case measure => simp [intOf]; omega
          · have HF : Hid ((pre3 ++ [(⟨⟨verb, x, y, n, d⟩, HFT⟩ : CmdF)]).map (fun c => c.1) <+: R) := ⟨_, HQN3.out⟩
            gi_wp2
            first
            | refine bodyPost_ret (results_none rfl _ _ _) rfl ?_
            | go_end0
            exact ⟨⟨_, rfl⟩, .inr ⟨_, HF.out, hJx9⟩⟩
end Go.Proofs.Ytapjglpiofpbmaa
