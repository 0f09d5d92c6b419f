/- The law ActsDark. Printed by gen-ac41.py. -/
import Derived.Test.YtapjglpiofpbmaaGreatAfI
import Derived.Laws.MakeOwn
namespace Go.Proofs.YtapjglpiofpbmaaGreat
open Go.RowKit Go.Sort

theorem actsC_mem {seen : List Int} {c : CmdD} : ∀ (l : List ActD) (v : Nat), c ∈ actsC seen v l → ∃ (i : Nat) (hi : i < l.length), c.verb = ((v + i : Nat) : Int) ∧ l[i].isMeta = false ∧ (c.noun = 0 ∨ c.noun ∈ seen) ∧ (c.second = 0 ∨ c.second ∈ seen)
  | [], _, h => by cases h
  | a :: l, v, h => by
    have h' : c ∈ (if a.isMeta then [] else a.lines.flatMap fun s => lineC v s seen) ++ actsC seen (v + 1) l := h
    rcases List.mem_append.1 h' with h | h
    · by_cases hm : a.isMeta = true
      · rw [if_pos hm] at h; cases h
      · rw [if_neg hm] at h
        obtain ⟨s, -, hs⟩ := List.mem_flatMap.1 h
        unfold lineC at hs
        obtain ⟨x, hx, hs⟩ := List.mem_flatMap.1 hs
        obtain ⟨y, hy, hs⟩ := List.mem_flatMap.1 hs
        obtain ⟨n, -, hs⟩ := List.mem_flatMap.1 hs
        obtain ⟨d, -, rfl⟩ := List.mem_map.1 hs
        refine ⟨0, by simp, by simp, by simpa using hm, ?_, ?_⟩
        · split at hx
          · exact .inr hx
          · exact .inl (by simpa using hx)
        · split at hy
          · exact .inr hy
          · exact .inl (by simpa using hy)
    · obtain ⟨i, hi, h1, h2, h3⟩ := actsC_mem l (v + 1) h
      exact ⟨i + 1, by simp; omega, by rw [h1]; congr 1; omega, by simpa using h2, h3⟩
/-- What is told of each of all commands. -/
theorem allC_told {t : TabD} {x : WorldD} (q : MayP t x) {c : CmdD} (h : c ∈ allC t x) : ∃ v a b : Nat, c.verb = v ∧ c.noun = a ∧ c.second = b ∧ (∃ h : v < t.acts.length, t.acts[v].isMeta = false) ∧ (a < t.things.length ∧ (a = 0 ∨ (a : Int) ∈ x.vis)) ∧ (b < t.things.length ∧ (b = 0 ∨ (b : Int) ∈ x.vis)) := by
  unfold allC at h
  have h1 := (putsC_mem.1 h).resolve_left (by simp)
  obtain ⟨i, hi, e1, e2, e3, e4⟩ := actsC_mem _ _ h1
  have hn : ∀ {z : Int}, z = 0 ∨ z ∈ x.vis → ∃ a : Nat, z = a ∧ a < t.things.length ∧ (a = 0 ∨ (a : Int) ∈ x.vis) := fun {z} hz => by
    rcases hz with rfl | hz
    · exact ⟨0, rfl, by have := q.three; omega, .inl rfl⟩
    · obtain ⟨k, rfl, -, h2⟩ := th_nat (vis_is z hz)
      exact ⟨k, rfl, by have := q.len; unfold WorldD.n at h2; omega, .inr hz⟩
  obtain ⟨a, ea, ha⟩ := hn e3
  obtain ⟨b, eb, hb⟩ := hn e4
  exact ⟨i, a, b, by rw [e1]; simp, ea, eb, ⟨hi, e2⟩, ha, hb⟩
theorem step_bl {bl : List Bool} {vis : List Int} {k : Nat} (h0 : bl[0]? = some true) (h : ∀ j (hj : j < vis.length), j < k → bl[vis[j].toNat]? = some true) (hk : k < vis.length) (hm : vis[k].toNat < bl.length) :
    (bl.set vis[k].toNat true)[0]? = some true ∧ ∀ j (hj : j < vis.length), j < k + 1 → (bl.set vis[k].toNat true)[vis[j].toNat]? = some true := by
  refine ⟨?_, fun j hj hjk => ?_⟩
  · rw [List.getElem?_set]
    by_cases e : vis[k].toNat = 0
    · rw [if_pos e, if_pos (by omega)]
    · rw [if_neg e]; exact h0
  · rw [List.getElem?_set]
    by_cases e : vis[k].toNat = vis[j].toNat
    · rw [if_pos e, if_pos hm]
    · rw [if_neg e]
      by_cases hk9 : j = k
      · subst hk9; exact absurd rfl e
      · exact h j hj (by omega)
theorem wpList_make {P : Program} {ops : Array Oper} {rest : List Oper} {o : Oper} {a : Act} {w w' : World} {Q : Exit → Act → World → Prop} (t : TypeId) (x y : Operand) (ho : o.op = .makeSlice t x y) (hgd : o.guard = none) (v1 v2 v : Value) (hx : a.eval x = v1) (hy : a.eval y = v2)
    (hL : (Instr.makeSlice t v1 v2).run P w = .ok v w') (h : wpList P ops Q rest (a.put o.dst v) w') : wpList P ops Q (o :: rest) a w := by
  refine wpList_plain hgd fun K hK => ?_
  unfold Oper.wp
  simp [execOp, ho, hx, hy, hL, Result.andThen]
  exact hK _ _ h
theorem madeCells_bool (n : Nat) : madeCells #[Value.bool false] n = Array.replicate n (Value.bool false) := by
  unfold madeCells
  have h : (fun i => (#[Value.bool false] : Array Value)[i % (#[Value.bool false] : Array Value).size]!) = fun _ => Value.bool false := by
    funext i
    simp [Nat.mod_one]
  rw [h]
  apply Array.ext'
  simp [List.map_const']
theorem makeB (W : World) (n : Nat) (hn : n ≤ 128) : (Instr.makeSlice 41 (.int .i64 n) (.int .i64 n)).run Tryz.prog W = .ok (.slice (some ⟨W.heap.size, 0, none⟩) n n) (W.alloc (.cells (Array.replicate n (Value.bool false)) 4)) := by
  have hq : (Tryz.prog.info? 4).map (fun i => (i.zero, i.size, i.bytes)) = some (some (.bool false), 1, 1) := by kernel_rfl
  cases hi : Tryz.prog.info? 4 with
  | none => rw [hi] at hq; cases hq
  | some i =>
    rw [hi] at hq
    simp only [Option.map_some, Option.some.injEq, Prod.mk.injEq] at hq
    obtain ⟨h1, h2, h3⟩ := hq
    have h := run_makeSlice (P := Tryz.prog) (w := W) 41 4 i (.bool false) Tryz.underlying41 hi h1 .i64 .i64 (n : Int) (n : Int) (by omega) (Int.le_refl _) (by rw [h2]; simp; omega) (by rw [h3]; simp; omega) (by omega)
    rw [h2] at h
    simp only [Int.toNat_natCast, Nat.mul_one] at h
    rw [h, show Value.cells (.bool false) = #[Value.bool false] from rfl, madeCells_bool]
theorem BoxT.setB {W : World} {B : Nat} {bl : List Bool} {T : TypeId} (h : BoxT W B (bl.map .bool) T) (k : Nat) : BoxT (W.setCell ⟨B, k, none⟩ (.bool true)) B ((bl.set k true).map .bool) T := by
  have h1 := setCell_eq_setRow W B k (bl.map Value.bool).toArray T (0, 0) (.bool true) h
  show (W.setCell ⟨B, k, none⟩ (.bool true)).heap[B]? = _
  rw [h1, setRow_heap W B _ _ T (0, 0) h]
  simp
theorem BoxT.frz {W : World} {B : Nat} {cs : List Value} {T : TypeId} (h : BoxT W B cs T) (k : Nat) : W.frozen? ⟨B, k, none⟩ = false := by simp [World.frozen?, show W.heap[B]? = _ from h]
theorem BoxT.atB {W : World} {B : Nat} {bl : List Bool} {T : TypeId} (h : BoxT W B (bl.map .bool) T) {k : Nat} {b : Bool} (hk : bl[k]? = some b) : W.cell? ⟨B, k, none⟩ = some (.bool b) := by
  rw [h.cell', List.getElem?_map, hk]
  rfl
set_option maxRecDepth 100000 in
set_option maxHeartbeats 8000000 in
theorem actsDark_calls (F : Nat → Prop) (w : World) (t : TabD) (x : WorldD) (cs ds : List Value) (hF : Inn F w) (ht : Holds.tab.R F w t cs) (hx : Holds.world.R F w x ds) : Calls Tryz.prog 5 #[.agg cs.toArray, .agg ds.toArray] w (Gives w (.bool true)) := by
  have HMA0 := Lib.hid (fun (W : World) (h : Below w.heap.size w W) => may_some F W t x cs ds (fun b hb => Nat.lt_of_lt_of_le (hF b hb) h.size) (Holds.tab.keep (fun b hb => h.block b (hF b hb)) (fun _ h => h) ht) (Holds.world.keep (fun b hb => h.block b (hF b hb)) (fun _ h => h) hx))
  have HAL0 := Lib.hid (fun (W : World) (h : Below w.heap.size w W) (q : MayP t x) => allP_calls F W t x cs ds (fun b hb => Nat.lt_of_lt_of_le (hF b hb) h.size) (Holds.tab.keep (fun b hb => h.block b (hF b hb)) (fun _ h => h) ht) (Holds.world.keep (fun b hb => h.block b (hF b hb)) (fun _ h => h) hx) q.nest q.few q.flags q.pos q.acts q.lines)
  have HVI0 := Lib.hid (fun (W : World) (h : Below w.heap.size w W) (q : MayP t x) => visible23_calls F W t x cs ds (fun b hb => Nat.lt_of_lt_of_le (hF b hb) h.size) (Holds.tab.keep (fun b hb => h.block b (hF b hb)) (fun _ h => h) ht) (Holds.world.keep (fun b hb => h.block b (hF b hb)) (fun _ h => h) hx) q.nest q.few)
  have HLI0 := Lib.hid (fun (W : World) (h : Below w.heap.size w W) (q : MayP t x) => lit23_calls F W t x cs ds (fun b hb => Nat.lt_of_lt_of_le (hF b hb) h.size) (Holds.tab.keep (fun b hb => h.block b (hF b hb)) (fun _ h => h) ht) (Holds.world.keep (fun b hb => h.block b (hF b hb)) (fun _ h => h) hx) q.nest q.few)
  have HCA0 := Lib.hid (fun (W : World) (h : Below w.heap.size w W) (q : MayP t x) => carried23_calls F W t x cs ds (fun b hb => Nat.lt_of_lt_of_le (hF b hb) h.size) (Holds.tab.keep (fun b hb => h.block b (hF b hb)) (fun _ h => h) ht) (Holds.world.keep (fun b hb => h.block b (hF b hb)) (fun _ h => h) hx) q.nest q.few)
  have HAW := Lib.hid awake_calls
  have HTD := Lib.hid (fun (q : MayP t x) (c : CmdD) (h : c ∈ allC t x) => allC_told q h)
  have HVS : Hid (∀ z ∈ x.vis, IsTh x.n z) := vis_is
  have HVQ : Hid (x.lit = false → x.reach 1 = x.vis) := fun h => by unfold WorldD.vis; rw [if_neg (by rw [h]; decide)]
  generalize allC t x = l at HAL0 HTD
  obtain ⟨i0, i1, i2, i3, i5, v4, v6, v7, v8, v9, v10, v11, v12, v13, v14, rfl, g4, g6, g7, g8, g9, g10, g11, g12, g13, g14⟩ := ht
  obtain ⟨ad4, ca4, rfl⟩ := g4.shape
  obtain ⟨ad6, ca6, rfl⟩ := g6.shape
  obtain ⟨ad7, ca7, rfl⟩ := g7.shape
  obtain ⟨ad8, ca8, rfl⟩ := g8.shape
  obtain ⟨ad9, ca9, rfl⟩ := g9.shape
  obtain ⟨ad10, ca10, rfl⟩ := g10.shape
  obtain ⟨ad11, ca11, rfl⟩ := g11.shape
  obtain ⟨ad12, ca12, rfl⟩ := g12.shape
  obtain ⟨ad13, ca13, rfl⟩ := g13.shape
  obtain ⟨ad14, ca14, rfl⟩ := g14.shape
  have ln4 := g4.len
  have ln6 := g6.len
  have ln7 := g7.len
  have ln8 := g8.len
  have ln9 := g9.len
  have ln10 := g10.len
  have ln11 := g11.len
  have ln12 := g12.len
  have ln13 := g13.len
  have ln14 := g14.len
  unfold maxLen at ln4 ln6 ln7 ln8 ln9 ln10 ln11 ln12 ln13 ln14
  obtain ⟨-, -, -, -, -, -, wv0, wv1, wv2, wv3, wv4, wv5, wv6, rfl, wg0, wg1, wg2, wg3, wg4, wg5, wg6⟩ := hx
  obtain ⟨wa0, wc0, rfl⟩ := wg0.shape
  have wl0 := wg0.len
  obtain ⟨wa1, wc1, rfl⟩ := wg1.shape
  have wl1 := wg1.len
  obtain ⟨wa2, wc2, rfl⟩ := wg2.shape
  have wl2 := wg2.len
  obtain ⟨wa3, wc3, rfl⟩ := wg3.shape
  have wl3 := wg3.len
  obtain ⟨wa4, wc4, rfl⟩ := wg4.shape
  have wl4 := wg4.len
  obtain ⟨wa5, wc5, rfl⟩ := wg5.shape
  have wl5 := wg5.len
  obtain ⟨wa6, wc6, rfl⟩ := wg6.shape
  have wl6 := wg6.len
  unfold maxLen at wl0 wl1 wl2 wl3 wl4 wl5 wl6
  obtain ⟨a8, c8, he8, -, -, hA8⟩ := RdL.elem g8 hF
  cases he8
  have HA8 := Lib.hid hA8
  clear hA8
  obtain ⟨a9, c9, he9, -, -, hA9⟩ := RdL.elem g9 hF
  cases he9
  have HA9 := Lib.hid hA9
  clear hA9
  clear g4 g6 g7 g8 g9 g10 g11 g12 g13 g14 wg0 wg1 wg2 wg3 wg4 wg5 wg6
  clear i0 i1 i2 i3 i5
  obtain ⟨W1, hW1⟩ : ∃ z, w.alloc (.cells #[.int .i64 t.title, .int .i64 t.byl, .int .i64 t.release, .int .i64 t.most, .slice ad4 t.texts.length ca4, .int .i64 t.flags, .slice ad6 t.props.length ca6, .slice ad7 t.globals.length ca7, .slice ad8 t.things.length ca8, .slice ad9 t.acts.length ca9, .slice ad10 t.deeds.length ca10, .slice ad11 t.funcs.length ca11, .slice ad12 t.daemons.length ca12, .slice ad13 t.params.length ca13, .slice ad14 t.locals.length ca14] 28) = z := ⟨_, rfl⟩
  obtain ⟨W2, hW2⟩ : ∃ z, W1.alloc (.cells #[.slice wa0 x.globals.length wc0, .slice wa1 x.parent.length wc1, .slice wa2 x.child.length wc2, .slice wa3 x.next.length wc3, .slice wa4 x.flags.length wc4, .slice wa5 x.props.length wc5, .slice wa6 x.timers.length wc6, .int .u64 x.seed, .int .i64 x.score, .int .i64 x.turns, .int .i64 x.over, .int .i64 x.it, .int .i64 x.go] 31) = z := ⟨_, rfl⟩
  have hz1 : W1.heap.size = w.heap.size + 1 := by rw [← hW1]; simp
  have hb1 : Below w.heap.size w W1 := by rw [← hW1]; exact (Below.refl _ _).alloc (Nat.le_refl _) _
  have hb2 : Below W1.heap.size W1 W2 := by rw [← hW2]; exact (Below.refl _ _).alloc (Nat.le_refl _) _
  have hx1 : BoxT W1 w.heap.size [.int .i64 t.title, .int .i64 t.byl, .int .i64 t.release, .int .i64 t.most, .slice ad4 t.texts.length ca4, .int .i64 t.flags, .slice ad6 t.props.length ca6, .slice ad7 t.globals.length ca7, .slice ad8 t.things.length ca8, .slice ad9 t.acts.length ca9, .slice ad10 t.deeds.length ca10, .slice ad11 t.funcs.length ca11, .slice ad12 t.daemons.length ca12, .slice ad13 t.params.length ca13, .slice ad14 t.locals.length ca14] 28 := by rw [← hW1]; exact BoxT.new _ _ _
  have hx2 : BoxT W2 (w.heap.size + 1) [.slice wa0 x.globals.length wc0, .slice wa1 x.parent.length wc1, .slice wa2 x.child.length wc2, .slice wa3 x.next.length wc3, .slice wa4 x.flags.length wc4, .slice wa5 x.props.length wc5, .slice wa6 x.timers.length wc6, .int .u64 x.seed, .int .i64 x.score, .int .i64 x.turns, .int .i64 x.over, .int .i64 x.it, .int .i64 x.go] 31 := by rw [← hz1, ← hW2]; exact BoxT.new _ _ _
  have HXt := Lib.hid (hx1.below hb2); have HXv := Lib.hid hx2; have HBv := Lib.hid (btK hb1 hb2)
  have HW1 := Lib.hid hW1; have HW2 := Lib.hid hW2
  have hs2 : W2.heap.size = W1.heap.size + 1 := by rw [← hW2]; simp
  rw [hz1] at hs2
  have HS2 := Lib.hid hs2
  clear hs2
  clear hW1 hW2 hz1 hb1 hb2 hx1 hx2
  go_enter Tryz.func5, Tryz.ntmps5
  go_upto_region 1 with fail
  rw [HW1.out, HW2.out]
  obtain ⟨TV, hTV⟩ : ∃ v, Value.agg #[.int .i64 t.title, .int .i64 t.byl, .int .i64 t.release, .int .i64 t.most, .slice ad4 t.texts.length ca4, .int .i64 t.flags, .slice ad6 t.props.length ca6, .slice ad7 t.globals.length ca7, .slice ad8 t.things.length ca8, .slice ad9 t.acts.length ca9, .slice ad10 t.deeds.length ca10, .slice ad11 t.funcs.length ca11, .slice ad12 t.daemons.length ca12, .slice ad13 t.params.length ca13, .slice ad14 t.locals.length ca14] = v := ⟨_, rfl⟩
  obtain ⟨WV, hWV⟩ : ∃ v, Value.agg #[.slice wa0 x.globals.length wc0, .slice wa1 x.parent.length wc1, .slice wa2 x.child.length wc2, .slice wa3 x.next.length wc3, .slice wa4 x.flags.length wc4, .slice wa5 x.props.length wc5, .slice wa6 x.timers.length wc6, .int .u64 x.seed, .int .i64 x.score, .int .i64 x.turns, .int .i64 x.over, .int .i64 x.it, .int .i64 x.go] = v := ⟨_, rfl⟩
  have HLT : Hid (∀ W, BoxT W w.heap.size [.int .i64 t.title, .int .i64 t.byl, .int .i64 t.release, .int .i64 t.most, .slice ad4 t.texts.length ca4, .int .i64 t.flags, .slice ad6 t.props.length ca6, .slice ad7 t.globals.length ca7, .slice ad8 t.things.length ca8, .slice ad9 t.acts.length ca9, .slice ad10 t.deeds.length ca10, .slice ad11 t.funcs.length ca11, .slice ad12 t.daemons.length ca12, .slice ad13 t.params.length ca13, .slice ad14 t.locals.length ca14] 28 → (Instr.loadAt 28 (.pointer (some ⟨w.heap.size, 0, none⟩))).run Tryz.prog W = .ok TV W) := fun W h => by
    rw [← hTV]
    exact run_loadAt_mid W _ 0 28 _ _ h.range Tryz.underlying28 rfl (by kernel_rfl)
  have HLW : Hid (∀ W, BoxT W (w.heap.size + 1) [.slice wa0 x.globals.length wc0, .slice wa1 x.parent.length wc1, .slice wa2 x.child.length wc2, .slice wa3 x.next.length wc3, .slice wa4 x.flags.length wc4, .slice wa5 x.props.length wc5, .slice wa6 x.timers.length wc6, .int .u64 x.seed, .int .i64 x.score, .int .i64 x.turns, .int .i64 x.over, .int .i64 x.it, .int .i64 x.go] 31 → (Instr.loadAt 31 (.pointer (some ⟨w.heap.size + 1, 0, none⟩))).run Tryz.prog W = .ok WV W) := fun W h => by
    rw [← hWV]
    exact run_loadAt_mid W _ 0 31 _ _ h.range Tryz.underlying31 rfl (by kernel_rfl)
  rw [hTV, hWV]
  clear HW1 HW2
  clear ln4 ln6 ln7 ln8 ln9 ln10 ln11 ln12 ln13 ln14 wl0 wl1 wl2 wl3 wl4 wl5 wl6
  have HMA := Lib.hid HMA0.out; have HAL := Lib.hid HAL0.out; have HVI := Lib.hid HVI0.out; have HLI := Lib.hid HLI0.out; have HCA := Lib.hid HCA0.out
  rw [hWV, hTV] at HMA HAL HVI HLI HCA
  clear hTV hWV HMA0 HAL0 HVI0 HLI0 HCA0
  go_cut [14] (fun v wc => ∃ b : Bool, v = .bool (!b) ∧ (b = true → MayP t x) ∧ Below W2.heap.size W2 wc)
  case first =>
    go_wp2_with (first | ((with_reducible refine wpList_load_T 28 (.tmp 2) ?hw9 ⟨w.heap.size, 0, none⟩ ?hx9 TV (HLT.out _ HXt.out) ?_); (case hw9 => rfl); (case hx9 => first | rfl | (exact rfl))) | ((with_reducible refine wpList_load_T 31 (.tmp 3) ?hw9 ⟨w.heap.size + 1, 0, none⟩ ?hx9 WV (HLW.out _ HXv.out) ?_); (case hw9 => rfl); (case hx9 => first | rfl | (exact rfl))) | (go_at_call 6; (with_reducible refine (HMA.out _ HBv.out).mono ?_); rintro e w1 ⟨b, rfl, hq1, hb1⟩))
    go_meet
    exact ⟨b, rfl, hq1, hb1⟩
  case rest =>
    obtain ⟨b, rfl, hq, hb⟩ := hcut
    have HXt := Lib.hid (HXt.out.below hb); have HXv := Lib.hid (HXv.out.below hb); have HBv := Lib.hid (btK HBv.out hb)
    cases b
    · clear hq hb
      go_wp2_with (first | (go_at_call 7; (with_reducible refine (HAW.out _).mono ?_); rintro e w2 ⟨rfl, hb2⟩))
      go_ret
      exact ⟨rfl, btK HBv.out hb2⟩
    have HQ := Lib.hid (hq rfl)
    clear hq hb
    have h3 := HQ.out.three
    have h8 : t.things.length ≤ 128 := by rw [← HQ.out.len]; exact HQ.out.few
    have hxn : x.n = t.things.length := HQ.out.len
    go_upto_region 4 with (first | ((with_reducible refine wpList_load_T 28 (.tmp 2) ?hw9 ⟨w.heap.size, 0, none⟩ ?hx9 TV (HLT.out _ HXt.out) ?_); (case hw9 => rfl); (case hx9 => first | rfl | (exact rfl))) | ((with_reducible refine wpList_load_T 31 (.tmp 3) ?hw9 ⟨w.heap.size + 1, 0, none⟩ ?hx9 WV (HLW.out _ HXv.out) ?_); (case hw9 => rfl); (case hx9 => first | rfl | (exact rfl))) | (go_at_call 13; (with_reducible refine (HVI.out _ HBv.out HQ.out).mono ?_); rintro e w2 ⟨sv, rfl, hown, hb2⟩))
    have hown9 : OwnI (w.heap.size + 1) w2 x.vis sv := hown.lower (by have := HBv.out.size; omega)
    have HOV := Lib.hid hown9
    clear hown9
    have HXt := Lib.hid (HXt.out.below hb2); have HXv := Lib.hid (HXv.out.below hb2); have HBv := Lib.hid (btK HBv.out hb2)
    clear hown hb2
    obtain ⟨lit, hlit⟩ : ∃ q, x.lit = q := ⟨_, rfl⟩
    rw [hlit] at HLI HVQ
    clear hlit
    go_upto_if 22 with (first | ((with_reducible refine wpList_load_T 28 (.tmp 2) ?hw9 ⟨w.heap.size, 0, none⟩ ?hx9 TV (HLT.out _ HXt.out) ?_); (case hw9 => rfl); (case hx9 => first | rfl | (exact rfl))) | ((with_reducible refine wpList_load_T 31 (.tmp 3) ?hw9 ⟨w.heap.size + 1, 0, none⟩ ?hx9 WV (HLW.out _ HXv.out) ?_); (case hw9 => rfl); (case hx9 => first | rfl | (exact rfl))) | (go_at_call 14; (with_reducible refine (HLI.out _ HBv.out HQ.out).mono ?_); rintro e wd ⟨rfl, hb3⟩))
    have HOV := Lib.hid (HOV.out.below hb3)
    have HXt := Lib.hid (HXt.out.below hb3); have HXv := Lib.hid (HXv.out.below hb3); have HBv := Lib.hid (btK HBv.out hb3)
    clear hb3
    go_cut [5] (fun v w5 => OwnI (w.heap.size + 1) w5 x.vis v ∧ Below wd.heap.size wd w5)
    case first =>
      cases lit
      · have HVR := Lib.hid (HVQ.out rfl)
        clear HVQ
        go_wp2_with (first | ((with_reducible refine wpList_load_T 28 (.tmp 2) ?hw9 ⟨w.heap.size, 0, none⟩ ?hx9 TV (HLT.out _ HXt.out) ?_); (case hw9 => rfl); (case hx9 => first | rfl | (exact rfl))) | ((with_reducible refine wpList_load_T 31 (.tmp 3) ?hw9 ⟨w.heap.size + 1, 0, none⟩ ?hx9 WV (HLW.out _ HXv.out) ?_); (case hw9 => rfl); (case hx9 => first | rfl | (exact rfl))) | (go_at_call 15; (with_reducible refine (HCA.out _ HBv.out HQ.out).mono ?_); rintro e w4 ⟨cv, rfl, hown, hb4⟩))
        go_meet
        exact ⟨by rw [← HVR.out]; exact hown.lower (by have := HBv.out.size; omega), hb4⟩
      · go_wp2_with fail
        go_meet
        exact ⟨HOV.out, Below.refl _ _⟩
    case rest =>
    obtain ⟨w5, rfl⟩ : ∃ z : World, z = wc := ⟨_, rfl⟩
    clear HOV HVQ HLI HCA HVI HMA
    obtain ⟨hown, hb5⟩ := hcut
    have HXt := Lib.hid (HXt.out.below hb5); have HXv := Lib.hid (HXv.out.below hb5); have HBv := Lib.hid (btK HBv.out hb5)
    have HB5 := Lib.hid HBv.out
    obtain ⟨va, vc, rfl, -, -, hvel⟩ := RdInts.elem hown.rdl (newB_inn _ w5)
    have HVE := Lib.hid hvel
    have hvl := hown.rdl.len
    unfold maxLen at hvl
    clear hown hb5 hvel
    have y8 := HXt.out.cell 8
    simp only [List.getElem?_cons_succ, List.getElem?_cons_zero] at y8
    go_upto_region 7 with (first | ((with_reducible refine wpList_make 41 (.tmp 28) (.tmp 28) ?ho9 ?hg9 (.int .i64 t.things.length) (.int .i64 t.things.length) _ ?hx9 ?hy9 (makeB _ _ h8) ?_); (case ho9 => rfl); (case hg9 => rfl); (case hx9 => first | rfl | exact rfl); (case hy9 => first | rfl | exact rfl)))
    obtain ⟨W6, hW6⟩ : ∃ z, w5.alloc (.cells (Array.replicate t.things.length (Value.bool false)) 4) = z := ⟨_, rfl⟩
    rw [hW6]
    have hx6 : BoxT W6 w5.heap.size ((List.replicate t.things.length false).map .bool) 4 := by rw [← hW6, List.map_replicate, ← List.toArray_replicate]; exact BoxT.new _ _ _
    have hb6 : Below w5.heap.size w5 W6 := by rw [← hW6]; exact (Below.refl _ _).alloc (Nat.le_refl _) _
    have d0 := hx6.atB (k := 0) (b := false) (by rw [List.getElem?_replicate, if_pos (by omega)])
    have f0 := hx6.frz 0
    have e0 : (0 : Int) < (t.things.length : Int) := by omega
    have HX6 := Lib.hid hx6; have HB6 := Lib.hid hb6
    clear hW6 hx6 hb6 y8
    go_upto_region 8 with fail
    obtain ⟨W7, hW7⟩ : ∃ z, W6.setCell ⟨w5.heap.size, 0, none⟩ (.bool true) = z := ⟨_, rfl⟩
    rw [hW7]
    have HX7 : Hid (BoxT W7 w5.heap.size (((List.replicate t.things.length false).set 0 true).map .bool) 4) := by rw [← hW7]; exact HX6.out.setB 0
    have HB7 : Hid (Below w5.heap.size w5 W7) := by rw [← hW7]; exact HB6.out.setCell (p := ⟨w5.heap.size, 0, none⟩) (Nat.le_refl _) _
    clear hW7 HX6 HB6 d0 f0
    go_wp2
    go_loopw [34] (fun i wr => ∃ k : Nat, k ≤ x.vis.length ∧ i = .int .i64 k ∧ ∃ bl : List Bool, bl.length = t.things.length ∧ Hid (BoxT wr w5.heap.size (bl.map .bool) 4) ∧ Hid (bl[0]? = some true ∧ ∀ j (hj : j < x.vis.length), j < k → bl[x.vis[j].toNat]? = some true) ∧ Below w5.heap.size w5 wr) (fun i _ => x.vis.length - (intOf i).toNat)
    case atStart => exact ⟨0, Nat.zero_le _, rfl, _, by simp, HX7.out, ⟨by rw [List.getElem?_set_self (by simp; omega)], fun j _ h => by omega⟩, HB7.out⟩
    case round =>
    clear HX7 HB7
    obtain ⟨k, hk, rfl, bl, hbl, HXB, HBL, hB⟩ := hrel
    have HB := Lib.hid hB
    clear hB
    obtain ⟨wo, rfl⟩ : ∃ z : World, z = wr := ⟨_, rfl⟩
    by_cases hlt : k < x.vis.length
    · have h1 : (k : Int) < (x.vis.length : Int) := by omega
      have h2 : (0 : Int) ≤ (k : Int) := by omega
      obtain ⟨vb, voff, rfl, hve⟩ := HVE.out (by omega)
      have q0 := hve _ HB.out k hlt
      obtain ⟨m, hm, m1, m2⟩ := th_nat (HVS.out _ (List.getElem_mem hlt))
      have hmt : x.vis[k].toNat = m := by rw [hm]; rfl
      have hst := step_bl HBL.out.1 HBL.out.2 hlt (by rw [hmt, hbl]; omega)
      rw [hmt] at hst
      have HST := Lib.hid hst
      rw [hm] at q0
      have e1 : (0 : Int) ≤ (m : Int) := by omega
      have e2 : (m : Int) < (t.things.length : Int) := by omega
      have d1 := HXB.out.atB (k := m) (b := bl[m]'(by omega)) (List.getElem?_eq_getElem _)
      have f1 := HXB.out.frz m
      generalize bl[m]'(by omega) = ob at d1
      clear hst hm hmt hve
      go_wp2
      go_roundw
      case rel => exact ⟨k + 1, by omega, by go_num, bl.set m true, by simp [hbl], HXB.out.setB m, HST.out, HB.out.setCell (p := ⟨w5.heap.size, m, none⟩) (Nat.le_refl _) _⟩
      case measure => simp [intOf] <;> omega
    have h1 : ¬ (k : Int) < (x.vis.length : Int) := by omega
    have HALL : Hid (∀ a : Nat, a < t.things.length → (a = 0 ∨ (a : Int) ∈ x.vis) → bl[a]? = some true) := fun a _ h => by
      rcases h with rfl | h
      · exact HBL.out.1
      · obtain ⟨j, hj, e⟩ := List.getElem_of_mem h
        have h9 := HBL.out.2 j hj (by omega)
        rw [e] at h9
        exact h9
    clear HBL
    have HXt := Lib.hid (HXt.out.below HB.out); have HXv := Lib.hid (HXv.out.below HB.out); have HBv := Lib.hid (btK HBv.out HB.out)
    go_wp2_with (first | ((with_reducible refine wpList_load_T 28 (.tmp 2) ?hw9 ⟨w.heap.size, 0, none⟩ ?hx9 TV (HLT.out _ HXt.out) ?_); (case hw9 => rfl); (case hx9 => first | rfl | (exact rfl))) | ((with_reducible refine wpList_load_T 31 (.tmp 3) ?hw9 ⟨w.heap.size + 1, 0, none⟩ ?hx9 WV (HLW.out _ HXv.out) ?_); (case hw9 => rfl); (case hx9 => first | rfl | (exact rfl))) | (go_at_call 9; (with_reducible refine (HAL.out _ HBv.out HQ.out).mono ?_); rintro e w6 ⟨lv, rfl, hown, hb6⟩; (obtain ⟨la, lc, rfl, -, -, hlel⟩ := RdL.elem hown.rdl (newB_inn _ w6)); have hll := hown.rdl.len))
    unfold maxLen at hll
    have HLE := Lib.hid hlel
    have HXB6 := Lib.hid (HXB.out.below hb6); have HXt6 := Lib.hid (HXt.out.below hb6); have HB6 := Lib.hid (btK HBv.out hb6)
    clear hown hlel hb6 HXB
    go_loopw [46] (fun i wr => ∃ k : Nat, k ≤ l.length ∧ i = .int .i64 k ∧ Below w6.heap.size w6 wr) (fun i _ => l.length - (intOf i).toNat)
    case atStart => exact ⟨0, Nat.zero_le _, rfl, Below.refl _ _⟩
    case round =>
    obtain ⟨k2, hk2, rfl, hB⟩ := hrel
    have HBR := Lib.hid hB
    clear hB
    obtain ⟨wp, rfl⟩ : ∃ z : World, z = wr := ⟨_, rfl⟩
    by_cases hlt2 : k2 < l.length
    rotate_left
    · have h9 : ¬ (k2 : Int) < (l.length : Int) := by omega
      go_wp2_with (first | (go_at_call 7; (with_reducible refine (HAW.out _).mono ?_); rintro e w2 ⟨rfl, hb2⟩))
      go_ret
      exact ⟨rfl, btK HB6.out (btK HBR.out hb2)⟩
    have g1 : (k2 : Int) < (l.length : Int) := by omega
    have g2 : (0 : Int) ≤ (k2 : Int) := by omega
    obtain ⟨bA, offA, rfl, helA⟩ := HLE.out (by omega)
    obtain ⟨xA, -, ⟨-, -, -, -, -, rfl⟩, hrA⟩ := helA k2 hlt2
    have hrg := hrA _ HBR.out
    obtain ⟨v, a, b, ev, ea, eb, ⟨hv, hmeta⟩, ⟨ha, ha2⟩, ⟨hb, hb2⟩⟩ := HTD.out HQ.out l[k2] (List.getElem_mem hlt2)
    rw [ev, ea, eb] at hrg
    generalize l[k2].number = nu at hrg
    generalize l[k2].dir = di at hrg
    have c0 := hrg 0 _ rfl; have c1 := hrg 1 _ rfl; have c2 := hrg 2 _ rfl; have c3 := hrg 3 _ rfl; have c4 := hrg 4 _ rfl
    simp only [Nat.add_zero] at c0
    have hba := HALL.out a ha ha2
    have hbb := HALL.out b hb hb2
    clear hrg hrA helA ev ea eb
    go_upto_region 16 with fail
    obtain ⟨W8, hW8⟩ : ∃ z, wp.alloc (.cells #[.int .i64 v, .int .i64 a, .int .i64 b, .int .i64 nu, .int .i64 di] 38) = z := ⟨_, rfl⟩
    rw [hW8]
    have hb8 : Below wp.heap.size wp W8 := by rw [← hW8]; exact (Below.refl _ _).alloc (Nat.le_refl _) _
    have hx8 : BoxT W8 wp.heap.size [.int .i64 v, .int .i64 a, .int .i64 b, .int .i64 nu, .int .i64 di] 38 := by rw [← hW8]; exact BoxT.new _ _ _
    have hb68 := btK HBR.out hb8
    have z0 := hx8.cell 0
    have z1 := hx8.cell 1
    have z2 := hx8.cell 2
    have y9 := (HXt6.out.below hb68).cell 9
    simp only [List.getElem?_cons_succ, List.getElem?_cons_zero] at z0 z1 z2 y9
    have da := (HXB6.out.below hb68).atB hba
    have db := (HXB6.out.below hb68).atB hbb
    obtain ⟨b9, off9, rfl, hel9⟩ := HA9.out (by omega)
    obtain ⟨xs9, -, ⟨lv9, rfl, -⟩, hrg9⟩ := hel9 v hv
    have p9 := hrg9 _ (btK HB6.out hb68) 0 _ rfl
    rw [hmeta] at p9
    simp only [Nat.add_zero] at p9
    have k1 : ¬ (a : Int) < 0 := by omega
    have k2' : ¬ (t.things.length : Int) ≤ (a : Int) := by omega
    have k3 : ¬ (b : Int) < 0 := by omega
    have k4 : ¬ (t.things.length : Int) ≤ (b : Int) := by omega
    have k5 : ¬ (v : Int) < 0 := by omega
    have k6 : ¬ (t.acts.length : Int) ≤ (v : Int) := by omega
    have k7 : (0 : Int) ≤ (a : Int) := by omega
    have k8 : (0 : Int) ≤ (b : Int) := by omega
    have k9 : (0 : Int) ≤ (v : Int) := by omega
    have j7 : (a : Int) < (t.things.length : Int) := by omega
    have j8 : (b : Int) < (t.things.length : Int) := by omega
    have j9 : (v : Int) < (t.acts.length : Int) := by omega
    have HB8 := Lib.hid hb68
    clear hW8 hb8 hx8 hb68 hba hbb hel9 hrg9 hmeta c0 c1 c2 c3 c4
    go_wp2
    go_roundw
    case rel => exact ⟨k2 + 1, by omega, by go_num, HB8.out⟩
    case measure => simp [intOf] <;> omega
end Go.Proofs.YtapjglpiofpbmaaGreat
