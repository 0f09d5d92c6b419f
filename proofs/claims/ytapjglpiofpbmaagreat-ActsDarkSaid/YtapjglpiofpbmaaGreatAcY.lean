/- clewref19's things. Printed by gen-ac6.py. -/
import Derived.Test.YtapjglpiofpbmaaGreatPart3e386472
import Derived.Test.YtapjglpiofpbmaaGreatTake
namespace Go.Proofs.YtapjglpiofpbmaaGreat
open Go.RowKit Go.Sort

/-- A slice's elements, read in any later world. -/
theorem RdL.elem {α : Type} {H : Holds α} {sz : Nat} {F : Nat → Prop} {w : World} {l : List α} {v : Value} (h : RdL H sz F w l v) (hF : Inn F w) : ∃ a cap, v = .slice a l.length cap ∧ l.length ≤ cap ∧ cap ≤ maxLen ∧ (0 < l.length → ∃ b off, a = some ⟨b, off, none⟩ ∧ ∀ k (hk : k < l.length), ∃ xs : List Value, xs.length = sz ∧ H.R F w l[k] xs ∧ ∀ W, Below w.heap.size w W → W.rangeAt b (off + k * sz) xs) := by
  obtain ⟨a, cap, rfl, h1, h2, h3⟩ := h.opn
  refine ⟨a, cap, rfl, h1, h2, fun h0 => ?_⟩
  obtain ⟨b, off, rfl, hb, hc⟩ := h3 h0
  refine ⟨b, off, rfl, fun k hk => ?_⟩
  obtain ⟨xs, q1, q2, q3⟩ := hc w rfl k hk
  exact ⟨xs, q2, q1, fun W hW j u hj => (hW.cell (p := ⟨b, off + k * sz + j, none⟩) (hF b hb)).trans (q3 j u hj)⟩
theorem load_run {P : Program} {a : Act} {oi : Oper} (ty : TypeId) (x : Operand) (h : oi.op = .load ty x) (p : Addr) (hx : a.eval x = .pointer (some p)) (v : Value) (w : World) (hL : (Instr.loadAt ty (.pointer (some p))).run P w = .ok v w) : (execOp a.eval oi).run P w = .ok (.value v) w := by
  simp only [execOp, h, hx, Sem.run_bind, hL, Result.andThen_ok, Sem.run_pure]
theorem wpList_load_T {P : Program} {ops : Array Oper} {rest : List Oper} {a : Act} {w : World} {Q : Exit → Act → World → Prop} {dst : Option Tmp} {ty9 : TypeId} {pos : String} {after : Array Edge} {guard : Option (Nat × Bool)} (ty : TypeId) (x : Operand) (hw : Region.wanted ⟨dst, .load ty x, ty9, pos, after, guard⟩ (yielded ops a.tmps) = true)
    (p : Addr) (hx : a.eval x = .pointer (some p)) (v : Value) (hL : (Instr.loadAt ty (.pointer (some p))).run P w = .ok v w) (h : wpList P ops Q rest (a.put dst v) w) : wpList P ops Q (⟨dst, .load ty x, ty9, pos, after, guard⟩ :: rest) a w :=
  BigFrame.wpList_want hw fun K hK => by
    unfold Oper.wp
    rw [load_run ty x rfl p hx v w hL]
    exact hK _ _ h
theorem some0B {w : World} {f : FuncId} {args : Array Value} (h : Calls Tryz.prog f args w (Some0 w)) : Calls Tryz.prog f args w (SomeB w) := h.mono fun _ _ ⟨b, h1, h2⟩ => ⟨b, h1, h2 ▸ Below.refl _ _⟩
theorem from_someB (n lo hi : Int) (w : World) : Calls Tryz.prog 39 #[.int .i64 n, .int .i64 lo, .int .i64 hi] w (SomeB w) := (from_gives n lo hi w).mono fun _ _ h => ⟨_, h.1, h.2⟩
theorem bits_someB (n : Int) (w : World) : Calls Tryz.prog 37 #[.int .i64 n] w (fun e w' => ∃ q : Int, 1 ≤ q ∧ q ≤ 65536 ∧ e = .returned (.int .i64 q) ∧ Below w.heap.size w w') := (bits_some n w).mono fun _ _ ⟨q, h1, h2, h3, h4⟩ => ⟨q, h1, h2, h3, h4 ▸ Below.refl _ _⟩
set_option maxRecDepth 100000 in
set_option maxHeartbeats 2000000 in
theorem ends_some1 (F : Nat → Prop) (w : World) (t : TabD) (cs : List Value) (n : Nat) (hF : Inn F w) (ht : Holds.tab.R F w t cs) (hn : n < t.things.length) (hp : ∀ j (hj : j < t.things.length), 1 ≤ j → t.things[j].parent = 0 ∨ 1 ≤ t.things[j].parent ∧ t.things[j].parent ≤ (t.things.length : Int) - 1) : Calls Tryz.prog 69 #[.agg cs.toArray, .int .i64 n] w (SomeB w) := by
  have HP : Hid (∀ j (hj : j < t.things.length), 1 ≤ j → ∃ m : Nat, m < t.things.length ∧ t.things[j].parent = m) := fun j hj h1 => by
    rcases hp j hj h1 with h | h
    · exact ⟨0, by omega, h⟩
    · exact ⟨t.things[j].parent.toNat, by omega, by omega⟩
  clear hp
  obtain ⟨i0, i1, i2, i3, i5, v4, v6, v7, v8, v9, v10, v11, v12, v13, v14, rfl, g4, g6, g7, g8, g9, g10, g11, g12, g13, g14⟩ := ht
  obtain ⟨ad4, ca4, rfl⟩ := g4.shape
  obtain ⟨ad6, ca6, rfl⟩ := g6.shape
  obtain ⟨ad7, ca7, rfl⟩ := g7.shape
  obtain ⟨ad8, ca8, rfl⟩ := g8.shape
  obtain ⟨ad9, ca9, rfl⟩ := g9.shape
  obtain ⟨ad10, ca10, rfl⟩ := g10.shape
  obtain ⟨ad11, ca11, rfl⟩ := g11.shape
  obtain ⟨ad12, ca12, rfl⟩ := g12.shape
  obtain ⟨ad13, ca13, rfl⟩ := g13.shape
  obtain ⟨ad14, ca14, rfl⟩ := g14.shape
  have ln4 := g4.len
  have ln6 := g6.len
  have ln7 := g7.len
  have ln8 := g8.len
  have ln9 := g9.len
  have ln10 := g10.len
  have ln11 := g11.len
  have ln12 := g12.len
  have ln13 := g13.len
  have ln14 := g14.len
  unfold maxLen at ln4 ln6 ln7 ln8 ln9 ln10 ln11 ln12 ln13 ln14
  obtain ⟨a8, c8, he8, -, -, ha8⟩ := g8.opn
  cases he8
  clear g4 g6 g7 g8 g9 g10 g11 g12 g13 g14
  clear i0 i1 i2 i3 i5
  have HA8 := Lib.hid ha8
  have HN := Lib.hid hF
  clear ha8 hF
  obtain ⟨W1, hW1⟩ : ∃ x, w.alloc (.cells #[.int .i64 t.title, .int .i64 t.byl, .int .i64 t.release, .int .i64 t.most, .slice ad4 t.texts.length ca4, .int .i64 t.flags, .slice ad6 t.props.length ca6, .slice ad7 t.globals.length ca7, .slice ad8 t.things.length ca8, .slice ad9 t.acts.length ca9, .slice ad10 t.deeds.length ca10, .slice ad11 t.funcs.length ca11, .slice ad12 t.daemons.length ca12, .slice ad13 t.params.length ca13, .slice ad14 t.locals.length ca14] 28) = x := ⟨_, rfl⟩
  have hb1 : Below w.heap.size w W1 := by rw [← hW1]; exact (Below.refl _ _).alloc (Nat.le_refl _) _
  have hx1 : BoxT W1 w.heap.size [.int .i64 t.title, .int .i64 t.byl, .int .i64 t.release, .int .i64 t.most, .slice ad4 t.texts.length ca4, .int .i64 t.flags, .slice ad6 t.props.length ca6, .slice ad7 t.globals.length ca7, .slice ad8 t.things.length ca8, .slice ad9 t.acts.length ca9, .slice ad10 t.deeds.length ca10, .slice ad11 t.funcs.length ca11, .slice ad12 t.daemons.length ca12, .slice ad13 t.params.length ca13, .slice ad14 t.locals.length ca14] 28 := by rw [← hW1]; exact BoxT.new _ _ _
  have y0 := hx1.cell 0
  have y1 := hx1.cell 1
  have y2 := hx1.cell 2
  have y3 := hx1.cell 3
  have y4 := hx1.cell 4
  have y5 := hx1.cell 5
  have y6 := hx1.cell 6
  have y7 := hx1.cell 7
  have y8 := hx1.cell 8
  have y9 := hx1.cell 9
  have y10 := hx1.cell 10
  have y11 := hx1.cell 11
  have y12 := hx1.cell 12
  have y13 := hx1.cell 13
  have y14 := hx1.cell 14
  simp only [List.getElem?_cons_succ, List.getElem?_cons_zero] at y0 y1 y2 y3 y4 y5 y6 y7 y8 y9 y10 y11 y12 y13 y14
  have HW1 := Lib.hid hW1; have HB1 := Lib.hid hb1; have HX1 := Lib.hid hx1
  clear hW1 hb1 hx1
  go_enter Tryz.func69, Tryz.ntmps69
  go_upto_region 1 with fail
  rw [HW1.out]
  have HA := HA8
  go_wp2
  go_loopw [1, 5] (fun x i wr => ∃ (k m : Nat), k ≤ t.things.length ∧ i = .int .i64 k ∧ x = .int .i64 m ∧ m < t.things.length ∧ W1 = wr) (fun _ i _ => t.things.length - (intOf i).toNat)
  case atStart => exact ⟨0, n, Nat.zero_le _, rfl, rfl, hn, rfl⟩
  case round =>
    obtain ⟨k, m, hk, rfl, rfl, hm, rfl⟩ := hrel
    by_cases hlt : k < t.things.length
    · have h1 : (k : Int) < (t.things.length : Int) := by omega
      rcases m with _ | m
      · rw [show ((0 : Nat) : Int) = (0 : Int) from rfl]
        go_wp2
        go_ret
        exact ⟨_, rfl, HB1.out⟩
      · have j0 : (0 : Int) ≤ (m : Int) + 1 := by omega
        have j1 : (m : Int) + 1 < (t.things.length : Int) := by omega
        have j2 : (((m : Int) + 1) == 0) = false := by simp; omega
        have j3 : ¬ ((m : Int) + 1) = 0 := by omega
        obtain ⟨b, off, rfl, hFb, hel⟩ := HA.out (by omega)
        obtain ⟨xs, ⟨-, -, -, -, u5, u6, u7, u8, rfl, -, -, -, -⟩, -, hcell⟩ := hel W1 (HB1.out.block b (HN.out b hFb)) (m + 1) hm
        have p2 := hcell 2 _ rfl
        obtain ⟨m2, hm2, hme⟩ := HP.out (m + 1) hm (by omega)
        rw [hme] at p2
        clear hel hcell hme
        go_wp2
        all_goals
          first
          | (go_ret; exact ⟨_, rfl, HB1.out⟩)
          | (go_roundw
             case rel => exact ⟨k + 1, m2, by omega, by go_num, rfl, hm2, by first | rfl | trivial⟩
             case measure => simp [intOf]; omega)
    · have h1 : ¬ (k : Int) < (t.things.length : Int) := by omega
      go_wp2
      go_ret
      exact ⟨_, rfl, HB1.out⟩
set_option maxRecDepth 100000 in
set_option maxHeartbeats 20000000 in
theorem things_some (F : Nat → Prop) (w : World) (t : TabD) (cs : List Value) (hF : Inn F w) (ht : Holds.tab.R F w t cs) : Calls Tryz.prog 32 #[.agg cs.toArray] w (SomeQ (3 ≤ t.things.length ∧ t.things.length ≤ 128) w) := by
  have HS0 := Lib.hid (fun (W : World) (h : Below w.heap.size w W) (m : Int) (z : Bool) => text_some F W t cs m z (Holds.tab.keep (fun b hb => h.block b (hF b hb)) (fun _ h => h) ht))
  have HT0 := Lib.hid (fun (W : World) (h : Below w.heap.size w W) (m : Int) => thing_calls F W t cs m (Holds.tab.keep (fun b hb => h.block b (hF b hb)) (fun _ h => h) ht))
  have HW0 := Lib.hid (fun (W : World) (h : Below w.heap.size w W) (l : List WayD) (v : Value) (hr : RdL Holds.way 4 F w l v) => ways_some F W t cs l v (fun b hb => Nat.lt_of_lt_of_le (hF b hb) h.size) (Holds.tab.keep (fun b hb => h.block b (hF b hb)) (fun _ h => h) ht) (RdL.below hr hF h (Nat.le_refl _)))
  have HN0 := Lib.hid (fun (W : World) (h : Below w.heap.size w W) (x : ThingD) (xs : List Value) (hr : Holds.thing.R F w x xs) => nothing_some F W t cs x xs (fun b hb => Nat.lt_of_lt_of_le (hF b hb) h.size) (Holds.tab.keep (fun b hb => h.block b (hF b hb)) (fun _ h => h) ht) (Holds.thing.keep (fun b hb => h.block b (hF b hb)) (fun _ h => h) hr))
  have HE0 := Lib.hid (fun (W : World) (h : Below w.heap.size w W) (n : Nat) (hn : n < t.things.length) (hp : ∀ j (hj : j < t.things.length), 1 ≤ j → (t.things[j].parent = 0 ∨ 1 ≤ t.things[j].parent ∧ t.things[j].parent ≤ (t.things.length : Int) - 1)) => ends_some1 F W t cs n (fun b hb => Nat.lt_of_lt_of_le (hF b hb) h.size) (Holds.tab.keep (fun b hb => h.block b (hF b hb)) (fun _ h => h) ht) hn hp)
  have HR0 := Lib.hid (fun (W : World) (h : Below w.heap.size w W) (n : Int) => room_some F W t cs n (fun b hb => Nat.lt_of_lt_of_le (hF b hb) h.size) (Holds.tab.keep (fun b hb => h.block b (hF b hb)) (fun _ h => h) ht))
  have HVA := Lib.hid (fun (W : World) (h : Below w.heap.size w W) (l : List Int) (v : Value) (hr : RdInts F w l v) => some0B (values_some F W l v (RdL.below hr hF h (Nat.le_refl _))))
  have HWO := Lib.hid (fun (W : World) (h : Below w.heap.size w W) (l : List ByteArray) (v : Value) (hr : RdStrs F w l v) => some0B (words_some F W l v 8 (RdL.below hr hF h (Nat.le_refl _))))
  obtain ⟨i0, i1, i2, i3, i5, v4, v6, v7, v8, v9, v10, v11, v12, v13, v14, rfl, g4, g6, g7, g8, g9, g10, g11, g12, g13, g14⟩ := ht
  obtain ⟨ad4, ca4, rfl⟩ := g4.shape
  obtain ⟨ad6, ca6, rfl⟩ := g6.shape
  obtain ⟨ad7, ca7, rfl⟩ := g7.shape
  obtain ⟨ad8, ca8, rfl⟩ := g8.shape
  obtain ⟨ad9, ca9, rfl⟩ := g9.shape
  obtain ⟨ad10, ca10, rfl⟩ := g10.shape
  obtain ⟨ad11, ca11, rfl⟩ := g11.shape
  obtain ⟨ad12, ca12, rfl⟩ := g12.shape
  obtain ⟨ad13, ca13, rfl⟩ := g13.shape
  obtain ⟨ad14, ca14, rfl⟩ := g14.shape
  have ln4 := g4.len
  have ln6 := g6.len
  have ln7 := g7.len
  have ln8 := g8.len
  have ln9 := g9.len
  have ln10 := g10.len
  have ln11 := g11.len
  have ln12 := g12.len
  have ln13 := g13.len
  have ln14 := g14.len
  unfold maxLen at ln4 ln6 ln7 ln8 ln9 ln10 ln11 ln12 ln13 ln14
  obtain ⟨a8, c8, he8, -, -, HA⟩ := RdL.elem g8 hF
  cases he8
  have HA8 := Lib.hid HA
  clear g4 g6 g7 g8 g9 g10 g11 g12 g13 g14 HA
  clear i0 i1 i2 i3 i5
  obtain ⟨W1, hW1⟩ : ∃ x, w.alloc (.cells #[.int .i64 t.title, .int .i64 t.byl, .int .i64 t.release, .int .i64 t.most, .slice ad4 t.texts.length ca4, .int .i64 t.flags, .slice ad6 t.props.length ca6, .slice ad7 t.globals.length ca7, .slice ad8 t.things.length ca8, .slice ad9 t.acts.length ca9, .slice ad10 t.deeds.length ca10, .slice ad11 t.funcs.length ca11, .slice ad12 t.daemons.length ca12, .slice ad13 t.params.length ca13, .slice ad14 t.locals.length ca14] 28) = x := ⟨_, rfl⟩
  have hb1 : Below w.heap.size w W1 := by rw [← hW1]; exact (Below.refl _ _).alloc (Nat.le_refl _) _
  have hx1 : BoxT W1 w.heap.size [.int .i64 t.title, .int .i64 t.byl, .int .i64 t.release, .int .i64 t.most, .slice ad4 t.texts.length ca4, .int .i64 t.flags, .slice ad6 t.props.length ca6, .slice ad7 t.globals.length ca7, .slice ad8 t.things.length ca8, .slice ad9 t.acts.length ca9, .slice ad10 t.deeds.length ca10, .slice ad11 t.funcs.length ca11, .slice ad12 t.daemons.length ca12, .slice ad13 t.params.length ca13, .slice ad14 t.locals.length ca14] 28 := by rw [← hW1]; exact BoxT.new _ _ _
  have HW1 := Lib.hid hW1; have HB1 := Lib.hid hb1; have HX1 := Lib.hid hx1
  clear hW1 hb1 hx1
  go_enter Tryz.func32, Tryz.ntmps32
  go_upto_region 1 with fail
  rw [HW1.out]
  obtain ⟨TV, hTV⟩ : ∃ v, Value.agg #[.int .i64 t.title, .int .i64 t.byl, .int .i64 t.release, .int .i64 t.most, .slice ad4 t.texts.length ca4, .int .i64 t.flags, .slice ad6 t.props.length ca6, .slice ad7 t.globals.length ca7, .slice ad8 t.things.length ca8, .slice ad9 t.acts.length ca9, .slice ad10 t.deeds.length ca10, .slice ad11 t.funcs.length ca11, .slice ad12 t.daemons.length ca12, .slice ad13 t.params.length ca13, .slice ad14 t.locals.length ca14] = v := ⟨_, rfl⟩
  have HL : Hid (∀ W, BoxT W w.heap.size [.int .i64 t.title, .int .i64 t.byl, .int .i64 t.release, .int .i64 t.most, .slice ad4 t.texts.length ca4, .int .i64 t.flags, .slice ad6 t.props.length ca6, .slice ad7 t.globals.length ca7, .slice ad8 t.things.length ca8, .slice ad9 t.acts.length ca9, .slice ad10 t.deeds.length ca10, .slice ad11 t.funcs.length ca11, .slice ad12 t.daemons.length ca12, .slice ad13 t.params.length ca13, .slice ad14 t.locals.length ca14] 28 → (Instr.loadAt 28 (.pointer (some ⟨w.heap.size, 0, none⟩))).run Tryz.prog W = .ok TV W) := fun W h => by
    rw [← hTV]
    exact run_loadAt_mid W _ 0 28 _ _ h.range Tryz.underlying28 rfl (by kernel_rfl)
  rw [hTV]
  have HS := Lib.hid HS0.out; have HT := Lib.hid HT0.out; have HWY := Lib.hid HW0.out; have HNO0 := Lib.hid HN0.out; have HEN := Lib.hid HE0.out; have HRM := Lib.hid HR0.out
  rw [hTV] at HS HT HWY HNO0 HEN HRM
  clear hTV HS0 HT0 HW0 HN0 HE0 HR0
  by_cases hlen : 3 ≤ t.things.length ∧ t.things.length ≤ 128
  rotate_left
  · have hf : (decide ((3 : Int) ≤ (t.things.length : Int)) && decide ((t.things.length : Int) ≤ 128)) = false := by
      rw [Bool.and_eq_false_iff]
      simp only [decide_eq_false_iff_not]
      omega
    have g1 := regrownG (w := W1) fun w' _ => from_gives (t.things.length : Int) 3 128 w'
    rw [hf] at g1
    have G1 := Lib.hid g1
    have q8 := fun d os => cell_regrown (HX1.out.cell 8) d os
    clear hf g1 hlen HS HT HWY HNO0 HEN HRM HVA HWO HA8
    as_aux_lemma =>
      refine wp_region_quiet_below (by kernel_rfl) (by kernel_rfl) ?_
      (try dsimp only [List.append])
      repeat (first | go_big_quiet_step (first | with_reducible exact G1.out _))
      with_reducible refine wpQuiet_nil ?_
      intro w3 hw3
      have hb3 := below_of_regrown hw3
      clear hw3
      go_wp2
      go_ret
      exact ⟨_, rfl, (fun h => by cases h), btK HB1.out hb3⟩
  have HLEN := Lib.hid hlen
  have l1 : (0 : Int) < (t.things.length : Int) := by omega
  have l2 : (1 : Int) < (t.things.length : Int) := by omega
  have l3 : 0 < t.things.length := by omega
  have l4 : 1 < t.things.length := by omega
  obtain ⟨b, off, rfl, hel⟩ := HA8.out (by omega)
  have HEL := Lib.hid hel
  obtain ⟨x0, hx0, hx1, hx2⟩ := hel 0 (by omega)
  obtain ⟨XV, hXV⟩ : ∃ v, Value.agg x0.toArray = v := ⟨_, rfl⟩
  have HXL : Hid (∀ W, Below w.heap.size w W → (Instr.loadAt 72 (.pointer (some ⟨b, off, none⟩))).run Tryz.prog W = .ok XV W) := fun W h => by
    rw [← hXV]
    exact run_loadAt_mid W b off 72 x0 _ (by have := hx2 W h; rwa [Nat.zero_mul, Nat.add_zero] at this) Tryz.underlying72 rfl (by rw [hx0]; kernel_rfl)
  have hno := fun W h => HNO0.out W h _ _ hx1
  rw [hXV] at hno
  have HNO := Lib.hid hno
  obtain ⟨x1, -, ⟨-, -, -, -, u5, u6, u7, u8, rfl, -, -, -, -⟩, hy2⟩ := hel 1 (by omega)
  have HFX : Hid (∀ W, Below W1.heap.size W1 W → W.cell? ⟨w.heap.size, 8, none⟩ = some (.slice (some ⟨b, off, none⟩) t.things.length ca8) ∧ W.cell? ⟨b, off + 1 * 9 + 4, none⟩ = some (.bool t.things[1].room)) := fun W h => ⟨(HX1.out.below h).cell 8, hy2 W (btK HB1.out h) 4 _ rfl⟩
  have HF3 : Hid (∀ W, Calls Tryz.prog 39 #[.int .i64 (t.things.length : Int), .int .i64 3, .int .i64 128] W (Gives W (.bool true))) := fun W => by
    have h9 := from_gives (t.things.length : Int) 3 128 W
    rwa [decide_eq_true (by omega : (3 : Int) ≤ (t.things.length : Int)), decide_eq_true (by omega : (t.things.length : Int) ≤ 128)] at h9
  generalize t.things[1].room = r1 at HFX
  clear hel hx0 hx1 hx2 hXV hno hy2 HNO0 hlen HA8
  simp only [Nat.one_mul] at HFX
  refine tkStart (S := fun W => Below W1.heap.size W1 W) (js := [3, 11]) (by kernel_rfl) (by kernel_rfl) (by kernel_rfl) (Below.refl _ _).drew (fun v0 h0 HK HF => ?_)
  all_goals first
    | (refine tkU (j := 0) (fuel := 20) (oi := ⟨_, _, _, _, _, _⟩) HK rfl rfl (by rfl) (by assumption) ?_; simp only [Act.put, List.setIfInBounds_toArray, List.set_cons_succ, List.set_cons_zero])
    | (refine tkW (j := 0) (fuel := 20) (oi := ⟨_, _, _, _, _, _⟩) (v := ?_) HK rfl rfl (by rfl) ?_ (by assumption) ?_; rotate_left; (focus (intro W hW; go_simp; (try with_reducible rfl); done)); simp only [Act.put, List.setIfInBounds_toArray, List.set_cons_succ, List.set_cons_zero])
  all_goals first
    | (refine tkU (j := 1) (fuel := 19) (oi := ⟨_, _, _, _, _, _⟩) HK rfl rfl (by rfl) (by assumption) ?_; simp only [Act.put, List.setIfInBounds_toArray, List.set_cons_succ, List.set_cons_zero])
    | (refine tkW (j := 1) (fuel := 19) (oi := ⟨_, _, _, _, _, _⟩) (v := ?_) HK rfl rfl (by rfl) ?_ (by assumption) ?_; rotate_left; (focus (intro W hW; obtain ⟨y8, p4⟩ := HFX.out _ hW; go_simp; (try with_reducible rfl); done)); simp only [Act.put, List.setIfInBounds_toArray, List.set_cons_succ, List.set_cons_zero])
  all_goals first
    | (refine tkU (j := 2) (fuel := 18) (oi := ⟨_, _, _, _, _, _⟩) HK rfl rfl (by rfl) (by assumption) ?_; simp only [Act.put, List.setIfInBounds_toArray, List.set_cons_succ, List.set_cons_zero])
    | (refine tkW (j := 2) (fuel := 18) (oi := ⟨_, _, _, _, _, _⟩) (v := ?_) HK rfl rfl (by rfl) ?_ (by assumption) ?_; rotate_left; (focus (intro W hW; go_simp; (try with_reducible rfl); done)); simp only [Act.put, List.setIfInBounds_toArray, List.set_cons_succ, List.set_cons_zero])
  all_goals first
    | (refine tkV (j := 3) (fuel := 17) (oi := ⟨_, _, _, _, _, _⟩) HK HF rfl rfl (by rfl) (by assumption) ?_; simp only [Act.put, List.setIfInBounds_toArray, List.set_cons_succ, List.set_cons_zero])
    | (refine tkC (j := 3) (fuel := 17) (oi := ⟨_, _, _, _, _, _⟩) HK rfl rfl (fun K hK => ?_)
       go_simp
       refine (HF3.out _).mono ?_
       rintro e v1 ⟨rfl, hb1⟩ <;> (have h0 := btK h0 hb1; refine hK.out _ _ h0 ?_; clear hK K hb1))
  all_goals first
    | (refine tkU (j := 4) (fuel := 16) (oi := ⟨_, _, _, _, _, _⟩) HK rfl rfl (by rfl) (by assumption) ?_; simp only [Act.put, List.setIfInBounds_toArray, List.set_cons_succ, List.set_cons_zero])
    | (refine tkW (j := 4) (fuel := 16) (oi := ⟨_, _, _, _, _, _⟩) (v := ?_) HK rfl rfl (by rfl) ?_ (by assumption) ?_; rotate_left; (focus (intro W hW; go_simp; (try with_reducible rfl); done)); simp only [Act.put, List.setIfInBounds_toArray, List.set_cons_succ, List.set_cons_zero])
  all_goals first
    | (refine tkU (j := 5) (fuel := 15) (oi := ⟨_, _, _, _, _, _⟩) HK rfl rfl (by rfl) (by assumption) ?_; simp only [Act.put, List.setIfInBounds_toArray, List.set_cons_succ, List.set_cons_zero])
    | (refine tkW (j := 5) (fuel := 15) (oi := ⟨_, _, _, _, _, _⟩) (v := ?_) HK rfl rfl (by rfl) ?_ (by assumption) ?_; rotate_left; (focus (intro W hW; go_simp; (try with_reducible rfl); done)); simp only [Act.put, List.setIfInBounds_toArray, List.set_cons_succ, List.set_cons_zero])
  all_goals first
    | (refine tkU (j := 6) (fuel := 14) (oi := ⟨_, _, _, _, _, _⟩) HK rfl rfl (by rfl) (by assumption) ?_; simp only [Act.put, List.setIfInBounds_toArray, List.set_cons_succ, List.set_cons_zero])
    | (refine tkW (j := 6) (fuel := 14) (oi := ⟨_, _, _, _, _, _⟩) (v := TV) HK rfl rfl (by rfl) (fun W hW => load_run 28 (.tmp 1) rfl _ rfl TV W (HL.out W (HX1.out.below hW))) (by assumption) ?_; simp only [Act.put, List.setIfInBounds_toArray, List.set_cons_succ, List.set_cons_zero])
  all_goals first
    | (refine tkU (j := 7) (fuel := 13) (oi := ⟨_, _, _, _, _, _⟩) HK rfl rfl (by rfl) (by assumption) ?_; simp only [Act.put, List.setIfInBounds_toArray, List.set_cons_succ, List.set_cons_zero])
    | (refine tkW (j := 7) (fuel := 13) (oi := ⟨_, _, _, _, _, _⟩) (v := ?_) HK rfl rfl (by rfl) ?_ (by assumption) ?_; rotate_left; (focus (intro W hW; go_simp; (try with_reducible rfl); done)); simp only [Act.put, List.setIfInBounds_toArray, List.set_cons_succ, List.set_cons_zero])
  all_goals first
    | (refine tkU (j := 8) (fuel := 12) (oi := ⟨_, _, _, _, _, _⟩) HK rfl rfl (by rfl) (by assumption) ?_; simp only [Act.put, List.setIfInBounds_toArray, List.set_cons_succ, List.set_cons_zero])
    | (refine tkW (j := 8) (fuel := 12) (oi := ⟨_, _, _, _, _, _⟩) (v := ?_) HK rfl rfl (by rfl) ?_ (by assumption) ?_; rotate_left; (focus (intro W hW; obtain ⟨y8, p4⟩ := HFX.out _ hW; go_simp; (try with_reducible rfl); done)); simp only [Act.put, List.setIfInBounds_toArray, List.set_cons_succ, List.set_cons_zero])
  all_goals first
    | (refine tkU (j := 9) (fuel := 11) (oi := ⟨_, _, _, _, _, _⟩) HK rfl rfl (by rfl) (by assumption) ?_; simp only [Act.put, List.setIfInBounds_toArray, List.set_cons_succ, List.set_cons_zero])
    | (refine tkW (j := 9) (fuel := 11) (oi := ⟨_, _, _, _, _, _⟩) (v := ?_) HK rfl rfl (by rfl) ?_ (by assumption) ?_; rotate_left; (focus (intro W hW; go_simp; (try with_reducible rfl); done)); simp only [Act.put, List.setIfInBounds_toArray, List.set_cons_succ, List.set_cons_zero])
  all_goals first
    | (refine tkU (j := 10) (fuel := 10) (oi := ⟨_, _, _, _, _, _⟩) HK rfl rfl (by rfl) (by assumption) ?_; simp only [Act.put, List.setIfInBounds_toArray, List.set_cons_succ, List.set_cons_zero])
    | (refine tkW (j := 10) (fuel := 10) (oi := ⟨_, _, _, _, _, _⟩) (v := XV) HK rfl rfl (by rfl) (fun W hW => load_run 72 (.tmp 15) rfl _ rfl XV W (HXL.out W (btK HB1.out hW))) (by assumption) ?_; simp only [Act.put, List.setIfInBounds_toArray, List.set_cons_succ, List.set_cons_zero])
  all_goals first
    | (refine tkV (j := 11) (fuel := 9) (oi := ⟨_, _, _, _, _, _⟩) HK HF rfl rfl (by rfl) (by assumption) ?_; simp only [Act.put, List.setIfInBounds_toArray, List.set_cons_succ, List.set_cons_zero])
    | (refine tkC (j := 11) (fuel := 9) (oi := ⟨_, _, _, _, _, _⟩) HK rfl rfl (fun K hK => ?_)
       go_simp
       refine (HNO.out _ (btK HB1.out h0)).mono ?_
       rintro e v1 ⟨_ | _, rfl, hb1⟩ <;> (have h0 := btK h0 hb1; refine hK.out _ _ h0 ?_; clear hK K hb1))
  all_goals first
    | (refine tkU (j := 12) (fuel := 8) (oi := ⟨_, _, _, _, _, _⟩) HK rfl rfl (by rfl) (by assumption) ?_; simp only [Act.put, List.setIfInBounds_toArray, List.set_cons_succ, List.set_cons_zero])
    | (refine tkW (j := 12) (fuel := 8) (oi := ⟨_, _, _, _, _, _⟩) (v := ?_) HK rfl rfl (by rfl) ?_ (by assumption) ?_; rotate_left; (focus (intro W hW; go_simp; (try with_reducible rfl); done)); simp only [Act.put, List.setIfInBounds_toArray, List.set_cons_succ, List.set_cons_zero])
  all_goals first
    | (refine tkU (j := 13) (fuel := 7) (oi := ⟨_, _, _, _, _, _⟩) HK rfl rfl (by rfl) (by assumption) ?_; simp only [Act.put, List.setIfInBounds_toArray, List.set_cons_succ, List.set_cons_zero])
    | (refine tkW (j := 13) (fuel := 7) (oi := ⟨_, _, _, _, _, _⟩) (v := ?_) HK rfl rfl (by rfl) ?_ (by assumption) ?_; rotate_left; (focus (intro W hW; go_simp; (try with_reducible rfl); done)); simp only [Act.put, List.setIfInBounds_toArray, List.set_cons_succ, List.set_cons_zero])
  all_goals first
    | (refine tkU (j := 14) (fuel := 6) (oi := ⟨_, _, _, _, _, _⟩) HK rfl rfl (by rfl) (by assumption) ?_; simp only [Act.put, List.setIfInBounds_toArray, List.set_cons_succ, List.set_cons_zero])
    | (refine tkW (j := 14) (fuel := 6) (oi := ⟨_, _, _, _, _, _⟩) (v := ?_) HK rfl rfl (by rfl) ?_ (by assumption) ?_; rotate_left; (focus (intro W hW; go_simp; (try with_reducible rfl); done)); simp only [Act.put, List.setIfInBounds_toArray, List.set_cons_succ, List.set_cons_zero])
  all_goals first
    | (refine tkU (j := 15) (fuel := 5) (oi := ⟨_, _, _, _, _, _⟩) HK rfl rfl (by rfl) (by assumption) ?_; simp only [Act.put, List.setIfInBounds_toArray, List.set_cons_succ, List.set_cons_zero])
    | (refine tkW (j := 15) (fuel := 5) (oi := ⟨_, _, _, _, _, _⟩) (v := ?_) HK rfl rfl (by rfl) ?_ (by assumption) ?_; rotate_left; (focus (intro W hW; go_simp; (try with_reducible rfl); done)); simp only [Act.put, List.setIfInBounds_toArray, List.set_cons_succ, List.set_cons_zero])
  all_goals first
    | (refine tkU (j := 16) (fuel := 4) (oi := ⟨_, _, _, _, _, _⟩) HK rfl rfl (by rfl) (by assumption) ?_; simp only [Act.put, List.setIfInBounds_toArray, List.set_cons_succ, List.set_cons_zero])
    | (refine tkW (j := 16) (fuel := 4) (oi := ⟨_, _, _, _, _, _⟩) (v := ?_) HK rfl rfl (by rfl) ?_ (by assumption) ?_; rotate_left; (focus (intro W hW; obtain ⟨y8, p4⟩ := HFX.out _ hW; go_simp; (try with_reducible rfl); done)); simp only [Act.put, List.setIfInBounds_toArray, List.set_cons_succ, List.set_cons_zero])
  all_goals first
    | (refine tkU (j := 17) (fuel := 3) (oi := ⟨_, _, _, _, _, _⟩) HK rfl rfl (by rfl) (by assumption) ?_; simp only [Act.put, List.setIfInBounds_toArray, List.set_cons_succ, List.set_cons_zero])
    | (refine tkW (j := 17) (fuel := 3) (oi := ⟨_, _, _, _, _, _⟩) (v := ?_) HK rfl rfl (by rfl) ?_ (by assumption) ?_; rotate_left; (focus (intro W hW; go_simp; (try with_reducible rfl); done)); simp only [Act.put, List.setIfInBounds_toArray, List.set_cons_succ, List.set_cons_zero])
  all_goals first
    | (refine tkU (j := 18) (fuel := 2) (oi := ⟨_, _, _, _, _, _⟩) HK rfl rfl (by rfl) (by assumption) ?_; simp only [Act.put, List.setIfInBounds_toArray, List.set_cons_succ, List.set_cons_zero])
    | (refine tkW (j := 18) (fuel := 2) (oi := ⟨_, _, _, _, _, _⟩) (v := ?_) HK rfl rfl (by rfl) ?_ (by assumption) ?_; rotate_left; (focus (intro W hW; go_simp; (try with_reducible rfl); done)); simp only [Act.put, List.setIfInBounds_toArray, List.set_cons_succ, List.set_cons_zero])
  all_goals first
    | (refine tkU (j := 19) (fuel := 1) (oi := ⟨_, _, _, _, _, _⟩) HK rfl rfl (by rfl) (by assumption) ?_; simp only [Act.put, List.setIfInBounds_toArray, List.set_cons_succ, List.set_cons_zero])
    | (refine tkW (j := 19) (fuel := 1) (oi := ⟨_, _, _, _, _, _⟩) (v := ?_) HK rfl rfl (by rfl) ?_ (by assumption) ?_; rotate_left; (focus (intro W hW; obtain ⟨y8, p4⟩ := HFX.out _ hW; go_simp; (try with_reducible rfl); done)); simp only [Act.put, List.setIfInBounds_toArray, List.set_cons_succ, List.set_cons_zero])
  all_goals first
    | (refine tkU (j := 20) (fuel := 0) (oi := ⟨_, _, _, _, _, _⟩) HK rfl rfl (by rfl) (by assumption) ?_; simp only [Act.put, List.setIfInBounds_toArray, List.set_cons_succ, List.set_cons_zero])
    | (refine tkW (j := 20) (fuel := 0) (oi := ⟨_, _, _, _, _, _⟩) (v := ?_) HK rfl rfl (by rfl) ?_ (by assumption) ?_; rotate_left; (focus (intro W hW; go_simp; (try with_reducible rfl); done)); simp only [Act.put, List.setIfInBounds_toArray, List.set_cons_succ, List.set_cons_zero])
  all_goals refine tkE (by kernel_rfl) ?_ _
  all_goals go_simp
  all_goals cases r1
  all_goals
    have HBs := Lib.hid (btK HB1.out h0)
    have HXs := Lib.hid (HX1.out.below h0)
    clear h0
    have y8 := HXs.out.cell 8
    simp only [List.getElem?_cons_succ, List.getElem?_cons_zero] at y8
    go_wp2
    all_goals
      first
      | (go_ret; exact ⟨_, rfl, (fun h => by cases h), HBs.out⟩)
      | (
        clear y8
        go_loopw [3] (fun i wr => ∃ (k : Nat), 1 ≤ k ∧ k ≤ t.things.length ∧ i = .int .i64 k ∧ Hid (∀ j (hj : j < t.things.length), 1 ≤ j → j < k → (t.things[j].parent = 0 ∨ 1 ≤ t.things[j].parent ∧ t.things[j].parent ≤ (t.things.length : Int) - 1)) ∧ Below w.heap.size w wr ∧ BoxT wr w.heap.size [.int .i64 t.title, .int .i64 t.byl, .int .i64 t.release, .int .i64 t.most, .slice ad4 t.texts.length ca4, .int .i64 t.flags, .slice ad6 t.props.length ca6, .slice ad7 t.globals.length ca7, .slice (some ⟨b, off, none⟩) t.things.length ca8, .slice ad9 t.acts.length ca9, .slice ad10 t.deeds.length ca10, .slice ad11 t.funcs.length ca11, .slice ad12 t.daemons.length ca12, .slice ad13 t.params.length ca13, .slice ad14 t.locals.length ca14] 28) (fun i _ => t.things.length - (intOf i).toNat)
        case atStart => exact ⟨1, Nat.le_refl _, by omega, rfl, fun j _ h1 h2 => by omega, HBs.out, HXs.out⟩
        case round =>
          obtain ⟨k, hk1, hk, rfl, HPA, hB, hX⟩ := hrel
          have HBs := Lib.hid hB
          have HXs := Lib.hid hX
          clear hB hX
          have y8 := HXs.out.cell 8
          simp only [List.getElem?_cons_succ, List.getElem?_cons_zero] at y8
          by_cases hlt : k < t.things.length
          rotate_left
          · have h1 : ¬ (k : Int) < (t.things.length : Int) := by omega
            have HPA : Hid (∀ j (hj : j < t.things.length), 1 ≤ j → (t.things[j].parent = 0 ∨ 1 ≤ t.things[j].parent ∧ t.things[j].parent ≤ (t.things.length : Int) - 1)) := fun j hj h1 => HPA.out j hj h1 (by omega)
            go_wp2
            clear y8 h1
            go_loopw [5] (fun i wr => ∃ (k : Nat), 1 ≤ k ∧ k ≤ t.things.length ∧ i = .int .i64 k ∧ Below w.heap.size w wr ∧ BoxT wr w.heap.size [.int .i64 t.title, .int .i64 t.byl, .int .i64 t.release, .int .i64 t.most, .slice ad4 t.texts.length ca4, .int .i64 t.flags, .slice ad6 t.props.length ca6, .slice ad7 t.globals.length ca7, .slice (some ⟨b, off, none⟩) t.things.length ca8, .slice ad9 t.acts.length ca9, .slice ad10 t.deeds.length ca10, .slice ad11 t.funcs.length ca11, .slice ad12 t.daemons.length ca12, .slice ad13 t.params.length ca13, .slice ad14 t.locals.length ca14] 28) (fun i _ => t.things.length - (intOf i).toNat)
            case atStart => exact ⟨1, Nat.le_refl _, by omega, rfl, HBs.out, HXs.out⟩
            case round =>
              obtain ⟨k, hk1, hk, rfl, hB, hX⟩ := hrel
              have HBv := Lib.hid hB
              have HXv := Lib.hid hX
              clear hB hX
              have y8 := HXv.out.cell 8
              simp only [List.getElem?_cons_succ, List.getElem?_cons_zero] at y8
              by_cases hlt : k < t.things.length
              · have h1 : (k : Int) < (t.things.length : Int) := by omega
                go_wp2_with (first | ((with_reducible refine wpList_load_T 28 (.tmp 1) ?hw9 ⟨w.heap.size, 0, none⟩ ?hx9 TV (HL.out _ HXv.out) ?_); (case hw9 => rfl); (case hx9 => first | rfl | (exact rfl))) | (go_at_call 69; (with_reducible refine (HEN.out _ HBv.out k hlt HPA.out).mono ?_); rintro e w1 ⟨_ | _, rfl, hb1⟩ <;> (have HXv := Lib.hid (HXv.out.below hb1); have HBv := Lib.hid (btK HBv.out hb1))))
                all_goals
                  first
                  | (go_ret; exact ⟨_, rfl, (fun h => by cases h), HBv.out⟩)
                  | (go_roundw
                     case rel => exact ⟨k + 1, by omega, by omega, by go_num, HBv.out, HXv.out⟩
                     case measure => simp [intOf]; omega)
              · have h1 : ¬ (k : Int) < (t.things.length : Int) := by omega
                go_wp2_with (first | ((with_reducible refine wpList_load_T 28 (.tmp 1) ?hw9 ⟨w.heap.size, 0, none⟩ ?hx9 TV (HL.out _ HXv.out) ?_); (case hw9 => rfl); (case hx9 => first | rfl | (exact rfl))) | (go_at_call 70; (with_reducible refine (HRM.out _ HBv.out _).mono ?_); rintro e w1 ⟨b9, rfl, hb1⟩))
                go_ret
                exact ⟨_, rfl, fun _ => HLEN.out, btK HBv.out hb1⟩
          have h1 : (k : Int) < (t.things.length : Int) := by omega
          have h2 : (0 : Int) ≤ (k : Int) := by omega
          obtain ⟨xs, -, hxx, hxr⟩ := HEL.out k hlt
          obtain ⟨-, -, -, -, u5, u6, u7, u8, rfl, k5, k6, k7, k8⟩ := hxx
          obtain ⟨da5, dc5, rfl⟩ := k5.shape
          obtain ⟨da6, dc6, rfl⟩ := k6.shape
          obtain ⟨da7, dc7, rfl⟩ := k7.shape
          obtain ⟨da8, dc8, rfl⟩ := k8.shape
          have hp := hxr wr HBs.out
          have p0 := hp 0 _ rfl
          have p1 := hp 1 _ rfl
          have p2 := hp 2 _ rfl
          have p3 := hp 3 _ rfl
          have p4 := hp 4 _ rfl
          have p5 := hp 5 _ rfl
          have p6 := hp 6 _ rfl
          have p7 := hp 7 _ rfl
          have p8 := hp 8 _ rfl
          simp only [Nat.add_zero] at p0
          have HV := Lib.hid (fun W h => HVA.out W h _ _ k5)
          have HW6 := Lib.hid (fun W h => HWO.out W h _ _ k6)
          have HW7 := Lib.hid (fun W h => HWO.out W h _ _ k7)
          have HWA := Lib.hid (fun W h => HWY.out W h _ _ k8)
          have HPN : Hid ((t.things[k].parent = 0 ∨ 1 ≤ t.things[k].parent ∧ t.things[k].parent ≤ (t.things.length : Int) - 1) → ∀ j (hj : j < t.things.length), 1 ≤ j → j < k + 1 → (t.things[j].parent = 0 ∨ 1 ≤ t.things[j].parent ∧ t.things[j].parent ≤ (t.things.length : Int) - 1)) := fun h j hj h1 h2 => by
            rcases Nat.lt_or_ge j k with h9 | h9
            · exact HPA.out j hj h1 h9
            · obtain rfl : j = k := by omega
              exact h
          clear hp hxr k5 k6 k7 k8
          generalize t.things[k] = x at p0 p1 p2 p3 p4 p5 p6 p7 p8 HV HW6 HW7 HWA HPN
          go_upto_region 7 with fail
          obtain ⟨wq, hwq⟩ : ∃ z, wr.alloc (.cells #[.int .i64 x.title, .int .i64 x.text, .int .i64 x.parent, .int .i64 x.flags, .bool x.room, .slice da5 x.props.length dc5, .slice da6 x.words.length dc6, .slice da7 x.adjs.length dc7, .slice da8 x.ways.length dc8] 72) = z := ⟨_, rfl⟩
          rw [hwq]
          have hbq : Below wr.heap.size wr wq := by rw [← hwq]; exact (Below.refl _ _).alloc (Nat.le_refl _) _
          have hyq : BoxT wq wr.heap.size [.int .i64 x.title, .int .i64 x.text, .int .i64 x.parent, .int .i64 x.flags, .bool x.room, .slice da5 x.props.length dc5, .slice da6 x.words.length dc6, .slice da7 x.adjs.length dc7, .slice da8 x.ways.length dc8] 72 := by rw [← hwq]; exact BoxT.new _ _ _
          have HBQ := Lib.hid (btK HBs.out hbq)
          have HXq := Lib.hid (HXs.out.below hbq)
          generalize wr.heap.size = y at hyq ⊢
          have HZ := Lib.hid hyq
          clear hwq hbq hyq p0 p1 p2 p3 p4 p5 p6 p7 p8 y8 HBs HXs
          have HFX : Hid (∀ W, Below wq.heap.size wq W → W.cell? ⟨w.heap.size, 5, none⟩ = some (.int .i64 t.flags) ∧ W.cell? ⟨w.heap.size, 6, none⟩ = some (.slice ad6 t.props.length ca6) ∧ W.cell? ⟨y, 0, none⟩ = some (.int .i64 x.title) ∧ W.cell? ⟨y, 1, none⟩ = some (.int .i64 x.text) ∧ W.cell? ⟨y, 2, none⟩ = some (.int .i64 x.parent) ∧ W.cell? ⟨y, 3, none⟩ = some (.int .i64 x.flags) ∧ W.cell? ⟨y, 4, none⟩ = some (.bool x.room) ∧ W.cell? ⟨y, 5, none⟩ = some (.slice da5 x.props.length dc5) ∧ W.cell? ⟨y, 6, none⟩ = some (.slice da6 x.words.length dc6) ∧ W.cell? ⟨y, 7, none⟩ = some (.slice da7 x.adjs.length dc7) ∧ W.cell? ⟨y, 8, none⟩ = some (.slice da8 x.ways.length dc8)) := fun W h => ⟨(HXq.out.below h).cell 5, (HXq.out.below h).cell 6, (HZ.out.below h).cell 0, (HZ.out.below h).cell 1, (HZ.out.below h).cell 2, (HZ.out.below h).cell 3, (HZ.out.below h).cell 4, (HZ.out.below h).cell 5, (HZ.out.below h).cell 6, (HZ.out.below h).cell 7, (HZ.out.below h).cell 8⟩
          refine tkStart (S := fun W => Below wq.heap.size wq W) (js := [3, 9, 17, 19, 34, 40, 46]) (by kernel_rfl) (by kernel_rfl) (by kernel_rfl) (Below.refl _ _).drew (fun v0 h0 HK HF => ?_)
          all_goals first
            | (refine tkU (j := 0) (fuel := 48) (oi := ⟨_, _, _, _, _, _⟩) HK rfl rfl (by rfl) (by assumption) ?_; simp only [Act.put, List.setIfInBounds_toArray, List.set_cons_succ, List.set_cons_zero])
            | (refine tkW (j := 0) (fuel := 48) (oi := ⟨_, _, _, _, _, _⟩) (v := TV) HK rfl rfl (by rfl) (fun W hW => load_run 28 (.tmp 1) rfl _ rfl TV W (HL.out W (HXq.out.below hW))) (by assumption) ?_; simp only [Act.put, List.setIfInBounds_toArray, List.set_cons_succ, List.set_cons_zero])
          all_goals first
            | (refine tkU (j := 1) (fuel := 47) (oi := ⟨_, _, _, _, _, _⟩) HK rfl rfl (by rfl) (by assumption) ?_; simp only [Act.put, List.setIfInBounds_toArray, List.set_cons_succ, List.set_cons_zero])
            | (refine tkW (j := 1) (fuel := 47) (oi := ⟨_, _, _, _, _, _⟩) (v := ?_) HK rfl rfl (by rfl) ?_ (by assumption) ?_; rotate_left; (focus (intro W hW; go_simp; (try with_reducible rfl); done)); simp only [Act.put, List.setIfInBounds_toArray, List.set_cons_succ, List.set_cons_zero])
          all_goals first
            | (refine tkU (j := 2) (fuel := 46) (oi := ⟨_, _, _, _, _, _⟩) HK rfl rfl (by rfl) (by assumption) ?_; simp only [Act.put, List.setIfInBounds_toArray, List.set_cons_succ, List.set_cons_zero])
            | (refine tkW (j := 2) (fuel := 46) (oi := ⟨_, _, _, _, _, _⟩) (v := ?_) HK rfl rfl (by rfl) ?_ (by assumption) ?_; rotate_left; (focus (intro W hW; obtain ⟨y5, y6, z0, z1, z2, z3, z4, z5, z6, z7, z8⟩ := HFX.out _ hW; go_simp; (try with_reducible rfl); done)); simp only [Act.put, List.setIfInBounds_toArray, List.set_cons_succ, List.set_cons_zero])
          all_goals first
            | (refine tkV (j := 3) (fuel := 45) (oi := ⟨_, _, _, _, _, _⟩) HK HF rfl rfl (by rfl) (by assumption) ?_; simp only [Act.put, List.setIfInBounds_toArray, List.set_cons_succ, List.set_cons_zero])
            | (refine tkC (j := 3) (fuel := 45) (oi := ⟨_, _, _, _, _, _⟩) HK rfl rfl (fun K hK => ?_)
               go_simp
               refine (HS.out _ (btK HBQ.out h0) _ _).mono ?_
               rintro e v1 ⟨_ | _, rfl, hb1⟩ <;> (have h0 := btK h0 hb1; refine hK.out _ _ h0 ?_; clear hK K hb1))
          all_goals first
            | (refine tkU (j := 4) (fuel := 44) (oi := ⟨_, _, _, _, _, _⟩) HK rfl rfl (by rfl) (by assumption) ?_; simp only [Act.put, List.setIfInBounds_toArray, List.set_cons_succ, List.set_cons_zero])
            | (refine tkW (j := 4) (fuel := 44) (oi := ⟨_, _, _, _, _, _⟩) (v := ?_) HK rfl rfl (by rfl) ?_ (by assumption) ?_; rotate_left; (focus (intro W hW; go_simp; (try with_reducible rfl); done)); simp only [Act.put, List.setIfInBounds_toArray, List.set_cons_succ, List.set_cons_zero])
          all_goals first
            | (refine tkU (j := 5) (fuel := 43) (oi := ⟨_, _, _, _, _, _⟩) HK rfl rfl (by rfl) (by assumption) ?_; simp only [Act.put, List.setIfInBounds_toArray, List.set_cons_succ, List.set_cons_zero])
            | (refine tkW (j := 5) (fuel := 43) (oi := ⟨_, _, _, _, _, _⟩) (v := ?_) HK rfl rfl (by rfl) ?_ (by assumption) ?_; rotate_left; (focus (intro W hW; go_simp; (try with_reducible rfl); done)); simp only [Act.put, List.setIfInBounds_toArray, List.set_cons_succ, List.set_cons_zero])
          all_goals first
            | (refine tkU (j := 6) (fuel := 42) (oi := ⟨_, _, _, _, _, _⟩) HK rfl rfl (by rfl) (by assumption) ?_; simp only [Act.put, List.setIfInBounds_toArray, List.set_cons_succ, List.set_cons_zero])
            | (refine tkW (j := 6) (fuel := 42) (oi := ⟨_, _, _, _, _, _⟩) (v := TV) HK rfl rfl (by rfl) (fun W hW => load_run 28 (.tmp 1) rfl _ rfl TV W (HL.out W (HXq.out.below hW))) (by assumption) ?_; simp only [Act.put, List.setIfInBounds_toArray, List.set_cons_succ, List.set_cons_zero])
          all_goals first
            | (refine tkU (j := 7) (fuel := 41) (oi := ⟨_, _, _, _, _, _⟩) HK rfl rfl (by rfl) (by assumption) ?_; simp only [Act.put, List.setIfInBounds_toArray, List.set_cons_succ, List.set_cons_zero])
            | (refine tkW (j := 7) (fuel := 41) (oi := ⟨_, _, _, _, _, _⟩) (v := ?_) HK rfl rfl (by rfl) ?_ (by assumption) ?_; rotate_left; (focus (intro W hW; go_simp; (try with_reducible rfl); done)); simp only [Act.put, List.setIfInBounds_toArray, List.set_cons_succ, List.set_cons_zero])
          all_goals first
            | (refine tkU (j := 8) (fuel := 40) (oi := ⟨_, _, _, _, _, _⟩) HK rfl rfl (by rfl) (by assumption) ?_; simp only [Act.put, List.setIfInBounds_toArray, List.set_cons_succ, List.set_cons_zero])
            | (refine tkW (j := 8) (fuel := 40) (oi := ⟨_, _, _, _, _, _⟩) (v := ?_) HK rfl rfl (by rfl) ?_ (by assumption) ?_; rotate_left; (focus (intro W hW; obtain ⟨y5, y6, z0, z1, z2, z3, z4, z5, z6, z7, z8⟩ := HFX.out _ hW; go_simp; (try with_reducible rfl); done)); simp only [Act.put, List.setIfInBounds_toArray, List.set_cons_succ, List.set_cons_zero])
          all_goals first
            | (refine tkV (j := 9) (fuel := 39) (oi := ⟨_, _, _, _, _, _⟩) HK HF rfl rfl (by rfl) (by assumption) ?_; simp only [Act.put, List.setIfInBounds_toArray, List.set_cons_succ, List.set_cons_zero])
            | (refine tkC (j := 9) (fuel := 39) (oi := ⟨_, _, _, _, _, _⟩) HK rfl rfl (fun K hK => ?_)
               go_simp
               refine (HS.out _ (btK HBQ.out h0) _ _).mono ?_
               rintro e v1 ⟨_ | _, rfl, hb1⟩ <;> (have h0 := btK h0 hb1; refine hK.out _ _ h0 ?_; clear hK K hb1))
          all_goals first
            | (refine tkU (j := 10) (fuel := 38) (oi := ⟨_, _, _, _, _, _⟩) HK rfl rfl (by rfl) (by assumption) ?_; simp only [Act.put, List.setIfInBounds_toArray, List.set_cons_succ, List.set_cons_zero])
            | (refine tkW (j := 10) (fuel := 38) (oi := ⟨_, _, _, _, _, _⟩) (v := ?_) HK rfl rfl (by rfl) ?_ (by assumption) ?_; rotate_left; (focus (intro W hW; go_simp; (try with_reducible rfl); done)); simp only [Act.put, List.setIfInBounds_toArray, List.set_cons_succ, List.set_cons_zero])
          all_goals first
            | (refine tkU (j := 11) (fuel := 37) (oi := ⟨_, _, _, _, _, _⟩) HK rfl rfl (by rfl) (by assumption) ?_; simp only [Act.put, List.setIfInBounds_toArray, List.set_cons_succ, List.set_cons_zero])
            | (refine tkW (j := 11) (fuel := 37) (oi := ⟨_, _, _, _, _, _⟩) (v := ?_) HK rfl rfl (by rfl) ?_ (by assumption) ?_; rotate_left; (focus (intro W hW; go_simp; (try with_reducible rfl); done)); simp only [Act.put, List.setIfInBounds_toArray, List.set_cons_succ, List.set_cons_zero])
          all_goals first
            | (refine tkU (j := 12) (fuel := 36) (oi := ⟨_, _, _, _, _, _⟩) HK rfl rfl (by rfl) (by assumption) ?_; simp only [Act.put, List.setIfInBounds_toArray, List.set_cons_succ, List.set_cons_zero])
            | (refine tkW (j := 12) (fuel := 36) (oi := ⟨_, _, _, _, _, _⟩) (v := ?_) HK rfl rfl (by rfl) ?_ (by assumption) ?_; rotate_left; (focus (intro W hW; go_simp; (try with_reducible rfl); done)); simp only [Act.put, List.setIfInBounds_toArray, List.set_cons_succ, List.set_cons_zero])
          all_goals first
            | (refine tkU (j := 13) (fuel := 35) (oi := ⟨_, _, _, _, _, _⟩) HK rfl rfl (by rfl) (by assumption) ?_; simp only [Act.put, List.setIfInBounds_toArray, List.set_cons_succ, List.set_cons_zero])
            | (refine tkW (j := 13) (fuel := 35) (oi := ⟨_, _, _, _, _, _⟩) (v := ?_) HK rfl rfl (by rfl) ?_ (by assumption) ?_; rotate_left; (focus (intro W hW; go_simp; (try with_reducible rfl); done)); simp only [Act.put, List.setIfInBounds_toArray, List.set_cons_succ, List.set_cons_zero])
          all_goals first
            | (refine tkU (j := 14) (fuel := 34) (oi := ⟨_, _, _, _, _, _⟩) HK rfl rfl (by rfl) (by assumption) ?_; simp only [Act.put, List.setIfInBounds_toArray, List.set_cons_succ, List.set_cons_zero])
            | (refine tkW (j := 14) (fuel := 34) (oi := ⟨_, _, _, _, _, _⟩) (v := ?_) HK rfl rfl (by rfl) ?_ (by assumption) ?_; rotate_left; (focus (intro W hW; obtain ⟨y5, y6, z0, z1, z2, z3, z4, z5, z6, z7, z8⟩ := HFX.out _ hW; go_simp; (try with_reducible rfl); done)); simp only [Act.put, List.setIfInBounds_toArray, List.set_cons_succ, List.set_cons_zero])
          all_goals first
            | (refine tkU (j := 15) (fuel := 33) (oi := ⟨_, _, _, _, _, _⟩) HK rfl rfl (by rfl) (by assumption) ?_; simp only [Act.put, List.setIfInBounds_toArray, List.set_cons_succ, List.set_cons_zero])
            | (refine tkW (j := 15) (fuel := 33) (oi := ⟨_, _, _, _, _, _⟩) (v := ?_) HK rfl rfl (by rfl) ?_ (by assumption) ?_; rotate_left; (focus (intro W hW; go_simp; (try with_reducible rfl); done)); simp only [Act.put, List.setIfInBounds_toArray, List.set_cons_succ, List.set_cons_zero])
          all_goals first
            | (refine tkU (j := 16) (fuel := 32) (oi := ⟨_, _, _, _, _, _⟩) HK rfl rfl (by rfl) (by assumption) ?_; simp only [Act.put, List.setIfInBounds_toArray, List.set_cons_succ, List.set_cons_zero])
            | (refine tkW (j := 16) (fuel := 32) (oi := ⟨_, _, _, _, _, _⟩) (v := ?_) HK rfl rfl (by rfl) ?_ (by assumption) ?_; rotate_left; (focus (intro W hW; obtain ⟨y5, y6, z0, z1, z2, z3, z4, z5, z6, z7, z8⟩ := HFX.out _ hW; go_simp; (try with_reducible rfl); done)); simp only [Act.put, List.setIfInBounds_toArray, List.set_cons_succ, List.set_cons_zero])
          all_goals first
            | (refine tkV (j := 17) (fuel := 31) (oi := ⟨_, _, _, _, _, _⟩) HK HF rfl rfl (by rfl) (by assumption) ?_; simp only [Act.put, List.setIfInBounds_toArray, List.set_cons_succ, List.set_cons_zero])
            | (refine tkC (j := 17) (fuel := 31) (oi := ⟨_, _, _, _, _, _⟩) HK rfl rfl (fun K hK => ?_)
               go_simp
               refine (bits_someB _ _).mono ?_
               rintro e v1 ⟨q, hq1, hq2, rfl, hb1⟩ <;> (have h0 := btK h0 hb1; refine hK.out _ _ h0 ?_; clear hK K hb1))
          all_goals first
            | (refine tkU (j := 18) (fuel := 30) (oi := ⟨_, _, _, _, _, _⟩) HK rfl rfl (by rfl) (by assumption) ?_; simp only [Act.put, List.setIfInBounds_toArray, List.set_cons_succ, List.set_cons_zero])
            | (refine tkW (j := 18) (fuel := 30) (oi := ⟨_, _, _, _, _, _⟩) (v := ?_) HK rfl rfl (by rfl) ?_ (by assumption) ?_; rotate_left; (focus (intro W hW; go_simp; (try with_reducible rfl); done)); simp only [Act.put, List.setIfInBounds_toArray, List.set_cons_succ, List.set_cons_zero])
          all_goals first
            | (refine tkV (j := 19) (fuel := 29) (oi := ⟨_, _, _, _, _, _⟩) HK HF rfl rfl (by rfl) (by assumption) ?_; simp only [Act.put, List.setIfInBounds_toArray, List.set_cons_succ, List.set_cons_zero])
            | (refine tkC (j := 19) (fuel := 29) (oi := ⟨_, _, _, _, _, _⟩) HK rfl rfl (fun K hK => ?_)
               go_simp
               refine (from_someB _ _ _ _).mono ?_
               rintro e v1 ⟨_ | _, rfl, hb1⟩ <;> (have h0 := btK h0 hb1; refine hK.out _ _ h0 ?_; clear hK K hb1))
          all_goals first
            | (refine tkU (j := 20) (fuel := 28) (oi := ⟨_, _, _, _, _, _⟩) HK rfl rfl (by rfl) (by assumption) ?_; simp only [Act.put, List.setIfInBounds_toArray, List.set_cons_succ, List.set_cons_zero])
            | (refine tkW (j := 20) (fuel := 28) (oi := ⟨_, _, _, _, _, _⟩) (v := ?_) HK rfl rfl (by rfl) ?_ (by assumption) ?_; rotate_left; (focus (intro W hW; go_simp; (try with_reducible rfl); done)); simp only [Act.put, List.setIfInBounds_toArray, List.set_cons_succ, List.set_cons_zero])
          all_goals first
            | (refine tkU (j := 21) (fuel := 27) (oi := ⟨_, _, _, _, _, _⟩) HK rfl rfl (by rfl) (by assumption) ?_; simp only [Act.put, List.setIfInBounds_toArray, List.set_cons_succ, List.set_cons_zero])
            | (refine tkW (j := 21) (fuel := 27) (oi := ⟨_, _, _, _, _, _⟩) (v := ?_) HK rfl rfl (by rfl) ?_ (by assumption) ?_; rotate_left; (focus (intro W hW; go_simp; (try with_reducible rfl); done)); simp only [Act.put, List.setIfInBounds_toArray, List.set_cons_succ, List.set_cons_zero])
          all_goals first
            | (refine tkU (j := 22) (fuel := 26) (oi := ⟨_, _, _, _, _, _⟩) HK rfl rfl (by rfl) (by assumption) ?_; simp only [Act.put, List.setIfInBounds_toArray, List.set_cons_succ, List.set_cons_zero])
            | (refine tkW (j := 22) (fuel := 26) (oi := ⟨_, _, _, _, _, _⟩) (v := ?_) HK rfl rfl (by rfl) ?_ (by assumption) ?_; rotate_left; (focus (intro W hW; go_simp; (try with_reducible rfl); done)); simp only [Act.put, List.setIfInBounds_toArray, List.set_cons_succ, List.set_cons_zero])
          all_goals first
            | (refine tkU (j := 23) (fuel := 25) (oi := ⟨_, _, _, _, _, _⟩) HK rfl rfl (by rfl) (by assumption) ?_; simp only [Act.put, List.setIfInBounds_toArray, List.set_cons_succ, List.set_cons_zero])
            | (refine tkW (j := 23) (fuel := 25) (oi := ⟨_, _, _, _, _, _⟩) (v := ?_) HK rfl rfl (by rfl) ?_ (by assumption) ?_; rotate_left; (focus (intro W hW; go_simp; (try with_reducible rfl); done)); simp only [Act.put, List.setIfInBounds_toArray, List.set_cons_succ, List.set_cons_zero])
          all_goals first
            | (refine tkU (j := 24) (fuel := 24) (oi := ⟨_, _, _, _, _, _⟩) HK rfl rfl (by rfl) (by assumption) ?_; simp only [Act.put, List.setIfInBounds_toArray, List.set_cons_succ, List.set_cons_zero])
            | (refine tkW (j := 24) (fuel := 24) (oi := ⟨_, _, _, _, _, _⟩) (v := ?_) HK rfl rfl (by rfl) ?_ (by assumption) ?_; rotate_left; (focus (intro W hW; obtain ⟨y5, y6, z0, z1, z2, z3, z4, z5, z6, z7, z8⟩ := HFX.out _ hW; go_simp; (try with_reducible rfl); done)); simp only [Act.put, List.setIfInBounds_toArray, List.set_cons_succ, List.set_cons_zero])
          all_goals first
            | (refine tkU (j := 25) (fuel := 23) (oi := ⟨_, _, _, _, _, _⟩) HK rfl rfl (by rfl) (by assumption) ?_; simp only [Act.put, List.setIfInBounds_toArray, List.set_cons_succ, List.set_cons_zero])
            | (refine tkW (j := 25) (fuel := 23) (oi := ⟨_, _, _, _, _, _⟩) (v := ?_) HK rfl rfl (by rfl) ?_ (by assumption) ?_; rotate_left; (focus (intro W hW; go_simp; (try with_reducible rfl); done)); simp only [Act.put, List.setIfInBounds_toArray, List.set_cons_succ, List.set_cons_zero])
          all_goals first
            | (refine tkU (j := 26) (fuel := 22) (oi := ⟨_, _, _, _, _, _⟩) HK rfl rfl (by rfl) (by assumption) ?_; simp only [Act.put, List.setIfInBounds_toArray, List.set_cons_succ, List.set_cons_zero])
            | (refine tkW (j := 26) (fuel := 22) (oi := ⟨_, _, _, _, _, _⟩) (v := ?_) HK rfl rfl (by rfl) ?_ (by assumption) ?_; rotate_left; (focus (intro W hW; go_simp; (try with_reducible rfl); done)); simp only [Act.put, List.setIfInBounds_toArray, List.set_cons_succ, List.set_cons_zero])
          all_goals first
            | (refine tkU (j := 27) (fuel := 21) (oi := ⟨_, _, _, _, _, _⟩) HK rfl rfl (by rfl) (by assumption) ?_; simp only [Act.put, List.setIfInBounds_toArray, List.set_cons_succ, List.set_cons_zero])
            | (refine tkW (j := 27) (fuel := 21) (oi := ⟨_, _, _, _, _, _⟩) (v := ?_) HK rfl rfl (by rfl) ?_ (by assumption) ?_; rotate_left; (focus (intro W hW; obtain ⟨y5, y6, z0, z1, z2, z3, z4, z5, z6, z7, z8⟩ := HFX.out _ hW; go_simp; (try with_reducible rfl); done)); simp only [Act.put, List.setIfInBounds_toArray, List.set_cons_succ, List.set_cons_zero])
          all_goals first
            | (refine tkU (j := 28) (fuel := 20) (oi := ⟨_, _, _, _, _, _⟩) HK rfl rfl (by rfl) (by assumption) ?_; simp only [Act.put, List.setIfInBounds_toArray, List.set_cons_succ, List.set_cons_zero])
            | (refine tkW (j := 28) (fuel := 20) (oi := ⟨_, _, _, _, _, _⟩) (v := ?_) HK rfl rfl (by rfl) ?_ (by assumption) ?_; rotate_left; (focus (intro W hW; go_simp; (try with_reducible rfl); done)); simp only [Act.put, List.setIfInBounds_toArray, List.set_cons_succ, List.set_cons_zero])
          all_goals first
            | (refine tkU (j := 29) (fuel := 19) (oi := ⟨_, _, _, _, _, _⟩) HK rfl rfl (by rfl) (by assumption) ?_; simp only [Act.put, List.setIfInBounds_toArray, List.set_cons_succ, List.set_cons_zero])
            | (refine tkW (j := 29) (fuel := 19) (oi := ⟨_, _, _, _, _, _⟩) (v := ?_) HK rfl rfl (by rfl) ?_ (by assumption) ?_; rotate_left; (focus (intro W hW; go_simp; (try with_reducible rfl); done)); simp only [Act.put, List.setIfInBounds_toArray, List.set_cons_succ, List.set_cons_zero]; (cases hle : ((x.props.length : Int) != (t.props.length : Int)) <;> clear hle))
          all_goals first
            | (refine tkU (j := 30) (fuel := 18) (oi := ⟨_, _, _, _, _, _⟩) HK rfl rfl (by rfl) (by assumption) ?_; simp only [Act.put, List.setIfInBounds_toArray, List.set_cons_succ, List.set_cons_zero])
            | (refine tkW (j := 30) (fuel := 18) (oi := ⟨_, _, _, _, _, _⟩) (v := ?_) HK rfl rfl (by rfl) ?_ (by assumption) ?_; rotate_left; (focus (intro W hW; go_simp; (try with_reducible rfl); done)); simp only [Act.put, List.setIfInBounds_toArray, List.set_cons_succ, List.set_cons_zero])
          all_goals first
            | (refine tkU (j := 31) (fuel := 17) (oi := ⟨_, _, _, _, _, _⟩) HK rfl rfl (by rfl) (by assumption) ?_; simp only [Act.put, List.setIfInBounds_toArray, List.set_cons_succ, List.set_cons_zero])
            | (refine tkW (j := 31) (fuel := 17) (oi := ⟨_, _, _, _, _, _⟩) (v := ?_) HK rfl rfl (by rfl) ?_ (by assumption) ?_; rotate_left; (focus (intro W hW; go_simp; (try with_reducible rfl); done)); simp only [Act.put, List.setIfInBounds_toArray, List.set_cons_succ, List.set_cons_zero])
          all_goals first
            | (refine tkU (j := 32) (fuel := 16) (oi := ⟨_, _, _, _, _, _⟩) HK rfl rfl (by rfl) (by assumption) ?_; simp only [Act.put, List.setIfInBounds_toArray, List.set_cons_succ, List.set_cons_zero])
            | (refine tkW (j := 32) (fuel := 16) (oi := ⟨_, _, _, _, _, _⟩) (v := ?_) HK rfl rfl (by rfl) ?_ (by assumption) ?_; rotate_left; (focus (intro W hW; go_simp; (try with_reducible rfl); done)); simp only [Act.put, List.setIfInBounds_toArray, List.set_cons_succ, List.set_cons_zero])
          all_goals first
            | (refine tkU (j := 33) (fuel := 15) (oi := ⟨_, _, _, _, _, _⟩) HK rfl rfl (by rfl) (by assumption) ?_; simp only [Act.put, List.setIfInBounds_toArray, List.set_cons_succ, List.set_cons_zero])
            | (refine tkW (j := 33) (fuel := 15) (oi := ⟨_, _, _, _, _, _⟩) (v := ?_) HK rfl rfl (by rfl) ?_ (by assumption) ?_; rotate_left; (focus (intro W hW; obtain ⟨y5, y6, z0, z1, z2, z3, z4, z5, z6, z7, z8⟩ := HFX.out _ hW; go_simp; (try with_reducible rfl); done)); simp only [Act.put, List.setIfInBounds_toArray, List.set_cons_succ, List.set_cons_zero])
          all_goals first
            | (refine tkV (j := 34) (fuel := 14) (oi := ⟨_, _, _, _, _, _⟩) HK HF rfl rfl (by rfl) (by assumption) ?_; simp only [Act.put, List.setIfInBounds_toArray, List.set_cons_succ, List.set_cons_zero])
            | (refine tkC (j := 34) (fuel := 14) (oi := ⟨_, _, _, _, _, _⟩) HK rfl rfl (fun K hK => ?_)
               go_simp
               refine (HV.out _ (btK HBQ.out h0)).mono ?_
               rintro e v1 ⟨_ | _, rfl, hb1⟩ <;> (have h0 := btK h0 hb1; refine hK.out _ _ h0 ?_; clear hK K hb1))
          all_goals first
            | (refine tkU (j := 35) (fuel := 13) (oi := ⟨_, _, _, _, _, _⟩) HK rfl rfl (by rfl) (by assumption) ?_; simp only [Act.put, List.setIfInBounds_toArray, List.set_cons_succ, List.set_cons_zero])
            | (refine tkW (j := 35) (fuel := 13) (oi := ⟨_, _, _, _, _, _⟩) (v := ?_) HK rfl rfl (by rfl) ?_ (by assumption) ?_; rotate_left; (focus (intro W hW; go_simp; (try with_reducible rfl); done)); simp only [Act.put, List.setIfInBounds_toArray, List.set_cons_succ, List.set_cons_zero])
          all_goals first
            | (refine tkU (j := 36) (fuel := 12) (oi := ⟨_, _, _, _, _, _⟩) HK rfl rfl (by rfl) (by assumption) ?_; simp only [Act.put, List.setIfInBounds_toArray, List.set_cons_succ, List.set_cons_zero])
            | (refine tkW (j := 36) (fuel := 12) (oi := ⟨_, _, _, _, _, _⟩) (v := ?_) HK rfl rfl (by rfl) ?_ (by assumption) ?_; rotate_left; (focus (intro W hW; go_simp; (try with_reducible rfl); done)); simp only [Act.put, List.setIfInBounds_toArray, List.set_cons_succ, List.set_cons_zero])
          all_goals first
            | (refine tkU (j := 37) (fuel := 11) (oi := ⟨_, _, _, _, _, _⟩) HK rfl rfl (by rfl) (by assumption) ?_; simp only [Act.put, List.setIfInBounds_toArray, List.set_cons_succ, List.set_cons_zero])
            | (refine tkW (j := 37) (fuel := 11) (oi := ⟨_, _, _, _, _, _⟩) (v := ?_) HK rfl rfl (by rfl) ?_ (by assumption) ?_; rotate_left; (focus (intro W hW; go_simp; (try with_reducible rfl); done)); simp only [Act.put, List.setIfInBounds_toArray, List.set_cons_succ, List.set_cons_zero])
          all_goals first
            | (refine tkU (j := 38) (fuel := 10) (oi := ⟨_, _, _, _, _, _⟩) HK rfl rfl (by rfl) (by assumption) ?_; simp only [Act.put, List.setIfInBounds_toArray, List.set_cons_succ, List.set_cons_zero])
            | (refine tkW (j := 38) (fuel := 10) (oi := ⟨_, _, _, _, _, _⟩) (v := ?_) HK rfl rfl (by rfl) ?_ (by assumption) ?_; rotate_left; (focus (intro W hW; go_simp; (try with_reducible rfl); done)); simp only [Act.put, List.setIfInBounds_toArray, List.set_cons_succ, List.set_cons_zero])
          all_goals first
            | (refine tkU (j := 39) (fuel := 9) (oi := ⟨_, _, _, _, _, _⟩) HK rfl rfl (by rfl) (by assumption) ?_; simp only [Act.put, List.setIfInBounds_toArray, List.set_cons_succ, List.set_cons_zero])
            | (refine tkW (j := 39) (fuel := 9) (oi := ⟨_, _, _, _, _, _⟩) (v := ?_) HK rfl rfl (by rfl) ?_ (by assumption) ?_; rotate_left; (focus (intro W hW; obtain ⟨y5, y6, z0, z1, z2, z3, z4, z5, z6, z7, z8⟩ := HFX.out _ hW; go_simp; (try with_reducible rfl); done)); simp only [Act.put, List.setIfInBounds_toArray, List.set_cons_succ, List.set_cons_zero])
          all_goals first
            | (refine tkV (j := 40) (fuel := 8) (oi := ⟨_, _, _, _, _, _⟩) HK HF rfl rfl (by rfl) (by assumption) ?_; simp only [Act.put, List.setIfInBounds_toArray, List.set_cons_succ, List.set_cons_zero])
            | (refine tkC (j := 40) (fuel := 8) (oi := ⟨_, _, _, _, _, _⟩) HK rfl rfl (fun K hK => ?_)
               go_simp
               refine (HW6.out _ (btK HBQ.out h0)).mono ?_
               rintro e v1 ⟨_ | _, rfl, hb1⟩ <;> (have h0 := btK h0 hb1; refine hK.out _ _ h0 ?_; clear hK K hb1))
          all_goals first
            | (refine tkU (j := 41) (fuel := 7) (oi := ⟨_, _, _, _, _, _⟩) HK rfl rfl (by rfl) (by assumption) ?_; simp only [Act.put, List.setIfInBounds_toArray, List.set_cons_succ, List.set_cons_zero])
            | (refine tkW (j := 41) (fuel := 7) (oi := ⟨_, _, _, _, _, _⟩) (v := ?_) HK rfl rfl (by rfl) ?_ (by assumption) ?_; rotate_left; (focus (intro W hW; go_simp; (try with_reducible rfl); done)); simp only [Act.put, List.setIfInBounds_toArray, List.set_cons_succ, List.set_cons_zero])
          all_goals first
            | (refine tkU (j := 42) (fuel := 6) (oi := ⟨_, _, _, _, _, _⟩) HK rfl rfl (by rfl) (by assumption) ?_; simp only [Act.put, List.setIfInBounds_toArray, List.set_cons_succ, List.set_cons_zero])
            | (refine tkW (j := 42) (fuel := 6) (oi := ⟨_, _, _, _, _, _⟩) (v := ?_) HK rfl rfl (by rfl) ?_ (by assumption) ?_; rotate_left; (focus (intro W hW; go_simp; (try with_reducible rfl); done)); simp only [Act.put, List.setIfInBounds_toArray, List.set_cons_succ, List.set_cons_zero])
          all_goals first
            | (refine tkU (j := 43) (fuel := 5) (oi := ⟨_, _, _, _, _, _⟩) HK rfl rfl (by rfl) (by assumption) ?_; simp only [Act.put, List.setIfInBounds_toArray, List.set_cons_succ, List.set_cons_zero])
            | (refine tkW (j := 43) (fuel := 5) (oi := ⟨_, _, _, _, _, _⟩) (v := ?_) HK rfl rfl (by rfl) ?_ (by assumption) ?_; rotate_left; (focus (intro W hW; go_simp; (try with_reducible rfl); done)); simp only [Act.put, List.setIfInBounds_toArray, List.set_cons_succ, List.set_cons_zero])
          all_goals first
            | (refine tkU (j := 44) (fuel := 4) (oi := ⟨_, _, _, _, _, _⟩) HK rfl rfl (by rfl) (by assumption) ?_; simp only [Act.put, List.setIfInBounds_toArray, List.set_cons_succ, List.set_cons_zero])
            | (refine tkW (j := 44) (fuel := 4) (oi := ⟨_, _, _, _, _, _⟩) (v := ?_) HK rfl rfl (by rfl) ?_ (by assumption) ?_; rotate_left; (focus (intro W hW; go_simp; (try with_reducible rfl); done)); simp only [Act.put, List.setIfInBounds_toArray, List.set_cons_succ, List.set_cons_zero])
          all_goals first
            | (refine tkU (j := 45) (fuel := 3) (oi := ⟨_, _, _, _, _, _⟩) HK rfl rfl (by rfl) (by assumption) ?_; simp only [Act.put, List.setIfInBounds_toArray, List.set_cons_succ, List.set_cons_zero])
            | (refine tkW (j := 45) (fuel := 3) (oi := ⟨_, _, _, _, _, _⟩) (v := ?_) HK rfl rfl (by rfl) ?_ (by assumption) ?_; rotate_left; (focus (intro W hW; obtain ⟨y5, y6, z0, z1, z2, z3, z4, z5, z6, z7, z8⟩ := HFX.out _ hW; go_simp; (try with_reducible rfl); done)); simp only [Act.put, List.setIfInBounds_toArray, List.set_cons_succ, List.set_cons_zero])
          all_goals first
            | (refine tkV (j := 46) (fuel := 2) (oi := ⟨_, _, _, _, _, _⟩) HK HF rfl rfl (by rfl) (by assumption) ?_; simp only [Act.put, List.setIfInBounds_toArray, List.set_cons_succ, List.set_cons_zero])
            | (refine tkC (j := 46) (fuel := 2) (oi := ⟨_, _, _, _, _, _⟩) HK rfl rfl (fun K hK => ?_)
               go_simp
               refine (HW7.out _ (btK HBQ.out h0)).mono ?_
               rintro e v1 ⟨_ | _, rfl, hb1⟩ <;> (have h0 := btK h0 hb1; refine hK.out _ _ h0 ?_; clear hK K hb1))
          all_goals first
            | (refine tkU (j := 47) (fuel := 1) (oi := ⟨_, _, _, _, _, _⟩) HK rfl rfl (by rfl) (by assumption) ?_; simp only [Act.put, List.setIfInBounds_toArray, List.set_cons_succ, List.set_cons_zero])
            | (refine tkW (j := 47) (fuel := 1) (oi := ⟨_, _, _, _, _, _⟩) (v := ?_) HK rfl rfl (by rfl) ?_ (by assumption) ?_; rotate_left; (focus (intro W hW; go_simp; (try with_reducible rfl); done)); simp only [Act.put, List.setIfInBounds_toArray, List.set_cons_succ, List.set_cons_zero])
          all_goals first
            | (refine tkU (j := 48) (fuel := 0) (oi := ⟨_, _, _, _, _, _⟩) HK rfl rfl (by rfl) (by assumption) ?_; simp only [Act.put, List.setIfInBounds_toArray, List.set_cons_succ, List.set_cons_zero])
            | (refine tkW (j := 48) (fuel := 0) (oi := ⟨_, _, _, _, _, _⟩) (v := ?_) HK rfl rfl (by rfl) ?_ (by assumption) ?_; rotate_left; (focus (intro W hW; go_simp; (try with_reducible rfl); done)); simp only [Act.put, List.setIfInBounds_toArray, List.set_cons_succ, List.set_cons_zero])
          all_goals refine tkE (by kernel_rfl) ?_ _
          all_goals go_simp
          all_goals
            have HBv := Lib.hid (btK HBQ.out h0)
            have HXv := Lib.hid (HXq.out.below h0)
            have HB0 := Lib.hid h0
            clear h0
            go_upto_region 9 with fail
            all_goals try (go_ret; exact ⟨_, rfl, (fun h => by cases h), HBv.out⟩)
          obtain ⟨-, -, z0, z1, z2, z3, z4, z5, z6, z7, z8⟩ := HFX.out _ HB0.out
          have HTH := Lib.hid (fun W h => HT.out W h x.parent)
          by_cases hp0 : x.parent = 0
          · have HPN := Lib.hid (HPN.out (Or.inl hp0))
            simp only [hp0] at z2 HTH HFX
            clear hp0
            rcases hr : x.room with _ | _
            all_goals
              simp only [hr] at z4 HFX
              clear hr
              by_cases hw : 0 < x.ways.length
              · have hw1 : (0 : Int) < (x.ways.length : Int) := by omega
                go_wp2_with (first | ((with_reducible refine wpList_load_T 28 (.tmp 1) ?hw9 ⟨w.heap.size, 0, none⟩ ?hx9 TV (HL.out _ HXv.out) ?_); (case hw9 => rfl); (case hx9 => first | rfl | (exact rfl))) | fail | (go_at_call 68; (with_reducible refine (HWA.out _ HBv.out).mono ?_); rintro e w1 ⟨_ | _, rfl, hb1⟩ <;> (have HXv := Lib.hid (HXv.out.below hb1); have HBv := Lib.hid (btK HBv.out hb1))))
                all_goals
                  first
                  | (go_ret; exact ⟨_, rfl, (fun h => by cases h), HBv.out⟩)
                  | (go_roundw
                     case rel => exact ⟨k + 1, by omega, by omega, by go_num, HPN.out, HBv.out, HXv.out⟩
                     case measure => simp [intOf]; omega)
              · have hz : x.ways.length = 0 := by omega
                simp only [hz] at z8 HWA HFX
                clear hz hw
                go_wp2_with (first | ((with_reducible refine wpList_load_T 28 (.tmp 1) ?hw9 ⟨w.heap.size, 0, none⟩ ?hx9 TV (HL.out _ HXv.out) ?_); (case hw9 => rfl); (case hx9 => first | rfl | (exact rfl))) | fail | (go_at_call 68; (with_reducible refine (HWA.out _ HBv.out).mono ?_); rintro e w1 ⟨_ | _, rfl, hb1⟩ <;> (have HXv := Lib.hid (HXv.out.below hb1); have HBv := Lib.hid (btK HBv.out hb1))))
                all_goals
                  first
                  | (go_ret; exact ⟨_, rfl, (fun h => by cases h), HBv.out⟩)
                  | (go_roundw
                     case rel => exact ⟨k + 1, by omega, by omega, by go_num, HPN.out, HBv.out, HXv.out⟩
                     case measure => simp [intOf]; omega)
          · have e0 : (x.parent == 0) = false := by simpa using hp0
            have e1 : (x.parent != 0) = true := by simp only [bne, e0, Bool.not_false]
            by_cases hp1 : 1 ≤ x.parent ∧ x.parent ≤ (t.things.length : Int) - 1
            · have HPN := Lib.hid (HPN.out (Or.inr hp1))
              have hth := HTH.out
              rw [decide_eq_true hp1.1, decide_eq_true hp1.2] at hth
              have HTH := Lib.hid hth
              clear hth hp1
              rcases hr : x.room with _ | _
              all_goals
                simp only [hr] at z4 HFX
                clear hr
                by_cases hw : 0 < x.ways.length
                · have hw1 : (0 : Int) < (x.ways.length : Int) := by omega
                  go_wp2_with (first | ((with_reducible refine wpList_load_T 28 (.tmp 1) ?hw9 ⟨w.heap.size, 0, none⟩ ?hx9 TV (HL.out _ HXv.out) ?_); (case hw9 => rfl); (case hx9 => first | rfl | (exact rfl))) | (go_at_call 67; (with_reducible refine (HTH.out _ HBv.out).mono ?_); rintro e w1 ⟨rfl, hb1⟩; have HXv := Lib.hid (HXv.out.below hb1); have HBv := Lib.hid (btK HBv.out hb1); have HB0 := Lib.hid (btK HB0.out hb1); (obtain ⟨-, -, z0, z1, z2, z3, z4, z5, z6, z7, z8⟩ := HFX.out _ HB0.out)) | (go_at_call 68; (with_reducible refine (HWA.out _ HBv.out).mono ?_); rintro e w1 ⟨_ | _, rfl, hb1⟩ <;> (have HXv := Lib.hid (HXv.out.below hb1); have HBv := Lib.hid (btK HBv.out hb1))))
                  all_goals
                    first
                    | (go_ret; exact ⟨_, rfl, (fun h => by cases h), HBv.out⟩)
                    | (go_roundw
                       case rel => exact ⟨k + 1, by omega, by omega, by go_num, HPN.out, HBv.out, HXv.out⟩
                       case measure => simp [intOf]; omega)
                · have hz : x.ways.length = 0 := by omega
                  simp only [hz] at z8 HWA HFX
                  clear hz hw
                  go_wp2_with (first | ((with_reducible refine wpList_load_T 28 (.tmp 1) ?hw9 ⟨w.heap.size, 0, none⟩ ?hx9 TV (HL.out _ HXv.out) ?_); (case hw9 => rfl); (case hx9 => first | rfl | (exact rfl))) | (go_at_call 67; (with_reducible refine (HTH.out _ HBv.out).mono ?_); rintro e w1 ⟨rfl, hb1⟩; have HXv := Lib.hid (HXv.out.below hb1); have HBv := Lib.hid (btK HBv.out hb1); have HB0 := Lib.hid (btK HB0.out hb1); (obtain ⟨-, -, z0, z1, z2, z3, z4, z5, z6, z7, z8⟩ := HFX.out _ HB0.out)) | (go_at_call 68; (with_reducible refine (HWA.out _ HBv.out).mono ?_); rintro e w1 ⟨_ | _, rfl, hb1⟩ <;> (have HXv := Lib.hid (HXv.out.below hb1); have HBv := Lib.hid (btK HBv.out hb1))))
                  all_goals
                    first
                    | (go_ret; exact ⟨_, rfl, (fun h => by cases h), HBv.out⟩)
                    | (go_roundw
                       case rel => exact ⟨k + 1, by omega, by omega, by go_num, HPN.out, HBv.out, HXv.out⟩
                       case measure => simp [intOf]; omega)
            · have hth := HTH.out
              have e : (decide (1 ≤ x.parent) && decide (x.parent ≤ (t.things.length : Int) - 1)) = false := by simpa using hp1
              rw [e] at hth
              have HTH := Lib.hid hth
              clear hth hp1 e HPN
              go_wp2_with (first | ((with_reducible refine wpList_load_T 28 (.tmp 1) ?hw9 ⟨w.heap.size, 0, none⟩ ?hx9 TV (HL.out _ HXv.out) ?_); (case hw9 => rfl); (case hx9 => first | rfl | (exact rfl))) | (go_at_call 67; (with_reducible refine (HTH.out _ HBv.out).mono ?_); rintro e w1 ⟨rfl, hb1⟩; have HXv := Lib.hid (HXv.out.below hb1); have HBv := Lib.hid (btK HBv.out hb1); have HB0 := Lib.hid (btK HB0.out hb1); (obtain ⟨-, -, z0, z1, z2, z3, z4, z5, z6, z7, z8⟩ := HFX.out _ HB0.out)))
              all_goals
                go_ret
                exact ⟨_, rfl, (fun h => by cases h), HBv.out⟩
      )
end Go.Proofs.YtapjglpiofpbmaaGreat
