/- clewref19's tests of a text's, a routine's and a thing's number; rows of numbers and of words. Printed by gen-ac2.py. -/
import Derived.Test.YtapjglpiofpbmaaGreatAcB
import Derived.Test.YtapjglpiofpbmaaGreatAcX
namespace Go.Proofs.YtapjglpiofpbmaaGreat
open Go.RowKit

/-- A call that gives some truth value. -/
def SomeB (w : World) (e : Ending) (w' : World) : Prop := ∃ b : Bool, e = .returned (.bool b) ∧ Below w.heap.size w w'
/-- A call that gives some truth value, under which P holds. -/
def SomeQ (P : Prop) (w : World) (e : Ending) (w' : World) : Prop := ∃ b : Bool, e = .returned (.bool b) ∧ (b = true → P) ∧ Below w.heap.size w w'
set_option maxRecDepth 100000 in
set_option maxHeartbeats 2000000 in
theorem values_some (F : Nat → Prop) (w : World) (l : List Int) (v : Value) (hr : RdInts F w l v) : Calls Tryz.prog 35 #[v] w (Some0 w) := by
  obtain ⟨a, cap, rfl, hlc, hc, ha⟩ := hr.opn
  have HA := Lib.hid ha
  clear ha hr
  go_enter Tryz.func35, Tryz.ntmps35
  go_wp2
  go_loopw [3] (fun i wr => ∃ k : Nat, k ≤ l.length ∧ i = .int .i64 k ∧ w = wr) (fun i _ => l.length - (intOf i).toNat)
  case atStart => exact ⟨0, Nat.zero_le _, rfl, rfl⟩
  case round =>
    obtain ⟨k, hk, rfl, rfl⟩ := hrel
    by_cases hlt : k < l.length
    · have h1 : (k : Int) < (l.length : Int) := by omega
      have h2 : (0 : Int) ≤ (k : Int) := by omega
      obtain ⟨b, off, rfl, -, hel⟩ := HA.out (by omega)
      obtain ⟨-, y0⟩ := hel w rfl k hlt
      clear hel
      go_wp2_with (first | (go_at_call 38; (with_reducible refine (is01_calls _ _).mono ?_); rintro e w1 ⟨rfl, rfl⟩))
      all_goals
        first
        | (go_ret; exact ⟨_, rfl, rfl⟩)
        | (go_roundw
           case rel => exact ⟨k + 1, by omega, by go_num, by first | rfl | trivial⟩
           case measure => simp [intOf]; omega)
    · have h1 : ¬ (k : Int) < (l.length : Int) := by omega
      have hkn : k = l.length := by omega
      clear hkn
      go_wp2_with (fail)
      all_goals
        go_ret
        exact ⟨_, rfl, rfl⟩
set_option maxRecDepth 100000 in
set_option maxHeartbeats 2000000 in
theorem all_some (F : Nat → Prop) (w : World) (l : List Int) (v : Value) (lo hi : Int) (hr : RdInts F w l v) : Calls Tryz.prog 36 #[v, .int .i64 lo, .int .i64 hi] w (SomeP (∀ x ∈ l, lo ≤ x ∧ x ≤ hi) w) := by
  obtain ⟨a, cap, rfl, hlc, hc, ha⟩ := hr.opn
  have HA := Lib.hid ha
  have HG : Hid ((∀ i (hi' : i < l.length), lo ≤ l[i] ∧ l[i] ≤ hi) → ∀ x ∈ l, lo ≤ x ∧ x ≤ hi) := fun h => getI_mem h
  clear ha hr
  go_enter Tryz.func36, Tryz.ntmps36
  go_wp2
  go_loopw [7] (fun i wr => ∃ k : Nat, k ≤ l.length ∧ i = .int .i64 k ∧ Hid (∀ j (hj : j < l.length), j < k → lo ≤ l[j] ∧ l[j] ≤ hi) ∧ w = wr) (fun i _ => l.length - (intOf i).toNat)
  case atStart => exact ⟨0, Nat.zero_le _, rfl, fun j hj h => absurd h (by omega), rfl⟩
  case round =>
    obtain ⟨k, hk, rfl, hP, rfl⟩ := hrel
    by_cases hlt : k < l.length
    · have h1 : (k : Int) < (l.length : Int) := by omega
      have h2 : (0 : Int) ≤ (k : Int) := by omega
      obtain ⟨b, off, rfl, -, hel⟩ := HA.out (by omega)
      obtain ⟨-, y0⟩ := hel w rfl k hlt
      have hN : Hid (lo ≤ l[k] ∧ l[k] ≤ hi → ∀ j (hj : j < l.length), j < k + 1 → lo ≤ l[j] ∧ l[j] ≤ hi) := fun h j hj hjk => by
        rcases Nat.lt_or_ge j k with h9 | h9
        · exact hP.out j hj h9
        · obtain rfl : j = k := by omega
          exact h
      clear hel
      generalize l[k] = x at y0 hN
      by_cases hx : lo ≤ x ∧ x ≤ hi
      · have hN2 := Lib.hid (hN.out hx)
        have hf := fun W => from_calls x lo hi W
        rw [decide_eq_true hx.1, decide_eq_true hx.2] at hf
        have HF := Lib.hid hf
        clear hf hx hN
        go_wp2_with ((go_at_call 39; (with_reducible refine (HF.out _).mono ?_); rintro e w1 ⟨rfl, rfl⟩))
        go_roundw
        case rel => exact ⟨k + 1, by omega, by go_num, hN2.out, by first | rfl | trivial⟩
        case measure => simp [intOf]; omega
      · have hf := fun W => from_calls x lo hi W
        have e : (decide (lo ≤ x) && decide (x ≤ hi)) = false := by simpa using hx
        rw [e] at hf
        have HF := Lib.hid hf
        clear hf hx hN e
        go_wp2_with ((go_at_call 39; (with_reducible refine (HF.out _).mono ?_); rintro e w1 ⟨rfl, rfl⟩))
        go_ret
        exact ⟨_, rfl, (fun h => by cases h), rfl⟩
    · have h1 : ¬ (k : Int) < (l.length : Int) := by omega
      have hfin : Hid (∀ x ∈ l, lo ≤ x ∧ x ≤ hi) := HG.out fun j hj => hP.out j hj (by omega)
      go_wp2
      go_ret
      exact ⟨_, rfl, fun _ => hfin.out, rfl⟩
set_option maxRecDepth 100000 in
set_option maxHeartbeats 2000000 in
theorem words_some (F : Nat → Prop) (w : World) (l : List ByteArray) (v : Value) (most : Int) (hr : RdStrs F w l v) : Calls Tryz.prog 66 #[v, .int .i64 most] w (Some0 w) := by
  obtain ⟨a, cap, rfl, hlc, hc, ha⟩ := RdL.opn hr
  unfold maxLen at hc
  have HA := Lib.hid ha
  clear ha hr
  go_enter Tryz.func66, Tryz.ntmps66
  go_wp2
  go_loopw [5] (fun i wr => ∃ k : Nat, k ≤ l.length ∧ i = .int .i64 k ∧ w = wr) (fun i _ => l.length - (intOf i).toNat)
  case atStart => exact ⟨0, Nat.zero_le _, rfl, rfl⟩
  case round =>
    obtain ⟨k, hk, rfl, rfl⟩ := hrel
    by_cases hlt : k < l.length
    · have h1 : (k : Int) < (l.length : Int) := by omega
      have h2 : (0 : Int) ≤ (k : Int) := by omega
      obtain ⟨b, off, rfl, -, hel⟩ := HA.out (by omega)
      obtain ⟨cs, ⟨hsz, rfl⟩, -, hcell⟩ := hel w rfl k hlt
      have y0 := hcell 0 _ rfl
      simp only [Nat.mul_one, Nat.add_zero] at y0
      have HI := Lib.hid (fun W => isWord_some l[k] W hsz)
      generalize l[k] = x at y0 HI
      clear hel hcell hsz
      go_wp2_with (first | (go_at_call 98; (with_reducible refine (HI.out _).mono ?_); rintro e w1 ⟨_ | _, rfl, rfl⟩))
      all_goals
        first
        | (go_ret; exact ⟨_, rfl, rfl⟩)
        | (go_roundw
           case rel => exact ⟨k + 1, by omega, by go_num, by first | rfl | trivial⟩
           case measure => simp [intOf]; omega)
    · have h1 : ¬ (k : Int) < (l.length : Int) := by omega
      have hkn : k = l.length := by omega
      clear hkn
      go_wp2_with (fail)
      all_goals
        go_ret
        exact ⟨_, rfl, rfl⟩
set_option maxRecDepth 100000 in
set_option maxHeartbeats 2000000 in
theorem thing_calls (F : Nat → Prop) (w : World) (t : TabD) (cs : List Value) (n : Int) (ht : Holds.tab.R F w t cs) : Calls Tryz.prog 67 #[.agg cs.toArray, .int .i64 n] w (Gives w (.bool (decide (1 ≤ n) && decide (n ≤ (t.things.length : Int) - 1)))) := by
  obtain ⟨i0, i1, i2, i3, i5, v4, v6, v7, v8, v9, v10, v11, v12, v13, v14, rfl, g4, g6, g7, g8, g9, g10, g11, g12, g13, g14⟩ := ht
  obtain ⟨ad4, ca4, rfl⟩ := g4.shape
  obtain ⟨ad6, ca6, rfl⟩ := g6.shape
  obtain ⟨ad7, ca7, rfl⟩ := g7.shape
  obtain ⟨ad8, ca8, rfl⟩ := g8.shape
  obtain ⟨ad9, ca9, rfl⟩ := g9.shape
  obtain ⟨ad10, ca10, rfl⟩ := g10.shape
  obtain ⟨ad11, ca11, rfl⟩ := g11.shape
  obtain ⟨ad12, ca12, rfl⟩ := g12.shape
  obtain ⟨ad13, ca13, rfl⟩ := g13.shape
  obtain ⟨ad14, ca14, rfl⟩ := g14.shape
  have ln4 := g4.len
  have ln6 := g6.len
  have ln7 := g7.len
  have ln8 := g8.len
  have ln9 := g9.len
  have ln10 := g10.len
  have ln11 := g11.len
  have ln12 := g12.len
  have ln13 := g13.len
  have ln14 := g14.len
  unfold maxLen at ln4 ln6 ln7 ln8 ln9 ln10 ln11 ln12 ln13 ln14
  clear g4 g6 g7 g8 g9 g10 g11 g12 g13 g14
  clear i0 i1 i2 i3 i5
  obtain ⟨W1, hW1⟩ : ∃ x, w.alloc (.cells #[.int .i64 t.title, .int .i64 t.byl, .int .i64 t.release, .int .i64 t.most, .slice ad4 t.texts.length ca4, .int .i64 t.flags, .slice ad6 t.props.length ca6, .slice ad7 t.globals.length ca7, .slice ad8 t.things.length ca8, .slice ad9 t.acts.length ca9, .slice ad10 t.deeds.length ca10, .slice ad11 t.funcs.length ca11, .slice ad12 t.daemons.length ca12, .slice ad13 t.params.length ca13, .slice ad14 t.locals.length ca14] 28) = x := ⟨_, rfl⟩
  have hb1 : Below w.heap.size w W1 := by rw [← hW1]; exact (Below.refl _ _).alloc (Nat.le_refl _) _
  have hx1 : BoxT W1 w.heap.size [.int .i64 t.title, .int .i64 t.byl, .int .i64 t.release, .int .i64 t.most, .slice ad4 t.texts.length ca4, .int .i64 t.flags, .slice ad6 t.props.length ca6, .slice ad7 t.globals.length ca7, .slice ad8 t.things.length ca8, .slice ad9 t.acts.length ca9, .slice ad10 t.deeds.length ca10, .slice ad11 t.funcs.length ca11, .slice ad12 t.daemons.length ca12, .slice ad13 t.params.length ca13, .slice ad14 t.locals.length ca14] 28 := by rw [← hW1]; exact BoxT.new _ _ _
  have y0 := hx1.cell 0
  have y1 := hx1.cell 1
  have y2 := hx1.cell 2
  have y3 := hx1.cell 3
  have y4 := hx1.cell 4
  have y5 := hx1.cell 5
  have y6 := hx1.cell 6
  have y7 := hx1.cell 7
  have y8 := hx1.cell 8
  have y9 := hx1.cell 9
  have y10 := hx1.cell 10
  have y11 := hx1.cell 11
  have y12 := hx1.cell 12
  have y13 := hx1.cell 13
  have y14 := hx1.cell 14
  simp only [List.getElem?_cons_succ, List.getElem?_cons_zero] at y0 y1 y2 y3 y4 y5 y6 y7 y8 y9 y10 y11 y12 y13 y14
  have HW1 := Lib.hid hW1; have HB1 := Lib.hid hb1; have HX1 := Lib.hid hx1
  clear hW1 hb1 hx1
  have HF := Lib.hid (fun W => from_calls n 1 ((t.things.length : Int) - 1) W)
  go_enter Tryz.func67, Tryz.ntmps67
  go_upto_region 1 with fail
  rw [HW1.out]
  go_wp2_with ((go_at_call 39; (with_reducible refine (HF.out _).mono ?_); rintro e w1 ⟨rfl, rfl⟩))
  go_ret
  exact ⟨rfl, HB1.out⟩
/-- Is it a text's number (or -1, if that may be)? -/
def textF (t : TabD) (n : Int) (none : Bool) : Bool := (decide (0 ≤ n) && decide (n ≤ (t.texts.length : Int) - 1)) || (none && decide (n = -1))
set_option maxRecDepth 100000 in
set_option maxHeartbeats 2000000 in
theorem text_calls (F : Nat → Prop) (w : World) (t : TabD) (cs : List Value) (n : Int) (none : Bool) (ht : Holds.tab.R F w t cs) : Calls Tryz.prog 63 #[.agg cs.toArray, .int .i64 n, .bool none] w (Gives w (.bool (textF t n none))) := by
  obtain ⟨i0, i1, i2, i3, i5, v4, v6, v7, v8, v9, v10, v11, v12, v13, v14, rfl, g4, g6, g7, g8, g9, g10, g11, g12, g13, g14⟩ := ht
  obtain ⟨ad4, ca4, rfl⟩ := g4.shape
  obtain ⟨ad6, ca6, rfl⟩ := g6.shape
  obtain ⟨ad7, ca7, rfl⟩ := g7.shape
  obtain ⟨ad8, ca8, rfl⟩ := g8.shape
  obtain ⟨ad9, ca9, rfl⟩ := g9.shape
  obtain ⟨ad10, ca10, rfl⟩ := g10.shape
  obtain ⟨ad11, ca11, rfl⟩ := g11.shape
  obtain ⟨ad12, ca12, rfl⟩ := g12.shape
  obtain ⟨ad13, ca13, rfl⟩ := g13.shape
  obtain ⟨ad14, ca14, rfl⟩ := g14.shape
  have ln4 := g4.len
  have ln6 := g6.len
  have ln7 := g7.len
  have ln8 := g8.len
  have ln9 := g9.len
  have ln10 := g10.len
  have ln11 := g11.len
  have ln12 := g12.len
  have ln13 := g13.len
  have ln14 := g14.len
  unfold maxLen at ln4 ln6 ln7 ln8 ln9 ln10 ln11 ln12 ln13 ln14
  clear g4 g6 g7 g8 g9 g10 g11 g12 g13 g14
  clear i0 i1 i2 i3 i5
  obtain ⟨W1, hW1⟩ : ∃ x, w.alloc (.cells #[.int .i64 t.title, .int .i64 t.byl, .int .i64 t.release, .int .i64 t.most, .slice ad4 t.texts.length ca4, .int .i64 t.flags, .slice ad6 t.props.length ca6, .slice ad7 t.globals.length ca7, .slice ad8 t.things.length ca8, .slice ad9 t.acts.length ca9, .slice ad10 t.deeds.length ca10, .slice ad11 t.funcs.length ca11, .slice ad12 t.daemons.length ca12, .slice ad13 t.params.length ca13, .slice ad14 t.locals.length ca14] 28) = x := ⟨_, rfl⟩
  have hb1 : Below w.heap.size w W1 := by rw [← hW1]; exact (Below.refl _ _).alloc (Nat.le_refl _) _
  have hx1 : BoxT W1 w.heap.size [.int .i64 t.title, .int .i64 t.byl, .int .i64 t.release, .int .i64 t.most, .slice ad4 t.texts.length ca4, .int .i64 t.flags, .slice ad6 t.props.length ca6, .slice ad7 t.globals.length ca7, .slice ad8 t.things.length ca8, .slice ad9 t.acts.length ca9, .slice ad10 t.deeds.length ca10, .slice ad11 t.funcs.length ca11, .slice ad12 t.daemons.length ca12, .slice ad13 t.params.length ca13, .slice ad14 t.locals.length ca14] 28 := by rw [← hW1]; exact BoxT.new _ _ _
  have y0 := hx1.cell 0
  have y1 := hx1.cell 1
  have y2 := hx1.cell 2
  have y3 := hx1.cell 3
  have y4 := hx1.cell 4
  have y5 := hx1.cell 5
  have y6 := hx1.cell 6
  have y7 := hx1.cell 7
  have y8 := hx1.cell 8
  have y9 := hx1.cell 9
  have y10 := hx1.cell 10
  have y11 := hx1.cell 11
  have y12 := hx1.cell 12
  have y13 := hx1.cell 13
  have y14 := hx1.cell 14
  simp only [List.getElem?_cons_succ, List.getElem?_cons_zero] at y0 y1 y2 y3 y4 y5 y6 y7 y8 y9 y10 y11 y12 y13 y14
  have HW1 := Lib.hid hW1; have HB1 := Lib.hid hb1; have HX1 := Lib.hid hx1
  clear hW1 hb1 hx1
  have HF := Lib.hid (fun W => from_calls n 0 ((t.texts.length : Int) - 1) W)
  obtain ⟨R, hR⟩ : ∃ r, textF t n none = r := ⟨_, rfl⟩
  rw [hR]
  rcases hq : (decide (0 ≤ n) && decide (n ≤ (t.texts.length : Int) - 1)) with _ | _
  · simp only [hq] at HF
    by_cases hn : n = -1
    · subst hn
      cases none
      all_goals
        have e : Hid (R = _) := hR.symm.trans (by unfold textF; rw [hq])
        clear hR hq
        go_enter Tryz.func63, Tryz.ntmps63
        go_upto_region 1 with fail
        rw [HW1.out]
        go_wp2_with ((go_at_call 39; (with_reducible refine (HF.out _).mono ?_); rintro e w1 ⟨rfl, rfl⟩))
        go_ret
        exact ⟨ret_bool e.out.symm, HB1.out⟩
    · have e : Hid (R = false) := hR.symm.trans (by unfold textF; rw [hq, decide_eq_false hn]; simp)
      have k3 : (n == -1) = false := by simpa using hn
      have k4 : decide (n = -1) = false := by simpa using hn
      clear hR hq
      cases none
      all_goals
        go_enter Tryz.func63, Tryz.ntmps63
        go_upto_region 1 with fail
        rw [HW1.out]
        go_wp2_with ((go_at_call 39; (with_reducible refine (HF.out _).mono ?_); rintro e w1 ⟨rfl, rfl⟩))
        go_ret
        exact ⟨ret_bool e.out.symm, HB1.out⟩
  · simp only [hq] at HF
    have e : Hid (R = true) := hR.symm.trans (by unfold textF; rw [hq]; simp)
    clear hR hq
    cases none
    all_goals
      go_enter Tryz.func63, Tryz.ntmps63
      go_upto_region 1 with fail
      rw [HW1.out]
      go_wp2_with ((go_at_call 39; (with_reducible refine (HF.out _).mono ?_); rintro e w1 ⟨rfl, rfl⟩))
      go_ret
      exact ⟨ret_bool e.out.symm, HB1.out⟩
theorem text_some (F : Nat → Prop) (w : World) (t : TabD) (cs : List Value) (n : Int) (none : Bool) (ht : Holds.tab.R F w t cs) : Calls Tryz.prog 63 #[.agg cs.toArray, .int .i64 n, .bool none] w (SomeB w) :=
  (text_calls F w t cs n none ht).mono fun _ _ h => ⟨_, h.1, h.2⟩
/-- Is it the number of a routine without params (or -1, if that may be)? -/
def routF (t : TabD) (n : Int) (none : Bool) : Bool := (none && decide (n = -1)) || ((decide (0 ≤ n) && decide (n ≤ (t.params.length : Int) - 1)) && decide (t.params.getD n.toNat 0 = 0))
set_option maxRecDepth 100000 in
set_option maxHeartbeats 2000000 in
theorem routine_calls (F : Nat → Prop) (w : World) (t : TabD) (cs : List Value) (n : Int) (none : Bool) (hF : Inn F w) (ht : Holds.tab.R F w t cs) : Calls Tryz.prog 72 #[.agg cs.toArray, .int .i64 n, .bool none] w (Gives w (.bool (routF t n none))) := by
  obtain ⟨i0, i1, i2, i3, i5, v4, v6, v7, v8, v9, v10, v11, v12, v13, v14, rfl, g4, g6, g7, g8, g9, g10, g11, g12, g13, g14⟩ := ht
  obtain ⟨ad4, ca4, rfl⟩ := g4.shape
  obtain ⟨ad6, ca6, rfl⟩ := g6.shape
  obtain ⟨ad7, ca7, rfl⟩ := g7.shape
  obtain ⟨ad8, ca8, rfl⟩ := g8.shape
  obtain ⟨ad9, ca9, rfl⟩ := g9.shape
  obtain ⟨ad10, ca10, rfl⟩ := g10.shape
  obtain ⟨ad11, ca11, rfl⟩ := g11.shape
  obtain ⟨ad12, ca12, rfl⟩ := g12.shape
  obtain ⟨ad13, ca13, rfl⟩ := g13.shape
  obtain ⟨ad14, ca14, rfl⟩ := g14.shape
  have ln4 := g4.len
  have ln6 := g6.len
  have ln7 := g7.len
  have ln8 := g8.len
  have ln9 := g9.len
  have ln10 := g10.len
  have ln11 := g11.len
  have ln12 := g12.len
  have ln13 := g13.len
  have ln14 := g14.len
  unfold maxLen at ln4 ln6 ln7 ln8 ln9 ln10 ln11 ln12 ln13 ln14
  obtain ⟨a13, c13, he13, -, -, ha13⟩ := g13.opn
  cases he13
  clear g4 g6 g7 g8 g9 g10 g11 g12 g13 g14
  clear i0 i1 i2 i3 i5
  obtain ⟨W1, hW1⟩ : ∃ x, w.alloc (.cells #[.int .i64 t.title, .int .i64 t.byl, .int .i64 t.release, .int .i64 t.most, .slice ad4 t.texts.length ca4, .int .i64 t.flags, .slice ad6 t.props.length ca6, .slice ad7 t.globals.length ca7, .slice ad8 t.things.length ca8, .slice ad9 t.acts.length ca9, .slice ad10 t.deeds.length ca10, .slice ad11 t.funcs.length ca11, .slice ad12 t.daemons.length ca12, .slice ad13 t.params.length ca13, .slice ad14 t.locals.length ca14] 28) = x := ⟨_, rfl⟩
  have hb1 : Below w.heap.size w W1 := by rw [← hW1]; exact (Below.refl _ _).alloc (Nat.le_refl _) _
  have hx1 : BoxT W1 w.heap.size [.int .i64 t.title, .int .i64 t.byl, .int .i64 t.release, .int .i64 t.most, .slice ad4 t.texts.length ca4, .int .i64 t.flags, .slice ad6 t.props.length ca6, .slice ad7 t.globals.length ca7, .slice ad8 t.things.length ca8, .slice ad9 t.acts.length ca9, .slice ad10 t.deeds.length ca10, .slice ad11 t.funcs.length ca11, .slice ad12 t.daemons.length ca12, .slice ad13 t.params.length ca13, .slice ad14 t.locals.length ca14] 28 := by rw [← hW1]; exact BoxT.new _ _ _
  have y0 := hx1.cell 0
  have y1 := hx1.cell 1
  have y2 := hx1.cell 2
  have y3 := hx1.cell 3
  have y4 := hx1.cell 4
  have y5 := hx1.cell 5
  have y6 := hx1.cell 6
  have y7 := hx1.cell 7
  have y8 := hx1.cell 8
  have y9 := hx1.cell 9
  have y10 := hx1.cell 10
  have y11 := hx1.cell 11
  have y12 := hx1.cell 12
  have y13 := hx1.cell 13
  have y14 := hx1.cell 14
  simp only [List.getElem?_cons_succ, List.getElem?_cons_zero] at y0 y1 y2 y3 y4 y5 y6 y7 y8 y9 y10 y11 y12 y13 y14
  have HW1 := Lib.hid hW1; have HB1 := Lib.hid hb1; have HX1 := Lib.hid hx1
  clear hW1 hb1 hx1
  have HA := Lib.hid ha13
  have HN := Lib.hid hF
  clear ha13 hF
  have HF := Lib.hid (fun W => from_calls n 0 ((t.params.length : Int) - 1) W)
  obtain ⟨R, hR⟩ : ∃ r, routF t n none = r := ⟨_, rfl⟩
  rw [hR]
  by_cases hin : 0 ≤ n ∧ n ≤ (t.params.length : Int) - 1
  · obtain ⟨k, rfl⟩ : ∃ k : Nat, n = k := ⟨n.toNat, by omega⟩
    have hf := HF.out
    rw [decide_eq_true hin.1, decide_eq_true hin.2] at hf
    have HF1 := Lib.hid hf
    have hlt : k < t.params.length := by omega
    obtain ⟨b, off, rfl, hFb, hel⟩ := HA.out (by omega)
    obtain ⟨-, z0⟩ := hel W1 (HB1.out.block b (HN.out b hFb)) k hlt
    have e : Hid (R = decide (t.params[k] = 0)) := hR.symm.trans (by unfold routF; rw [decide_eq_true hin.1, decide_eq_true hin.2, decide_eq_false (show ¬ (k : Int) = -1 by omega)]; simp [List.getElem?_eq_getElem hlt])
    generalize t.params[k] = x at z0 e
    have k0 : (0 : Int) ≤ (k : Int) := by omega
    have k1 : (k : Int) < (t.params.length : Int) := by omega
    have k2 : ¬ (k : Int) = -1 := by omega
    have k3 : ((k : Int) == -1) = false := by simp
    have k4 : decide ((k : Int) = -1) = false := by simp
    clear hf hel HF hin hR
    cases none
    all_goals
      go_enter Tryz.func72, Tryz.ntmps72
      go_upto_region 1 with fail
      rw [HW1.out]
      go_wp2_with ((go_at_call 39; (with_reducible refine (HF1.out _).mono ?_); rintro e w1 ⟨rfl, rfl⟩))
      go_ret
      exact ⟨ret_bool e.out.symm, HB1.out⟩
  · have hf := HF.out
    have e : (decide (0 ≤ n) && decide (n ≤ (t.params.length : Int) - 1)) = false := by simpa using hin
    rw [e] at hf
    have HF1 := Lib.hid hf
    by_cases hn : n = -1
    · subst hn
      cases none
      all_goals
        have e1 : Hid (R = _) := hR.symm.trans (by unfold routF; rw [e])
        clear hf HF hin e hR
        go_enter Tryz.func72, Tryz.ntmps72
        go_upto_region 1 with fail
        rw [HW1.out]
        go_wp2_with ((go_at_call 39; (with_reducible refine (HF1.out _).mono ?_); rintro e w1 ⟨rfl, rfl⟩))
        go_ret
        exact ⟨ret_bool e1.out.symm, HB1.out⟩
    · have e1 : Hid (R = false) := hR.symm.trans (by unfold routF; rw [e, decide_eq_false hn]; simp)
      have k3 : (n == -1) = false := by simpa using hn
      have k4 : decide (n = -1) = false := by simpa using hn
      clear hf HF hin e hR
      cases none
      all_goals
        go_enter Tryz.func72, Tryz.ntmps72
        go_upto_region 1 with fail
        rw [HW1.out]
        go_wp2_with ((go_at_call 39; (with_reducible refine (HF1.out _).mono ?_); rintro e w1 ⟨rfl, rfl⟩))
        go_ret
        exact ⟨ret_bool e1.out.symm, HB1.out⟩
theorem routine_some (F : Nat → Prop) (w : World) (t : TabD) (cs : List Value) (n : Int) (none : Bool) (hF : Inn F w) (ht : Holds.tab.R F w t cs) : Calls Tryz.prog 72 #[.agg cs.toArray, .int .i64 n, .bool none] w (SomeB w) :=
  (routine_calls F w t cs n none hF ht).mono fun _ _ h => ⟨_, h.1, h.2⟩
end Go.Proofs.YtapjglpiofpbmaaGreat
/- clewref19's bits, nothing, room, ends, ways and Line. Printed by gen-ac3.py. -/
namespace Go.Proofs.YtapjglpiofpbmaaGreat
open Go.RowKit

set_option maxRecDepth 100000 in
set_option maxHeartbeats 2000000 in
theorem bits_some (n : Int) (w : World) : Calls Tryz.prog 37 #[.int .i64 n] w (fun e w' => ∃ q : Int, 1 ≤ q ∧ q ≤ 65536 ∧ e = .returned (.int .i64 q) ∧ w = w') := by
  go_enter Tryz.func37, Tryz.ntmps37
  go_wp2
  go_loopw [3, 4] (fun p i wr => ∃ (k : Nat) (q : Int), k ≤ 16 ∧ i = .int .i64 k ∧ p = .int .i64 q ∧ Hid (1 ≤ q ∧ q ≤ 2 ^ k) ∧ w = wr) (fun _ i _ => 16 - (intOf i).toNat)
  case atStart => exact ⟨0, 1, by omega, rfl, rfl, ⟨Int.le_refl _, by decide⟩, rfl⟩
  case round =>
    obtain ⟨k, q, hk, rfl, rfl, hq, rfl⟩ := hrel
    have hq2 : q ≤ 65536 := by
      have h1 : (2 : Int) ^ k ≤ 2 ^ 16 := by exact_mod_cast Nat.pow_le_pow_right (by omega) hk
      have := hq.out.2
      omega
    have hq1 := hq.out.1
    by_cases hlt : (k : Int) < n
    · by_cases h6 : k < 16
      · have h6' : (k : Int) < 16 := by omega
        have hN : Hid (1 ≤ 2 * q ∧ 2 * q ≤ 2 ^ (k + 1)) := ⟨by omega, by rw [Int.pow_succ]; have := hq.out.2; omega⟩
        clear hq
        go_wp2
        go_roundw
        case rel => exact ⟨k + 1, 2 * q, by omega, by go_num, rfl, hN.out, by first | rfl | trivial⟩
        case measure => simp [intOf]; omega
      · have h6' : ¬ (k : Int) < 16 := by omega
        clear hq
        go_wp2
        go_ret
        exact ⟨q, hq1, hq2, rfl, rfl⟩
    · clear hq
      go_wp2
      go_ret
      exact ⟨q, hq1, hq2, rfl, rfl⟩
set_option maxRecDepth 100000 in
set_option maxHeartbeats 2000000 in
theorem nothing_some (F : Nat → Prop) (w : World) (t : TabD) (cs : List Value) (x : ThingD) (xs : List Value) (hF : Inn F w) (ht : Holds.tab.R F w t cs) (hx : Holds.thing.R F w x xs) : Calls Tryz.prog 65 #[.agg cs.toArray, .agg xs.toArray] w (SomeB w) := by
  obtain ⟨i0, i1, i2, i3, i5, v4, v6, v7, v8, v9, v10, v11, v12, v13, v14, rfl, g4, g6, g7, g8, g9, g10, g11, g12, g13, g14⟩ := ht
  obtain ⟨ad4, ca4, rfl⟩ := g4.shape
  obtain ⟨ad6, ca6, rfl⟩ := g6.shape
  obtain ⟨ad7, ca7, rfl⟩ := g7.shape
  obtain ⟨ad8, ca8, rfl⟩ := g8.shape
  obtain ⟨ad9, ca9, rfl⟩ := g9.shape
  obtain ⟨ad10, ca10, rfl⟩ := g10.shape
  obtain ⟨ad11, ca11, rfl⟩ := g11.shape
  obtain ⟨ad12, ca12, rfl⟩ := g12.shape
  obtain ⟨ad13, ca13, rfl⟩ := g13.shape
  obtain ⟨ad14, ca14, rfl⟩ := g14.shape
  have ln4 := g4.len
  have ln6 := g6.len
  have ln7 := g7.len
  have ln8 := g8.len
  have ln9 := g9.len
  have ln10 := g10.len
  have ln11 := g11.len
  have ln12 := g12.len
  have ln13 := g13.len
  have ln14 := g14.len
  unfold maxLen at ln4 ln6 ln7 ln8 ln9 ln10 ln11 ln12 ln13 ln14
  clear g4 g6 g7 g8 g9 g10 g11 g12 g13 g14
  clear i0 i1 i2 i3 i5
  obtain ⟨-, -, -, -, u5, u6, u7, u8, rfl, k5, k6, k7, k8⟩ := hx
  obtain ⟨da6, dc6, rfl⟩ := k6.shape
  obtain ⟨da7, dc7, rfl⟩ := k7.shape
  obtain ⟨da8, dc8, rfl⟩ := k8.shape
  obtain ⟨da5, dc5, rfl, -, -, ha5⟩ := k5.opn
  have lm6 := k6.len
  have lm7 := k7.len
  have lm8 := k8.len
  unfold maxLen at lm6 lm7 lm8
  have HA := Lib.hid ha5
  have HN := Lib.hid hF
  clear ha5 hF k5 k6 k7 k8
  obtain ⟨W1, hW1⟩ : ∃ z, w.alloc (.cells #[.int .i64 t.title, .int .i64 t.byl, .int .i64 t.release, .int .i64 t.most, .slice ad4 t.texts.length ca4, .int .i64 t.flags, .slice ad6 t.props.length ca6, .slice ad7 t.globals.length ca7, .slice ad8 t.things.length ca8, .slice ad9 t.acts.length ca9, .slice ad10 t.deeds.length ca10, .slice ad11 t.funcs.length ca11, .slice ad12 t.daemons.length ca12, .slice ad13 t.params.length ca13, .slice ad14 t.locals.length ca14] 28) = z := ⟨_, rfl⟩
  obtain ⟨W2, hW2⟩ : ∃ z, W1.alloc (.cells #[.int .i64 x.title, .int .i64 x.text, .int .i64 x.parent, .int .i64 x.flags, .bool x.room, .slice da5 x.props.length dc5, .slice da6 x.words.length dc6, .slice da7 x.adjs.length dc7, .slice da8 x.ways.length dc8] 72) = z := ⟨_, rfl⟩
  have hz1 : W1.heap.size = w.heap.size + 1 := by rw [← hW1]; simp
  have hb1 : Below w.heap.size w W1 := by rw [← hW1]; exact (Below.refl _ _).alloc (Nat.le_refl _) _
  have hb2 : Below W1.heap.size W1 W2 := by rw [← hW2]; exact (Below.refl _ _).alloc (Nat.le_refl _) _
  have hx1 : BoxT W1 w.heap.size [.int .i64 t.title, .int .i64 t.byl, .int .i64 t.release, .int .i64 t.most, .slice ad4 t.texts.length ca4, .int .i64 t.flags, .slice ad6 t.props.length ca6, .slice ad7 t.globals.length ca7, .slice ad8 t.things.length ca8, .slice ad9 t.acts.length ca9, .slice ad10 t.deeds.length ca10, .slice ad11 t.funcs.length ca11, .slice ad12 t.daemons.length ca12, .slice ad13 t.params.length ca13, .slice ad14 t.locals.length ca14] 28 := by rw [← hW1]; exact BoxT.new _ _ _
  have hx2 : BoxT W2 (w.heap.size + 1) [.int .i64 x.title, .int .i64 x.text, .int .i64 x.parent, .int .i64 x.flags, .bool x.room, .slice da5 x.props.length dc5, .slice da6 x.words.length dc6, .slice da7 x.adjs.length dc7, .slice da8 x.ways.length dc8] 72 := by rw [← hz1, ← hW2]; exact BoxT.new _ _ _
  have hx1' := hx1.below hb2
  have HB2 := Lib.hid (btK hb1 hb2)
  have y0 := hx1'.cell 0
  have y1 := hx1'.cell 1
  have y2 := hx1'.cell 2
  have y3 := hx1'.cell 3
  have y4 := hx1'.cell 4
  have y5 := hx1'.cell 5
  have y6 := hx1'.cell 6
  have y7 := hx1'.cell 7
  have y8 := hx1'.cell 8
  have y9 := hx1'.cell 9
  have y10 := hx1'.cell 10
  have y11 := hx1'.cell 11
  have y12 := hx1'.cell 12
  have y13 := hx1'.cell 13
  have y14 := hx1'.cell 14
  simp only [List.getElem?_cons_succ, List.getElem?_cons_zero] at y0 y1 y2 y3 y4 y5 y6 y7 y8 y9 y10 y11 y12 y13 y14
  have z0 := hx2.cell 0
  have z1 := hx2.cell 1
  have z2 := hx2.cell 2
  have z3 := hx2.cell 3
  have z4 := hx2.cell 4
  have z5 := hx2.cell 5
  have z6 := hx2.cell 6
  have z7 := hx2.cell 7
  have z8 := hx2.cell 8
  simp only [List.getElem?_cons_succ, List.getElem?_cons_zero] at z0 z1 z2 z3 z4 z5 z6 z7 z8
  have HW1 := Lib.hid hW1; have HW2 := Lib.hid hW2
  clear hW1 hW2 hz1 hb1 hb2 hx1 hx2 hx1'
  go_enter Tryz.func65, Tryz.ntmps65
  go_upto_region 1 with fail
  rw [HW1.out, HW2.out]
  go_wp2
  all_goals
    first
    | (go_ret; exact ⟨_, rfl, HB2.out⟩)
    | (
       go_loopw [5] (fun i wr => ∃ k : Nat, k ≤ x.props.length ∧ i = .int .i64 k ∧ W2 = wr) (fun i _ => x.props.length - (intOf i).toNat)
       case atStart => exact ⟨0, Nat.zero_le _, rfl, rfl⟩
       case round =>
         obtain ⟨k, hk, rfl, rfl⟩ := hrel
         by_cases hlt : k < x.props.length
         · have h1 : (k : Int) < (x.props.length : Int) := by omega
           have h2 : (0 : Int) ≤ (k : Int) := by omega
           obtain ⟨b, off, rfl, hFb, hel⟩ := HA.out (by omega)
           obtain ⟨-, c0⟩ := hel W2 (HB2.out.block b (HN.out b hFb)) k hlt
           generalize x.props[k] = p at c0
           clear hel
           go_wp2_with (fail)
           all_goals
             first
             | (go_ret; exact ⟨_, rfl, HB2.out⟩)
             | (go_roundw
                case rel => exact ⟨k + 1, by omega, by go_num, by first | rfl | trivial⟩
                case measure => simp [intOf]; omega)
         · have h1 : ¬ (k : Int) < (x.props.length : Int) := by omega
           have hkn : k = x.props.length := by omega
           clear hkn
           go_wp2_with (fail)
           all_goals
             go_ret
             exact ⟨_, rfl, HB2.out⟩
      )
set_option maxRecDepth 100000 in
set_option maxHeartbeats 2000000 in
theorem room_some (F : Nat → Prop) (w : World) (t : TabD) (cs : List Value) (n : Int) (hF : Inn F w) (ht : Holds.tab.R F w t cs) : Calls Tryz.prog 70 #[.agg cs.toArray, .int .i64 n] w (SomeB w) := by
  have HT := Lib.hid (fun (W : World) (h : Below w.heap.size w W) (m : Int) => thing_calls F W t cs m (Holds.tab.keep (fun b hb => h.block b (hF b hb)) (fun _ h => h) ht))
  obtain ⟨i0, i1, i2, i3, i5, v4, v6, v7, v8, v9, v10, v11, v12, v13, v14, rfl, g4, g6, g7, g8, g9, g10, g11, g12, g13, g14⟩ := ht
  obtain ⟨ad4, ca4, rfl⟩ := g4.shape
  obtain ⟨ad6, ca6, rfl⟩ := g6.shape
  obtain ⟨ad7, ca7, rfl⟩ := g7.shape
  obtain ⟨ad8, ca8, rfl⟩ := g8.shape
  obtain ⟨ad9, ca9, rfl⟩ := g9.shape
  obtain ⟨ad10, ca10, rfl⟩ := g10.shape
  obtain ⟨ad11, ca11, rfl⟩ := g11.shape
  obtain ⟨ad12, ca12, rfl⟩ := g12.shape
  obtain ⟨ad13, ca13, rfl⟩ := g13.shape
  obtain ⟨ad14, ca14, rfl⟩ := g14.shape
  have ln4 := g4.len
  have ln6 := g6.len
  have ln7 := g7.len
  have ln8 := g8.len
  have ln9 := g9.len
  have ln10 := g10.len
  have ln11 := g11.len
  have ln12 := g12.len
  have ln13 := g13.len
  have ln14 := g14.len
  unfold maxLen at ln4 ln6 ln7 ln8 ln9 ln10 ln11 ln12 ln13 ln14
  obtain ⟨a8, c8, he8, -, -, ha8⟩ := g8.opn
  cases he8
  clear g4 g6 g7 g8 g9 g10 g11 g12 g13 g14
  clear i0 i1 i2 i3 i5
  have HA := Lib.hid ha8
  have HN := Lib.hid hF
  clear ha8 hF
  obtain ⟨W1, hW1⟩ : ∃ x, w.alloc (.cells #[.int .i64 t.title, .int .i64 t.byl, .int .i64 t.release, .int .i64 t.most, .slice ad4 t.texts.length ca4, .int .i64 t.flags, .slice ad6 t.props.length ca6, .slice ad7 t.globals.length ca7, .slice ad8 t.things.length ca8, .slice ad9 t.acts.length ca9, .slice ad10 t.deeds.length ca10, .slice ad11 t.funcs.length ca11, .slice ad12 t.daemons.length ca12, .slice ad13 t.params.length ca13, .slice ad14 t.locals.length ca14] 28) = x := ⟨_, rfl⟩
  have hb1 : Below w.heap.size w W1 := by rw [← hW1]; exact (Below.refl _ _).alloc (Nat.le_refl _) _
  have hx1 : BoxT W1 w.heap.size [.int .i64 t.title, .int .i64 t.byl, .int .i64 t.release, .int .i64 t.most, .slice ad4 t.texts.length ca4, .int .i64 t.flags, .slice ad6 t.props.length ca6, .slice ad7 t.globals.length ca7, .slice ad8 t.things.length ca8, .slice ad9 t.acts.length ca9, .slice ad10 t.deeds.length ca10, .slice ad11 t.funcs.length ca11, .slice ad12 t.daemons.length ca12, .slice ad13 t.params.length ca13, .slice ad14 t.locals.length ca14] 28 := by rw [← hW1]; exact BoxT.new _ _ _
  have y0 := hx1.cell 0
  have y1 := hx1.cell 1
  have y2 := hx1.cell 2
  have y3 := hx1.cell 3
  have y4 := hx1.cell 4
  have y5 := hx1.cell 5
  have y6 := hx1.cell 6
  have y7 := hx1.cell 7
  have y8 := hx1.cell 8
  have y9 := hx1.cell 9
  have y10 := hx1.cell 10
  have y11 := hx1.cell 11
  have y12 := hx1.cell 12
  have y13 := hx1.cell 13
  have y14 := hx1.cell 14
  simp only [List.getElem?_cons_succ, List.getElem?_cons_zero] at y0 y1 y2 y3 y4 y5 y6 y7 y8 y9 y10 y11 y12 y13 y14
  have HW1 := Lib.hid hW1; have HB1 := Lib.hid hb1; have HX1 := Lib.hid hx1
  clear hW1 hb1 hx1
  go_enter Tryz.func70, Tryz.ntmps70
  go_upto_region 1 with fail
  rw [HW1.out]
  go_wp2
  go_loopw [1, 5] (fun x i wr => ∃ (k : Nat) (m : Int), k ≤ t.things.length ∧ i = .int .i64 k ∧ x = .int .i64 m ∧ Below W1.heap.size W1 wr) (fun _ i _ => t.things.length - (intOf i).toNat)
  case atStart => exact ⟨0, n, Nat.zero_le _, rfl, rfl, Below.refl _ _⟩
  case round =>
    obtain ⟨k, m, hk, rfl, rfl, hB⟩ := hrel
    have HBr := Lib.hid (HB1.out.trans (hB.mono HB1.out.size))
    have HBq := Lib.hid hB
    have hxr := HX1.out.below hB
    clear y0 y1 y2 y3 y4 y5 y6 y7 y8 y9 y10 y11 y12 y13 y14
    have y0 := hxr.cell 0
    have y1 := hxr.cell 1
    have y2 := hxr.cell 2
    have y3 := hxr.cell 3
    have y4 := hxr.cell 4
    have y5 := hxr.cell 5
    have y6 := hxr.cell 6
    have y7 := hxr.cell 7
    have y8 := hxr.cell 8
    have y9 := hxr.cell 9
    have y10 := hxr.cell 10
    have y11 := hxr.cell 11
    have y12 := hxr.cell 12
    have y13 := hxr.cell 13
    have y14 := hxr.cell 14
    simp only [List.getElem?_cons_succ, List.getElem?_cons_zero] at y0 y1 y2 y3 y4 y5 y6 y7 y8 y9 y10 y11 y12 y13 y14
    clear hxr
    by_cases hlt : k < t.things.length
    · have h1 : (k : Int) < (t.things.length : Int) := by omega
      have hc := HT.out wr HBr.out m
      by_cases hin : 1 ≤ m ∧ m ≤ (t.things.length : Int) - 1
      · obtain ⟨j, rfl⟩ : ∃ j : Nat, m = j := ⟨m.toNat, by omega⟩
        rw [decide_eq_true hin.1, decide_eq_true hin.2] at hc
        have HC := Lib.hid hc
        have hj : j < t.things.length := by omega
        have j0 : (0 : Int) ≤ (j : Int) := by omega
        have j1 : (j : Int) < (t.things.length : Int) := by omega
        clear hc hin hB
        obtain ⟨b, off, rfl, hFb, hel⟩ := HA.out (by omega)
        go_upto_region 4 with ((go_at_call 67; (with_reducible refine (HC.out).mono ?_); rintro e w1 ⟨rfl, hb1⟩))
        have hB1 := HBr.out.trans (hb1.mono HBr.out.size)
        obtain ⟨xs, ⟨-, -, -, -, u5, u6, u7, u8, rfl, -, -, -, -⟩, -, hcell⟩ := hel w1 (hB1.block b (HN.out b hFb)) j hj
        have p2 := hcell 2 _ rfl
        have p4 := hcell 4 _ rfl
        have q8 : w1.cell? ⟨w.heap.size, 8, none⟩ = some (.slice (some ⟨b, off, none⟩) t.things.length ca8) := (hb1.cell (p := ⟨w.heap.size, 8, none⟩) (World.block_lt_of_cell? wr _ y8)).trans y8
        generalize t.things[j] = x at p2 p4
        have HB9 := Lib.hid hB1
        have HB8 := Lib.hid hb1
        clear hel hcell hb1 hB1 y0 y1 y2 y3 y4 y5 y6 y7 y8 y9 y10 y11 y12 y13 y14
        go_wp2
        all_goals
          first
          | (go_ret; exact ⟨_, rfl, HB9.out⟩)
          | (go_roundw
             case rel => exact ⟨k + 1, _, by omega, by go_num, rfl, HBq.out.trans (HB8.out.mono HBq.out.size)⟩
             case measure => simp [intOf]; omega)
      · have e : (decide (1 ≤ m) && decide (m ≤ (t.things.length : Int) - 1)) = false := by simpa using hin
        rw [e] at hc
        have HC := Lib.hid hc
        clear hc hin hB e
        go_wp2_with ((go_at_call 67; (with_reducible refine (HC.out).mono ?_); rintro e w1 ⟨rfl, hb1⟩); have hB1 := HBr.out.trans (hb1.mono HBr.out.size))
        go_ret
        exact ⟨_, rfl, hB1⟩
    · have h1 : ¬ (k : Int) < (t.things.length : Int) := by omega
      go_wp2
      go_ret
      exact ⟨_, rfl, HBr.out⟩
set_option maxRecDepth 100000 in
set_option maxHeartbeats 2000000 in
theorem ends_some (F : Nat → Prop) (w : World) (t : TabD) (cs : List Value) (n : Nat) (hF : Inn F w) (ht : Holds.tab.R F w t cs) (hn : n < t.things.length) (hp : ∀ j (hj : j < t.things.length), t.things[j].parent = 0 ∨ 1 ≤ t.things[j].parent ∧ t.things[j].parent ≤ (t.things.length : Int) - 1) : Calls Tryz.prog 69 #[.agg cs.toArray, .int .i64 n] w (SomeB w) := by
  have HP : Hid (∀ j (hj : j < t.things.length), ∃ m : Nat, m < t.things.length ∧ t.things[j].parent = m) := fun j hj => by
    rcases hp j hj with h | h
    · exact ⟨0, by omega, h⟩
    · exact ⟨t.things[j].parent.toNat, by omega, by omega⟩
  clear hp
  obtain ⟨i0, i1, i2, i3, i5, v4, v6, v7, v8, v9, v10, v11, v12, v13, v14, rfl, g4, g6, g7, g8, g9, g10, g11, g12, g13, g14⟩ := ht
  obtain ⟨ad4, ca4, rfl⟩ := g4.shape
  obtain ⟨ad6, ca6, rfl⟩ := g6.shape
  obtain ⟨ad7, ca7, rfl⟩ := g7.shape
  obtain ⟨ad8, ca8, rfl⟩ := g8.shape
  obtain ⟨ad9, ca9, rfl⟩ := g9.shape
  obtain ⟨ad10, ca10, rfl⟩ := g10.shape
  obtain ⟨ad11, ca11, rfl⟩ := g11.shape
  obtain ⟨ad12, ca12, rfl⟩ := g12.shape
  obtain ⟨ad13, ca13, rfl⟩ := g13.shape
  obtain ⟨ad14, ca14, rfl⟩ := g14.shape
  have ln4 := g4.len
  have ln6 := g6.len
  have ln7 := g7.len
  have ln8 := g8.len
  have ln9 := g9.len
  have ln10 := g10.len
  have ln11 := g11.len
  have ln12 := g12.len
  have ln13 := g13.len
  have ln14 := g14.len
  unfold maxLen at ln4 ln6 ln7 ln8 ln9 ln10 ln11 ln12 ln13 ln14
  obtain ⟨a8, c8, he8, -, -, ha8⟩ := g8.opn
  cases he8
  clear g4 g6 g7 g8 g9 g10 g11 g12 g13 g14
  clear i0 i1 i2 i3 i5
  have HA := Lib.hid ha8
  have HN := Lib.hid hF
  clear ha8 hF
  obtain ⟨W1, hW1⟩ : ∃ x, w.alloc (.cells #[.int .i64 t.title, .int .i64 t.byl, .int .i64 t.release, .int .i64 t.most, .slice ad4 t.texts.length ca4, .int .i64 t.flags, .slice ad6 t.props.length ca6, .slice ad7 t.globals.length ca7, .slice ad8 t.things.length ca8, .slice ad9 t.acts.length ca9, .slice ad10 t.deeds.length ca10, .slice ad11 t.funcs.length ca11, .slice ad12 t.daemons.length ca12, .slice ad13 t.params.length ca13, .slice ad14 t.locals.length ca14] 28) = x := ⟨_, rfl⟩
  have hb1 : Below w.heap.size w W1 := by rw [← hW1]; exact (Below.refl _ _).alloc (Nat.le_refl _) _
  have hx1 : BoxT W1 w.heap.size [.int .i64 t.title, .int .i64 t.byl, .int .i64 t.release, .int .i64 t.most, .slice ad4 t.texts.length ca4, .int .i64 t.flags, .slice ad6 t.props.length ca6, .slice ad7 t.globals.length ca7, .slice ad8 t.things.length ca8, .slice ad9 t.acts.length ca9, .slice ad10 t.deeds.length ca10, .slice ad11 t.funcs.length ca11, .slice ad12 t.daemons.length ca12, .slice ad13 t.params.length ca13, .slice ad14 t.locals.length ca14] 28 := by rw [← hW1]; exact BoxT.new _ _ _
  have y0 := hx1.cell 0
  have y1 := hx1.cell 1
  have y2 := hx1.cell 2
  have y3 := hx1.cell 3
  have y4 := hx1.cell 4
  have y5 := hx1.cell 5
  have y6 := hx1.cell 6
  have y7 := hx1.cell 7
  have y8 := hx1.cell 8
  have y9 := hx1.cell 9
  have y10 := hx1.cell 10
  have y11 := hx1.cell 11
  have y12 := hx1.cell 12
  have y13 := hx1.cell 13
  have y14 := hx1.cell 14
  simp only [List.getElem?_cons_succ, List.getElem?_cons_zero] at y0 y1 y2 y3 y4 y5 y6 y7 y8 y9 y10 y11 y12 y13 y14
  have HW1 := Lib.hid hW1; have HB1 := Lib.hid hb1; have HX1 := Lib.hid hx1
  clear hW1 hb1 hx1
  go_enter Tryz.func69, Tryz.ntmps69
  go_upto_region 1 with fail
  rw [HW1.out]
  go_wp2
  go_loopw [1, 5] (fun x i wr => ∃ (k m : Nat), k ≤ t.things.length ∧ i = .int .i64 k ∧ x = .int .i64 m ∧ m < t.things.length ∧ W1 = wr) (fun _ i _ => t.things.length - (intOf i).toNat)
  case atStart => exact ⟨0, n, Nat.zero_le _, rfl, rfl, hn, rfl⟩
  case round =>
    obtain ⟨k, m, hk, rfl, rfl, hm, rfl⟩ := hrel
    by_cases hlt : k < t.things.length
    · have h1 : (k : Int) < (t.things.length : Int) := by omega
      have j0 : (0 : Int) ≤ (m : Int) := by omega
      have j1 : (m : Int) < (t.things.length : Int) := by omega
      obtain ⟨b, off, rfl, hFb, hel⟩ := HA.out (by omega)
      obtain ⟨xs, ⟨-, -, -, -, u5, u6, u7, u8, rfl, -, -, -, -⟩, -, hcell⟩ := hel W1 (HB1.out.block b (HN.out b hFb)) m hm
      have p2 := hcell 2 _ rfl
      obtain ⟨m2, hm2, hme⟩ := HP.out m hm
      rw [hme] at p2
      clear hel hcell hme
      go_wp2
      all_goals
        first
        | (go_ret; exact ⟨_, rfl, HB1.out⟩)
        | (go_roundw
           case rel => exact ⟨k + 1, m2, by omega, by go_num, rfl, hm2, by first | rfl | trivial⟩
           case measure => simp [intOf]; omega)
    · have h1 : ¬ (k : Int) < (t.things.length : Int) := by omega
      go_wp2
      go_ret
      exact ⟨_, rfl, HB1.out⟩
theorem from_t (n lo hi : Int) (w : World) (h : lo ≤ n ∧ n ≤ hi) : Calls Tryz.prog 39 #[.int .i64 n, .int .i64 lo, .int .i64 hi] w (fun e w' => e = .returned (.bool true) ∧ w = w') := by
  have h9 := from_calls n lo hi w
  rwa [decide_eq_true h.1, decide_eq_true h.2] at h9
theorem from_f (n lo hi : Int) (w : World) (h : ¬ (lo ≤ n ∧ n ≤ hi)) : Calls Tryz.prog 39 #[.int .i64 n, .int .i64 lo, .int .i64 hi] w (fun e w' => e = .returned (.bool false) ∧ w = w') := by
  have h9 := from_calls n lo hi w
  have e : (decide (lo ≤ n) && decide (n ≤ hi)) = false := by simpa using h
  rwa [e] at h9
set_option maxRecDepth 100000 in
set_option maxHeartbeats 2000000 in
theorem line_some (F : Nat → Prop) (w : World) (l : List SlotD) (v : Value) (hF : Inn F w) (hr : RdL Holds.slot 2 F w l v) : Calls Tryz.prog 71 #[v] w (SomeB w) := by
  obtain ⟨a, cap, rfl, hlc, hc, ha⟩ := hr.opn
  unfold maxLen at hc
  have HA := Lib.hid ha
  have HN := Lib.hid hF
  clear ha hr hF
  have hfr := fun (x : Int) W => from_calls x 1 5 W
  have HF := Lib.hid hfr
  have HF2 := Lib.hid (fun W => from_calls (l.length : Int) 1 8 W)
  clear hfr
  go_enter Tryz.func71, Tryz.ntmps71
  go_wp2
  go_loopw [3, 4, 5, 6] (fun a b c i wr => ∃ (k na nb nc : Nat), k ≤ l.length ∧ i = .int .i64 k ∧ a = .int .i64 na ∧ b = .int .i64 nb ∧ c = .int .i64 nc ∧ na ≤ k ∧ nb ≤ k ∧ nc ≤ k ∧ Below w.heap.size w wr) (fun _ _ _ i _ => l.length - (intOf i).toNat)
  case atStart => exact ⟨0, 0, 0, 0, Nat.zero_le _, rfl, rfl, rfl, rfl, Nat.le_refl _, Nat.le_refl _, Nat.le_refl _, Below.refl _ _⟩
  case round =>
    obtain ⟨k, na, nb, nc, hk, rfl, rfl, rfl, rfl, q1, q2, q3, hB⟩ := hrel
    have HB := Lib.hid hB
    clear hB
    by_cases hlt : k < l.length
    · have h1 : (k : Int) < (l.length : Int) := by omega
      have h2 : (0 : Int) ≤ (k : Int) := by omega
      obtain ⟨b, off, rfl, hFb, hel⟩ := HA.out (by omega)
      obtain ⟨xs, ⟨-, u1, rfl, hw⟩, -, hcell⟩ := hel wr (HB.out.block b (HN.out b hFb)) k hlt
      obtain ⟨e1, e2, rfl⟩ := RdL.shape hw
      have p0 := hcell 0 _ rfl
      have p1 := hcell 1 _ rfl
      simp only [Nat.add_zero] at p0
      have HW := Lib.hid (fun (W : World) (h : Below w.heap.size w W) => words_some F W _ _ 4 (RdL.below hw HN.out h (Nat.le_refl _)))
      generalize l[k] = x at p0 p1 HW
      clear hel hcell hw
      go_upto_region 6 with fail
      obtain ⟨wq, hwq⟩ : ∃ z, wr.alloc (.cells #[.int .i64 x.kind, .slice e1 x.words.length e2] 74) = z := ⟨_, rfl⟩
      rw [hwq]
      have hbq : Below wr.heap.size wr wq := by rw [← hwq]; exact (Below.refl _ _).alloc (Nat.le_refl _) _
      have hyq : BoxT wq wr.heap.size [.int .i64 x.kind, .slice e1 x.words.length e2] 74 := by rw [← hwq]; exact BoxT.new _ _ _
      have HBQ := Lib.hid (HB.out.trans (hbq.mono HB.out.size))
      have y0 := hyq.cell 0
      have y1 := hyq.cell 1
      simp only [List.getElem?_cons_succ, List.getElem?_cons_zero] at y0 y1
      generalize wr.heap.size = y at y0 y1 ⊢
      have HWQ := Lib.hid (HW.out wq HBQ.out)
      clear hwq hbq hyq p0 p1 HW
      have n1 : (na : Int) ≤ (k : Int) := by omega
      have n2 : (nb : Int) ≤ (k : Int) := by omega
      have n3 : (nc : Int) ≤ (k : Int) := by omega
      have n4 : (k : Int) ≤ 9223372036854775806 := by omega
      have m1 : (0 : Int) ≤ (na : Int) := by omega
      have m2 : (0 : Int) ≤ (nb : Int) := by omega
      have m3 : (0 : Int) ≤ (nc : Int) := by omega
      generalize x.words.length = n at y1 HWQ
      generalize x.kind = kk at y0
      by_cases hA : 1 ≤ kk ∧ kk ≤ 5
      · have hft : ∀ W, Calls Tryz.prog 39 #[.int .i64 kk, .int .i64 1, .int .i64 5] W (fun e w' => e = .returned (.bool true) ∧ W = w') := fun W => from_t kk 1 5 W hA
        obtain rfl | rfl | rfl | rfl | rfl : kk = 1 ∨ kk = 2 ∨ kk = 3 ∨ kk = 4 ∨ kk = 5 := by omega
        all_goals
          have HFT := Lib.hid hft
          clear hft hA
          rcases Nat.eq_zero_or_pos n with rfl | hn
        all_goals
          try have z1 : (0 : Int) < (n : Int) := by omega
          try have z2 : ((n : Int) == 0) = false := by simp; omega
          try clear hn
          go_wp2_with (first | (go_at_call 39; (with_reducible refine (HFT.out _).mono ?_); rintro e w1 ⟨rfl, rfl⟩) | (go_at_call 66; (with_reducible refine HWQ.out.mono ?_); rintro e w1 ⟨_ | _, rfl, rfl⟩))
          all_goals
            first
            | (go_ret; exact ⟨_, rfl, HBQ.out⟩)
            | (go_roundw
               case rel => first | exact ⟨k + 1, na, nb, nc, by omega, by go_num, rfl, rfl, rfl, by omega, by omega, by omega, HBQ.out⟩ | exact ⟨k + 1, na + 1, nb, nc, by omega, by go_num, by go_num, rfl, rfl, by omega, by omega, by omega, HBQ.out⟩ | exact ⟨k + 1, na, nb + 1, nc, by omega, by go_num, rfl, by go_num, rfl, by omega, by omega, by omega, HBQ.out⟩ | exact ⟨k + 1, na, nb, nc + 1, by omega, by go_num, rfl, rfl, by go_num, by omega, by omega, by omega, HBQ.out⟩
               case measure => simp [intOf]; omega)
      · have HFF := Lib.hid (fun W => from_f kk 1 5 W hA)
        clear hA
        go_wp2_with ((go_at_call 39; (with_reducible refine (HFF.out _).mono ?_); rintro e w1 ⟨rfl, rfl⟩))
        go_ret
        exact ⟨_, rfl, HBQ.out⟩
    · have h1 : ¬ (k : Int) < (l.length : Int) := by omega
      by_cases hA : 1 ≤ (l.length : Int) ∧ (l.length : Int) ≤ 8
      · have HFT := Lib.hid (fun W => from_t (l.length : Int) 1 8 W hA)
        have h2 : (0 : Int) < (l.length : Int) := by omega
        have h3 : 0 < l.length := by omega
        obtain ⟨b, off, rfl, hFb, hel⟩ := HA.out (by omega)
        obtain ⟨xs, ⟨-, u1, rfl, hw⟩, -, hcell⟩ := hel wr (HB.out.block b (HN.out b hFb)) 0 h3
        have p0 := hcell 0 _ rfl
        simp only [Nat.add_zero] at p0
        generalize l[0] = x at p0
        clear hel hcell hw hA
        go_wp2_with ((go_at_call 39; (with_reducible refine (HFT.out _).mono ?_); rintro e w1 ⟨rfl, rfl⟩))
        all_goals
          go_ret
          exact ⟨_, rfl, HB.out⟩
      · have HFF := Lib.hid (fun W => from_f (l.length : Int) 1 8 W hA)
        clear hA
        go_wp2_with ((go_at_call 39; (with_reducible refine (HFF.out _).mono ?_); rintro e w1 ⟨rfl, rfl⟩))
        go_ret
        exact ⟨_, rfl, HB.out⟩
end Go.Proofs.YtapjglpiofpbmaaGreat
