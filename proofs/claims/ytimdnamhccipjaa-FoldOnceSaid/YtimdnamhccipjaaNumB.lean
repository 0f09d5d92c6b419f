/- The walks of num.Div, num.Mod and of the functions of fold that reckon with two numbers, and of their references. -/
import Derived.Test.YtimdnamhccipjaaNum
namespace Go.Proofs.Ytimdnamhccipjaa
open Go.RowKit

def divV (a b : Int) : Int × Int := if wr b = 0 then (0, 1) else (wr ((wr a).tdiv (wr b)), 0)
def modV (a b : Int) : Int × Int := if wr b = 0 then (0, 1) else ((wr a).tmod (wr b), 0)
def bitI (b : Bool) : Int := if b then 1 else 0

theorem tdiv_in {x y : Int} (h1 : -32768 ≤ x ∧ x ≤ 32767) : -32768 ≤ x.tdiv y ∧ x.tdiv y ≤ 32768 := by
  have := Int.natAbs_tdiv x y
  have h2 : (x.tdiv y).natAbs ≤ x.natAbs := by rw [this]; exact Nat.div_le_self _ _
  omega
theorem tmod_in {x y : Int} (h1 : -32768 ≤ x ∧ x ≤ 32767) : -32768 ≤ x.tmod y ∧ x.tmod y ≤ 32767 := by
  have h0 : (x.tmod y).natAbs ≤ x.natAbs := by rw [Int.natAbs_tmod]; exact Nat.mod_le _ _
  by_cases h : 0 ≤ x
  · have := Int.tmod_nonneg y h; omega
  · have := Int.tmod_nonneg y (show 0 ≤ -x by omega); rw [Int.neg_tmod] at this; omega

theorem ret_two {k k2 : IntKind} {a b c d : Int} (h : a = c) (h2 : b = d) : Ending.returned (.tuple #[.int k a, .int k2 b]) = .returned (.tuple #[.int k c, .int k2 d]) := by rw [h, h2]

theorem wr_one {x : Int} (h : -32768 ≤ x ∧ x ≤ 32767) : wr x = x := wr_id h
set_option maxRecDepth 20000 in
theorem divT_calls (a b : Int) (w : World) : Calls Try.prog 91 #[.int .i64 a, .int .i64 b] w (Just w (.tuple #[.int .i64 (divV a b).1, .int .i64 (divV a b).2])) := by
  have h1 := wr_range a
  have h2 := wr_range b
  have h3 := tdiv_in (y := wr b) h1
  have h4 : I64 ((wr a).tdiv (wr b)) := by unfold I64; omega
  by_cases h : wr b = 0
  · have h5 : (wr b == 0) = true := by simp [h]
    have H : Hid (divV a b = (0, 1)) := by show _ = _; unfold divV; rw [if_pos h]
    clear h h3 h4
    go_enter Try.func91, Try.ntmps91
    go_wp2_with (go_at_call 57; (with_reducible refine (wrapT_calls _ _).mono ?_); rintro e w' ⟨rfl, rfl⟩)
    go_ret2
    exact ⟨by rw [H.out]; rfl, rfl⟩
  · have h5 : (wr b == 0) = false := by simp [h]
    have H : Hid (divV a b = (wr ((wr a).tdiv (wr b)), 0)) := by show _ = _; unfold divV; rw [if_neg h]
    go_enter Try.func91, Try.ntmps91
    go_wp2_with (go_at_call 57; (with_reducible refine (wrapT_calls _ _).mono ?_); rintro e w' ⟨rfl, rfl⟩)
    go_ret2
    exact ⟨by rw [H.out]; rfl, rfl⟩
set_option maxRecDepth 20000 in
theorem divR_calls (a b : Int) (w : World) (ha : I64 a) (hb : I64 b) : Calls Try.prog 97 #[.int .i64 a, .int .i64 b] w (Just w (.tuple #[.int .i64 (divV a b).1, .int .i64 (divV a b).2])) := by
  have h1 := wr_range a
  have h2 := wr_range b
  have h3 := tdiv_in (y := wr b) h1
  have h4 : I64 ((wr a).tdiv (wr b)) := by unfold I64; omega
  by_cases h : wr b = 0
  · have h5 : (wr b == 0) = true := by simp [h]
    have H : Hid (divV a b = (0, 1)) := by show _ = _; unfold divV; rw [if_pos h]
    clear h h3 h4
    go_enter Try.func97, Try.ntmps97
    go_wp2_with (go_at_call 65; (with_reducible refine (wrapR_calls _ _ (by assumption)).mono ?_); rintro e w' ⟨rfl, rfl⟩)
    go_ret2
    exact ⟨by rw [H.out]; rfl, rfl⟩
  · have h5 : (wr b == 0) = false := by simp [h]
    have H : Hid (divV a b = (wr ((wr a).tdiv (wr b)), 0)) := by show _ = _; unfold divV; rw [if_neg h]
    go_enter Try.func97, Try.ntmps97
    go_wp2_with (go_at_call 65; (with_reducible refine (wrapR_calls _ _ (by assumption)).mono ?_); rintro e w' ⟨rfl, rfl⟩)
    go_ret2
    exact ⟨by rw [H.out]; rfl, rfl⟩
set_option maxRecDepth 20000 in
theorem modT_calls (a b : Int) (w : World) : Calls Try.prog 92 #[.int .i64 a, .int .i64 b] w (Just w (.tuple #[.int .i64 (modV a b).1, .int .i64 (modV a b).2])) := by
  have h1 := wr_range a
  have h2 := wr_range b
  have h3 := tmod_in (y := wr b) h1
  have h4 : I64 ((wr a).tmod (wr b)) := by unfold I64; omega
  by_cases h : wr b = 0
  · have h5 : (wr b == 0) = true := by simp [h]
    have H : Hid (modV a b = (0, 1)) := by show _ = _; unfold modV; rw [if_pos h]
    clear h h3 h4
    go_enter Try.func92, Try.ntmps92
    go_wp2_with (go_at_call 57; (with_reducible refine (wrapT_calls _ _).mono ?_); rintro e w' ⟨rfl, rfl⟩)
    go_ret2
    exact ⟨by rw [H.out]; rfl, rfl⟩
  · have h5 : (wr b == 0) = false := by simp [h]
    have H : Hid (modV a b = ((wr a).tmod (wr b), 0)) := by show _ = _; unfold modV; rw [if_neg h]
    go_enter Try.func92, Try.ntmps92
    go_wp2_with (go_at_call 57; (with_reducible refine (wrapT_calls _ _).mono ?_); rintro e w' ⟨rfl, rfl⟩)
    go_ret2
    exact ⟨by rw [H.out]; exact ret_two (wr_id h3) rfl, rfl⟩
set_option maxRecDepth 20000 in
theorem modR_calls (a b : Int) (w : World) (ha : I64 a) (hb : I64 b) : Calls Try.prog 98 #[.int .i64 a, .int .i64 b] w (Just w (.tuple #[.int .i64 (modV a b).1, .int .i64 (modV a b).2])) := by
  have h1 := wr_range a
  have h2 := wr_range b
  have h3 := tmod_in (y := wr b) h1
  have h4 : I64 ((wr a).tmod (wr b)) := by unfold I64; omega
  have h6 := tdiv_in (y := wr b) h1
  have h7 : (wr a).tdiv (wr b) * wr b = wr a - (wr a).tmod (wr b) := by have := Int.mul_tdiv_add_tmod (wr a) (wr b); rw [Int.mul_comm] at this; omega
  have h8 : -9223372036854775808 ≤ (wr a).tdiv (wr b) * wr b ∧ (wr a).tdiv (wr b) * wr b ≤ 9223372036854775807 := by rw [h7]; omega
  have H7 := Lib.hid h7
  clear h7
  by_cases h : wr b = 0
  · have h5 : (wr b == 0) = true := by simp [h]
    have H : Hid (modV a b = (0, 1)) := by show _ = _; unfold modV; rw [if_pos h]
    clear h h3 h4
    go_enter Try.func98, Try.ntmps98
    go_wp2_with (go_at_call 65; (with_reducible refine (wrapR_calls _ _ (by assumption)).mono ?_); rintro e w' ⟨rfl, rfl⟩)
    go_ret2
    exact ⟨by rw [H.out]; rfl, rfl⟩
  · have h5 : (wr b == 0) = false := by simp [h]
    have H : Hid (modV a b = ((wr a).tmod (wr b), 0)) := by show _ = _; unfold modV; rw [if_neg h]
    go_enter Try.func98, Try.ntmps98
    go_wp2_with (go_at_call 65; (with_reducible refine (wrapR_calls _ _ (by assumption)).mono ?_); rintro e w' ⟨rfl, rfl⟩)
    go_ret2
    exact ⟨by rw [H.out]; exact ret_two (by have := H7.out; unfold wrap64; omega) rfl, rfl⟩
theorem bitT_calls (b : Bool) (w : World) : Calls Try.prog 56 #[.bool b] w (Just w (.int .i64 (bitI b))) := by
  cases b
  all_goals
    go_enter Try.func56, Try.ntmps56
    go_wp2
    go_ret
    exact ⟨rfl, rfl⟩
theorem bitR_calls (b : Bool) (w : World) : Calls Try.prog 64 #[.bool b] w (Just w (.int .i64 (bitI b))) := by
  cases b
  all_goals
    go_enter Try.func64, Try.ntmps64
    go_wp2
    go_ret
    exact ⟨rfl, rfl⟩

/-- What an operator comes to of two numbers. -/
def binV (op a b : Int) : Int × Bool :=
  if (op == 1) = true then (bitI (if wr a = 0 then wr b != 0 else true), true) else
  if (op == 2) = true then (bitI (wr a != 0 && wr b != 0), true) else
  if (op == 3) = true then (bitI (wr a == wr b), true) else
  if (op == 4) = true then (bitI (wr a != wr b), true) else
  if (op == 5) = true then (bitI (decide (wr a < wr b)), true) else
  if (op == 6) = true then (bitI (decide (wr a ≤ wr b)), true) else
  if (op == 7) = true then (bitI (decide (wr b < wr a)), true) else
  if (op == 8) = true then (bitI (decide (wr b ≤ wr a)), true) else
  if (op == 10) = true then (wr (wr a + wr b), true) else
  if (op == 11) = true then (wr (wr a - wr b), true) else
  if (op == 12) = true then (wr (wr a * wr b), true) else
  if (op == 13) = true then ((divV a b).1, (divV a b).2 == 0) else
  if (op == 14) = true then ((modV a b).1, (modV a b).2 == 0) else (0, false)
/-- What an operator that asks something comes to. -/
def holdsV (op a b : Int) : Bool × Bool :=
  if (op == 1) = true then (if wr a = 0 then wr b != 0 else true, true) else
  if (op == 2) = true then (wr a != 0 && wr b != 0, true) else
  if (op == 3) = true then (wr a == wr b, true) else
  if (op == 4) = true then (wr a != wr b, true) else
  if (op == 5) = true then (decide (wr a < wr b), true) else
  if (op == 6) = true then (decide (wr a ≤ wr b), true) else
  if (op == 7) = true then (decide (wr b < wr a), true) else
  if (op == 8) = true then (decide (wr b ≤ wr a), true) else (false, false)

theorem divV_wr (a b : Int) : divV (wr a) (wr b) = divV a b := by unfold divV; rw [wr_wr, wr_wr]
theorem modV_wr (a b : Int) : modV (wr a) (wr b) = modV a b := by unfold modV; rw [wr_wr, wr_wr]
theorem binV_asks {op a b : Int} (h : (holdsV op a b).2 = true) : binV op a b = (bitI (holdsV op a b).1, true) := by
  unfold holdsV binV at *
  repeat' split at h
  all_goals simp_all
theorem binV_no {op a b : Int} (h : (holdsV op a b).2 = false) : (op == 1) = false ∧ (op == 2) = false ∧ (op == 3) = false ∧ (op == 4) = false ∧ (op == 5) = false ∧ (op == 6) = false ∧ (op == 7) = false ∧ (op == 8) = false := by
  unfold holdsV at h
  repeat' split at h
  all_goals simp_all

set_option maxRecDepth 20000 in
set_option maxHeartbeats 2000000 in
theorem binT_calls (op a b : Int) (w : World) : Calls Try.prog 59 #[.int .i64 op, .int .i64 a, .int .i64 b] w (Just w (.tuple #[.int .i64 (binV op a b).1, .bool (binV op a b).2])) := by
  have h1 := wr_range a
  have h2 := wr_range b
  go_enter Try.func59, Try.ntmps59
  go_wp2_with (first | (go_at_call 57; (with_reducible refine (wrapT_calls _ _).mono ?_); rintro e w' ⟨rfl, rfl⟩) | (go_at_call 56; (with_reducible refine (bitT_calls _ _).mono ?_); rintro e w' ⟨rfl, rfl⟩) | (go_at_call 88; (with_reducible refine (addT_calls _ _ _).mono ?_); rintro e w' ⟨rfl, rfl⟩) | (go_at_call 89; (with_reducible refine (subT_calls _ _ _).mono ?_); rintro e w' ⟨rfl, rfl⟩) | (go_at_call 90; (with_reducible refine (mulT_calls _ _ _).mono ?_); rintro e w' ⟨rfl, rfl⟩) | (go_at_call 91; (with_reducible refine (divT_calls _ _ _).mono ?_); rintro e w' ⟨rfl, rfl⟩) | (go_at_call 92; (with_reducible refine (modT_calls _ _ _).mono ?_); rintro e w' ⟨rfl, rfl⟩))
  all_goals go_ret2
  all_goals (refine ⟨?_, rfl⟩; simp only [Array.getD_eq_getD_getElem?]; simp [binV, wr_wr, divV_wr, modV_wr, *])

set_option maxRecDepth 20000 in
set_option maxHeartbeats 2000000 in
theorem holdsR_calls (op a b : Int) (w : World) (ha : I64 a) (hb : I64 b) : Calls Try.prog 93 #[.int .i64 op, .int .i64 a, .int .i64 b] w (Just w (.tuple #[.bool (holdsV op a b).1, .bool (holdsV op a b).2])) := by
  have h1 := wr_range a
  have h2 := wr_range b
  go_enter Try.func93, Try.ntmps93
  go_wp2_with (first | (go_at_call 65; (with_reducible refine (wrapR_calls _ _ (by assumption)).mono ?_); rintro e w' ⟨rfl, rfl⟩) | (go_at_call 64; (with_reducible refine (bitR_calls _ _).mono ?_); rintro e w' ⟨rfl, rfl⟩) | (go_at_call 94; (with_reducible refine (addR_calls _ _ _ (by assumption) (by assumption)).mono ?_); rintro e w' ⟨rfl, rfl⟩) | (go_at_call 95; (with_reducible refine (subR_calls _ _ _ (by assumption) (by assumption)).mono ?_); rintro e w' ⟨rfl, rfl⟩) | (go_at_call 96; (with_reducible refine (mulR_calls _ _ _ (by assumption) (by assumption)).mono ?_); rintro e w' ⟨rfl, rfl⟩) | (go_at_call 97; (with_reducible refine (divR_calls _ _ _ (by assumption) (by assumption)).mono ?_); rintro e w' ⟨rfl, rfl⟩) | (go_at_call 98; (with_reducible refine (modR_calls _ _ _ (by assumption) (by assumption)).mono ?_); rintro e w' ⟨rfl, rfl⟩))
  all_goals go_ret2
  all_goals (refine ⟨?_, rfl⟩; simp [holdsV, *])

set_option maxRecDepth 20000 in
set_option maxHeartbeats 2000000 in
theorem binR_calls (op a b : Int) (w : World) (ha : I64 a) (hb : I64 b) : Calls Try.prog 66 #[.int .i64 op, .int .i64 a, .int .i64 b] w (Just w (.tuple #[.int .i64 (binV op a b).1, .bool (binV op a b).2])) := by
  go_enter Try.func66, Try.ntmps66
  go_wp2_with (first | (go_at_call 93; (with_reducible refine (holdsR_calls _ _ _ _ (by assumption) (by assumption)).mono ?_); rintro e w' ⟨rfl, rfl⟩) | (go_at_call 65; (with_reducible refine (wrapR_calls _ _ (by assumption)).mono ?_); rintro e w' ⟨rfl, rfl⟩) | (go_at_call 64; (with_reducible refine (bitR_calls _ _).mono ?_); rintro e w' ⟨rfl, rfl⟩) | (go_at_call 94; (with_reducible refine (addR_calls _ _ _ (by assumption) (by assumption)).mono ?_); rintro e w' ⟨rfl, rfl⟩) | (go_at_call 95; (with_reducible refine (subR_calls _ _ _ (by assumption) (by assumption)).mono ?_); rintro e w' ⟨rfl, rfl⟩) | (go_at_call 96; (with_reducible refine (mulR_calls _ _ _ (by assumption) (by assumption)).mono ?_); rintro e w' ⟨rfl, rfl⟩) | (go_at_call 97; (with_reducible refine (divR_calls _ _ _ (by assumption) (by assumption)).mono ?_); rintro e w' ⟨rfl, rfl⟩) | (go_at_call 98; (with_reducible refine (modR_calls _ _ _ (by assumption) (by assumption)).mono ?_); rintro e w' ⟨rfl, rfl⟩))
  all_goals go_ret2
  all_goals refine ⟨?_, rfl⟩
  all_goals first
    | (have h : (holdsV op a b).2 = true := by assumption
       rw [binV_asks h]; rfl)
    | (have h : (holdsV op a b).2 = false := by assumption
       obtain ⟨q1, q2, q3, q4, q5, q6, q7, q8⟩ := binV_no h
       simp [binV, *])

end Go.Proofs.Ytimdnamhccipjaa
