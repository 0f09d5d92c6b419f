/- The small tests of the references 1, 4 and 19 that a table's check calls. Printed by gen-ac1.py. -/
import Derived.Test.YtapjglpiofpbmaaGreatPart98e359f1
import Derived.Test.YtapjglpiofpbmaaGreatApp
import Derived.Test.YtapjglpiofpbmaaGreatShelf
import Derived.BigQuiet
namespace Go.Proofs.YtapjglpiofpbmaaGreat
open Go.RowKit

/-- A call that gives some truth value and makes nothing. -/
def Some0 (w : World) (e : Ending) (w' : World) : Prop := ∃ b : Bool, e = .returned (.bool b) ∧ w = w'
/-- A call that gives some truth value, under which P holds, and makes nothing. -/
def SomeP (P : Prop) (w : World) (e : Ending) (w' : World) : Prop := ∃ b : Bool, e = .returned (.bool b) ∧ (b = true → P) ∧ w = w'
theorem getI_mem {l : List Int} {P : Int → Prop} (h : ∀ i (hi : i < l.length), P l[i]) : ∀ x ∈ l, P x := fun x hx => by
  obtain ⟨i, hi, rfl⟩ := List.getElem_of_mem hx
  exact h i hi

theorem is01_calls (n : Int) (w : World) : Calls Tryz.prog 38 #[.int .i64 n] w (fun e w' => e = .returned (.bool (decide (-32768 ≤ n) && decide (n ≤ 32767))) ∧ w = w') := by
  by_cases h1 : -32768 ≤ n
  · have e : Hid ((decide (-32768 ≤ n) && decide (n ≤ 32767)) = decide (n ≤ 32767)) := by show _ = _; simp [h1]
    go_enter Tryz.func38, Tryz.ntmps38
    go_wp2
    go_ret
    exact ⟨ret_bool e.out.symm, rfl⟩
  · have e : Hid ((decide (-32768 ≤ n) && decide (n ≤ 32767)) = false) := by show _ = _; simp [h1]
    go_enter Tryz.func38, Tryz.ntmps38
    go_wp2
    go_ret
    exact ⟨ret_bool e.out.symm, rfl⟩
theorem from_calls (n lo hi : Int) (w : World) : Calls Tryz.prog 39 #[.int .i64 n, .int .i64 lo, .int .i64 hi] w (fun e w' => e = .returned (.bool (decide (lo ≤ n) && decide (n ≤ hi))) ∧ w = w') := by
  by_cases h1 : lo ≤ n
  · have e : Hid ((decide (lo ≤ n) && decide (n ≤ hi)) = decide (n ≤ hi)) := by show _ = _; simp [h1]
    go_enter Tryz.func39, Tryz.ntmps39
    go_wp2
    go_ret
    exact ⟨ret_bool e.out.symm, rfl⟩
  · have e : Hid ((decide (lo ≤ n) && decide (n ≤ hi)) = false) := by show _ = _; simp [h1]
    go_enter Tryz.func39, Tryz.ntmps39
    go_wp2
    go_ret
    exact ⟨ret_bool e.out.symm, rfl⟩
theorem small_calls (n : Int) (w : World) : Calls Tryz.prog 111 #[.int .u8 n] w (Some0 w) := by
  go_enter Tryz.func111, Tryz.ntmps111
  go_wp2
  all_goals
    go_ret
    exact ⟨_, rfl, rfl⟩
theorem digit_calls (n : Int) (w : World) : Calls Tryz.prog 112 #[.int .u8 n] w (Some0 w) := by
  go_enter Tryz.func112, Tryz.ntmps112
  go_wp2
  all_goals
    go_ret
    exact ⟨_, rfl, rfl⟩
theorem great_calls (n : Int) (w : World) : Calls Tryz.prog 114 #[.int .u8 n] w (Some0 w) := by
  go_enter Tryz.func114, Tryz.ntmps114
  go_wp2
  all_goals
    go_ret
    exact ⟨_, rfl, rfl⟩
set_option maxRecDepth 100000 in
set_option maxHeartbeats 2000000 in
theorem row_calls (n : Int) (w : World) : Calls Tryz.prog 113 #[.int .u8 n] w (Some0 w) := by
  go_enter Tryz.func113, Tryz.ntmps113
  go_wp2_with (first | (go_at_call 111; (with_reducible refine (small_calls _ _).mono ?_); rintro e w1 ⟨_ | _, rfl, rfl⟩) | (go_at_call 114; (with_reducible refine (great_calls _ _).mono ?_); rintro e w1 ⟨_ | _, rfl, rfl⟩) | (go_at_call 112; (with_reducible refine (digit_calls _ _).mono ?_); rintro e w1 ⟨_ | _, rfl, rfl⟩))
  all_goals
    go_ret
    exact ⟨_, rfl, rfl⟩
set_option maxRecDepth 100000 in
set_option maxHeartbeats 2000000 in
theorem isWord_some (s : ByteArray) (w : World) (hs : s.size ≤ maxLen) : Calls Tryz.prog 98 #[.string s] w (Some0 w) := by
  unfold maxLen at hs
  by_cases h1 : s.size < 1
  · have h1' : (s.size : Int) < 1 := by omega
    go_enter Tryz.func98, Tryz.ntmps98
    go_wp2
    go_ret
    exact ⟨_, rfl, rfl⟩
  have h1' : ¬ (s.size : Int) < 1 := by omega
  by_cases h9 : 9 < s.size
  · have h9' : (9 : Int) < (s.size : Int) := by omega
    go_enter Tryz.func98, Tryz.ntmps98
    go_wp2
    go_ret
    exact ⟨_, rfl, rfl⟩
  have h9' : ¬ (9 : Int) < (s.size : Int) := by omega
  have h0 : 0 < s.size := by omega
  have h0' : (0 : Int) < (s.size : Int) := by omega
  go_enter Tryz.func98, Tryz.ntmps98
  go_wp2_with (first | (go_at_call 111; (with_reducible refine (small_calls _ _).mono ?_); rintro e w1 ⟨_ | _, rfl, rfl⟩) | (go_at_call 112; (with_reducible refine (digit_calls _ _).mono ?_); rintro e w1 ⟨_ | _, rfl, rfl⟩))
  all_goals
    first
    | (go_ret; exact ⟨_, rfl, rfl⟩)
    | (subst_vars
       go_loopw [3] (fun i wr => ∃ k : Nat, k ≤ s.size ∧ i = .int .i64 k ∧ w = wr) (fun i _ => s.size - (intOf i).toNat)
       case atStart => exact ⟨0, Nat.zero_le _, rfl, rfl⟩
       case round =>
         obtain ⟨k, hk, rfl, rfl⟩ := hrel
         by_cases hlt : k < s.size
         · have h1 : (k : Int) < (s.size : Int) := by omega
           have h2 : (0 : Int) ≤ (k : Int) := by omega
           go_wp2_with (first | (go_at_call 113; (with_reducible refine (row_calls _ _).mono ?_); rintro e w1 ⟨_ | _, rfl, rfl⟩) | (go_at_call 114; (with_reducible refine (great_calls _ _).mono ?_); rintro e w1 ⟨_ | _, rfl, rfl⟩))
           all_goals
             first
             | (go_ret; exact ⟨_, rfl, rfl⟩)
             | (go_roundw
                case rel => exact ⟨k + 1, by omega, by go_num, by first | rfl | trivial⟩
                case measure => simp [intOf]; omega)
         · have h1 : ¬ (k : Int) < (s.size : Int) := by omega
           have hkn : k = s.size := by omega
           clear hkn
           go_wp2_with (fail)
           all_goals
             go_ret
             exact ⟨_, rfl, rfl⟩
      )
set_option maxRecDepth 100000 in
set_option maxHeartbeats 2000000 in
theorem isText_some (s : ByteArray) (w : World) (hs : s.size ≤ maxLen) : Calls Tryz.prog 64 #[.string s] w (Some0 w) := by
  unfold maxLen at hs
  go_enter Tryz.func64, Tryz.ntmps64
  go_wp2
  go_loopw [3] (fun i wr => ∃ k : Nat, k ≤ s.size ∧ i = .int .i64 k ∧ w = wr) (fun i _ => s.size - (intOf i).toNat)
  case atStart => exact ⟨0, Nat.zero_le _, rfl, rfl⟩
  case round =>
    obtain ⟨k, hk, rfl, rfl⟩ := hrel
    by_cases hlt : k < s.size
    · have h1 : (k : Int) < (s.size : Int) := by omega
      have h2 : (0 : Int) ≤ (k : Int) := by omega
      go_wp2_with (fail)
      all_goals
        first
        | (go_ret; exact ⟨_, rfl, rfl⟩)
        | (go_roundw
           case rel => exact ⟨k + 1, by omega, by go_num, by first | rfl | trivial⟩
           case measure => simp [intOf]; omega)
    · have h1 : ¬ (k : Int) < (s.size : Int) := by omega
      have hkn : k = s.size := by omega
      clear hkn
      go_wp2_with (fail)
      all_goals
        go_ret
        exact ⟨_, rfl, rfl⟩
end Go.Proofs.YtapjglpiofpbmaaGreat
