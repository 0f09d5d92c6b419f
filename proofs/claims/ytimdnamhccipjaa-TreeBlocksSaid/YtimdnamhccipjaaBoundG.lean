/- The walk of tree.Bound at a global's expression, over tables that hold two globals and nothing else: what chapter 10's example asks. -/
import Derived.Test.YtimdnamhccipjaaEach
import Derived.Test.YtimdnamhccipjaaBuild
namespace Go.Proofs.Ytimdnamhccipjaa
open Go.RowKit Go.Sort

theorem below_calls (n m : Int) (w : World) : Calls Try.prog 101 #[.int .i64 n, .int .i64 m] w (Same0 w (.bool (dec (0 ≤ n ∧ n < m)))) := by
  by_cases h : 0 ≤ n
  · have e : Hid (dec (0 ≤ n ∧ n < m) = decide (n < m)) := by
      show dec _ = _
      by_cases h2 : n < m
      · rw [dec_true ⟨h, h2⟩]; symm; simpa using h2
      · rw [dec_false (fun h3 => h2 h3.2)]; symm; simpa using h2
    go_enter Try.func101, Try.ntmps101
    go_wp2
    go_ret
    exact ⟨ret_bool e.out.symm, rfl⟩
  · have e : Hid (dec (0 ≤ n ∧ n < m) = false) := dec_false (fun h3 => h h3.1)
    go_enter Try.func101, Try.ntmps101
    go_wp2
    go_ret
    exact ⟨ret_bool e.out.symm, rfl⟩

theorem callFunc_book1 (args : Array Value) (w : World) : (callFunc 103 args).run Try.prog w = .ok (.enter 103 args) w := by
  go_simp

theorem shaped_global (n : Int) : Shaped 14 0 n ByteArray.empty 0 := by
  simp [Shaped, hasOf, OpOk]

set_option maxRecDepth 100000 in
set_option maxHeartbeats 2000000 in
theorem book_global (n : Int) (g : Option Addr) (w : World) (hn : n = 1 ∨ n = 2) :
    Calls Try.prog 67 #[.agg #[.int .i64 0, .int .i64 0, .int .i64 0, .int .i64 0, .slice none 0 0, .int .i64 0, .slice none 0 0, .slice g 2 2, .slice none 0 0, .slice none 0 0, .slice none 0 0, .slice none 0 0, .slice none 0 0, .slice none 0 0, .slice none 0 0],
      .agg #[.int .i64 14, .int .i64 0, .int .i64 n, .string ByteArray.empty, .slice none 0 0], .int .i64 0] w (Gives w (.bool (n == 1))) := by
  have hs := fun w => shaped_calls 14 0 n ByteArray.empty none 0 0 w
  rw [dec_true (shaped_global n)] at hs
  have hb := fun w => below_calls n 2 w
  have he : ∀ caps w, Calls Try.prog 102 #[.slice none 0 0, .func (.func 103) #[] caps] w (Gives w (.bool true)) := fun caps w => by
    have := each_calls (fun _ => False) w 103 caps [] _ (fun _ => True) (fun _ h => h.elim) (exs_nil _ w) callFunc_book1 (by simp)
    rwa [dec_true (by simp)] at this
  rcases hn with rfl | rfl
  · rw [dec_true (by omega)] at hb
    have HS := Lib.hid hs
    have HB := Lib.hid hb
    have HE := Lib.hid he
    clear hs hb he
    go_enter Try.func67, Try.ntmps67
    go_wp2_with (first | (go_at_call 99; refine (HS.out _).mono ?_; rintro e w' ⟨rfl, hb⟩; obtain ⟨hcl, hfz⟩ := bcell hb; obtain ⟨hz1, hz2, hz3⟩ := three_new hb) | (go_at_call 101; refine (HB.out _).mono ?_; rintro e w' ⟨rfl, rfl⟩) | (go_at_call 102; refine (HE.out _ _).mono ?_; rintro e w2 ⟨rfl, hb2⟩))
    go_ret
    exact ⟨rfl, below_on (below_on (((((Below.refl _ _).alloc (Nat.le_refl _) _).alloc (by simp) _).alloc (by simp; omega) _)) (Nat.le_refl _) hb) (Nat.le_refl _) hb2⟩
  · rw [dec_false (by omega)] at hb
    have HS := Lib.hid hs
    have HB := Lib.hid hb
    clear hs hb he
    go_enter Try.func67, Try.ntmps67
    go_wp2_with (first | (go_at_call 99; refine (HS.out _).mono ?_; rintro e w' ⟨rfl, hb⟩; obtain ⟨hcl, hfz⟩ := bcell hb; obtain ⟨hz1, hz2, hz3⟩ := three_new hb) | (go_at_call 101; refine (HB.out _).mono ?_; rintro e w' ⟨rfl, rfl⟩))
    go_ret
    exact ⟨rfl, below_on (((((Below.refl _ _).alloc (Nat.le_refl _) _).alloc (by simp) _).alloc (by simp; omega) _)) (Nat.le_refl _) hb⟩

set_option maxRecDepth 100000 in
set_option maxHeartbeats 2000000 in
theorem bound_global (n : Int) (g : Option Addr) (w : World) (hn : n = 1 ∨ n = 2) :
    Calls Try.prog 26 #[.agg #[.int .i64 0, .int .i64 0, .int .i64 0, .int .i64 0, .slice none 0 0, .int .i64 0, .slice none 0 0, .slice g 2 2, .slice none 0 0, .slice none 0 0, .slice none 0 0, .slice none 0 0, .slice none 0 0, .slice none 0 0, .slice none 0 0],
      .agg #[.int .i64 14, .int .i64 0, .int .i64 n, .string ByteArray.empty, .slice none 0 0], .int .i64 0] w (Gives w (.bool (n == 1))) := by
  have hd : ∀ w, Calls Try.prog 39 #[.agg #[.int .i64 14, .int .i64 0, .int .i64 n, .string ByteArray.empty, .slice none 0 0]] w (Gives w (.int .i64 1)) := fun w =>
    depthT_calls (.mk 14 0 n ByteArray.empty []) (fun _ => False) w _ (fun _ h => h.elim) (rd_ex (i64 14) (i64 0) (i64 n) (by simp [maxLen]) (exs_nil _ w))
  have HD := Lib.hid hd
  have HB := Lib.hid (fun w => book_global n g w hn)
  clear hd
  go_enter Try.func26, Try.ntmps26
  go_wp2_with (first | (go_at_call 39; refine (HD.out _).mono ?_; rintro e w' ⟨rfl, hb⟩; obtain ⟨hcl, hfz⟩ := bcell hb; obtain ⟨hz1, hz2⟩ := two_new' hb) | (go_at_call 67; refine (HB.out _).mono ?_; rintro e w2 ⟨rfl, hb2⟩))
  go_ret
  exact ⟨rfl, below_on (below_on2 (Below.refl _ _) (Nat.le_refl _) hb) (Nat.le_refl _) hb2⟩

end Go.Proofs.Ytimdnamhccipjaa
