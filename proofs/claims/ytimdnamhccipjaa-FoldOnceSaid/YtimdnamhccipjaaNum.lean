/- The walks of the layer num and of its reference, as far as fold uses them: each hands back a number that is defined here, and leaves the memory as it was. -/
import Derived.Test.YtimdnamhccipjaaData
import Derived.Test.YtimdnamhccipjaaRows
import Derived.WalkSpells
import Derived.WalkLawsBesides
import Derived.IntWalk
namespace Go.Proofs.Ytimdnamhccipjaa
open Go.RowKit

/-- The value that a number is, modulo 2^16. -/
def wr (n : Int) : Int := (n + 32768) % 65536 - 32768

theorem wr_range (n : Int) : -32768 ≤ wr n ∧ wr n ≤ 32767 := by unfold wr; omega
theorem wr_id {n : Int} (h : -32768 ≤ n ∧ n ≤ 32767) : wr n = n := by unfold wr; omega
theorem wr_wr (n : Int) : wr (wr n) = wr n := wr_id (wr_range n)
theorem wr64 (n : Int) : I64 (wr n) := by have := wr_range n; unfold I64; omega

theorem wrap16_eq (n : Int) : IntKind.i16.wrap n = wr n := by
  have h : IntKind.i16.wrap n = if 32768 ≤ n % 65536 then n % 65536 - 65536 else n % 65536 := by
    unfold IntKind.wrap
    simp [IntKind.bits, IntKind.signed]
  rw [h]
  unfold wr
  split <;> omega

theorem tmod_parts (n b : Int) (hb : 0 < b) : ∃ q, n = b * q + n.tmod b ∧ -b < n.tmod b ∧ n.tmod b < b ∧ q = n.tdiv b ∧ (0 ≤ n → 0 ≤ n.tmod b) ∧ (n ≤ 0 → n.tmod b ≤ 0) := by
  refine ⟨n.tdiv b, (Int.mul_tdiv_add_tmod n b).symm, ?_, Int.tmod_lt_of_pos n hb, rfl, fun h => Int.tmod_nonneg b h, fun h => ?_⟩
  · by_cases h : 0 ≤ n
    · have := Int.tmod_nonneg b h; omega
    · have := Int.tmod_lt_of_pos (-n) hb
      rw [Int.neg_tmod] at this; omega
  · have := Int.tmod_nonneg b (show 0 ≤ -n by omega)
    rw [Int.neg_tmod] at this; omega

/-- A call that hands back v and leaves the world alone. -/
def Just (w : World) (v : Value) (e : Ending) (w' : World) : Prop := e = .returned v ∧ w = w'

theorem wrapT_calls (n : Int) (w : World) : Calls Try.prog 57 #[.int .i64 n] w (Just w (.int .i64 (wr n))) := by
  go_enter Try.func57, Try.ntmps57
  go_wp2
  go_ret
  refine ⟨ret_int ?_, rfl⟩
  rw [wrap16_eq]
  have := wr_range n
  unfold wrap64; omega

theorem wrapR_calls (n : Int) (w : World) (hn : I64 n) : Calls Try.prog 65 #[.int .i64 n] w (Just w (.int .i64 (wr n))) := by
  obtain ⟨h1, h2⟩ := hn
  have HT := Lib.hid (tmod_parts n 65536 (by omega))
  go_enter Try.func65, Try.ntmps65
  go_wp2
  all_goals go_ret
  all_goals refine ⟨ret_int ?_, rfl⟩
  all_goals
    obtain ⟨q, ht⟩ := HT.out
    unfold wr
    try unfold wrap64
    omega

theorem mul_in {x y : Int} (h1 : -32768 ≤ x ∧ x ≤ 32767) (h2 : -32768 ≤ y ∧ y ≤ 32767) : -9223372036854775808 ≤ x * y ∧ x * y ≤ 9223372036854775807 := by
  have a1 : x * y ≤ x.natAbs * y.natAbs := by
    have := Int.le_natAbs (a := x * y)
    rw [Int.natAbs_mul] at this
    exact_mod_cast this
  have a2 : -(x * y) ≤ x.natAbs * y.natAbs := by
    have := Int.le_natAbs (a := -(x * y))
    rw [Int.natAbs_neg, Int.natAbs_mul] at this
    exact_mod_cast this
  have a3 : x.natAbs * y.natAbs ≤ 32768 * 32768 := Nat.mul_le_mul (by omega) (by omega)
  have a4 : (x.natAbs : Int) * y.natAbs ≤ 1073741824 := by
    have h := Int.ofNat_le.2 a3
    rw [Int.natCast_mul] at h
    exact h
  omega

set_option maxRecDepth 20000 in
theorem negT_calls (n : Int) (w : World) : Calls Try.prog 58 #[.int .i64 n] w (Just w (.int .i64 (wr (-(wr n))))) := by
  have h := wr_range n
  go_enter Try.func58, Try.ntmps58
  go_wp2_with (go_at_call 57; (with_reducible refine (wrapT_calls _ _).mono ?_); rintro e w' ⟨rfl, rfl⟩)
  go_ret
  exact ⟨ret_int rfl, rfl⟩

set_option maxRecDepth 20000 in
theorem negR_calls (n : Int) (w : World) (hn : I64 n) : Calls Try.prog 63 #[.int .i64 n] w (Just w (.int .i64 (wr (-(wr n))))) := by
  have h := wr_range n
  have h2 : I64 (-(wr n)) := by unfold I64; omega
  go_enter Try.func63, Try.ntmps63
  go_wp2_with (go_at_call 65; (with_reducible refine (wrapR_calls _ _ (by assumption)).mono ?_); rintro e w' ⟨rfl, rfl⟩)
  go_ret
  exact ⟨ret_int rfl, rfl⟩

set_option maxRecDepth 20000 in
theorem addT_calls (a b : Int) (w : World) : Calls Try.prog 88 #[.int .i64 a, .int .i64 b] w (Just w (.int .i64 (wr (wr a + wr b)))) := by
  have h1 := wr_range a
  have h2 := wr_range b
  go_enter Try.func88, Try.ntmps88
  go_wp2_with (go_at_call 57; (with_reducible refine (wrapT_calls _ _).mono ?_); rintro e w' ⟨rfl, rfl⟩)
  go_ret
  exact ⟨ret_int rfl, rfl⟩

set_option maxRecDepth 20000 in
theorem addR_calls (a b : Int) (w : World) (ha : I64 a) (hb : I64 b) : Calls Try.prog 94 #[.int .i64 a, .int .i64 b] w (Just w (.int .i64 (wr (wr a + wr b)))) := by
  have h1 := wr_range a
  have h2 := wr_range b
  have h3 : I64 (wr a + wr b) := by unfold I64; omega
  go_enter Try.func94, Try.ntmps94
  go_wp2_with (go_at_call 65; (with_reducible refine (wrapR_calls _ _ (by assumption)).mono ?_); rintro e w' ⟨rfl, rfl⟩)
  go_ret
  exact ⟨ret_int rfl, rfl⟩

set_option maxRecDepth 20000 in
theorem subT_calls (a b : Int) (w : World) : Calls Try.prog 89 #[.int .i64 a, .int .i64 b] w (Just w (.int .i64 (wr (wr a - wr b)))) := by
  have h1 := wr_range a
  have h2 := wr_range b
  go_enter Try.func89, Try.ntmps89
  go_wp2_with (go_at_call 57; (with_reducible refine (wrapT_calls _ _).mono ?_); rintro e w' ⟨rfl, rfl⟩)
  go_ret
  exact ⟨ret_int rfl, rfl⟩

set_option maxRecDepth 20000 in
theorem subR_calls (a b : Int) (w : World) (ha : I64 a) (hb : I64 b) : Calls Try.prog 95 #[.int .i64 a, .int .i64 b] w (Just w (.int .i64 (wr (wr a - wr b)))) := by
  have h1 := wr_range a
  have h2 := wr_range b
  have h3 : I64 (wr a - wr b) := by unfold I64; omega
  go_enter Try.func95, Try.ntmps95
  go_wp2_with (go_at_call 65; (with_reducible refine (wrapR_calls _ _ (by assumption)).mono ?_); rintro e w' ⟨rfl, rfl⟩)
  go_ret
  exact ⟨ret_int rfl, rfl⟩

set_option maxRecDepth 20000 in
theorem mulT_calls (a b : Int) (w : World) : Calls Try.prog 90 #[.int .i64 a, .int .i64 b] w (Just w (.int .i64 (wr (wr a * wr b)))) := by
  have h1 := wr_range a
  have h2 := wr_range b
  have h4 : -9223372036854775808 ≤ wr a * wr b ∧ wr a * wr b ≤ 9223372036854775807 := mul_in h1 h2
  go_enter Try.func90, Try.ntmps90
  go_wp2_with (go_at_call 57; (with_reducible refine (wrapT_calls _ _).mono ?_); rintro e w' ⟨rfl, rfl⟩)
  go_ret
  exact ⟨ret_int rfl, rfl⟩

set_option maxRecDepth 20000 in
theorem mulR_calls (a b : Int) (w : World) (ha : I64 a) (hb : I64 b) : Calls Try.prog 96 #[.int .i64 a, .int .i64 b] w (Just w (.int .i64 (wr (wr a * wr b)))) := by
  have h1 := wr_range a
  have h2 := wr_range b
  have h4 : -9223372036854775808 ≤ wr a * wr b ∧ wr a * wr b ≤ 9223372036854775807 := mul_in h1 h2
  have h3 : I64 (wr a * wr b) := by unfold I64; omega
  go_enter Try.func96, Try.ntmps96
  go_wp2_with (go_at_call 65; (with_reducible refine (wrapR_calls _ _ (by assumption)).mono ?_); rintro e w' ⟨rfl, rfl⟩)
  go_ret
  exact ⟨ret_int rfl, rfl⟩

end Go.Proofs.Ytimdnamhccipjaa
