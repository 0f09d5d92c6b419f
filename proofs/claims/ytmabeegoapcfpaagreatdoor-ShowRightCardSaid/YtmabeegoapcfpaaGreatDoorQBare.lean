/- The walks of clewref10.bare and clewref10.among. -/
import Derived.Test.YtmabeegoapcfpaaGreatDoorQPart20aa6447
namespace Go.Proofs.YtmabeegoapcfpaaGreatDoor
open Go.RowKit Go.Sort
theorem among_calls (n lo hi : Int) (w : World) : Calls Tryz.prog 231 #[.int .i64 n, .int .i64 lo, .int .i64 hi] w (Same0 w (.bool (dec (lo ≤ n ∧ n ≤ hi)))) := by
  by_cases h : lo ≤ n
  · have e : Hid (dec (lo ≤ n ∧ n ≤ hi) = decide (n ≤ hi)) := by
      show dec _ = _
      by_cases h2 : n ≤ hi
      · rw [dec_true ⟨h, h2⟩]; symm; simpa using h2
      · rw [dec_false (fun h3 => h2 h3.2)]; symm; simpa using h2
    go_enter Tryz.func231, Tryz.ntmps231
    go_wp2
    go_ret
    exact ⟨ret_bool e.out.symm, rfl⟩
  · have e : Hid (dec (lo ≤ n ∧ n ≤ hi) = false) := dec_false (fun h3 => h h3.1)
    go_enter Tryz.func231, Tryz.ntmps231
    go_wp2
    go_ret
    exact ⟨ret_bool e.out.symm, rfl⟩
def Bare (o n : Int) (s : ByteArray) (m : Nat) (args : Int) (op num named : Bool) : Prop := (m : Int) = args ∧ (op = true ∨ o = 0) ∧ (num = true ∨ n = 0) ∧ (named = true ∨ s = ByteArray.empty)
set_option maxRecDepth 100000 in
set_option maxHeartbeats 4000000 in
theorem bare_calls (k o n : Int) (s : ByteArray) (a : Option Addr) (m cap : Nat) (args : Int) (op num named : Bool) (w : World) :
    Calls Tryz.prog 232 #[.agg #[.int .i64 k, .int .i64 o, .int .i64 n, .string s, .slice a m cap], .int .i64 args, .bool op, .bool num, .bool named] w (Gives w (.bool (dec (Bare o n s m args op num named)))) := by
  have hR : Hid (dec (Bare o n s m args op num named) = dec ((m : Int) = args ∧ (op = true ∨ o = 0) ∧ (num = true ∨ n = 0) ∧ (named = true ∨ s = ByteArray.empty))) := rfl
  generalize dec (Bare o n s m args op num named) = R at *
  by_cases hm : (m : Int) = args
  rotate_left
  · have q : ((m : Int) == args) = false := by simpa using hm
    obtain rfl : R = false := by rw [hR.out]; exact dec_false (fun h => hm h.1)
    clear hR hm
    go_enter Tryz.func232, Tryz.ntmps232
    go_wp2
    go_ret
    exact ⟨rfl, (Below.refl _ _).alloc (Nat.le_refl _) _⟩
  subst hm
  by_cases ho : op = true ∨ o = 0
  rotate_left
  · have q : op = false := by cases op <;> simp at ho ⊢
    have q2 : (o == 0) = false := by cases op <;> simp at ho ⊢; exact ho
    subst q
    obtain rfl : R = false := by rw [hR.out]; exact dec_false (fun h => ho h.2.1)
    clear hR ho
    go_enter Tryz.func232, Tryz.ntmps232
    go_wp2
    go_ret
    exact ⟨rfl, (Below.refl _ _).alloc (Nat.le_refl _) _⟩
  by_cases hn : num = true ∨ n = 0
  rotate_left
  · have q : num = false := by cases num <;> simp at hn ⊢
    have q2 : (n == 0) = false := by cases num <;> simp at hn ⊢; exact hn
    subst q
    obtain rfl : R = false := by rw [hR.out]; exact dec_false (fun h => hn h.2.2.1)
    clear hR hn
    cases op
    · obtain rfl : o = 0 := by simpa using ho
      clear ho
      go_enter Tryz.func232, Tryz.ntmps232
      go_wp2
      go_ret
      exact ⟨rfl, (Below.refl _ _).alloc (Nat.le_refl _) _⟩
    · clear ho
      go_enter Tryz.func232, Tryz.ntmps232
      go_wp2
      go_ret
      exact ⟨rfl, (Below.refl _ _).alloc (Nat.le_refl _) _⟩
  have hS : Hid (R = dec (named = true ∨ s = ByteArray.empty)) := by show R = _; rw [hR.out]; exact dec_congr (by simp [ho, hn])
  clear hR
  by_cases hs : named = true ∨ s = ByteArray.empty
  · obtain rfl : R = true := by rw [hS.out]; exact dec_true hs
    clear hS
    cases op
    · obtain rfl : o = 0 := by simpa using ho
      cases num
      · obtain rfl : n = 0 := by simpa using hn
        cases named
        · obtain rfl : s = ByteArray.empty := by simpa using hs
          clear ho hn hs
          go_enter Tryz.func232, Tryz.ntmps232
          go_wp2
          go_ret
          exact ⟨rfl, (Below.refl _ _).alloc (Nat.le_refl _) _⟩
        · clear ho hn hs
          go_enter Tryz.func232, Tryz.ntmps232
          go_wp2
          go_ret
          exact ⟨rfl, (Below.refl _ _).alloc (Nat.le_refl _) _⟩
      · cases named
        · obtain rfl : s = ByteArray.empty := by simpa using hs
          clear ho hn hs
          go_enter Tryz.func232, Tryz.ntmps232
          go_wp2
          go_ret
          exact ⟨rfl, (Below.refl _ _).alloc (Nat.le_refl _) _⟩
        · clear ho hn hs
          go_enter Tryz.func232, Tryz.ntmps232
          go_wp2
          go_ret
          exact ⟨rfl, (Below.refl _ _).alloc (Nat.le_refl _) _⟩
    · cases num
      · obtain rfl : n = 0 := by simpa using hn
        cases named
        · obtain rfl : s = ByteArray.empty := by simpa using hs
          clear ho hn hs
          go_enter Tryz.func232, Tryz.ntmps232
          go_wp2
          go_ret
          exact ⟨rfl, (Below.refl _ _).alloc (Nat.le_refl _) _⟩
        · clear ho hn hs
          go_enter Tryz.func232, Tryz.ntmps232
          go_wp2
          go_ret
          exact ⟨rfl, (Below.refl _ _).alloc (Nat.le_refl _) _⟩
      · cases named
        · obtain rfl : s = ByteArray.empty := by simpa using hs
          clear ho hn hs
          go_enter Tryz.func232, Tryz.ntmps232
          go_wp2
          go_ret
          exact ⟨rfl, (Below.refl _ _).alloc (Nat.le_refl _) _⟩
        · clear ho hn hs
          go_enter Tryz.func232, Tryz.ntmps232
          go_wp2
          go_ret
          exact ⟨rfl, (Below.refl _ _).alloc (Nat.le_refl _) _⟩
  · have q : named = false := by cases named <;> simp at hs ⊢
    have q2 : s ≠ ByteArray.empty := fun h => hs (Or.inr h)
    have qs := strne q2
    have qs2 : s.toList.isEmpty = false := by simpa using qs
    subst q
    obtain rfl : R = false := by rw [hS.out]; exact dec_false hs
    clear hS hs q2
    cases op
    · obtain rfl : o = 0 := by simpa using ho
      cases num
      · obtain rfl : n = 0 := by simpa using hn
        clear ho hn
        go_enter Tryz.func232, Tryz.ntmps232
        go_wp2
        go_ret
        exact ⟨by first | rfl | simp, (Below.refl _ _).alloc (Nat.le_refl _) _⟩
      · clear ho hn
        go_enter Tryz.func232, Tryz.ntmps232
        go_wp2
        go_ret
        exact ⟨by first | rfl | simp, (Below.refl _ _).alloc (Nat.le_refl _) _⟩
    · cases num
      · obtain rfl : n = 0 := by simpa using hn
        clear ho hn
        go_enter Tryz.func232, Tryz.ntmps232
        go_wp2
        go_ret
        exact ⟨by first | rfl | simp, (Below.refl _ _).alloc (Nat.le_refl _) _⟩
      · clear ho hn
        go_enter Tryz.func232, Tryz.ntmps232
        go_wp2
        go_ret
        exact ⟨by first | rfl | simp, (Below.refl _ _).alloc (Nat.le_refl _) _⟩
end Go.Proofs.YtmabeegoapcfpaaGreatDoor
