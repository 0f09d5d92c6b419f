/- The walk of tree.stmtHas, and of the function that RightBlock asks names by. -/
import Derived.Test.YtimdnamhccipjaaHas
namespace Go.Proofs.Ytimdnamhccipjaa
open Go.RowKit Go.Sort

/-- What a kind of statements has. -/
structure Parts where
  named : Bool
  body : Bool
  other : Bool
  least : Nat
  most : Nat
  is : Bool

def partsOf (k : Int) : Parts :=
  if k = 1 then ⟨false, false, false, 1, 8, true⟩
  else if k = 2 ∨ k = 3 ∨ k = 5 ∨ k = 6 ∨ k = 17 ∨ k = 23 then ⟨true, false, false, 1, 1, true⟩
  else if k = 4 then ⟨true, false, false, 2, 2, true⟩
  else if k = 7 then ⟨false, false, false, 2, 2, true⟩
  else if k = 8 ∨ k = 12 ∨ k = 16 ∨ k = 20 ∨ k = 22 ∨ k = 19 then ⟨false, false, false, 1, 1, true⟩
  else if k = 9 then ⟨false, true, true, 1, 1, true⟩
  else if k = 10 then ⟨false, true, false, 1, 1, true⟩
  else if k = 11 then ⟨true, true, false, 1, 1, true⟩
  else if k = 18 then ⟨true, false, false, 0, 0, true⟩
  else if k = 13 ∨ k = 14 ∨ k = 15 ∨ k = 21 then ⟨false, false, false, 0, 0, true⟩
  else ⟨false, false, false, 0, 0, false⟩

def PartsV (h : Parts) : Value := .tuple #[.agg #[.bool h.named, .bool h.body, .bool h.other, .int .i64 h.least, .int .i64 h.most], .bool h.is]

theorem skind_cases (k : Int) : k = 1 ∨ k = 2 ∨ k = 3 ∨ k = 4 ∨ k = 5 ∨ k = 6 ∨ k = 7 ∨ k = 8 ∨ k = 9 ∨ k = 10 ∨ k = 11 ∨ k = 12 ∨ k = 13 ∨ k = 14 ∨ k = 15 ∨ k = 16 ∨ k = 17 ∨ k = 18 ∨ k = 19 ∨ k = 20 ∨ k = 21 ∨ k = 22 ∨ k = 23 ∨ k < 1 ∨ 23 < k := by omega

set_option maxRecDepth 100000 in
set_option maxHeartbeats 4000000 in
theorem stmtHas_calls (k : Int) (w : World) : Calls Try.prog 123 #[.int .i64 k] w (Gives w (PartsV (partsOf k))) := by
  have hz : (k < 1 ∨ 23 < k) → partsOf k = ⟨false, false, false, 0, 0, false⟩ := fun h => by
    unfold partsOf
    repeat (rw [if_neg (by omega)])
  rcases skind_cases k with rfl | rfl | rfl | rfl | rfl | rfl | rfl | rfl | rfl | rfl | rfl | rfl | rfl | rfl | rfl | rfl | rfl | rfl | rfl | rfl | rfl | rfl | rfl | h | h
  case inr.inr.inr.inr.inr.inr.inr.inr.inr.inr.inr.inr.inr.inr.inr.inr.inr.inr.inr.inr.inr.inr.inr.inl =>
    rw [hz (Or.inl h)]
    clear hz
    go_enter Try.func123, Try.ntmps123
    go_wp2
    exact bodyPost_ret (v := PartsV ⟨false, false, false, 0, 0, false⟩) (by simp [results, Try.results123, go_sem, PartsV]) rfl ⟨rfl, (Below.refl _ _).alloc (Nat.le_refl _) _⟩
  case inr.inr.inr.inr.inr.inr.inr.inr.inr.inr.inr.inr.inr.inr.inr.inr.inr.inr.inr.inr.inr.inr.inr.inr =>
    rw [hz (Or.inr h)]
    clear hz
    go_enter Try.func123, Try.ntmps123
    go_wp2
    exact bodyPost_ret (v := PartsV ⟨false, false, false, 0, 0, false⟩) (by simp [results, Try.results123, go_sem, PartsV]) rfl ⟨rfl, (Below.refl _ _).alloc (Nat.le_refl _) _⟩
  all_goals
    clear hz
    go_enter Try.func123, Try.ntmps123
    go_wp2
    exact bodyPost_ret (v := PartsV (partsOf _)) (by simp [results, Try.results123, go_sem, PartsV, partsOf]) rfl ⟨rfl, (Below.refl _ _).alloc (Nat.le_refl _) _⟩

/-- What RightBlock asks of a statement's name and number. -/
def NameOk (named : Bool) (k n : Int) (s : ByteArray) : Prop := if named = true then k ≠ 23 ∧ n = 0 ∧ IsNm s else s = ByteArray.empty ∧ n = 0

set_option maxRecDepth 100000 in
set_option maxHeartbeats 1000000 in
theorem nameOk_calls (k n : Int) (s : ByteArray) (v1 v2 v3 : Option Addr × Nat × Nat) (named : Bool) (w : World) (hs : s.size ≤ maxLen) (hm : MX w) :
    Calls Try.prog 74 #[.agg #[.int .i64 k, .int .i64 n, .string s, .slice v1.1 v1.2.1 v1.2.2, .slice v2.1 v2.2.1 v2.2.2, .slice v3.1 v3.2.1 v3.2.2], .bool named] w (Gives w (.bool (dec (NameOk named k n s)))) := by
  obtain ⟨a1, b1, c1⟩ := v1
  obtain ⟨a2, b2, c2⟩ := v2
  obtain ⟨a3, b3, c3⟩ := v3
  simp only
  cases named
  · by_cases hz : s = ByteArray.empty
    · subst hz
      have e : Hid (dec (NameOk false k n ByteArray.empty) = (n == 0)) := by
        show dec _ = _
        by_cases h : n = 0
        · subst h; exact dec_true (by simp [NameOk])
        · rw [dec_false (by simp [NameOk, h])]; symm; simpa using h
      clear hm
      go_enter Try.func74, Try.ntmps74
      go_wp2
      go_ret
      exact ⟨ret_bool e.out.symm, (Below.refl _ _).alloc (Nat.le_refl _) _⟩
    · have qs := strne hz
      have qs2 : s.toList.isEmpty = false := by simpa using qs
      have e : Hid (dec (NameOk false k n s) = false) := dec_false (by simp [NameOk, hz])
      clear hz hm
      go_enter Try.func74, Try.ntmps74
      go_wp2
      go_ret
      exact ⟨by first | exact ret_bool e.out.symm | (rw [e.out]; simp), (Below.refl _ _).alloc (Nat.le_refl _) _⟩
  · by_cases hk : k = 23
    · have q : (k != 23) = false := by simpa using hk
      have e : Hid (dec (NameOk true k n s) = false) := dec_false (by simp [NameOk, hk])
      clear hk hm
      go_enter Try.func74, Try.ntmps74
      go_wp2
      go_ret
      exact ⟨ret_bool e.out.symm, (Below.refl _ _).alloc (Nat.le_refl _) _⟩
    have q : (k != 23) = true := by simpa using hk
    by_cases hn : n = 0
    rotate_left
    · have q2 : (n == 0) = false := by simpa using hn
      have e : Hid (dec (NameOk true k n s) = false) := dec_false (by simp [NameOk, hn])
      clear hk hn hm
      go_enter Try.func74, Try.ntmps74
      go_wp2
      go_ret
      exact ⟨ret_bool e.out.symm, (Below.refl _ _).alloc (Nat.le_refl _) _⟩
    subst hn
    have e : Hid (dec (NameOk true k 0 s) = dec (IsNm s)) := dec_congr (by simp [NameOk, hk])
    have HX := Lib.hid (fun o => nameT_calls s (w.alloc o) hs (hm.alloc o))
    clear hk hm
    go_enter Try.func74, Try.ntmps74
    go_wp2_with (go_at_call 75; refine (HX.out _).mono ?_; rintro e w' ⟨rfl, rfl⟩)
    go_ret
    exact ⟨ret_bool e.out.symm, (Below.refl _ _).alloc (Nat.le_refl _) _⟩

end Go.Proofs.Ytimdnamhccipjaa
