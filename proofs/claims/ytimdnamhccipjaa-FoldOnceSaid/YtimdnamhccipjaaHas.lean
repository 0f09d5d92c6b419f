/- The walks of tree.name, clewref10.name and tree.exprHas. -/
import Derived.Test.YtimdnamhccipjaaKey
import Derived.Test.YtimdnamhccipjaaDeep
namespace Go.Proofs.Ytimdnamhccipjaa
open Go.RowKit Go.Sort

/-- A name that is no keyword. -/
def IsNm (s : ByteArray) : Prop := IsName s ∧ ¬ IsKey s

set_option maxHeartbeats 400000 in
theorem nameT_calls (s : ByteArray) (w : World) (hs : s.size ≤ maxLen) (hm : MX w) : Calls Try.prog 75 #[.string s] w (Same0 w (.bool (dec (IsNm s)))) := by
  have h1 := isName_calls s w hs
  by_cases hn : IsName s
  · have h2 := keyT_calls s w hn hm
    have e1 : Hid (dec (IsNm s) = !dec (IsKey s)) := by
      show dec (IsNm s) = _
      by_cases hk : IsKey s
      · rw [dec_true hk, dec_false (fun h => h.2 hk)]; rfl
      · rw [dec_false hk, dec_true ⟨hn, hk⟩]; rfl
    rw [dec_true hn] at h1
    have H1 := Lib.hid h1
    have H2 := Lib.hid h2
    clear h1 h2 hn hm
    go_enter Try.func75, Try.ntmps75
    go_wp2_with (first | (go_at_call 112; refine H1.out.mono ?_; rintro e w' ⟨rfl, rfl⟩) | (go_at_call 113; refine H2.out.mono ?_; rintro e w' ⟨rfl, rfl⟩))
    go_ret
    exact ⟨ret_bool e1.out.symm, rfl⟩
  · have e1 : Hid (dec (IsNm s) = false) := dec_false (fun h => hn h.1)
    rw [dec_false hn] at h1
    have H1 := Lib.hid h1
    clear h1 hn hm
    go_enter Try.func75, Try.ntmps75
    go_wp2_with (go_at_call 112; refine H1.out.mono ?_; rintro e w' ⟨rfl, rfl⟩)
    go_ret
    exact ⟨ret_bool e1.out.symm, rfl⟩

set_option maxHeartbeats 400000 in
theorem nameR_calls (s : ByteArray) (w : World) (hs : s.size ≤ maxLen) : Calls Try.prog 111 #[.string s] w (Same0 w (.bool (dec (IsNm s)))) := by
  have h1 := isNameR_calls s w hs
  by_cases hn : IsName s
  · have h2 := keyR_calls s w hs
    have e1 : Hid (dec (IsNm s) = !dec (IsKey s)) := by
      show dec (IsNm s) = _
      by_cases hk : IsKey s
      · rw [dec_true hk, dec_false (fun h => h.2 hk)]; rfl
      · rw [dec_false hk, dec_true ⟨hn, hk⟩]; rfl
    rw [dec_true hn] at h1
    have H1 := Lib.hid h1
    have H2 := Lib.hid h2
    clear h1 h2 hn
    go_enter Try.func111, Try.ntmps111
    go_wp2_with (first | (go_at_call 127; refine H1.out.mono ?_; rintro e w' ⟨rfl, rfl⟩) | (go_at_call 128; refine H2.out.mono ?_; rintro e w' ⟨rfl, rfl⟩))
    go_ret
    exact ⟨ret_bool e1.out.symm, rfl⟩
  · have e1 : Hid (dec (IsNm s) = false) := dec_false (fun h => hn h.1)
    rw [dec_false hn] at h1
    have H1 := Lib.hid h1
    clear h1 hn
    go_enter Try.func111, Try.ntmps111
    go_wp2_with (go_at_call 127; refine H1.out.mono ?_; rintro e w' ⟨rfl, rfl⟩)
    go_ret
    exact ⟨ret_bool e1.out.symm, rfl⟩

/-- What a kind of expressions has: Op, Num, Name; how many Args at least and at most; and whether there is such a kind. -/
structure Has where
  op : Bool
  num : Bool
  name : Bool
  least : Nat
  most : Nat
  is : Bool

def hasOf (k : Int) : Has :=
  if k = 1 ∨ k = 14 ∨ k = 15 ∨ k = 19 then ⟨false, true, false, 0, 0, true⟩
  else if k = 2 ∨ k = 3 then ⟨false, false, true, 0, 0, true⟩
  else if k = 4 ∨ k = 5 ∨ k = 11 ∨ k = 13 then ⟨false, false, false, 1, 1, true⟩
  else if k = 6 then ⟨true, false, false, 2, 2, true⟩
  else if k = 7 ∨ k = 8 then ⟨false, false, true, 1, 1, true⟩
  else if k = 16 ∨ k = 17 then ⟨false, true, false, 1, 1, true⟩
  else if k = 9 then ⟨false, false, true, 0, 8, true⟩
  else if k = 18 then ⟨false, true, false, 0, 8, true⟩
  else if k = 10 then ⟨true, false, false, 1, 1, true⟩
  else if k = 12 then ⟨true, false, false, 0, 0, true⟩
  else ⟨false, false, false, 0, 0, false⟩

def HasV (h : Has) : Value := .tuple #[.agg #[.bool h.op, .bool h.num, .bool h.name, .int .i64 h.least, .int .i64 h.most], .bool h.is]

theorem kind_cases (k : Int) : k = 1 ∨ k = 2 ∨ k = 3 ∨ k = 4 ∨ k = 5 ∨ k = 6 ∨ k = 7 ∨ k = 8 ∨ k = 9 ∨ k = 10 ∨ k = 11 ∨ k = 12 ∨ k = 13 ∨ k = 14 ∨ k = 15 ∨ k = 16 ∨ k = 17 ∨ k = 18 ∨ k = 19 ∨ k < 1 ∨ 19 < k := by omega

set_option maxRecDepth 100000 in
set_option maxHeartbeats 4000000 in
theorem exprHas_calls (k : Int) (w : World) : Calls Try.prog 121 #[.int .i64 k] w (Gives w (HasV (hasOf k))) := by
  have hz : (k < 1 ∨ 19 < k) → hasOf k = ⟨false, false, false, 0, 0, false⟩ := fun h => by
    unfold hasOf
    repeat (rw [if_neg (by omega)])
  rcases kind_cases k with rfl | rfl | rfl | rfl | rfl | rfl | rfl | rfl | rfl | rfl | rfl | rfl | rfl | rfl | rfl | rfl | rfl | rfl | rfl | h | h
  case inr.inr.inr.inr.inr.inr.inr.inr.inr.inr.inr.inr.inr.inr.inr.inr.inr.inr.inr.inl =>
    rw [hz (Or.inl h)]
    clear hz
    go_enter Try.func121, Try.ntmps121
    go_wp2
    exact bodyPost_ret (v := HasV ⟨false, false, false, 0, 0, false⟩) (by simp [results, Try.results121, go_sem, HasV]) rfl ⟨rfl, (Below.refl _ _).alloc (Nat.le_refl _) _⟩
  case inr.inr.inr.inr.inr.inr.inr.inr.inr.inr.inr.inr.inr.inr.inr.inr.inr.inr.inr.inr =>
    rw [hz (Or.inr h)]
    clear hz
    go_enter Try.func121, Try.ntmps121
    go_wp2
    exact bodyPost_ret (v := HasV ⟨false, false, false, 0, 0, false⟩) (by simp [results, Try.results121, go_sem, HasV]) rfl ⟨rfl, (Below.refl _ _).alloc (Nat.le_refl _) _⟩
  all_goals
    clear hz
    go_enter Try.func121, Try.ntmps121
    go_wp2
    exact bodyPost_ret (v := HasV (hasOf _)) (by simp [results, Try.results121, go_sem, HasV, hasOf]) rfl ⟨rfl, (Below.refl _ _).alloc (Nat.le_refl _) _⟩

end Go.Proofs.Ytimdnamhccipjaa
