/- The walks of tree.name, clewref10.name and tree.exprHas. -/
import Derived.Test.YtblhpiebheommaaKey
import Derived.Test.YtblhpiebheommaaDeep
namespace Go.Proofs.Ytblhpiebheommaa
open Go.RowKit Go.Sort

/-- A name that is no keyword. -/
def IsNm (s : ByteArray) : Prop := IsName s ∧ ¬ IsKey s


set_option maxHeartbeats 400000 in
theorem nameR_calls (s : ByteArray) (w : World) (hs : s.size ≤ maxLen) : Calls Try.prog 55 #[.string s] w (Same0 w (.bool (dec (IsNm s)))) := by
  have h1 := isNameR_calls s w hs
  by_cases hn : IsName s
  · have h2 := keyR_calls s w hs
    have e1 : Hid (dec (IsNm s) = !dec (IsKey s)) := by
      show dec (IsNm s) = _
      by_cases hk : IsKey s
      · rw [dec_true hk, dec_false (fun h => h.2 hk)]; rfl
      · rw [dec_false hk, dec_true ⟨hn, hk⟩]; rfl
    rw [dec_true hn] at h1
    have H1 := Lib.hid h1
    have H2 := Lib.hid h2
    clear h1 h2 hn
    go_enter Try.func55, Try.ntmps55
    go_wp2_with (first | (go_at_call 25; refine H1.out.mono ?_; rintro e w' ⟨rfl, rfl⟩) | (go_at_call 26; refine H2.out.mono ?_; rintro e w' ⟨rfl, rfl⟩))
    go_ret
    exact ⟨ret_bool e1.out.symm, rfl⟩
  · have e1 : Hid (dec (IsNm s) = false) := dec_false (fun h => hn h.1)
    rw [dec_false hn] at h1
    have H1 := Lib.hid h1
    clear h1 hn
    go_enter Try.func55, Try.ntmps55
    go_wp2_with (go_at_call 25; refine H1.out.mono ?_; rintro e w' ⟨rfl, rfl⟩)
    go_ret
    exact ⟨ret_bool e1.out.symm, rfl⟩

/-- What a kind of expressions has: Op, Num, Name; how many Args at least and at most; and whether there is such a kind. -/
structure Has where
  op : Bool
  num : Bool
  name : Bool
  least : Nat
  most : Nat
  is : Bool

def hasOf (k : Int) : Has :=
  if k = 1 ∨ k = 14 ∨ k = 15 ∨ k = 19 then ⟨false, true, false, 0, 0, true⟩
  else if k = 2 ∨ k = 3 then ⟨false, false, true, 0, 0, true⟩
  else if k = 4 ∨ k = 5 ∨ k = 11 ∨ k = 13 then ⟨false, false, false, 1, 1, true⟩
  else if k = 6 then ⟨true, false, false, 2, 2, true⟩
  else if k = 7 ∨ k = 8 then ⟨false, false, true, 1, 1, true⟩
  else if k = 16 ∨ k = 17 then ⟨false, true, false, 1, 1, true⟩
  else if k = 9 then ⟨false, false, true, 0, 8, true⟩
  else if k = 18 then ⟨false, true, false, 0, 8, true⟩
  else if k = 10 then ⟨true, false, false, 1, 1, true⟩
  else if k = 12 then ⟨true, false, false, 0, 0, true⟩
  else ⟨false, false, false, 0, 0, false⟩

def HasV (h : Has) : Value := .tuple #[.agg #[.bool h.op, .bool h.num, .bool h.name, .int .i64 h.least, .int .i64 h.most], .bool h.is]

theorem kind_cases (k : Int) : k = 1 ∨ k = 2 ∨ k = 3 ∨ k = 4 ∨ k = 5 ∨ k = 6 ∨ k = 7 ∨ k = 8 ∨ k = 9 ∨ k = 10 ∨ k = 11 ∨ k = 12 ∨ k = 13 ∨ k = 14 ∨ k = 15 ∨ k = 16 ∨ k = 17 ∨ k = 18 ∨ k = 19 ∨ k < 1 ∨ 19 < k := by omega


end Go.Proofs.Ytblhpiebheommaa
