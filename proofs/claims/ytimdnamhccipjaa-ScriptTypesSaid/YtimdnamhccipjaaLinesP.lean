/- The lines of a text, and what was typed in them, as plain functions on bytes. No program in sight. -/
import Derived.Lib.IndexLaws
import Derived.Lib.IndexMore
namespace Go.Proofs.Ytimdnamhccipjaa

/-- More bytes ahead of the first line. -/
def glue (one : List UInt8) : List (List UInt8) → List (List UInt8)
  | [] => [one]
  | x :: xs => (one ++ x) :: xs

/-- The lines of a text. -/
def linesOf : List UInt8 → List (List UInt8)
  | [] => [[]]
  | c :: l => if c = 10 then [] :: linesOf l else glue [c] (linesOf l)

/-- What was typed in a line. -/
def pick (l : List UInt8) : Option (List UInt8) :=
  if Lib.hasPrefix l [62] = true then some (Lib.trimPrefix (Lib.trimPrefix l [62]) [32]) else none

theorem glue_nil (ls : List (List UInt8)) (h : ls ≠ []) : glue [] ls = ls := by
  cases ls with
  | nil => exact absurd rfl h
  | cons x xs => simp [glue]

theorem glue_glue (a b : List UInt8) (ls : List (List UInt8)) (h : ls ≠ []) : glue a (glue b ls) = glue (a ++ b) ls := by
  cases ls with
  | nil => exact absurd rfl h
  | cons x xs => simp [glue]

theorem glue_ne (a : List UInt8) (ls : List (List UInt8)) : glue a ls ≠ [] := by
  cases ls <;> simp [glue]

theorem linesOf_ne (l : List UInt8) : linesOf l ≠ [] := by
  cases l with
  | nil => simp [linesOf]
  | cons c l =>
    unfold linesOf
    by_cases h : c = 10
    · simp [h]
    · rw [if_neg h]; exact glue_ne _ _

theorem linesOf_free : ∀ (l : List UInt8), (∀ k : Nat, l[k]? ≠ some 10) → linesOf l = [l]
  | [], _ => rfl
  | c :: l, h => by
    have h0 : c ≠ 10 := fun e => h 0 (by simp [e])
    have h1 := linesOf_free l (fun k => by have := h (k + 1); simpa using this)
    unfold linesOf
    rw [if_neg h0, h1]
    rfl

theorem linesOf_cut : ∀ (l : List UInt8) (o : Nat), l[o]? = some 10 → (∀ k : Nat, k < o → l[k]? ≠ some 10) → linesOf l = l.take o :: linesOf (l.drop (o + 1))
  | [], o, h, _ => by simp at h
  | c :: l, 0, h, _ => by
    have h0 : c = 10 := by simpa using h
    simp [linesOf, h0]
  | c :: l, o + 1, h, hk => by
    have h0 : c ≠ 10 := fun e => hk 0 (by omega) (by simp [e])
    have h1 := linesOf_cut l o (by simpa using h) (fun k hlt => by have := hk (k + 1) (by omega); simpa using this)
    show (if c = 10 then _ else _) = _
    rw [if_neg h0, h1]
    simp [glue]

theorem linesOf_none {l : List UInt8} (h : Lib.indexByte l 10 = -1) : linesOf l = [l] := linesOf_free l (Lib.indexByte_none h)
theorem linesOf_some {l : List UInt8} {o : Nat} (h : Lib.indexByte l 10 = o) : linesOf l = l.take o :: linesOf (l.drop (o + 1)) :=
  linesOf_cut l o (Lib.indexByte_some h).1 (Lib.indexByte_some h).2

theorem linesOf_len : ∀ (l : List UInt8), (linesOf l).length ≤ l.length + 1
  | [] => by simp [linesOf]
  | c :: l => by
    have := linesOf_len l
    unfold linesOf
    by_cases h : c = 10
    · simp [h]; omega
    · rw [if_neg h]
      cases hl : linesOf l with
      | nil => exact absurd hl (linesOf_ne l)
      | cons x xs => rw [hl] at this; simp [glue] at this ⊢; omega

/-- Byte by byte: a line feed ends the line that is under way; another byte goes on with it. -/
theorem glue_feed (one l : List UInt8) : glue one (linesOf (10 :: l)) = one :: glue [] (linesOf l) := by
  rw [glue_nil _ (linesOf_ne l)]
  simp [linesOf, glue]
theorem glue_byte (one l : List UInt8) (c : UInt8) (h : c ≠ 10) : glue one (linesOf (c :: l)) = glue (one ++ [c]) (linesOf l) := by
  show glue one (if c = 10 then _ else _) = _
  rw [if_neg h, glue_glue _ _ _ (linesOf_ne l)]

/-! ### What was typed in a line -/
theorem pick_nil : pick [] = none := by simp [pick, Lib.hasPrefix]
theorem pick_other (c : UInt8) (l : List UInt8) (h : c ≠ 62) : pick (c :: l) = none := by
  have : ((62 : UInt8) == c) = false := by simpa using fun e : (62 : UInt8) = c => h e.symm
  simp [pick, Lib.hasPrefix, List.isPrefixOf, this]
theorem pick_mark (l : List UInt8) : pick (62 :: l) = some (Lib.trimPrefix l [32]) := by
  simp [pick, Lib.hasPrefix, Lib.trimPrefix, List.isPrefixOf]
theorem trim_nil : Lib.trimPrefix [] [32] = [] := by simp [Lib.trimPrefix, Lib.hasPrefix]
theorem trim_blank (l : List UInt8) : Lib.trimPrefix (32 :: l) [32] = l := by simp [Lib.trimPrefix, Lib.hasPrefix, List.isPrefixOf]
theorem trim_other (c : UInt8) (l : List UInt8) (h : c ≠ 32) : Lib.trimPrefix (c :: l) [32] = c :: l := by
  have : ((32 : UInt8) == c) = false := by simpa using fun e : (32 : UInt8) = c => h e.symm
  simp [Lib.trimPrefix, Lib.hasPrefix, List.isPrefixOf, this]

/-- All that was typed. -/
def typed (l : List UInt8) : List (List UInt8) := (linesOf l).filterMap pick

theorem picks_snoc_some {pre : List (List UInt8)} {x y : List UInt8} (h : pick x = some y) : (pre ++ [x]).filterMap pick = pre.filterMap pick ++ [y] := by
  simp [List.filterMap_append, h]
theorem picks_snoc_none {pre : List (List UInt8)} {x : List UInt8} (h : pick x = none) : (pre ++ [x]).filterMap pick = pre.filterMap pick := by
  simp [List.filterMap_append, h]
theorem picks_len (pre : List (List UInt8)) : (pre.filterMap pick).length ≤ pre.length := List.length_filterMap_le _ _
end Go.Proofs.Ytimdnamhccipjaa
