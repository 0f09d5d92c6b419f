/- What a keyword is: the rows of words of lex.Key and of clewref09.Key, and the law that both tell the same. Plain lists; no program in sight. -/
import Derived.Test.YtnbfadgclffgkaaGreatDoorPart68311049
import Derived.Lib.IndexMore
namespace Go.Proofs.YtnbfadgclffgkaaGreatDoor
def splits : List UInt8 → List UInt8 → List (List UInt8)
  | [], _ => []
  | c :: r, one => if c = 32 then one :: splits r [] else splits r (one ++ [c])
def scan (s : List UInt8) : List UInt8 → List UInt8 → Nat → Nat × Bool
  | [], _, _ => (0, false)
  | c :: r, one, n => if c = 32 then (if one = s then (n, true) else scan s r [] (n + 1)) else scan s r (one ++ [c]) n
theorem scan_iff (s : List UInt8) : ∀ (r one : List UInt8) (n : Nat), (scan s r one n).2 = true ↔ s ∈ splits r one
  | [], one, n => by simp [scan, splits]
  | c :: r, one, n => by
    simp only [scan, splits]
    by_cases h : c = 32
    · rw [if_pos h, if_pos h]
      by_cases h2 : one = s
      · rw [if_pos h2]; simp [h2]
      · rw [if_neg h2, scan_iff s r [] (n + 1)]; simp [Ne.symm h2]
    · rw [if_neg h, if_neg h]; exact scan_iff s r (one ++ [c]) n
def keysRow : List UInt8 := [32, 115, 116, 111, 114, 121, 32, 98, 121, 32, 114, 101, 108, 101, 97, 115, 101, 32, 109, 97, 120, 32, 115, 116, 97, 114, 116, 32, 102, 108, 97, 103, 32, 112, 114, 111, 112, 32, 103, 108, 111, 98, 97, 108, 32, 114, 111, 111, 109, 32, 116, 104, 105, 110, 103, 32, 105, 110, 32, 118, 101, 114, 98, 32, 109, 101, 116, 97, 32, 111, 110, 32, 98, 101, 102, 111, 114, 101, 32, 97, 102, 116, 101, 114, 32, 105, 102, 32, 102, 117, 110, 99, 32, 100, 97, 101, 109, 111, 110, 32, 116, 101, 120, 116, 32, 119, 111, 114, 100, 115, 32, 97, 100, 106, 115, 32, 105, 115, 32, 101, 120, 105, 116, 32, 116, 111, 32, 101, 108, 115, 101, 32, 115, 97, 121, 32, 108, 101, 116, 32, 115, 101, 116, 32, 117, 110, 115, 101, 116, 32, 109, 111, 118, 101, 32, 114, 101, 109, 111, 118, 101, 32, 119, 104, 105, 108, 101, 32, 101, 97, 99, 104, 32, 114, 101, 116, 117, 114, 110, 32, 115, 116, 111, 112, 32, 119, 105, 110, 32, 108, 111, 115, 101, 32, 97, 119, 97, 114, 100, 32, 104, 97, 108, 116, 32, 116, 114, 97, 118, 101, 108, 32, 108, 111, 111, 107, 32, 108, 105, 115, 116, 32, 111, 114, 32, 97, 110, 100, 32, 110, 111, 116, 32, 104, 97, 115, 32, 112, 97, 114, 101, 110, 116, 32, 99, 104, 105, 108, 100, 32, 110, 101, 120, 116, 32, 114, 97, 110, 100, 111, 109, 32, 116, 105, 116, 108, 101, 32, 104, 101, 114, 101, 32, 112, 108, 97, 121, 101, 114, 32, 110, 111, 117, 110, 32, 115, 101, 99, 111, 110, 100, 32, 110, 117, 109, 98, 101, 114, 32, 115, 99, 111, 114, 101, 32, 97, 110, 121, 32, 109, 97, 110, 121, 32, 100, 105, 114, 32]
def dirsRow : List UInt8 := [32, 110, 111, 114, 116, 104, 32, 115, 111, 117, 116, 104, 32, 101, 97, 115, 116, 32, 119, 101, 115, 116, 32, 110, 111, 114, 116, 104, 101, 97, 115, 116, 32, 110, 111, 114, 116, 104, 119, 101, 115, 116, 32, 115, 111, 117, 116, 104, 101, 97, 115, 116, 32, 115, 111, 117, 116, 104, 119, 101, 115, 116, 32, 117, 112, 32, 100, 111, 119, 110, 32, 105, 110, 32, 111, 117, 116, 32]
def IsKey (s : ByteArray) : Prop := s.data.toList ∈ splits keysRow.tail [] ∨ s.data.toList ∈ splits dirsRow.tail []
end Go.Proofs.YtnbfadgclffgkaaGreatDoor
