/- What a keyword is: the rows of words of lex.Key and of clewref09.Key, and the law that both tell the same. Plain lists; no program in sight. -/
import Derived.Test.YtdeecfkipknkbaaGreatDoorData
import Derived.Lib.IndexMore
namespace Go.Proofs.YtdeecfkipknkbaaGreatDoor
def splits : List UInt8 → List UInt8 → List (List UInt8)
 | [], _ => []
 | c :: r, one => if c = 32 then one :: splits r [] else splits r (one ++ [c])
def scan (s : List UInt8) : List UInt8 → List UInt8 → Nat → Nat × Bool
 | [], _, _ => (0, false)
 | c :: r, one, n => if c = 32 then (if one = s then (n, true) else scan s r [] (n + 1)) else scan s r (one ++ [c]) n
theorem scan_iff (s : List UInt8) : ∀ (r one : List UInt8) (n : Nat), (scan s r one n).2 = true ↔ s ∈ splits r one
 | [], one, n => by simp [scan, splits]
 | c :: r, one, n => by
  simp only [scan, splits]
  by_cases h : c = 32
  · rw [if_pos h, if_pos h]
    by_cases h2 : one = s
    · rw [if_pos h2]; simp [h2]
    rw [if_neg h2, scan_iff s r [] (n + 1)]; simp [Ne.symm h2]
  rw [if_neg h, if_neg h]; exact scan_iff s r (one ++ [c]) n
theorem pre_one {s one r : List UInt8} (hs : (32 : UInt8) ∉ s) (ho : (32 : UInt8) ∉ one) : (s ++ [32]) <+: (one ++ 32 :: r) ↔ s = one := by
 induction one generalizing s with
 | nil =>
  cases s with
  | nil => simp
  | cons a s =>
   simp only [List.nil_append, List.cons_append, List.cons_prefix_cons]
   constructor
   · intro ⟨h, _⟩; simp [h] at hs
   intro h; simp at h
 | cons b one ih =>
  cases s with
  | nil =>
   simp only [List.nil_append, List.cons_append, List.cons_prefix_cons]
   constructor
   · intro ⟨h, _⟩; simp [h] at ho
   intro h; simp at h
  | cons a s =>
   simp only [List.cons_append, List.cons_prefix_cons]
   have := ih (s := s) (fun h => hs (by simp [h])) (fun h => ho (by simp [h]))
   rw [this]
   simp
theorem splits_iff (s : List UInt8) (hs : (32 : UInt8) ∉ s) : ∀ (r one : List UInt8), (32 : UInt8) ∉ one → (s ∈ splits r one ↔ (s ++ [32]) <+: (one ++ r) ∨ (32 :: (s ++ [32])) <:+: r)
 | [], one, ho => by
  simp only [splits, List.not_mem_nil, List.append_nil, false_iff, not_or]
  refine ⟨fun h => ho (h.subset (by simp)), fun h => ?_⟩
  simp at h
 | c :: r, one, ho => by
  simp only [splits]
  by_cases h : c = 32
  · rw [if_pos h, List.mem_cons, splits_iff s hs r [] (by simp)]
    subst h
    rw [pre_one hs ho, List.infix_cons_iff, List.cons_prefix_cons]
    simp
  rw [if_neg h, splits_iff s hs r (one ++ [c]) (by simp [ho, Ne.symm h])]
  rw [List.infix_cons_iff, List.cons_prefix_cons]
  simp [Ne.symm h]
theorem occAt_iff (s sub : List UInt8) : (∃ i, i ≤ s.length ∧ Lib.occAt s sub i = true) ↔ sub <:+: s := by
 constructor
 · rintro ⟨i, _, h⟩
   unfold Lib.occAt at h
   have h' : sub <+: s.drop i := by simpa using h
   exact h'.isInfix.trans (List.drop_suffix i s).isInfix
 rintro ⟨p, q, rfl⟩
 exact ⟨p.length, by simp, by unfold Lib.occAt; simp [List.append_assoc]⟩
theorem contains_iff (s sub : List UInt8) : Lib.contains s sub = true ↔ sub <:+: s := by
 rw [← occAt_iff]
 unfold Lib.contains
 rcases Lib.index_spec s sub with ⟨h, hn⟩ | ⟨i, h, hi, ho, _⟩
 · rw [h]
   simp only [Int.reduceLE, decide_false, Bool.false_eq_true, Int.reduceNeg, false_iff, not_exists, not_and]
   intro i hi
   rw [hn i hi]; simp
 rw [h]
 simp only [Int.natCast_nonneg, decide_true, true_iff]
 exact ⟨i, hi, ho⟩
def kwRow : List UInt8 := [32, 115, 116, 111, 114, 121, 32, 98, 121, 32, 114, 101, 108, 101, 97, 115, 101, 32, 109, 97, 120, 32, 115, 116, 97, 114, 116, 32, 102, 108, 97, 103, 32, 112, 114, 111, 112, 32, 103, 108, 111, 98, 97, 108, 32, 114, 111, 111, 109, 32, 116, 104, 105, 110, 103, 32, 105, 110, 32, 118, 101, 114, 98, 32, 109, 101, 116, 97, 32, 111, 110, 32, 98, 101, 102, 111, 114, 101, 32, 97, 102, 116, 101, 114, 32, 105, 102, 32, 102, 117, 110, 99, 32, 100, 97, 101, 109, 111, 110, 32, 116, 101, 120, 116, 32, 119, 111, 114, 100, 115, 32, 97, 100, 106, 115, 32, 105, 115, 32, 101, 120, 105, 116, 32, 116, 111, 32, 101, 108, 115, 101, 32, 115, 97, 121, 32, 108, 101, 116, 32, 115, 101, 116, 32, 117, 110, 115, 101, 116, 32, 109, 111, 118, 101, 32, 114, 101, 109, 111, 118, 101, 32, 119, 104, 105, 108, 101, 32, 101, 97, 99, 104, 32, 114, 101, 116, 117, 114, 110, 32, 115, 116, 111, 112, 32, 119, 105, 110, 32, 108, 111, 115, 101, 32, 97, 119, 97, 114, 100, 32, 104, 97, 108, 116, 32, 116, 114, 97, 118, 101, 108, 32, 108, 111, 111, 107, 32, 108, 105, 115, 116, 32, 111, 114, 32, 97, 110, 100, 32, 110, 111, 116, 32, 104, 97, 115, 32, 112, 97, 114, 101, 110, 116, 32, 99, 104, 105, 108, 100, 32, 110, 101, 120, 116, 32, 114, 97, 110, 100, 111, 109, 32, 116, 105, 116, 108, 101, 32, 104, 101, 114, 101, 32, 112, 108, 97, 121, 101, 114, 32, 110, 111, 117, 110, 32, 115, 101, 99, 111, 110, 100, 32, 110, 117, 109, 98, 101, 114, 32, 115, 99, 111, 114, 101, 32, 97, 110, 121, 32, 109, 97, 110, 121, 32, 100, 105, 114, 32, 110, 111, 114, 116, 104, 32, 115, 111, 117, 116, 104, 32, 101, 97, 115, 116, 32, 119, 101, 115, 116, 32, 110, 111, 114, 116, 104, 101, 97, 115, 116, 32, 110, 111, 114, 116, 104, 119, 101, 115, 116, 32, 115, 111, 117, 116, 104, 101, 97, 115, 116, 32, 115, 111, 117, 116, 104, 119, 101, 115, 116, 32, 117, 112, 32, 100, 111, 119, 110, 32, 111, 117, 116, 32]
def keysRow : List UInt8 := [32, 115, 116, 111, 114, 121, 32, 98, 121, 32, 114, 101, 108, 101, 97, 115, 101, 32, 109, 97, 120, 32, 115, 116, 97, 114, 116, 32, 102, 108, 97, 103, 32, 112, 114, 111, 112, 32, 103, 108, 111, 98, 97, 108, 32, 114, 111, 111, 109, 32, 116, 104, 105, 110, 103, 32, 105, 110, 32, 118, 101, 114, 98, 32, 109, 101, 116, 97, 32, 111, 110, 32, 98, 101, 102, 111, 114, 101, 32, 97, 102, 116, 101, 114, 32, 105, 102, 32, 102, 117, 110, 99, 32, 100, 97, 101, 109, 111, 110, 32, 116, 101, 120, 116, 32, 119, 111, 114, 100, 115, 32, 97, 100, 106, 115, 32, 105, 115, 32, 101, 120, 105, 116, 32, 116, 111, 32, 101, 108, 115, 101, 32, 115, 97, 121, 32, 108, 101, 116, 32, 115, 101, 116, 32, 117, 110, 115, 101, 116, 32, 109, 111, 118, 101, 32, 114, 101, 109, 111, 118, 101, 32, 119, 104, 105, 108, 101, 32, 101, 97, 99, 104, 32, 114, 101, 116, 117, 114, 110, 32, 115, 116, 111, 112, 32, 119, 105, 110, 32, 108, 111, 115, 101, 32, 97, 119, 97, 114, 100, 32, 104, 97, 108, 116, 32, 116, 114, 97, 118, 101, 108, 32, 108, 111, 111, 107, 32, 108, 105, 115, 116, 32, 111, 114, 32, 97, 110, 100, 32, 110, 111, 116, 32, 104, 97, 115, 32, 112, 97, 114, 101, 110, 116, 32, 99, 104, 105, 108, 100, 32, 110, 101, 120, 116, 32, 114, 97, 110, 100, 111, 109, 32, 116, 105, 116, 108, 101, 32, 104, 101, 114, 101, 32, 112, 108, 97, 121, 101, 114, 32, 110, 111, 117, 110, 32, 115, 101, 99, 111, 110, 100, 32, 110, 117, 109, 98, 101, 114, 32, 115, 99, 111, 114, 101, 32, 97, 110, 121, 32, 109, 97, 110, 121, 32, 100, 105, 114, 32]
def dirsRow : List UInt8 := [32, 110, 111, 114, 116, 104, 32, 115, 111, 117, 116, 104, 32, 101, 97, 115, 116, 32, 119, 101, 115, 116, 32, 110, 111, 114, 116, 104, 101, 97, 115, 116, 32, 110, 111, 114, 116, 104, 119, 101, 115, 116, 32, 115, 111, 117, 116, 104, 101, 97, 115, 116, 32, 115, 111, 117, 116, 104, 119, 101, 115, 116, 32, 117, 112, 32, 100, 111, 119, 110, 32, 105, 110, 32, 111, 117, 116, 32]
def IsKey (s : ByteArray) : Prop := s.data.toList ∈ splits keysRow.tail [] ∨ s.data.toList ∈ splits dirsRow.tail []
theorem kw_all : (splits kwRow.tail []).all (fun x => (splits keysRow.tail []).contains x || (splits dirsRow.tail []).contains x) = true := by decide +kernel
theorem keys_all : (splits keysRow.tail []).all (fun x => (splits kwRow.tail []).contains x) = true := by decide +kernel
theorem dirs_all : (splits dirsRow.tail []).all (fun x => (splits kwRow.tail []).contains x) = true := by decide +kernel
theorem isKey_iff (s : ByteArray) (hs : (32 : UInt8) ∉ s.data.toList) : IsKey s ↔ Lib.contains kwRow (32 :: (s.data.toList ++ [32])) = true := by
 have h0 : kwRow = 32 :: kwRow.tail := by decide +kernel
 rw [contains_iff, h0, List.infix_cons_iff, List.cons_prefix_cons]
 have h1 := splits_iff s.data.toList hs kwRow.tail [] (by simp)
 simp only [List.nil_append] at h1
 simp only [true_and]
 rw [← h1]
 unfold IsKey
 constructor
 · rintro (h | h)
   · have := List.all_eq_true.1 keys_all _ h; simpa using this
   have := List.all_eq_true.1 dirs_all _ h; simpa using this
 intro h
 have := List.all_eq_true.1 kw_all _ h
 simpa using this
end Go.Proofs.YtdeecfkipknkbaaGreatDoor
