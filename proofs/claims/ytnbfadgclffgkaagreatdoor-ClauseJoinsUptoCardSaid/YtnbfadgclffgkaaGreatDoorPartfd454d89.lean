/- The walks of lex.Key, of clewref09.holds and Key, and of the two functions that tell what is a name and no keyword. -/
import Derived.Test.YtnbfadgclffgkaaGreatDoorPart2cdae13e
import Derived.Test.YtnbfadgclffgkaaGreatDoorKeyLaw
import Derived.Test.YtnbfadgclffgkaaGreatDoorShelf
import Derived.Lib.IndexAny
import Derived.Test.YtnbfadgclffgkaaGreatDoorPart505ed502
namespace Go.Proofs.YtnbfadgclffgkaaGreatDoor
open Go.RowKit Go.Sort
def MX (w : World) : Prop := ∃ m, w.cell? ⟨0, 0, none⟩ = some (.int .i64 m)
theorem MX.below {B : Nat} {w w' : World} (h : MX w) (hb : Below B w w') (hB : w.heap.size ≤ B) : MX w' := by
  obtain ⟨m, hm⟩ := h
  refine ⟨m, ?_⟩
  rw [hb.cell (Nat.lt_of_lt_of_le (World.block_lt_of_cell? _ _ hm) hB)]
  exact hm
theorem MX.alloc {w : World} (h : MX w) (o : Obj) : MX (w.alloc o) := h.below ((Below.refl w.heap.size w).alloc (Nat.le_refl _) o) (Nat.le_refl _)
set_option maxRecDepth 100000 in
set_option maxHeartbeats 1000000 in
theorem holds_calls (row s : ByteArray) (w : World) (h0 : 0 < row.size) (h1 : row.size ≤ 1000) (hs : s.size ≤ maxLen) : Calls Tryz.prog 97 #[.string row, .string s] w
    fun e w' => e = .returned (.tuple #[.int .i64 (scan s.data.toList row.data.toList.tail [] 0).1, .bool (scan s.data.toList row.data.toList.tail [] 0).2]) ∧ w = w' := by
  unfold maxLen at hs
  generalize hT : scan s.data.toList row.data.toList.tail [] 0 = T
  go_enter Tryz.func97, Tryz.ntmps97
  go_wp2
  go_loop [6, 7, 8] (fun n o i => ∃ (k m : Nat) (one : ByteArray), 1 ≤ k ∧ k ≤ row.size ∧ m ≤ k ∧ one.size ≤ k ∧ n = .int .i64 m ∧ o = .string one ∧ i = .int .i64 k ∧ Hid (scan s.data.toList (row.data.toList.drop k) one.data.toList m = T)) (fun _ _ i => row.size - (intOf i).toNat)
  case atStart => exact ⟨1, 0, ByteArray.empty, by omega, by omega, by omega, by simp, rfl, rfl, rfl, by rw [← hT, List.drop_one]; exact rfl⟩
  case round =>
    obtain ⟨k, m, one, hk0, hk1, hm, ho, rfl, rfl, rfl, hq⟩ := hrel
    clear hT
    by_cases hlt : k < row.size
    · have hdr : row.data.toList.drop k = row[k] :: row.data.toList.drop (k + 1) := by
        rw [List.drop_eq_getElem_cons (by simpa using hlt)]; rfl
      have hsc := hq.out
      rw [hdr] at hsc
      simp only [scan] at hsc
      clear hq
      by_cases h32 : row[k] = 32
      · rw [if_pos h32] at hsc
        have hb : (((row[k]).toNat : Int) != 32) = false := by rw [h32]; rfl
        by_cases heq : one = s
        · rw [if_pos (by rw [heq])] at hsc
          have hfin : Hid ((m, true) = T) := hsc
          have hse : (one.toList == s.toList) = true := by rw [heq]; exact beq_self_eq_true _
          clear hsc heq h32 hdr
          obtain rfl := hfin
          go_wp2
          go_ret2
          exact ⟨rfl, rfl⟩
        · have hse := strne heq
          rw [if_neg (fun h => heq (by obtain ⟨⟨x⟩⟩ := one; obtain ⟨⟨y⟩⟩ := s; simp at h; rw [h]))] at hsc
          have HQ := Lib.hid hsc
          clear hsc heq h32 hdr
          go_wp2
          go_round
          case rel => exact ⟨k + 1, m + 1, ByteArray.empty, by omega, by omega, by omega, by simp, by go_num, rfl, by go_num, HQ.out⟩
          case measure => simp [intOf]; omega
      · rw [if_neg h32] at hsc
        have hb : (((row[k]).toNat : Int) != 32) = true := by
          simp
          intro h
          exact h32 (UInt8.toNat_inj.1 (by simpa using (by omega : (row[k]).toNat = 32)))
        have HQ := Lib.hid hsc
        clear hsc h32 hdr
        go_wp2
        go_round
        case rel => exact ⟨k + 1, m, one ++ row.extract k (k + 1), by omega, by omega, by omega, by simp; omega, rfl, by first | rfl | (congr 1), by go_num, by
          rw [show (one ++ row.extract k (k + 1)).data.toList = one.data.toList ++ [row[k]] from by
            rw [ByteArray.data_append, Array.toList_append, ByteArray.data_extract]
            congr 1
            rw [Array.toList_extract]
            simp [List.extract, List.take_one, List.head?_drop, List.getElem?_eq_getElem hlt]
            rfl]
          exact HQ.out⟩
        case measure => simp [intOf]; omega
    · have hfin : Hid ((0, false) = T) := by
        have := hq.out
        rw [List.drop_eq_nil_of_le (by simp; omega)] at this
        exact this
      obtain rfl := hfin
      clear hq
      go_wp2
      go_ret2
      exact ⟨rfl, rfl⟩
set_option maxRecDepth 100000 in
set_option maxHeartbeats 1000000 in
theorem keyR_calls (s : ByteArray) (w : World) (hs : s.size ≤ maxLen) : Calls Tryz.prog 57 #[.string s] w (Same0 w (.bool (dec (IsKey s)))) := by
  have h1 := holds_calls ⟨keysRow.toArray⟩ s w (by decide +kernel) (by decide +kernel) hs
  have h2 := holds_calls ⟨dirsRow.toArray⟩ s w (by decide +kernel) (by decide +kernel) hs
  have hk : dec (IsKey s) = ((scan s.data.toList keysRow.tail [] 0).2 || (scan s.data.toList dirsRow.tail [] 0).2) := by
    rw [Bool.eq_iff_iff, dec_iff, Bool.or_eq_true, scan_iff, scan_iff]
    exact Iff.rfl
  have e1 : (⟨keysRow.toArray⟩ : ByteArray).data.toList.tail = keysRow.tail := rfl
  have e2 : (⟨dirsRow.toArray⟩ : ByteArray).data.toList.tail = dirsRow.tail := rfl
  rw [e1] at h1
  rw [e2] at h2
  clear e1 e2
  generalize hA : scan s.data.toList keysRow.tail [] 0 = A at *
  generalize hB : scan s.data.toList dirsRow.tail [] 0 = B at *
  obtain ⟨A1, A2⟩ := A
  obtain ⟨B1, B2⟩ := B
  unfold keysRow at h1
  unfold dirsRow at h2
  have HK := Lib.hid hk
  have H1 := Lib.hid h1
  have H2 := Lib.hid h2
  clear hA hB hk h1 h2
  cases A2
  all_goals
    go_enter Tryz.func57, Tryz.ntmps57
    go_wp2_with (go_at_call 97; (first | ((with_reducible refine (H1.out).mono ?_); rintro e w' ⟨rfl, rfl⟩) | ((with_reducible refine (H2.out).mono ?_); rintro e w' ⟨rfl, rfl⟩)))
    go_ret
    exact ⟨ret_bool HK.out.symm, rfl⟩
end Go.Proofs.YtnbfadgclffgkaaGreatDoor
/- The tokens of a source as the document has them, as plain functions on plain data. No program in sight. -/
namespace Go.Proofs.YtnbfadgclffgkaaGreatDoor
open Go.RowKit
structure TokD where
  kind : Int
  text : ByteArray
  num : Int
  line : Nat
  col : Nat
def byteAt (s : ByteArray) (k : Nat) : UInt8 := if h : k < s.size then s[k] else 0
theorem byteAt_lt {s : ByteArray} {k : Nat} (h : k < s.size) : byteAt s k = s[k] := by unfold byteAt; rw [dif_pos h]
def mayB (c : UInt8) : Bool := (decide (32 ≤ c) && decide (c ≤ 126)) || decide (c = 10) || decide (c = 9)
def digitC (c : UInt8) : Bool := decide (48 ≤ c) && decide (c ≤ 57)
def smallC (c : UInt8) : Bool := decide (97 ≤ c) && decide (c ≤ 122)
def bigC (c : UInt8) : Bool := decide (65 ≤ c) && decide (c ≤ 90)
def atB (s : ByteArray) : Nat → Nat × Nat
  | 0 => (1, 1)
  | k + 1 => if byteAt s k = 10 then ((atB s k).1 + 1, 1) else ((atB s k).1, (atB s k).2 + 1)
theorem atB_le (s : ByteArray) : ∀ k, (atB s k).1 ≤ k + 1 ∧ (atB s k).2 ≤ k + 1
  | 0 => ⟨Nat.le_refl _, Nat.le_refl _⟩
  | k + 1 => by
    have := atB_le s k
    unfold atB
    split <;> simp only <;> omega
def gapB (s : ByteArray) : Nat → Nat → Bool → Nat × Bool
  | 0, k, _ => (k, true)
  | f + 1, k, r =>
    if k < s.size then
      if mayB (byteAt s k) = false then (k, false)
      else if (if k + 1 < s.size ∧ byteAt s k = 47 ∧ byteAt s (k + 1) = 47 then true else if byteAt s k = 10 then false else r) = false ∧ byteAt s k ≠ 32 ∧ byteAt s k ≠ 10 ∧ byteAt s k ≠ 9 then (k, true)
      else gapB s f (k + 1) (if k + 1 < s.size ∧ byteAt s k = 47 ∧ byteAt s (k + 1) = 47 then true else if byteAt s k = 10 then false else r)
    else (k, true)
def textB (s : ByteArray) (i0 : Nat) : Nat → Nat → ByteArray → ByteArray × Nat × Int × Nat
  | 0, _, _ => (⟨#[]⟩, 0, 2, i0)
  | f + 1, k, acc =>
    if k < s.size then
      if byteAt s k = 10 then (⟨#[]⟩, 0, 2, i0)
      else if byteAt s k = 34 then (if 1024 < acc.size then (⟨#[]⟩, 0, 3, i0) else (acc, k + 1, 0, 0))
      else if mayB (byteAt s k) = false ∨ byteAt s k = 9 then (⟨#[]⟩, 0, 13, k)
      else if byteAt s k ≠ 92 then textB s i0 f (k + 1) (acc ++ s.extract k (k + 1))
      else if s.size ≤ k + 1 ∨ (byteAt s (k + 1) ≠ 110 ∧ byteAt s (k + 1) ≠ 34 ∧ byteAt s (k + 1) ≠ 92) then (⟨#[]⟩, 0, 4, k)
      else textB s i0 f (k + 2) (acc ++ if byteAt s (k + 1) = 110 then ⟨#[10]⟩ else s.extract (k + 1) (k + 2))
    else (⟨#[]⟩, 0, 2, i0)
def rowB (s : ByteArray) (name : Bool) : Nat → Nat → Nat
  | 0, k => k
  | f + 1, k => if k < s.size ∧ (digitC (byteAt s k) || (name && (smallC (byteAt s k) || decide (byteAt s k = 95)))) = true then rowB s name f (k + 1) else k
def digitsV (most : Nat) : List UInt8 → Nat → Nat × Int
  | [], n => (n, 0)
  | c :: l, n => if most / 10 < n ∨ most - (c.toNat - 48) < 10 * n ∨ most < c.toNat - 48 then (0, 5) else digitsV most l (10 * n + (c.toNat - 48))
def numberB (s : ByteArray) (i j : Nat) : Nat × Int :=
  if (j < s.size ∧ (smallC (byteAt s j) || bigC (byteAt s j) || decide (byteAt s j = 95)) = true) ∨ (byteAt s i = 48 ∧ i + 1 < j) then (0, 4)
  else digitsV 32767 (s.extract i j).data.toList 0
def ones : List UInt8 := [40, 41, 123, 125, 44, 59, 46, 124, 47, 43, 45, 42, 37, 61, 60, 62]
def signC (s : ByteArray) (i : Nat) : Nat :=
  if i + 1 < s.size ∧ byteAt s (i + 1) = 61 ∧ (byteAt s i = 61 ∨ byteAt s i = 33 ∨ byteAt s i = 60 ∨ byteAt s i = 62) then 2
  else if byteAt s i ∈ ones then 1 else 0
noncomputable def oneB (s : ByteArray) (i : Nat) : TokD × Nat × Int × Nat :=
  if byteAt s i = 34 then (⟨3, (textB s i (s.size - i) (i + 1) ⟨#[]⟩).1, 0, 0, 0⟩, (textB s i (s.size - i) (i + 1) ⟨#[]⟩).2)
  else if digitC (byteAt s i) = true then (⟨2, ⟨#[]⟩, (numberB s i (rowB s false (s.size - i) i)).1, 0, 0⟩, rowB s false (s.size - i) i, (numberB s i (rowB s false (s.size - i) i)).2, i)
  else if smallC (byteAt s i) = true then
    (⟨if dec (IsKey (s.extract i (rowB s true (s.size - i) i))) = true then 4 else 1, s.extract i (rowB s true (s.size - i) i), 0, 0, 0⟩, rowB s true (s.size - i) i,
      if 24 < (s.extract i (rowB s true (s.size - i) i)).size then (9, i) else (0, 0))
  else if signC s i = 0 then (⟨0, ⟨#[]⟩, 0, 0, 0⟩, 0, 13, i)
  else (⟨5, s.extract i (i + signC s i), 0, 0, 0⟩, i + signC s i, 0, 0)
structure FailD where
  err : Int
  line : Nat
  col : Nat
def failB (s : ByteArray) (k : Nat) (e : Int) : FailD := ⟨e, (atB s k).1, (atB s k).2⟩
noncomputable def allB (s : ByteArray) : Nat → Nat → List TokD → List TokD × FailD
  | 0, _, acc => (acc, ⟨0, 0, 0⟩)
  | f + 1, i, acc =>
    if (gapB s (s.size - i) i false).2 = false then ([], failB s (gapB s (s.size - i) i false).1 13)
    else if s.size ≤ (gapB s (s.size - i) i false).1 then (acc ++ [⟨0, ⟨#[]⟩, 0, (atB s (gapB s (s.size - i) i false).1).1, (atB s (gapB s (s.size - i) i false).1).2⟩], ⟨0, 0, 0⟩)
    else if (oneB s (gapB s (s.size - i) i false).1).2.2.1 ≠ 0 then ([], failB s (oneB s (gapB s (s.size - i) i false).1).2.2.2 (oneB s (gapB s (s.size - i) i false).1).2.2.1)
    else if acc.length = 16384 then ([], failB s (gapB s (s.size - i) i false).1 7)
    else allB s f (oneB s (gapB s (s.size - i) i false).1).2.1 (acc ++ [{ (oneB s (gapB s (s.size - i) i false).1).1 with line := (atB s (gapB s (s.size - i) i false).1).1, col := (atB s (gapB s (s.size - i) i false).1).2 }])
noncomputable def lexB (s : ByteArray) : List TokD × FailD := if 65536 < s.size then ([], ⟨3, 1, 1⟩) else allB s (s.size + 1) 0 []
end Go.Proofs.YtnbfadgclffgkaaGreatDoor
