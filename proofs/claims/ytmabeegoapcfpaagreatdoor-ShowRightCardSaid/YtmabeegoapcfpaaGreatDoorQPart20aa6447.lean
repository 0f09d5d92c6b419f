/- The walks of lex.Key, of clewref09.holds and Key, and of the two functions that tell what is a name and no keyword. -/
import Derived.Test.YtmabeegoapcfpaaGreatDoorQPartd8fdc15c
import Derived.Test.YtmabeegoapcfpaaGreatDoorQPart8b87d8c5
import Derived.Test.YtmabeegoapcfpaaGreatDoorQKeyLaw
import Derived.Test.YtmabeegoapcfpaaGreatDoorQPartef71752d
import Derived.Lib.IndexAny
namespace Go.Proofs.YtmabeegoapcfpaaGreatDoor
open Go.RowKit Go.Sort
def MX (w : World) : Prop := ∃ m, w.cell? ⟨2, 0, none⟩ = some (.int .i64 m)
theorem MX.below {B : Nat} {w w' : World} (h : MX w) (hb : Below B w w') (hB : w.heap.size ≤ B) : MX w' := by
  obtain ⟨m, hm⟩ := h
  refine ⟨m, ?_⟩
  rw [hb.cell (Nat.lt_of_lt_of_le (World.block_lt_of_cell? _ _ hm) hB)]
  exact hm
theorem MX.alloc {w : World} (h : MX w) (o : Obj) : MX (w.alloc o) := h.below ((Below.refl w.heap.size w).alloc (Nat.le_refl _) o) (Nat.le_refl _)
theorem no32 {s : ByteArray} (h : IsName s) : (32 : UInt8) ∉ s.data.toList := by
  obtain ⟨_, _, _, h⟩ := h
  intro hm
  obtain ⟨i, hi, he⟩ := List.mem_iff_getElem.1 hm
  have hi2 : i < s.size := by simpa using hi
  have := h i hi2
  have e : s[i] = 32 := by show s.data[i] = 32; simpa using he
  rw [e] at this
  unfold NameCh Small Digit at this
  revert this
  decide
theorem indexByte_no {s : List UInt8} (h : (32 : UInt8) ∉ s) : decide (0 ≤ Lib.indexByte s 32) = false := by
  have := Lib.contains_iff_indexByte s 32
  rw [← this]
  simpa using h
set_option maxRecDepth 100000 in
set_option maxHeartbeats 1000000 in
theorem keyT_calls (s : ByteArray) (w : World) (hn : IsName s) (hm : MX w) : Calls Tryz.prog 82 #[.string s] w (Same0 w (.bool (dec (IsKey s)))) := by
  obtain ⟨m, hm⟩ := hm
  have h1 := Tryz.strings_Contains_one s 32 w
  rw [indexByte_no (no32 hn)] at h1
  have hne : s.toList.isEmpty = false := by
    obtain ⟨h0, _⟩ := hn
    rw [ByteArray.toList_eq]
    cases hl : s.data.toList with
    | nil => rw [← ByteArray.size_data, ← Array.length_toList, hl] at h0; simp at h0
    | cons a l => rfl
  have hk := isKey_iff s (no32 hn)
  have h24 := hn.2.1
  have H1 := Lib.hid h1
  have HK := Lib.hid hk
  clear h1 hk hn
  go_enter Tryz.func82, Tryz.ntmps82
  go_wp2_with (go_at_call 149; (first | ((with_reducible refine (H1.out).mono ?_); rintro e w' ⟨rfl, rfl⟩) | ((refine (Tryz.strings_Contains _ _ m _ (by decide) hm).mono ?_); rintro e w' ⟨rfl, rfl⟩)))
  go_ret
  refine ⟨ret_bool ?_, rfl⟩
  have e1 : dec (IsKey s) = Lib.contains kwRow (32 :: (s.data.toList ++ [32])) := by
    cases hc : Lib.contains kwRow (32 :: (s.data.toList ++ [32])) with
    | true => exact dec_true (HK.out.2 hc)
    | false => exact dec_false (fun h => by have := HK.out.1 h; rw [hc] at this; cases this)
  rw [e1]
  congr 1
set_option maxRecDepth 100000 in
set_option maxHeartbeats 1000000 in
theorem holds_calls (row s : ByteArray) (w : World) (h0 : 0 < row.size) (h1 : row.size ≤ 1000) (hs : s.size ≤ maxLen) : Calls Tryz.prog 174 #[.string row, .string s] w
    fun e w' => e = .returned (.tuple #[.int .i64 (scan s.data.toList row.data.toList.tail [] 0).1, .bool (scan s.data.toList row.data.toList.tail [] 0).2]) ∧ w = w' := by
  unfold maxLen at hs
  generalize hT : scan s.data.toList row.data.toList.tail [] 0 = T
  go_enter Tryz.func174, Tryz.ntmps174
  go_wp2
  go_loop [6, 7, 8] (fun n o i => ∃ (k m : Nat) (one : ByteArray), 1 ≤ k ∧ k ≤ row.size ∧ m ≤ k ∧ one.size ≤ k ∧ n = .int .i64 m ∧ o = .string one ∧ i = .int .i64 k ∧ Hid (scan s.data.toList (row.data.toList.drop k) one.data.toList m = T)) (fun _ _ i => row.size - (intOf i).toNat)
  case atStart => exact ⟨1, 0, ByteArray.empty, by omega, by omega, by omega, by simp, rfl, rfl, rfl, by rw [← hT, List.drop_one]; exact rfl⟩
  case round =>
    obtain ⟨k, m, one, hk0, hk1, hm, ho, rfl, rfl, rfl, hq⟩ := hrel
    clear hT
    by_cases hlt : k < row.size
    · have hdr : row.data.toList.drop k = row[k] :: row.data.toList.drop (k + 1) := by
        rw [List.drop_eq_getElem_cons (by simpa using hlt)]; rfl
      have hsc := hq.out
      rw [hdr] at hsc
      simp only [scan] at hsc
      clear hq
      by_cases h32 : row[k] = 32
      · rw [if_pos h32] at hsc
        have hb : (((row[k]).toNat : Int) != 32) = false := by rw [h32]; rfl
        by_cases heq : one = s
        · rw [if_pos (by rw [heq])] at hsc
          have hfin : Hid ((m, true) = T) := hsc
          have hse : (one.toList == s.toList) = true := by rw [heq]; exact beq_self_eq_true _
          clear hsc heq h32 hdr
          obtain rfl := hfin
          go_wp2
          go_ret2
          exact ⟨rfl, rfl⟩
        · have hse := strne heq
          rw [if_neg (fun h => heq (by obtain ⟨⟨x⟩⟩ := one; obtain ⟨⟨y⟩⟩ := s; simp at h; rw [h]))] at hsc
          have HQ := Lib.hid hsc
          clear hsc heq h32 hdr
          go_wp2
          go_round
          case rel => exact ⟨k + 1, m + 1, ByteArray.empty, by omega, by omega, by omega, by simp, by go_num, rfl, by go_num, HQ.out⟩
          case measure => simp [intOf]; omega
      · rw [if_neg h32] at hsc
        have hb : (((row[k]).toNat : Int) != 32) = true := by
          simp
          intro h
          exact h32 (UInt8.toNat_inj.1 (by simpa using (by omega : (row[k]).toNat = 32)))
        have HQ := Lib.hid hsc
        clear hsc h32 hdr
        go_wp2
        go_round
        case rel => exact ⟨k + 1, m, one ++ row.extract k (k + 1), by omega, by omega, by omega, by simp; omega, rfl, by first | rfl | (congr 1), by go_num, by
          rw [show (one ++ row.extract k (k + 1)).data.toList = one.data.toList ++ [row[k]] from by
            rw [ByteArray.data_append, Array.toList_append, ByteArray.data_extract]
            congr 1
            rw [Array.toList_extract]
            simp [List.extract, List.take_one, List.head?_drop, List.getElem?_eq_getElem hlt]
            rfl]
          exact HQ.out⟩
        case measure => simp [intOf]; omega
    · have hfin : Hid ((0, false) = T) := by
        have := hq.out
        rw [List.drop_eq_nil_of_le (by simp; omega)] at this
        exact this
      obtain rfl := hfin
      clear hq
      go_wp2
      go_ret2
      exact ⟨rfl, rfl⟩
set_option maxRecDepth 100000 in
set_option maxHeartbeats 1000000 in
theorem keyR_calls (s : ByteArray) (w : World) (hs : s.size ≤ maxLen) : Calls Tryz.prog 111 #[.string s] w (Same0 w (.bool (dec (IsKey s)))) := by
  have h1 := holds_calls ⟨keysRow.toArray⟩ s w (by decide +kernel) (by decide +kernel) hs
  have h2 := holds_calls ⟨dirsRow.toArray⟩ s w (by decide +kernel) (by decide +kernel) hs
  have hk : dec (IsKey s) = ((scan s.data.toList keysRow.tail [] 0).2 || (scan s.data.toList dirsRow.tail [] 0).2) := by
    rw [Bool.eq_iff_iff, dec_iff, Bool.or_eq_true, scan_iff, scan_iff]
    exact Iff.rfl
  have e1 : (⟨keysRow.toArray⟩ : ByteArray).data.toList.tail = keysRow.tail := rfl
  have e2 : (⟨dirsRow.toArray⟩ : ByteArray).data.toList.tail = dirsRow.tail := rfl
  rw [e1] at h1
  rw [e2] at h2
  clear e1 e2
  generalize hA : scan s.data.toList keysRow.tail [] 0 = A at *
  generalize hB : scan s.data.toList dirsRow.tail [] 0 = B at *
  obtain ⟨A1, A2⟩ := A
  obtain ⟨B1, B2⟩ := B
  unfold keysRow at h1
  unfold dirsRow at h2
  have HK := Lib.hid hk
  have H1 := Lib.hid h1
  have H2 := Lib.hid h2
  clear hA hB hk h1 h2
  cases A2
  all_goals
    go_enter Tryz.func111, Tryz.ntmps111
    go_wp2_with (go_at_call 174; (first | ((with_reducible refine (H1.out).mono ?_); rintro e w' ⟨rfl, rfl⟩) | ((with_reducible refine (H2.out).mono ?_); rintro e w' ⟨rfl, rfl⟩)))
    go_ret
    exact ⟨ret_bool HK.out.symm, rfl⟩
end Go.Proofs.YtmabeegoapcfpaaGreatDoor
/- The walks of tree.name, clewref10.name and tree.exprHas. -/
namespace Go.Proofs.YtmabeegoapcfpaaGreatDoor
open Go.RowKit Go.Sort
def IsNm (s : ByteArray) : Prop := IsName s ∧ ¬ IsKey s
set_option maxHeartbeats 400000 in
theorem nameT_calls (s : ByteArray) (w : World) (hs : s.size ≤ maxLen) (hm : MX w) : Calls Tryz.prog 87 #[.string s] w (Same0 w (.bool (dec (IsNm s)))) := by
  have h1 := isName_calls s w hs
  by_cases hn : IsName s
  · have h2 := keyT_calls s w hn hm
    have e1 : Hid (dec (IsNm s) = !dec (IsKey s)) := by
      show dec (IsNm s) = _
      by_cases hk : IsKey s
      · rw [dec_true hk, dec_false (fun h => h.2 hk)]; rfl
      · rw [dec_false hk, dec_true ⟨hn, hk⟩]; rfl
    rw [dec_true hn] at h1
    have H1 := Lib.hid h1
    have H2 := Lib.hid h2
    clear h1 h2 hn hm
    go_enter Tryz.func87, Tryz.ntmps87
    go_wp2_with (first | (go_at_call 81; refine H1.out.mono ?_; rintro e w' ⟨rfl, rfl⟩) | (go_at_call 82; refine H2.out.mono ?_; rintro e w' ⟨rfl, rfl⟩))
    go_ret
    exact ⟨ret_bool e1.out.symm, rfl⟩
  · have e1 : Hid (dec (IsNm s) = false) := dec_false (fun h => hn h.1)
    rw [dec_false hn] at h1
    have H1 := Lib.hid h1
    clear h1 hn hm
    go_enter Tryz.func87, Tryz.ntmps87
    go_wp2_with (go_at_call 81; refine H1.out.mono ?_; rintro e w' ⟨rfl, rfl⟩)
    go_ret
    exact ⟨ret_bool e1.out.symm, rfl⟩
set_option maxHeartbeats 400000 in
theorem nameR_calls (s : ByteArray) (w : World) (hs : s.size ≤ maxLen) : Calls Tryz.prog 206 #[.string s] w (Same0 w (.bool (dec (IsNm s)))) := by
  have h1 := isNameR_calls s w hs
  by_cases hn : IsName s
  · have h2 := keyR_calls s w hs
    have e1 : Hid (dec (IsNm s) = !dec (IsKey s)) := by
      show dec (IsNm s) = _
      by_cases hk : IsKey s
      · rw [dec_true hk, dec_false (fun h => h.2 hk)]; rfl
      · rw [dec_false hk, dec_true ⟨hn, hk⟩]; rfl
    rw [dec_true hn] at h1
    have H1 := Lib.hid h1
    have H2 := Lib.hid h2
    clear h1 h2 hn
    go_enter Tryz.func206, Tryz.ntmps206
    go_wp2_with (first | (go_at_call 110; refine H1.out.mono ?_; rintro e w' ⟨rfl, rfl⟩) | (go_at_call 111; refine H2.out.mono ?_; rintro e w' ⟨rfl, rfl⟩))
    go_ret
    exact ⟨ret_bool e1.out.symm, rfl⟩
  · have e1 : Hid (dec (IsNm s) = false) := dec_false (fun h => hn h.1)
    rw [dec_false hn] at h1
    have H1 := Lib.hid h1
    clear h1 hn
    go_enter Tryz.func206, Tryz.ntmps206
    go_wp2_with (go_at_call 110; refine H1.out.mono ?_; rintro e w' ⟨rfl, rfl⟩)
    go_ret
    exact ⟨ret_bool e1.out.symm, rfl⟩
structure Has where
  op : Bool
  num : Bool
  name : Bool
  least : Nat
  most : Nat
  is : Bool
def hasOf (k : Int) : Has :=
  if k = 1 ∨ k = 14 ∨ k = 15 ∨ k = 19 then ⟨false, true, false, 0, 0, true⟩
  else if k = 2 ∨ k = 3 then ⟨false, false, true, 0, 0, true⟩
  else if k = 4 ∨ k = 5 ∨ k = 11 ∨ k = 13 then ⟨false, false, false, 1, 1, true⟩
  else if k = 6 then ⟨true, false, false, 2, 2, true⟩
  else if k = 7 ∨ k = 8 then ⟨false, false, true, 1, 1, true⟩
  else if k = 16 ∨ k = 17 then ⟨false, true, false, 1, 1, true⟩
  else if k = 9 then ⟨false, false, true, 0, 8, true⟩
  else if k = 18 then ⟨false, true, false, 0, 8, true⟩
  else if k = 10 then ⟨true, false, false, 1, 1, true⟩
  else if k = 12 then ⟨true, false, false, 0, 0, true⟩
  else ⟨false, false, false, 0, 0, false⟩
def HasV (h : Has) : Value := .tuple #[.agg #[.bool h.op, .bool h.num, .bool h.name, .int .i64 h.least, .int .i64 h.most], .bool h.is]
theorem kind_cases (k : Int) : k = 1 ∨ k = 2 ∨ k = 3 ∨ k = 4 ∨ k = 5 ∨ k = 6 ∨ k = 7 ∨ k = 8 ∨ k = 9 ∨ k = 10 ∨ k = 11 ∨ k = 12 ∨ k = 13 ∨ k = 14 ∨ k = 15 ∨ k = 16 ∨ k = 17 ∨ k = 18 ∨ k = 19 ∨ k < 1 ∨ 19 < k := by omega
set_option maxRecDepth 100000 in
set_option maxHeartbeats 4000000 in
theorem exprHas_calls (k : Int) (w : World) : Calls Tryz.prog 194 #[.int .i64 k] w (Gives w (HasV (hasOf k))) := by
  have hz : (k < 1 ∨ 19 < k) → hasOf k = ⟨false, false, false, 0, 0, false⟩ := fun h => by
    unfold hasOf
    repeat (rw [if_neg (by omega)])
  rcases kind_cases k with rfl | rfl | rfl | rfl | rfl | rfl | rfl | rfl | rfl | rfl | rfl | rfl | rfl | rfl | rfl | rfl | rfl | rfl | rfl | h | h
  case inr.inr.inr.inr.inr.inr.inr.inr.inr.inr.inr.inr.inr.inr.inr.inr.inr.inr.inr.inl =>
    rw [hz (Or.inl h)]
    clear hz
    go_enter Tryz.func194, Tryz.ntmps194
    go_wp2
    exact bodyPost_ret (v := HasV ⟨false, false, false, 0, 0, false⟩) (by simp [results, Tryz.results194, go_sem, HasV]) rfl ⟨rfl, (Below.refl _ _).alloc (Nat.le_refl _) _⟩
  case inr.inr.inr.inr.inr.inr.inr.inr.inr.inr.inr.inr.inr.inr.inr.inr.inr.inr.inr.inr =>
    rw [hz (Or.inr h)]
    clear hz
    go_enter Tryz.func194, Tryz.ntmps194
    go_wp2
    exact bodyPost_ret (v := HasV ⟨false, false, false, 0, 0, false⟩) (by simp [results, Tryz.results194, go_sem, HasV]) rfl ⟨rfl, (Below.refl _ _).alloc (Nat.le_refl _) _⟩
  all_goals
    clear hz
    go_enter Tryz.func194, Tryz.ntmps194
    go_wp2
    exact bodyPost_ret (v := HasV (hasOf _)) (by simp [results, Tryz.results194, go_sem, HasV, hasOf]) rfl ⟨rfl, (Below.refl _ _).alloc (Nat.le_refl _) _⟩
end Go.Proofs.YtmabeegoapcfpaaGreatDoor
/- The walk of tree.stmtHas, and of the function that RightBlock asks names by. -/
namespace Go.Proofs.YtmabeegoapcfpaaGreatDoor
open Go.RowKit Go.Sort
structure Parts where
  named : Bool
  body : Bool
  other : Bool
  least : Nat
  most : Nat
  is : Bool
def partsOf (k : Int) : Parts :=
  if k = 1 then ⟨false, false, false, 1, 8, true⟩
  else if k = 2 ∨ k = 3 ∨ k = 5 ∨ k = 6 ∨ k = 17 ∨ k = 23 then ⟨true, false, false, 1, 1, true⟩
  else if k = 4 then ⟨true, false, false, 2, 2, true⟩
  else if k = 7 then ⟨false, false, false, 2, 2, true⟩
  else if k = 8 ∨ k = 12 ∨ k = 16 ∨ k = 20 ∨ k = 22 ∨ k = 19 then ⟨false, false, false, 1, 1, true⟩
  else if k = 9 then ⟨false, true, true, 1, 1, true⟩
  else if k = 10 then ⟨false, true, false, 1, 1, true⟩
  else if k = 11 then ⟨true, true, false, 1, 1, true⟩
  else if k = 18 then ⟨true, false, false, 0, 0, true⟩
  else if k = 13 ∨ k = 14 ∨ k = 15 ∨ k = 21 then ⟨false, false, false, 0, 0, true⟩
  else ⟨false, false, false, 0, 0, false⟩
def PartsV (h : Parts) : Value := .tuple #[.agg #[.bool h.named, .bool h.body, .bool h.other, .int .i64 h.least, .int .i64 h.most], .bool h.is]
theorem skind_cases (k : Int) : k = 1 ∨ k = 2 ∨ k = 3 ∨ k = 4 ∨ k = 5 ∨ k = 6 ∨ k = 7 ∨ k = 8 ∨ k = 9 ∨ k = 10 ∨ k = 11 ∨ k = 12 ∨ k = 13 ∨ k = 14 ∨ k = 15 ∨ k = 16 ∨ k = 17 ∨ k = 18 ∨ k = 19 ∨ k = 20 ∨ k = 21 ∨ k = 22 ∨ k = 23 ∨ k < 1 ∨ 23 < k := by omega
set_option maxRecDepth 100000 in
set_option maxHeartbeats 4000000 in
theorem stmtHas_calls (k : Int) (w : World) : Calls Tryz.prog 197 #[.int .i64 k] w (Gives w (PartsV (partsOf k))) := by
  have hz : (k < 1 ∨ 23 < k) → partsOf k = ⟨false, false, false, 0, 0, false⟩ := fun h => by
    unfold partsOf
    repeat (rw [if_neg (by omega)])
  rcases skind_cases k with rfl | rfl | rfl | rfl | rfl | rfl | rfl | rfl | rfl | rfl | rfl | rfl | rfl | rfl | rfl | rfl | rfl | rfl | rfl | rfl | rfl | rfl | rfl | h | h
  case inr.inr.inr.inr.inr.inr.inr.inr.inr.inr.inr.inr.inr.inr.inr.inr.inr.inr.inr.inr.inr.inr.inr.inl =>
    rw [hz (Or.inl h)]
    clear hz
    go_enter Tryz.func197, Tryz.ntmps197
    go_wp2
    exact bodyPost_ret (v := PartsV ⟨false, false, false, 0, 0, false⟩) (by simp [results, Tryz.results197, go_sem, PartsV]) rfl ⟨rfl, (Below.refl _ _).alloc (Nat.le_refl _) _⟩
  case inr.inr.inr.inr.inr.inr.inr.inr.inr.inr.inr.inr.inr.inr.inr.inr.inr.inr.inr.inr.inr.inr.inr.inr =>
    rw [hz (Or.inr h)]
    clear hz
    go_enter Tryz.func197, Tryz.ntmps197
    go_wp2
    exact bodyPost_ret (v := PartsV ⟨false, false, false, 0, 0, false⟩) (by simp [results, Tryz.results197, go_sem, PartsV]) rfl ⟨rfl, (Below.refl _ _).alloc (Nat.le_refl _) _⟩
  all_goals
    clear hz
    go_enter Tryz.func197, Tryz.ntmps197
    go_wp2
    exact bodyPost_ret (v := PartsV (partsOf _)) (by simp [results, Tryz.results197, go_sem, PartsV, partsOf]) rfl ⟨rfl, (Below.refl _ _).alloc (Nat.le_refl _) _⟩
def NameOk (named : Bool) (k n : Int) (s : ByteArray) : Prop := if named = true then k ≠ 23 ∧ n = 0 ∧ IsNm s else s = ByteArray.empty ∧ n = 0
set_option maxRecDepth 100000 in
set_option maxHeartbeats 1000000 in
theorem nameOk_calls (k n : Int) (s : ByteArray) (v1 v2 v3 : Option Addr × Nat × Nat) (named : Bool) (w : World) (hs : s.size ≤ maxLen) (hm : MX w) :
    Calls Tryz.prog 86 #[.agg #[.int .i64 k, .int .i64 n, .string s, .slice v1.1 v1.2.1 v1.2.2, .slice v2.1 v2.2.1 v2.2.2, .slice v3.1 v3.2.1 v3.2.2], .bool named] w (Gives w (.bool (dec (NameOk named k n s)))) := by
  obtain ⟨a1, b1, c1⟩ := v1
  obtain ⟨a2, b2, c2⟩ := v2
  obtain ⟨a3, b3, c3⟩ := v3
  simp only
  cases named
  · by_cases hz : s = ByteArray.empty
    · subst hz
      have e : Hid (dec (NameOk false k n ByteArray.empty) = (n == 0)) := by
        show dec _ = _
        by_cases h : n = 0
        · subst h; exact dec_true (by simp [NameOk])
        · rw [dec_false (by simp [NameOk, h])]; symm; simpa using h
      clear hm
      go_enter Tryz.func86, Tryz.ntmps86
      go_wp2
      go_ret
      exact ⟨ret_bool e.out.symm, (Below.refl _ _).alloc (Nat.le_refl _) _⟩
    · have qs := strne hz
      have qs2 : s.toList.isEmpty = false := by simpa using qs
      have e : Hid (dec (NameOk false k n s) = false) := dec_false (by simp [NameOk, hz])
      clear hz hm
      go_enter Tryz.func86, Tryz.ntmps86
      go_wp2
      go_ret
      exact ⟨by first | exact ret_bool e.out.symm | (rw [e.out]; simp), (Below.refl _ _).alloc (Nat.le_refl _) _⟩
  · by_cases hk : k = 23
    · have q : (k != 23) = false := by simpa using hk
      have e : Hid (dec (NameOk true k n s) = false) := dec_false (by simp [NameOk, hk])
      clear hk hm
      go_enter Tryz.func86, Tryz.ntmps86
      go_wp2
      go_ret
      exact ⟨ret_bool e.out.symm, (Below.refl _ _).alloc (Nat.le_refl _) _⟩
    have q : (k != 23) = true := by simpa using hk
    by_cases hn : n = 0
    rotate_left
    · have q2 : (n == 0) = false := by simpa using hn
      have e : Hid (dec (NameOk true k n s) = false) := dec_false (by simp [NameOk, hn])
      clear hk hn hm
      go_enter Tryz.func86, Tryz.ntmps86
      go_wp2
      go_ret
      exact ⟨ret_bool e.out.symm, (Below.refl _ _).alloc (Nat.le_refl _) _⟩
    subst hn
    have e : Hid (dec (NameOk true k 0 s) = dec (IsNm s)) := dec_congr (by simp [NameOk, hk])
    have HX := Lib.hid (fun o => nameT_calls s (w.alloc o) hs (hm.alloc o))
    clear hk hm
    go_enter Tryz.func86, Tryz.ntmps86
    go_wp2_with (go_at_call 87; refine (HX.out _).mono ?_; rintro e w' ⟨rfl, rfl⟩)
    go_ret
    exact ⟨ret_bool e.out.symm, (Below.refl _ _).alloc (Nat.le_refl _) _⟩
end Go.Proofs.YtmabeegoapcfpaaGreatDoor
