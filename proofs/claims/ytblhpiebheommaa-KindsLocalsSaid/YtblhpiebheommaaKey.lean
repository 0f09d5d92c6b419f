/- The walks of lex.Key, of clewref09.holds and Key, and of the two functions that tell what is a name and no keyword. -/
import Derived.Test.YtblhpiebheommaaLetterR
import Derived.Test.YtblhpiebheommaaSame
import Derived.Test.YtblhpiebheommaaKeyLaw
import Derived.Test.YtblhpiebheommaaShelf
import Derived.Lib.IndexAny
namespace Go.Proofs.Ytblhpiebheommaa
open Go.RowKit Go.Sort

/-- internal/bytealg.MaxLen holds a number. -/
def MX (w : World) : Prop := ∃ m, w.cell? ⟨0, 0, none⟩ = some (.int .i64 m)
theorem MX.below {B : Nat} {w w' : World} (h : MX w) (hb : Below B w w') (hB : w.heap.size ≤ B) : MX w' := by
  obtain ⟨m, hm⟩ := h
  refine ⟨m, ?_⟩
  rw [hb.cell (Nat.lt_of_lt_of_le (World.block_lt_of_cell? _ _ hm) hB)]
  exact hm
theorem MX.alloc {w : World} (h : MX w) (o : Obj) : MX (w.alloc o) := h.below ((Below.refl w.heap.size w).alloc (Nat.le_refl _) o) (Nat.le_refl _)

theorem no32 {s : ByteArray} (h : IsName s) : (32 : UInt8) ∉ s.data.toList := by
  obtain ⟨_, _, _, h⟩ := h
  intro hm
  obtain ⟨i, hi, he⟩ := List.mem_iff_getElem.1 hm
  have hi2 : i < s.size := by simpa using hi
  have := h i hi2
  have e : s[i] = 32 := by show s.data[i] = 32; simpa using he
  rw [e] at this
  unfold NameCh Small Digit at this
  revert this
  decide

theorem indexByte_no {s : List UInt8} (h : (32 : UInt8) ∉ s) : decide (0 ≤ Lib.indexByte s 32) = false := by
  have := Lib.contains_iff_indexByte s 32
  rw [← this]
  simpa using h

set_option maxRecDepth 100000 in
set_option maxHeartbeats 1000000 in
theorem keyT_calls (s : ByteArray) (w : World) (hn : IsName s) (hm : MX w) : Calls Try.prog 87 #[.string s] w (Same0 w (.bool (dec (IsKey s)))) := by
  obtain ⟨m, hm⟩ := hm
  have h1 := Try.strings_Contains_one s 32 w
  rw [indexByte_no (no32 hn)] at h1
  have hne : s.toList.isEmpty = false := by
    obtain ⟨h0, _⟩ := hn
    rw [ByteArray.toList_eq]
    cases hl : s.data.toList with
    | nil => rw [← ByteArray.size_data, ← Array.length_toList, hl] at h0; simp at h0
    | cons a l => rfl
  have hk := isKey_iff s (no32 hn)
  have h24 := hn.2.1
  have H1 := Lib.hid h1
  have HK := Lib.hid hk
  clear h1 hk hn
  go_enter Try.func87, Try.ntmps87
  go_wp2_with (go_at_call 96; (first | ((with_reducible refine (H1.out).mono ?_); rintro e w' ⟨rfl, rfl⟩) | ((refine (Try.strings_Contains _ _ m _ (by decide) hm).mono ?_); rintro e w' ⟨rfl, rfl⟩)))
  go_ret
  refine ⟨ret_bool ?_, rfl⟩
  have e1 : dec (IsKey s) = Lib.contains kwRow (32 :: (s.data.toList ++ [32])) := by
    cases hc : Lib.contains kwRow (32 :: (s.data.toList ++ [32])) with
    | true => exact dec_true (HK.out.2 hc)
    | false => exact dec_false (fun h => by have := HK.out.1 h; rw [hc] at this; cases this)
  rw [e1]
  congr 1

set_option maxRecDepth 100000 in
set_option maxHeartbeats 1000000 in
theorem holds_calls (row s : ByteArray) (w : World) (h0 : 0 < row.size) (h1 : row.size ≤ 1000) (hs : s.size ≤ maxLen) : Calls Try.prog 50 #[.string row, .string s] w
    fun e w' => e = .returned (.tuple #[.int .i64 (scan s.data.toList row.data.toList.tail [] 0).1, .bool (scan s.data.toList row.data.toList.tail [] 0).2]) ∧ w = w' := by
  unfold maxLen at hs
  generalize hT : scan s.data.toList row.data.toList.tail [] 0 = T
  go_enter Try.func50, Try.ntmps50
  go_wp2
  go_loop [6, 7, 8] (fun n o i => ∃ (k m : Nat) (one : ByteArray), 1 ≤ k ∧ k ≤ row.size ∧ m ≤ k ∧ one.size ≤ k ∧ n = .int .i64 m ∧ o = .string one ∧ i = .int .i64 k ∧ Hid (scan s.data.toList (row.data.toList.drop k) one.data.toList m = T)) (fun _ _ i => row.size - (intOf i).toNat)
  case atStart => exact ⟨1, 0, ByteArray.empty, by omega, by omega, by omega, by simp, rfl, rfl, rfl, by rw [← hT, List.drop_one]; exact rfl⟩
  case round =>
    obtain ⟨k, m, one, hk0, hk1, hm, ho, rfl, rfl, rfl, hq⟩ := hrel
    clear hT
    by_cases hlt : k < row.size
    · have hdr : row.data.toList.drop k = row[k] :: row.data.toList.drop (k + 1) := by
        rw [List.drop_eq_getElem_cons (by simpa using hlt)]; rfl
      have hsc := hq.out
      rw [hdr] at hsc
      simp only [scan] at hsc
      clear hq
      by_cases h32 : row[k] = 32
      · rw [if_pos h32] at hsc
        have hb : (((row[k]).toNat : Int) != 32) = false := by rw [h32]; rfl
        by_cases heq : one = s
        · rw [if_pos (by rw [heq])] at hsc
          have hfin : Hid ((m, true) = T) := hsc
          have hse : (one.toList == s.toList) = true := by rw [heq]; exact beq_self_eq_true _
          clear hsc heq h32 hdr
          obtain rfl := hfin
          go_wp2
          go_ret2
          exact ⟨rfl, rfl⟩
        · have hse := strne heq
          rw [if_neg (fun h => heq (by obtain ⟨⟨x⟩⟩ := one; obtain ⟨⟨y⟩⟩ := s; simp at h; rw [h]))] at hsc
          have HQ := Lib.hid hsc
          clear hsc heq h32 hdr
          go_wp2
          go_round
          case rel => exact ⟨k + 1, m + 1, ByteArray.empty, by omega, by omega, by omega, by simp, by go_num, rfl, by go_num, HQ.out⟩
          case measure => simp [intOf]; omega
      · rw [if_neg h32] at hsc
        have hb : (((row[k]).toNat : Int) != 32) = true := by
          simp
          intro h
          exact h32 (UInt8.toNat_inj.1 (by simpa using (by omega : (row[k]).toNat = 32)))
        have HQ := Lib.hid hsc
        clear hsc h32 hdr
        go_wp2
        go_round
        case rel => exact ⟨k + 1, m, one ++ row.extract k (k + 1), by omega, by omega, by omega, by simp; omega, rfl, by first | rfl | (congr 1), by go_num, by
          rw [show (one ++ row.extract k (k + 1)).data.toList = one.data.toList ++ [row[k]] from by
            rw [ByteArray.data_append, Array.toList_append, ByteArray.data_extract]
            congr 1
            rw [Array.toList_extract]
            simp [List.extract, List.take_one, List.head?_drop, List.getElem?_eq_getElem hlt]
            rfl]
          exact HQ.out⟩
        case measure => simp [intOf]; omega
    · have hfin : Hid ((0, false) = T) := by
        have := hq.out
        rw [List.drop_eq_nil_of_le (by simp; omega)] at this
        exact this
      obtain rfl := hfin
      clear hq
      go_wp2
      go_ret2
      exact ⟨rfl, rfl⟩

set_option maxRecDepth 100000 in
set_option maxHeartbeats 1000000 in
theorem keyR_calls (s : ByteArray) (w : World) (hs : s.size ≤ maxLen) : Calls Try.prog 26 #[.string s] w (Same0 w (.bool (dec (IsKey s)))) := by
  have h1 := holds_calls ⟨keysRow.toArray⟩ s w (by decide +kernel) (by decide +kernel) hs
  have h2 := holds_calls ⟨dirsRow.toArray⟩ s w (by decide +kernel) (by decide +kernel) hs
  have hk : dec (IsKey s) = ((scan s.data.toList keysRow.tail [] 0).2 || (scan s.data.toList dirsRow.tail [] 0).2) := by
    rw [Bool.eq_iff_iff, dec_iff, Bool.or_eq_true, scan_iff, scan_iff]
    exact Iff.rfl
  have e1 : (⟨keysRow.toArray⟩ : ByteArray).data.toList.tail = keysRow.tail := rfl
  have e2 : (⟨dirsRow.toArray⟩ : ByteArray).data.toList.tail = dirsRow.tail := rfl
  rw [e1] at h1
  rw [e2] at h2
  clear e1 e2
  generalize hA : scan s.data.toList keysRow.tail [] 0 = A at *
  generalize hB : scan s.data.toList dirsRow.tail [] 0 = B at *
  obtain ⟨A1, A2⟩ := A
  obtain ⟨B1, B2⟩ := B
  unfold keysRow at h1
  unfold dirsRow at h2
  have HK := Lib.hid hk
  have H1 := Lib.hid h1
  have H2 := Lib.hid h2
  clear hA hB hk h1 h2
  cases A2
  all_goals
    go_enter Try.func26, Try.ntmps26
    go_wp2_with (go_at_call 50; (first | ((with_reducible refine (H1.out).mono ?_); rintro e w' ⟨rfl, rfl⟩) | ((with_reducible refine (H2.out).mono ?_); rintro e w' ⟨rfl, rfl⟩)))
    go_ret
    exact ⟨ret_bool HK.out.symm, rfl⟩

end Go.Proofs.Ytblhpiebheommaa
