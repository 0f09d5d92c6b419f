/- The walks of lex.Key, of clewref09.holds and Key, and of the two functions that tell what is a name and no keyword. -/
import Derived.Test.YtdeecfkipknkbaaGreatDoorPart5e38a312
import Derived.Test.YtdeecfkipknkbaaGreatDoorKeyLaw
import Derived.Test.YtdeecfkipknkbaaGreatDoorPart752bc6ff
import Derived.Lib.IndexAny
namespace Go.Proofs.YtdeecfkipknkbaaGreatDoor
set_option maxRecDepth 100000
set_option maxHeartbeats 1000000
open Go.RowKit Go.Sort
def MX (w : World) : Prop := ∃ m, w.cell? ⟨3, 0, none⟩ = some (.int .i64 m)
theorem MX.below {B : Nat} {w w' : World} (h : MX w) (hb : Below B w w') (hB : w.heap.size ≤ B) : MX w' := by
 obtain ⟨m, hm⟩ := h
 refine ⟨m, ?_⟩
 rw [hb.cell (Nat.lt_of_lt_of_le (World.block_lt_of_cell? _ _ hm) hB)]
 exact hm
theorem MX.alloc {w : World} (h : MX w) (o : Obj) : MX (w.alloc o) := h.below ((Below.refl w.heap.size w).alloc (Nat.le_refl _) o) (Nat.le_refl _)
theorem no32 {s : ByteArray} (h : IsName s) : (32 : UInt8) ∉ s.data.toList := by
 obtain ⟨_, _, _, h⟩ := h
 intro hm
 obtain ⟨i, hi, he⟩ := List.mem_iff_getElem.1 hm
 have hi2 : i < s.size := by simpa using hi
 have := h i hi2
 have e : s[i] = 32 := by show s.data[i] = 32; simpa using he
 rw [e] at this
 unfold NameCh Small Digit at this
 revert this
 decide
theorem indexByte_no {s : List UInt8} (h : (32 : UInt8) ∉ s) : decide (0 ≤ Lib.indexByte s 32) = false := by
 have := Lib.contains_iff_indexByte s 32
 rw [← this]
 simpa using h
theorem keyT_calls (s : ByteArray) (w : World) (hn : IsName s) (hm : MX w) : Calls Tryz.prog 162 #[.string s] w (Same0 w (.bool (dec (IsKey s)))) := by
 obtain ⟨m, hm⟩ := hm
 have h1 := Tryz.strings_Contains_one s 32 w
 rw [indexByte_no (no32 hn)] at h1
 have hne : s.toList.isEmpty = false := by
  obtain ⟨h0, _⟩ := hn
  rw [ByteArray.toList_eq]
  cases hl : s.data.toList with
  | nil => rw [← ByteArray.size_data, ← Array.length_toList, hl] at h0; simp at h0
  | cons a l => rfl
 have hk := isKey_iff s (no32 hn)
 have h24 := hn.2.1
 have H1 := Lib.hid h1
 have HK := Lib.hid hk
 clear h1 hk hn
 go_enter Tryz.func162, Tryz.ntmps162
 go_wp2_with (go_at_call 241; (first | ((with_reducible refine (H1.out).mono ?_); rintro e w' ⟨rfl, rfl⟩) | ((refine (Tryz.strings_Contains _ _ m _ (by decide) hm).mono ?_); rintro e w' ⟨rfl, rfl⟩)))
 go_ret
 refine ⟨ret_bool ?_, rfl⟩
 have e1 : dec (IsKey s) = Lib.contains kwRow (32 :: (s.data.toList ++ [32])) := by
  cases hc : Lib.contains kwRow (32 :: (s.data.toList ++ [32])) with
  | true => exact dec_true (HK.out.2 hc)
  | false => exact dec_false (fun h => by have := HK.out.1 h; rw [hc] at this; cases this)
 rw [e1]
 congr 1
theorem holds_calls (row s : ByteArray) (w : World) (h0 : 0 < row.size) (h1 : row.size ≤ 1000) (hs : s.size ≤ maxLen) : Calls Tryz.prog 158 #[.string row, .string s] w
 fun e w' => e = .returned (.tuple #[.int .i64 (scan s.data.toList row.data.toList.tail [] 0).1, .bool (scan s.data.toList row.data.toList.tail [] 0).2]) ∧ w = w' := by
 unfold maxLen at hs
 generalize hT : scan s.data.toList row.data.toList.tail [] 0 = T
 go_enter Tryz.func158, Tryz.ntmps158
 go_wp2
 go_loop [6, 7, 8] (fun n o i => ∃ (k m : Nat) (one : ByteArray), 1 ≤ k ∧ k ≤ row.size ∧ m ≤ k ∧ one.size ≤ k ∧ n = .int .i64 m ∧ o = .string one ∧ i = .int .i64 k ∧ Hid (scan s.data.toList (row.data.toList.drop k) one.data.toList m = T)) (fun _ _ i => row.size - (intOf i).toNat)
 case atStart => exact ⟨1, 0, ByteArray.empty, by omega, by omega, by omega, by simp, rfl, rfl, rfl, by rw [← hT, List.drop_one]; exact rfl⟩
 case round =>
  obtain ⟨k, m, one, hk0, hk1, hm, ho, rfl, rfl, rfl, hq⟩ := hrel
  clear hT
  by_cases hlt : k < row.size
  · have hdr : row.data.toList.drop k = row[k] :: row.data.toList.drop (k + 1) := by
     rw [List.drop_eq_getElem_cons (by simpa using hlt)]; rfl
    have hsc := hq.out
    rw [hdr] at hsc
    simp only [scan] at hsc
    clear hq
    by_cases h32 : row[k] = 32
    · rw [if_pos h32] at hsc
      have hb : (((row[k]).toNat : Int) != 32) = false := by rw [h32]; rfl
      by_cases heq : one = s
      · rw [if_pos (by rw [heq])] at hsc
        have hfin : Hid ((m, true) = T) := hsc
        have hse : (one.toList == s.toList) = true := by rw [heq]; exact beq_self_eq_true _
        clear hsc heq h32 hdr
        obtain rfl := hfin
        go_wp2
        go_ret2
        exact ⟨rfl, rfl⟩
      have hse := strne heq
      rw [if_neg (fun h => heq (by obtain ⟨⟨x⟩⟩ := one; obtain ⟨⟨y⟩⟩ := s; simp at h; rw [h]))] at hsc
      have HQ := Lib.hid hsc
      clear hsc heq h32 hdr
      go_wp2
      go_round
      case rel => exact ⟨k + 1, m + 1, ByteArray.empty, by omega, by omega, by omega, by simp, by go_num, rfl, by go_num, HQ.out⟩
      case measure => simp [intOf]; omega
    rw [if_neg h32] at hsc
    have hb : (((row[k]).toNat : Int) != 32) = true := by
     simp
     intro h
     exact h32 (UInt8.toNat_inj.1 (by simpa using (by omega : (row[k]).toNat = 32)))
    have HQ := Lib.hid hsc
    clear hsc h32 hdr
    go_wp2
    go_round
    case rel => exact ⟨k + 1, m, one ++ row.extract k (k + 1), by omega, by omega, by omega, by simp; omega, rfl, by first | rfl | (congr 1), by go_num, by
     rw [show (one ++ row.extract k (k + 1)).data.toList = one.data.toList ++ [row[k]] from by
      rw [ByteArray.data_append, Array.toList_append, ByteArray.data_extract]
      congr 1
      rw [Array.toList_extract]
      simp [List.extract, List.take_one, List.head?_drop, List.getElem?_eq_getElem hlt]
      rfl]
     exact HQ.out⟩
    case measure => simp [intOf]; omega
  have hfin : Hid ((0, false) = T) := by
   have := hq.out
   rw [List.drop_eq_nil_of_le (by simp; omega)] at this
   exact this
  obtain rfl := hfin
  clear hq
  go_wp2
  go_ret2
  exact ⟨rfl, rfl⟩
theorem keyR_calls (s : ByteArray) (w : World) (hs : s.size ≤ maxLen) : Calls Tryz.prog 76 #[.string s] w (Same0 w (.bool (dec (IsKey s)))) := by
 have h1 := holds_calls ⟨keysRow.toArray⟩ s w (by decide +kernel) (by decide +kernel) hs
 have h2 := holds_calls ⟨dirsRow.toArray⟩ s w (by decide +kernel) (by decide +kernel) hs
 have hk : dec (IsKey s) = ((scan s.data.toList keysRow.tail [] 0).2 || (scan s.data.toList dirsRow.tail [] 0).2) := by
  rw [Bool.eq_iff_iff, dec_iff, Bool.or_eq_true, scan_iff, scan_iff]
  exact Iff.rfl
 have e1 : (⟨keysRow.toArray⟩ : ByteArray).data.toList.tail = keysRow.tail := rfl
 have e2 : (⟨dirsRow.toArray⟩ : ByteArray).data.toList.tail = dirsRow.tail := rfl
 rw [e1] at h1
 rw [e2] at h2
 clear e1 e2
 generalize hA : scan s.data.toList keysRow.tail [] 0 = A at *
 generalize hB : scan s.data.toList dirsRow.tail [] 0 = B at *
 obtain ⟨A1, A2⟩ := A
 obtain ⟨B1, B2⟩ := B
 unfold keysRow at h1
 unfold dirsRow at h2
 have HK := Lib.hid hk
 have H1 := Lib.hid h1
 have H2 := Lib.hid h2
 clear hA hB hk h1 h2
 cases A2
 all_goals
  go_enter Tryz.func76, Tryz.ntmps76
  go_wp2_with (go_at_call 158; (first | ((with_reducible refine (H1.out).mono ?_); rintro e w' ⟨rfl, rfl⟩) | ((with_reducible refine (H2.out).mono ?_); rintro e w' ⟨rfl, rfl⟩)))
  go_ret
  exact ⟨ret_bool HK.out.symm, rfl⟩
end Go.Proofs.YtdeecfkipknkbaaGreatDoor
/- The walks of tree.name, clewref10.name and tree.exprHas. -/
namespace Go.Proofs.YtdeecfkipknkbaaGreatDoor
set_option maxHeartbeats 400000
open Go.RowKit Go.Sort
def IsNm (s : ByteArray) : Prop := IsName s ∧ ¬ IsKey s
theorem nameR_calls (s : ByteArray) (w : World) (hs : s.size ≤ maxLen) : Calls Tryz.prog 208 #[.string s] w (Same0 w (.bool (dec (IsNm s)))) := by
 have h1 := isNameR_calls s w hs
 by_cases hn : IsName s
 · have h2 := keyR_calls s w hs
   have e1 : Hid (dec (IsNm s) = !dec (IsKey s)) := by
    show dec (IsNm s) = _
    by_cases hk : IsKey s
    · rw [dec_true hk, dec_false (fun h => h.2 hk)]; rfl
    rw [dec_false hk, dec_true ⟨hn, hk⟩]; rfl
   rw [dec_true hn] at h1
   have H1 := Lib.hid h1
   have H2 := Lib.hid h2
   clear h1 h2 hn
   go_enter Tryz.func208, Tryz.ntmps208
   go_wp2_with (first | (go_at_call 75; refine H1.out.mono ?_; rintro e w' ⟨rfl, rfl⟩) | (go_at_call 76; refine H2.out.mono ?_; rintro e w' ⟨rfl, rfl⟩))
   go_ret
   exact ⟨ret_bool e1.out.symm, rfl⟩
 have e1 : Hid (dec (IsNm s) = false) := dec_false (fun h => hn h.1)
 rw [dec_false hn] at h1
 have H1 := Lib.hid h1
 clear h1 hn
 go_enter Tryz.func208, Tryz.ntmps208
 go_wp2_with (go_at_call 75; refine H1.out.mono ?_; rintro e w' ⟨rfl, rfl⟩)
 go_ret
 exact ⟨ret_bool e1.out.symm, rfl⟩
structure Has where
 op : Bool
 num : Bool
 name : Bool
 least : Nat
 most : Nat
 is : Bool
def hasOf (k : Int) : Has :=
 if k = 1 ∨ k = 14 ∨ k = 15 ∨ k = 19 then ⟨false, true, false, 0, 0, true⟩
 else if k = 2 ∨ k = 3 then ⟨false, false, true, 0, 0, true⟩
 else if k = 4 ∨ k = 5 ∨ k = 11 ∨ k = 13 then ⟨false, false, false, 1, 1, true⟩
 else if k = 6 then ⟨true, false, false, 2, 2, true⟩
 else if k = 7 ∨ k = 8 then ⟨false, false, true, 1, 1, true⟩
 else if k = 16 ∨ k = 17 then ⟨false, true, false, 1, 1, true⟩
 else if k = 9 then ⟨false, false, true, 0, 8, true⟩
 else if k = 18 then ⟨false, true, false, 0, 8, true⟩
 else if k = 10 then ⟨true, false, false, 1, 1, true⟩
 else if k = 12 then ⟨true, false, false, 0, 0, true⟩
 else ⟨false, false, false, 0, 0, false⟩
end Go.Proofs.YtdeecfkipknkbaaGreatDoor
/- The walk of tree.stmtHas, and of the function that RightBlock asks names by. -/
namespace Go.Proofs.YtdeecfkipknkbaaGreatDoor
open Go.RowKit Go.Sort
structure Parts where
 named : Bool
 body : Bool
 other : Bool
 least : Nat
 most : Nat
 is : Bool
def partsOf (k : Int) : Parts :=
 if k = 1 then ⟨false, false, false, 1, 8, true⟩
 else if k = 2 ∨ k = 3 ∨ k = 5 ∨ k = 6 ∨ k = 17 ∨ k = 23 then ⟨true, false, false, 1, 1, true⟩
 else if k = 4 then ⟨true, false, false, 2, 2, true⟩
 else if k = 7 then ⟨false, false, false, 2, 2, true⟩
 else if k = 8 ∨ k = 12 ∨ k = 16 ∨ k = 20 ∨ k = 22 ∨ k = 19 then ⟨false, false, false, 1, 1, true⟩
 else if k = 9 then ⟨false, true, true, 1, 1, true⟩
 else if k = 10 then ⟨false, true, false, 1, 1, true⟩
 else if k = 11 then ⟨true, true, false, 1, 1, true⟩
 else if k = 18 then ⟨true, false, false, 0, 0, true⟩
 else if k = 13 ∨ k = 14 ∨ k = 15 ∨ k = 21 then ⟨false, false, false, 0, 0, true⟩
 else ⟨false, false, false, 0, 0, false⟩
theorem skind_cases (k : Int) : k = 1 ∨ k = 2 ∨ k = 3 ∨ k = 4 ∨ k = 5 ∨ k = 6 ∨ k = 7 ∨ k = 8 ∨ k = 9 ∨ k = 10 ∨ k = 11 ∨ k = 12 ∨ k = 13 ∨ k = 14 ∨ k = 15 ∨ k = 16 ∨ k = 17 ∨ k = 18 ∨ k = 19 ∨ k = 20 ∨ k = 21 ∨ k = 22 ∨ k = 23 ∨ k < 1 ∨ 23 < k := by omega
def NameOk (named : Bool) (k n : Int) (s : ByteArray) : Prop := if named = true then k ≠ 23 ∧ n = 0 ∧ IsNm s else s = ByteArray.empty ∧ n = 0
end Go.Proofs.YtdeecfkipknkbaaGreatDoor
/- The walks of tree.op, tree.said and tree.shaped. -/
namespace Go.Proofs.YtdeecfkipknkbaaGreatDoor
open Go.RowKit Go.Sort
def OpOk (k o : Int) : Prop := (k = 6 → 1 ≤ o ∧ o ≤ 14) ∧ (k = 10 → 1 ≤ o ∧ o ≤ 3) ∧ (k = 12 → 1 ≤ o ∧ o ≤ 6)
def SaidK (k : Int) : Prop := k = 2 ∨ k = 13 ∨ k = 19
def Shaped (k o n : Int) (s : ByteArray) (m : Nat) : Prop :=
 (hasOf k).is = true ∧ ((hasOf k).op = true ∨ o = 0) ∧ ((hasOf k).num = true ∨ n = 0) ∧ ((hasOf k).name = true ∨ s = ByteArray.empty) ∧ (hasOf k).least ≤ m ∧ m ≤ (hasOf k).most ∧ OpOk k o
end Go.Proofs.YtdeecfkipknkbaaGreatDoor
/- The walk of tree.each: whether all of a list are so, whatever function is asked. -/
namespace Go.Proofs.YtdeecfkipknkbaaGreatDoor
open Go.RowKit Go.Sort
end Go.Proofs.YtdeecfkipknkbaaGreatDoor
/- The walks of tree.source, its closure, and tree.Right. -/
namespace Go.Proofs.YtdeecfkipknkbaaGreatDoor
open Go.RowKit Go.Sort
mutual
def Src : Ex → Prop
 | .mk k o n s args => (1 ≤ k ∧ k ≤ 13) ∧ Shaped k o n s args.length ∧ (k = 1 → 0 ≤ n ∧ n ≤ 32767) ∧ (k = 2 → IsText s) ∧ (k = 3 ∨ k = 7 ∨ k = 8 ∨ k = 9 → IsNm s) ∧ Srcs args
def Srcs : List Ex → Prop
 | [] => True
 | a :: l => (¬ SaidK a.kind ∧ Src a) ∧ Srcs l
end
theorem srcs_iff (l : List Ex) : Srcs l ↔ ∀ a ∈ l, ¬ SaidK a.kind ∧ Src a := by
 induction l with
 | nil => simp [Srcs]
 | cons a l ih => simp [Srcs, ih]
def RightE (e : Ex) : Prop := e.depth ≤ 32 ∧ Src e
end Go.Proofs.YtdeecfkipknkbaaGreatDoor
/- The walks of clewref10.bare and clewref10.among. -/
namespace Go.Proofs.YtdeecfkipknkbaaGreatDoor
set_option maxRecDepth 100000
set_option maxHeartbeats 4000000
open Go.RowKit Go.Sort
theorem among_calls (n lo hi : Int) (w : World) : Calls Tryz.prog 271 #[.int .i64 n, .int .i64 lo, .int .i64 hi] w (Same0 w (.bool (dec (lo ≤ n ∧ n ≤ hi)))) := by
 by_cases h : lo ≤ n
 · have e : Hid (dec (lo ≤ n ∧ n ≤ hi) = decide (n ≤ hi)) := by
    show dec _ = _
    by_cases h2 : n ≤ hi
    · rw [dec_true ⟨h, h2⟩]; symm; simpa using h2
    rw [dec_false (fun h3 => h2 h3.2)]; symm; simpa using h2
   go_enter Tryz.func271, Tryz.ntmps271
   go_wp2
   go_ret
   exact ⟨ret_bool e.out.symm, rfl⟩
 have e : Hid (dec (lo ≤ n ∧ n ≤ hi) = false) := dec_false (fun h3 => h h3.1)
 go_enter Tryz.func271, Tryz.ntmps271
 go_wp2
 go_ret
 exact ⟨ret_bool e.out.symm, rfl⟩
def Bare (o n : Int) (s : ByteArray) (m : Nat) (args : Int) (op num named : Bool) : Prop := (m : Int) = args ∧ (op = true ∨ o = 0) ∧ (num = true ∨ n = 0) ∧ (named = true ∨ s = ByteArray.empty)
theorem bare_calls (k o n : Int) (s : ByteArray) (a : Option Addr) (m cap : Nat) (args : Int) (op num named : Bool) (w : World) :
 Calls Tryz.prog 272 #[.agg #[.int .i64 k, .int .i64 o, .int .i64 n, .string s, .slice a m cap], .int .i64 args, .bool op, .bool num, .bool named] w (Gives w (.bool (dec (Bare o n s m args op num named)))) := by
 have hR : Hid (dec (Bare o n s m args op num named) = dec ((m : Int) = args ∧ (op = true ∨ o = 0) ∧ (num = true ∨ n = 0) ∧ (named = true ∨ s = ByteArray.empty))) := rfl
 generalize dec (Bare o n s m args op num named) = R at *
 by_cases hm : (m : Int) = args
 rotate_left
 · have q : ((m : Int) == args) = false := by simpa using hm
   obtain rfl : R = false := by rw [hR.out]; exact dec_false (fun h => hm h.1)
   clear hR hm
   go_enter Tryz.func272, Tryz.ntmps272
   go_wp2
   go_ret
   exact ⟨rfl, (Below.refl _ _).alloc (Nat.le_refl _) _⟩
 subst hm
 by_cases ho : op = true ∨ o = 0
 rotate_left
 · have q : op = false := by cases op <;> simp at ho ⊢
   have q2 : (o == 0) = false := by cases op <;> simp at ho ⊢; exact ho
   subst q
   obtain rfl : R = false := by rw [hR.out]; exact dec_false (fun h => ho h.2.1)
   clear hR ho
   go_enter Tryz.func272, Tryz.ntmps272
   go_wp2
   go_ret
   exact ⟨rfl, (Below.refl _ _).alloc (Nat.le_refl _) _⟩
 by_cases hn : num = true ∨ n = 0
 rotate_left
 · have q : num = false := by cases num <;> simp at hn ⊢
   have q2 : (n == 0) = false := by cases num <;> simp at hn ⊢; exact hn
   subst q
   obtain rfl : R = false := by rw [hR.out]; exact dec_false (fun h => hn h.2.2.1)
   clear hR hn
   cases op
   · obtain rfl : o = 0 := by simpa using ho
     clear ho
     go_enter Tryz.func272, Tryz.ntmps272
     go_wp2
     go_ret
     exact ⟨rfl, (Below.refl _ _).alloc (Nat.le_refl _) _⟩
   clear ho
   go_enter Tryz.func272, Tryz.ntmps272
   go_wp2
   go_ret
   exact ⟨rfl, (Below.refl _ _).alloc (Nat.le_refl _) _⟩
 have hS : Hid (R = dec (named = true ∨ s = ByteArray.empty)) := by show R = _; rw [hR.out]; exact dec_congr (by simp [ho, hn])
 clear hR
 by_cases hs : named = true ∨ s = ByteArray.empty
 · obtain rfl : R = true := by rw [hS.out]; exact dec_true hs
   clear hS
   cases op
   · obtain rfl : o = 0 := by simpa using ho
     cases num
     · obtain rfl : n = 0 := by simpa using hn
       cases named
       · obtain rfl : s = ByteArray.empty := by simpa using hs
         clear ho hn hs
         go_enter Tryz.func272, Tryz.ntmps272
         go_wp2
         go_ret
         exact ⟨rfl, (Below.refl _ _).alloc (Nat.le_refl _) _⟩
       clear ho hn hs
       go_enter Tryz.func272, Tryz.ntmps272
       go_wp2
       go_ret
       exact ⟨rfl, (Below.refl _ _).alloc (Nat.le_refl _) _⟩
     cases named
     · obtain rfl : s = ByteArray.empty := by simpa using hs
       clear ho hn hs
       go_enter Tryz.func272, Tryz.ntmps272
       go_wp2
       go_ret
       exact ⟨rfl, (Below.refl _ _).alloc (Nat.le_refl _) _⟩
     clear ho hn hs
     go_enter Tryz.func272, Tryz.ntmps272
     go_wp2
     go_ret
     exact ⟨rfl, (Below.refl _ _).alloc (Nat.le_refl _) _⟩
   cases num
   · obtain rfl : n = 0 := by simpa using hn
     cases named
     · obtain rfl : s = ByteArray.empty := by simpa using hs
       clear ho hn hs
       go_enter Tryz.func272, Tryz.ntmps272
       go_wp2
       go_ret
       exact ⟨rfl, (Below.refl _ _).alloc (Nat.le_refl _) _⟩
     clear ho hn hs
     go_enter Tryz.func272, Tryz.ntmps272
     go_wp2
     go_ret
     exact ⟨rfl, (Below.refl _ _).alloc (Nat.le_refl _) _⟩
   cases named
   · obtain rfl : s = ByteArray.empty := by simpa using hs
     clear ho hn hs
     go_enter Tryz.func272, Tryz.ntmps272
     go_wp2
     go_ret
     exact ⟨rfl, (Below.refl _ _).alloc (Nat.le_refl _) _⟩
   clear ho hn hs
   go_enter Tryz.func272, Tryz.ntmps272
   go_wp2
   go_ret
   exact ⟨rfl, (Below.refl _ _).alloc (Nat.le_refl _) _⟩
 have q : named = false := by cases named <;> simp at hs ⊢
 have q2 : s ≠ ByteArray.empty := fun h => hs (Or.inr h)
 have qs := strne q2
 have qs2 : s.toList.isEmpty = false := by simpa using qs
 subst q
 obtain rfl : R = false := by rw [hS.out]; exact dec_false hs
 clear hS hs q2
 cases op
 · obtain rfl : o = 0 := by simpa using ho
   cases num
   · obtain rfl : n = 0 := by simpa using hn
     clear ho hn
     go_enter Tryz.func272, Tryz.ntmps272
     go_wp2
     go_ret
     exact ⟨by first | rfl | simp, (Below.refl _ _).alloc (Nat.le_refl _) _⟩
   clear ho hn
   go_enter Tryz.func272, Tryz.ntmps272
   go_wp2
   go_ret
   exact ⟨by first | rfl | simp, (Below.refl _ _).alloc (Nat.le_refl _) _⟩
 cases num
 · obtain rfl : n = 0 := by simpa using hn
   clear ho hn
   go_enter Tryz.func272, Tryz.ntmps272
   go_wp2
   go_ret
   exact ⟨by first | rfl | simp, (Below.refl _ _).alloc (Nat.le_refl _) _⟩
 clear ho hn
 go_enter Tryz.func272, Tryz.ntmps272
 go_wp2
 go_ret
 exact ⟨by first | rfl | simp, (Below.refl _ _).alloc (Nat.le_refl _) _⟩
end Go.Proofs.YtdeecfkipknkbaaGreatDoor
