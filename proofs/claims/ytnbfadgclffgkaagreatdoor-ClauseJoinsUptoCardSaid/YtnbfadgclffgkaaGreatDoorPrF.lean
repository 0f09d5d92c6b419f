/- The walk of phrase.called, kind by kind. Printed by gen-pr1.py. -/
import Derived.Test.YtnbfadgclffgkaaGreatDoorPart68e43f7d
namespace Go.Proofs.YtnbfadgclffgkaaGreatDoor
open Go.RowKit Go.Sort
set_option maxRecDepth 100000 in
set_option maxHeartbeats 8000000 in
theorem called12_calls (o n : Int) (s : ByteArray) (a : Option Addr) (L cap : Nat) (w : World) (ho1 : 1 ≤ o) (ho2 : o ≤ 6) :
    Calls Tryz.prog 89 #[.agg #[.int .i64 12, .int .i64 o, .int .i64 n, .string s, .slice a L cap]] w (Gives w (.string (selfB o))) := by
  have hoc : o = 1 ∨ o = 2 ∨ o = 3 ∨ o = 4 ∨ o = 5 ∨ o = 6 := by omega
  rcases hoc with rfl | rfl | rfl | rfl | rfl | rfl
  all_goals
    clear ho1 ho2
    go_enter Tryz.func89, Tryz.ntmps89
    go_wp2
    go_ret
    exact ⟨rfl, (((Below.refl _ w).alloc (Nat.le_refl _) _).alloc (by simp) _).alloc (by simp; omega) _⟩
set_option maxRecDepth 100000 in
set_option maxHeartbeats 8000000 in
theorem called9_calls (o n : Int) (s : ByteArray) (a : Option Addr) (L cap : Nat) (xs : List ByteArray) (r : ByteArray) (w : World) (_hs : s.size ≤ maxLen) (HXL : Hid (xs.length = L)) (hcap : (L : Int) ≤ 9223372036854775807)
    (HR : Hid (s ++ ⟨#[40]⟩ ++ sepB ⟨#[44, 32]⟩ xs ++ ⟨#[41]⟩ = r)) (hr : r.size ≤ 1000000000000)
    (hp : ∀ W, Below w.heap.size w W → ∀ i : Nat, (hi : i < L) → Calls Tryz.prog 86 #[.agg #[.int .i64 9, .int .i64 o, .int .i64 n, .string s, .slice a L cap], .int .i64 i, .int .i64 1] W (Gives W (.string (xs[i]'(by rw [HXL.out]; exact hi))))) :
    Calls Tryz.prog 89 #[.agg #[.int .i64 9, .int .i64 o, .int .i64 n, .string s, .slice a L cap]] w (Gives w (.string r)) := by
  have HSZ : Hid (∀ k : Nat, (s ++ ⟨#[40]⟩ ++ sepB ⟨#[44, 32]⟩ (xs.take k)).size ≤ 1000000000000) := Lib.hid fun k => by
    have h1 := congrArg ByteArray.size HR.out
    have h2 := sepB_take_le ⟨#[44, 32]⟩ xs k
    simp only [ByteArray.size_append] at h1 ⊢
    omega
  have hsz : s.size ≤ 1000000000000 := by
    have h := HSZ.out 0
    simp only [ByteArray.size_append] at h
    omega
  clear hr _hs
  obtain ⟨W1, hW1⟩ : ∃ W1, w.alloc (.cells #[.int .i64 9, .int .i64 o, .int .i64 n, .string s, .slice a L cap] 73) = W1 := ⟨_, rfl⟩
  have hz1 : W1.heap.size = w.heap.size + 1 := by rw [← hW1]; simp
  have hb1 : Below w.heap.size w W1 := by rw [← hW1]; exact (Below.refl _ _).alloc (Nat.le_refl _) _
  have hbx1 : BoxAt W1 w.heap.size [.int .i64 9, .int .i64 o, .int .i64 n, .string s, .slice a L cap] := by rw [← hW1]; exact BoxAt.new _ _ _
  obtain ⟨W2, hW2⟩ : ∃ W2, W1.alloc (.cells #[.string ⟨#[104, 101, 114, 101]⟩, .string ⟨#[112, 108, 97, 121, 101, 114]⟩, .string ⟨#[110, 111, 117, 110]⟩, .string ⟨#[115, 101, 99, 111, 110, 100]⟩, .string ⟨#[110, 117, 109, 98, 101, 114]⟩, .string ⟨#[115, 99, 111, 114, 101]⟩] 154) = W2 := ⟨_, rfl⟩
  have hz2 : W2.heap.size = w.heap.size + 1 + 1 := by rw [← hW2]; simp; exact hz1
  have hb2 : Below W1.heap.size W1 W2 := by rw [← hW2]; exact (Below.refl _ _).alloc (Nat.le_refl _) _
  have hbx2 : BoxAt W2 (w.heap.size + 1) [.string ⟨#[104, 101, 114, 101]⟩, .string ⟨#[112, 108, 97, 121, 101, 114]⟩, .string ⟨#[110, 111, 117, 110]⟩, .string ⟨#[115, 101, 99, 111, 110, 100]⟩, .string ⟨#[110, 117, 109, 98, 101, 114]⟩, .string ⟨#[115, 99, 111, 114, 101]⟩] := by rw [← hW2, ← hz1]; exact BoxAt.new _ _ _
  obtain ⟨W3, hW3⟩ : ∃ W3, W2.alloc (.cells #[.string ⟨#[112, 97, 114, 101, 110, 116]⟩, .string ⟨#[99, 104, 105, 108, 100]⟩, .string ⟨#[110, 101, 120, 116]⟩] 155) = W3 := ⟨_, rfl⟩
  have hz3 : W3.heap.size = w.heap.size + 1 + 1 + 1 := by rw [← hW3]; simp; exact hz2
  have hb3 : Below W2.heap.size W2 W3 := by rw [← hW3]; exact (Below.refl _ _).alloc (Nat.le_refl _) _
  have hbx3 : BoxAt W3 (w.heap.size + 1 + 1) [.string ⟨#[112, 97, 114, 101, 110, 116]⟩, .string ⟨#[99, 104, 105, 108, 100]⟩, .string ⟨#[110, 101, 120, 116]⟩] := by rw [← hW3, ← hz2]; exact BoxAt.new _ _ _
  have HE : Hid (∀ W, Below W3.heap.size W3 W → BoxAt W w.heap.size [.int .i64 9, .int .i64 o, .int .i64 n, .string s, .slice a L cap] ∧ Below w.heap.size w W) := Lib.hid fun W hW => ⟨hbx1.below (hb2.trans ((bt hb3 hW).mono hb2.size)) hbx1.1, hb1.trans ((hb2.trans ((bt hb3 hW).mono hb2.size)).mono hb1.size)⟩
  have HP : Hid (∀ W, Below W3.heap.size W3 W → ∀ i : Nat, (hi : i < L) → Calls Tryz.prog 86 #[.agg #[.int .i64 9, .int .i64 o, .int .i64 n, .string s, .slice a L cap], .int .i64 i, .int .i64 1] W (Gives W (.string (xs[i]'(by rw [HXL.out]; exact hi))))) := Lib.hid fun W hW => hp W (HE.out W hW).2
  have HW1 := Lib.hid hW1; have HW2 := Lib.hid hW2; have HW3 := Lib.hid hW3
  have HZ3 := Lib.hid hz3
  clear hW1 hW2 hW3 hz1 hz2 hz3 hb1 hb2 hb3 hbx1 hbx2 hbx3 hp
  go_enter Tryz.func89, Tryz.ntmps89
  go_upto_region 3 with fail
  rw [HW1.out, HW2.out, HW3.out]
  obtain ⟨hq, hqt⟩ := HE.out W3 (Below.refl _ _)
  have y0 := hq.2 0 (by simp); have y1 := hq.2 1 (by simp); have y3 := hq.2 3 (by simp); have y4 := hq.2 4 (by simp); simp only [cqs, cqz] at y0 y1 y3 y4
  go_wp2_with fail
  go_loopw [6, 63] (fun v i wr => ∃ k : Nat, k ≤ L ∧ i = .int .i64 k ∧ Hid (∃ A, v = .string A ∧ A = s ++ ⟨#[40]⟩ ++ sepB ⟨#[44, 32]⟩ (xs.take k)) ∧ Below W3.heap.size W3 wr) (fun _ i _ => L - (intOf i).toNat)
  case atStart => exact ⟨0, Nat.zero_le _, rfl, Lib.hid ⟨_, rfl, by simp [sepB, app_emp]⟩, Below.refl _ _⟩
  case round =>
    obtain ⟨k, hk, rfl, hA0, hB⟩ := hrel
    obtain ⟨A, rfl, hA⟩ := hA0.out
    have HA := Lib.hid hA
    clear hA hA0 y0 y1 y3 y4
    have HB := Lib.hid hB
    obtain ⟨hq, hqt⟩ := HE.out wr hB
    have y0 := hq.2 0 (by simp); have y1 := hq.2 1 (by simp); have y2 := hq.2 2 (by simp); have y3 := hq.2 3 (by simp); have y4 := hq.2 4 (by simp); simp only [cqs, cqz] at y0 y1 y2 y3 y4
    by_cases hlt : k < L
    · have hz : A.size + 2 + (xs[k]'(by rw [HXL.out]; exact hlt)).size ≤ 1000000000100 := by
        have h1 := HSZ.out (k + 1)
        have h2 := congrArg ByteArray.size (sepB_step ⟨#[44, 32]⟩ (s ++ ⟨#[40]⟩) xs k (by rw [HXL.out]; exact hlt))
        rw [← HA.out] at h2
        by_cases h0 : k = 0
        · rw [if_pos h0] at h2; simp only [ByteArray.size_append] at h1 h2; omega
        · rw [if_neg h0] at h2; simp only [ByteArray.size_append] at h1 h2; have : (⟨#[44, 32]⟩ : ByteArray).size = 2 := rfl; omega
      have HC := Lib.hid (fun W hW => HP.out W hW k hlt)
      have hnx := sepB_step ⟨#[44, 32]⟩ (s ++ ⟨#[40]⟩) xs k (by rw [HXL.out]; exact hlt)
      rw [← HA.out] at hnx
      obtain ⟨x, hx⟩ : ∃ x, xs[k]'(by rw [HXL.out]; exact hlt) = x := ⟨_, rfl⟩
      rw [hx] at hz HC hnx
      by_cases h0 : k = 0
      · rw [if_pos h0] at hnx
        have HN := Lib.hid hnx
        clear hnx HA hx
        subst h0
        have HC0 : Hid (∀ W, Below W3.heap.size W3 W → Calls Tryz.prog 86 #[.agg #[.int .i64 9, .int .i64 o, .int .i64 n, .string s, .slice a L cap], .int .i64 0, .int .i64 1] W (Gives W (.string x))) := Lib.hid fun W hW => HC.out W hW
        clear HC
        go_wp2_with (go_at_call 86; (with_reducible refine (HC0.out _ hB).mono ?_); rintro e w1 ⟨rfl, hb⟩)
        go_roundw
        case rel => exact ⟨1, by omega, by go_num, Lib.hid ⟨_, rfl, HN.out.symm⟩, bt HB.out hb⟩
        case measure => simp [intOf]; omega
      · rw [if_neg h0] at hnx
        have HN := Lib.hid hnx
        clear hnx HA hx
        have hk0 : (0 : Int) < (k : Int) := by omega
        go_wp2_with (go_at_call 86; (with_reducible refine (HC.out _ hB).mono ?_); rintro e w1 ⟨rfl, hb⟩)
        go_roundw
        case rel => exact ⟨k + 1, by omega, by go_num, Lib.hid ⟨_, rfl, HN.out.symm⟩, bt HB.out hb⟩
        case measure => simp [intOf]; omega
    · have hAz : A.size ≤ 1000000000000 := by
        have h1 := HSZ.out k; rw [HA.out]; simp only [ByteArray.size_append] at h1 ⊢; omega
      have hfin : Hid (A ++ ⟨#[41]⟩ = r) := by
        refine Lib.hid ?_
        rw [HA.out, ← HR.out, List.take_of_length_le (by rw [HXL.out]; omega)]
      clear HA
      go_wp2_with fail
      go_ret
      exact ⟨ret_str hfin.out, hqt⟩
set_option maxRecDepth 100000 in
set_option maxHeartbeats 8000000 in
theorem called11_calls (o n : Int) (s : ByteArray) (a : Option Addr) (L cap : Nat) (xs : List ByteArray) (r : ByteArray) (w : World) (_hs : s.size ≤ maxLen) (HXL : Hid (xs.length = L)) (hcap : (L : Int) ≤ 9223372036854775807)
    (HR : Hid ((⟨#[114, 97, 110, 100, 111, 109]⟩ : ByteArray) ++ ⟨#[40]⟩ ++ sepB ⟨#[44, 32]⟩ xs ++ ⟨#[41]⟩ = r)) (hr : r.size ≤ 1000000000000)
    (hp : ∀ W, Below w.heap.size w W → ∀ i : Nat, (hi : i < L) → Calls Tryz.prog 86 #[.agg #[.int .i64 11, .int .i64 o, .int .i64 n, .string s, .slice a L cap], .int .i64 i, .int .i64 1] W (Gives W (.string (xs[i]'(by rw [HXL.out]; exact hi))))) :
    Calls Tryz.prog 89 #[.agg #[.int .i64 11, .int .i64 o, .int .i64 n, .string s, .slice a L cap]] w (Gives w (.string r)) := by
  have HSZ : Hid (∀ k : Nat, ((⟨#[114, 97, 110, 100, 111, 109]⟩ : ByteArray) ++ ⟨#[40]⟩ ++ sepB ⟨#[44, 32]⟩ (xs.take k)).size ≤ 1000000000000) := Lib.hid fun k => by
    have h1 := congrArg ByteArray.size HR.out
    have h2 := sepB_take_le ⟨#[44, 32]⟩ xs k
    simp only [ByteArray.size_append] at h1 ⊢
    omega
  clear hr _hs
  obtain ⟨W1, hW1⟩ : ∃ W1, w.alloc (.cells #[.int .i64 11, .int .i64 o, .int .i64 n, .string s, .slice a L cap] 73) = W1 := ⟨_, rfl⟩
  have hz1 : W1.heap.size = w.heap.size + 1 := by rw [← hW1]; simp
  have hb1 : Below w.heap.size w W1 := by rw [← hW1]; exact (Below.refl _ _).alloc (Nat.le_refl _) _
  have hbx1 : BoxAt W1 w.heap.size [.int .i64 11, .int .i64 o, .int .i64 n, .string s, .slice a L cap] := by rw [← hW1]; exact BoxAt.new _ _ _
  obtain ⟨W2, hW2⟩ : ∃ W2, W1.alloc (.cells #[.string ⟨#[104, 101, 114, 101]⟩, .string ⟨#[112, 108, 97, 121, 101, 114]⟩, .string ⟨#[110, 111, 117, 110]⟩, .string ⟨#[115, 101, 99, 111, 110, 100]⟩, .string ⟨#[110, 117, 109, 98, 101, 114]⟩, .string ⟨#[115, 99, 111, 114, 101]⟩] 154) = W2 := ⟨_, rfl⟩
  have hz2 : W2.heap.size = w.heap.size + 1 + 1 := by rw [← hW2]; simp; exact hz1
  have hb2 : Below W1.heap.size W1 W2 := by rw [← hW2]; exact (Below.refl _ _).alloc (Nat.le_refl _) _
  have hbx2 : BoxAt W2 (w.heap.size + 1) [.string ⟨#[104, 101, 114, 101]⟩, .string ⟨#[112, 108, 97, 121, 101, 114]⟩, .string ⟨#[110, 111, 117, 110]⟩, .string ⟨#[115, 101, 99, 111, 110, 100]⟩, .string ⟨#[110, 117, 109, 98, 101, 114]⟩, .string ⟨#[115, 99, 111, 114, 101]⟩] := by rw [← hW2, ← hz1]; exact BoxAt.new _ _ _
  obtain ⟨W3, hW3⟩ : ∃ W3, W2.alloc (.cells #[.string ⟨#[112, 97, 114, 101, 110, 116]⟩, .string ⟨#[99, 104, 105, 108, 100]⟩, .string ⟨#[110, 101, 120, 116]⟩] 155) = W3 := ⟨_, rfl⟩
  have hz3 : W3.heap.size = w.heap.size + 1 + 1 + 1 := by rw [← hW3]; simp; exact hz2
  have hb3 : Below W2.heap.size W2 W3 := by rw [← hW3]; exact (Below.refl _ _).alloc (Nat.le_refl _) _
  have hbx3 : BoxAt W3 (w.heap.size + 1 + 1) [.string ⟨#[112, 97, 114, 101, 110, 116]⟩, .string ⟨#[99, 104, 105, 108, 100]⟩, .string ⟨#[110, 101, 120, 116]⟩] := by rw [← hW3, ← hz2]; exact BoxAt.new _ _ _
  have HE : Hid (∀ W, Below W3.heap.size W3 W → BoxAt W w.heap.size [.int .i64 11, .int .i64 o, .int .i64 n, .string s, .slice a L cap] ∧ Below w.heap.size w W) := Lib.hid fun W hW => ⟨hbx1.below (hb2.trans ((bt hb3 hW).mono hb2.size)) hbx1.1, hb1.trans ((hb2.trans ((bt hb3 hW).mono hb2.size)).mono hb1.size)⟩
  have HP : Hid (∀ W, Below W3.heap.size W3 W → ∀ i : Nat, (hi : i < L) → Calls Tryz.prog 86 #[.agg #[.int .i64 11, .int .i64 o, .int .i64 n, .string s, .slice a L cap], .int .i64 i, .int .i64 1] W (Gives W (.string (xs[i]'(by rw [HXL.out]; exact hi))))) := Lib.hid fun W hW => hp W (HE.out W hW).2
  have HW1 := Lib.hid hW1; have HW2 := Lib.hid hW2; have HW3 := Lib.hid hW3
  have HZ3 := Lib.hid hz3
  clear hW1 hW2 hW3 hz1 hz2 hz3 hb1 hb2 hb3 hbx1 hbx2 hbx3 hp
  go_enter Tryz.func89, Tryz.ntmps89
  go_upto_region 3 with fail
  rw [HW1.out, HW2.out, HW3.out]
  obtain ⟨hq, hqt⟩ := HE.out W3 (Below.refl _ _)
  have y0 := hq.2 0 (by simp); have y1 := hq.2 1 (by simp); have y3 := hq.2 3 (by simp); have y4 := hq.2 4 (by simp); simp only [cqs, cqz] at y0 y1 y3 y4
  go_wp2_with fail
  go_loopw [6, 63] (fun v i wr => ∃ k : Nat, k ≤ L ∧ i = .int .i64 k ∧ Hid (∃ A, v = .string A ∧ A = (⟨#[114, 97, 110, 100, 111, 109]⟩ : ByteArray) ++ ⟨#[40]⟩ ++ sepB ⟨#[44, 32]⟩ (xs.take k)) ∧ Below W3.heap.size W3 wr) (fun _ i _ => L - (intOf i).toNat)
  case atStart => exact ⟨0, Nat.zero_le _, rfl, Lib.hid ⟨_, rfl, by simp [sepB, app_emp]⟩, Below.refl _ _⟩
  case round =>
    obtain ⟨k, hk, rfl, hA0, hB⟩ := hrel
    obtain ⟨A, rfl, hA⟩ := hA0.out
    have HA := Lib.hid hA
    clear hA hA0 y0 y1 y3 y4
    have HB := Lib.hid hB
    obtain ⟨hq, hqt⟩ := HE.out wr hB
    have y0 := hq.2 0 (by simp); have y1 := hq.2 1 (by simp); have y2 := hq.2 2 (by simp); have y3 := hq.2 3 (by simp); have y4 := hq.2 4 (by simp); simp only [cqs, cqz] at y0 y1 y2 y3 y4
    by_cases hlt : k < L
    · have hz : A.size + 2 + (xs[k]'(by rw [HXL.out]; exact hlt)).size ≤ 1000000000100 := by
        have h1 := HSZ.out (k + 1)
        have h2 := congrArg ByteArray.size (sepB_step ⟨#[44, 32]⟩ ((⟨#[114, 97, 110, 100, 111, 109]⟩ : ByteArray) ++ ⟨#[40]⟩) xs k (by rw [HXL.out]; exact hlt))
        rw [← HA.out] at h2
        by_cases h0 : k = 0
        · rw [if_pos h0] at h2; simp only [ByteArray.size_append] at h1 h2; omega
        · rw [if_neg h0] at h2; simp only [ByteArray.size_append] at h1 h2; have : (⟨#[44, 32]⟩ : ByteArray).size = 2 := rfl; omega
      have HC := Lib.hid (fun W hW => HP.out W hW k hlt)
      have hnx := sepB_step ⟨#[44, 32]⟩ ((⟨#[114, 97, 110, 100, 111, 109]⟩ : ByteArray) ++ ⟨#[40]⟩) xs k (by rw [HXL.out]; exact hlt)
      rw [← HA.out] at hnx
      obtain ⟨x, hx⟩ : ∃ x, xs[k]'(by rw [HXL.out]; exact hlt) = x := ⟨_, rfl⟩
      rw [hx] at hz HC hnx
      by_cases h0 : k = 0
      · rw [if_pos h0] at hnx
        have HN := Lib.hid hnx
        clear hnx HA hx
        subst h0
        have HC0 : Hid (∀ W, Below W3.heap.size W3 W → Calls Tryz.prog 86 #[.agg #[.int .i64 11, .int .i64 o, .int .i64 n, .string s, .slice a L cap], .int .i64 0, .int .i64 1] W (Gives W (.string x))) := Lib.hid fun W hW => HC.out W hW
        clear HC
        go_wp2_with (go_at_call 86; (with_reducible refine (HC0.out _ hB).mono ?_); rintro e w1 ⟨rfl, hb⟩)
        go_roundw
        case rel => exact ⟨1, by omega, by go_num, Lib.hid ⟨_, rfl, HN.out.symm⟩, bt HB.out hb⟩
        case measure => simp [intOf]; omega
      · rw [if_neg h0] at hnx
        have HN := Lib.hid hnx
        clear hnx HA hx
        have hk0 : (0 : Int) < (k : Int) := by omega
        go_wp2_with (go_at_call 86; (with_reducible refine (HC.out _ hB).mono ?_); rintro e w1 ⟨rfl, hb⟩)
        go_roundw
        case rel => exact ⟨k + 1, by omega, by go_num, Lib.hid ⟨_, rfl, HN.out.symm⟩, bt HB.out hb⟩
        case measure => simp [intOf]; omega
    · have hAz : A.size ≤ 1000000000000 := by
        have h1 := HSZ.out k; rw [HA.out]; simp only [ByteArray.size_append] at h1 ⊢; omega
      have hfin : Hid (A ++ ⟨#[41]⟩ = r) := by
        refine Lib.hid ?_
        rw [HA.out, ← HR.out, List.take_of_length_le (by rw [HXL.out]; omega)]
      clear HA
      go_wp2_with fail
      go_ret
      exact ⟨ret_str hfin.out, hqt⟩
set_option maxRecDepth 100000 in
set_option maxHeartbeats 8000000 in
theorem called13_calls (o n : Int) (s : ByteArray) (a : Option Addr) (L cap : Nat) (xs : List ByteArray) (r : ByteArray) (w : World) (_hs : s.size ≤ maxLen) (HXL : Hid (xs.length = L)) (hcap : (L : Int) ≤ 9223372036854775807)
    (HR : Hid ((⟨#[116, 105, 116, 108, 101]⟩ : ByteArray) ++ ⟨#[40]⟩ ++ sepB ⟨#[44, 32]⟩ xs ++ ⟨#[41]⟩ = r)) (hr : r.size ≤ 1000000000000)
    (hp : ∀ W, Below w.heap.size w W → ∀ i : Nat, (hi : i < L) → Calls Tryz.prog 86 #[.agg #[.int .i64 13, .int .i64 o, .int .i64 n, .string s, .slice a L cap], .int .i64 i, .int .i64 1] W (Gives W (.string (xs[i]'(by rw [HXL.out]; exact hi))))) :
    Calls Tryz.prog 89 #[.agg #[.int .i64 13, .int .i64 o, .int .i64 n, .string s, .slice a L cap]] w (Gives w (.string r)) := by
  have HSZ : Hid (∀ k : Nat, ((⟨#[116, 105, 116, 108, 101]⟩ : ByteArray) ++ ⟨#[40]⟩ ++ sepB ⟨#[44, 32]⟩ (xs.take k)).size ≤ 1000000000000) := Lib.hid fun k => by
    have h1 := congrArg ByteArray.size HR.out
    have h2 := sepB_take_le ⟨#[44, 32]⟩ xs k
    simp only [ByteArray.size_append] at h1 ⊢
    omega
  clear hr _hs
  obtain ⟨W1, hW1⟩ : ∃ W1, w.alloc (.cells #[.int .i64 13, .int .i64 o, .int .i64 n, .string s, .slice a L cap] 73) = W1 := ⟨_, rfl⟩
  have hz1 : W1.heap.size = w.heap.size + 1 := by rw [← hW1]; simp
  have hb1 : Below w.heap.size w W1 := by rw [← hW1]; exact (Below.refl _ _).alloc (Nat.le_refl _) _
  have hbx1 : BoxAt W1 w.heap.size [.int .i64 13, .int .i64 o, .int .i64 n, .string s, .slice a L cap] := by rw [← hW1]; exact BoxAt.new _ _ _
  obtain ⟨W2, hW2⟩ : ∃ W2, W1.alloc (.cells #[.string ⟨#[104, 101, 114, 101]⟩, .string ⟨#[112, 108, 97, 121, 101, 114]⟩, .string ⟨#[110, 111, 117, 110]⟩, .string ⟨#[115, 101, 99, 111, 110, 100]⟩, .string ⟨#[110, 117, 109, 98, 101, 114]⟩, .string ⟨#[115, 99, 111, 114, 101]⟩] 154) = W2 := ⟨_, rfl⟩
  have hz2 : W2.heap.size = w.heap.size + 1 + 1 := by rw [← hW2]; simp; exact hz1
  have hb2 : Below W1.heap.size W1 W2 := by rw [← hW2]; exact (Below.refl _ _).alloc (Nat.le_refl _) _
  have hbx2 : BoxAt W2 (w.heap.size + 1) [.string ⟨#[104, 101, 114, 101]⟩, .string ⟨#[112, 108, 97, 121, 101, 114]⟩, .string ⟨#[110, 111, 117, 110]⟩, .string ⟨#[115, 101, 99, 111, 110, 100]⟩, .string ⟨#[110, 117, 109, 98, 101, 114]⟩, .string ⟨#[115, 99, 111, 114, 101]⟩] := by rw [← hW2, ← hz1]; exact BoxAt.new _ _ _
  obtain ⟨W3, hW3⟩ : ∃ W3, W2.alloc (.cells #[.string ⟨#[112, 97, 114, 101, 110, 116]⟩, .string ⟨#[99, 104, 105, 108, 100]⟩, .string ⟨#[110, 101, 120, 116]⟩] 155) = W3 := ⟨_, rfl⟩
  have hz3 : W3.heap.size = w.heap.size + 1 + 1 + 1 := by rw [← hW3]; simp; exact hz2
  have hb3 : Below W2.heap.size W2 W3 := by rw [← hW3]; exact (Below.refl _ _).alloc (Nat.le_refl _) _
  have hbx3 : BoxAt W3 (w.heap.size + 1 + 1) [.string ⟨#[112, 97, 114, 101, 110, 116]⟩, .string ⟨#[99, 104, 105, 108, 100]⟩, .string ⟨#[110, 101, 120, 116]⟩] := by rw [← hW3, ← hz2]; exact BoxAt.new _ _ _
  have HE : Hid (∀ W, Below W3.heap.size W3 W → BoxAt W w.heap.size [.int .i64 13, .int .i64 o, .int .i64 n, .string s, .slice a L cap] ∧ Below w.heap.size w W) := Lib.hid fun W hW => ⟨hbx1.below (hb2.trans ((bt hb3 hW).mono hb2.size)) hbx1.1, hb1.trans ((hb2.trans ((bt hb3 hW).mono hb2.size)).mono hb1.size)⟩
  have HP : Hid (∀ W, Below W3.heap.size W3 W → ∀ i : Nat, (hi : i < L) → Calls Tryz.prog 86 #[.agg #[.int .i64 13, .int .i64 o, .int .i64 n, .string s, .slice a L cap], .int .i64 i, .int .i64 1] W (Gives W (.string (xs[i]'(by rw [HXL.out]; exact hi))))) := Lib.hid fun W hW => hp W (HE.out W hW).2
  have HW1 := Lib.hid hW1; have HW2 := Lib.hid hW2; have HW3 := Lib.hid hW3
  have HZ3 := Lib.hid hz3
  clear hW1 hW2 hW3 hz1 hz2 hz3 hb1 hb2 hb3 hbx1 hbx2 hbx3 hp
  go_enter Tryz.func89, Tryz.ntmps89
  go_upto_region 3 with fail
  rw [HW1.out, HW2.out, HW3.out]
  obtain ⟨hq, hqt⟩ := HE.out W3 (Below.refl _ _)
  have y0 := hq.2 0 (by simp); have y1 := hq.2 1 (by simp); have y3 := hq.2 3 (by simp); have y4 := hq.2 4 (by simp); simp only [cqs, cqz] at y0 y1 y3 y4
  go_wp2_with fail
  go_loopw [6, 63] (fun v i wr => ∃ k : Nat, k ≤ L ∧ i = .int .i64 k ∧ Hid (∃ A, v = .string A ∧ A = (⟨#[116, 105, 116, 108, 101]⟩ : ByteArray) ++ ⟨#[40]⟩ ++ sepB ⟨#[44, 32]⟩ (xs.take k)) ∧ Below W3.heap.size W3 wr) (fun _ i _ => L - (intOf i).toNat)
  case atStart => exact ⟨0, Nat.zero_le _, rfl, Lib.hid ⟨_, rfl, by simp [sepB, app_emp]⟩, Below.refl _ _⟩
  case round =>
    obtain ⟨k, hk, rfl, hA0, hB⟩ := hrel
    obtain ⟨A, rfl, hA⟩ := hA0.out
    have HA := Lib.hid hA
    clear hA hA0 y0 y1 y3 y4
    have HB := Lib.hid hB
    obtain ⟨hq, hqt⟩ := HE.out wr hB
    have y0 := hq.2 0 (by simp); have y1 := hq.2 1 (by simp); have y2 := hq.2 2 (by simp); have y3 := hq.2 3 (by simp); have y4 := hq.2 4 (by simp); simp only [cqs, cqz] at y0 y1 y2 y3 y4
    by_cases hlt : k < L
    · have hz : A.size + 2 + (xs[k]'(by rw [HXL.out]; exact hlt)).size ≤ 1000000000100 := by
        have h1 := HSZ.out (k + 1)
        have h2 := congrArg ByteArray.size (sepB_step ⟨#[44, 32]⟩ ((⟨#[116, 105, 116, 108, 101]⟩ : ByteArray) ++ ⟨#[40]⟩) xs k (by rw [HXL.out]; exact hlt))
        rw [← HA.out] at h2
        by_cases h0 : k = 0
        · rw [if_pos h0] at h2; simp only [ByteArray.size_append] at h1 h2; omega
        · rw [if_neg h0] at h2; simp only [ByteArray.size_append] at h1 h2; have : (⟨#[44, 32]⟩ : ByteArray).size = 2 := rfl; omega
      have HC := Lib.hid (fun W hW => HP.out W hW k hlt)
      have hnx := sepB_step ⟨#[44, 32]⟩ ((⟨#[116, 105, 116, 108, 101]⟩ : ByteArray) ++ ⟨#[40]⟩) xs k (by rw [HXL.out]; exact hlt)
      rw [← HA.out] at hnx
      obtain ⟨x, hx⟩ : ∃ x, xs[k]'(by rw [HXL.out]; exact hlt) = x := ⟨_, rfl⟩
      rw [hx] at hz HC hnx
      by_cases h0 : k = 0
      · rw [if_pos h0] at hnx
        have HN := Lib.hid hnx
        clear hnx HA hx
        subst h0
        have HC0 : Hid (∀ W, Below W3.heap.size W3 W → Calls Tryz.prog 86 #[.agg #[.int .i64 13, .int .i64 o, .int .i64 n, .string s, .slice a L cap], .int .i64 0, .int .i64 1] W (Gives W (.string x))) := Lib.hid fun W hW => HC.out W hW
        clear HC
        go_wp2_with (go_at_call 86; (with_reducible refine (HC0.out _ hB).mono ?_); rintro e w1 ⟨rfl, hb⟩)
        go_roundw
        case rel => exact ⟨1, by omega, by go_num, Lib.hid ⟨_, rfl, HN.out.symm⟩, bt HB.out hb⟩
        case measure => simp [intOf]; omega
      · rw [if_neg h0] at hnx
        have HN := Lib.hid hnx
        clear hnx HA hx
        have hk0 : (0 : Int) < (k : Int) := by omega
        go_wp2_with (go_at_call 86; (with_reducible refine (HC.out _ hB).mono ?_); rintro e w1 ⟨rfl, hb⟩)
        go_roundw
        case rel => exact ⟨k + 1, by omega, by go_num, Lib.hid ⟨_, rfl, HN.out.symm⟩, bt HB.out hb⟩
        case measure => simp [intOf]; omega
    · have hAz : A.size ≤ 1000000000000 := by
        have h1 := HSZ.out k; rw [HA.out]; simp only [ByteArray.size_append] at h1 ⊢; omega
      have hfin : Hid (A ++ ⟨#[41]⟩ = r) := by
        refine Lib.hid ?_
        rw [HA.out, ← HR.out, List.take_of_length_le (by rw [HXL.out]; omega)]
      clear HA
      go_wp2_with fail
      go_ret
      exact ⟨ret_str hfin.out, hqt⟩
end Go.Proofs.YtnbfadgclffgkaaGreatDoor
