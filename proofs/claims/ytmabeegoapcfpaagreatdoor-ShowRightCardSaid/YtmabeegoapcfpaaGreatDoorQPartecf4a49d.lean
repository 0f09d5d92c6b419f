/- The walks of tree.op, tree.said and tree.shaped. -/
import Derived.Test.YtmabeegoapcfpaaGreatDoorQPart20aa6447
namespace Go.Proofs.YtmabeegoapcfpaaGreatDoor
open Go.RowKit Go.Sort
def OpOk (k o : Int) : Prop := (k = 6 → 1 ≤ o ∧ o ≤ 14) ∧ (k = 10 → 1 ≤ o ∧ o ≤ 3) ∧ (k = 12 → 1 ≤ o ∧ o ≤ 6)
def SaidK (k : Int) : Prop := k = 2 ∨ k = 13 ∨ k = 19
theorem said_calls (k : Int) (w : World) : Calls Tryz.prog 154 #[.int .i64 k] w (Same0 w (.bool (dec (SaidK k)))) := by
  by_cases h1 : k = 2
  · have e : Hid (dec (SaidK k) = true) := dec_true (Or.inl h1)
    have e1 : (k == 2) = true := by simpa using h1
    clear h1
    go_enter Tryz.func154, Tryz.ntmps154
    go_wp2
    go_ret
    exact ⟨ret_bool e.out.symm, rfl⟩
  have e1 : (k == 2) = false := by simpa using h1
  by_cases h2 : k = 13
  · have e : Hid (dec (SaidK k) = true) := dec_true (Or.inr (Or.inl h2))
    have e2 : (k == 13) = true := by simpa using h2
    clear h1 h2
    go_enter Tryz.func154, Tryz.ntmps154
    go_wp2
    go_ret
    exact ⟨ret_bool e.out.symm, rfl⟩
  have e2 : (k == 13) = false := by simpa using h2
  have e : Hid (dec (SaidK k) = (k == 19)) := by
    show dec (SaidK k) = _
    by_cases h3 : k = 19
    · rw [dec_true (show SaidK k from Or.inr (Or.inr h3)), h3]; rfl
    · rw [dec_false (by unfold SaidK; omega)]; symm; simpa using h3
  clear h1 h2
  go_enter Tryz.func154, Tryz.ntmps154
  go_wp2
  go_ret
  exact ⟨ret_bool e.out.symm, rfl⟩
set_option maxRecDepth 100000 in
set_option maxHeartbeats 1000000 in
theorem op_calls (k o n : Int) (s : ByteArray) (a : Option Addr) (m cap : Nat) (w : World) : Calls Tryz.prog 195 #[.agg #[.int .i64 k, .int .i64 o, .int .i64 n, .string s, .slice a m cap]] w (Gives w (.bool (dec (OpOk k o)))) := by
  have hk : k = 6 ∨ k = 10 ∨ k = 12 ∨ (k ≠ 6 ∧ k ≠ 10 ∧ k ≠ 12) := by omega
  rcases hk with rfl | rfl | rfl | ⟨h1, h2, h3⟩
  case inr.inr.inr =>
    have e : Hid (dec (OpOk k o) = true) := dec_true ⟨fun h => absurd h h1, fun h => absurd h h2, fun h => absurd h h3⟩
    have e1 : (k == 6) = false := by simpa using h1
    have e2 : (k == 10) = false := by simpa using h2
    have e3 : (k == 12) = false := by simpa using h3
    clear h1 h2 h3
    go_enter Tryz.func195, Tryz.ntmps195
    go_wp2
    go_ret
    exact ⟨ret_bool e.out.symm, (Below.refl _ _).alloc (Nat.le_refl _) _⟩
  case inl =>
    by_cases h1 : 1 ≤ o
    · have e : Hid (dec (OpOk 6 o) = decide (o ≤ 14)) := by
        show dec (OpOk 6 o) = _
        by_cases h : o ≤ 14
        · rw [dec_true (by unfold OpOk; omega)]; symm; simpa using h
        · rw [dec_false (by unfold OpOk; omega)]; symm; simpa using h
      go_enter Tryz.func195, Tryz.ntmps195
      go_wp2
      go_ret
      exact ⟨ret_bool e.out.symm, (Below.refl _ _).alloc (Nat.le_refl _) _⟩
    · have e : Hid (dec (OpOk 6 o) = false) := dec_false (by unfold OpOk; omega)
      go_enter Tryz.func195, Tryz.ntmps195
      go_wp2
      go_ret
      exact ⟨ret_bool e.out.symm, (Below.refl _ _).alloc (Nat.le_refl _) _⟩
  case inr.inl =>
    by_cases h1 : 1 ≤ o
    · have e : Hid (dec (OpOk 10 o) = decide (o ≤ 3)) := by
        show dec (OpOk 10 o) = _
        by_cases h : o ≤ 3
        · rw [dec_true (by unfold OpOk; omega)]; symm; simpa using h
        · rw [dec_false (by unfold OpOk; omega)]; symm; simpa using h
      go_enter Tryz.func195, Tryz.ntmps195
      go_wp2
      go_ret
      exact ⟨ret_bool e.out.symm, (Below.refl _ _).alloc (Nat.le_refl _) _⟩
    · have e : Hid (dec (OpOk 10 o) = false) := dec_false (by unfold OpOk; omega)
      go_enter Tryz.func195, Tryz.ntmps195
      go_wp2
      go_ret
      exact ⟨ret_bool e.out.symm, (Below.refl _ _).alloc (Nat.le_refl _) _⟩
  case inr.inr.inl =>
    by_cases h1 : 1 ≤ o
    · have e : Hid (dec (OpOk 12 o) = decide (o ≤ 6)) := by
        show dec (OpOk 12 o) = _
        by_cases h : o ≤ 6
        · rw [dec_true (by unfold OpOk; omega)]; symm; simpa using h
        · rw [dec_false (by unfold OpOk; omega)]; symm; simpa using h
      go_enter Tryz.func195, Tryz.ntmps195
      go_wp2
      go_ret
      exact ⟨ret_bool e.out.symm, (Below.refl _ _).alloc (Nat.le_refl _) _⟩
    · have e : Hid (dec (OpOk 12 o) = false) := dec_false (by unfold OpOk; omega)
      go_enter Tryz.func195, Tryz.ntmps195
      go_wp2
      go_ret
      exact ⟨ret_bool e.out.symm, (Below.refl _ _).alloc (Nat.le_refl _) _⟩
def Shaped (k o n : Int) (s : ByteArray) (m : Nat) : Prop :=
  (hasOf k).is = true ∧ ((hasOf k).op = true ∨ o = 0) ∧ ((hasOf k).num = true ∨ n = 0) ∧ ((hasOf k).name = true ∨ s = ByteArray.empty) ∧ (hasOf k).least ≤ m ∧ m ≤ (hasOf k).most ∧ OpOk k o
theorem hasOf_cases (k : Int) : ((hasOf k).op = true ∧ (hasOf k).num = false ∧ (hasOf k).name = false ∨ (hasOf k).op = false ∧ (hasOf k).num = true ∧ (hasOf k).name = false ∨ (hasOf k).op = false ∧ (hasOf k).num = false ∧ (hasOf k).name = true ∨
    (hasOf k).op = false ∧ (hasOf k).num = false ∧ (hasOf k).name = false) ∧ (hasOf k).least ≤ 8 ∧ (hasOf k).most ≤ 8 := by
  unfold hasOf
  repeat' split
  all_goals simp
set_option maxRecDepth 100000 in
set_option maxHeartbeats 4000000 in
theorem shaped_calls (k o n : Int) (s : ByteArray) (a : Option Addr) (m cap : Nat) (w : World) : Calls Tryz.prog 151 #[.agg #[.int .i64 k, .int .i64 o, .int .i64 n, .string s, .slice a m cap]] w (Gives w (.bool (dec (Shaped k o n s m)))) := by
  obtain ⟨hc, hl, hm⟩ := hasOf_cases k
  have hx := fun w => exprHas_calls k w
  have ho := fun w => op_calls k o n s a m cap w
  have hS : Hid (dec (Shaped k o n s m) = dec ((hasOf k).is = true ∧ ((hasOf k).op = true ∨ o = 0) ∧ ((hasOf k).num = true ∨ n = 0) ∧ ((hasOf k).name = true ∨ s = ByteArray.empty) ∧ (hasOf k).least ≤ m ∧ m ≤ (hasOf k).most ∧ OpOk k o)) := rfl
  generalize dec (Shaped k o n s m) = R at hS
  generalize hasOf k = H at *
  obtain ⟨ho1, hn1, hs1, l, mo, is⟩ := H
  simp only at hc hl hm hS
  unfold HasV at hx
  simp only at hx
  generalize hO : OpOk k o = O at *
  have HX := Lib.hid hx
  have HO := Lib.hid ho
  clear hx ho hO
  rcases hc with ⟨rfl, rfl, rfl⟩ | ⟨rfl, rfl, rfl⟩ | ⟨rfl, rfl, rfl⟩ | ⟨rfl, rfl, rfl⟩
  case inl =>
    cases is
    · obtain rfl : R = false := by rw [hS.out]; exact dec_false (by simp)
      clear hS
      go_enter Tryz.func151, Tryz.ntmps151
      go_wp2_with (go_at_call 194; refine (HX.out _).mono ?_; rintro e w' ⟨rfl, hb⟩; obtain ⟨hcl, hfz⟩ := bcell hb; have hz1 := one_new hb)
      go_ret
      exact ⟨by first | rfl | simp, (((below_of_alloc (hb.mono (by simp))).alloc (by omega) _).alloc (by simp; omega) _)⟩
    by_cases hn : n = 0
    rotate_left
    · have qn : (n == 0) = false := by simpa using hn
      obtain rfl : R = false := by rw [hS.out]; exact dec_false (by simp [hn])
      clear hS hn
      go_enter Tryz.func151, Tryz.ntmps151
      go_wp2_with (go_at_call 194; refine (HX.out _).mono ?_; rintro e w' ⟨rfl, hb⟩; obtain ⟨hcl, hfz⟩ := bcell hb; have hz1 := one_new hb)
      go_ret
      exact ⟨by first | rfl | simp, (((below_of_alloc (hb.mono (by simp))).alloc (by omega) _).alloc (by simp; omega) _)⟩
    subst hn
    by_cases hs : s = ByteArray.empty
    rotate_left
    · have qs := strne hs
      have qs2 : s.toList.isEmpty = false := by simpa using qs
      obtain rfl : R = false := by rw [hS.out]; exact dec_false (by simp [hs])
      clear hS hs
      go_enter Tryz.func151, Tryz.ntmps151
      go_wp2_with (go_at_call 194; refine (HX.out _).mono ?_; rintro e w' ⟨rfl, hb⟩; obtain ⟨hcl, hfz⟩ := bcell hb; have hz1 := one_new hb)
      go_ret
      exact ⟨by first | rfl | simp, (((below_of_alloc (hb.mono (by simp))).alloc (by omega) _).alloc (by simp; omega) _)⟩
    subst hs
    by_cases hlm : l ≤ m
    rotate_left
    · have q1 : decide (l ≤ m) = false := by simpa using hlm
      have q2 : decide ((l : Int) ≤ (m : Int)) = false := by simp; omega
      obtain rfl : R = false := by rw [hS.out]; exact dec_false (by simp [hlm])
      clear hS hlm
      go_enter Tryz.func151, Tryz.ntmps151
      go_wp2_with (go_at_call 194; refine (HX.out _).mono ?_; rintro e w' ⟨rfl, hb⟩; obtain ⟨hcl, hfz⟩ := bcell hb; have hz1 := one_new hb)
      go_ret
      exact ⟨by first | rfl | simp, (((below_of_alloc (hb.mono (by simp))).alloc (by omega) _).alloc (by simp; omega) _)⟩
    have q1 : decide (l ≤ m) = true := by simpa using hlm
    have q2 : decide ((l : Int) ≤ (m : Int)) = true := by simp; omega
    by_cases hmm : m ≤ mo
    rotate_left
    · have q3 : decide (m ≤ mo) = false := by simpa using hmm
      have q4 : decide ((m : Int) ≤ (mo : Int)) = false := by simp; omega
      obtain rfl : R = false := by rw [hS.out]; exact dec_false (by simp [hmm])
      clear hS hmm
      go_enter Tryz.func151, Tryz.ntmps151
      go_wp2_with (go_at_call 194; refine (HX.out _).mono ?_; rintro e w' ⟨rfl, hb⟩; obtain ⟨hcl, hfz⟩ := bcell hb; have hz1 := one_new hb)
      go_ret
      exact ⟨by first | rfl | simp, (((below_of_alloc (hb.mono (by simp))).alloc (by omega) _).alloc (by simp; omega) _)⟩
    have q3 : decide (m ≤ mo) = true := by simpa using hmm
    have q4 : decide ((m : Int) ≤ (mo : Int)) = true := by simp; omega
    obtain rfl : R = dec O := by rw [hS.out]; exact dec_congr (by simp [hlm, hmm])
    clear hS hlm hmm
    go_enter Tryz.func151, Tryz.ntmps151
    go_wp2_with (first | (go_at_call 194; refine (HX.out _).mono ?_; rintro e w' ⟨rfl, hb⟩; obtain ⟨hcl, hfz⟩ := bcell hb; have hz1 := one_new hb) | (go_at_call 195; refine (HO.out _).mono ?_; rintro e w2 ⟨rfl, hb2⟩))
    go_ret
    exact ⟨by first | rfl | simp, below_on (((below_of_alloc (hb.mono (by simp))).alloc (by omega) _).alloc (by simp; omega) _) (Nat.le_refl _) hb2⟩
  case inr.inl =>
    cases is
    · obtain rfl : R = false := by rw [hS.out]; exact dec_false (by simp)
      clear hS
      go_enter Tryz.func151, Tryz.ntmps151
      go_wp2_with (go_at_call 194; refine (HX.out _).mono ?_; rintro e w' ⟨rfl, hb⟩; obtain ⟨hcl, hfz⟩ := bcell hb; have hz1 := one_new hb)
      go_ret
      exact ⟨by first | rfl | simp, (((below_of_alloc (hb.mono (by simp))).alloc (by omega) _).alloc (by simp; omega) _)⟩
    by_cases ho : o = 0
    rotate_left
    · have qo : (o == 0) = false := by simpa using ho
      obtain rfl : R = false := by rw [hS.out]; exact dec_false (by simp [ho])
      clear hS ho
      go_enter Tryz.func151, Tryz.ntmps151
      go_wp2_with (go_at_call 194; refine (HX.out _).mono ?_; rintro e w' ⟨rfl, hb⟩; obtain ⟨hcl, hfz⟩ := bcell hb; have hz1 := one_new hb)
      go_ret
      exact ⟨by first | rfl | simp, (((below_of_alloc (hb.mono (by simp))).alloc (by omega) _).alloc (by simp; omega) _)⟩
    subst ho
    by_cases hs : s = ByteArray.empty
    rotate_left
    · have qs := strne hs
      have qs2 : s.toList.isEmpty = false := by simpa using qs
      obtain rfl : R = false := by rw [hS.out]; exact dec_false (by simp [hs])
      clear hS hs
      go_enter Tryz.func151, Tryz.ntmps151
      go_wp2_with (go_at_call 194; refine (HX.out _).mono ?_; rintro e w' ⟨rfl, hb⟩; obtain ⟨hcl, hfz⟩ := bcell hb; have hz1 := one_new hb)
      go_ret
      exact ⟨by first | rfl | simp, (((below_of_alloc (hb.mono (by simp))).alloc (by omega) _).alloc (by simp; omega) _)⟩
    subst hs
    by_cases hlm : l ≤ m
    rotate_left
    · have q1 : decide (l ≤ m) = false := by simpa using hlm
      have q2 : decide ((l : Int) ≤ (m : Int)) = false := by simp; omega
      obtain rfl : R = false := by rw [hS.out]; exact dec_false (by simp [hlm])
      clear hS hlm
      go_enter Tryz.func151, Tryz.ntmps151
      go_wp2_with (go_at_call 194; refine (HX.out _).mono ?_; rintro e w' ⟨rfl, hb⟩; obtain ⟨hcl, hfz⟩ := bcell hb; have hz1 := one_new hb)
      go_ret
      exact ⟨by first | rfl | simp, (((below_of_alloc (hb.mono (by simp))).alloc (by omega) _).alloc (by simp; omega) _)⟩
    have q1 : decide (l ≤ m) = true := by simpa using hlm
    have q2 : decide ((l : Int) ≤ (m : Int)) = true := by simp; omega
    by_cases hmm : m ≤ mo
    rotate_left
    · have q3 : decide (m ≤ mo) = false := by simpa using hmm
      have q4 : decide ((m : Int) ≤ (mo : Int)) = false := by simp; omega
      obtain rfl : R = false := by rw [hS.out]; exact dec_false (by simp [hmm])
      clear hS hmm
      go_enter Tryz.func151, Tryz.ntmps151
      go_wp2_with (go_at_call 194; refine (HX.out _).mono ?_; rintro e w' ⟨rfl, hb⟩; obtain ⟨hcl, hfz⟩ := bcell hb; have hz1 := one_new hb)
      go_ret
      exact ⟨by first | rfl | simp, (((below_of_alloc (hb.mono (by simp))).alloc (by omega) _).alloc (by simp; omega) _)⟩
    have q3 : decide (m ≤ mo) = true := by simpa using hmm
    have q4 : decide ((m : Int) ≤ (mo : Int)) = true := by simp; omega
    obtain rfl : R = dec O := by rw [hS.out]; exact dec_congr (by simp [hlm, hmm])
    clear hS hlm hmm
    go_enter Tryz.func151, Tryz.ntmps151
    go_wp2_with (first | (go_at_call 194; refine (HX.out _).mono ?_; rintro e w' ⟨rfl, hb⟩; obtain ⟨hcl, hfz⟩ := bcell hb; have hz1 := one_new hb) | (go_at_call 195; refine (HO.out _).mono ?_; rintro e w2 ⟨rfl, hb2⟩))
    go_ret
    exact ⟨by first | rfl | simp, below_on (((below_of_alloc (hb.mono (by simp))).alloc (by omega) _).alloc (by simp; omega) _) (Nat.le_refl _) hb2⟩
  case inr.inr.inl =>
    cases is
    · obtain rfl : R = false := by rw [hS.out]; exact dec_false (by simp)
      clear hS
      go_enter Tryz.func151, Tryz.ntmps151
      go_wp2_with (go_at_call 194; refine (HX.out _).mono ?_; rintro e w' ⟨rfl, hb⟩; obtain ⟨hcl, hfz⟩ := bcell hb; have hz1 := one_new hb)
      go_ret
      exact ⟨by first | rfl | simp, (((below_of_alloc (hb.mono (by simp))).alloc (by omega) _).alloc (by simp; omega) _)⟩
    by_cases ho : o = 0
    rotate_left
    · have qo : (o == 0) = false := by simpa using ho
      obtain rfl : R = false := by rw [hS.out]; exact dec_false (by simp [ho])
      clear hS ho
      go_enter Tryz.func151, Tryz.ntmps151
      go_wp2_with (go_at_call 194; refine (HX.out _).mono ?_; rintro e w' ⟨rfl, hb⟩; obtain ⟨hcl, hfz⟩ := bcell hb; have hz1 := one_new hb)
      go_ret
      exact ⟨by first | rfl | simp, (((below_of_alloc (hb.mono (by simp))).alloc (by omega) _).alloc (by simp; omega) _)⟩
    subst ho
    by_cases hn : n = 0
    rotate_left
    · have qn : (n == 0) = false := by simpa using hn
      obtain rfl : R = false := by rw [hS.out]; exact dec_false (by simp [hn])
      clear hS hn
      go_enter Tryz.func151, Tryz.ntmps151
      go_wp2_with (go_at_call 194; refine (HX.out _).mono ?_; rintro e w' ⟨rfl, hb⟩; obtain ⟨hcl, hfz⟩ := bcell hb; have hz1 := one_new hb)
      go_ret
      exact ⟨by first | rfl | simp, (((below_of_alloc (hb.mono (by simp))).alloc (by omega) _).alloc (by simp; omega) _)⟩
    subst hn
    by_cases hlm : l ≤ m
    rotate_left
    · have q1 : decide (l ≤ m) = false := by simpa using hlm
      have q2 : decide ((l : Int) ≤ (m : Int)) = false := by simp; omega
      obtain rfl : R = false := by rw [hS.out]; exact dec_false (by simp [hlm])
      clear hS hlm
      go_enter Tryz.func151, Tryz.ntmps151
      go_wp2_with (go_at_call 194; refine (HX.out _).mono ?_; rintro e w' ⟨rfl, hb⟩; obtain ⟨hcl, hfz⟩ := bcell hb; have hz1 := one_new hb)
      go_ret
      exact ⟨by first | rfl | simp, (((below_of_alloc (hb.mono (by simp))).alloc (by omega) _).alloc (by simp; omega) _)⟩
    have q1 : decide (l ≤ m) = true := by simpa using hlm
    have q2 : decide ((l : Int) ≤ (m : Int)) = true := by simp; omega
    by_cases hmm : m ≤ mo
    rotate_left
    · have q3 : decide (m ≤ mo) = false := by simpa using hmm
      have q4 : decide ((m : Int) ≤ (mo : Int)) = false := by simp; omega
      obtain rfl : R = false := by rw [hS.out]; exact dec_false (by simp [hmm])
      clear hS hmm
      go_enter Tryz.func151, Tryz.ntmps151
      go_wp2_with (go_at_call 194; refine (HX.out _).mono ?_; rintro e w' ⟨rfl, hb⟩; obtain ⟨hcl, hfz⟩ := bcell hb; have hz1 := one_new hb)
      go_ret
      exact ⟨by first | rfl | simp, (((below_of_alloc (hb.mono (by simp))).alloc (by omega) _).alloc (by simp; omega) _)⟩
    have q3 : decide (m ≤ mo) = true := by simpa using hmm
    have q4 : decide ((m : Int) ≤ (mo : Int)) = true := by simp; omega
    obtain rfl : R = dec O := by rw [hS.out]; exact dec_congr (by simp [hlm, hmm])
    clear hS hlm hmm
    go_enter Tryz.func151, Tryz.ntmps151
    go_wp2_with (first | (go_at_call 194; refine (HX.out _).mono ?_; rintro e w' ⟨rfl, hb⟩; obtain ⟨hcl, hfz⟩ := bcell hb; have hz1 := one_new hb) | (go_at_call 195; refine (HO.out _).mono ?_; rintro e w2 ⟨rfl, hb2⟩))
    go_ret
    exact ⟨by first | rfl | simp, below_on (((below_of_alloc (hb.mono (by simp))).alloc (by omega) _).alloc (by simp; omega) _) (Nat.le_refl _) hb2⟩
  case inr.inr.inr =>
    cases is
    · obtain rfl : R = false := by rw [hS.out]; exact dec_false (by simp)
      clear hS
      go_enter Tryz.func151, Tryz.ntmps151
      go_wp2_with (go_at_call 194; refine (HX.out _).mono ?_; rintro e w' ⟨rfl, hb⟩; obtain ⟨hcl, hfz⟩ := bcell hb; have hz1 := one_new hb)
      go_ret
      exact ⟨by first | rfl | simp, (((below_of_alloc (hb.mono (by simp))).alloc (by omega) _).alloc (by simp; omega) _)⟩
    by_cases ho : o = 0
    rotate_left
    · have qo : (o == 0) = false := by simpa using ho
      obtain rfl : R = false := by rw [hS.out]; exact dec_false (by simp [ho])
      clear hS ho
      go_enter Tryz.func151, Tryz.ntmps151
      go_wp2_with (go_at_call 194; refine (HX.out _).mono ?_; rintro e w' ⟨rfl, hb⟩; obtain ⟨hcl, hfz⟩ := bcell hb; have hz1 := one_new hb)
      go_ret
      exact ⟨by first | rfl | simp, (((below_of_alloc (hb.mono (by simp))).alloc (by omega) _).alloc (by simp; omega) _)⟩
    subst ho
    by_cases hn : n = 0
    rotate_left
    · have qn : (n == 0) = false := by simpa using hn
      obtain rfl : R = false := by rw [hS.out]; exact dec_false (by simp [hn])
      clear hS hn
      go_enter Tryz.func151, Tryz.ntmps151
      go_wp2_with (go_at_call 194; refine (HX.out _).mono ?_; rintro e w' ⟨rfl, hb⟩; obtain ⟨hcl, hfz⟩ := bcell hb; have hz1 := one_new hb)
      go_ret
      exact ⟨by first | rfl | simp, (((below_of_alloc (hb.mono (by simp))).alloc (by omega) _).alloc (by simp; omega) _)⟩
    subst hn
    by_cases hs : s = ByteArray.empty
    rotate_left
    · have qs := strne hs
      have qs2 : s.toList.isEmpty = false := by simpa using qs
      obtain rfl : R = false := by rw [hS.out]; exact dec_false (by simp [hs])
      clear hS hs
      go_enter Tryz.func151, Tryz.ntmps151
      go_wp2_with (go_at_call 194; refine (HX.out _).mono ?_; rintro e w' ⟨rfl, hb⟩; obtain ⟨hcl, hfz⟩ := bcell hb; have hz1 := one_new hb)
      go_ret
      exact ⟨by first | rfl | simp, (((below_of_alloc (hb.mono (by simp))).alloc (by omega) _).alloc (by simp; omega) _)⟩
    subst hs
    by_cases hlm : l ≤ m
    rotate_left
    · have q1 : decide (l ≤ m) = false := by simpa using hlm
      have q2 : decide ((l : Int) ≤ (m : Int)) = false := by simp; omega
      obtain rfl : R = false := by rw [hS.out]; exact dec_false (by simp [hlm])
      clear hS hlm
      go_enter Tryz.func151, Tryz.ntmps151
      go_wp2_with (go_at_call 194; refine (HX.out _).mono ?_; rintro e w' ⟨rfl, hb⟩; obtain ⟨hcl, hfz⟩ := bcell hb; have hz1 := one_new hb)
      go_ret
      exact ⟨by first | rfl | simp, (((below_of_alloc (hb.mono (by simp))).alloc (by omega) _).alloc (by simp; omega) _)⟩
    have q1 : decide (l ≤ m) = true := by simpa using hlm
    have q2 : decide ((l : Int) ≤ (m : Int)) = true := by simp; omega
    by_cases hmm : m ≤ mo
    rotate_left
    · have q3 : decide (m ≤ mo) = false := by simpa using hmm
      have q4 : decide ((m : Int) ≤ (mo : Int)) = false := by simp; omega
      obtain rfl : R = false := by rw [hS.out]; exact dec_false (by simp [hmm])
      clear hS hmm
      go_enter Tryz.func151, Tryz.ntmps151
      go_wp2_with (go_at_call 194; refine (HX.out _).mono ?_; rintro e w' ⟨rfl, hb⟩; obtain ⟨hcl, hfz⟩ := bcell hb; have hz1 := one_new hb)
      go_ret
      exact ⟨by first | rfl | simp, (((below_of_alloc (hb.mono (by simp))).alloc (by omega) _).alloc (by simp; omega) _)⟩
    have q3 : decide (m ≤ mo) = true := by simpa using hmm
    have q4 : decide ((m : Int) ≤ (mo : Int)) = true := by simp; omega
    obtain rfl : R = dec O := by rw [hS.out]; exact dec_congr (by simp [hlm, hmm])
    clear hS hlm hmm
    go_enter Tryz.func151, Tryz.ntmps151
    go_wp2_with (first | (go_at_call 194; refine (HX.out _).mono ?_; rintro e w' ⟨rfl, hb⟩; obtain ⟨hcl, hfz⟩ := bcell hb; have hz1 := one_new hb) | (go_at_call 195; refine (HO.out _).mono ?_; rintro e w2 ⟨rfl, hb2⟩))
    go_ret
    exact ⟨by first | rfl | simp, below_on (((below_of_alloc (hb.mono (by simp))).alloc (by omega) _).alloc (by simp; omega) _) (Nat.le_refl _) hb2⟩
end Go.Proofs.YtmabeegoapcfpaaGreatDoor
/- The walk of tree.each: whether all of a list are so, whatever function is asked. -/
namespace Go.Proofs.YtmabeegoapcfpaaGreatDoor
open Go.RowKit Go.Sort
def Asks (F : Nat → Prop) (w : World) (f : Nat) (caps : Array Value) (x : Ex) (b : Bool) : Prop := ∀ (w' : World) (cs : List Value), Below w.heap.size w w' → RdEx F w' x cs → Calls Tryz.prog f (#[.agg cs.toArray] ++ caps) w' (Gives w' (.bool b))
set_option maxRecDepth 100000 in
set_option maxHeartbeats 1000000 in
theorem each_calls (F : Nat → Prop) (w : World) (f : Nat) (caps : Array Value) (l : List Ex) (v : Value) (P : Ex → Prop) (hF : Inn F w) (hr : Exs F w l v) (hcf : ∀ (args : Array Value) (w : World), (callFunc f args).run Tryz.prog w = .ok (.enter f args) w) (hf : ∀ x ∈ l, Asks F w f caps x (dec (P x))) :
    Calls Tryz.prog 152 #[v, .func (.func f) #[] caps] w (Gives w (.bool (dec (∀ x ∈ l, P x)))) := by
  obtain ⟨a, cap, rfl⟩ := hr.shape
  obtain ⟨_, hl, hc, ha⟩ := hr.opn
  go_enter Tryz.func152, Tryz.ntmps152
  go_wp2
  go_loopw [9] (fun i wr => ∃ (k : Nat), k ≤ l.length ∧ i = .int .i64 k ∧ Hid (∀ x ∈ l.take k, P x) ∧ Below w.heap.size w wr) (fun i _ => l.length - (intOf i).toNat)
  case atStart => exact ⟨0, Nat.zero_le _, rfl, by simp [Hid], Below.refl _ _⟩
  case round =>
    obtain ⟨k, hk, rfl, hq, hB⟩ := hrel
    by_cases hlt : k < l.length
    · obtain ⟨b, off, rfl, hFb, hel⟩ := ha (by omega)
      obtain ⟨kd', o', n', s', a', m', cap', hx, g0, g1, g2, g3, g4⟩ := hel wr (hB.block b (hF b hFb)) k hlt
      clear ha hel
      have hI := hF.below hB
      have hcall : ∀ o, Calls Tryz.prog f (#[.agg #[.int .i64 kd', .int .i64 o', .int .i64 n', .string s', .slice a' m' cap']] ++ caps) (wr.alloc o) (Gives (wr.alloc o) (.bool (dec (P l[k])))) := fun o =>
        hf _ (List.getElem_mem hlt) (wr.alloc o) _ (hB.alloc hB.size o) ((hx.below hF hB (Nat.le_refl _)).alloc hI o)
      have hte : l.take (k + 1) = l.take k ++ [l[k]] := List.take_succ_eq_append_getElem hlt
      by_cases hP : P l[k]
      · rw [dec_true hP] at hcall
        have hnx : Hid (∀ x ∈ l.take (k + 1), P x) := by
          show ∀ x ∈ l.take (k + 1), P x
          rw [hte]; intro x hx1
          rcases List.mem_append.1 hx1 with h | h
          · exact hq.out x h
          · rw [List.mem_singleton.1 h]; exact hP
        have HC := Lib.hid hcall
        clear hcall hx hf hte hP hq
        go_wp2_with ((with_reducible refine (HC.out _).mono ?_); rintro e w' ⟨rfl, hb⟩)
        go_roundw
        case rel => exact ⟨k + 1, by omega, by go_num, hnx, below_on1 hB (Nat.le_refl _) hb⟩
        case measure => simp [intOf]; omega
      · rw [dec_false hP] at hcall
        have hfin : Hid (dec (∀ x ∈ l, P x) = false) := dec_false (fun h => hP (h _ (List.getElem_mem hlt)))
        have HC := Lib.hid hcall
        clear hcall hx hf hte hP hq
        go_wp2_with ((with_reducible refine (HC.out _).mono ?_); rintro e w' ⟨rfl, hb⟩)
        go_ret
        exact ⟨ret_bool hfin.out.symm, below_on1 hB (Nat.le_refl _) hb⟩
    · have : k = l.length := by omega
      subst this
      have hfin : Hid (dec (∀ x ∈ l, P x) = true) := dec_true (by have := hq.out; rwa [List.take_length] at this)
      clear hq hf ha
      go_wp2
      go_ret
      exact ⟨ret_bool hfin.out.symm, hB⟩
end Go.Proofs.YtmabeegoapcfpaaGreatDoor
