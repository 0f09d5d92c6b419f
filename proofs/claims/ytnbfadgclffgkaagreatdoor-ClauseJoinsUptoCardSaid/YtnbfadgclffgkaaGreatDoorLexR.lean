/- The walks of clewref09's functions that read bytes: may, digit, small, big, at, fail, gap, row, sign. Printed by gen-lex1.py. -/
import Derived.Test.YtnbfadgclffgkaaGreatDoorPartfd454d89
namespace Go.Proofs.YtnbfadgclffgkaaGreatDoor
open Go.RowKit Go.Sort
theorem toNat_ne {c d : UInt8} (h : c ≠ d) : c.toNat ≠ d.toNat := fun e => h (UInt8.toNat_inj.1 e)
theorem le_u8 (c d : UInt8) : c ≤ d ↔ c.toNat ≤ d.toNat := UInt8.le_iff_toNat_le
set_option maxHeartbeats 400000 in
theorem digit9_calls (c : UInt8) (w : World) : Calls Tryz.prog 53 #[.int .u8 c.toNat] w (Same0 w (.bool (digitC c))) := by
  have hc := c.toNat_lt
  have hf : digitC c = decide (48 ≤ c.toNat ∧ c.toNat ≤ 57) := by
    unfold digitC
    rw [Bool.decide_and]
    simp only [le_u8]
    rfl
  generalize hn : c.toNat = n at hc hf
  by_cases h1 : 48 ≤ n
  · have hd : Hid (digitC c = decide ((n : Int) ≤ 57)) := by
      show digitC c = _
      rw [hf]
      by_cases h2 : n ≤ 57
      · rw [decide_eq_true (⟨h1, h2⟩ : 48 ≤ n ∧ n ≤ 57)]; symm; simp; omega
      · rw [decide_eq_false (by omega)]; symm; simp; omega
    clear hn hf
    go_enter Tryz.func53, Tryz.ntmps53
    go_wp2
    go_ret
    exact ⟨ret_bool hd.out.symm, rfl⟩
  · have hd : Hid (digitC c = false) := by
      show digitC c = _
      rw [hf]
      simp; omega
    clear hn hf
    go_enter Tryz.func53, Tryz.ntmps53
    go_wp2
    go_ret
    exact ⟨ret_bool hd.out.symm, rfl⟩
set_option maxHeartbeats 400000 in
theorem small9_calls (c : UInt8) (w : World) : Calls Tryz.prog 56 #[.int .u8 c.toNat] w (Same0 w (.bool (smallC c))) := by
  have hc := c.toNat_lt
  have hf : smallC c = decide (97 ≤ c.toNat ∧ c.toNat ≤ 122) := by
    unfold smallC
    rw [Bool.decide_and]
    simp only [le_u8]
    rfl
  generalize hn : c.toNat = n at hc hf
  by_cases h1 : 97 ≤ n
  · have hd : Hid (smallC c = decide ((n : Int) ≤ 122)) := by
      show smallC c = _
      rw [hf]
      by_cases h2 : n ≤ 122
      · rw [decide_eq_true (⟨h1, h2⟩ : 97 ≤ n ∧ n ≤ 122)]; symm; simp; omega
      · rw [decide_eq_false (by omega)]; symm; simp; omega
    clear hn hf
    go_enter Tryz.func56, Tryz.ntmps56
    go_wp2
    go_ret
    exact ⟨ret_bool hd.out.symm, rfl⟩
  · have hd : Hid (smallC c = false) := by
      show smallC c = _
      rw [hf]
      simp; omega
    clear hn hf
    go_enter Tryz.func56, Tryz.ntmps56
    go_wp2
    go_ret
    exact ⟨ret_bool hd.out.symm, rfl⟩
set_option maxHeartbeats 400000 in
theorem big9_calls (c : UInt8) (w : World) : Calls Tryz.prog 95 #[.int .u8 c.toNat] w (Same0 w (.bool (bigC c))) := by
  have hc := c.toNat_lt
  have hf : bigC c = decide (65 ≤ c.toNat ∧ c.toNat ≤ 90) := by
    unfold bigC
    rw [Bool.decide_and]
    simp only [le_u8]
    rfl
  generalize hn : c.toNat = n at hc hf
  by_cases h1 : 65 ≤ n
  · have hd : Hid (bigC c = decide ((n : Int) ≤ 90)) := by
      show bigC c = _
      rw [hf]
      by_cases h2 : n ≤ 90
      · rw [decide_eq_true (⟨h1, h2⟩ : 65 ≤ n ∧ n ≤ 90)]; symm; simp; omega
      · rw [decide_eq_false (by omega)]; symm; simp; omega
    clear hn hf
    go_enter Tryz.func95, Tryz.ntmps95
    go_wp2
    go_ret
    exact ⟨ret_bool hd.out.symm, rfl⟩
  · have hd : Hid (bigC c = false) := by
      show bigC c = _
      rw [hf]
      simp; omega
    clear hn hf
    go_enter Tryz.func95, Tryz.ntmps95
    go_wp2
    go_ret
    exact ⟨ret_bool hd.out.symm, rfl⟩
set_option maxHeartbeats 1000000 in
theorem may9_calls (c : UInt8) (w : World) : Calls Tryz.prog 51 #[.int .u8 c.toNat] w (Same0 w (.bool (mayB c))) := by
  have hc := c.toNat_lt
  have hf : mayB c = decide ((32 ≤ c.toNat ∧ c.toNat ≤ 126) ∨ c.toNat = 10 ∨ c.toNat = 9) := by
    unfold mayB
    rw [Bool.decide_or, Bool.decide_or, Bool.decide_and, Bool.or_assoc]
    simp only [le_u8, ← UInt8.toNat_inj]
    rfl
  generalize hn : c.toNat = n at hc hf
  by_cases h1 : 32 ≤ n
  · by_cases h2 : n ≤ 126
    · have hd : Hid (mayB c = true) := by show mayB c = _; rw [hf]; simp; omega
      have d1 : decide ((32 : Int) ≤ (n : Int)) = true := by simp; omega
      have d2 : decide ((n : Int) ≤ 126) = true := by simp; omega
      clear hn hf
      go_enter Tryz.func51, Tryz.ntmps51
      go_wp2
      go_ret
      exact ⟨ret_bool hd.out.symm, rfl⟩
    · have hd : Hid (mayB c = false) := by show mayB c = _; rw [hf]; simp; omega
      have d1 : decide ((32 : Int) ≤ (n : Int)) = true := by simp; omega
      have d2 : decide ((n : Int) ≤ 126) = false := by simp; omega
      have e1a : ((n : Int) == 10) = false := by simp; omega
      have e1b : ((n : Int) != 10) = true := by simp; omega
      have e2a : ((n : Int) == 9) = false := by simp; omega
      have e2b : ((n : Int) != 9) = true := by simp; omega
      clear hn hf
      go_enter Tryz.func51, Tryz.ntmps51
      go_wp2
      go_ret
      exact ⟨ret_bool hd.out.symm, rfl⟩
  · have d1 : decide ((32 : Int) ≤ (n : Int)) = false := by simp; omega
    by_cases h10 : n = 10
    · have hd : Hid (mayB c = true) := by show mayB c = _; rw [hf]; simp; omega
      clear hn hf
      subst h10
      go_enter Tryz.func51, Tryz.ntmps51
      go_wp2
      go_ret
      exact ⟨ret_bool hd.out.symm, rfl⟩
    · by_cases h9 : n = 9
      · have hd : Hid (mayB c = true) := by show mayB c = _; rw [hf]; simp; omega
        clear hn hf
        subst h9
        go_enter Tryz.func51, Tryz.ntmps51
        go_wp2
        go_ret
        exact ⟨ret_bool hd.out.symm, rfl⟩
      · have hd : Hid (mayB c = false) := by show mayB c = _; rw [hf]; simp; omega
        have e1a : ((n : Int) == 10) = false := by simp; omega
        have e1b : ((n : Int) != 10) = true := by simp; omega
        have e2a : ((n : Int) == 9) = false := by simp; omega
        have e2b : ((n : Int) != 9) = true := by simp; omega
        clear hn hf
        go_enter Tryz.func51, Tryz.ntmps51
        go_wp2
        go_ret
        exact ⟨ret_bool hd.out.symm, rfl⟩
set_option maxRecDepth 20000 in
set_option maxHeartbeats 1000000 in
theorem at9_calls (s : ByteArray) (k : Nat) (w : World) (hk : k ≤ s.size) (hs : s.size ≤ 100000) : Calls Tryz.prog 28 #[.string s, .int .i64 k] w
    fun e w' => e = .returned (.tuple #[.int .i64 (atB s k).1, .int .i64 (atB s k).2]) ∧ w = w' := by
  generalize hT : atB s k = T
  obtain ⟨t1, t2⟩ := T
  have HT := Lib.hid hT
  clear hT
  go_enter Tryz.func28, Tryz.ntmps28
  go_wp2
  go_loop [6, 7, 8] (fun l c i => ∃ (j m n : Nat), j ≤ k ∧ m ≤ j + 1 ∧ n ≤ j + 1 ∧ i = .int .i64 j ∧ l = .int .i64 m ∧ c = .int .i64 n ∧ Hid (atB s j = (m, n))) (fun _ _ i => k - (intOf i).toNat)
  case atStart => exact ⟨0, 1, 1, by omega, by omega, by omega, rfl, rfl, rfl, rfl⟩
  case round =>
    obtain ⟨j, m, n, hj, hm, hn, rfl, rfl, rfl, hq⟩ := hrel
    by_cases hlt : j < k
    · have hlt2 : j < s.size := by omega
      have hst : atB s (j + 1) = if s[j] = 10 then (m + 1, 1) else (m, n + 1) := by
        show (if byteAt s j = 10 then _ else _) = _
        rw [byteAt_lt hlt2, hq.out]
      by_cases h10 : s[j] = 10
      · rw [if_pos h10] at hst
        have HST := Lib.hid hst
        have e1 : (((s[j]).toNat : Int) == 10) = true := by rw [h10]; rfl
        clear hst h10 hq
        go_wp2
        go_round
        case rel => exact ⟨j + 1, m + 1, 1, by omega, by omega, by omega, by go_num, by go_num, rfl, HST.out⟩
        case measure => simp [intOf]; omega
      · rw [if_neg h10] at hst
        have HST := Lib.hid hst
        have e0 : (s[j]).toNat ≠ 10 := toNat_ne h10
        have e1 : (((s[j]).toNat : Int) == 10) = false := by simp; omega
        clear hst h10 hq e0
        go_wp2
        go_round
        case rel => exact ⟨j + 1, m, n + 1, by omega, by omega, by omega, by go_num, rfl, by go_num, HST.out⟩
        case measure => simp [intOf]; omega
    · have hjk : j = k := by omega
      subst hjk
      have he := hq.out.symm.trans HT.out
      simp only [Prod.mk.injEq] at he
      obtain ⟨rfl, rfl⟩ := he
      clear hq HT
      go_wp2
      go_ret2
      exact ⟨rfl, rfl⟩
def FailD.val (f : FailD) : Value := .agg #[.int .i64 f.err, .int .i64 f.line, .int .i64 f.col]
set_option maxRecDepth 20000 in
set_option maxHeartbeats 1000000 in
theorem fail9_calls (s : ByteArray) (k : Nat) (er : Int) (w : World) (hk : k ≤ s.size) (hs : s.size ≤ 100000) : Calls Tryz.prog 27 #[.string s, .int .i64 k, .int .i64 er] w (Gives w (failB s k er).val) := by
  have hc := fun W => at9_calls s k W hk hs
  have e : (failB s k er).val = .agg #[.int .i64 er, .int .i64 (atB s k).1, .int .i64 (atB s k).2] := rfl
  rw [e]
  generalize atB s k = p at hc ⊢
  obtain ⟨m, n⟩ := p
  have HC := Lib.hid hc
  clear hc e
  go_enter Tryz.func27, Tryz.ntmps27
  go_wp2_with (go_at_call 28; (with_reducible refine (HC.out _).mono ?_); rintro e w1 ⟨rfl, rfl⟩)
  exact bodyPost_ret (v := .agg #[.int .i64 er, .int .i64 m, .int .i64 n]) (by simp [results, Tryz.results27, go_sem]) rfl ⟨rfl, by first | exact (Below.refl _ _).alloc (Nat.le_refl _) _ | exact ((Below.refl _ _).alloc (Nat.le_refl _) _).setCell (by simp) _⟩
theorem gapB_step (s : ByteArray) (f k : Nat) (r : Bool) (h : k < s.size) (c : UInt8) (hc : s[k] = c) : gapB s (f + 1) k r =
      if mayB c = false then (k, false)
      else if (if k + 1 < s.size ∧ c = 47 ∧ byteAt s (k + 1) = 47 then true else if c = 10 then false else r) = false ∧ c ≠ 32 ∧ c ≠ 10 ∧ c ≠ 9 then (k, true)
      else gapB s f (k + 1) (if k + 1 < s.size ∧ c = 47 ∧ byteAt s (k + 1) = 47 then true else if c = 10 then false else r) := by
  show (if k < s.size then _ else _) = _
  rw [if_pos h, byteAt_lt h, hc]
theorem gapB_end (s : ByteArray) (f k : Nat) (r : Bool) (h : ¬ k < s.size) : gapB s f k r = (k, true) := by
  cases f with
  | zero => rfl
  | succ f => show (if k < s.size then _ else _) = _; rw [if_neg h]
set_option maxRecDepth 20000 in
set_option maxHeartbeats 4000000 in
theorem gap9_calls (s : ByteArray) (k0 : Nat) (w : World) (hk0 : k0 ≤ s.size) (hs : s.size ≤ 100000) : Calls Tryz.prog 26 #[.string s, .int .i64 k0] w
    fun e w' => e = .returned (.tuple #[.int .i64 (gapB s (s.size - k0) k0 false).1, .bool (gapB s (s.size - k0) k0 false).2]) ∧ w = w' := by
  generalize hT : gapB s (s.size - k0) k0 false = T
  obtain ⟨t1, t2⟩ := T
  go_enter Tryz.func26, Tryz.ntmps26
  go_wp2
  go_loop [1, 6, 7] (fun i r _ => ∃ (k f : Nat) (rb : Bool), k ≤ s.size ∧ i = .int .i64 k ∧ r = .bool rb ∧ Hid (s.size - k ≤ f ∧ gapB s f k rb = (t1, t2))) (fun i _ _ => s.size - (intOf i).toNat)
  case atStart => exact ⟨k0, s.size - k0, false, hk0, rfl, rfl, Nat.le_refl _, hT⟩
  case round =>
    obtain ⟨k, f, rb, hk, rfl, rfl, hq⟩ := hrel
    clear hT
    obtain ⟨hf, hq⟩ := hq.out
    by_cases hlt : k < s.size
    · obtain ⟨f, rfl⟩ : ∃ g, f = g + 1 := ⟨f - 1, by omega⟩
      have hf' : Hid (s.size - (k + 1) ≤ f) := Lib.hid (by omega)
      obtain ⟨c, hc⟩ : ∃ c, s[k] = c := ⟨_, rfl⟩
      rw [gapB_step s f k rb hlt c hc] at hq
      have hm := may9_calls c w
      have hcn : ((s[k]).toNat : Int) = (c.toNat : Int) := by rw [hc]
      clear hf
      cases hmb : mayB c
      · rw [hmb] at hm
        rw [if_pos hmb] at hq
        rw [← hc] at hm
        have HM := Lib.hid hm
        simp only [Prod.mk.injEq] at hq
        obtain ⟨rfl, rfl⟩ := hq
        clear hm hmb hcn hc
        go_wp2_with (go_at_call 51; (with_reducible refine HM.out.mono ?_); rintro e w1 ⟨rfl, rfl⟩)
        go_ret2
        exact ⟨rfl, rfl⟩
      · rw [hmb] at hm
        rw [if_neg (by rw [hmb]; decide)] at hq
        rw [← hc] at hm
        have HM := Lib.hid hm
        clear hm hmb
        by_cases hl2 : k + 1 < s.size
        · have hl2i : (k : Int) + 1 < (s.size : Int) := by omega
          cases rb
          · by_cases h10 : c = 10
            · have hcv : c.toNat = 10 := by rw [h10]; rfl
              have e32a : (((s[k]).toNat : Int) == 32) = false := by rw [hcn]; simp; omega
              have e32b : (((s[k]).toNat : Int) != 32) = true := by rw [hcn]; simp; omega
              have e10a : (((s[k]).toNat : Int) == 10) = true := by rw [hcn]; simp; omega
              have e10b : (((s[k]).toNat : Int) != 10) = false := by rw [hcn]; simp; omega
              have e9a : (((s[k]).toNat : Int) == 9) = false := by rw [hcn]; simp; omega
              have e9b : (((s[k]).toNat : Int) != 9) = true := by rw [hcn]; simp; omega
              have e47a : (((s[k]).toNat : Int) == 47) = false := by rw [hcn]; simp; omega
              have e47b : (((s[k]).toNat : Int) != 47) = true := by rw [hcn]; simp; omega
              have HQ : Hid (gapB s f (k + 1) false = (t1, t2)) := by
                show _ = (t1, t2)
                rw [← hq]
                simp [h10]
              clear hcn hc hq
              go_wp2_with (go_at_call 51; (with_reducible refine HM.out.mono ?_); rintro e w1 ⟨rfl, rfl⟩)
              go_round
              case rel => exact ⟨k + 1, f, false, by omega, by go_num, rfl, hf'.out, HQ.out⟩
              case measure => simp [intOf]; omega
            have n10 : c.toNat ≠ 10 := toNat_ne h10
            by_cases h32 : c = 32
            · have hcv : c.toNat = 32 := by rw [h32]; rfl
              have e32a : (((s[k]).toNat : Int) == 32) = true := by rw [hcn]; simp; omega
              have e32b : (((s[k]).toNat : Int) != 32) = false := by rw [hcn]; simp; omega
              have e10a : (((s[k]).toNat : Int) == 10) = false := by rw [hcn]; simp; omega
              have e10b : (((s[k]).toNat : Int) != 10) = true := by rw [hcn]; simp; omega
              have e9a : (((s[k]).toNat : Int) == 9) = false := by rw [hcn]; simp; omega
              have e9b : (((s[k]).toNat : Int) != 9) = true := by rw [hcn]; simp; omega
              have e47a : (((s[k]).toNat : Int) == 47) = false := by rw [hcn]; simp; omega
              have e47b : (((s[k]).toNat : Int) != 47) = true := by rw [hcn]; simp; omega
              have HQ : Hid (gapB s f (k + 1) false = (t1, t2)) := by
                show _ = (t1, t2)
                rw [← hq]
                simp [h32]
              clear hcn hc hq
              go_wp2_with (go_at_call 51; (with_reducible refine HM.out.mono ?_); rintro e w1 ⟨rfl, rfl⟩)
              go_round
              case rel => exact ⟨k + 1, f, false, by omega, by go_num, rfl, hf'.out, HQ.out⟩
              case measure => simp [intOf]; omega
            have n32 : c.toNat ≠ 32 := toNat_ne h32
            by_cases h9 : c = 9
            · have hcv : c.toNat = 9 := by rw [h9]; rfl
              have e32a : (((s[k]).toNat : Int) == 32) = false := by rw [hcn]; simp; omega
              have e32b : (((s[k]).toNat : Int) != 32) = true := by rw [hcn]; simp; omega
              have e10a : (((s[k]).toNat : Int) == 10) = false := by rw [hcn]; simp; omega
              have e10b : (((s[k]).toNat : Int) != 10) = true := by rw [hcn]; simp; omega
              have e9a : (((s[k]).toNat : Int) == 9) = true := by rw [hcn]; simp; omega
              have e9b : (((s[k]).toNat : Int) != 9) = false := by rw [hcn]; simp; omega
              have e47a : (((s[k]).toNat : Int) == 47) = false := by rw [hcn]; simp; omega
              have e47b : (((s[k]).toNat : Int) != 47) = true := by rw [hcn]; simp; omega
              have HQ : Hid (gapB s f (k + 1) false = (t1, t2)) := by
                show _ = (t1, t2)
                rw [← hq]
                simp [h9]
              clear hcn hc hq
              go_wp2_with (go_at_call 51; (with_reducible refine HM.out.mono ?_); rintro e w1 ⟨rfl, rfl⟩)
              go_round
              case rel => exact ⟨k + 1, f, false, by omega, by go_num, rfl, hf'.out, HQ.out⟩
              case measure => simp [intOf]; omega
            have n9 : c.toNat ≠ 9 := toNat_ne h9
            by_cases h47 : c = 47
            · have hcv : c.toNat = 47 := by rw [h47]; rfl
              have e32a : (((s[k]).toNat : Int) == 32) = false := by rw [hcn]; simp; omega
              have e32b : (((s[k]).toNat : Int) != 32) = true := by rw [hcn]; simp; omega
              have e10a : (((s[k]).toNat : Int) == 10) = false := by rw [hcn]; simp; omega
              have e10b : (((s[k]).toNat : Int) != 10) = true := by rw [hcn]; simp; omega
              have e9a : (((s[k]).toNat : Int) == 9) = false := by rw [hcn]; simp; omega
              have e9b : (((s[k]).toNat : Int) != 9) = true := by rw [hcn]; simp; omega
              have e47a : (((s[k]).toNat : Int) == 47) = true := by rw [hcn]; simp; omega
              have e47b : (((s[k]).toNat : Int) != 47) = false := by rw [hcn]; simp; omega
              obtain ⟨d, hd⟩ : ∃ d, s[k + 1] = d := ⟨_, rfl⟩
              have hbd : byteAt s (k + 1) = d := by rw [byteAt_lt hl2, hd]
              have hdn : ((s[k + 1]).toNat : Int) = (d.toNat : Int) := by rw [hd]
              by_cases hd47 : d = 47
              · have hdv : d.toNat = 47 := by rw [hd47]; rfl
                have f1 : (((s[k + 1]).toNat : Int) == 47) = true := by rw [hdn]; simp; omega
                have HQ : Hid (gapB s f (k + 1) true = (t1, t2)) := by
                  show _ = (t1, t2)
                  rw [← hq]
                  simp [h47, hl2, hbd, hd47]
                clear hdn hd hbd
                clear hcn hc hq
                go_wp2_with (go_at_call 51; (with_reducible refine HM.out.mono ?_); rintro e w1 ⟨rfl, rfl⟩)
                go_round
                case rel => exact ⟨k + 1, f, true, by omega, by go_num, rfl, hf'.out, HQ.out⟩
                case measure => simp [intOf]; omega
              · have hdv : d.toNat ≠ 47 := toNat_ne hd47
                have f1 : (((s[k + 1]).toNat : Int) == 47) = false := by rw [hdn]; simp; omega
                have HQ : Hid ((k, true) = (t1, t2)) := by
                  show _ = (t1, t2)
                  rw [← hq]
                  simp [h47, hl2, hbd, hd47]
                clear hdn hd hbd
                have he := HQ.out
                simp only [Prod.mk.injEq] at he
                obtain ⟨rfl, rfl⟩ := he
                clear hcn hc hq HQ
                go_wp2_with (go_at_call 51; (with_reducible refine HM.out.mono ?_); rintro e w1 ⟨rfl, rfl⟩)
                go_ret2
                exact ⟨rfl, rfl⟩
            have n47 : c.toNat ≠ 47 := toNat_ne h47
            have e32a : (((s[k]).toNat : Int) == 32) = false := by rw [hcn]; simp; omega
            have e32b : (((s[k]).toNat : Int) != 32) = true := by rw [hcn]; simp; omega
            have e10a : (((s[k]).toNat : Int) == 10) = false := by rw [hcn]; simp; omega
            have e10b : (((s[k]).toNat : Int) != 10) = true := by rw [hcn]; simp; omega
            have e9a : (((s[k]).toNat : Int) == 9) = false := by rw [hcn]; simp; omega
            have e9b : (((s[k]).toNat : Int) != 9) = true := by rw [hcn]; simp; omega
            have e47a : (((s[k]).toNat : Int) == 47) = false := by rw [hcn]; simp; omega
            have e47b : (((s[k]).toNat : Int) != 47) = true := by rw [hcn]; simp; omega
            have HQ : Hid ((k, true) = (t1, t2)) := by
              show _ = (t1, t2)
              rw [← hq]
              simp [h47, h10, h32, h9]
            have he := HQ.out
            simp only [Prod.mk.injEq] at he
            obtain ⟨rfl, rfl⟩ := he
            clear hcn hc hq HQ
            go_wp2_with (go_at_call 51; (with_reducible refine HM.out.mono ?_); rintro e w1 ⟨rfl, rfl⟩)
            go_ret2
            exact ⟨rfl, rfl⟩
          · by_cases h10 : c = 10
            · have hcv : c.toNat = 10 := by rw [h10]; rfl
              have e32a : (((s[k]).toNat : Int) == 32) = false := by rw [hcn]; simp; omega
              have e32b : (((s[k]).toNat : Int) != 32) = true := by rw [hcn]; simp; omega
              have e10a : (((s[k]).toNat : Int) == 10) = true := by rw [hcn]; simp; omega
              have e10b : (((s[k]).toNat : Int) != 10) = false := by rw [hcn]; simp; omega
              have e9a : (((s[k]).toNat : Int) == 9) = false := by rw [hcn]; simp; omega
              have e9b : (((s[k]).toNat : Int) != 9) = true := by rw [hcn]; simp; omega
              have e47a : (((s[k]).toNat : Int) == 47) = false := by rw [hcn]; simp; omega
              have e47b : (((s[k]).toNat : Int) != 47) = true := by rw [hcn]; simp; omega
              have HQ : Hid (gapB s f (k + 1) false = (t1, t2)) := by
                show _ = (t1, t2)
                rw [← hq]
                simp [h10]
              clear hcn hc hq
              go_wp2_with (go_at_call 51; (with_reducible refine HM.out.mono ?_); rintro e w1 ⟨rfl, rfl⟩)
              go_round
              case rel => exact ⟨k + 1, f, false, by omega, by go_num, rfl, hf'.out, HQ.out⟩
              case measure => simp [intOf]; omega
            have n10 : c.toNat ≠ 10 := toNat_ne h10
            by_cases h32 : c = 32
            · have hcv : c.toNat = 32 := by rw [h32]; rfl
              have e32a : (((s[k]).toNat : Int) == 32) = true := by rw [hcn]; simp; omega
              have e32b : (((s[k]).toNat : Int) != 32) = false := by rw [hcn]; simp; omega
              have e10a : (((s[k]).toNat : Int) == 10) = false := by rw [hcn]; simp; omega
              have e10b : (((s[k]).toNat : Int) != 10) = true := by rw [hcn]; simp; omega
              have e9a : (((s[k]).toNat : Int) == 9) = false := by rw [hcn]; simp; omega
              have e9b : (((s[k]).toNat : Int) != 9) = true := by rw [hcn]; simp; omega
              have e47a : (((s[k]).toNat : Int) == 47) = false := by rw [hcn]; simp; omega
              have e47b : (((s[k]).toNat : Int) != 47) = true := by rw [hcn]; simp; omega
              have HQ : Hid (gapB s f (k + 1) true = (t1, t2)) := by
                show _ = (t1, t2)
                rw [← hq]
                simp [h32]
              clear hcn hc hq
              go_wp2_with (go_at_call 51; (with_reducible refine HM.out.mono ?_); rintro e w1 ⟨rfl, rfl⟩)
              go_round
              case rel => exact ⟨k + 1, f, true, by omega, by go_num, rfl, hf'.out, HQ.out⟩
              case measure => simp [intOf]; omega
            have n32 : c.toNat ≠ 32 := toNat_ne h32
            by_cases h9 : c = 9
            · have hcv : c.toNat = 9 := by rw [h9]; rfl
              have e32a : (((s[k]).toNat : Int) == 32) = false := by rw [hcn]; simp; omega
              have e32b : (((s[k]).toNat : Int) != 32) = true := by rw [hcn]; simp; omega
              have e10a : (((s[k]).toNat : Int) == 10) = false := by rw [hcn]; simp; omega
              have e10b : (((s[k]).toNat : Int) != 10) = true := by rw [hcn]; simp; omega
              have e9a : (((s[k]).toNat : Int) == 9) = true := by rw [hcn]; simp; omega
              have e9b : (((s[k]).toNat : Int) != 9) = false := by rw [hcn]; simp; omega
              have e47a : (((s[k]).toNat : Int) == 47) = false := by rw [hcn]; simp; omega
              have e47b : (((s[k]).toNat : Int) != 47) = true := by rw [hcn]; simp; omega
              have HQ : Hid (gapB s f (k + 1) true = (t1, t2)) := by
                show _ = (t1, t2)
                rw [← hq]
                simp [h9]
              clear hcn hc hq
              go_wp2_with (go_at_call 51; (with_reducible refine HM.out.mono ?_); rintro e w1 ⟨rfl, rfl⟩)
              go_round
              case rel => exact ⟨k + 1, f, true, by omega, by go_num, rfl, hf'.out, HQ.out⟩
              case measure => simp [intOf]; omega
            have n9 : c.toNat ≠ 9 := toNat_ne h9
            by_cases h47 : c = 47
            · have hcv : c.toNat = 47 := by rw [h47]; rfl
              have e32a : (((s[k]).toNat : Int) == 32) = false := by rw [hcn]; simp; omega
              have e32b : (((s[k]).toNat : Int) != 32) = true := by rw [hcn]; simp; omega
              have e10a : (((s[k]).toNat : Int) == 10) = false := by rw [hcn]; simp; omega
              have e10b : (((s[k]).toNat : Int) != 10) = true := by rw [hcn]; simp; omega
              have e9a : (((s[k]).toNat : Int) == 9) = false := by rw [hcn]; simp; omega
              have e9b : (((s[k]).toNat : Int) != 9) = true := by rw [hcn]; simp; omega
              have e47a : (((s[k]).toNat : Int) == 47) = true := by rw [hcn]; simp; omega
              have e47b : (((s[k]).toNat : Int) != 47) = false := by rw [hcn]; simp; omega
              obtain ⟨d, hd⟩ : ∃ d, s[k + 1] = d := ⟨_, rfl⟩
              have hbd : byteAt s (k + 1) = d := by rw [byteAt_lt hl2, hd]
              have hdn : ((s[k + 1]).toNat : Int) = (d.toNat : Int) := by rw [hd]
              by_cases hd47 : d = 47
              · have hdv : d.toNat = 47 := by rw [hd47]; rfl
                have f1 : (((s[k + 1]).toNat : Int) == 47) = true := by rw [hdn]; simp; omega
                have HQ : Hid (gapB s f (k + 1) true = (t1, t2)) := by
                  show _ = (t1, t2)
                  rw [← hq]
                  simp [h47, hl2, hbd, hd47]
                clear hdn hd hbd
                clear hcn hc hq
                go_wp2_with (go_at_call 51; (with_reducible refine HM.out.mono ?_); rintro e w1 ⟨rfl, rfl⟩)
                go_round
                case rel => exact ⟨k + 1, f, true, by omega, by go_num, rfl, hf'.out, HQ.out⟩
                case measure => simp [intOf]; omega
              · have hdv : d.toNat ≠ 47 := toNat_ne hd47
                have f1 : (((s[k + 1]).toNat : Int) == 47) = false := by rw [hdn]; simp; omega
                have HQ : Hid (gapB s f (k + 1) true = (t1, t2)) := by
                  show _ = (t1, t2)
                  rw [← hq]
                  simp [h47, hl2, hbd, hd47]
                clear hdn hd hbd
                clear hcn hc hq
                go_wp2_with (go_at_call 51; (with_reducible refine HM.out.mono ?_); rintro e w1 ⟨rfl, rfl⟩)
                go_round
                case rel => exact ⟨k + 1, f, true, by omega, by go_num, rfl, hf'.out, HQ.out⟩
                case measure => simp [intOf]; omega
            have n47 : c.toNat ≠ 47 := toNat_ne h47
            have e32a : (((s[k]).toNat : Int) == 32) = false := by rw [hcn]; simp; omega
            have e32b : (((s[k]).toNat : Int) != 32) = true := by rw [hcn]; simp; omega
            have e10a : (((s[k]).toNat : Int) == 10) = false := by rw [hcn]; simp; omega
            have e10b : (((s[k]).toNat : Int) != 10) = true := by rw [hcn]; simp; omega
            have e9a : (((s[k]).toNat : Int) == 9) = false := by rw [hcn]; simp; omega
            have e9b : (((s[k]).toNat : Int) != 9) = true := by rw [hcn]; simp; omega
            have e47a : (((s[k]).toNat : Int) == 47) = false := by rw [hcn]; simp; omega
            have e47b : (((s[k]).toNat : Int) != 47) = true := by rw [hcn]; simp; omega
            have HQ : Hid (gapB s f (k + 1) true = (t1, t2)) := by
              show _ = (t1, t2)
              rw [← hq]
              simp [h47, h10, h32, h9]
            clear hcn hc hq
            go_wp2_with (go_at_call 51; (with_reducible refine HM.out.mono ?_); rintro e w1 ⟨rfl, rfl⟩)
            go_round
            case rel => exact ⟨k + 1, f, true, by omega, by go_num, rfl, hf'.out, HQ.out⟩
            case measure => simp [intOf]; omega
        · have hl2i : ¬ (k : Int) + 1 < (s.size : Int) := by omega
          cases rb
          · by_cases h10 : c = 10
            · have hcv : c.toNat = 10 := by rw [h10]; rfl
              have e32a : (((s[k]).toNat : Int) == 32) = false := by rw [hcn]; simp; omega
              have e32b : (((s[k]).toNat : Int) != 32) = true := by rw [hcn]; simp; omega
              have e10a : (((s[k]).toNat : Int) == 10) = true := by rw [hcn]; simp; omega
              have e10b : (((s[k]).toNat : Int) != 10) = false := by rw [hcn]; simp; omega
              have e9a : (((s[k]).toNat : Int) == 9) = false := by rw [hcn]; simp; omega
              have e9b : (((s[k]).toNat : Int) != 9) = true := by rw [hcn]; simp; omega
              have e47a : (((s[k]).toNat : Int) == 47) = false := by rw [hcn]; simp; omega
              have e47b : (((s[k]).toNat : Int) != 47) = true := by rw [hcn]; simp; omega
              have HQ : Hid (gapB s f (k + 1) false = (t1, t2)) := by
                show _ = (t1, t2)
                rw [← hq]
                simp [h10]
              clear hcn hc hq
              go_wp2_with (go_at_call 51; (with_reducible refine HM.out.mono ?_); rintro e w1 ⟨rfl, rfl⟩)
              go_round
              case rel => exact ⟨k + 1, f, false, by omega, by go_num, rfl, hf'.out, HQ.out⟩
              case measure => simp [intOf]; omega
            have n10 : c.toNat ≠ 10 := toNat_ne h10
            by_cases h32 : c = 32
            · have hcv : c.toNat = 32 := by rw [h32]; rfl
              have e32a : (((s[k]).toNat : Int) == 32) = true := by rw [hcn]; simp; omega
              have e32b : (((s[k]).toNat : Int) != 32) = false := by rw [hcn]; simp; omega
              have e10a : (((s[k]).toNat : Int) == 10) = false := by rw [hcn]; simp; omega
              have e10b : (((s[k]).toNat : Int) != 10) = true := by rw [hcn]; simp; omega
              have e9a : (((s[k]).toNat : Int) == 9) = false := by rw [hcn]; simp; omega
              have e9b : (((s[k]).toNat : Int) != 9) = true := by rw [hcn]; simp; omega
              have e47a : (((s[k]).toNat : Int) == 47) = false := by rw [hcn]; simp; omega
              have e47b : (((s[k]).toNat : Int) != 47) = true := by rw [hcn]; simp; omega
              have HQ : Hid (gapB s f (k + 1) false = (t1, t2)) := by
                show _ = (t1, t2)
                rw [← hq]
                simp [h32]
              clear hcn hc hq
              go_wp2_with (go_at_call 51; (with_reducible refine HM.out.mono ?_); rintro e w1 ⟨rfl, rfl⟩)
              go_round
              case rel => exact ⟨k + 1, f, false, by omega, by go_num, rfl, hf'.out, HQ.out⟩
              case measure => simp [intOf]; omega
            have n32 : c.toNat ≠ 32 := toNat_ne h32
            by_cases h9 : c = 9
            · have hcv : c.toNat = 9 := by rw [h9]; rfl
              have e32a : (((s[k]).toNat : Int) == 32) = false := by rw [hcn]; simp; omega
              have e32b : (((s[k]).toNat : Int) != 32) = true := by rw [hcn]; simp; omega
              have e10a : (((s[k]).toNat : Int) == 10) = false := by rw [hcn]; simp; omega
              have e10b : (((s[k]).toNat : Int) != 10) = true := by rw [hcn]; simp; omega
              have e9a : (((s[k]).toNat : Int) == 9) = true := by rw [hcn]; simp; omega
              have e9b : (((s[k]).toNat : Int) != 9) = false := by rw [hcn]; simp; omega
              have e47a : (((s[k]).toNat : Int) == 47) = false := by rw [hcn]; simp; omega
              have e47b : (((s[k]).toNat : Int) != 47) = true := by rw [hcn]; simp; omega
              have HQ : Hid (gapB s f (k + 1) false = (t1, t2)) := by
                show _ = (t1, t2)
                rw [← hq]
                simp [h9]
              clear hcn hc hq
              go_wp2_with (go_at_call 51; (with_reducible refine HM.out.mono ?_); rintro e w1 ⟨rfl, rfl⟩)
              go_round
              case rel => exact ⟨k + 1, f, false, by omega, by go_num, rfl, hf'.out, HQ.out⟩
              case measure => simp [intOf]; omega
            have n9 : c.toNat ≠ 9 := toNat_ne h9
            by_cases h47 : c = 47
            · have hcv : c.toNat = 47 := by rw [h47]; rfl
              have e32a : (((s[k]).toNat : Int) == 32) = false := by rw [hcn]; simp; omega
              have e32b : (((s[k]).toNat : Int) != 32) = true := by rw [hcn]; simp; omega
              have e10a : (((s[k]).toNat : Int) == 10) = false := by rw [hcn]; simp; omega
              have e10b : (((s[k]).toNat : Int) != 10) = true := by rw [hcn]; simp; omega
              have e9a : (((s[k]).toNat : Int) == 9) = false := by rw [hcn]; simp; omega
              have e9b : (((s[k]).toNat : Int) != 9) = true := by rw [hcn]; simp; omega
              have e47a : (((s[k]).toNat : Int) == 47) = true := by rw [hcn]; simp; omega
              have e47b : (((s[k]).toNat : Int) != 47) = false := by rw [hcn]; simp; omega
              have HQ : Hid ((k, true) = (t1, t2)) := by
                show _ = (t1, t2)
                rw [← hq]
                simp [h47, hl2]
              have he := HQ.out
              simp only [Prod.mk.injEq] at he
              obtain ⟨rfl, rfl⟩ := he
              clear hcn hc hq HQ
              go_wp2_with (go_at_call 51; (with_reducible refine HM.out.mono ?_); rintro e w1 ⟨rfl, rfl⟩)
              go_ret2
              exact ⟨rfl, rfl⟩
            have n47 : c.toNat ≠ 47 := toNat_ne h47
            have e32a : (((s[k]).toNat : Int) == 32) = false := by rw [hcn]; simp; omega
            have e32b : (((s[k]).toNat : Int) != 32) = true := by rw [hcn]; simp; omega
            have e10a : (((s[k]).toNat : Int) == 10) = false := by rw [hcn]; simp; omega
            have e10b : (((s[k]).toNat : Int) != 10) = true := by rw [hcn]; simp; omega
            have e9a : (((s[k]).toNat : Int) == 9) = false := by rw [hcn]; simp; omega
            have e9b : (((s[k]).toNat : Int) != 9) = true := by rw [hcn]; simp; omega
            have e47a : (((s[k]).toNat : Int) == 47) = false := by rw [hcn]; simp; omega
            have e47b : (((s[k]).toNat : Int) != 47) = true := by rw [hcn]; simp; omega
            have HQ : Hid ((k, true) = (t1, t2)) := by
              show _ = (t1, t2)
              rw [← hq]
              simp [h47, h10, h32, h9]
            have he := HQ.out
            simp only [Prod.mk.injEq] at he
            obtain ⟨rfl, rfl⟩ := he
            clear hcn hc hq HQ
            go_wp2_with (go_at_call 51; (with_reducible refine HM.out.mono ?_); rintro e w1 ⟨rfl, rfl⟩)
            go_ret2
            exact ⟨rfl, rfl⟩
          · by_cases h10 : c = 10
            · have hcv : c.toNat = 10 := by rw [h10]; rfl
              have e32a : (((s[k]).toNat : Int) == 32) = false := by rw [hcn]; simp; omega
              have e32b : (((s[k]).toNat : Int) != 32) = true := by rw [hcn]; simp; omega
              have e10a : (((s[k]).toNat : Int) == 10) = true := by rw [hcn]; simp; omega
              have e10b : (((s[k]).toNat : Int) != 10) = false := by rw [hcn]; simp; omega
              have e9a : (((s[k]).toNat : Int) == 9) = false := by rw [hcn]; simp; omega
              have e9b : (((s[k]).toNat : Int) != 9) = true := by rw [hcn]; simp; omega
              have e47a : (((s[k]).toNat : Int) == 47) = false := by rw [hcn]; simp; omega
              have e47b : (((s[k]).toNat : Int) != 47) = true := by rw [hcn]; simp; omega
              have HQ : Hid (gapB s f (k + 1) false = (t1, t2)) := by
                show _ = (t1, t2)
                rw [← hq]
                simp [h10]
              clear hcn hc hq
              go_wp2_with (go_at_call 51; (with_reducible refine HM.out.mono ?_); rintro e w1 ⟨rfl, rfl⟩)
              go_round
              case rel => exact ⟨k + 1, f, false, by omega, by go_num, rfl, hf'.out, HQ.out⟩
              case measure => simp [intOf]; omega
            have n10 : c.toNat ≠ 10 := toNat_ne h10
            by_cases h32 : c = 32
            · have hcv : c.toNat = 32 := by rw [h32]; rfl
              have e32a : (((s[k]).toNat : Int) == 32) = true := by rw [hcn]; simp; omega
              have e32b : (((s[k]).toNat : Int) != 32) = false := by rw [hcn]; simp; omega
              have e10a : (((s[k]).toNat : Int) == 10) = false := by rw [hcn]; simp; omega
              have e10b : (((s[k]).toNat : Int) != 10) = true := by rw [hcn]; simp; omega
              have e9a : (((s[k]).toNat : Int) == 9) = false := by rw [hcn]; simp; omega
              have e9b : (((s[k]).toNat : Int) != 9) = true := by rw [hcn]; simp; omega
              have e47a : (((s[k]).toNat : Int) == 47) = false := by rw [hcn]; simp; omega
              have e47b : (((s[k]).toNat : Int) != 47) = true := by rw [hcn]; simp; omega
              have HQ : Hid (gapB s f (k + 1) true = (t1, t2)) := by
                show _ = (t1, t2)
                rw [← hq]
                simp [h32]
              clear hcn hc hq
              go_wp2_with (go_at_call 51; (with_reducible refine HM.out.mono ?_); rintro e w1 ⟨rfl, rfl⟩)
              go_round
              case rel => exact ⟨k + 1, f, true, by omega, by go_num, rfl, hf'.out, HQ.out⟩
              case measure => simp [intOf]; omega
            have n32 : c.toNat ≠ 32 := toNat_ne h32
            by_cases h9 : c = 9
            · have hcv : c.toNat = 9 := by rw [h9]; rfl
              have e32a : (((s[k]).toNat : Int) == 32) = false := by rw [hcn]; simp; omega
              have e32b : (((s[k]).toNat : Int) != 32) = true := by rw [hcn]; simp; omega
              have e10a : (((s[k]).toNat : Int) == 10) = false := by rw [hcn]; simp; omega
              have e10b : (((s[k]).toNat : Int) != 10) = true := by rw [hcn]; simp; omega
              have e9a : (((s[k]).toNat : Int) == 9) = true := by rw [hcn]; simp; omega
              have e9b : (((s[k]).toNat : Int) != 9) = false := by rw [hcn]; simp; omega
              have e47a : (((s[k]).toNat : Int) == 47) = false := by rw [hcn]; simp; omega
              have e47b : (((s[k]).toNat : Int) != 47) = true := by rw [hcn]; simp; omega
              have HQ : Hid (gapB s f (k + 1) true = (t1, t2)) := by
                show _ = (t1, t2)
                rw [← hq]
                simp [h9]
              clear hcn hc hq
              go_wp2_with (go_at_call 51; (with_reducible refine HM.out.mono ?_); rintro e w1 ⟨rfl, rfl⟩)
              go_round
              case rel => exact ⟨k + 1, f, true, by omega, by go_num, rfl, hf'.out, HQ.out⟩
              case measure => simp [intOf]; omega
            have n9 : c.toNat ≠ 9 := toNat_ne h9
            by_cases h47 : c = 47
            · have hcv : c.toNat = 47 := by rw [h47]; rfl
              have e32a : (((s[k]).toNat : Int) == 32) = false := by rw [hcn]; simp; omega
              have e32b : (((s[k]).toNat : Int) != 32) = true := by rw [hcn]; simp; omega
              have e10a : (((s[k]).toNat : Int) == 10) = false := by rw [hcn]; simp; omega
              have e10b : (((s[k]).toNat : Int) != 10) = true := by rw [hcn]; simp; omega
              have e9a : (((s[k]).toNat : Int) == 9) = false := by rw [hcn]; simp; omega
              have e9b : (((s[k]).toNat : Int) != 9) = true := by rw [hcn]; simp; omega
              have e47a : (((s[k]).toNat : Int) == 47) = true := by rw [hcn]; simp; omega
              have e47b : (((s[k]).toNat : Int) != 47) = false := by rw [hcn]; simp; omega
              have HQ : Hid (gapB s f (k + 1) true = (t1, t2)) := by
                show _ = (t1, t2)
                rw [← hq]
                simp [h47, hl2]
              clear hcn hc hq
              go_wp2_with (go_at_call 51; (with_reducible refine HM.out.mono ?_); rintro e w1 ⟨rfl, rfl⟩)
              go_round
              case rel => exact ⟨k + 1, f, true, by omega, by go_num, rfl, hf'.out, HQ.out⟩
              case measure => simp [intOf]; omega
            have n47 : c.toNat ≠ 47 := toNat_ne h47
            have e32a : (((s[k]).toNat : Int) == 32) = false := by rw [hcn]; simp; omega
            have e32b : (((s[k]).toNat : Int) != 32) = true := by rw [hcn]; simp; omega
            have e10a : (((s[k]).toNat : Int) == 10) = false := by rw [hcn]; simp; omega
            have e10b : (((s[k]).toNat : Int) != 10) = true := by rw [hcn]; simp; omega
            have e9a : (((s[k]).toNat : Int) == 9) = false := by rw [hcn]; simp; omega
            have e9b : (((s[k]).toNat : Int) != 9) = true := by rw [hcn]; simp; omega
            have e47a : (((s[k]).toNat : Int) == 47) = false := by rw [hcn]; simp; omega
            have e47b : (((s[k]).toNat : Int) != 47) = true := by rw [hcn]; simp; omega
            have HQ : Hid (gapB s f (k + 1) true = (t1, t2)) := by
              show _ = (t1, t2)
              rw [← hq]
              simp [h47, h10, h32, h9]
            clear hcn hc hq
            go_wp2_with (go_at_call 51; (with_reducible refine HM.out.mono ?_); rintro e w1 ⟨rfl, rfl⟩)
            go_round
            case rel => exact ⟨k + 1, f, true, by omega, by go_num, rfl, hf'.out, HQ.out⟩
            case measure => simp [intOf]; omega
    · rw [gapB_end s f k rb hlt] at hq
      simp only [Prod.mk.injEq] at hq
      obtain ⟨rfl, rfl⟩ := hq
      clear hf
      go_wp2
      go_ret2
      exact ⟨rfl, rfl⟩
end Go.Proofs.YtnbfadgclffgkaaGreatDoor
