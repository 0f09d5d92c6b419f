/- The walks of clewref04.IsName and clewref04.IsText. -/
import Derived.Test.YtblhpiebheommaaLetter
namespace Go.Proofs.Ytblhpiebheommaa
open Go.RowKit Go.Sort

set_option maxRecDepth 100000 in
set_option maxHeartbeats 1000000 in
theorem isNameR_calls (s : ByteArray) (w : World) (hs : s.size ≤ maxLen) : Calls Try.prog 25 #[.string s] w (Same0 w (.bool (dec (IsName s)))) := by
  unfold maxLen at hs
  by_cases h0 : 0 < s.size
  rotate_left
  · have hd : Hid (dec (IsName s) = false) := dec_false (fun ⟨h, _⟩ => h0 h)
    go_enter Try.func25, Try.ntmps25
    go_wp2
    go_ret
    exact ⟨ret_bool hd.out.symm, rfl⟩
  have d1 : decide ((s.size : Int) < 1) = false := by simp; omega
  by_cases h24 : s.size ≤ 24
  rotate_left
  · have hd : Hid (dec (IsName s) = false) := dec_false (fun ⟨_, h, _⟩ => h24 h)
    have d2 : decide (24 < (s.size : Int)) = true := by simp; omega
    go_enter Try.func25, Try.ntmps25
    go_wp2
    go_ret
    exact ⟨ret_bool hd.out.symm, rfl⟩
  have d2 : decide (24 < (s.size : Int)) = false := by simp; omega
  have hsm := smallR_calls s[0] w
  by_cases h1 : Small s[0]
  rotate_left
  · have hd : Hid (dec (IsName s) = false) := dec_false (fun ⟨_, _, h, _⟩ => h1 h)
    rw [dec_false h1] at hsm
    have HS := Lib.hid hsm
    clear hsm h1
    go_enter Try.func25, Try.ntmps25
    go_wp2_with (go_at_call 46; refine HS.out.mono ?_; rintro e w' ⟨rfl, rfl⟩)
    go_ret
    exact ⟨ret_bool hd.out.symm, rfl⟩
  rw [dec_true h1] at hsm
  have HS := Lib.hid hsm
  have H1 := Lib.hid h1
  clear hsm h1
  go_enter Try.func25, Try.ntmps25
  go_wp2_with (go_at_call 46; refine HS.out.mono ?_; rintro e w' ⟨rfl, rfl⟩)
  clear HS
  go_loop [3] (fun i => ∃ k : Nat, k ≤ s.size ∧ i = .int .i64 k ∧ Hid (∀ i (hi : i < s.size), i < k → NameCh s[i])) (fun i => s.size - (intOf i).toNat)
  case atStart => exact ⟨0, Nat.zero_le _, rfl, fun i hi h => absurd h (by omega)⟩
  case round =>
    obtain ⟨k, hk, rfl, hq⟩ := hrel
    by_cases hlt : k < s.size
    · have hchs := smallR_calls s[k] w
      have hchd := digitR_calls s[k] w
      by_cases h2 : NameCh s[k]
      · have hnx : Hid (∀ i (hi : i < s.size), i < k + 1 → NameCh s[i]) := fun i hi h => by
          by_cases hik : i = k
          · subst hik; exact h2
          · exact hq.out i hi (by omega)
        clear hq
        by_cases ha : Small s[k]
        · rw [dec_true ha] at hchs
          have HC := Lib.hid hchs
          clear hchs hchd h2 ha
          go_wp2_with (go_at_call 46; refine HC.out.mono ?_; rintro e w' ⟨rfl, rfl⟩)
          go_round
          case rel => exact ⟨k + 1, by omega, by go_num, hnx⟩
          case measure => simp [intOf]; omega
        · rw [dec_false ha] at hchs
          have HC := Lib.hid hchs
          by_cases hb : Digit s[k]
          · rw [dec_true hb] at hchd
            have HD := Lib.hid hchd
            clear hchs hchd h2 ha hb
            go_wp2_with (first | (go_at_call 46; refine HC.out.mono ?_; rintro e w' ⟨rfl, rfl⟩) | (go_at_call 47; refine HD.out.mono ?_; rintro e w' ⟨rfl, rfl⟩))
            go_round
            case rel => exact ⟨k + 1, by omega, by go_num, hnx⟩
            case measure => simp [intOf]; omega
          · rw [dec_false hb] at hchd
            have HD := Lib.hid hchd
            have h95 : (((s[k]).toNat : Int) != 95) = false := by
              rcases h2 with h2 | h2 | h2
              · exact absurd h2 ha
              · exact absurd h2 hb
              · simp [h2]
            clear hchs hchd h2 ha hb
            go_wp2_with (first | (go_at_call 46; refine HC.out.mono ?_; rintro e w' ⟨rfl, rfl⟩) | (go_at_call 47; refine HD.out.mono ?_; rintro e w' ⟨rfl, rfl⟩))
            go_round
            case rel => exact ⟨k + 1, by omega, by go_num, hnx⟩
            case measure => simp [intOf]; omega
      · have hd : Hid (dec (IsName s) = false) := dec_false (fun ⟨_, _, _, h⟩ => h2 (h k hlt))
        have ha : ¬ Small s[k] := fun h => h2 (Or.inl h)
        have hb : ¬ Digit s[k] := fun h => h2 (Or.inr (Or.inl h))
        have hc : (s[k]).toNat ≠ 95 := fun h => h2 (Or.inr (Or.inr h))
        rw [dec_false ha] at hchs
        rw [dec_false hb] at hchd
        have h95 : (((s[k]).toNat : Int) != 95) = true := by simp; omega
        have HC := Lib.hid hchs
        have HD := Lib.hid hchd
        clear hchs hchd h2 ha hb hc hq
        go_wp2_with (first | (go_at_call 46; refine HC.out.mono ?_; rintro e w' ⟨rfl, rfl⟩) | (go_at_call 47; refine HD.out.mono ?_; rintro e w' ⟨rfl, rfl⟩))
        go_ret
        exact ⟨ret_bool hd.out.symm, rfl⟩
    · have hd : Hid (dec (IsName s) = true) := dec_true ⟨h0, h24, H1.out, fun i hi => hq.out i hi (by omega)⟩
      clear hq
      go_wp2
      go_ret
      exact ⟨ret_bool hd.out.symm, rfl⟩

set_option maxRecDepth 100000 in
set_option maxHeartbeats 1000000 in
theorem isTextR_calls (s : ByteArray) (w : World) (hs : s.size ≤ maxLen) : Calls Try.prog 54 #[.string s] w (Same0 w (.bool (dec (IsText s)))) := by
  unfold maxLen at hs
  go_enter Try.func54, Try.ntmps54
  go_wp2
  go_loop [3] (fun i => ∃ k : Nat, k ≤ s.size ∧ i = .int .i64 k ∧ Hid (∀ i (hi : i < s.size), i < k → TextCh s[i])) (fun i => s.size - (intOf i).toNat)
  case atStart => exact ⟨0, Nat.zero_le _, rfl, fun i hi h => absurd h (by omega)⟩
  case round =>
    obtain ⟨k, hk, rfl, hq⟩ := hrel
    by_cases hlt : k < s.size
    · by_cases h2 : TextCh s[k]
      · have hnx : Hid (∀ i (hi : i < s.size), i < k + 1 → TextCh s[i]) := fun i hi h => by
          by_cases hik : i = k
          · subst hik; exact h2
          · exact hq.out i hi (by omega)
        clear hq
        rcases h2 with h2 | h2
        · have e1 : decide (((s[k]).toNat : Int) < 32) = false := by simp; omega
          have e2 : decide (126 < ((s[k]).toNat : Int)) = false := by simp; omega
          clear h2
          go_wp2
          go_round
          case rel => exact ⟨k + 1, by omega, by go_num, hnx⟩
          case measure => simp [intOf]; omega
        · have e1 : decide (((s[k]).toNat : Int) < 32) = true := by simp; omega
          have e2 : (((s[k]).toNat : Int) != 10) = false := by simp [h2]
          clear h2
          go_wp2
          go_round
          case rel => exact ⟨k + 1, by omega, by go_num, hnx⟩
          case measure => simp [intOf]; omega
      · have hd : Hid (dec (IsText s) = false) := dec_false (fun ⟨_, h⟩ => h2 (h k hlt))
        have e3 : (((s[k]).toNat : Int) != 10) = true := by simp; intro h; exact h2 (Or.inr (by omega))
        by_cases h3 : (s[k]).toNat < 32
        · have e1 : decide (((s[k]).toNat : Int) < 32) = true := by simp; omega
          clear h2 h3 hq
          go_wp2
          go_ret
          exact ⟨ret_bool hd.out.symm, rfl⟩
        · have e1 : decide (((s[k]).toNat : Int) < 32) = false := by simp; omega
          have e2 : decide (126 < ((s[k]).toNat : Int)) = true := by
            simp
            by_cases h4 : (s[k]).toNat ≤ 126
            · exact absurd (Or.inl ⟨by omega, h4⟩) h2
            · omega
          clear h2 h3 hq
          go_wp2
          go_ret
          exact ⟨ret_bool hd.out.symm, rfl⟩
    · have hd : Hid (dec (IsText s) = decide (s.size ≤ 1024)) := by
        show dec (IsText s) = _
        by_cases h : s.size ≤ 1024
        · rw [dec_true ⟨h, fun i hi => hq.out i hi (by omega)⟩]; simp [h]
        · rw [dec_false (fun ⟨h', _⟩ => h h')]; simp [h]
      clear hq
      go_wp2
      go_ret
      exact ⟨ret_bool (by rw [hd.out]; simp; omega), rfl⟩

end Go.Proofs.Ytblhpiebheommaa
