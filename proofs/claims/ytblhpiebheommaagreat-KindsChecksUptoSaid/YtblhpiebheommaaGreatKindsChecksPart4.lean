/- The walks of package letter's IsName and IsText, and of clewref04's: what is a name, what is a text. -/
import Derived.Test.YtblhpiebheommaaGreatKindsChecksPart3
import Derived.Test.YtblhpiebheommaaGreatData
import Derived.Lib.IndexMore
namespace Go.Proofs.YtblhpiebheommaaGreat
open Go.RowKit Go.Sort

/-- Does it hold? -/
noncomputable def dec (p : Prop) : Bool := @decide p (Classical.propDecidable p)
theorem dec_true {p : Prop} (h : p) : dec p = true := by simp [dec, h]
theorem dec_false {p : Prop} (h : ¬ p) : dec p = false := by simp [dec, h]
theorem dec_iff {p : Prop} : dec p = true ↔ p := by simp [dec]
theorem dec_congr {p q : Prop} (h : p ↔ q) : dec p = dec q := by rw [propext h]

/-- A call's post: it hands back v, and the world is the very same. -/
def Same0 (w : World) (v : Value) (e : Ending) (w' : World) : Prop := e = .returned v ∧ w = w'

def Small (c : UInt8) : Prop := 97 ≤ c.toNat ∧ c.toNat ≤ 122
def Digit (c : UInt8) : Prop := 48 ≤ c.toNat ∧ c.toNat ≤ 57
def NameCh (c : UInt8) : Prop := Small c ∨ Digit c ∨ c.toNat = 95
def TextCh (c : UInt8) : Prop := (32 ≤ c.toNat ∧ c.toNat ≤ 126) ∨ c.toNat = 10

set_option maxHeartbeats 400000 in
theorem small_calls (c : UInt8) (w : World) : Calls Tryz.prog 92 #[.int .u8 c.toNat] w (Same0 w (.bool (dec (Small c)))) := by
  have hc := c.toNat_lt
  generalize hn : c.toNat = n at hc
  by_cases h1 : 97 ≤ n
  · have hd : Hid (dec (Small c) = decide ((n : Int) ≤ 122)) := by
      show dec (Small c) = _
      by_cases h2 : n ≤ 122
      · rw [dec_true (by unfold Small; omega)]; symm; simp; omega
      · rw [dec_false (by unfold Small; omega)]; symm; simp; omega
    clear hn
    go_enter Tryz.func92, Tryz.ntmps92
    go_wp2
    go_ret
    exact ⟨ret_bool hd.out.symm, rfl⟩
  · have hd : Hid (dec (Small c) = false) := dec_false (by unfold Small; omega)
    clear hn
    go_enter Tryz.func92, Tryz.ntmps92
    go_wp2
    go_ret
    exact ⟨ret_bool hd.out.symm, rfl⟩

set_option maxHeartbeats 400000 in
theorem digit_calls (c : UInt8) (w : World) : Calls Tryz.prog 94 #[.int .u8 c.toNat] w (Same0 w (.bool (dec (Digit c)))) := by
  have hc := c.toNat_lt
  generalize hn : c.toNat = n at hc
  by_cases h1 : 48 ≤ n
  · have hd : Hid (dec (Digit c) = decide ((n : Int) ≤ 57)) := by
      show dec (Digit c) = _
      by_cases h2 : n ≤ 57
      · rw [dec_true (by unfold Digit; omega)]; symm; simp; omega
      · rw [dec_false (by unfold Digit; omega)]; symm; simp; omega
    clear hn
    go_enter Tryz.func94, Tryz.ntmps94
    go_wp2
    go_ret
    exact ⟨ret_bool hd.out.symm, rfl⟩
  · have hd : Hid (dec (Digit c) = false) := dec_false (by unfold Digit; omega)
    clear hn
    go_enter Tryz.func94, Tryz.ntmps94
    go_wp2
    go_ret
    exact ⟨ret_bool hd.out.symm, rfl⟩

set_option maxHeartbeats 400000 in
theorem smallR_calls (c : UInt8) (w : World) : Calls Tryz.prog 40 #[.int .u8 c.toNat] w (Same0 w (.bool (dec (Small c)))) := by
  have hc := c.toNat_lt
  generalize hn : c.toNat = n at hc
  by_cases h1 : 97 ≤ n
  · have hd : Hid (dec (Small c) = decide ((n : Int) ≤ 122)) := by
      show dec (Small c) = _
      by_cases h2 : n ≤ 122
      · rw [dec_true (by unfold Small; omega)]; symm; simp; omega
      · rw [dec_false (by unfold Small; omega)]; symm; simp; omega
    clear hn
    go_enter Tryz.func40, Tryz.ntmps40
    go_wp2
    go_ret
    exact ⟨ret_bool hd.out.symm, rfl⟩
  · have hd : Hid (dec (Small c) = false) := dec_false (by unfold Small; omega)
    clear hn
    go_enter Tryz.func40, Tryz.ntmps40
    go_wp2
    go_ret
    exact ⟨ret_bool hd.out.symm, rfl⟩

set_option maxHeartbeats 400000 in
theorem digitR_calls (c : UInt8) (w : World) : Calls Tryz.prog 41 #[.int .u8 c.toNat] w (Same0 w (.bool (dec (Digit c)))) := by
  have hc := c.toNat_lt
  generalize hn : c.toNat = n at hc
  by_cases h1 : 48 ≤ n
  · have hd : Hid (dec (Digit c) = decide ((n : Int) ≤ 57)) := by
      show dec (Digit c) = _
      by_cases h2 : n ≤ 57
      · rw [dec_true (by unfold Digit; omega)]; symm; simp; omega
      · rw [dec_false (by unfold Digit; omega)]; symm; simp; omega
    clear hn
    go_enter Tryz.func41, Tryz.ntmps41
    go_wp2
    go_ret
    exact ⟨ret_bool hd.out.symm, rfl⟩
  · have hd : Hid (dec (Digit c) = false) := dec_false (by unfold Digit; omega)
    clear hn
    go_enter Tryz.func41, Tryz.ntmps41
    go_wp2
    go_ret
    exact ⟨ret_bool hd.out.symm, rfl⟩

set_option maxHeartbeats 400000 in
theorem nameCh_calls (c : UInt8) (w : World) : Calls Tryz.prog 93 #[.int .u8 c.toNat] w (Same0 w (.bool (dec (NameCh c)))) := by
  have hs := Lib.hid (small_calls c w)
  have hg := Lib.hid (digit_calls c w)
  by_cases h1 : Small c
  · rw [dec_true h1] at hs
    have hd : Hid (dec (NameCh c) = true) := dec_true (Or.inl h1)
    clear h1
    go_enter Tryz.func93, Tryz.ntmps93
    go_wp2_with (go_at_call 92; refine hs.out.mono ?_; rintro e w' ⟨rfl, rfl⟩)
    go_ret
    exact ⟨ret_bool hd.out.symm, rfl⟩
  rw [dec_false h1] at hs
  by_cases h2 : Digit c
  · rw [dec_true h2] at hg
    have hd : Hid (dec (NameCh c) = true) := dec_true (Or.inr (Or.inl h2))
    clear h1 h2
    go_enter Tryz.func93, Tryz.ntmps93
    go_wp2_with (first | (go_at_call 92; refine hs.out.mono ?_; rintro e w' ⟨rfl, rfl⟩) | (go_at_call 94; refine hg.out.mono ?_; rintro e w' ⟨rfl, rfl⟩))
    go_ret
    exact ⟨ret_bool hd.out.symm, rfl⟩
  rw [dec_false h2] at hg
  have hd : Hid (dec (NameCh c) = ((c.toNat : Int) == 95)) := by
    show dec (NameCh c) = _
    by_cases h3 : c.toNat = 95
    · rw [dec_true (show NameCh c from Or.inr (Or.inr h3)), h3]; rfl
    · rw [dec_false (by unfold NameCh; simp [h1, h2, h3])]; symm; simp; omega
  clear h1 h2
  go_enter Tryz.func93, Tryz.ntmps93
  go_wp2_with (first | (go_at_call 92; refine hs.out.mono ?_; rintro e w' ⟨rfl, rfl⟩) | (go_at_call 94; refine hg.out.mono ?_; rintro e w' ⟨rfl, rfl⟩))
  go_ret
  exact ⟨ret_bool hd.out.symm, rfl⟩


/-- A name: 1 to 24 bytes, the first a small letter, all small letters, digits or '_'. -/
def IsName (s : ByteArray) : Prop := ∃ h : 0 < s.size, s.size ≤ 24 ∧ Small s[0] ∧ ∀ i (hi : i < s.size), NameCh s[i]
/-- A text: at most 1024 bytes, each in [32, 126] or a line feed. -/
def IsText (s : ByteArray) : Prop := s.size ≤ 1024 ∧ ∀ i (hi : i < s.size), TextCh s[i]

set_option maxRecDepth 100000 in
set_option maxHeartbeats 1000000 in
theorem allName_calls (s : ByteArray) (w : World) (hs : s.size ≤ maxLen) : Calls Tryz.prog 91 #[.string s, .int .i64 24, .func (.func 92) #[] #[], .func (.func 93) #[] #[]] w (Same0 w (.bool (dec (IsName s)))) := by
  unfold maxLen at hs
  by_cases h0 : 0 < s.size
  rotate_left
  · have hd : Hid (dec (IsName s) = false) := dec_false (fun ⟨h, _⟩ => h0 h)
    go_enter Tryz.func91, Tryz.ntmps91
    go_wp2
    go_ret
    exact ⟨ret_bool hd.out.symm, rfl⟩
  have d1 : decide ((s.size : Int) < 1) = false := by simp; omega
  by_cases h24 : s.size ≤ 24
  rotate_left
  · have hd : Hid (dec (IsName s) = false) := dec_false (fun ⟨_, h, _⟩ => h24 h)
    have d2 : decide (24 < (s.size : Int)) = true := by simp; omega
    go_enter Tryz.func91, Tryz.ntmps91
    go_wp2
    go_ret
    exact ⟨ret_bool hd.out.symm, rfl⟩
  have d2 : decide (24 < (s.size : Int)) = false := by simp; omega
  have hsm := small_calls s[0] w
  by_cases h1 : Small s[0]
  rotate_left
  · have hd : Hid (dec (IsName s) = false) := dec_false (fun ⟨_, _, h, _⟩ => h1 h)
    rw [dec_false h1] at hsm
    have HS := Lib.hid hsm
    clear hsm h1
    go_enter Tryz.func91, Tryz.ntmps91
    go_wp2_with (go_at_call 92; refine HS.out.mono ?_; rintro e w' ⟨rfl, rfl⟩)
    go_ret
    exact ⟨ret_bool hd.out.symm, rfl⟩
  rw [dec_true h1] at hsm
  have HS := Lib.hid hsm
  have H1 := Lib.hid h1
  clear hsm h1
  go_enter Tryz.func91, Tryz.ntmps91
  go_wp2_with (go_at_call 92; refine HS.out.mono ?_; rintro e w' ⟨rfl, rfl⟩)
  go_loop [28] (fun i => ∃ k : Nat, k ≤ s.size ∧ i = .int .i64 k ∧ Hid (∀ i (hi : i < s.size), i < k → NameCh s[i])) (fun i => s.size - (intOf i).toNat)
  case atStart => exact ⟨0, Nat.zero_le _, rfl, fun i hi h => absurd h (by omega)⟩
  case round =>
    obtain ⟨k, hk, rfl, hq⟩ := hrel
    by_cases hlt : k < s.size
    · have hch := nameCh_calls s[k] w
      by_cases h2 : NameCh s[k]
      · rw [dec_true h2] at hch
        have hnx : Hid (∀ i (hi : i < s.size), i < k + 1 → NameCh s[i]) := fun i hi h => by
          by_cases hik : i = k
          · subst hik; exact h2
          · exact hq.out i hi (by omega)
        have HC := Lib.hid hch
        clear hq hch h2
        go_wp2_with (go_at_call 93; refine HC.out.mono ?_; rintro e w' ⟨rfl, rfl⟩)
        go_round
        case rel => exact ⟨k + 1, by omega, by go_num, hnx⟩
        case measure => simp [intOf]; omega
      · have hd : Hid (dec (IsName s) = false) := dec_false (fun ⟨_, _, _, h⟩ => h2 (h k hlt))
        rw [dec_false h2] at hch
        have HC := Lib.hid hch
        clear hq hch h2
        go_wp2_with (go_at_call 93; refine HC.out.mono ?_; rintro e w' ⟨rfl, rfl⟩)
        go_ret
        exact ⟨ret_bool hd.out.symm, rfl⟩
    · have hd : Hid (dec (IsName s) = true) := dec_true ⟨h0, h24, H1.out, fun i hi => hq.out i hi (by omega)⟩
      clear hq
      go_wp2
      go_ret
      exact ⟨ret_bool hd.out.symm, rfl⟩

set_option maxHeartbeats 400000 in
theorem isName_calls (s : ByteArray) (w : World) (hs : s.size ≤ maxLen) : Calls Tryz.prog 74 #[.string s] w (Same0 w (.bool (dec (IsName s)))) := by
  have HC := Lib.hid (allName_calls s w hs)
  go_enter Tryz.func74, Tryz.ntmps74
  go_wp2_with (go_at_call 91; refine HC.out.mono ?_; rintro e w' ⟨rfl, rfl⟩)
  go_ret
  exact ⟨rfl, rfl⟩



end Go.Proofs.YtblhpiebheommaaGreat
/- The walks of clewref04.IsName and clewref04.IsText. -/
namespace Go.Proofs.YtblhpiebheommaaGreat
open Go.RowKit Go.Sort

set_option maxRecDepth 100000 in
set_option maxHeartbeats 1000000 in
theorem isNameR_calls (s : ByteArray) (w : World) (hs : s.size ≤ maxLen) : Calls Tryz.prog 18 #[.string s] w (Same0 w (.bool (dec (IsName s)))) := by
  unfold maxLen at hs
  by_cases h0 : 0 < s.size
  rotate_left
  · have hd : Hid (dec (IsName s) = false) := dec_false (fun ⟨h, _⟩ => h0 h)
    go_enter Tryz.func18, Tryz.ntmps18
    go_wp2
    go_ret
    exact ⟨ret_bool hd.out.symm, rfl⟩
  have d1 : decide ((s.size : Int) < 1) = false := by simp; omega
  by_cases h24 : s.size ≤ 24
  rotate_left
  · have hd : Hid (dec (IsName s) = false) := dec_false (fun ⟨_, h, _⟩ => h24 h)
    have d2 : decide (24 < (s.size : Int)) = true := by simp; omega
    go_enter Tryz.func18, Tryz.ntmps18
    go_wp2
    go_ret
    exact ⟨ret_bool hd.out.symm, rfl⟩
  have d2 : decide (24 < (s.size : Int)) = false := by simp; omega
  have hsm := smallR_calls s[0] w
  by_cases h1 : Small s[0]
  rotate_left
  · have hd : Hid (dec (IsName s) = false) := dec_false (fun ⟨_, _, h, _⟩ => h1 h)
    rw [dec_false h1] at hsm
    have HS := Lib.hid hsm
    clear hsm h1
    go_enter Tryz.func18, Tryz.ntmps18
    go_wp2_with (go_at_call 40; refine HS.out.mono ?_; rintro e w' ⟨rfl, rfl⟩)
    go_ret
    exact ⟨ret_bool hd.out.symm, rfl⟩
  rw [dec_true h1] at hsm
  have HS := Lib.hid hsm
  have H1 := Lib.hid h1
  clear hsm h1
  go_enter Tryz.func18, Tryz.ntmps18
  go_wp2_with (go_at_call 40; refine HS.out.mono ?_; rintro e w' ⟨rfl, rfl⟩)
  clear HS
  go_loop [3] (fun i => ∃ k : Nat, k ≤ s.size ∧ i = .int .i64 k ∧ Hid (∀ i (hi : i < s.size), i < k → NameCh s[i])) (fun i => s.size - (intOf i).toNat)
  case atStart => exact ⟨0, Nat.zero_le _, rfl, fun i hi h => absurd h (by omega)⟩
  case round =>
    obtain ⟨k, hk, rfl, hq⟩ := hrel
    by_cases hlt : k < s.size
    · have hchs := smallR_calls s[k] w
      have hchd := digitR_calls s[k] w
      by_cases h2 : NameCh s[k]
      · have hnx : Hid (∀ i (hi : i < s.size), i < k + 1 → NameCh s[i]) := fun i hi h => by
          by_cases hik : i = k
          · subst hik; exact h2
          · exact hq.out i hi (by omega)
        clear hq
        by_cases ha : Small s[k]
        · rw [dec_true ha] at hchs
          have HC := Lib.hid hchs
          clear hchs hchd h2 ha
          go_wp2_with (go_at_call 40; refine HC.out.mono ?_; rintro e w' ⟨rfl, rfl⟩)
          go_round
          case rel => exact ⟨k + 1, by omega, by go_num, hnx⟩
          case measure => simp [intOf]; omega
        · rw [dec_false ha] at hchs
          have HC := Lib.hid hchs
          by_cases hb : Digit s[k]
          · rw [dec_true hb] at hchd
            have HD := Lib.hid hchd
            clear hchs hchd h2 ha hb
            go_wp2_with (first | (go_at_call 40; refine HC.out.mono ?_; rintro e w' ⟨rfl, rfl⟩) | (go_at_call 41; refine HD.out.mono ?_; rintro e w' ⟨rfl, rfl⟩))
            go_round
            case rel => exact ⟨k + 1, by omega, by go_num, hnx⟩
            case measure => simp [intOf]; omega
          · rw [dec_false hb] at hchd
            have HD := Lib.hid hchd
            have h95 : (((s[k]).toNat : Int) != 95) = false := by
              rcases h2 with h2 | h2 | h2
              · exact absurd h2 ha
              · exact absurd h2 hb
              · simp [h2]
            clear hchs hchd h2 ha hb
            go_wp2_with (first | (go_at_call 40; refine HC.out.mono ?_; rintro e w' ⟨rfl, rfl⟩) | (go_at_call 41; refine HD.out.mono ?_; rintro e w' ⟨rfl, rfl⟩))
            go_round
            case rel => exact ⟨k + 1, by omega, by go_num, hnx⟩
            case measure => simp [intOf]; omega
      · have hd : Hid (dec (IsName s) = false) := dec_false (fun ⟨_, _, _, h⟩ => h2 (h k hlt))
        have ha : ¬ Small s[k] := fun h => h2 (Or.inl h)
        have hb : ¬ Digit s[k] := fun h => h2 (Or.inr (Or.inl h))
        have hc : (s[k]).toNat ≠ 95 := fun h => h2 (Or.inr (Or.inr h))
        rw [dec_false ha] at hchs
        rw [dec_false hb] at hchd
        have h95 : (((s[k]).toNat : Int) != 95) = true := by simp; omega
        have HC := Lib.hid hchs
        have HD := Lib.hid hchd
        clear hchs hchd h2 ha hb hc hq
        go_wp2_with (first | (go_at_call 40; refine HC.out.mono ?_; rintro e w' ⟨rfl, rfl⟩) | (go_at_call 41; refine HD.out.mono ?_; rintro e w' ⟨rfl, rfl⟩))
        go_ret
        exact ⟨ret_bool hd.out.symm, rfl⟩
    · have hd : Hid (dec (IsName s) = true) := dec_true ⟨h0, h24, H1.out, fun i hi => hq.out i hi (by omega)⟩
      clear hq
      go_wp2
      go_ret
      exact ⟨ret_bool hd.out.symm, rfl⟩

set_option maxRecDepth 100000 in
set_option maxHeartbeats 1000000 in
theorem isTextR_calls (s : ByteArray) (w : World) (hs : s.size ≤ maxLen) : Calls Tryz.prog 83 #[.string s] w (Same0 w (.bool (dec (IsText s)))) := by
  unfold maxLen at hs
  go_enter Tryz.func83, Tryz.ntmps83
  go_wp2
  go_loop [3] (fun i => ∃ k : Nat, k ≤ s.size ∧ i = .int .i64 k ∧ Hid (∀ i (hi : i < s.size), i < k → TextCh s[i])) (fun i => s.size - (intOf i).toNat)
  case atStart => exact ⟨0, Nat.zero_le _, rfl, fun i hi h => absurd h (by omega)⟩
  case round =>
    obtain ⟨k, hk, rfl, hq⟩ := hrel
    by_cases hlt : k < s.size
    · by_cases h2 : TextCh s[k]
      · have hnx : Hid (∀ i (hi : i < s.size), i < k + 1 → TextCh s[i]) := fun i hi h => by
          by_cases hik : i = k
          · subst hik; exact h2
          · exact hq.out i hi (by omega)
        clear hq
        rcases h2 with h2 | h2
        · have e1 : decide (((s[k]).toNat : Int) < 32) = false := by simp; omega
          have e2 : decide (126 < ((s[k]).toNat : Int)) = false := by simp; omega
          clear h2
          go_wp2
          go_round
          case rel => exact ⟨k + 1, by omega, by go_num, hnx⟩
          case measure => simp [intOf]; omega
        · have e1 : decide (((s[k]).toNat : Int) < 32) = true := by simp; omega
          have e2 : (((s[k]).toNat : Int) != 10) = false := by simp [h2]
          clear h2
          go_wp2
          go_round
          case rel => exact ⟨k + 1, by omega, by go_num, hnx⟩
          case measure => simp [intOf]; omega
      · have hd : Hid (dec (IsText s) = false) := dec_false (fun ⟨_, h⟩ => h2 (h k hlt))
        have e3 : (((s[k]).toNat : Int) != 10) = true := by simp; intro h; exact h2 (Or.inr (by omega))
        by_cases h3 : (s[k]).toNat < 32
        · have e1 : decide (((s[k]).toNat : Int) < 32) = true := by simp; omega
          clear h2 h3 hq
          go_wp2
          go_ret
          exact ⟨ret_bool hd.out.symm, rfl⟩
        · have e1 : decide (((s[k]).toNat : Int) < 32) = false := by simp; omega
          have e2 : decide (126 < ((s[k]).toNat : Int)) = true := by
            simp
            by_cases h4 : (s[k]).toNat ≤ 126
            · exact absurd (Or.inl ⟨by omega, h4⟩) h2
            · omega
          clear h2 h3 hq
          go_wp2
          go_ret
          exact ⟨ret_bool hd.out.symm, rfl⟩
    · have hd : Hid (dec (IsText s) = decide (s.size ≤ 1024)) := by
        show dec (IsText s) = _
        by_cases h : s.size ≤ 1024
        · rw [dec_true ⟨h, fun i hi => hq.out i hi (by omega)⟩]; simp [h]
        · rw [dec_false (fun ⟨h', _⟩ => h h')]; simp [h]
      clear hq
      go_wp2
      go_ret
      exact ⟨ret_bool (by rw [hd.out]; simp; omega), rfl⟩

end Go.Proofs.YtblhpiebheommaaGreat
/- The walks of tree.deep, tree.Depth, clewref10.Depth and clewref10.greater. -/
namespace Go.Proofs.YtblhpiebheommaaGreat
open Go.RowKit


/-- A cell of a block that was laid in 'w', read later. -/
theorem cell_kept {w wr : World} {o : Obj} {j : Nat} {v : Value} (hB : Below (w.heap.size + 1) (w.alloc o) wr) (h : (w.alloc o).cell? ⟨w.heap.size, j, none⟩ = some v) : wr.cell? ⟨w.heap.size, j, none⟩ = some v := by
  rw [hB.cell (by simp)]; exact h

theorem below_of_alloc {w wr : World} {o : Obj} (hB : Below (w.heap.size + 1) (w.alloc o) wr) : Below w.heap.size w wr := ((Below.refl _ _).alloc (Nat.le_refl _) o).trans (hB.mono (by omega))




def DepthRC (e : Ex) : Prop := ∀ (F : Nat → Prop) (w : World) (cs : List Value), Inn F w → RdEx F w e cs →
    Calls Tryz.prog 61 #[.agg cs.toArray] w (Gives w (.int .i64 (min e.depth 65 : Nat)))

set_option maxHeartbeats 400000 in
theorem depthR_calls (e : Ex) : DepthRC e := by
  intro F w cs hF hr
  obtain ⟨kd', o', n', s', a', m', cap', rfl⟩ := hr.shape
  have hd := fun o => deepR_calls e F (w.alloc o) _ 65 (hF.alloc o) (by omega) (by omega) (hr.alloc hF o)
  have HC := Lib.hid hd
  clear hd
  go_enter Tryz.func61, Tryz.ntmps61
  go_wp2_with (go_at_call 80; refine (HC.out _).mono ?_; rintro e w' ⟨rfl, hb⟩)
  go_ret
  exact ⟨rfl, below_on1 (Below.refl _ _) (Nat.le_refl _) hb⟩

theorem greater_calls (a b : Int) (w : World) : Calls Tryz.prog 101 #[.int .i64 a, .int .i64 b] w (fun e w' => e = .returned (.int .i64 (max a b)) ∧ w = w') := by
  by_cases h : b < a
  all_goals
    go_enter Tryz.func101, Tryz.ntmps101
    go_wp2
    go_ret
    exact ⟨ret_int (by omega), rfl⟩

end Go.Proofs.YtblhpiebheommaaGreat
/- The walks of tree.SizeBlock and clewref10.SizeBlock. -/
namespace Go.Proofs.YtblhpiebheommaaGreat
open Go.RowKit Go.Sort

/-- A callee's contract in a world of the class 'some blocks laid, some draws', behind a drawn region's begin. -/
theorem regrown_gives {P : Program} {f : FuncId} {args : Array Value} {w : World} {v : Value} (h : ∀ w', Below w.heap.size w w' → Calls P f args w' (Gives w' v)) (p : Regrown) :
    Calls P f args (grow (redrawn w p.d) p.os) fun e w'' => e = .returned v ∧ ∃ p : Regrown, w'' = grow (redrawn w p.d) p.os :=
  Calls.regrown_of ((h _ (below_regrown w p.d p.os)).mono fun _ _ h => h)

theorem below_of_regrown {w w' : World} (h : ∃ p : Regrown, w' = grow (redrawn w p.d) p.os) : Below w.heap.size w w' := by
  obtain ⟨p, rfl⟩ := h
  exact below_regrown w p.d p.os





end Go.Proofs.YtblhpiebheommaaGreat
/- The walks of tree.Same, clewref10.Same and clewref10.sameArgs: each tells whether two expressions are equal. -/
namespace Go.Proofs.YtblhpiebheommaaGreat
open Go.RowKit Go.Sort

/-- Are the two equal? -/
noncomputable def same {α : Type} (a b : α) : Bool := @decide (a = b) (Classical.propDecidable _)
theorem same_self {α : Type} (a : α) : same a a = true := by simp [same]
theorem same_ne {α : Type} {a b : α} (h : a ≠ b) : same a b = false := by simp [same, h]
theorem same_eq {α : Type} {a b : α} (h : a = b) : same a b = true := by subst h; exact same_self a
theorem same_iff {α : Type} {a b : α} : same a b = true ↔ a = b := by simp [same]

theorem strne {a b : ByteArray} (h : a ≠ b) : (a.toList == b.toList) = false := by
  refine beq_eq_false_iff_ne.2 fun h' => h ?_
  rw [ByteArray.toList_eq, ByteArray.toList_eq] at h'
  obtain ⟨⟨x⟩⟩ := a
  obtain ⟨⟨y⟩⟩ := b
  simp only at h'
  rw [h']



end Go.Proofs.YtblhpiebheommaaGreat
/- What a keyword is: the rows of words of lex.Key and of clewref09.Key, and the law that both tell the same. Plain lists; no program in sight. -/
namespace Go.Proofs.YtblhpiebheommaaGreat

/-- The words of a row, each ended by a blank, 'one' being what has been read of the first. -/
def splits : List UInt8 → List UInt8 → List (List UInt8)
  | [], _ => []
  | c :: r, one => if c = 32 then one :: splits r [] else splits r (one ++ [c])

/-- 'holds': how many words stand ahead of s, and whether it is there. -/
def scan (s : List UInt8) : List UInt8 → List UInt8 → Nat → Nat × Bool
  | [], _, _ => (0, false)
  | c :: r, one, n => if c = 32 then (if one = s then (n, true) else scan s r [] (n + 1)) else scan s r (one ++ [c]) n

theorem scan_iff (s : List UInt8) : ∀ (r one : List UInt8) (n : Nat), (scan s r one n).2 = true ↔ s ∈ splits r one
  | [], one, n => by simp [scan, splits]
  | c :: r, one, n => by
    simp only [scan, splits]
    by_cases h : c = 32
    · rw [if_pos h, if_pos h]
      by_cases h2 : one = s
      · rw [if_pos h2]; simp [h2]
      · rw [if_neg h2, scan_iff s r [] (n + 1)]; simp [Ne.symm h2]
    · rw [if_neg h, if_neg h]; exact scan_iff s r (one ++ [c]) n

theorem pre_one {s one r : List UInt8} (hs : (32 : UInt8) ∉ s) (ho : (32 : UInt8) ∉ one) : (s ++ [32]) <+: (one ++ 32 :: r) ↔ s = one := by
  induction one generalizing s with
  | nil =>
    cases s with
    | nil => simp
    | cons a s =>
      simp only [List.nil_append, List.cons_append, List.cons_prefix_cons]
      constructor
      · intro ⟨h, _⟩; simp [h] at hs
      · intro h; simp at h
  | cons b one ih =>
    cases s with
    | nil =>
      simp only [List.nil_append, List.cons_append, List.cons_prefix_cons]
      constructor
      · intro ⟨h, _⟩; simp [h] at ho
      · intro h; simp at h
    | cons a s =>
      simp only [List.cons_append, List.cons_prefix_cons]
      have := ih (s := s) (fun h => hs (by simp [h])) (fun h => ho (by simp [h]))
      rw [this]
      simp

theorem splits_iff (s : List UInt8) (hs : (32 : UInt8) ∉ s) : ∀ (r one : List UInt8), (32 : UInt8) ∉ one → (s ∈ splits r one ↔ (s ++ [32]) <+: (one ++ r) ∨ (32 :: (s ++ [32])) <:+: r)
  | [], one, ho => by
    simp only [splits, List.not_mem_nil, List.append_nil, false_iff, not_or]
    refine ⟨fun h => ho (h.subset (by simp)), fun h => ?_⟩
    simp at h
  | c :: r, one, ho => by
    simp only [splits]
    by_cases h : c = 32
    · rw [if_pos h, List.mem_cons, splits_iff s hs r [] (by simp)]
      subst h
      rw [pre_one hs ho, List.infix_cons_iff, List.cons_prefix_cons]
      simp
    · rw [if_neg h, splits_iff s hs r (one ++ [c]) (by simp [ho, Ne.symm h])]
      rw [List.infix_cons_iff, List.cons_prefix_cons]
      simp [Ne.symm h]

theorem occAt_iff (s sub : List UInt8) : (∃ i, i ≤ s.length ∧ Lib.occAt s sub i = true) ↔ sub <:+: s := by
  constructor
  · rintro ⟨i, _, h⟩
    unfold Lib.occAt at h
    have h' : sub <+: s.drop i := by simpa using h
    exact h'.isInfix.trans (List.drop_suffix i s).isInfix
  · rintro ⟨p, q, rfl⟩
    exact ⟨p.length, by simp, by unfold Lib.occAt; simp [List.append_assoc]⟩

theorem contains_iff (s sub : List UInt8) : Lib.contains s sub = true ↔ sub <:+: s := by
  rw [← occAt_iff]
  unfold Lib.contains
  rcases Lib.index_spec s sub with ⟨h, hn⟩ | ⟨i, h, hi, ho, _⟩
  · rw [h]
    simp only [Int.reduceLE, decide_false, Bool.false_eq_true, Int.reduceNeg, false_iff, not_exists, not_and]
    intro i hi
    rw [hn i hi]; simp
  · rw [h]
    simp only [Int.natCast_nonneg, decide_true, true_iff]
    exact ⟨i, hi, ho⟩

/-- lex's row of keywords. -/
def kwRow : List UInt8 := [32, 115, 116, 111, 114, 121, 32, 98, 121, 32, 114, 101, 108, 101, 97, 115, 101, 32, 109, 97, 120, 32, 115, 116, 97, 114, 116, 32, 102, 108, 97, 103, 32, 112, 114, 111, 112, 32, 103, 108, 111, 98, 97, 108, 32, 114, 111, 111, 109, 32, 116, 104, 105, 110, 103, 32, 105, 110, 32, 118, 101, 114, 98, 32, 109, 101, 116, 97, 32, 111, 110, 32, 98, 101, 102, 111, 114, 101, 32, 97, 102, 116, 101, 114, 32, 105, 102, 32, 102, 117, 110, 99, 32, 100, 97, 101, 109, 111, 110, 32, 116, 101, 120, 116, 32, 119, 111, 114, 100, 115, 32, 97, 100, 106, 115, 32, 105, 115, 32, 101, 120, 105, 116, 32, 116, 111, 32, 101, 108, 115, 101, 32, 115, 97, 121, 32, 108, 101, 116, 32, 115, 101, 116, 32, 117, 110, 115, 101, 116, 32, 109, 111, 118, 101, 32, 114, 101, 109, 111, 118, 101, 32, 119, 104, 105, 108, 101, 32, 101, 97, 99, 104, 32, 114, 101, 116, 117, 114, 110, 32, 115, 116, 111, 112, 32, 119, 105, 110, 32, 108, 111, 115, 101, 32, 97, 119, 97, 114, 100, 32, 104, 97, 108, 116, 32, 116, 114, 97, 118, 101, 108, 32, 108, 111, 111, 107, 32, 108, 105, 115, 116, 32, 111, 114, 32, 97, 110, 100, 32, 110, 111, 116, 32, 104, 97, 115, 32, 112, 97, 114, 101, 110, 116, 32, 99, 104, 105, 108, 100, 32, 110, 101, 120, 116, 32, 114, 97, 110, 100, 111, 109, 32, 116, 105, 116, 108, 101, 32, 104, 101, 114, 101, 32, 112, 108, 97, 121, 101, 114, 32, 110, 111, 117, 110, 32, 115, 101, 99, 111, 110, 100, 32, 110, 117, 109, 98, 101, 114, 32, 115, 99, 111, 114, 101, 32, 97, 110, 121, 32, 109, 97, 110, 121, 32, 100, 105, 114, 32, 110, 111, 114, 116, 104, 32, 115, 111, 117, 116, 104, 32, 101, 97, 115, 116, 32, 119, 101, 115, 116, 32, 110, 111, 114, 116, 104, 101, 97, 115, 116, 32, 110, 111, 114, 116, 104, 119, 101, 115, 116, 32, 115, 111, 117, 116, 104, 101, 97, 115, 116, 32, 115, 111, 117, 116, 104, 119, 101, 115, 116, 32, 117, 112, 32, 100, 111, 119, 110, 32, 111, 117, 116, 32]
/-- clewref09's rows. -/
def keysRow : List UInt8 := [32, 115, 116, 111, 114, 121, 32, 98, 121, 32, 114, 101, 108, 101, 97, 115, 101, 32, 109, 97, 120, 32, 115, 116, 97, 114, 116, 32, 102, 108, 97, 103, 32, 112, 114, 111, 112, 32, 103, 108, 111, 98, 97, 108, 32, 114, 111, 111, 109, 32, 116, 104, 105, 110, 103, 32, 105, 110, 32, 118, 101, 114, 98, 32, 109, 101, 116, 97, 32, 111, 110, 32, 98, 101, 102, 111, 114, 101, 32, 97, 102, 116, 101, 114, 32, 105, 102, 32, 102, 117, 110, 99, 32, 100, 97, 101, 109, 111, 110, 32, 116, 101, 120, 116, 32, 119, 111, 114, 100, 115, 32, 97, 100, 106, 115, 32, 105, 115, 32, 101, 120, 105, 116, 32, 116, 111, 32, 101, 108, 115, 101, 32, 115, 97, 121, 32, 108, 101, 116, 32, 115, 101, 116, 32, 117, 110, 115, 101, 116, 32, 109, 111, 118, 101, 32, 114, 101, 109, 111, 118, 101, 32, 119, 104, 105, 108, 101, 32, 101, 97, 99, 104, 32, 114, 101, 116, 117, 114, 110, 32, 115, 116, 111, 112, 32, 119, 105, 110, 32, 108, 111, 115, 101, 32, 97, 119, 97, 114, 100, 32, 104, 97, 108, 116, 32, 116, 114, 97, 118, 101, 108, 32, 108, 111, 111, 107, 32, 108, 105, 115, 116, 32, 111, 114, 32, 97, 110, 100, 32, 110, 111, 116, 32, 104, 97, 115, 32, 112, 97, 114, 101, 110, 116, 32, 99, 104, 105, 108, 100, 32, 110, 101, 120, 116, 32, 114, 97, 110, 100, 111, 109, 32, 116, 105, 116, 108, 101, 32, 104, 101, 114, 101, 32, 112, 108, 97, 121, 101, 114, 32, 110, 111, 117, 110, 32, 115, 101, 99, 111, 110, 100, 32, 110, 117, 109, 98, 101, 114, 32, 115, 99, 111, 114, 101, 32, 97, 110, 121, 32, 109, 97, 110, 121, 32, 100, 105, 114, 32]
def dirsRow : List UInt8 := [32, 110, 111, 114, 116, 104, 32, 115, 111, 117, 116, 104, 32, 101, 97, 115, 116, 32, 119, 101, 115, 116, 32, 110, 111, 114, 116, 104, 101, 97, 115, 116, 32, 110, 111, 114, 116, 104, 119, 101, 115, 116, 32, 115, 111, 117, 116, 104, 101, 97, 115, 116, 32, 115, 111, 117, 116, 104, 119, 101, 115, 116, 32, 117, 112, 32, 100, 111, 119, 110, 32, 105, 110, 32, 111, 117, 116, 32]

/-- A keyword. -/
def IsKey (s : ByteArray) : Prop := s.data.toList ∈ splits keysRow.tail [] ∨ s.data.toList ∈ splits dirsRow.tail []

theorem kw_all : (splits kwRow.tail []).all (fun x => (splits keysRow.tail []).contains x || (splits dirsRow.tail []).contains x) = true := by decide +kernel
theorem keys_all : (splits keysRow.tail []).all (fun x => (splits kwRow.tail []).contains x) = true := by decide +kernel
theorem dirs_all : (splits dirsRow.tail []).all (fun x => (splits kwRow.tail []).contains x) = true := by decide +kernel

theorem isKey_iff (s : ByteArray) (hs : (32 : UInt8) ∉ s.data.toList) : IsKey s ↔ Lib.contains kwRow (32 :: (s.data.toList ++ [32])) = true := by
  have h0 : kwRow = 32 :: kwRow.tail := by decide +kernel
  rw [contains_iff, h0, List.infix_cons_iff, List.cons_prefix_cons]
  have h1 := splits_iff s.data.toList hs kwRow.tail [] (by simp)
  simp only [List.nil_append] at h1
  simp only [true_and]
  rw [← h1]
  unfold IsKey
  constructor
  · rintro (h | h)
    · have := List.all_eq_true.1 keys_all _ h; simpa using this
    · have := List.all_eq_true.1 dirs_all _ h; simpa using this
  · intro h
    have := List.all_eq_true.1 kw_all _ h
    simpa using this

end Go.Proofs.YtblhpiebheommaaGreat
