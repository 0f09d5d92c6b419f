/- The walks of package letter's IsName and IsText, and of clewref04's: what is a name, what is a text. -/
import Derived.Test.YtblhpiebheommaaSize
namespace Go.Proofs.Ytblhpiebheommaa
open Go.RowKit Go.Sort

/-- Does it hold? -/
noncomputable def dec (p : Prop) : Bool := @decide p (Classical.propDecidable p)
theorem dec_true {p : Prop} (h : p) : dec p = true := by simp [dec, h]
theorem dec_false {p : Prop} (h : ¬ p) : dec p = false := by simp [dec, h]
theorem dec_iff {p : Prop} : dec p = true ↔ p := by simp [dec]
theorem dec_congr {p q : Prop} (h : p ↔ q) : dec p = dec q := by rw [propext h]

/-- A call's post: it hands back v, and the world is the very same. -/
def Same0 (w : World) (v : Value) (e : Ending) (w' : World) : Prop := e = .returned v ∧ w = w'

def Small (c : UInt8) : Prop := 97 ≤ c.toNat ∧ c.toNat ≤ 122
def Digit (c : UInt8) : Prop := 48 ≤ c.toNat ∧ c.toNat ≤ 57
def NameCh (c : UInt8) : Prop := Small c ∨ Digit c ∨ c.toNat = 95
def TextCh (c : UInt8) : Prop := (32 ≤ c.toNat ∧ c.toNat ≤ 126) ∨ c.toNat = 10

set_option maxHeartbeats 400000 in
theorem small_calls (c : UInt8) (w : World) : Calls Try.prog 93 #[.int .u8 c.toNat] w (Same0 w (.bool (dec (Small c)))) := by
  have hc := c.toNat_lt
  generalize hn : c.toNat = n at hc
  by_cases h1 : 97 ≤ n
  · have hd : Hid (dec (Small c) = decide ((n : Int) ≤ 122)) := by
      show dec (Small c) = _
      by_cases h2 : n ≤ 122
      · rw [dec_true (by unfold Small; omega)]; symm; simp; omega
      · rw [dec_false (by unfold Small; omega)]; symm; simp; omega
    clear hn
    go_enter Try.func93, Try.ntmps93
    go_wp2
    go_ret
    exact ⟨ret_bool hd.out.symm, rfl⟩
  · have hd : Hid (dec (Small c) = false) := dec_false (by unfold Small; omega)
    clear hn
    go_enter Try.func93, Try.ntmps93
    go_wp2
    go_ret
    exact ⟨ret_bool hd.out.symm, rfl⟩

set_option maxHeartbeats 400000 in
theorem digit_calls (c : UInt8) (w : World) : Calls Try.prog 95 #[.int .u8 c.toNat] w (Same0 w (.bool (dec (Digit c)))) := by
  have hc := c.toNat_lt
  generalize hn : c.toNat = n at hc
  by_cases h1 : 48 ≤ n
  · have hd : Hid (dec (Digit c) = decide ((n : Int) ≤ 57)) := by
      show dec (Digit c) = _
      by_cases h2 : n ≤ 57
      · rw [dec_true (by unfold Digit; omega)]; symm; simp; omega
      · rw [dec_false (by unfold Digit; omega)]; symm; simp; omega
    clear hn
    go_enter Try.func95, Try.ntmps95
    go_wp2
    go_ret
    exact ⟨ret_bool hd.out.symm, rfl⟩
  · have hd : Hid (dec (Digit c) = false) := dec_false (by unfold Digit; omega)
    clear hn
    go_enter Try.func95, Try.ntmps95
    go_wp2
    go_ret
    exact ⟨ret_bool hd.out.symm, rfl⟩

set_option maxHeartbeats 400000 in
theorem smallR_calls (c : UInt8) (w : World) : Calls Try.prog 46 #[.int .u8 c.toNat] w (Same0 w (.bool (dec (Small c)))) := by
  have hc := c.toNat_lt
  generalize hn : c.toNat = n at hc
  by_cases h1 : 97 ≤ n
  · have hd : Hid (dec (Small c) = decide ((n : Int) ≤ 122)) := by
      show dec (Small c) = _
      by_cases h2 : n ≤ 122
      · rw [dec_true (by unfold Small; omega)]; symm; simp; omega
      · rw [dec_false (by unfold Small; omega)]; symm; simp; omega
    clear hn
    go_enter Try.func46, Try.ntmps46
    go_wp2
    go_ret
    exact ⟨ret_bool hd.out.symm, rfl⟩
  · have hd : Hid (dec (Small c) = false) := dec_false (by unfold Small; omega)
    clear hn
    go_enter Try.func46, Try.ntmps46
    go_wp2
    go_ret
    exact ⟨ret_bool hd.out.symm, rfl⟩

set_option maxHeartbeats 400000 in
theorem digitR_calls (c : UInt8) (w : World) : Calls Try.prog 47 #[.int .u8 c.toNat] w (Same0 w (.bool (dec (Digit c)))) := by
  have hc := c.toNat_lt
  generalize hn : c.toNat = n at hc
  by_cases h1 : 48 ≤ n
  · have hd : Hid (dec (Digit c) = decide ((n : Int) ≤ 57)) := by
      show dec (Digit c) = _
      by_cases h2 : n ≤ 57
      · rw [dec_true (by unfold Digit; omega)]; symm; simp; omega
      · rw [dec_false (by unfold Digit; omega)]; symm; simp; omega
    clear hn
    go_enter Try.func47, Try.ntmps47
    go_wp2
    go_ret
    exact ⟨ret_bool hd.out.symm, rfl⟩
  · have hd : Hid (dec (Digit c) = false) := dec_false (by unfold Digit; omega)
    clear hn
    go_enter Try.func47, Try.ntmps47
    go_wp2
    go_ret
    exact ⟨ret_bool hd.out.symm, rfl⟩

set_option maxHeartbeats 400000 in
theorem nameCh_calls (c : UInt8) (w : World) : Calls Try.prog 94 #[.int .u8 c.toNat] w (Same0 w (.bool (dec (NameCh c)))) := by
  have hs := Lib.hid (small_calls c w)
  have hg := Lib.hid (digit_calls c w)
  by_cases h1 : Small c
  · rw [dec_true h1] at hs
    have hd : Hid (dec (NameCh c) = true) := dec_true (Or.inl h1)
    clear h1
    go_enter Try.func94, Try.ntmps94
    go_wp2_with (go_at_call 93; refine hs.out.mono ?_; rintro e w' ⟨rfl, rfl⟩)
    go_ret
    exact ⟨ret_bool hd.out.symm, rfl⟩
  rw [dec_false h1] at hs
  by_cases h2 : Digit c
  · rw [dec_true h2] at hg
    have hd : Hid (dec (NameCh c) = true) := dec_true (Or.inr (Or.inl h2))
    clear h1 h2
    go_enter Try.func94, Try.ntmps94
    go_wp2_with (first | (go_at_call 93; refine hs.out.mono ?_; rintro e w' ⟨rfl, rfl⟩) | (go_at_call 95; refine hg.out.mono ?_; rintro e w' ⟨rfl, rfl⟩))
    go_ret
    exact ⟨ret_bool hd.out.symm, rfl⟩
  rw [dec_false h2] at hg
  have hd : Hid (dec (NameCh c) = ((c.toNat : Int) == 95)) := by
    show dec (NameCh c) = _
    by_cases h3 : c.toNat = 95
    · rw [dec_true (show NameCh c from Or.inr (Or.inr h3)), h3]; rfl
    · rw [dec_false (by unfold NameCh; simp [h1, h2, h3])]; symm; simp; omega
  clear h1 h2
  go_enter Try.func94, Try.ntmps94
  go_wp2_with (first | (go_at_call 93; refine hs.out.mono ?_; rintro e w' ⟨rfl, rfl⟩) | (go_at_call 95; refine hg.out.mono ?_; rintro e w' ⟨rfl, rfl⟩))
  go_ret
  exact ⟨ret_bool hd.out.symm, rfl⟩


/-- A name: 1 to 24 bytes, the first a small letter, all small letters, digits or '_'. -/
def IsName (s : ByteArray) : Prop := ∃ h : 0 < s.size, s.size ≤ 24 ∧ Small s[0] ∧ ∀ i (hi : i < s.size), NameCh s[i]
/-- A text: at most 1024 bytes, each in [32, 126] or a line feed. -/
def IsText (s : ByteArray) : Prop := s.size ≤ 1024 ∧ ∀ i (hi : i < s.size), TextCh s[i]

set_option maxRecDepth 100000 in
set_option maxHeartbeats 1000000 in
theorem allName_calls (s : ByteArray) (w : World) (hs : s.size ≤ maxLen) : Calls Try.prog 92 #[.string s, .int .i64 24, .func (.func 93) #[] #[], .func (.func 94) #[] #[]] w (Same0 w (.bool (dec (IsName s)))) := by
  unfold maxLen at hs
  by_cases h0 : 0 < s.size
  rotate_left
  · have hd : Hid (dec (IsName s) = false) := dec_false (fun ⟨h, _⟩ => h0 h)
    go_enter Try.func92, Try.ntmps92
    go_wp2
    go_ret
    exact ⟨ret_bool hd.out.symm, rfl⟩
  have d1 : decide ((s.size : Int) < 1) = false := by simp; omega
  by_cases h24 : s.size ≤ 24
  rotate_left
  · have hd : Hid (dec (IsName s) = false) := dec_false (fun ⟨_, h, _⟩ => h24 h)
    have d2 : decide (24 < (s.size : Int)) = true := by simp; omega
    go_enter Try.func92, Try.ntmps92
    go_wp2
    go_ret
    exact ⟨ret_bool hd.out.symm, rfl⟩
  have d2 : decide (24 < (s.size : Int)) = false := by simp; omega
  have hsm := small_calls s[0] w
  by_cases h1 : Small s[0]
  rotate_left
  · have hd : Hid (dec (IsName s) = false) := dec_false (fun ⟨_, _, h, _⟩ => h1 h)
    rw [dec_false h1] at hsm
    have HS := Lib.hid hsm
    clear hsm h1
    go_enter Try.func92, Try.ntmps92
    go_wp2_with (go_at_call 93; refine HS.out.mono ?_; rintro e w' ⟨rfl, rfl⟩)
    go_ret
    exact ⟨ret_bool hd.out.symm, rfl⟩
  rw [dec_true h1] at hsm
  have HS := Lib.hid hsm
  have H1 := Lib.hid h1
  clear hsm h1
  go_enter Try.func92, Try.ntmps92
  go_wp2_with (go_at_call 93; refine HS.out.mono ?_; rintro e w' ⟨rfl, rfl⟩)
  go_loop [28] (fun i => ∃ k : Nat, k ≤ s.size ∧ i = .int .i64 k ∧ Hid (∀ i (hi : i < s.size), i < k → NameCh s[i])) (fun i => s.size - (intOf i).toNat)
  case atStart => exact ⟨0, Nat.zero_le _, rfl, fun i hi h => absurd h (by omega)⟩
  case round =>
    obtain ⟨k, hk, rfl, hq⟩ := hrel
    by_cases hlt : k < s.size
    · have hch := nameCh_calls s[k] w
      by_cases h2 : NameCh s[k]
      · rw [dec_true h2] at hch
        have hnx : Hid (∀ i (hi : i < s.size), i < k + 1 → NameCh s[i]) := fun i hi h => by
          by_cases hik : i = k
          · subst hik; exact h2
          · exact hq.out i hi (by omega)
        have HC := Lib.hid hch
        clear hq hch h2
        go_wp2_with (go_at_call 94; refine HC.out.mono ?_; rintro e w' ⟨rfl, rfl⟩)
        go_round
        case rel => exact ⟨k + 1, by omega, by go_num, hnx⟩
        case measure => simp [intOf]; omega
      · have hd : Hid (dec (IsName s) = false) := dec_false (fun ⟨_, _, _, h⟩ => h2 (h k hlt))
        rw [dec_false h2] at hch
        have HC := Lib.hid hch
        clear hq hch h2
        go_wp2_with (go_at_call 94; refine HC.out.mono ?_; rintro e w' ⟨rfl, rfl⟩)
        go_ret
        exact ⟨ret_bool hd.out.symm, rfl⟩
    · have hd : Hid (dec (IsName s) = true) := dec_true ⟨h0, h24, H1.out, fun i hi => hq.out i hi (by omega)⟩
      clear hq
      go_wp2
      go_ret
      exact ⟨ret_bool hd.out.symm, rfl⟩

set_option maxHeartbeats 400000 in
theorem isName_calls (s : ByteArray) (w : World) (hs : s.size ≤ maxLen) : Calls Try.prog 86 #[.string s] w (Same0 w (.bool (dec (IsName s)))) := by
  have HC := Lib.hid (allName_calls s w hs)
  go_enter Try.func86, Try.ntmps86
  go_wp2_with (go_at_call 92; refine HC.out.mono ?_; rintro e w' ⟨rfl, rfl⟩)
  go_ret
  exact ⟨rfl, rfl⟩



end Go.Proofs.Ytblhpiebheommaa
