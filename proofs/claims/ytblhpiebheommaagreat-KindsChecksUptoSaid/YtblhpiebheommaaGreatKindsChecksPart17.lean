/- The walks of letter.IsWord and clewref04.IsWord: what is a dictionary word. Printed by gen-word.py. -/
import Derived.Test.YtblhpiebheommaaGreatKindsChecksPart4
import Derived.Laws.EntriesVeiled
import Derived.Test.YtblhpiebheommaaGreatKindsChecksPart16
import Derived.Deep.RegionHeld
namespace Go.Proofs.YtblhpiebheommaaGreat
open Go.RowKit Go.Sort

def Great (c : UInt8) : Prop := 65 ≤ c.toNat ∧ c.toNat ≤ 90
def WordHd (c : UInt8) : Prop := Small c ∨ Digit c
def WordCh (c : UInt8) : Prop := WordHd c ∨ c.toNat = 45 ∨ c.toNat = 39
/-- A dictionary word: 1 to 9 bytes, the first a small letter or a digit, all of these, '-' or an apostrophe. -/
def IsWord (s : ByteArray) : Prop := ∃ h : 0 < s.size, s.size ≤ 9 ∧ WordHd s[0] ∧ ∀ i (hi : i < s.size), WordCh s[i]

set_option maxHeartbeats 400000 in
theorem wordHd_calls (c : UInt8) (w : World) : Calls Tryz.prog 103 #[.int .u8 c.toNat] w (Same0 w (.bool (dec (WordHd c)))) := by
  have hs := Lib.hid (small_calls c w)
  have hg := Lib.hid (digit_calls c w)
  by_cases h1 : Small c
  · rw [dec_true h1] at hs
    have hd : Hid (dec (WordHd c) = true) := dec_true (Or.inl h1)
    clear h1
    go_enter Tryz.func103, Tryz.ntmps103
    go_wp2_with (go_at_call 92; refine hs.out.mono ?_; rintro e w' ⟨rfl, rfl⟩)
    go_ret
    exact ⟨ret_bool hd.out.symm, rfl⟩
  rw [dec_false h1] at hs
  have hd : Hid (dec (WordHd c) = dec (Digit c)) := dec_congr ⟨fun h => h.elim (fun h => absurd h h1) id, Or.inr⟩
  clear h1
  go_enter Tryz.func103, Tryz.ntmps103
  go_wp2_with (first | (go_at_call 92; refine hs.out.mono ?_; rintro e w' ⟨rfl, rfl⟩) | (go_at_call 94; refine hg.out.mono ?_; rintro e w' ⟨rfl, rfl⟩))
  go_ret
  exact ⟨ret_bool hd.out.symm, rfl⟩

set_option maxRecDepth 100000 in
set_option maxHeartbeats 400000 in
theorem wordCh_calls (c : UInt8) (w : World) (p : Nat) (hp : w.cell? ⟨p, 0, none⟩ = some (.func (.func 103) #[] #[])) : Calls Tryz.prog 104 #[.int .u8 c.toNat, .pointer (some ⟨p, 0, none⟩)] w (Same0 w (.bool (dec (WordCh c)))) := by
  have hs := Lib.hid (wordHd_calls c w)
  by_cases h1 : WordHd c
  · rw [dec_true h1] at hs
    have hd : Hid (dec (WordCh c) = true) := dec_true (Or.inl h1)
    clear h1
    go_enter Tryz.func104, Tryz.ntmps104
    go_wp2_with (go_at_call 103; refine hs.out.mono ?_; rintro e w' ⟨rfl, rfl⟩)
    go_ret
    exact ⟨ret_bool hd.out.symm, rfl⟩
  rw [dec_false h1] at hs
  by_cases h2 : c.toNat = 45
  · have hd : Hid (dec (WordCh c) = true) := dec_true (Or.inr (Or.inl h2))
    have e1 : ((c.toNat : Int) == 45) = true := by simp [h2]
    clear h1 h2
    go_enter Tryz.func104, Tryz.ntmps104
    go_wp2_with (go_at_call 103; refine hs.out.mono ?_; rintro e w' ⟨rfl, rfl⟩)
    go_ret
    exact ⟨ret_bool hd.out.symm, rfl⟩
  have e1 : ((c.toNat : Int) == 45) = false := by simp; omega
  have hd : Hid (dec (WordCh c) = ((c.toNat : Int) == 39)) := by
    show dec (WordCh c) = _
    by_cases h3 : c.toNat = 39
    · rw [dec_true (show WordCh c from Or.inr (Or.inr h3)), h3]; rfl
    · rw [dec_false (by unfold WordCh; simp [h1, h2, h3])]; symm; simp; omega
  clear h1 h2
  go_enter Tryz.func104, Tryz.ntmps104
  go_wp2_with (go_at_call 103; refine hs.out.mono ?_; rintro e w' ⟨rfl, rfl⟩)
  go_ret
  exact ⟨ret_bool hd.out.symm, rfl⟩

set_option maxRecDepth 100000 in
set_option maxHeartbeats 1000000 in
theorem allWord_calls (s : ByteArray) (w : World) (p : Nat) (hp : w.cell? ⟨p, 0, none⟩ = some (.func (.func 103) #[] #[])) (hs : s.size ≤ maxLen) : Calls Tryz.prog 91 #[.string s, .int .i64 9, .func (.func 103) #[] #[], .func (.func 104) #[] #[.pointer (some ⟨p, 0, none⟩)]] w (Same0 w (.bool (dec (IsWord s)))) := by
  unfold maxLen at hs
  have HP := Lib.hid (fun c => wordCh_calls c w p hp)
  clear hp
  by_cases h0 : 0 < s.size
  rotate_left
  · have hd : Hid (dec (IsWord s) = false) := dec_false (fun ⟨h, _⟩ => h0 h)
    go_enter Tryz.func91, Tryz.ntmps91
    go_wp2
    go_ret
    exact ⟨ret_bool hd.out.symm, rfl⟩
  have d1 : decide ((s.size : Int) < 1) = false := by simp; omega
  by_cases h24 : s.size ≤ 9
  rotate_left
  · have hd : Hid (dec (IsWord s) = false) := dec_false (fun ⟨_, h, _⟩ => h24 h)
    have d2 : decide (9 < (s.size : Int)) = true := by simp; omega
    go_enter Tryz.func91, Tryz.ntmps91
    go_wp2
    go_ret
    exact ⟨ret_bool hd.out.symm, rfl⟩
  have d2 : decide (9 < (s.size : Int)) = false := by simp; omega
  have hsm := wordHd_calls s[0] w
  by_cases h1 : WordHd s[0]
  rotate_left
  · have hd : Hid (dec (IsWord s) = false) := dec_false (fun ⟨_, _, h, _⟩ => h1 h)
    rw [dec_false h1] at hsm
    have HS := Lib.hid hsm
    clear hsm h1
    go_enter Tryz.func91, Tryz.ntmps91
    go_wp2_with (go_at_call 103; refine HS.out.mono ?_; rintro e w' ⟨rfl, rfl⟩)
    go_ret
    exact ⟨ret_bool hd.out.symm, rfl⟩
  rw [dec_true h1] at hsm
  have HS := Lib.hid hsm
  have H1 := Lib.hid h1
  clear hsm h1
  go_enter Tryz.func91, Tryz.ntmps91
  go_wp2_with (go_at_call 103; refine HS.out.mono ?_; rintro e w' ⟨rfl, rfl⟩)
  go_loop [28] (fun i => ∃ k : Nat, k ≤ s.size ∧ i = .int .i64 k ∧ Hid (∀ i (hi : i < s.size), i < k → WordCh s[i])) (fun i => s.size - (intOf i).toNat)
  case atStart => exact ⟨0, Nat.zero_le _, rfl, fun i hi h => absurd h (by omega)⟩
  case round =>
    obtain ⟨k, hk, rfl, hq⟩ := hrel
    by_cases hlt : k < s.size
    · have hch := HP.out s[k]
      by_cases h2 : WordCh s[k]
      · rw [dec_true h2] at hch
        have hnx : Hid (∀ i (hi : i < s.size), i < k + 1 → WordCh s[i]) := fun i hi h => by
          by_cases hik : i = k
          · subst hik; exact h2
          · exact hq.out i hi (by omega)
        have HC := Lib.hid hch
        clear hq hch h2
        go_wp2_with (go_at_call 104; refine HC.out.mono ?_; rintro e w' ⟨rfl, rfl⟩)
        go_round
        case rel => exact ⟨k + 1, by omega, by go_num, hnx⟩
        case measure => simp [intOf]; omega
      · have hd : Hid (dec (IsWord s) = false) := dec_false (fun ⟨_, _, _, h⟩ => h2 (h k hlt))
        rw [dec_false h2] at hch
        have HC := Lib.hid hch
        clear hq hch h2
        go_wp2_with (go_at_call 104; refine HC.out.mono ?_; rintro e w' ⟨rfl, rfl⟩)
        go_ret
        exact ⟨ret_bool hd.out.symm, rfl⟩
    · have hd : Hid (dec (IsWord s) = true) := dec_true ⟨h0, h24, H1.out, fun i hi => hq.out i hi (by omega)⟩
      clear hq
      go_wp2
      go_ret
      exact ⟨ret_bool hd.out.symm, rfl⟩

set_option maxRecDepth 100000 in
set_option maxHeartbeats 400000 in
theorem isWord_calls (s : ByteArray) (w : World) (hs : s.size ≤ maxLen) : Calls Tryz.prog 90 #[.string s] w (Gives w (.bool (dec (IsWord s)))) := by
  have hB : Below w.heap.size w (w.alloc (.cells #[.func (.func 103) #[] #[]] 100)) := (Below.refl _ w).alloc (Nat.le_refl _) _
  have hmf : ∀ (fn : Fn) (first cap : Array Value) (w : World), (Instr.makeFunc fn first cap).run Tryz.prog w = .ok (.func fn first cap) w := fun _ _ _ _ => rfl
  have HC := Lib.hid (allWord_calls s (w.alloc (.cells #[.func (.func 103) #[] #[]] 100)) w.heap.size (by simp) hs)
  have HB := Lib.hid hB
  clear hB
  go_enter Tryz.func90, Tryz.ntmps90
  go_wp2_with (go_at_call 91; refine HC.out.mono ?_; rintro e w' ⟨rfl, rfl⟩)
  go_ret
  exact ⟨rfl, HB.out⟩

set_option maxHeartbeats 400000 in
theorem greatR_calls (c : UInt8) (w : World) : Calls Tryz.prog 100 #[.int .u8 c.toNat] w (Same0 w (.bool (dec (Great c)))) := by
  have hc := c.toNat_lt
  generalize hn : c.toNat = n at hc
  by_cases h1 : 65 ≤ n
  · have hd : Hid (dec (Great c) = decide ((n : Int) ≤ 90)) := by
      show dec (Great c) = _
      by_cases h2 : n ≤ 90
      · rw [dec_true (by unfold Great; omega)]; symm; simp; omega
      · rw [dec_false (by unfold Great; omega)]; symm; simp; omega
    clear hn
    go_enter Tryz.func100, Tryz.ntmps100
    go_wp2
    go_ret
    exact ⟨ret_bool hd.out.symm, rfl⟩
  · have hd : Hid (dec (Great c) = false) := dec_false (by unfold Great; omega)
    clear hn
    go_enter Tryz.func100, Tryz.ntmps100
    go_wp2
    go_ret
    exact ⟨ret_bool hd.out.symm, rfl⟩

def RowCh (c : UInt8) : Prop := Small c ∨ Great c ∨ Digit c ∨ c.toNat = 45 ∨ c.toNat = 39
theorem row_word (c : UInt8) : WordCh c ↔ RowCh c ∧ ¬ Great c := by
  unfold WordCh WordHd RowCh Small Great Digit
  omega
set_option maxHeartbeats 400000 in
theorem rowCh_calls (c : UInt8) (w : World) : Calls Tryz.prog 99 #[.int .u8 c.toNat] w (Same0 w (.bool (dec (RowCh c)))) := by
  have hs := Lib.hid (smallR_calls c w)
  have hg := Lib.hid (greatR_calls c w)
  have hd0 := Lib.hid (digitR_calls c w)
  by_cases h1 : Small c
  · rw [dec_true h1] at hs
    have hd : Hid (dec (RowCh c) = true) := dec_true (Or.inl h1)
    clear h1
    go_enter Tryz.func99, Tryz.ntmps99
    go_wp2_with (first | (go_at_call 40; refine hs.out.mono ?_; rintro e w' ⟨rfl, rfl⟩) | (go_at_call 100; refine hg.out.mono ?_; rintro e w' ⟨rfl, rfl⟩) | (go_at_call 41; refine hd0.out.mono ?_; rintro e w' ⟨rfl, rfl⟩))
    go_ret
    exact ⟨ret_bool hd.out.symm, rfl⟩
  rw [dec_false h1] at hs
  by_cases h2 : Great c
  · rw [dec_true h2] at hg
    have hd : Hid (dec (RowCh c) = true) := dec_true (Or.inr (Or.inl h2))
    clear h1 h2
    go_enter Tryz.func99, Tryz.ntmps99
    go_wp2_with (first | (go_at_call 40; refine hs.out.mono ?_; rintro e w' ⟨rfl, rfl⟩) | (go_at_call 100; refine hg.out.mono ?_; rintro e w' ⟨rfl, rfl⟩) | (go_at_call 41; refine hd0.out.mono ?_; rintro e w' ⟨rfl, rfl⟩))
    go_ret
    exact ⟨ret_bool hd.out.symm, rfl⟩
  rw [dec_false h2] at hg
  by_cases h3 : Digit c
  · rw [dec_true h3] at hd0
    have hd : Hid (dec (RowCh c) = true) := dec_true (Or.inr (Or.inr (Or.inl h3)))
    clear h1 h2 h3
    go_enter Tryz.func99, Tryz.ntmps99
    go_wp2_with (first | (go_at_call 40; refine hs.out.mono ?_; rintro e w' ⟨rfl, rfl⟩) | (go_at_call 100; refine hg.out.mono ?_; rintro e w' ⟨rfl, rfl⟩) | (go_at_call 41; refine hd0.out.mono ?_; rintro e w' ⟨rfl, rfl⟩))
    go_ret
    exact ⟨ret_bool hd.out.symm, rfl⟩
  rw [dec_false h3] at hd0
  by_cases h4 : c.toNat = 45
  · have hd : Hid (dec (RowCh c) = true) := dec_true (Or.inr (Or.inr (Or.inr (Or.inl h4))))
    have e1 : ((c.toNat : Int) == 45) = true := by simp [h4]
    clear h1 h2 h3 h4
    go_enter Tryz.func99, Tryz.ntmps99
    go_wp2_with (first | (go_at_call 40; refine hs.out.mono ?_; rintro e w' ⟨rfl, rfl⟩) | (go_at_call 100; refine hg.out.mono ?_; rintro e w' ⟨rfl, rfl⟩) | (go_at_call 41; refine hd0.out.mono ?_; rintro e w' ⟨rfl, rfl⟩))
    go_ret
    exact ⟨ret_bool hd.out.symm, rfl⟩
  have e1 : ((c.toNat : Int) == 45) = false := by simp; omega
  have hd : Hid (dec (RowCh c) = ((c.toNat : Int) == 39)) := by
    show dec (RowCh c) = _
    by_cases h5 : c.toNat = 39
    · rw [dec_true (show RowCh c from Or.inr (Or.inr (Or.inr (Or.inr h5)))), h5]; rfl
    · rw [dec_false (by unfold RowCh; simp [h1, h2, h3, h4, h5])]; symm; simp; omega
  clear h1 h2 h3 h4
  go_enter Tryz.func99, Tryz.ntmps99
  go_wp2_with (first | (go_at_call 40; refine hs.out.mono ?_; rintro e w' ⟨rfl, rfl⟩) | (go_at_call 100; refine hg.out.mono ?_; rintro e w' ⟨rfl, rfl⟩) | (go_at_call 41; refine hd0.out.mono ?_; rintro e w' ⟨rfl, rfl⟩))
  go_ret
  exact ⟨ret_bool hd.out.symm, rfl⟩

set_option maxRecDepth 100000 in
set_option maxHeartbeats 1000000 in
theorem isWordR_calls (s : ByteArray) (w : World) (hs : s.size ≤ maxLen) : Calls Tryz.prog 77 #[.string s] w (Same0 w (.bool (dec (IsWord s)))) := by
  unfold maxLen at hs
  by_cases h0 : 0 < s.size
  rotate_left
  · have hd : Hid (dec (IsWord s) = false) := dec_false (fun ⟨h, _⟩ => h0 h)
    go_enter Tryz.func77, Tryz.ntmps77
    go_wp2
    go_ret
    exact ⟨ret_bool hd.out.symm, rfl⟩
  have d1 : decide ((s.size : Int) < 1) = false := by simp; omega
  by_cases h24 : s.size ≤ 9
  rotate_left
  · have hd : Hid (dec (IsWord s) = false) := dec_false (fun ⟨_, h, _⟩ => h24 h)
    have d2 : decide (9 < (s.size : Int)) = true := by simp; omega
    go_enter Tryz.func77, Tryz.ntmps77
    go_wp2
    go_ret
    exact ⟨ret_bool hd.out.symm, rfl⟩
  have d2 : decide (9 < (s.size : Int)) = false := by simp; omega
  have hsm := smallR_calls s[0] w
  have hdg := digitR_calls s[0] w
  by_cases h1 : Small s[0]
  · rw [dec_true h1] at hsm
    have HS := Lib.hid hsm
    have HDG := Lib.hid hdg
    have H1 : Hid (WordHd s[0]) := Or.inl h1
    clear hsm hdg h1
    go_enter Tryz.func77, Tryz.ntmps77
    go_wp2_with (go_at_call 40; refine HS.out.mono ?_; rintro e w' ⟨rfl, rfl⟩)
    clear HS HDG
    go_loop [3] (fun i => ∃ k : Nat, k ≤ s.size ∧ i = .int .i64 k ∧ Hid (∀ i (hi : i < s.size), i < k → WordCh s[i])) (fun i => s.size - (intOf i).toNat)
    case atStart => exact ⟨0, Nat.zero_le _, rfl, fun i hi h => absurd h (by omega)⟩
    case round =>
      obtain ⟨k, hk, rfl, hq⟩ := hrel
      by_cases hlt : k < s.size
      · have hr := rowCh_calls s[k] w
        have hg := greatR_calls s[k] w
        have hrw := row_word s[k]
        by_cases hR : RowCh s[k]
        · rw [dec_true hR] at hr
          by_cases hG : Great s[k]
          · rw [dec_true hG] at hg
            have hd : Hid (dec (IsWord s) = false) := dec_false (fun ⟨_, _, _, h⟩ => (hrw.1 (h k hlt)).2 hG)
            have HR := Lib.hid hr
            have HG := Lib.hid hg
            clear hr hg hrw hR hG hq
            go_wp2_with (first | (go_at_call 99; refine HR.out.mono ?_; rintro e w' ⟨rfl, rfl⟩) | (go_at_call 100; refine HG.out.mono ?_; rintro e w' ⟨rfl, rfl⟩))
            go_ret
            exact ⟨ret_bool hd.out.symm, rfl⟩
          · rw [dec_false hG] at hg
            have hnx : Hid (∀ i (hi : i < s.size), i < k + 1 → WordCh s[i]) := fun i hi h => by
              by_cases hik : i = k
              · subst hik; exact hrw.2 ⟨hR, hG⟩
              · exact hq.out i hi (by omega)
            have HR := Lib.hid hr
            have HG := Lib.hid hg
            clear hr hg hrw hR hG hq
            go_wp2_with (first | (go_at_call 99; refine HR.out.mono ?_; rintro e w' ⟨rfl, rfl⟩) | (go_at_call 100; refine HG.out.mono ?_; rintro e w' ⟨rfl, rfl⟩))
            go_round
            case rel => exact ⟨k + 1, by omega, by go_num, hnx⟩
            case measure => simp [intOf]; omega
        · rw [dec_false hR] at hr
          have hd : Hid (dec (IsWord s) = false) := dec_false (fun ⟨_, _, _, h⟩ => hR (hrw.1 (h k hlt)).1)
          have HR := Lib.hid hr
          clear hr hg hrw hR hq
          go_wp2_with (go_at_call 99; refine HR.out.mono ?_; rintro e w' ⟨rfl, rfl⟩)
          go_ret
          exact ⟨ret_bool hd.out.symm, rfl⟩
      · have hd : Hid (dec (IsWord s) = true) := dec_true ⟨h0, h24, H1.out, fun i hi => hq.out i hi (by omega)⟩
        clear hq
        go_wp2
        go_ret
        exact ⟨ret_bool hd.out.symm, rfl⟩
  rw [dec_false h1] at hsm
  by_cases h2 : Digit s[0]
  · rw [dec_true h2] at hdg
    have HS := Lib.hid hsm
    have HDG := Lib.hid hdg
    have H1 : Hid (WordHd s[0]) := Or.inr h2
    clear hsm hdg h1 h2
    go_enter Tryz.func77, Tryz.ntmps77
    go_wp2_with (first | (go_at_call 40; refine HS.out.mono ?_; rintro e w' ⟨rfl, rfl⟩) | (go_at_call 41; refine HDG.out.mono ?_; rintro e w' ⟨rfl, rfl⟩))
    clear HS HDG
    go_loop [3] (fun i => ∃ k : Nat, k ≤ s.size ∧ i = .int .i64 k ∧ Hid (∀ i (hi : i < s.size), i < k → WordCh s[i])) (fun i => s.size - (intOf i).toNat)
    case atStart => exact ⟨0, Nat.zero_le _, rfl, fun i hi h => absurd h (by omega)⟩
    case round =>
      obtain ⟨k, hk, rfl, hq⟩ := hrel
      by_cases hlt : k < s.size
      · have hr := rowCh_calls s[k] w
        have hg := greatR_calls s[k] w
        have hrw := row_word s[k]
        by_cases hR : RowCh s[k]
        · rw [dec_true hR] at hr
          by_cases hG : Great s[k]
          · rw [dec_true hG] at hg
            have hd : Hid (dec (IsWord s) = false) := dec_false (fun ⟨_, _, _, h⟩ => (hrw.1 (h k hlt)).2 hG)
            have HR := Lib.hid hr
            have HG := Lib.hid hg
            clear hr hg hrw hR hG hq
            go_wp2_with (first | (go_at_call 99; refine HR.out.mono ?_; rintro e w' ⟨rfl, rfl⟩) | (go_at_call 100; refine HG.out.mono ?_; rintro e w' ⟨rfl, rfl⟩))
            go_ret
            exact ⟨ret_bool hd.out.symm, rfl⟩
          · rw [dec_false hG] at hg
            have hnx : Hid (∀ i (hi : i < s.size), i < k + 1 → WordCh s[i]) := fun i hi h => by
              by_cases hik : i = k
              · subst hik; exact hrw.2 ⟨hR, hG⟩
              · exact hq.out i hi (by omega)
            have HR := Lib.hid hr
            have HG := Lib.hid hg
            clear hr hg hrw hR hG hq
            go_wp2_with (first | (go_at_call 99; refine HR.out.mono ?_; rintro e w' ⟨rfl, rfl⟩) | (go_at_call 100; refine HG.out.mono ?_; rintro e w' ⟨rfl, rfl⟩))
            go_round
            case rel => exact ⟨k + 1, by omega, by go_num, hnx⟩
            case measure => simp [intOf]; omega
        · rw [dec_false hR] at hr
          have hd : Hid (dec (IsWord s) = false) := dec_false (fun ⟨_, _, _, h⟩ => hR (hrw.1 (h k hlt)).1)
          have HR := Lib.hid hr
          clear hr hg hrw hR hq
          go_wp2_with (go_at_call 99; refine HR.out.mono ?_; rintro e w' ⟨rfl, rfl⟩)
          go_ret
          exact ⟨ret_bool hd.out.symm, rfl⟩
      · have hd : Hid (dec (IsWord s) = true) := dec_true ⟨h0, h24, H1.out, fun i hi => hq.out i hi (by omega)⟩
        clear hq
        go_wp2
        go_ret
        exact ⟨ret_bool hd.out.symm, rfl⟩
  rw [dec_false h2] at hdg
  have hd : Hid (dec (IsWord s) = false) := dec_false (fun ⟨_, _, h, _⟩ => h.elim h1 h2)
  have HS := Lib.hid hsm
  have HDG := Lib.hid hdg
  clear hsm hdg h1 h2
  go_enter Tryz.func77, Tryz.ntmps77
  go_wp2_with (first | (go_at_call 40; refine HS.out.mono ?_; rintro e w' ⟨rfl, rfl⟩) | (go_at_call 41; refine HDG.out.mono ?_; rintro e w' ⟨rfl, rfl⟩))
  go_ret
  exact ⟨ret_bool hd.out.symm, rfl⟩
end Go.Proofs.YtblhpiebheommaaGreat
/- The walks of kinds.words and of a whole's when. Printed by gen-kinds27.py. -/
namespace Go.Proofs.YtblhpiebheommaaGreat
open Go.RowKit

/-- What is wrong with words. -/
noncomputable def wordsW : List ByteArray → Int × ByteArray
  | [] => fineW
  | x :: r => seqW (if dec (IsWord x) = true then fineW else (9, x)) (wordsW r)

set_option maxRecDepth 100000 in
set_option maxHeartbeats 1000000 in
theorem words_calls (l : List ByteArray) (F : Nat → Prop) (w : World) (lv : Value) (hF : Inn F w) (hr : RdStrs F w l lv) :
    Calls Tryz.prog 71 #[lv] w (Judged w (wordsW l) (.tuple #[])) := by
  obtain ⟨a, cap, rfl, hl, hc, ha⟩ := hr.opn
  unfold maxLen at hc
  have HI := Lib.hid (fun (s : ByteArray) (W : World) (hs : s.size ≤ maxLen) => isWord_calls s W hs)
  have HF := Lib.hid hF
  obtain ⟨q, hq⟩ : ∃ q, wordsW l = q := ⟨_, rfl⟩
  rw [hq]
  have HQ := Lib.hid hq
  clear hr hq hF
  go_enter Tryz.func71, Tryz.ntmps71
  go_wp2
  go_loopw [6] (fun i wr => ∃ k : Nat, k ≤ l.length ∧ i = .int .i64 k ∧ Hid (q = wordsW (l.drop k)) ∧ Below w.heap.size w wr) (fun i _ => l.length - (intOf i).toNat)
  case atStart => exact ⟨0, Nat.zero_le _, rfl, by show _ = _; rw [List.drop_zero]; exact HQ.out.symm, Below.refl _ _⟩
  case round =>
    obtain ⟨k, hk, rfl, hinv, hB⟩ := hrel
    by_cases hlt : k < l.length
    · obtain ⟨b, off, rfl, hFb, hel⟩ := ha (by omega)
      obtain ⟨cs, ⟨h1, rfl⟩, -, hcell⟩ := hel wr (hB.block b (HF.out b hFb)) k hlt
      have g0 := hcell 0 _ rfl
      simp only [Nat.add_zero, Nat.mul_one] at g0
      have hdk : wordsW (l.drop k) = seqW (if dec (IsWord l[k]) = true then fineW else (9, l[k])) (wordsW (l.drop (k + 1))) := by rw [List.drop_eq_getElem_cons hlt]; rfl
      have HI2 := HI.out l[k] wr h1
      have hi2 := hinv.out
      rw [hdk] at hi2
      generalize l[k] = x at g0 HI2 hi2 h1
      have HB := Lib.hid hB
      clear hel hcell ha hdk hinv h1 hB
      by_cases hw : IsWord x
      · rw [dec_true hw] at HI2 hi2
        have HI3 := Lib.hid HI2
        have hnx : Hid (q = wordsW (l.drop (k + 1))) := by show _ = _; rw [hi2]; exact seqW_fine rfl
        clear HI2 hi2 hw
        go_wp2_with (go_at_call 90; refine HI3.out.mono ?_; rintro e w1 ⟨rfl, hb⟩)
        go_roundw
        case rel => exact ⟨k + 1, by omega, by go_num, hnx, below_on HB.out (Nat.le_refl _) hb⟩
        case measure => simp [intOf]; omega
      · rw [dec_false hw] at HI2 hi2
        have HI3 := Lib.hid HI2
        have hfin : Hid (q = (9, x)) := by show _ = _; rw [hi2]; exact seqW_bad (show ¬ ((9 : Int) = 0) by decide)
        clear HI2 hi2 hw
        go_wp2_with (go_at_call 90; refine HI3.out.mono ?_; rintro e w1 ⟨rfl, hb⟩)
        exact ⟨rfl, Judged.thrown hfin.out (by decide) rfl (below_on HB.out (Nat.le_refl _) hb)⟩
    · have hfin : Hid (q = fineW) := by show _ = _; rw [hinv.out, List.drop_eq_nil_of_le (by omega)]; rfl
      have HB := Lib.hid hB
      clear hinv hB ha
      go_wp2
      go_end0
      exact Judged.fine (by rw [hfin.out]; rfl) rfl HB.out

set_option maxRecDepth 100000 in
set_option maxHeartbeats 4000000 in
theorem when_calls (t : List NameD) (s : SrcD) (l : List Ex) (F : Nat → Prop) (w : World) (tv lv : Value) (ss : List Value) (hF : Inn F w) (hri : Rises t) (ht : t.length ≤ 1000000000000) (htab : TabOk t s.funcs s.objects.length) (h0 : RdNames F w t tv) (h1 : Holds.src.R F w s ss) (hr : Exs F w l lv) :
    Calls Tryz.prog 72 #[.agg (tv :: ss).toArray, lv] w (Judged w (Ex.kWs t s.funcs [] l) (.tuple #[])) := by
  have HCH := Lib.hid (fun W (hW : Below w.heap.size w W) => checker_calls t s 0 F W tv ss (hF.below hW) (h0.below hF hW (Nat.le_refl _)) (Holds.below _ h1 hF hW (Nat.le_refl _)))
  have HE := Lib.hid (fun (e : Ex) (W : World) (B : Nat) (v : Value) (cs : List Value) (hck : Ck F W B t s.funcs 0 0 0 [] v) (hrx : RdEx F W e cs) => kexpr_calls t s.funcs s.objects.length hri ht htab e [] (FB F W B) W B cs hck.fin hck.ckt hck.ckl hck.ckf (hrx.keep (fun _ _ => rfl) (fun _ h => .inl h)))
  obtain ⟨a, cap, rfl⟩ := hr.shape
  obtain ⟨_, hl, hc, ha⟩ := hr.opn
  obtain ⟨a0, c0, rfl⟩ := h0.shape
  obtain ⟨a5, c5, a6, c6, a7, c7, a8, c8, a9, c9, a10, c10, a11, c11, a12, c12, rfl, -⟩ := src_shape h1
  have HF := Lib.hid hF
  obtain ⟨q, hq⟩ : ∃ q, Ex.kWs t s.funcs [] l = q := ⟨_, rfl⟩
  rw [hq]
  have HQ := Lib.hid hq
  have hA : Hid (∃ W0, w.alloc (.cells #[.slice a0 t.length c0, .string s.title, .string s.author, .string s.start, .int .i64 s.release, .int .i64 s.most, .slice a5 s.flags.length c5, .slice a6 s.props.length c6, .slice a7 s.globals.length c7, .slice a8 s.objects.length c8, .slice a9 s.verbs.length c9, .slice a10 s.rules.length c10, .slice a11 s.funcs.length c11, .slice a12 s.daemons.length c12] 73) = W0 ∧ Below w.heap.size w W0 ∧ BoxAt W0 w.heap.size [.slice a0 t.length c0, .string s.title, .string s.author, .string s.start, .int .i64 s.release, .int .i64 s.most, .slice a5 s.flags.length c5, .slice a6 s.props.length c6, .slice a7 s.globals.length c7, .slice a8 s.objects.length c8, .slice a9 s.verbs.length c9, .slice a10 s.rules.length c10, .slice a11 s.funcs.length c11, .slice a12 s.daemons.length c12] ∧ w.heap.size < W0.heap.size) := ⟨_, rfl, (Below.refl _ w).alloc (Nat.le_refl _) _, BoxAt.new _ _ _, by simp⟩
  clear h0 h1 hr hq hF htab hri
  go_enter Tryz.func72, Tryz.ntmps72
  go_upto_region 1 with fail
  obtain ⟨W0, hW0, hB0, hbox, hz0⟩ := hA.out
  rw [hW0]
  have HB0 := Lib.hid hB0
  have HBOX := Lib.hid hbox
  clear hA hW0 hB0 hbox
  go_wp2_with fail
  go_loopw [8] (fun i wr => ∃ k : Nat, k ≤ l.length ∧ i = .int .i64 k ∧ Hid (q = Ex.kWs t s.funcs [] (l.drop k)) ∧ Below W0.heap.size W0 wr) (fun i _ => l.length - (intOf i).toNat)
  case atStart => exact ⟨0, Nat.zero_le _, rfl, by show _ = _; rw [List.drop_zero]; exact HQ.out.symm, Below.refl _ _⟩
  case round =>
    obtain ⟨k, hk, rfl, hinv, hB⟩ := hrel
    have hBw : Below w.heap.size w wr := HB0.out.trans (hB.mono HB0.out.size)
    by_cases hlt : k < l.length
    · obtain ⟨b, off, rfl, hFb, hel⟩ := ha (by omega)
      obtain ⟨ke, oe, ne, se, ae, me, ce, hxe, f0, f1, f2, f3, f4⟩ := hel wr (hBw.block b (HF.out b hFb)) k hlt
      have hdk : Ex.kWs t s.funcs [] (l.drop k) = seqW (l[k].kW t s.funcs []) (Ex.kWs t s.funcs [] (l.drop (k + 1))) := by rw [List.drop_eq_getElem_cons hlt]; rfl
      have hi2 := hinv.out
      rw [hdk] at hi2
      have hcall := fun (W : World) (B : Nat) (v : Value) (hW : Below wr.heap.size wr W) (hck : Ck F W B t s.funcs 0 0 0 [] v) => HE.out l[k] W B v _ hck (hxe.below HF.out (hBw.trans (hW.mono hBw.size)) (Nat.le_refl _))
      generalize l[k].kW t s.funcs [] = p at hcall hi2
      have hA : Hid (∃ (wx : World) (bx : Nat), wr.alloc (.cells #[.int .i64 ke, .int .i64 oe, .int .i64 ne, .string se, .slice ae me ce] 54) = wx ∧ wr.heap.size = bx ∧ Below wr.heap.size wr wx ∧ BoxAt wx bx [.int .i64 ke, .int .i64 oe, .int .i64 ne, .string se, .slice ae me ce]) := ⟨_, _, rfl, rfl, (Below.refl _ wr).alloc (Nat.le_refl _) _, BoxAt.new _ _ _⟩
      have HB := Lib.hid hB
      have HBw := Lib.hid hBw
      have HCL := Lib.hid hcall
      clear hel ha hdk hinv hxe hB hBw hcall
      go_upto_region 4 with fail
      obtain ⟨wx, bx, hwx, hbx, hBx, hboxx⟩ := hA.out
      rw [hwx]
      simp only [hbx]
      have HBX := Lib.hid hBx
      have HXB := Lib.hid hboxx
      have HWB := Lib.hid (HBOX.out.below (HB.out.trans (hBx.mono HB.out.size)) HBOX.out.1)
      clear hA hwx hBx hboxx f0 f1 f2 f3 f4 hbx
      refine wp_region_held_drew (S := fun W => Below wx.heap.size wx W) (by kernel_rfl) (Below.refl _ _).drew (fun hHeld => ?_)
      refine wpAnyH_take (i := 0) (v := .agg #[.slice a0 t.length c0, .string s.title, .string s.author, .string s.start, .int .i64 s.release, .int .i64 s.most, .slice a5 s.flags.length c5, .slice a6 s.props.length c6, .slice a7 s.globals.length c7, .slice a8 s.objects.length c8, .slice a9 s.verbs.length c9, .slice a10 s.rules.length c10, .slice a11 s.funcs.length c11, .slice a12 s.daemons.length c12]) rfl (by kernel_rfl) (by kernel_rfl) (by kernel_rfl) (fun _ _ _ h => h) (Or.inl ⟨by rfl, ?_⟩) (by assumption) ?_
      · intro W hW
        have hb := HWB.out.below hW HWB.out.1
        have x0 := hb.2 0 (by simp)
        have x1 := hb.2 1 (by simp)
        have x2 := hb.2 2 (by simp)
        have x3 := hb.2 3 (by simp)
        have x4 := hb.2 4 (by simp)
        have x5 := hb.2 5 (by simp)
        have x6 := hb.2 6 (by simp)
        have x7 := hb.2 7 (by simp)
        have x8 := hb.2 8 (by simp)
        have x9 := hb.2 9 (by simp)
        have x10 := hb.2 10 (by simp)
        have x11 := hb.2 11 (by simp)
        have x12 := hb.2 12 (by simp)
        have x13 := hb.2 13 (by simp)
        simp only [List.getElem?_cons_succ, List.getElem?_cons_zero] at x0 x1 x2 x3 x4 x5 x6 x7 x8 x9 x10 x11 x12 x13
        go_simp
      simp only [Act.put]
      refine wpAnyH_take (i := 2) (v := .agg #[.int .i64 ke, .int .i64 oe, .int .i64 ne, .string se, .slice ae me ce]) rfl (by kernel_rfl) (by kernel_rfl) (by kernel_rfl) (fun _ _ _ h => h) (Or.inl ⟨by rfl, ?_⟩) (by assumption) ?_
      · intro W hW
        have hb := HXB.out.below hW HXB.out.1
        have y0 := hb.2 0 (by simp)
        have y1 := hb.2 1 (by simp)
        have y2 := hb.2 2 (by simp)
        have y3 := hb.2 3 (by simp)
        have y4 := hb.2 4 (by simp)
        simp only [List.getElem?_cons_succ, List.getElem?_cons_zero] at y0 y1 y2 y3 y4
        go_simp
      simp only [Act.put]
      refine wpAnyH_ready (rs := [1]) (by kernel_rfl) (by simp) ?_
      refine AllReadyH.cons rfl (fun K hK => ?_) AllReadyH.nil
      go_simp
      have hwx2 : Below w.heap.size w wx := HBw.out.trans (HBX.out.mono HBw.out.size)
      refine (HCH.out _ hwx2.drew).mono ?_
      rintro e w1 ⟨B, rfl, hB, hck, hb⟩
      have hb1 : Below wx.heap.size wx w1 := (Below.refl _ wx).drew.trans hb
      refine hK.out _ _ hb1 (fun hHeld => ?_)
      clear hK K
      refine wpAnyH_ready (rs := [3]) (by kernel_rfl) (by simp) ?_
      refine AllReadyH.cons rfl (fun K hK => ?_) AllReadyH.nil
      go_simp
      by_cases hz : p.1 = 0
      · have hnx : Hid (q = Ex.kWs t s.funcs [] (l.drop (k + 1))) := by show _ = _; rw [hi2, seqW_fine hz]
        refine (judged_ok (HCL.out w1 B _ (HBX.out.trans (hb1.mono HBX.out.size)) hck) hz).mono ?_
        rintro e w2 ⟨rfl, hb2⟩
        have hb2x : Below wx.heap.size wx w2 := hb1.trans (hb2.mono hb1.size)
        refine hK.out _ _ hb2x (fun hHeld => ?_)
        clear hK K
        refine wpAnyH_done (by kernel_rfl) ?_ _
        have HB2 := Lib.hid (HB.out.trans ((HBX.out.trans (hb2x.mono HBX.out.size)).mono HB.out.size))
        clear hb hb1 hb2 hb2x hck hz hi2
        go_wp2_with fail
        go_roundw
        case rel => exact ⟨k + 1, by omega, by go_num, hnx, HB2.out⟩
        case measure => simp [intOf]; omega
      · have hfin : q = (p.1, p.2) := by rw [hi2, seqW_bad hz]
        refine (judged_bad (HCL.out w1 B _ (HBX.out.trans (hb1.mono HBX.out.size)) hck) hz).mono ?_
        rintro e w2 ⟨rfl, hb2⟩
        exact ⟨rfl, Judged.thrown hfin hz rfl (hwx2.trans ((hb1.trans (hb2.mono hb1.size)).mono hwx2.size))⟩
    · have hfin : Hid (q = fineW) := by show _ = _; rw [hinv.out, List.drop_eq_nil_of_le (by omega)]; rfl
      have HB := Lib.hid hBw
      clear hinv hB ha hBw
      go_wp2_with fail
      go_end0
      exact Judged.fine (by rw [hfin.out]; rfl) rfl HB.out
end Go.Proofs.YtblhpiebheommaaGreat
