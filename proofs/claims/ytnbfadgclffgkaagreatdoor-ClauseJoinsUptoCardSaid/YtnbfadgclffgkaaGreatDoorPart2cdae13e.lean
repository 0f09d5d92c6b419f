/- The walks of the functions that count expressions and statements, and tell how deep they are: each hands back the number that XData defines, and leaves what was in memory as it was. -/
import Derived.Test.YtnbfadgclffgkaaGreatDoorRows
import Derived.Test.YtnbfadgclffgkaaGreatDoorPart68311049
import Derived.WalkSpells
import Derived.WalkLawsBesides
import Derived.Lib.QuietBelow
import Derived.BigQuiet
namespace Go.Proofs.YtnbfadgclffgkaaGreatDoor
open Go.RowKit
def DeepRC (e : Ex) : Prop := ∀ (F : Nat → Prop) (w : World) (cs : List Value) (m : Nat), Inn F w → 1 ≤ m → m ≤ 1000 → RdEx F w e cs →
    Calls Tryz.prog 117 #[.agg cs.toArray, .int .i64 m] w (Gives w (.int .i64 (min e.depth m : Nat)))
set_option maxHeartbeats 400000 in
theorem deepR_calls (e : Ex) : DeepRC e := by
  induction e using Ex.ind with
  | h kd o n s args ih =>
  intro F w cs m hF hm0 hm1 hr
  obtain ⟨h1, h2, h3, h4, v, c, rfl, hsl, hrow⟩ := hr
  obtain ⟨a, cap, rfl, hl, hc, ha⟩ := hsl
  unfold maxLen at hc
  by_cases hm : m = 1
  · subst hm
    go_enter Tryz.func117, Tryz.ntmps117
    go_wp2
    go_ret
    exact ⟨ret_int (by simp only [Ex.depth]; omega), (Below.refl _ _).alloc (Nat.le_refl _) _⟩
  have hm2 : 1 < m := by omega
  clear hm
  have hm3 : (1 : Int) < (m : Int) := by omega
  go_enter Tryz.func117, Tryz.ntmps117
  go_wp2
  go_loopw [5, 14] (fun t i wr => ∃ (k : Nat), k ≤ args.length ∧ i = .int .i64 k ∧ t = .int .i64 (min (Ex.depths (args.take k)) (m - 1) : Nat) ∧ Below w.heap.size w wr) (fun _ i _ => args.length - (intOf i).toNat)
  case atStart => exact ⟨0, Nat.zero_le _, rfl, by simp [Ex.depths], (Below.refl _ _).alloc (Nat.le_refl _) _⟩
  case round =>
    obtain ⟨k, hk, rfl, rfl, hB⟩ := hrel
    by_cases hlt : k < args.length
    · obtain ⟨b, off, rfl, hFb, hcell⟩ := ha (by omega)
      obtain ⟨kd', o', n', s', a', m', cap', hx, g0, g1, g2, g3, g4⟩ := row_at hcell hrow (hB.block b (hF b hFb)) k hlt
      clear ha hcell hrow
      have HS := Lib.hid (Ex.depths_take args k hlt)
      have ihk : DeepRC args[k] := ih _ (List.getElem_mem hlt)
      have hI := hF.below hB
      have hx2 := fun o => (hx.below hF hB (Nat.le_refl _)).alloc hI o
      clear ih hx
      have hcall : ∀ o, Calls Tryz.prog 117 #[.agg #[.int .i64 kd', .int .i64 o', .int .i64 n', .string s', .slice a' m' cap'], .int .i64 ((m : Int) - 1)] (wr.alloc o) (Gives (wr.alloc o) (.int .i64 (min (args[k]).depth (m - 1) : Nat))) := fun o => by
        have := ihk F (wr.alloc o) _ (m - 1) (hI.alloc _) (by omega) (by omega) (hx2 _)
        rwa [show (((m - 1 : Nat)) : Int) = (m : Int) - 1 by omega] at this
      clear ihk
      generalize hD : min (Ex.depths (args.take k)) (m - 1) = D
      generalize hE : min (args[k]).depth (m - 1) = E at hcall
      have hD2 : D ≤ 1000 := by omega
      have hE2 : E ≤ 1000 := by omega
      have HD := Lib.hid hD
      have HE := Lib.hid hE
      clear hD hE
      have HC := Lib.hid hcall
      clear hcall
      by_cases hlt2 : D < E
      all_goals
        go_wp2_with (go_at_call 117; refine (HC.out _).mono ?_; rintro e w' ⟨rfl, hb⟩)
        go_roundw
        case rel => exact ⟨k + 1, by omega, by go_num, by rw [HS.out]; have := HD.out; have := HE.out; first | rfl | (congr 2; omega), below_on1 hB (Nat.le_refl _) hb⟩
        case measure => simp [intOf]; omega
    · have : k = args.length := by omega
      subst this
      rw [List.take_length]
      generalize hD : Ex.depths args = D
      have hz : min D (m - 1) ≤ 1000 := by omega
      go_wp2
      go_ret
      exact ⟨ret_int (by simp only [Ex.depth, hD]; omega), hB⟩
end Go.Proofs.YtnbfadgclffgkaaGreatDoor
/- The walks of package letter's IsName and IsText, and of clewref04's: what is a name, what is a text. -/
namespace Go.Proofs.YtnbfadgclffgkaaGreatDoor
open Go.RowKit Go.Sort
noncomputable def dec (p : Prop) : Bool := @decide p (Classical.propDecidable p)
theorem dec_true {p : Prop} (h : p) : dec p = true := by simp [dec, h]
theorem dec_false {p : Prop} (h : ¬ p) : dec p = false := by simp [dec, h]
theorem dec_iff {p : Prop} : dec p = true ↔ p := by simp [dec]
theorem dec_congr {p q : Prop} (h : p ↔ q) : dec p = dec q := by rw [propext h]
def Same0 (w : World) (v : Value) (e : Ending) (w' : World) : Prop := e = .returned v ∧ w = w'
def Small (c : UInt8) : Prop := 97 ≤ c.toNat ∧ c.toNat ≤ 122
def Digit (c : UInt8) : Prop := 48 ≤ c.toNat ∧ c.toNat ≤ 57
def NameCh (c : UInt8) : Prop := Small c ∨ Digit c ∨ c.toNat = 95
def TextCh (c : UInt8) : Prop := (32 ≤ c.toNat ∧ c.toNat ≤ 126) ∨ c.toNat = 10
set_option maxHeartbeats 400000 in
theorem smallR_calls (c : UInt8) (w : World) : Calls Tryz.prog 157 #[.int .u8 c.toNat] w (Same0 w (.bool (dec (Small c)))) := by
  have hc := c.toNat_lt
  generalize hn : c.toNat = n at hc
  by_cases h1 : 97 ≤ n
  · have hd : Hid (dec (Small c) = decide ((n : Int) ≤ 122)) := by
      show dec (Small c) = _
      by_cases h2 : n ≤ 122
      · rw [dec_true (by unfold Small; omega)]; symm; simp; omega
      · rw [dec_false (by unfold Small; omega)]; symm; simp; omega
    clear hn
    go_enter Tryz.func157, Tryz.ntmps157
    go_wp2
    go_ret
    exact ⟨ret_bool hd.out.symm, rfl⟩
  · have hd : Hid (dec (Small c) = false) := dec_false (by unfold Small; omega)
    clear hn
    go_enter Tryz.func157, Tryz.ntmps157
    go_wp2
    go_ret
    exact ⟨ret_bool hd.out.symm, rfl⟩
set_option maxHeartbeats 400000 in
theorem digitR_calls (c : UInt8) (w : World) : Calls Tryz.prog 158 #[.int .u8 c.toNat] w (Same0 w (.bool (dec (Digit c)))) := by
  have hc := c.toNat_lt
  generalize hn : c.toNat = n at hc
  by_cases h1 : 48 ≤ n
  · have hd : Hid (dec (Digit c) = decide ((n : Int) ≤ 57)) := by
      show dec (Digit c) = _
      by_cases h2 : n ≤ 57
      · rw [dec_true (by unfold Digit; omega)]; symm; simp; omega
      · rw [dec_false (by unfold Digit; omega)]; symm; simp; omega
    clear hn
    go_enter Tryz.func158, Tryz.ntmps158
    go_wp2
    go_ret
    exact ⟨ret_bool hd.out.symm, rfl⟩
  · have hd : Hid (dec (Digit c) = false) := dec_false (by unfold Digit; omega)
    clear hn
    go_enter Tryz.func158, Tryz.ntmps158
    go_wp2
    go_ret
    exact ⟨ret_bool hd.out.symm, rfl⟩
def IsName (s : ByteArray) : Prop := ∃ h : 0 < s.size, s.size ≤ 24 ∧ Small s[0] ∧ ∀ i (hi : i < s.size), NameCh s[i]
def IsText (s : ByteArray) : Prop := s.size ≤ 1024 ∧ ∀ i (hi : i < s.size), TextCh s[i]
end Go.Proofs.YtnbfadgclffgkaaGreatDoor
/- The walks of clewref04.IsName and clewref04.IsText. -/
namespace Go.Proofs.YtnbfadgclffgkaaGreatDoor
open Go.RowKit Go.Sort
set_option maxRecDepth 100000 in
set_option maxHeartbeats 1000000 in
theorem isNameR_calls (s : ByteArray) (w : World) (hs : s.size ≤ maxLen) : Calls Tryz.prog 120 #[.string s] w (Same0 w (.bool (dec (IsName s)))) := by
  unfold maxLen at hs
  by_cases h0 : 0 < s.size
  rotate_left
  · have hd : Hid (dec (IsName s) = false) := dec_false (fun ⟨h, _⟩ => h0 h)
    go_enter Tryz.func120, Tryz.ntmps120
    go_wp2
    go_ret
    exact ⟨ret_bool hd.out.symm, rfl⟩
  have d1 : decide ((s.size : Int) < 1) = false := by simp; omega
  by_cases h24 : s.size ≤ 24
  rotate_left
  · have hd : Hid (dec (IsName s) = false) := dec_false (fun ⟨_, h, _⟩ => h24 h)
    have d2 : decide (24 < (s.size : Int)) = true := by simp; omega
    go_enter Tryz.func120, Tryz.ntmps120
    go_wp2
    go_ret
    exact ⟨ret_bool hd.out.symm, rfl⟩
  have d2 : decide (24 < (s.size : Int)) = false := by simp; omega
  have hsm := smallR_calls s[0] w
  by_cases h1 : Small s[0]
  rotate_left
  · have hd : Hid (dec (IsName s) = false) := dec_false (fun ⟨_, _, h, _⟩ => h1 h)
    rw [dec_false h1] at hsm
    have HS := Lib.hid hsm
    clear hsm h1
    go_enter Tryz.func120, Tryz.ntmps120
    go_wp2_with (go_at_call 157; refine HS.out.mono ?_; rintro e w' ⟨rfl, rfl⟩)
    go_ret
    exact ⟨ret_bool hd.out.symm, rfl⟩
  rw [dec_true h1] at hsm
  have HS := Lib.hid hsm
  have H1 := Lib.hid h1
  clear hsm h1
  go_enter Tryz.func120, Tryz.ntmps120
  go_wp2_with (go_at_call 157; refine HS.out.mono ?_; rintro e w' ⟨rfl, rfl⟩)
  clear HS
  go_loop [3] (fun i => ∃ k : Nat, k ≤ s.size ∧ i = .int .i64 k ∧ Hid (∀ i (hi : i < s.size), i < k → NameCh s[i])) (fun i => s.size - (intOf i).toNat)
  case atStart => exact ⟨0, Nat.zero_le _, rfl, fun i hi h => absurd h (by omega)⟩
  case round =>
    obtain ⟨k, hk, rfl, hq⟩ := hrel
    by_cases hlt : k < s.size
    · have hchs := smallR_calls s[k] w
      have hchd := digitR_calls s[k] w
      by_cases h2 : NameCh s[k]
      · have hnx : Hid (∀ i (hi : i < s.size), i < k + 1 → NameCh s[i]) := fun i hi h => by
          by_cases hik : i = k
          · subst hik; exact h2
          · exact hq.out i hi (by omega)
        clear hq
        by_cases ha : Small s[k]
        · rw [dec_true ha] at hchs
          have HC := Lib.hid hchs
          clear hchs hchd h2 ha
          go_wp2_with (go_at_call 157; refine HC.out.mono ?_; rintro e w' ⟨rfl, rfl⟩)
          go_round
          case rel => exact ⟨k + 1, by omega, by go_num, hnx⟩
          case measure => simp [intOf]; omega
        · rw [dec_false ha] at hchs
          have HC := Lib.hid hchs
          by_cases hb : Digit s[k]
          · rw [dec_true hb] at hchd
            have HD := Lib.hid hchd
            clear hchs hchd h2 ha hb
            go_wp2_with (first | (go_at_call 157; refine HC.out.mono ?_; rintro e w' ⟨rfl, rfl⟩) | (go_at_call 158; refine HD.out.mono ?_; rintro e w' ⟨rfl, rfl⟩))
            go_round
            case rel => exact ⟨k + 1, by omega, by go_num, hnx⟩
            case measure => simp [intOf]; omega
          · rw [dec_false hb] at hchd
            have HD := Lib.hid hchd
            have h95 : (((s[k]).toNat : Int) != 95) = false := by
              rcases h2 with h2 | h2 | h2
              · exact absurd h2 ha
              · exact absurd h2 hb
              · simp [h2]
            clear hchs hchd h2 ha hb
            go_wp2_with (first | (go_at_call 157; refine HC.out.mono ?_; rintro e w' ⟨rfl, rfl⟩) | (go_at_call 158; refine HD.out.mono ?_; rintro e w' ⟨rfl, rfl⟩))
            go_round
            case rel => exact ⟨k + 1, by omega, by go_num, hnx⟩
            case measure => simp [intOf]; omega
      · have hd : Hid (dec (IsName s) = false) := dec_false (fun ⟨_, _, _, h⟩ => h2 (h k hlt))
        have ha : ¬ Small s[k] := fun h => h2 (Or.inl h)
        have hb : ¬ Digit s[k] := fun h => h2 (Or.inr (Or.inl h))
        have hc : (s[k]).toNat ≠ 95 := fun h => h2 (Or.inr (Or.inr h))
        rw [dec_false ha] at hchs
        rw [dec_false hb] at hchd
        have h95 : (((s[k]).toNat : Int) != 95) = true := by simp; omega
        have HC := Lib.hid hchs
        have HD := Lib.hid hchd
        clear hchs hchd h2 ha hb hc hq
        go_wp2_with (first | (go_at_call 157; refine HC.out.mono ?_; rintro e w' ⟨rfl, rfl⟩) | (go_at_call 158; refine HD.out.mono ?_; rintro e w' ⟨rfl, rfl⟩))
        go_ret
        exact ⟨ret_bool hd.out.symm, rfl⟩
    · have hd : Hid (dec (IsName s) = true) := dec_true ⟨h0, h24, H1.out, fun i hi => hq.out i hi (by omega)⟩
      clear hq
      go_wp2
      go_ret
      exact ⟨ret_bool hd.out.symm, rfl⟩
set_option maxRecDepth 100000 in
set_option maxHeartbeats 1000000 in
theorem isTextR_calls (s : ByteArray) (w : World) (hs : s.size ≤ maxLen) : Calls Tryz.prog 122 #[.string s] w (Same0 w (.bool (dec (IsText s)))) := by
  unfold maxLen at hs
  go_enter Tryz.func122, Tryz.ntmps122
  go_wp2
  go_loop [3] (fun i => ∃ k : Nat, k ≤ s.size ∧ i = .int .i64 k ∧ Hid (∀ i (hi : i < s.size), i < k → TextCh s[i])) (fun i => s.size - (intOf i).toNat)
  case atStart => exact ⟨0, Nat.zero_le _, rfl, fun i hi h => absurd h (by omega)⟩
  case round =>
    obtain ⟨k, hk, rfl, hq⟩ := hrel
    by_cases hlt : k < s.size
    · by_cases h2 : TextCh s[k]
      · have hnx : Hid (∀ i (hi : i < s.size), i < k + 1 → TextCh s[i]) := fun i hi h => by
          by_cases hik : i = k
          · subst hik; exact h2
          · exact hq.out i hi (by omega)
        clear hq
        rcases h2 with h2 | h2
        · have e1 : decide (((s[k]).toNat : Int) < 32) = false := by simp; omega
          have e2 : decide (126 < ((s[k]).toNat : Int)) = false := by simp; omega
          clear h2
          go_wp2
          go_round
          case rel => exact ⟨k + 1, by omega, by go_num, hnx⟩
          case measure => simp [intOf]; omega
        · have e1 : decide (((s[k]).toNat : Int) < 32) = true := by simp; omega
          have e2 : (((s[k]).toNat : Int) != 10) = false := by simp [h2]
          clear h2
          go_wp2
          go_round
          case rel => exact ⟨k + 1, by omega, by go_num, hnx⟩
          case measure => simp [intOf]; omega
      · have hd : Hid (dec (IsText s) = false) := dec_false (fun ⟨_, h⟩ => h2 (h k hlt))
        have e3 : (((s[k]).toNat : Int) != 10) = true := by simp; intro h; exact h2 (Or.inr (by omega))
        by_cases h3 : (s[k]).toNat < 32
        · have e1 : decide (((s[k]).toNat : Int) < 32) = true := by simp; omega
          clear h2 h3 hq
          go_wp2
          go_ret
          exact ⟨ret_bool hd.out.symm, rfl⟩
        · have e1 : decide (((s[k]).toNat : Int) < 32) = false := by simp; omega
          have e2 : decide (126 < ((s[k]).toNat : Int)) = true := by
            simp
            by_cases h4 : (s[k]).toNat ≤ 126
            · exact absurd (Or.inl ⟨by omega, h4⟩) h2
            · omega
          clear h2 h3 hq
          go_wp2
          go_ret
          exact ⟨ret_bool hd.out.symm, rfl⟩
    · have hd : Hid (dec (IsText s) = decide (s.size ≤ 1024)) := by
        show dec (IsText s) = _
        by_cases h : s.size ≤ 1024
        · rw [dec_true ⟨h, fun i hi => hq.out i hi (by omega)⟩]; simp [h]
        · rw [dec_false (fun ⟨h', _⟩ => h h')]; simp [h]
      clear hq
      go_wp2
      go_ret
      exact ⟨ret_bool (by rw [hd.out]; simp; omega), rfl⟩
end Go.Proofs.YtnbfadgclffgkaaGreatDoor
/- The walks of tree.deep, tree.Depth, clewref10.Depth and clewref10.greater. -/
namespace Go.Proofs.YtnbfadgclffgkaaGreatDoor
open Go.RowKit
def DeepTC (e : Ex) : Prop := ∀ (F : Nat → Prop) (w : World) (cs : List Value) (m : Nat), Inn F w → m ≤ 1000 → RdEx F w e cs →
    Calls Tryz.prog 149 #[.agg cs.toArray, .int .i64 m] w (Gives w (.int .i64 (min e.depth (m + 1) : Nat)))
theorem cell_kept {w wr : World} {o : Obj} {j : Nat} {v : Value} (hB : Below (w.heap.size + 1) (w.alloc o) wr) (h : (w.alloc o).cell? ⟨w.heap.size, j, none⟩ = some v) : wr.cell? ⟨w.heap.size, j, none⟩ = some v := by
  rw [hB.cell (by simp)]; exact h
theorem below_of_alloc {w wr : World} {o : Obj} (hB : Below (w.heap.size + 1) (w.alloc o) wr) : Below w.heap.size w wr := ((Below.refl _ _).alloc (Nat.le_refl _) o).trans (hB.mono (by omega))
set_option maxHeartbeats 1000000 in
theorem deepT_calls (e : Ex) : DeepTC e := by
  induction e using Ex.ind with
  | h kd o n s args ih =>
  intro F w cs m hF hm1 hr
  obtain ⟨h1, h2, h3, h4, v, c, rfl, hsl, hrow⟩ := hr
  obtain ⟨a, cap, rfl, hl, hc, ha⟩ := hsl
  unfold maxLen at hc
  by_cases hm : m = 0
  · subst hm
    by_cases h0 : 0 < args.length
    all_goals
      go_enter Tryz.func149, Tryz.ntmps149
      go_wp2
      refine wp_loop_rounds 1 ?_
      rw [rounds_succ]
      go_wp2
      go_ret
      exact ⟨ret_int (by simp only [Ex.depth]; omega), (Below.refl _ _).alloc (Nat.le_refl _) _⟩
  have hm2 : 0 < m := by omega
  clear hm
  have hm3 : (0 : Int) < (m : Int) := by omega
  go_enter Tryz.func149, Tryz.ntmps149
  go_wp2
  go_loopw [5, 6] (fun t i wr => ∃ (k : Nat), k ≤ args.length ∧ i = .int .i64 k ∧ t = .int .i64 (min (1 + Ex.depths (args.take k)) (m + 1) : Nat) ∧ Below (w.heap.size + 1) (w.alloc (.cells #[.int .i64 kd, .int .i64 o, .int .i64 n, .string s, .slice a args.length cap] 73)) wr) (fun _ i _ => args.length - (intOf i).toNat)
  case atStart => exact ⟨0, Nat.zero_le _, rfl, by simp [Ex.depths], Below.refl _ _⟩
  case round =>
    obtain ⟨k, hk, rfl, rfl, hB0⟩ := hrel
    have hB := below_of_alloc hB0
    have hbx : wr.cell? ⟨w.heap.size, 4, none⟩ = some (.slice a args.length cap) := cell_kept hB0 (by go_simp)
    by_cases hlt : k < args.length
    · obtain ⟨b, off, rfl, hFb, hcell⟩ := ha (by omega)
      obtain ⟨kd', o', n', s', a', m', cap', hx, g0, g1, g2, g3, g4⟩ := row_at hcell hrow (hB.block b (hF b hFb)) k hlt
      clear ha hcell hrow
      have HS := Lib.hid (Ex.depths_take args k hlt)
      have ihk : DeepTC args[k] := ih _ (List.getElem_mem hlt)
      have hI := hF.below hB
      have hcall : Calls Tryz.prog 149 #[.agg #[.int .i64 kd', .int .i64 o', .int .i64 n', .string s', .slice a' m' cap'], .int .i64 ((m : Int) - 1)] wr (Gives wr (.int .i64 (min (args[k]).depth m : Nat))) := by
        have := ihk F wr _ (m - 1) hI (by omega) (hx.below hF hB (Nat.le_refl _))
        rwa [show (((m - 1 : Nat)) : Int) = (m : Int) - 1 by omega, show m - 1 + 1 = m by omega] at this
      clear ihk ih hx
      generalize hD : min (1 + Ex.depths (args.take k)) (m + 1) = D
      generalize hE : min (args[k]).depth m = E at hcall
      have hD2 : D ≤ 1001 := by omega
      have hE2 : E ≤ 1000 := by omega
      have HD := Lib.hid hD
      have HE := Lib.hid hE
      clear hD hE
      have HC := Lib.hid hcall
      have HB0 := Lib.hid hB0
      clear hcall hB0
      go_wp2_with (go_at_call 149; refine HC.out.mono ?_; rintro e w' ⟨rfl, hb⟩)
      go_roundw
      case rel => exact ⟨k + 1, by omega, by go_num, by rw [HS.out]; have := HD.out; have := HE.out; congr 1; split <;> omega, below_on HB0.out (by simp) hb⟩
      case measure => simp [intOf]; omega
    · have : k = args.length := by omega
      subst this
      rw [List.take_length]
      generalize hD : Ex.depths args = D
      have hz : min (1 + D) (m + 1) ≤ 1001 := by omega
      go_wp2
      go_ret
      exact ⟨ret_int (by simp only [Ex.depth, hD]), hB⟩
theorem greater_calls (a b : Int) (w : World) : Calls Tryz.prog 116 #[.int .i64 a, .int .i64 b] w (fun e w' => e = .returned (.int .i64 (max a b)) ∧ w = w') := by
  by_cases h : b < a
  all_goals
    go_enter Tryz.func116, Tryz.ntmps116
    go_wp2
    go_ret
    exact ⟨ret_int (by omega), rfl⟩
end Go.Proofs.YtnbfadgclffgkaaGreatDoor
/- The walks of tree.SizeBlock and clewref10.SizeBlock. -/
namespace Go.Proofs.YtnbfadgclffgkaaGreatDoor
open Go.RowKit Go.Sort
theorem regrown_gives {P : Program} {f : FuncId} {args : Array Value} {w : World} {v : Value} (h : ∀ w', Below w.heap.size w w' → Calls P f args w' (Gives w' v)) (p : Regrown) :
    Calls P f args (grow (redrawn w p.d) p.os) fun e w'' => e = .returned v ∧ ∃ p : Regrown, w'' = grow (redrawn w p.d) p.os :=
  Calls.regrown_of ((h _ (below_regrown w p.d p.os)).mono fun _ _ h => h)
theorem below_of_regrown {w w' : World} (h : ∃ p : Regrown, w' = grow (redrawn w p.d) p.os) : Below w.heap.size w w' := by
  obtain ⟨p, rfl⟩ := h
  exact below_regrown w p.d p.os
end Go.Proofs.YtnbfadgclffgkaaGreatDoor
/- The walks of tree.Same, clewref10.Same and clewref10.sameArgs: each tells whether two expressions are equal. -/
namespace Go.Proofs.YtnbfadgclffgkaaGreatDoor
open Go.RowKit Go.Sort
noncomputable def same {α : Type} (a b : α) : Bool := @decide (a = b) (Classical.propDecidable _)
theorem strne {a b : ByteArray} (h : a ≠ b) : (a.toList == b.toList) = false := by
  refine beq_eq_false_iff_ne.2 fun h' => h ?_
  rw [ByteArray.toList_eq, ByteArray.toList_eq] at h'
  obtain ⟨⟨x⟩⟩ := a
  obtain ⟨⟨y⟩⟩ := b
  simp only at h'
  rw [h']
end Go.Proofs.YtnbfadgclffgkaaGreatDoor
/- The walks of clewref10.sameArgs and clewref10.Same. -/
namespace Go.Proofs.YtnbfadgclffgkaaGreatDoor
open Go.RowKit Go.Sort
end Go.Proofs.YtnbfadgclffgkaaGreatDoor
/- The walk of tree.SameBlock. -/
namespace Go.Proofs.YtnbfadgclffgkaaGreatDoor
open Go.RowKit Go.Sort
end Go.Proofs.YtnbfadgclffgkaaGreatDoor
/- A block whose cells are known (for seats that have no XKinds4). -/
namespace Go.Proofs.YtnbfadgclffgkaaGreatDoor
open Go.RowKit
def BoxAt (w : World) (b : Nat) (cs : List Value) : Prop := b < w.heap.size ∧ ∀ j, j < cs.length → w.cell? ⟨b, j, none⟩ = cs[j]?
theorem BoxAt.below {w w' : World} {b : Nat} {cs : List Value} {B : Nat} (h : BoxAt w b cs) (hb : Below B w w') (hB : b < B) : BoxAt w' b cs :=
  ⟨Nat.lt_of_lt_of_le h.1 hb.size, fun j hj => by rw [hb.cell (p := ⟨b, j, none⟩) hB]; exact h.2 j hj⟩
theorem BoxAt.new (w : World) (cs : List Value) (t : TypeId) : BoxAt (w.alloc (.cells cs.toArray t)) w.heap.size cs := ⟨by simp, fun j hj => by simp [World.cell?_alloc_at, hj]⟩
end Go.Proofs.YtnbfadgclffgkaaGreatDoor
/- The walks of clewref10.deepBlock, tree.deepBlock, and of the two DepthBlocks. -/
namespace Go.Proofs.YtnbfadgclffgkaaGreatDoor
open Go.RowKit Go.Sort
def DeepBRC (l : List St) : Prop := ∀ (F : Nat → Prop) (w : World) (v : Value) (m : Nat), Inn F w → 1 ≤ m → m ≤ 1000 → Sts F w l v →
    Calls Tryz.prog 74 #[v, .int .i64 m] w (Gives w (.int .i64 (min (St.depths l) m : Nat)))
theorem St.depths_pos (l : List St) (h : 0 < l.length) : 1 ≤ St.depths l := by
  cases l with
  | nil => simp at h
  | cons e l => simp only [St.depths]; omega
set_option maxRecDepth 100000 in
set_option maxHeartbeats 1000000 in
theorem deepBR_calls : ∀ l : List St, DeepBRC l := by
  refine blocks_ind fun l ih => ?_
  intro F w v m hF hm0 hm1 hr
  obtain ⟨a, cap, rfl⟩ := hr.shape
  obtain ⟨_, hl, hc, ha⟩ := hr.opn
  by_cases hl0 : l.length = 0
  · have hz : ((l.length : Int) == 0) = true := by rw [hl0]; rfl
    have hnil : l = [] := List.length_eq_zero_iff.1 hl0
    subst hnil
    go_enter Tryz.func74, Tryz.ntmps74
    go_wp2
    go_ret
    exact ⟨ret_int (by simp [St.depths]), Below.refl _ _⟩
  have hz : ((l.length : Int) == 0) = false := by rw [beq_eq_false_iff_ne]; omega
  have hpos := St.depths_pos l (by omega)
  by_cases hm : m = 1
  · subst hm
    clear ha
    go_enter Tryz.func74, Tryz.ntmps74
    go_wp2
    go_ret
    exact ⟨ret_int (by omega), Below.refl _ _⟩
  have hm2 : 1 < m := by omega
  have hm3 : (1 : Int) < (m : Int) := by omega
  clear hm hl0
  go_enter Tryz.func74, Tryz.ntmps74
  go_wp2
  go_loopw [5, 17] (fun t i wr => ∃ (k : Nat), k ≤ l.length ∧ i = .int .i64 k ∧ t = .int .i64 (min (St.depths (l.take k) - 1) (m - 1) : Nat) ∧ Below w.heap.size w wr) (fun _ i _ => l.length - (intOf i).toNat)
  case atStart => exact ⟨0, Nat.zero_le _, rfl, by simp [St.depths], Below.refl _ _⟩
  case round =>
    obtain ⟨k, hk, rfl, rfl, hB⟩ := hrel
    by_cases hlt : k < l.length
    · obtain ⟨b, off, rfl, hFb, hel⟩ := ha (by omega)
      obtain ⟨kd', n', s', a', m', cap', a2, m2, cap2, a3, m3, cap3, hx, g0, g1, g2, g3, g4, g5⟩ := hel wr (hB.block b (hF b hFb)) k hlt
      clear ha hel
      have hs1 := St.depths_take l k hlt
      have hs3 := St.depth_eq l[k]
      obtain ⟨ihb, ihe⟩ := ih _ (List.getElem_mem hlt)
      have hI := hF.below hB
      obtain ⟨_, _, _, _, _, _, hxa, hxb, hxe⟩ := (hx.below hF hB (Nat.le_refl _)).parts
      obtain ⟨rfl, hal, hac, haa⟩ := hxa.opn
      clear ih hx hr
      generalize hT : St.depths (l.take k) = T at *
      have hT2 : min (T - 1) (m - 1) ≤ 1000 := by omega
      have HS1 := Lib.hid hs1
      have HS3 := Lib.hid hs3
      clear hs1 hs3
      obtain ⟨wo, rfl⟩ : ∃ wo : World, wo = wr := ⟨_, rfl⟩
      go_wp2
      go_loopw [5, 24] (fun t i w2 => ∃ (j : Nat), j ≤ (l[k]).args.length ∧ i = .int .i64 j ∧ t = .int .i64 (min (max (T - 1) (Ex.depths ((l[k]).args.take j))) (m - 1) : Nat) ∧ Below (wo.heap.size + 1) (wo.alloc (.cells #[.int .i64 kd', .int .i64 n', .string s', .slice a' (l[k]).args.length cap', .slice a2 m2 cap2, .slice a3 m3 cap3] 27)) w2) (fun _ i _ => (l[k]).args.length - (intOf i).toNat)
      case atStart => exact ⟨0, Nat.zero_le _, rfl, by simp [Ex.depths], Below.refl _ _⟩
      case round =>
        obtain ⟨j, hj, rfl, rfl, hB0⟩ := hrel
        have hB2 := below_of_alloc hB0
        by_cases hlt2 : j < (l[k]).args.length
        · obtain ⟨b2, off2, rfl, hFb2, hel2⟩ := haa (by omega)
          obtain ⟨kd2, o2, nn2, s2, a2', m2', cap2', hx2, q0, q1, q2, q3, q4⟩ := hel2 wr (hB2.block b2 (hI b2 hFb2)) j hlt2
          clear haa hel2
          have HS2 := Lib.hid (Ex.depths_take (l[k]).args j hlt2)
          have hI2 := hI.below hB2
          have hcall : ∀ o, Calls Tryz.prog 117 #[.agg #[.int .i64 kd2, .int .i64 o2, .int .i64 nn2, .string s2, .slice a2' m2' cap2'], .int .i64 ((m : Int) - 1)] (wr.alloc o) (Gives (wr.alloc o) (.int .i64 (min ((l[k]).args[j]).depth (m - 1) : Nat))) := fun o => by
            have := deepR_calls (l[k]).args[j] F (wr.alloc o) _ (m - 1) (hI2.alloc _) (by omega) (by omega) ((hx2.below hI hB2 (Nat.le_refl _)).alloc hI2 o)
            rwa [show (((m - 1 : Nat)) : Int) = (m : Int) - 1 by omega] at this
          clear hx2 hxb hxe ihb ihe
          generalize hD : min (max (T - 1) (Ex.depths ((l[k]).args.take j))) (m - 1) = D
          generalize hE : min ((l[k]).args[j]).depth (m - 1) = E at hcall
          have HD := Lib.hid hD
          have HE := Lib.hid hE
          have HC := Lib.hid hcall
          have HB0 := Lib.hid hB0
          clear hD hE hcall hB0
          go_wp2_with (first | (go_at_call 117; refine (HC.out _).mono ?_; rintro e w' ⟨rfl, hb⟩) | (go_at_call 116; refine (greater_calls _ _ _).mono ?_; rintro e w'' ⟨rfl, rfl⟩))
          go_roundw
          case rel => exact ⟨j + 1, by omega, by go_num, by rw [HS2.out]; have := HD.out; have := HE.out; congr 1; omega, below_on1 HB0.out (by simp) hb⟩
          case measure => simp [intOf]; omega
        · have : j = (l[k]).args.length := by omega
          subst this
          rw [List.take_length]
          clear haa
          have hI2 := hI.below hB2
          have hcb : ∀ (p : Regrown), Calls Tryz.prog 74 #[.slice a2 m2 cap2, .int .i64 ((m : Int) - 1)] (grow (redrawn wr p.d) p.os) fun e w'' => e = .returned (.int .i64 (min (St.depths (l[k]).body) (m - 1) : Nat)) ∧ ∃ p : Regrown, w'' = grow (redrawn wr p.d) p.os :=
            fun p => regrown_gives (fun w' hb => by
              have := ihb F w' _ (m - 1) (hI2.below hb) (by omega) (by omega) ((hxb.below hI hB2 (Nat.le_refl _)).below hI2 hb (Nat.le_refl _))
              rwa [show (((m - 1 : Nat)) : Int) = (m : Int) - 1 by omega] at this) p
          have hce : ∀ (p : Regrown), Calls Tryz.prog 74 #[.slice a3 m3 cap3, .int .i64 ((m : Int) - 1)] (grow (redrawn wr p.d) p.os) fun e w'' => e = .returned (.int .i64 (min (St.depths (l[k]).els) (m - 1) : Nat)) ∧ ∃ p : Regrown, w'' = grow (redrawn wr p.d) p.os :=
            fun p => regrown_gives (fun w' hb => by
              have := ihe F w' _ (m - 1) (hI2.below hb) (by omega) (by omega) ((hxe.below hI hB2 (Nat.le_refl _)).below hI2 hb (Nat.le_refl _))
              rwa [show (((m - 1 : Nat)) : Int) = (m : Int) - 1 by omega] at this) p
          have hcg : ∀ (x y : Int) (p : Regrown), Calls Tryz.prog 116 #[.int .i64 x, .int .i64 y] (grow (redrawn wr p.d) p.os) fun e w'' => e = .returned (.int .i64 (max x y)) ∧ ∃ p : Regrown, w'' = grow (redrawn wr p.d) p.os :=
            fun x y p => regrown_gives (fun w' hb => (greater_calls x y w').mono fun _ _ h => ⟨h.1, h.2 ▸ Below.refl _ _⟩) p
          have hq4 := fun d os => cell_regrown (w := wr) (a := ⟨wo.heap.size, 4, none⟩) (v := .slice a2 m2 cap2) (cell_kept hB0 (by go_simp)) d os
          have hq5 := fun d os => cell_regrown (w := wr) (a := ⟨wo.heap.size, 5, none⟩) (v := .slice a3 m3 cap3) (cell_kept hB0 (by go_simp)) d os
          generalize hA : min (St.depths (l[k]).body) (m - 1) = A at hcb
          generalize hE : min (St.depths (l[k]).els) (m - 1) = E at hce
          generalize hD : min (max (T - 1) (Ex.depths ((l[k]).args))) (m - 1) = D
          have HD := Lib.hid hD
          have HA := Lib.hid hA
          have HE := Lib.hid hE
          have HCb := Lib.hid hcb
          have HCe := Lib.hid hce
          have HCg := Lib.hid hcg
          have HB := Lib.hid (bt hB hB2)
          clear hD hA hE hcb hce hcg hxb hxe ihb ihe hB0 hB2
          go_wp2
          refine wp_region_quiet_below (by kernel_rfl) (by kernel_rfl) ?_
          repeat (go_big_quiet_step (first | with_reducible exact HCb.out _ | with_reducible exact HCe.out _ | with_reducible exact HCg.out _ _ _))
          refine wpQuiet_nil ?_
          intro w' hw'
          have hb := below_of_regrown hw'
          clear hw' HCb HCe HCg hq4 hq5
          go_wp2
          go_roundw
          case rel => exact ⟨k + 1, by omega, by go_num, by rw [HS1.out]; have := HD.out; have := HE.out; have := HA.out; have := HS3.out; congr 1; omega, below_on HB.out (Nat.le_refl _) hb⟩
          case measure => simp [intOf]; omega
    · have : k = l.length := by omega
      subst this
      rw [List.take_length]
      have hz : min (St.depths l - 1) (m - 1) ≤ 1000 := by omega
      go_wp2
      go_ret
      exact ⟨ret_int (by omega), hB⟩
end Go.Proofs.YtnbfadgclffgkaaGreatDoor
