/- The walks of the functions that count expressions and statements, and tell how deep they are: each hands back the number that XData defines, and leaves what was in memory as it was. -/
import Derived.Test.YtdeecfkipknkbaaGreatDoorRows
import Derived.Test.YtdeecfkipknkbaaGreatDoorData
import Derived.WalkSpells
import Derived.WalkLawsBesides
import Derived.Lib.QuietBelow
import Derived.BigQuiet
namespace Go.Proofs.YtdeecfkipknkbaaGreatDoor
set_option maxHeartbeats 400000
open Go.RowKit
def DeepRC (e : Ex) : Prop := ∀ (F : Nat → Prop) (w : World) (cs : List Value) (m : Nat), Inn F w → 1 ≤ m → m ≤ 1000 → RdEx F w e cs →
 Calls Tryz.prog 237 #[.agg cs.toArray, .int .i64 m] w (Gives w (.int .i64 (min e.depth m : Nat)))
theorem deepR_calls (e : Ex) : DeepRC e := by
 induction e using Ex.ind with
 | h kd o n s args ih =>
 intro F w cs m hF hm0 hm1 hr
 obtain ⟨h1, h2, h3, h4, v, c, rfl, hsl, hrow⟩ := hr
 obtain ⟨a, cap, rfl, hl, hc, ha⟩ := hsl
 unfold maxLen at hc
 by_cases hm : m = 1
 · subst hm
   go_enter Tryz.func237, Tryz.ntmps237
   go_wp2
   go_ret
   exact ⟨ret_int (by simp only [Ex.depth]; omega), (Below.refl _ _).alloc (Nat.le_refl _) _⟩
 have hm2 : 1 < m := by omega
 clear hm
 have hm3 : (1 : Int) < (m : Int) := by omega
 go_enter Tryz.func237, Tryz.ntmps237
 go_wp2
 go_loopw [5, 14] (fun t i wr => ∃ (k : Nat), k ≤ args.length ∧ i = .int .i64 k ∧ t = .int .i64 (min (Ex.depths (args.take k)) (m - 1) : Nat) ∧ Below w.heap.size w wr) (fun _ i _ => args.length - (intOf i).toNat)
 case atStart => exact ⟨0, Nat.zero_le _, rfl, by simp [Ex.depths], (Below.refl _ _).alloc (Nat.le_refl _) _⟩
 case round =>
  obtain ⟨k, hk, rfl, rfl, hB⟩ := hrel
  by_cases hlt : k < args.length
  · obtain ⟨b, off, rfl, hFb, hcell⟩ := ha (by omega)
    obtain ⟨kd', o', n', s', a', m', cap', hx, g0, g1, g2, g3, g4⟩ := row_at hcell hrow (hB.block b (hF b hFb)) k hlt
    clear ha hcell hrow
    have HS := Lib.hid (Ex.depths_take args k hlt)
    have ihk : DeepRC args[k] := ih _ (List.getElem_mem hlt)
    have hI := hF.below hB
    have hx2 := fun o => (hx.below hF hB (Nat.le_refl _)).alloc hI o
    clear ih hx
    have hcall : ∀ o, Calls Tryz.prog 237 #[.agg #[.int .i64 kd', .int .i64 o', .int .i64 n', .string s', .slice a' m' cap'], .int .i64 ((m : Int) - 1)] (wr.alloc o) (Gives (wr.alloc o) (.int .i64 (min (args[k]).depth (m - 1) : Nat))) := fun o => by
     have := ihk F (wr.alloc o) _ (m - 1) (hI.alloc _) (by omega) (by omega) (hx2 _)
     rwa [show (((m - 1 : Nat)) : Int) = (m : Int) - 1 by omega] at this
    clear ihk
    generalize hD : min (Ex.depths (args.take k)) (m - 1) = D
    generalize hE : min (args[k]).depth (m - 1) = E at hcall
    have hD2 : D ≤ 1000 := by omega
    have hE2 : E ≤ 1000 := by omega
    have HD := Lib.hid hD
    have HE := Lib.hid hE
    clear hD hE
    have HC := Lib.hid hcall
    clear hcall
    by_cases hlt2 : D < E
    all_goals
     go_wp2_with (go_at_call 237; refine (HC.out _).mono ?_; rintro e w' ⟨rfl, hb⟩)
     go_roundw
     case rel => exact ⟨k + 1, by omega, by go_num, by rw [HS.out]; have := HD.out; have := HE.out; first | rfl | (congr 2; omega), below_on1 hB (Nat.le_refl _) hb⟩
     case measure => simp [intOf]; omega
  have : k = args.length := by omega
  subst this
  rw [List.take_length]
  generalize hD : Ex.depths args = D
  have hz : min D (m - 1) ≤ 1000 := by omega
  go_wp2
  go_ret
  exact ⟨ret_int (by simp only [Ex.depth, hD]; omega), hB⟩
end Go.Proofs.YtdeecfkipknkbaaGreatDoor
/- The walks of package letter's IsName and IsText, and of clewref04's: what is a name, what is a text. -/
namespace Go.Proofs.YtdeecfkipknkbaaGreatDoor
set_option maxRecDepth 100000
set_option maxHeartbeats 1000000
open Go.RowKit Go.Sort
noncomputable def dec (p : Prop) : Bool := @decide p (Classical.propDecidable p)
theorem dec_true {p : Prop} (h : p) : dec p = true := by simp [dec, h]
theorem dec_false {p : Prop} (h : ¬ p) : dec p = false := by simp [dec, h]
theorem dec_iff {p : Prop} : dec p = true ↔ p := by simp [dec]
theorem dec_congr {p q : Prop} (h : p ↔ q) : dec p = dec q := by rw [propext h]
def Same0 (w : World) (v : Value) (e : Ending) (w' : World) : Prop := e = .returned v ∧ w = w'
def Small (c : UInt8) : Prop := 97 ≤ c.toNat ∧ c.toNat ≤ 122
def Digit (c : UInt8) : Prop := 48 ≤ c.toNat ∧ c.toNat ≤ 57
def NameCh (c : UInt8) : Prop := Small c ∨ Digit c ∨ c.toNat = 95
def TextCh (c : UInt8) : Prop := (32 ≤ c.toNat ∧ c.toNat ≤ 126) ∨ c.toNat = 10
theorem small_calls (c : UInt8) (w : World) : Calls Tryz.prog 238 #[.int .u8 c.toNat] w (Same0 w (.bool (dec (Small c)))) := by
 have hc := c.toNat_lt
 generalize hn : c.toNat = n at hc
 by_cases h1 : 97 ≤ n
 · have hd : Hid (dec (Small c) = decide ((n : Int) ≤ 122)) := by
    show dec (Small c) = _
    by_cases h2 : n ≤ 122
    · rw [dec_true (by unfold Small; omega)]; symm; simp; omega
    rw [dec_false (by unfold Small; omega)]; symm; simp; omega
   clear hn
   go_enter Tryz.func238, Tryz.ntmps238
   go_wp2
   go_ret
   exact ⟨ret_bool hd.out.symm, rfl⟩
 have hd : Hid (dec (Small c) = false) := dec_false (by unfold Small; omega)
 clear hn
 go_enter Tryz.func238, Tryz.ntmps238
 go_wp2
 go_ret
 exact ⟨ret_bool hd.out.symm, rfl⟩
theorem digit_calls (c : UInt8) (w : World) : Calls Tryz.prog 240 #[.int .u8 c.toNat] w (Same0 w (.bool (dec (Digit c)))) := by
 have hc := c.toNat_lt
 generalize hn : c.toNat = n at hc
 by_cases h1 : 48 ≤ n
 · have hd : Hid (dec (Digit c) = decide ((n : Int) ≤ 57)) := by
    show dec (Digit c) = _
    by_cases h2 : n ≤ 57
    · rw [dec_true (by unfold Digit; omega)]; symm; simp; omega
    rw [dec_false (by unfold Digit; omega)]; symm; simp; omega
   clear hn
   go_enter Tryz.func240, Tryz.ntmps240
   go_wp2
   go_ret
   exact ⟨ret_bool hd.out.symm, rfl⟩
 have hd : Hid (dec (Digit c) = false) := dec_false (by unfold Digit; omega)
 clear hn
 go_enter Tryz.func240, Tryz.ntmps240
 go_wp2
 go_ret
 exact ⟨ret_bool hd.out.symm, rfl⟩
theorem smallR_calls (c : UInt8) (w : World) : Calls Tryz.prog 156 #[.int .u8 c.toNat] w (Same0 w (.bool (dec (Small c)))) := by
 have hc := c.toNat_lt
 generalize hn : c.toNat = n at hc
 by_cases h1 : 97 ≤ n
 · have hd : Hid (dec (Small c) = decide ((n : Int) ≤ 122)) := by
    show dec (Small c) = _
    by_cases h2 : n ≤ 122
    · rw [dec_true (by unfold Small; omega)]; symm; simp; omega
    rw [dec_false (by unfold Small; omega)]; symm; simp; omega
   clear hn
   go_enter Tryz.func156, Tryz.ntmps156
   go_wp2
   go_ret
   exact ⟨ret_bool hd.out.symm, rfl⟩
 have hd : Hid (dec (Small c) = false) := dec_false (by unfold Small; omega)
 clear hn
 go_enter Tryz.func156, Tryz.ntmps156
 go_wp2
 go_ret
 exact ⟨ret_bool hd.out.symm, rfl⟩
theorem digitR_calls (c : UInt8) (w : World) : Calls Tryz.prog 157 #[.int .u8 c.toNat] w (Same0 w (.bool (dec (Digit c)))) := by
 have hc := c.toNat_lt
 generalize hn : c.toNat = n at hc
 by_cases h1 : 48 ≤ n
 · have hd : Hid (dec (Digit c) = decide ((n : Int) ≤ 57)) := by
    show dec (Digit c) = _
    by_cases h2 : n ≤ 57
    · rw [dec_true (by unfold Digit; omega)]; symm; simp; omega
    rw [dec_false (by unfold Digit; omega)]; symm; simp; omega
   clear hn
   go_enter Tryz.func157, Tryz.ntmps157
   go_wp2
   go_ret
   exact ⟨ret_bool hd.out.symm, rfl⟩
 have hd : Hid (dec (Digit c) = false) := dec_false (by unfold Digit; omega)
 clear hn
 go_enter Tryz.func157, Tryz.ntmps157
 go_wp2
 go_ret
 exact ⟨ret_bool hd.out.symm, rfl⟩
theorem nameCh_calls (c : UInt8) (w : World) : Calls Tryz.prog 239 #[.int .u8 c.toNat] w (Same0 w (.bool (dec (NameCh c)))) := by
 have hs := Lib.hid (small_calls c w)
 have hg := Lib.hid (digit_calls c w)
 by_cases h1 : Small c
 · rw [dec_true h1] at hs
   have hd : Hid (dec (NameCh c) = true) := dec_true (Or.inl h1)
   clear h1
   go_enter Tryz.func239, Tryz.ntmps239
   go_wp2_with (go_at_call 238; refine hs.out.mono ?_; rintro e w' ⟨rfl, rfl⟩)
   go_ret
   exact ⟨ret_bool hd.out.symm, rfl⟩
 rw [dec_false h1] at hs
 by_cases h2 : Digit c
 · rw [dec_true h2] at hg
   have hd : Hid (dec (NameCh c) = true) := dec_true (Or.inr (Or.inl h2))
   clear h1 h2
   go_enter Tryz.func239, Tryz.ntmps239
   go_wp2_with (first | (go_at_call 238; refine hs.out.mono ?_; rintro e w' ⟨rfl, rfl⟩) | (go_at_call 240; refine hg.out.mono ?_; rintro e w' ⟨rfl, rfl⟩))
   go_ret
   exact ⟨ret_bool hd.out.symm, rfl⟩
 rw [dec_false h2] at hg
 have hd : Hid (dec (NameCh c) = ((c.toNat : Int) == 95)) := by
  show dec (NameCh c) = _
  by_cases h3 : c.toNat = 95
  · rw [dec_true (show NameCh c from Or.inr (Or.inr h3)), h3]; rfl
  rw [dec_false (by unfold NameCh; simp [h1, h2, h3])]; symm; simp; omega
 clear h1 h2
 go_enter Tryz.func239, Tryz.ntmps239
 go_wp2_with (first | (go_at_call 238; refine hs.out.mono ?_; rintro e w' ⟨rfl, rfl⟩) | (go_at_call 240; refine hg.out.mono ?_; rintro e w' ⟨rfl, rfl⟩))
 go_ret
 exact ⟨ret_bool hd.out.symm, rfl⟩
theorem textCh_calls (c : UInt8) (w : World) : Calls Tryz.prog 169 #[.int .u8 c.toNat] w (Same0 w (.bool (dec (TextCh c)))) := by
 have hc := c.toNat_lt
 generalize hn : c.toNat = n at hc
 by_cases h1 : 32 ≤ n
 · by_cases h2 : n ≤ 126
   · have hd : Hid (dec (TextCh c) = true) := dec_true (by unfold TextCh; omega)
     clear hn
     go_enter Tryz.func169, Tryz.ntmps169
     go_wp2
     go_ret
     exact ⟨ret_bool hd.out.symm, rfl⟩
   have hd : Hid (dec (TextCh c) = false) := dec_false (by unfold TextCh; omega)
   have h10 : ((n : Int) == 10) = false := by simp; omega
   clear hn
   go_enter Tryz.func169, Tryz.ntmps169
   go_wp2
   go_ret
   exact ⟨ret_bool (by rw [hd.out]; simp; omega), rfl⟩
 have hd : Hid (dec (TextCh c) = ((n : Int) == 10)) := by
  show dec (TextCh c) = _
  by_cases h3 : n = 10
  · rw [dec_true (by unfold TextCh; omega), h3]; rfl
  rw [dec_false (by unfold TextCh; omega)]; symm; simp; omega
 clear hn
 go_enter Tryz.func169, Tryz.ntmps169
 go_wp2
 go_ret
 exact ⟨ret_bool hd.out.symm, rfl⟩
def IsName (s : ByteArray) : Prop := ∃ h : 0 < s.size, s.size ≤ 24 ∧ Small s[0] ∧ ∀ i (hi : i < s.size), NameCh s[i]
def IsText (s : ByteArray) : Prop := s.size ≤ 1024 ∧ ∀ i (hi : i < s.size), TextCh s[i]
theorem allName_calls (s : ByteArray) (w : World) (hs : s.size ≤ maxLen) : Calls Tryz.prog 170 #[.string s, .int .i64 24, .func (.func 238) #[] #[], .func (.func 239) #[] #[]] w (Same0 w (.bool (dec (IsName s)))) := by
 unfold maxLen at hs
 by_cases h0 : 0 < s.size
 rotate_left
 · have hd : Hid (dec (IsName s) = false) := dec_false (fun ⟨h, _⟩ => h0 h)
   go_enter Tryz.func170, Tryz.ntmps170
   go_wp2
   go_ret
   exact ⟨ret_bool hd.out.symm, rfl⟩
 have d1 : decide ((s.size : Int) < 1) = false := by simp; omega
 by_cases h24 : s.size ≤ 24
 rotate_left
 · have hd : Hid (dec (IsName s) = false) := dec_false (fun ⟨_, h, _⟩ => h24 h)
   have d2 : decide (24 < (s.size : Int)) = true := by simp; omega
   go_enter Tryz.func170, Tryz.ntmps170
   go_wp2
   go_ret
   exact ⟨ret_bool hd.out.symm, rfl⟩
 have d2 : decide (24 < (s.size : Int)) = false := by simp; omega
 have hsm := small_calls s[0] w
 by_cases h1 : Small s[0]
 rotate_left
 · have hd : Hid (dec (IsName s) = false) := dec_false (fun ⟨_, _, h, _⟩ => h1 h)
   rw [dec_false h1] at hsm
   have HS := Lib.hid hsm
   clear hsm h1
   go_enter Tryz.func170, Tryz.ntmps170
   go_wp2_with (go_at_call 238; refine HS.out.mono ?_; rintro e w' ⟨rfl, rfl⟩)
   go_ret
   exact ⟨ret_bool hd.out.symm, rfl⟩
 rw [dec_true h1] at hsm
 have HS := Lib.hid hsm
 have H1 := Lib.hid h1
 clear hsm h1
 go_enter Tryz.func170, Tryz.ntmps170
 go_wp2_with (go_at_call 238; refine HS.out.mono ?_; rintro e w' ⟨rfl, rfl⟩)
 go_loop [28] (fun i => ∃ k : Nat, k ≤ s.size ∧ i = .int .i64 k ∧ Hid (∀ i (hi : i < s.size), i < k → NameCh s[i])) (fun i => s.size - (intOf i).toNat)
 case atStart => exact ⟨0, Nat.zero_le _, rfl, fun i hi h => absurd h (by omega)⟩
 case round =>
  obtain ⟨k, hk, rfl, hq⟩ := hrel
  by_cases hlt : k < s.size
  · have hch := nameCh_calls s[k] w
    by_cases h2 : NameCh s[k]
    · rw [dec_true h2] at hch
      have hnx : Hid (∀ i (hi : i < s.size), i < k + 1 → NameCh s[i]) := fun i hi h => by
       by_cases hik : i = k
       · subst hik; exact h2
       exact hq.out i hi (by omega)
      have HC := Lib.hid hch
      clear hq hch h2
      go_wp2_with (go_at_call 239; refine HC.out.mono ?_; rintro e w' ⟨rfl, rfl⟩)
      go_round
      case rel => exact ⟨k + 1, by omega, by go_num, hnx⟩
      case measure => simp [intOf]; omega
    have hd : Hid (dec (IsName s) = false) := dec_false (fun ⟨_, _, _, h⟩ => h2 (h k hlt))
    rw [dec_false h2] at hch
    have HC := Lib.hid hch
    clear hq hch h2
    go_wp2_with (go_at_call 239; refine HC.out.mono ?_; rintro e w' ⟨rfl, rfl⟩)
    go_ret
    exact ⟨ret_bool hd.out.symm, rfl⟩
  have hd : Hid (dec (IsName s) = true) := dec_true ⟨h0, h24, H1.out, fun i hi => hq.out i hi (by omega)⟩
  clear hq
  go_wp2
  go_ret
  exact ⟨ret_bool hd.out.symm, rfl⟩
theorem isName_calls (s : ByteArray) (w : World) (hs : s.size ≤ maxLen) : Calls Tryz.prog 161 #[.string s] w (Same0 w (.bool (dec (IsName s)))) := by
 have HC := Lib.hid (allName_calls s w hs)
 go_enter Tryz.func161, Tryz.ntmps161
 go_wp2_with (go_at_call 170; refine HC.out.mono ?_; rintro e w' ⟨rfl, rfl⟩)
 go_ret
 exact ⟨rfl, rfl⟩
theorem allText_calls (s : ByteArray) (w : World) (hs : s.size ≤ maxLen) (h0 : 0 < s.size) : Calls Tryz.prog 170 #[.string s, .int .i64 1024, .func (.func 169) #[] #[], .func (.func 169) #[] #[]] w (Same0 w (.bool (dec (IsText s)))) := by
 unfold maxLen at hs
 have d1 : decide ((s.size : Int) < 1) = false := by simp; omega
 by_cases h24 : s.size ≤ 1024
 rotate_left
 · have hd : Hid (dec (IsText s) = false) := dec_false (fun ⟨h, _⟩ => h24 h)
   have d2 : decide (1024 < (s.size : Int)) = true := by simp; omega
   go_enter Tryz.func170, Tryz.ntmps170
   go_wp2
   go_ret
   exact ⟨ret_bool hd.out.symm, rfl⟩
 have d2 : decide (1024 < (s.size : Int)) = false := by simp; omega
 have hsm := textCh_calls s[0] w
 by_cases h1 : TextCh s[0]
 rotate_left
 · have hd : Hid (dec (IsText s) = false) := dec_false (fun ⟨_, h⟩ => h1 (h 0 h0))
   rw [dec_false h1] at hsm
   have HS := Lib.hid hsm
   clear hsm h1
   go_enter Tryz.func170, Tryz.ntmps170
   go_wp2_with (go_at_call 169; refine HS.out.mono ?_; rintro e w' ⟨rfl, rfl⟩)
   go_ret
   exact ⟨ret_bool hd.out.symm, rfl⟩
 rw [dec_true h1] at hsm
 have HS := Lib.hid hsm
 clear hsm h1
 go_enter Tryz.func170, Tryz.ntmps170
 go_wp2_with (go_at_call 169; refine HS.out.mono ?_; rintro e w' ⟨rfl, rfl⟩)
 go_loop [28] (fun i => ∃ k : Nat, k ≤ s.size ∧ i = .int .i64 k ∧ Hid (∀ i (hi : i < s.size), i < k → TextCh s[i])) (fun i => s.size - (intOf i).toNat)
 case atStart => exact ⟨0, Nat.zero_le _, rfl, fun i hi h => absurd h (by omega)⟩
 case round =>
  obtain ⟨k, hk, rfl, hq⟩ := hrel
  by_cases hlt : k < s.size
  · have hch := textCh_calls s[k] w
    by_cases h2 : TextCh s[k]
    · rw [dec_true h2] at hch
      have hnx : Hid (∀ i (hi : i < s.size), i < k + 1 → TextCh s[i]) := fun i hi h => by
       by_cases hik : i = k
       · subst hik; exact h2
       exact hq.out i hi (by omega)
      have HC := Lib.hid hch
      clear hq hch h2
      go_wp2_with (go_at_call 169; refine HC.out.mono ?_; rintro e w' ⟨rfl, rfl⟩)
      go_round
      case rel => exact ⟨k + 1, by omega, by go_num, hnx⟩
      case measure => simp [intOf]; omega
    have hd : Hid (dec (IsText s) = false) := dec_false (fun ⟨_, h⟩ => h2 (h k hlt))
    rw [dec_false h2] at hch
    have HC := Lib.hid hch
    clear hq hch h2
    go_wp2_with (go_at_call 169; refine HC.out.mono ?_; rintro e w' ⟨rfl, rfl⟩)
    go_ret
    exact ⟨ret_bool hd.out.symm, rfl⟩
  have hd : Hid (dec (IsText s) = true) := dec_true ⟨h24, fun i hi => hq.out i hi (by omega)⟩
  clear hq
  go_wp2
  go_ret
  exact ⟨ret_bool hd.out.symm, rfl⟩
theorem isText_calls (s : ByteArray) (w : World) (hs : s.size ≤ maxLen) : Calls Tryz.prog 85 #[.string s] w (Same0 w (.bool (dec (IsText s)))) := by
 by_cases h0 : 0 < s.size
 · have HC := Lib.hid (allText_calls s w hs h0)
   have he : s.toList.isEmpty = false := by rw [ByteArray.toList_eq]; simp; intro h; rw [← ByteArray.size_data, h] at h0; simp at h0
   have hn : s ≠ ByteArray.empty := by rintro rfl; simp at h0
   go_enter Tryz.func85, Tryz.ntmps85
   go_wp2_with (go_at_call 170; refine HC.out.mono ?_; rintro e w' ⟨rfl, rfl⟩)
   go_ret
   exact ⟨rfl, rfl⟩
 have hz : s = ByteArray.empty := by
  obtain ⟨⟨l⟩⟩ := s
  simp [ByteArray.size] at h0
  subst h0
  rfl
 have hd : Hid (dec (IsText s) = true) := dec_true ⟨by omega, fun i hi => absurd hi (by omega)⟩
 subst hz
 go_enter Tryz.func85, Tryz.ntmps85
 go_wp2
 go_ret
 exact ⟨ret_bool hd.out.symm, rfl⟩
end Go.Proofs.YtdeecfkipknkbaaGreatDoor
/- The walks of clewref04.IsName and clewref04.IsText. -/
namespace Go.Proofs.YtdeecfkipknkbaaGreatDoor
set_option maxRecDepth 100000
set_option maxHeartbeats 1000000
open Go.RowKit Go.Sort
theorem isNameR_calls (s : ByteArray) (w : World) (hs : s.size ≤ maxLen) : Calls Tryz.prog 75 #[.string s] w (Same0 w (.bool (dec (IsName s)))) := by
 unfold maxLen at hs
 by_cases h0 : 0 < s.size
 rotate_left
 · have hd : Hid (dec (IsName s) = false) := dec_false (fun ⟨h, _⟩ => h0 h)
   go_enter Tryz.func75, Tryz.ntmps75
   go_wp2
   go_ret
   exact ⟨ret_bool hd.out.symm, rfl⟩
 have d1 : decide ((s.size : Int) < 1) = false := by simp; omega
 by_cases h24 : s.size ≤ 24
 rotate_left
 · have hd : Hid (dec (IsName s) = false) := dec_false (fun ⟨_, h, _⟩ => h24 h)
   have d2 : decide (24 < (s.size : Int)) = true := by simp; omega
   go_enter Tryz.func75, Tryz.ntmps75
   go_wp2
   go_ret
   exact ⟨ret_bool hd.out.symm, rfl⟩
 have d2 : decide (24 < (s.size : Int)) = false := by simp; omega
 have hsm := smallR_calls s[0] w
 by_cases h1 : Small s[0]
 rotate_left
 · have hd : Hid (dec (IsName s) = false) := dec_false (fun ⟨_, _, h, _⟩ => h1 h)
   rw [dec_false h1] at hsm
   have HS := Lib.hid hsm
   clear hsm h1
   go_enter Tryz.func75, Tryz.ntmps75
   go_wp2_with (go_at_call 156; refine HS.out.mono ?_; rintro e w' ⟨rfl, rfl⟩)
   go_ret
   exact ⟨ret_bool hd.out.symm, rfl⟩
 rw [dec_true h1] at hsm
 have HS := Lib.hid hsm
 have H1 := Lib.hid h1
 clear hsm h1
 go_enter Tryz.func75, Tryz.ntmps75
 go_wp2_with (go_at_call 156; refine HS.out.mono ?_; rintro e w' ⟨rfl, rfl⟩)
 clear HS
 go_loop [3] (fun i => ∃ k : Nat, k ≤ s.size ∧ i = .int .i64 k ∧ Hid (∀ i (hi : i < s.size), i < k → NameCh s[i])) (fun i => s.size - (intOf i).toNat)
 case atStart => exact ⟨0, Nat.zero_le _, rfl, fun i hi h => absurd h (by omega)⟩
 case round =>
  obtain ⟨k, hk, rfl, hq⟩ := hrel
  by_cases hlt : k < s.size
  · have hchs := smallR_calls s[k] w
    have hchd := digitR_calls s[k] w
    by_cases h2 : NameCh s[k]
    · have hnx : Hid (∀ i (hi : i < s.size), i < k + 1 → NameCh s[i]) := fun i hi h => by
       by_cases hik : i = k
       · subst hik; exact h2
       exact hq.out i hi (by omega)
      clear hq
      by_cases ha : Small s[k]
      · rw [dec_true ha] at hchs
        have HC := Lib.hid hchs
        clear hchs hchd h2 ha
        go_wp2_with (go_at_call 156; refine HC.out.mono ?_; rintro e w' ⟨rfl, rfl⟩)
        go_round
        case rel => exact ⟨k + 1, by omega, by go_num, hnx⟩
        case measure => simp [intOf]; omega
      rw [dec_false ha] at hchs
      have HC := Lib.hid hchs
      by_cases hb : Digit s[k]
      · rw [dec_true hb] at hchd
        have HD := Lib.hid hchd
        clear hchs hchd h2 ha hb
        go_wp2_with (first | (go_at_call 156; refine HC.out.mono ?_; rintro e w' ⟨rfl, rfl⟩) | (go_at_call 157; refine HD.out.mono ?_; rintro e w' ⟨rfl, rfl⟩))
        go_round
        case rel => exact ⟨k + 1, by omega, by go_num, hnx⟩
        case measure => simp [intOf]; omega
      rw [dec_false hb] at hchd
      have HD := Lib.hid hchd
      have h95 : (((s[k]).toNat : Int) != 95) = false := by
       rcases h2 with h2 | h2 | h2
       · exact absurd h2 ha
       · exact absurd h2 hb
       simp [h2]
      clear hchs hchd h2 ha hb
      go_wp2_with (first | (go_at_call 156; refine HC.out.mono ?_; rintro e w' ⟨rfl, rfl⟩) | (go_at_call 157; refine HD.out.mono ?_; rintro e w' ⟨rfl, rfl⟩))
      go_round
      case rel => exact ⟨k + 1, by omega, by go_num, hnx⟩
      case measure => simp [intOf]; omega
    have hd : Hid (dec (IsName s) = false) := dec_false (fun ⟨_, _, _, h⟩ => h2 (h k hlt))
    have ha : ¬ Small s[k] := fun h => h2 (Or.inl h)
    have hb : ¬ Digit s[k] := fun h => h2 (Or.inr (Or.inl h))
    have hc : (s[k]).toNat ≠ 95 := fun h => h2 (Or.inr (Or.inr h))
    rw [dec_false ha] at hchs
    rw [dec_false hb] at hchd
    have h95 : (((s[k]).toNat : Int) != 95) = true := by simp; omega
    have HC := Lib.hid hchs
    have HD := Lib.hid hchd
    clear hchs hchd h2 ha hb hc hq
    go_wp2_with (first | (go_at_call 156; refine HC.out.mono ?_; rintro e w' ⟨rfl, rfl⟩) | (go_at_call 157; refine HD.out.mono ?_; rintro e w' ⟨rfl, rfl⟩))
    go_ret
    exact ⟨ret_bool hd.out.symm, rfl⟩
  have hd : Hid (dec (IsName s) = true) := dec_true ⟨h0, h24, H1.out, fun i hi => hq.out i hi (by omega)⟩
  clear hq
  go_wp2
  go_ret
  exact ⟨ret_bool hd.out.symm, rfl⟩
theorem isTextR_calls (s : ByteArray) (w : World) (hs : s.size ≤ maxLen) : Calls Tryz.prog 26 #[.string s] w (Same0 w (.bool (dec (IsText s)))) := by
 unfold maxLen at hs
 go_enter Tryz.func26, Tryz.ntmps26
 go_wp2
 go_loop [3] (fun i => ∃ k : Nat, k ≤ s.size ∧ i = .int .i64 k ∧ Hid (∀ i (hi : i < s.size), i < k → TextCh s[i])) (fun i => s.size - (intOf i).toNat)
 case atStart => exact ⟨0, Nat.zero_le _, rfl, fun i hi h => absurd h (by omega)⟩
 case round =>
  obtain ⟨k, hk, rfl, hq⟩ := hrel
  by_cases hlt : k < s.size
  · by_cases h2 : TextCh s[k]
    · have hnx : Hid (∀ i (hi : i < s.size), i < k + 1 → TextCh s[i]) := fun i hi h => by
       by_cases hik : i = k
       · subst hik; exact h2
       exact hq.out i hi (by omega)
      clear hq
      rcases h2 with h2 | h2
      · have e1 : decide (((s[k]).toNat : Int) < 32) = false := by simp; omega
        have e2 : decide (126 < ((s[k]).toNat : Int)) = false := by simp; omega
        clear h2
        go_wp2
        go_round
        case rel => exact ⟨k + 1, by omega, by go_num, hnx⟩
        case measure => simp [intOf]; omega
      have e1 : decide (((s[k]).toNat : Int) < 32) = true := by simp; omega
      have e2 : (((s[k]).toNat : Int) != 10) = false := by simp [h2]
      clear h2
      go_wp2
      go_round
      case rel => exact ⟨k + 1, by omega, by go_num, hnx⟩
      case measure => simp [intOf]; omega
    have hd : Hid (dec (IsText s) = false) := dec_false (fun ⟨_, h⟩ => h2 (h k hlt))
    have e3 : (((s[k]).toNat : Int) != 10) = true := by simp; intro h; exact h2 (Or.inr (by omega))
    by_cases h3 : (s[k]).toNat < 32
    · have e1 : decide (((s[k]).toNat : Int) < 32) = true := by simp; omega
      clear h2 h3 hq
      go_wp2
      go_ret
      exact ⟨ret_bool hd.out.symm, rfl⟩
    have e1 : decide (((s[k]).toNat : Int) < 32) = false := by simp; omega
    have e2 : decide (126 < ((s[k]).toNat : Int)) = true := by
     simp
     by_cases h4 : (s[k]).toNat ≤ 126
     · exact absurd (Or.inl ⟨by omega, h4⟩) h2
     omega
    clear h2 h3 hq
    go_wp2
    go_ret
    exact ⟨ret_bool hd.out.symm, rfl⟩
  have hd : Hid (dec (IsText s) = decide (s.size ≤ 1024)) := by
   show dec (IsText s) = _
   by_cases h : s.size ≤ 1024
   · rw [dec_true ⟨h, fun i hi => hq.out i hi (by omega)⟩]; simp [h]
   rw [dec_false (fun ⟨h', _⟩ => h h')]; simp [h]
  clear hq
  go_wp2
  go_ret
  exact ⟨ret_bool (by rw [hd.out]; simp; omega), rfl⟩
end Go.Proofs.YtdeecfkipknkbaaGreatDoor
/- The walks of tree.deep, tree.Depth, clewref10.Depth and clewref10.greater. -/
namespace Go.Proofs.YtdeecfkipknkbaaGreatDoor
set_option maxHeartbeats 400000
open Go.RowKit
theorem cell_kept {w wr : World} {o : Obj} {j : Nat} {v : Value} (hB : Below (w.heap.size + 1) (w.alloc o) wr) (h : (w.alloc o).cell? ⟨w.heap.size, j, none⟩ = some v) : wr.cell? ⟨w.heap.size, j, none⟩ = some v := by
 rw [hB.cell (by simp)]; exact h
theorem below_of_alloc {w wr : World} {o : Obj} (hB : Below (w.heap.size + 1) (w.alloc o) wr) : Below w.heap.size w wr := ((Below.refl _ _).alloc (Nat.le_refl _) o).trans (hB.mono (by omega))
def DepthRC (e : Ex) : Prop := ∀ (F : Nat → Prop) (w : World) (cs : List Value), Inn F w → RdEx F w e cs →
 Calls Tryz.prog 160 #[.agg cs.toArray] w (Gives w (.int .i64 (min e.depth 65 : Nat)))
theorem depthR_calls (e : Ex) : DepthRC e := by
 intro F w cs hF hr
 obtain ⟨kd', o', n', s', a', m', cap', rfl⟩ := hr.shape
 have hd := fun o => deepR_calls e F (w.alloc o) _ 65 (hF.alloc o) (by omega) (by omega) (hr.alloc hF o)
 have HC := Lib.hid hd
 clear hd
 go_enter Tryz.func160, Tryz.ntmps160
 go_wp2_with (go_at_call 237; refine (HC.out _).mono ?_; rintro e w' ⟨rfl, hb⟩)
 go_ret
 exact ⟨rfl, below_on1 (Below.refl _ _) (Nat.le_refl _) hb⟩
theorem greater_calls (a b : Int) (w : World) : Calls Tryz.prog 269 #[.int .i64 a, .int .i64 b] w (fun e w' => e = .returned (.int .i64 (max a b)) ∧ w = w') := by
 by_cases h : b < a
 all_goals
  go_enter Tryz.func269, Tryz.ntmps269
  go_wp2
  go_ret
  exact ⟨ret_int (by omega), rfl⟩
end Go.Proofs.YtdeecfkipknkbaaGreatDoor
/- The walks of tree.SizeBlock and clewref10.SizeBlock. -/
namespace Go.Proofs.YtdeecfkipknkbaaGreatDoor
open Go.RowKit Go.Sort
theorem regrown_gives {P : Program} {f : FuncId} {args : Array Value} {w : World} {v : Value} (h : ∀ w', Below w.heap.size w w' → Calls P f args w' (Gives w' v)) (p : Regrown) :
 Calls P f args (grow (redrawn w p.d) p.os) fun e w'' => e = .returned v ∧ ∃ p : Regrown, w'' = grow (redrawn w p.d) p.os :=
 Calls.regrown_of ((h _ (below_regrown w p.d p.os)).mono fun _ _ h => h)
theorem rg' (P : Program) (w : World) {f : FuncId} {args : Array Value} {v : Value} (h : ∀ w', Below w.heap.size w w' → Calls P f args w' (Gives w' v)) (p : Regrown) : Calls P f args (grow (redrawn w p.d) p.os) fun e w'' => e = .returned v ∧ ∃ p : Regrown, w'' = grow (redrawn w p.d) p.os := regrown_gives h p
theorem below_of_regrown {w w' : World} (h : ∃ p : Regrown, w' = grow (redrawn w p.d) p.os) : Below w.heap.size w w' := by
 obtain ⟨p, rfl⟩ := h
 exact below_regrown w p.d p.os
end Go.Proofs.YtdeecfkipknkbaaGreatDoor
/- The walks of tree.Same, clewref10.Same and clewref10.sameArgs: each tells whether two expressions are equal. -/
namespace Go.Proofs.YtdeecfkipknkbaaGreatDoor
open Go.RowKit Go.Sort
noncomputable def same {α : Type} (a b : α) : Bool := @decide (a = b) (Classical.propDecidable _)
theorem same_self {α : Type} (a : α) : same a a = true := by simp [same]
theorem same_ne {α : Type} {a b : α} (h : a ≠ b) : same a b = false := by simp [same, h]
theorem same_eq {α : Type} {a b : α} (h : a = b) : same a b = true := by subst h; exact same_self a
theorem strne {a b : ByteArray} (h : a ≠ b) : (a.toList == b.toList) = false := by
 refine beq_eq_false_iff_ne.2 fun h' => h ?_
 rw [ByteArray.toList_eq, ByteArray.toList_eq] at h'
 obtain ⟨⟨x⟩⟩ := a
 obtain ⟨⟨y⟩⟩ := b
 simp only at h'
 rw [h']
end Go.Proofs.YtdeecfkipknkbaaGreatDoor
/- The walks of clewref10.sameArgs and clewref10.Same. -/
namespace Go.Proofs.YtdeecfkipknkbaaGreatDoor
open Go.RowKit Go.Sort
end Go.Proofs.YtdeecfkipknkbaaGreatDoor
/- The walk of tree.SameBlock. -/
namespace Go.Proofs.YtdeecfkipknkbaaGreatDoor
open Go.RowKit Go.Sort
end Go.Proofs.YtdeecfkipknkbaaGreatDoor
