/- The reference's Right (clewref14) of lists of texts, names, pairs, functions, and of conditions. Printed by gen-show7.py. -/
import Derived.Test.YtmabeegoapcfpaaGreatDoorQPart663812f7
import Derived.Test.YtmabeegoapcfpaaGreatDoorQSos
import Derived.Test.YtmabeegoapcfpaaGreatDoorQRightBR
namespace Go.Proofs.YtmabeegoapcfpaaGreatDoor
open Go.RowKit
set_option maxHeartbeats 400000 in
theorem rrName0 (s : ByteArray) (w : World) (hs : s.size ≤ maxLen) : Calls Tryz.prog 34 #[.string s] w (Same0 w (.bool (dec (IsNm s)))) := by
  have h1 := isNameR_calls s w hs
  by_cases hn : IsName s
  · have h2 := keyR_calls s w hs
    have e1 : Hid (dec (IsNm s) = !dec (IsKey s)) := by
      show dec (IsNm s) = _
      by_cases hk : IsKey s
      · rw [dec_true hk, dec_false (fun h => h.2 hk)]; rfl
      · rw [dec_false hk, dec_true ⟨hn, hk⟩]; rfl
    rw [dec_true hn] at h1
    have H1 := Lib.hid h1
    have H2 := Lib.hid h2
    clear h1 h2 hn
    go_enter Tryz.func34, Tryz.ntmps34
    go_wp2_with (first | (go_at_call 110; refine H1.out.mono ?_; rintro e w' ⟨rfl, rfl⟩) | (go_at_call 111; refine H2.out.mono ?_; rintro e w' ⟨rfl, rfl⟩))
    go_ret
    exact ⟨ret_bool e1.out.symm, rfl⟩
  · have e1 : Hid (dec (IsNm s) = false) := dec_false (fun h => hn h.1)
    rw [dec_false hn] at h1
    have H1 := Lib.hid h1
    clear h1 hn
    go_enter Tryz.func34, Tryz.ntmps34
    go_wp2_with (go_at_call 110; refine H1.out.mono ?_; rintro e w' ⟨rfl, rfl⟩)
    go_ret
    exact ⟨ret_bool e1.out.symm, rfl⟩
theorem rrName_calls (s : ByteArray) (w : World) (hs : s.size ≤ maxLen) : Calls Tryz.prog 34 #[.string s] w (Gives w (.bool (dec (IsNm s)))) := Same0.gv (rrName0 s w hs)
set_option maxRecDepth 100000 in
set_option maxHeartbeats 4000000 in
theorem rrTexts_calls (F : Nat → Prop) (w : World) (l : List ByteArray) (m : Int) (v : Value) (hF : Inn F w) (hr : RdL Holds.str 1 F w l v) :
    Calls Tryz.prog 113 #[v, .int .i64 m] w (Gives w (.bool (dec (TextsR m l)))) := by
  obtain ⟨a, cap, rfl, hl, hc, ha⟩ := hr.opn
  unfold maxLen at hc
  by_cases hlen : (l.length : Int) ≤ m
  rotate_left
  · have hfin : Hid (dec (TextsR m l) = false) := dec_false (fun h => hlen h.1)
    have e0 : decide (m < (l.length : Int)) = true := decide_eq_true (by omega)
    clear hr ha hlen
    go_enter Tryz.func113, Tryz.ntmps113
    go_wp2
    go_ret
    exact ⟨ret_bool hfin.out.symm, Below.refl _ _⟩
  have hfin1 : Hid ((∀ x ∈ l.take l.length, IsText x) → dec (TextsR m l) = true) := fun h => dec_true ⟨hlen, by rw [List.take_length] at h; exact h⟩
  have e0 : decide (m < (l.length : Int)) = false := decide_eq_false (by omega)
  clear hr hlen
  go_enter Tryz.func113, Tryz.ntmps113
  go_wp2
  go_loopw [5] (fun i wr => ∃ (k : Nat), k ≤ l.length ∧ i = .int .i64 k ∧ Hid (∀ x ∈ l.take k, IsText x) ∧ Below w.heap.size w wr) (fun i _ => l.length - (intOf i).toNat)
  case atStart => exact ⟨0, Nat.zero_le _, rfl, (by show ∀ x ∈ l.take 0, IsText x; rw [List.take_zero]; exact fun _ h => (by cases h)), Below.refl _ _⟩
  case round =>
    obtain ⟨k, hk, rfl, hq, hB⟩ := hrel
    by_cases hlt : k < l.length
    · obtain ⟨b, off, rfl, hFb, hel⟩ := ha (by omega)
      obtain ⟨cs, hx, -, hcell⟩ := hel wr (hB.block b (hF b hFb)) k hlt
      obtain ⟨x, hxe⟩ : ∃ x, l[k] = x := ⟨_, rfl⟩
      rw [hxe] at hx
      obtain ⟨hz, rfl⟩ := hx
      have g0 := hcell 0 _ rfl
      simp only [Nat.add_zero, Nat.mul_one] at g0
      have hki : (k : Int) < (l.length : Int) := by omega
      have hki0 : (0 : Int) ≤ (k : Int) := by omega
      have HB := Lib.hid hB
      have hnx : Hid (IsText x → ∀ y ∈ l.take (k + 1), IsText y) := fun h y hy => by
        rw [List.take_succ_eq_append_getElem hlt, hxe] at hy
        rcases List.mem_append.1 hy with h1 | h1
        · exact hq.out y h1
        · rw [List.mem_singleton.1 h1]; exact h
      have hno : Hid (¬ IsText x → dec (TextsR m l) = false) := fun h => dec_false (fun h2 => h (by have := h2.2 _ (List.getElem_mem hlt); rw [hxe] at this; exact this))
      have hc_t := fun (W : World) (hW : Below wr.heap.size wr W) => Same0.gv (isTextR_calls x W hz)
      clear ha hel hcell hxe hB hq hfin1 hz
      by_cases h_t : IsText x
      · have hnx2 := Lib.hid (hnx.out h_t)
        simp only [dec_true h_t] at hc_t
        have HC_t := Lib.hid hc_t
        clear hc_t hno hnx h_t
        have HB0 : Below wr.heap.size wr wr := Below.refl _ _
        go_wp2_with (go_at_call 33; (with_reducible refine (HC_t.out wr HB0).mono ?_); rintro e91 w1 ⟨rfl, hb1⟩; have HB1 := bt HB0 hb1)
        go_roundw
        case rel => exact ⟨k + 1, by omega, by go_num, hnx2.out, bt HB.out HB1⟩
        case measure => simp [intOf]; omega
      · have hfin := Lib.hid (hno.out (fun h => h_t h))
        simp only [dec_false h_t] at hc_t
        have HC_t := Lib.hid hc_t
        clear hc_t hno hnx h_t
        have HB0 : Below wr.heap.size wr wr := Below.refl _ _
        go_wp2_with (go_at_call 33; (with_reducible refine (HC_t.out wr HB0).mono ?_); rintro e91 w1 ⟨rfl, hb1⟩; have HB1 := bt HB0 hb1)
        go_ret
        exact ⟨ret_bool hfin.out.symm, bt HB.out HB1⟩
    · have : k = l.length := by omega
      subst this
      have hfin := Lib.hid (hfin1.out hq.out)
      have hki : decide ((l.length : Int) < (l.length : Int)) = false := by simp
      clear hq ha hfin1
      go_wp2
      go_ret
      exact ⟨ret_bool hfin.out.symm, hB⟩
set_option maxRecDepth 100000 in
set_option maxHeartbeats 4000000 in
theorem rrNames_calls (F : Nat → Prop) (w : World) (l : List ByteArray) (m : Int) (v : Value) (hF : Inn F w) (hr : RdL Holds.str 1 F w l v) :
    Calls Tryz.prog 35 #[v, .int .i64 m] w (Gives w (.bool (dec (NamesR m l)))) := by
  obtain ⟨a, cap, rfl, hl, hc, ha⟩ := hr.opn
  unfold maxLen at hc
  by_cases hlen : (l.length : Int) ≤ m
  rotate_left
  · have hfin : Hid (dec (NamesR m l) = false) := dec_false (fun h => hlen h.1)
    have e0 : decide (m < (l.length : Int)) = true := decide_eq_true (by omega)
    clear hr ha hlen
    go_enter Tryz.func35, Tryz.ntmps35
    go_wp2
    go_ret
    exact ⟨ret_bool hfin.out.symm, Below.refl _ _⟩
  have hfin1 : Hid ((∀ x ∈ l.take l.length, IsNm x) → dec (NamesR m l) = true) := fun h => dec_true ⟨hlen, by rw [List.take_length] at h; exact h⟩
  have e0 : decide (m < (l.length : Int)) = false := decide_eq_false (by omega)
  clear hr hlen
  go_enter Tryz.func35, Tryz.ntmps35
  go_wp2
  go_loopw [5] (fun i wr => ∃ (k : Nat), k ≤ l.length ∧ i = .int .i64 k ∧ Hid (∀ x ∈ l.take k, IsNm x) ∧ Below w.heap.size w wr) (fun i _ => l.length - (intOf i).toNat)
  case atStart => exact ⟨0, Nat.zero_le _, rfl, (by show ∀ x ∈ l.take 0, IsNm x; rw [List.take_zero]; exact fun _ h => (by cases h)), Below.refl _ _⟩
  case round =>
    obtain ⟨k, hk, rfl, hq, hB⟩ := hrel
    by_cases hlt : k < l.length
    · obtain ⟨b, off, rfl, hFb, hel⟩ := ha (by omega)
      obtain ⟨cs, hx, -, hcell⟩ := hel wr (hB.block b (hF b hFb)) k hlt
      obtain ⟨x, hxe⟩ : ∃ x, l[k] = x := ⟨_, rfl⟩
      rw [hxe] at hx
      obtain ⟨hz, rfl⟩ := hx
      have g0 := hcell 0 _ rfl
      simp only [Nat.add_zero, Nat.mul_one] at g0
      have hki : (k : Int) < (l.length : Int) := by omega
      have hki0 : (0 : Int) ≤ (k : Int) := by omega
      have HB := Lib.hid hB
      have hnx : Hid (IsNm x → ∀ y ∈ l.take (k + 1), IsNm y) := fun h y hy => by
        rw [List.take_succ_eq_append_getElem hlt, hxe] at hy
        rcases List.mem_append.1 hy with h1 | h1
        · exact hq.out y h1
        · rw [List.mem_singleton.1 h1]; exact h
      have hno : Hid (¬ IsNm x → dec (NamesR m l) = false) := fun h => dec_false (fun h2 => h (by have := h2.2 _ (List.getElem_mem hlt); rw [hxe] at this; exact this))
      have hc_t := fun (W : World) (hW : Below wr.heap.size wr W) => rrName_calls x W hz
      clear ha hel hcell hxe hB hq hfin1 hz
      by_cases h_t : IsNm x
      · have hnx2 := Lib.hid (hnx.out h_t)
        simp only [dec_true h_t] at hc_t
        have HC_t := Lib.hid hc_t
        clear hc_t hno hnx h_t
        have HB0 : Below wr.heap.size wr wr := Below.refl _ _
        go_wp2_with (go_at_call 34; (with_reducible refine (HC_t.out wr HB0).mono ?_); rintro e91 w1 ⟨rfl, hb1⟩; have HB1 := bt HB0 hb1)
        go_roundw
        case rel => exact ⟨k + 1, by omega, by go_num, hnx2.out, bt HB.out HB1⟩
        case measure => simp [intOf]; omega
      · have hfin := Lib.hid (hno.out (fun h => h_t h))
        simp only [dec_false h_t] at hc_t
        have HC_t := Lib.hid hc_t
        clear hc_t hno hnx h_t
        have HB0 : Below wr.heap.size wr wr := Below.refl _ _
        go_wp2_with (go_at_call 34; (with_reducible refine (HC_t.out wr HB0).mono ?_); rintro e91 w1 ⟨rfl, hb1⟩; have HB1 := bt HB0 hb1)
        go_ret
        exact ⟨ret_bool hfin.out.symm, bt HB.out HB1⟩
    · have : k = l.length := by omega
      subst this
      have hfin := Lib.hid (hfin1.out hq.out)
      have hki : decide ((l.length : Int) < (l.length : Int)) = false := by simp
      clear hq ha hfin1
      go_wp2
      go_ret
      exact ⟨ret_bool hfin.out.symm, hB⟩
set_option maxRecDepth 100000 in
set_option maxHeartbeats 4000000 in
theorem rrPairs_calls (F : Nat → Prop) (w : World) (l : List PairD) (m : Int) (v : Value) (hF : Inn F w) (hr : RdL Holds.pair 2 F w l v) :
    Calls Tryz.prog 36 #[v, .int .i64 m] w (Gives w (.bool (dec (PairsR m l)))) := by
  obtain ⟨a, cap, rfl, hl, hc, ha⟩ := hr.opn
  unfold maxLen at hc
  by_cases hlen : (l.length : Int) ≤ m
  rotate_left
  · have hfin : Hid (dec (PairsR m l) = false) := dec_false (fun h => hlen h.1)
    have e0 : decide (m < (l.length : Int)) = true := decide_eq_true (by omega)
    clear hr ha hlen
    go_enter Tryz.func36, Tryz.ntmps36
    go_wp2
    go_ret
    exact ⟨ret_bool hfin.out.symm, Below.refl _ _⟩
  have hfin1 : Hid ((∀ x ∈ l.take l.length, PairR x) → dec (PairsR m l) = true) := fun h => dec_true ⟨hlen, by rw [List.take_length] at h; exact h⟩
  have e0 : decide (m < (l.length : Int)) = false := decide_eq_false (by omega)
  clear hr hlen
  go_enter Tryz.func36, Tryz.ntmps36
  go_wp2
  go_loopw [5] (fun i wr => ∃ (k : Nat), k ≤ l.length ∧ i = .int .i64 k ∧ Hid (∀ x ∈ l.take k, PairR x) ∧ Below w.heap.size w wr) (fun i _ => l.length - (intOf i).toNat)
  case atStart => exact ⟨0, Nat.zero_le _, rfl, (by show ∀ x ∈ l.take 0, PairR x; rw [List.take_zero]; exact fun _ h => (by cases h)), Below.refl _ _⟩
  case round =>
    obtain ⟨k, hk, rfl, hq, hB⟩ := hrel
    by_cases hlt : k < l.length
    · obtain ⟨b, off, rfl, hFb, hel⟩ := ha (by omega)
      obtain ⟨cs, hx, -, hcell⟩ := hel wr (hB.block b (hF b hFb)) k hlt
      obtain ⟨x, hxe⟩ : ∃ x, l[k] = x := ⟨_, rfl⟩
      rw [hxe] at hx
      obtain ⟨x_name, x_num⟩ := x
      obtain ⟨hz, -, rfl⟩ := hx
      simp only at hz
      have g0 := hcell 0 _ rfl
      have g1 := hcell 1 _ rfl
      simp only [Nat.add_zero] at g0
      have hki : (k : Int) < (l.length : Int) := by omega
      have hki0 : (0 : Int) ≤ (k : Int) := by omega
      have HB := Lib.hid hB
      have hnx : Hid (PairR ⟨x_name, x_num⟩ → ∀ y ∈ l.take (k + 1), PairR y) := fun h y hy => by
        rw [List.take_succ_eq_append_getElem hlt, hxe] at hy
        rcases List.mem_append.1 hy with h1 | h1
        · exact hq.out y h1
        · rw [List.mem_singleton.1 h1]; exact h
      have hno : Hid (¬ PairR ⟨x_name, x_num⟩ → dec (PairsR m l) = false) := fun h => dec_false (fun h2 => h (by have := h2.2 _ (List.getElem_mem hlt); rw [hxe] at this; exact this))
      have hc_n := fun (W : World) (hW : Below wr.heap.size wr W) => rrName_calls x_name W hz
      clear ha hel hcell hxe hB hq hfin1 hz
      by_cases h_n : IsNm x_name
      · by_cases h_l : (-32767 : Int) ≤ x_num
        · by_cases h_h : x_num ≤ (32767 : Int)
          · have hnx2 := Lib.hid (hnx.out ⟨h_n, h_l, h_h⟩)
            simp only [dec_true h_n] at hc_n
            have HC_n := Lib.hid hc_n
            have e0 : decide (x_num < (-32767 : Int)) = false := decide_eq_false (by omega)
            have e1 : decide ((32767 : Int) < x_num) = false := decide_eq_false (by omega)
            clear hc_n hno hnx h_n h_l h_h
            have HB0 : Below wr.heap.size wr wr := Below.refl _ _
            go_wp2_with (go_at_call 34; (with_reducible refine (HC_n.out wr HB0).mono ?_); rintro e91 w1 ⟨rfl, hb1⟩; have HB1 := bt HB0 hb1; have g1_1 := (HB1.cell (World.block_lt_of_cell? _ _ g1)).trans g1)
            go_roundw
            case rel => exact ⟨k + 1, by omega, by go_num, hnx2.out, bt HB.out HB1⟩
            case measure => simp [intOf]; omega
          · have hfin := Lib.hid (hno.out (fun h => h_h h.2.2))
            simp only [dec_true h_n] at hc_n
            have HC_n := Lib.hid hc_n
            have e0 : decide (x_num < (-32767 : Int)) = false := decide_eq_false (by omega)
            have e1 : decide ((32767 : Int) < x_num) = true := decide_eq_true (by omega)
            clear hc_n hno hnx h_n h_l h_h
            have HB0 : Below wr.heap.size wr wr := Below.refl _ _
            go_wp2_with (go_at_call 34; (with_reducible refine (HC_n.out wr HB0).mono ?_); rintro e91 w1 ⟨rfl, hb1⟩; have HB1 := bt HB0 hb1; have g1_1 := (HB1.cell (World.block_lt_of_cell? _ _ g1)).trans g1)
            go_ret
            exact ⟨ret_bool hfin.out.symm, bt HB.out HB1⟩
        · have hfin := Lib.hid (hno.out (fun h => h_l h.2.1))
          simp only [dec_true h_n] at hc_n
          have HC_n := Lib.hid hc_n
          have e0 : decide (x_num < (-32767 : Int)) = true := decide_eq_true (by omega)
          clear hc_n hno hnx h_n h_l
          have HB0 : Below wr.heap.size wr wr := Below.refl _ _
          go_wp2_with (go_at_call 34; (with_reducible refine (HC_n.out wr HB0).mono ?_); rintro e91 w1 ⟨rfl, hb1⟩; have HB1 := bt HB0 hb1; have g1_1 := (HB1.cell (World.block_lt_of_cell? _ _ g1)).trans g1)
          go_ret
          exact ⟨ret_bool hfin.out.symm, bt HB.out HB1⟩
      · have hfin := Lib.hid (hno.out (fun h => h_n h.1))
        simp only [dec_false h_n] at hc_n
        have HC_n := Lib.hid hc_n
        clear hc_n hno hnx h_n
        have HB0 : Below wr.heap.size wr wr := Below.refl _ _
        go_wp2_with (go_at_call 34; (with_reducible refine (HC_n.out wr HB0).mono ?_); rintro e91 w1 ⟨rfl, hb1⟩; have HB1 := bt HB0 hb1)
        go_ret
        exact ⟨ret_bool hfin.out.symm, bt HB.out HB1⟩
    · have : k = l.length := by omega
      subst this
      have hfin := Lib.hid (hfin1.out hq.out)
      have hki : decide ((l.length : Int) < (l.length : Int)) = false := by simp
      clear hq ha hfin1
      go_wp2
      go_ret
      exact ⟨ret_bool hfin.out.symm, hB⟩
set_option maxRecDepth 100000 in
set_option maxHeartbeats 4000000 in
theorem rrFuncs_calls (F : Nat → Prop) (w : World) (l : List FuncD) (m p : Int) (v : Value) (hF : Inn F w) (hr : RdL Holds.fnc 3 F w l v) :
    Calls Tryz.prog 37 #[v, .int .i64 m, .int .i64 p] w (Gives w (.bool (dec ((l.length : Int) ≤ m ∧ ∀ x ∈ l, FunR p x)))) := by
  obtain ⟨a, cap, rfl, hl, hc, ha⟩ := hr.opn
  unfold maxLen at hc
  by_cases hlen : (l.length : Int) ≤ m
  rotate_left
  · have hfin : Hid (dec ((l.length : Int) ≤ m ∧ ∀ x ∈ l, FunR p x) = false) := dec_false (fun h => hlen h.1)
    have e0 : decide (m < (l.length : Int)) = true := decide_eq_true (by omega)
    clear hr ha hlen
    go_enter Tryz.func37, Tryz.ntmps37
    go_wp2
    go_ret
    exact ⟨ret_bool hfin.out.symm, Below.refl _ _⟩
  have hfin1 : Hid ((∀ x ∈ l.take l.length, FunR p x) → dec ((l.length : Int) ≤ m ∧ ∀ x ∈ l, FunR p x) = true) := fun h => dec_true ⟨hlen, by rw [List.take_length] at h; exact h⟩
  have e0 : decide (m < (l.length : Int)) = false := decide_eq_false (by omega)
  clear hr hlen
  go_enter Tryz.func37, Tryz.ntmps37
  go_wp2
  go_loopw [7] (fun i wr => ∃ (k : Nat), k ≤ l.length ∧ i = .int .i64 k ∧ Hid (∀ x ∈ l.take k, FunR p x) ∧ Below w.heap.size w wr) (fun i _ => l.length - (intOf i).toNat)
  case atStart => exact ⟨0, Nat.zero_le _, rfl, (by show ∀ x ∈ l.take 0, FunR p x; rw [List.take_zero]; exact fun _ h => (by cases h)), Below.refl _ _⟩
  case round =>
    obtain ⟨k, hk, rfl, hq, hB⟩ := hrel
    by_cases hlt : k < l.length
    · obtain ⟨b, off, rfl, hFb, hel⟩ := ha (by omega)
      obtain ⟨cs, hx, -, hcell⟩ := hel wr (hB.block b (hF b hFb)) k hlt
      obtain ⟨x, hxe⟩ : ∃ x, l[k] = x := ⟨_, rfl⟩
      rw [hxe] at hx
      obtain ⟨x_name, x_params, x_body⟩ := x
      obtain ⟨hz, v1, v2, rfl, k1, k2⟩ := hx
      simp only at hz k1 k2
      obtain ⟨d1, f1, rfl⟩ := k1.shape
      obtain ⟨d2, f2, rfl⟩ := k2.shape
      have g0 := hcell 0 _ rfl
      have g1 := hcell 1 _ rfl
      have g2 := hcell 2 _ rfl
      simp only [Nat.add_zero] at g0
      have hki : (k : Int) < (l.length : Int) := by omega
      have hki0 : (0 : Int) ≤ (k : Int) := by omega
      have HB := Lib.hid hB
      have hnx : Hid (FunR p ⟨x_name, x_params, x_body⟩ → ∀ y ∈ l.take (k + 1), FunR p y) := fun h y hy => by
        rw [List.take_succ_eq_append_getElem hlt, hxe] at hy
        rcases List.mem_append.1 hy with h1 | h1
        · exact hq.out y h1
        · rw [List.mem_singleton.1 h1]; exact h
      have hno : Hid (¬ FunR p ⟨x_name, x_params, x_body⟩ → dec ((l.length : Int) ≤ m ∧ ∀ x ∈ l, FunR p x) = false) := fun h => dec_false (fun h2 => h (by have := h2.2 _ (List.getElem_mem hlt); rw [hxe] at this; exact this))
      have hc_n := fun (W : World) (hW : Below wr.heap.size wr W) => rrName_calls x_name W hz
      have hc_p := fun (W : World) (hW : Below wr.heap.size wr W) => rrNames_calls F W x_params p _ (hF.below (bt hB hW)) (RdL.below k1 hF (bt hB hW) (Nat.le_refl _))
      have hc_b := fun (W : World) (hW : Below wr.heap.size wr W) => rightBlockR_calls x_body F W _ (hF.below (bt hB hW)) (Sts.below k2 hF (bt hB hW) (Nat.le_refl _))
      clear ha hel hcell hxe hB hq hfin1 k1 k2 hz
      by_cases h_n : IsNm x_name
      · by_cases h_p : NamesR p x_params
        · by_cases h_b : RightB x_body
          · have hnx2 := Lib.hid (hnx.out ⟨h_n, h_p, h_b⟩)
            simp only [dec_true h_n] at hc_n
            have HC_n := Lib.hid hc_n
            simp only [dec_true h_p] at hc_p
            have HC_p := Lib.hid hc_p
            simp only [dec_true h_b] at hc_b
            have HC_b := Lib.hid hc_b
            clear hc_n hc_p hc_b hno hnx h_n h_p h_b
            have HB0 : Below wr.heap.size wr wr := Below.refl _ _
            go_wp2_with (first | (go_at_call 34; (with_reducible refine (HC_n.out wr HB0).mono ?_); rintro e91 w1 ⟨rfl, hb1⟩; have HB1 := bt HB0 hb1; have g1_1 := (HB1.cell (World.block_lt_of_cell? _ _ g1)).trans g1; have g1_2 := (HB1.cell (World.block_lt_of_cell? _ _ g2)).trans g2) | (go_at_call 35; (with_reducible refine (HC_p.out w1 HB1).mono ?_); rintro e92 w2 ⟨rfl, hb2⟩; have HB2 := bt HB1 hb2; have g2_2 := (HB2.cell (World.block_lt_of_cell? _ _ g2)).trans g2) | (go_at_call 112; (with_reducible refine (HC_b.out w2 HB2).mono ?_); rintro e93 w3 ⟨rfl, hb3⟩; have HB3 := bt HB2 hb3))
            go_roundw
            case rel => exact ⟨k + 1, by omega, by go_num, hnx2.out, bt HB.out HB3⟩
            case measure => simp [intOf]; omega
          · have hfin := Lib.hid (hno.out (fun h => h_b h.2.2))
            simp only [dec_true h_n] at hc_n
            have HC_n := Lib.hid hc_n
            simp only [dec_true h_p] at hc_p
            have HC_p := Lib.hid hc_p
            simp only [dec_false h_b] at hc_b
            have HC_b := Lib.hid hc_b
            clear hc_n hc_p hc_b hno hnx h_n h_p h_b
            have HB0 : Below wr.heap.size wr wr := Below.refl _ _
            go_wp2_with (first | (go_at_call 34; (with_reducible refine (HC_n.out wr HB0).mono ?_); rintro e91 w1 ⟨rfl, hb1⟩; have HB1 := bt HB0 hb1; have g1_1 := (HB1.cell (World.block_lt_of_cell? _ _ g1)).trans g1; have g1_2 := (HB1.cell (World.block_lt_of_cell? _ _ g2)).trans g2) | (go_at_call 35; (with_reducible refine (HC_p.out w1 HB1).mono ?_); rintro e92 w2 ⟨rfl, hb2⟩; have HB2 := bt HB1 hb2; have g2_2 := (HB2.cell (World.block_lt_of_cell? _ _ g2)).trans g2) | (go_at_call 112; (with_reducible refine (HC_b.out w2 HB2).mono ?_); rintro e93 w3 ⟨rfl, hb3⟩; have HB3 := bt HB2 hb3))
            go_ret
            exact ⟨ret_bool hfin.out.symm, bt HB.out HB3⟩
        · have hfin := Lib.hid (hno.out (fun h => h_p h.2.1))
          simp only [dec_true h_n] at hc_n
          have HC_n := Lib.hid hc_n
          simp only [dec_false h_p] at hc_p
          have HC_p := Lib.hid hc_p
          clear hc_n hc_p hc_b hno hnx h_n h_p
          have HB0 : Below wr.heap.size wr wr := Below.refl _ _
          go_wp2_with (first | (go_at_call 34; (with_reducible refine (HC_n.out wr HB0).mono ?_); rintro e91 w1 ⟨rfl, hb1⟩; have HB1 := bt HB0 hb1; have g1_1 := (HB1.cell (World.block_lt_of_cell? _ _ g1)).trans g1) | (go_at_call 35; (with_reducible refine (HC_p.out w1 HB1).mono ?_); rintro e92 w2 ⟨rfl, hb2⟩; have HB2 := bt HB1 hb2))
          go_ret
          exact ⟨ret_bool hfin.out.symm, bt HB.out HB2⟩
      · have hfin := Lib.hid (hno.out (fun h => h_n h.1))
        simp only [dec_false h_n] at hc_n
        have HC_n := Lib.hid hc_n
        clear hc_n hc_p hc_b hno hnx h_n
        have HB0 : Below wr.heap.size wr wr := Below.refl _ _
        go_wp2_with (go_at_call 34; (with_reducible refine (HC_n.out wr HB0).mono ?_); rintro e91 w1 ⟨rfl, hb1⟩; have HB1 := bt HB0 hb1)
        go_ret
        exact ⟨ret_bool hfin.out.symm, bt HB.out HB1⟩
    · have : k = l.length := by omega
      subst this
      have hfin := Lib.hid (hfin1.out hq.out)
      have hki : decide ((l.length : Int) < (l.length : Int)) = false := by simp
      clear hq ha hfin1
      go_wp2
      go_ret
      exact ⟨ret_bool hfin.out.symm, hB⟩
end Go.Proofs.YtmabeegoapcfpaaGreatDoor
