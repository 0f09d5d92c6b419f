/- The walks of clewref15.Find, clewref15.Of, names.Find and names.Of: what a name stands for. -/
import Derived.Test.YtblhpiebheommaaGreatKindsChecksPart6
import Derived.Test.YtblhpiebheommaaGreatKindsChecksPart3
import Derived.Test.YtblhpiebheommaaGreatKindsChecksPart4
import Derived.Sort.Walk0
namespace Go.Proofs.YtblhpiebheommaaGreat
open Go.RowKit

/-- What a look-up hands back. -/
def foundV : Option NameD → Value
  | some x => .tuple #[.agg #[.string x.name, .int .i64 x.kind, .int .i64 x.num], .bool true]
  | none => .tuple #[.agg #[.string ⟨#[]⟩, .int .i64 0, .int .i64 0], .bool false]
/-- A call's post: it hands back what the name stands for. -/
def GivesFound (w : World) (o : Option NameD) (e : Ending) (w' : World) : Prop := e = .returned (foundV o) ∧ Below w.heap.size w w'

theorem found_none {P : Program} {k : Nat} {args : Array Value} {w : World} (h : Calls P k args w (GivesFound w none)) : Calls P k args w fun e w' => e = .returned (.tuple #[.agg #[.string ⟨#[]⟩, .int .i64 0, .int .i64 0], .bool false]) ∧ Below w.heap.size w w' := h
theorem found_some {P : Program} {k : Nat} {args : Array Value} {w : World} {x : NameD} (h : Calls P k args w (GivesFound w (some x))) : Calls P k args w fun e w' => e = .returned (.tuple #[.agg #[.string x.name, .int .i64 x.kind, .int .i64 x.num], .bool true]) ∧ Below w.heap.size w w' := h

/-- A box of the call's own, written. -/
theorem three_set {w0 X : World} {b : Nat} {u0 u1 u2 : Value} (hB : Below w0.heap.size w0 X) (hb : w0.heap.size ≤ b) : Below w0.heap.size w0 (((X.setCell ⟨b, 0, none⟩ u0).setCell ⟨b, 1, none⟩ u1).setCell ⟨b, 2, none⟩ u2) :=
  ((hB.setCell (p := ⟨b, 0, none⟩) hb _).setCell (p := ⟨b, 1, none⟩) hb _).setCell (p := ⟨b, 2, none⟩) hb _

theorem beq_str {a b : ByteArray} : (a.toList == b.toList) = decide (a = b) := by
  rw [ByteArray.toList_eq, ByteArray.toList_eq]
  by_cases h : a = b
  · subst h; simp
  · rw [decide_eq_false h, beq_eq_false_iff_ne]; exact fun e => h (bytes_eq e)

set_option maxRecDepth 20000 in
set_option maxHeartbeats 1000000 in
theorem findR_calls (t : List NameD) (n : ByteArray) (F : Nat → Prop) (w : World) (v : Value) (hF : Inn F w) (hr : RdNames F w t v) :
    Calls Tryz.prog 17 #[v, .string n] w (GivesFound w (findN t n)) := by
  obtain ⟨a, cap, rfl, hl, hc, ha⟩ := hr.opn
  unfold maxLen at hc
  have hpost : Hid (∀ k x (hk : k < t.length), (∀ i (hi : i < t.length), i < k → t[i].name ≠ n) → t[k] = x → x.name = n → findN t n = some x) := fun k x hk h1 e h2 => by
    subst e
    unfold findN
    rw [List.find?_eq_some_iff_getElem]
    exact ⟨by simpa using h2, k, hk, rfl, fun j hj => by simpa using h1 j (by omega) hj⟩
  have hno : Hid ((∀ i (hi : i < t.length), t[i].name ≠ n) → findN t n = none) := fun h => by
    unfold findN
    rw [List.find?_eq_none]
    intro x hx
    obtain ⟨k, hk, rfl⟩ := List.getElem_of_mem hx
    simpa using h k hk
  generalize findN t n = o at hpost hno
  clear hr
  go_enter Tryz.func17, Tryz.ntmps17
  go_wp2
  have hB0 : Below w.heap.size w (w.alloc (.cells #[.string ⟨#[]⟩, .int .i64 0, .int .i64 0] 63)) := (Below.refl _ w).alloc (Nat.le_refl _) _
  go_loop [6] (fun i => ∃ (k : Nat), k ≤ t.length ∧ i = .int .i64 k ∧ Hid (∀ i (hi : i < t.length), i < k → t[i].name ≠ n)) (fun i => t.length - (intOf i).toNat)
  case atStart => exact ⟨0, Nat.zero_le _, rfl, fun i _ h => absurd h (by omega)⟩
  case round =>
    obtain ⟨k, hk, rfl, hq⟩ := hrel
    by_cases hlt : k < t.length
    · obtain ⟨b, off, rfl, hFb, hel⟩ := ha (by omega)
      obtain ⟨cs, ⟨h1, h2, h3, rfl⟩, -, hcell⟩ := hel (w.alloc (.cells #[.string ⟨#[]⟩, .int .i64 0, .int .i64 0] 63)) (hB0.block b (hF b hFb)) k hlt
      have g0 := hcell 0 _ rfl
      have g1 := hcell 1 _ rfl
      have g2 := hcell 2 _ rfl
      simp only [Nat.add_zero] at g0
      have hx : Hid (t[k] = t[k]) := rfl
      obtain ⟨x, hx⟩ : ∃ x, x = t[k] := ⟨_, rfl⟩
      rw [← hx] at g0 g1 g2
      have HX := Lib.hid hx
      clear hel hcell ha h1 h2 h3
      by_cases he : x.name = n
      · have e1 : (x.name.toList == n.toList) = true := by rw [beq_str]; simpa using he
        have hfin : Hid (o = some x) := hpost.out k x hlt hq.out hx.symm he
        clear hq hpost hno hx
        subst he
        go_wp2
        exact bodyPost_ret (v := .tuple #[.agg #[.string x.name, .int .i64 x.kind, .int .i64 x.num], .bool true]) (by simp [results, Tryz.results17, go_sem]) rfl ⟨by rw [hfin.out]; rfl, by first | exact (Below.refl _ w).alloc (Nat.le_refl _) _ | exact three_set hB0 (Nat.le_refl _)⟩
      · have e1 : (x.name.toList == n.toList) = false := by rw [beq_str]; simpa using he
        have hnx : Hid (∀ i (hi : i < t.length), i < k + 1 → t[i].name ≠ n) := fun i hi h => by
          by_cases hik : i = k
          · subst hik; rw [← hx]; exact he
          · exact hq.out i hi (by omega)
        clear hq hpost hno he hx
        go_wp2
        go_round
        case rel => exact ⟨k + 1, by omega, by go_num, hnx⟩
        case measure => simp [intOf]; omega
    · have hfin : Hid (o = none) := hno.out (fun i hi => hq.out i hi (by omega))
      clear hq hpost hno
      go_wp2
      exact bodyPost_ret (v := .tuple #[.agg #[.string ⟨#[]⟩, .int .i64 0, .int .i64 0], .bool false]) (by simp [results, Tryz.results17, go_sem]) rfl ⟨by rw [hfin.out]; rfl, by first | exact hB0 | exact three_set hB0 (Nat.le_refl _)⟩

/-- The number of a name of a kind: the number, and the error. -/
def ofN (t : List NameD) (kind : Int) (n : ByteArray) : Int × Int :=
  match findN t n with
  | none => (0, 11)
  | some x => if x.kind = kind then (x.num, 0) else (0, 12)

def GivesTwo (w : World) (p : Int × Int) (e : Ending) (w' : World) : Prop := e = .returned (.tuple #[.int .i64 p.1, .int .i64 p.2]) ∧ Below w.heap.size w w'

set_option maxRecDepth 20000 in
set_option maxHeartbeats 1000000 in
theorem ofR_calls (t : List NameD) (kind : Int) (n : ByteArray) (F : Nat → Prop) (w : World) (v : Value) (hF : Inn F w) (hr : RdNames F w t v) :
    Calls Tryz.prog 51 #[v, .int .i64 kind, .string n] w (GivesTwo w (ofN t kind n)) := by
  have hf := findR_calls t n F w v hF hr
  obtain ⟨a, cap, rfl⟩ := hr.shape
  clear hr
  cases ho : findN t n with
  | none =>
    rw [ho] at hf
    have HC := Lib.hid (found_none hf)
    have hfin : Hid (ofN t kind n = (0, 11)) := by show _ = _; unfold ofN; rw [ho]
    clear hf ho
    go_enter Tryz.func51, Tryz.ntmps51
    go_wp2_with (go_at_call 17; refine HC.out.mono ?_; rintro e w1 ⟨rfl, hb⟩)
    go_ret2
    exact ⟨by rw [hfin.out]; rfl, (hb.alloc hb.size _)⟩
  | some x =>
    rw [ho] at hf
    have HC := Lib.hid (found_some hf)
    by_cases hk : x.kind = kind
    · have hfin : Hid (ofN t kind n = (x.num, 0)) := by show _ = _; unfold ofN; rw [ho]; simp [hk]
      have e1 : (x.kind != kind) = false := by simpa using hk
      clear hf ho hk
      go_enter Tryz.func51, Tryz.ntmps51
      go_wp2_with (go_at_call 17; refine HC.out.mono ?_; rintro e w1 ⟨rfl, hb⟩)
      go_ret2
      exact ⟨by rw [hfin.out]; rfl, (hb.alloc hb.size _)⟩
    · have hfin : Hid (ofN t kind n = (0, 12)) := by show _ = _; unfold ofN; rw [ho]; simp [hk]
      have e1 : (x.kind != kind) = true := by simpa using hk
      clear hf ho hk
      go_enter Tryz.func51, Tryz.ntmps51
      go_wp2_with (go_at_call 17; refine HC.out.mono ?_; rintro e w1 ⟨rfl, hb⟩)
      go_ret2
      exact ⟨by rw [hfin.out]; rfl, (hb.alloc hb.size _)⟩

theorem isNaN_calls (s : ByteArray) (w : World) : Calls Tryz.prog 106 #[.string s] w (Same0 w (.bool false)) := by
  go_enter Tryz.func106, Tryz.ntmps106
  go_wp2
  go_ret
  exact ⟨by simp, rfl⟩

/-- What Go's cmp.Compare says of two strings. -/
noncomputable def cmpS (a b : ByteArray) : Int := if dec (ltS a b) = true then -1 else if dec (ltS b a) = true then 1 else 0

theorem less_eq (a b : ByteArray) : Op.bytesLess a.toList b.toList = dec (ltS a b) := by
  rw [bytesLess_eq, ByteArray.toList_eq, ByteArray.toList_eq]
  by_cases h : a.data.toList < b.data.toList
  · rw [dec_true (show ltS a b from h)]; simpa using h
  · rw [dec_false (show ¬ ltS a b from h)]; simpa using h

theorem compare_calls (a b : ByteArray) (w : World) : Calls Tryz.prog 98 #[.string a, .string b] w (Same0 w (.int .i64 (cmpS a b))) := by
  have H1 := Lib.hid (isNaN_calls a w)
  have H2 := Lib.hid (isNaN_calls b w)
  by_cases h1 : ltS a b
  · have e1 : Op.bytesLess a.toList b.toList = true := by rw [less_eq]; exact dec_true h1
    have hfin : Hid (cmpS a b = -1) := by show _ = _; unfold cmpS; rw [if_pos (dec_true h1)]
    clear h1
    go_enter Tryz.func98, Tryz.ntmps98
    go_wp2_with (first | (go_at_call 106; (with_reducible refine H1.out.mono ?_); rintro e w1 ⟨rfl, rfl⟩) | (go_at_call 106; (with_reducible refine H2.out.mono ?_); rintro e w1 ⟨rfl, rfl⟩))
    go_ret
    exact ⟨ret_int hfin.out.symm, rfl⟩
  have e1 : Op.bytesLess a.toList b.toList = false := by rw [less_eq]; exact dec_false h1
  by_cases h2 : ltS b a
  · have e2 : (a.toList == b.toList) = false := by rw [beq_str]; simp; rintro rfl; exact ltS_irrefl _ h2
    have hfin : Hid (cmpS a b = 1) := by show _ = _; unfold cmpS; rw [if_neg (by rw [dec_false h1]; decide), if_pos (dec_true h2)]
    clear h1 h2
    go_enter Tryz.func98, Tryz.ntmps98
    go_wp2_with (first | (go_at_call 106; (with_reducible refine H1.out.mono ?_); rintro e w1 ⟨rfl, rfl⟩) | (go_at_call 106; (with_reducible refine H2.out.mono ?_); rintro e w1 ⟨rfl, rfl⟩))
    go_ret
    exact ⟨ret_int hfin.out.symm, rfl⟩
  · have e2 : (a.toList == b.toList) = true := by rw [beq_str]; simpa using ltS_tri a b h1 h2
    have hfin : Hid (cmpS a b = 0) := by show _ = _; unfold cmpS; rw [if_neg (by rw [dec_false h1]; decide), if_neg (by rw [dec_false h2]; decide)]
    clear h1 h2
    go_enter Tryz.func98, Tryz.ntmps98
    go_wp2_with (first | (go_at_call 106; (with_reducible refine H1.out.mono ?_); rintro e w1 ⟨rfl, rfl⟩) | (go_at_call 106; (with_reducible refine H2.out.mono ?_); rintro e w1 ⟨rfl, rfl⟩))
    go_ret
    exact ⟨ret_int hfin.out.symm, rfl⟩

theorem find1_calls (x : NameD) (n : ByteArray) (w : World) : Calls Tryz.prog 97 #[.agg #[.string x.name, .int .i64 x.kind, .int .i64 x.num], .string n] w (Gives w (.int .i64 (cmpS x.name n))) := by
  have HC := Lib.hid (fun w => compare_calls x.name n w)
  go_enter Tryz.func97, Tryz.ntmps97
  go_wp2_with (go_at_call 98; (with_reducible refine (HC.out _).mono ?_); rintro e w1 ⟨rfl, rfl⟩)
  go_ret
  exact ⟨rfl, (Below.refl _ _).alloc (Nat.le_refl _) _⟩

theorem cmpS_lt {a b : ByteArray} (h : ltS a b) : cmpS a b = -1 := by unfold cmpS; rw [if_pos (dec_true h)]
theorem cmpS_eq (a : ByteArray) : cmpS a a = 0 := by unfold cmpS; rw [if_neg (by rw [dec_false (ltS_irrefl a)]; decide), if_neg (by rw [dec_false (ltS_irrefl a)]; decide)]
theorem cmpS_gt {a b : ByteArray} (h : ltS b a) : cmpS a b = 1 := by
  unfold cmpS
  rw [if_neg (by rw [dec_false (fun k => ltS_irrefl _ (ltS_trans h k))]; decide), if_pos (dec_true h)]

/-- Where a search by halves comes to. -/
def GivesAt (t : List NameD) (n : ByteArray) (w : World) (e : Ending) (w' : World) : Prop :=
  ∃ (i : Nat) (ok : Bool), e = .returned (.tuple #[.int .i64 i, .bool ok]) ∧ (ok = true → ∃ (hi : i < t.length), findN t n = some t[i]) ∧ (ok = false → findN t n = none) ∧ Below w.heap.size w w'

theorem half_mid {i j h : Nat} (hh : h = (i + j) / 2) (hlt : i < j) : i ≤ h ∧ h < j := by omega

set_option maxRecDepth 20000 in
set_option maxHeartbeats 1000000 in
theorem bsearch_calls (t : List NameD) (n : ByteArray) (F : Nat → Prop) (w : World) (v : Value) (hF : Inn F w) (hr : RdNames F w t v) (hri : Rises t) (ht : t.length ≤ 1000000000000) :
    Calls Tryz.prog 96 #[v, .string n, .func (.func 97) #[] #[]] w (GivesAt t n w) := by
  obtain ⟨a, cap, rfl, hl, hc, ha⟩ := hr.opn
  unfold maxLen at hc
  have HR := Lib.hid hri
  clear hr hri
  go_enter Tryz.func96, Tryz.ntmps96
  go_wp2
  go_loopw [9, 10] (fun i j wr => ∃ (x y : Nat), x ≤ y ∧ y ≤ t.length ∧ i = .int .i64 x ∧ j = .int .i64 y ∧ Hid (∀ k (hk : k < t.length), k < x → ltS t[k].name n) ∧ Hid (∀ k (hk : k < t.length), y ≤ k → ¬ ltS t[k].name n) ∧ Below w.heap.size w wr) (fun i j _ => (intOf j).toNat - (intOf i).toNat)
  case atStart => exact ⟨0, t.length, Nat.zero_le _, Nat.le_refl _, rfl, rfl, fun k _ h => absurd h (by omega), fun k hk h => absurd h (by omega), Below.refl _ _⟩
  case round =>
    obtain ⟨x, y, hxy, hy, rfl, rfl, hq1, hq2, hB⟩ := hrel
    by_cases hlt : x < y
    · obtain ⟨b, off, rfl, hFb, hel⟩ := ha (by omega)
      obtain ⟨h, hh⟩ : ∃ h : Nat, h = (x + y) / 2 := ⟨_, rfl⟩
      have hm := half_mid hh hlt
      have he : ((x : Int) + (y : Int)) / 2 = (h : Int) := by omega
      clear hh
      have hht : h < t.length := by omega
      obtain ⟨cs, ⟨h1, h2, h3, rfl⟩, -, hcell⟩ := hel wr (hB.block b (hF b hFb)) h hht
      have g0 := hcell 0 _ rfl
      have g1 := hcell 1 _ rfl
      have g2 := hcell 2 _ rfl
      simp only [Nat.add_zero] at g0
      have hcall := find1_calls t[h] n wr
      clear hel hcell h1 h2 h3
      by_cases hls : ltS t[h].name n
      · rw [cmpS_lt hls] at hcall
        have HC := Lib.hid hcall
        have hnx : Hid (∀ k (hk : k < t.length), k < h + 1 → ltS t[k].name n) := fun k hk hlk => by
          by_cases hkh : k = h
          · subst hkh; exact hls
          · exact ltS_trans (HR.out.get hk hht (by omega)) hls
        clear hcall hls hq1 ha
        go_wp2_with (go_at_call 97; refine HC.out.mono ?_; rintro e w1 ⟨rfl, hb⟩)
        go_roundw
        case rel => exact ⟨h + 1, y, by omega, by omega, by go_num, rfl, hnx, hq2, below_on hB (Nat.le_refl _) hb⟩
        case measure => simp [intOf]; omega
      · have hnx : Hid (∀ k (hk : k < t.length), h ≤ k → ¬ ltS t[k].name n) := fun k hk hlk hk2 => by
          by_cases hkh : k = h
          · subst hkh; exact hls hk2
          · exact hls (ltS_trans (HR.out.get hht hk (by omega)) hk2)
        have hge : Hid (cmpS t[h].name n = 0 ∨ cmpS t[h].name n = 1) := by
          show _ ∨ _
          by_cases hgt : ltS n t[h].name
          · exact .inr (cmpS_gt hgt)
          · rw [ltS_tri _ _ hls hgt]; exact .inl (cmpS_eq n)
        generalize cmpS t[h].name n = z at hcall hge
        have hz : 0 ≤ z := by rcases hge.out with h | h <;> omega
        have HC := Lib.hid hcall
        clear hcall hls hq2 ha hge
        go_wp2_with (go_at_call 97; refine HC.out.mono ?_; rintro e w1 ⟨rfl, hb⟩)
        go_roundw
        case rel => exact ⟨x, h, by omega, by omega, rfl, rfl, hq1, hnx, below_on hB (Nat.le_refl _) hb⟩
        case measure => simp [intOf]; omega
    · have hxy' : x = y := by omega
      subst hxy'
      have hat := found_at HR.out hq1.out hq2.out
      clear hlt hq1 hq2 hxy
      by_cases hlt : x < t.length
      · obtain ⟨b, off, rfl, hFb, hel⟩ := ha (by omega)
        obtain ⟨cs, ⟨h1, h2, h3, rfl⟩, -, hcell⟩ := hel wr (hB.block b (hF b hFb)) x hlt
        have g0 := hcell 0 _ rfl
        have g1 := hcell 1 _ rfl
        have g2 := hcell 2 _ rfl
        simp only [Nat.add_zero] at g0
        have hcall := find1_calls t[x] n wr
        clear hel hcell h1 h2 h3 ha
        by_cases hne : t[x].name = n
        · have hfin : Hid (findN t n = some t[x]) := hat.1 hlt hne
          rw [hne, cmpS_eq] at hcall
          rw [hne] at g0
          have HC := Lib.hid hcall
          clear hcall hat hne
          go_wp2_with (go_at_call 97; refine HC.out.mono ?_; rintro e w1 ⟨rfl, hb⟩)
          go_ret2
          exact ⟨x, true, rfl, fun _ => ⟨hlt, hfin.out⟩, (fun h => by cases h), below_on hB (Nat.le_refl _) hb⟩
        · have hfin : Hid (findN t n = none) := hat.2 (fun _ => hne)
          have hge : Hid (cmpS t[x].name n ≠ 0) := by
            show _ ≠ _
            by_cases h1 : ltS t[x].name n
            · rw [cmpS_lt h1]; decide
            · by_cases h2 : ltS n t[x].name
              · rw [cmpS_gt h2]; decide
              · exact absurd (ltS_tri _ _ h1 h2) hne
          generalize cmpS t[x].name n = z at hcall hge
          have e1 : (z == 0) = false := by rw [beq_eq_false_iff_ne]; exact hge.out
          have HC := Lib.hid hcall
          clear hcall hat hne
          go_wp2_with (go_at_call 97; refine HC.out.mono ?_; rintro e w1 ⟨rfl, hb⟩)
          go_ret2
          exact ⟨x, false, rfl, (fun h => by cases h), fun _ => hfin.out, below_on hB (Nat.le_refl _) hb⟩
      · have hfin : Hid (findN t n = none) := hat.2 (fun h => absurd h hlt)
        clear hat ha
        go_wp2_with fail
        go_ret2
        exact ⟨x, false, rfl, (fun h => by cases h), fun _ => hfin.out, hB⟩

set_option maxRecDepth 20000 in
set_option maxHeartbeats 1000000 in
theorem findT_calls (t : List NameD) (n : ByteArray) (F : Nat → Prop) (w : World) (v : Value) (hF : Inn F w) (hr : RdNames F w t v) (hri : Rises t) (ht : t.length ≤ 1000000000000) :
    Calls Tryz.prog 76 #[v, .string n] w (GivesFound w (findN t n)) := by
  have hb := fun W (hW : Below w.heap.size w W) => bsearch_calls t n F W v (hF.below hW) (hr.below hF hW (Nat.le_refl _)) hri ht
  obtain ⟨a, cap, rfl, hl, hc, ha⟩ := hr.opn
  unfold maxLen at hc
  have HC := Lib.hid hb
  have hB0 : Below w.heap.size w (w.alloc (.cells #[.string ⟨#[]⟩, .int .i64 0, .int .i64 0] 63)) := (Below.refl _ w).alloc (Nat.le_refl _) _
  clear hb hr hri
  cases ho : findN t n with
  | none =>
    have hbn : ∀ W, Below w.heap.size w W → Calls Tryz.prog 96 #[.slice a t.length cap, .string n, .func (.func 97) #[] #[]] W (fun e w' => ∃ i : Nat, e = .returned (.tuple #[.int .i64 i, .bool false]) ∧ Below W.heap.size W w') := fun W hW =>
      (HC.out W hW).mono fun e w' ⟨i, ok, h1, h2, h3, h4⟩ => by
        cases ok with
        | false => exact ⟨i, h1, h4⟩
        | true => obtain ⟨hi, h5⟩ := h2 rfl; rw [ho] at h5; cases h5
    have HN := Lib.hid hbn
    clear hbn HC ho
    go_enter Tryz.func76, Tryz.ntmps76
    go_wp2_with (go_at_call 96; refine (HN.out _ hB0).mono ?_; rintro e w1 ⟨i, rfl, hb⟩; obtain ⟨hcl, hfz⟩ := bcell hb; have hzz := one_new hb)
    have hB1 := below_on hB0 (Nat.le_refl _) hb
    exact bodyPost_ret (v := .tuple #[.agg #[.string ⟨#[]⟩, .int .i64 0, .int .i64 0], .bool false]) (by simp [results, Tryz.results76, go_sem, hcl]) rfl ⟨rfl, by first | exact hB1 | exact three_set hB1 (Nat.le_refl _)⟩
  | some x =>
    have hbn : ∀ W, Below w.heap.size w W → Calls Tryz.prog 96 #[.slice a t.length cap, .string n, .func (.func 97) #[] #[]] W (fun e w' => ∃ (i : Nat) (hi : i < t.length), e = .returned (.tuple #[.int .i64 i, .bool true]) ∧ t[i] = x ∧ Below W.heap.size W w') := fun W hW =>
      (HC.out W hW).mono fun e w' ⟨i, ok, h1, h2, h3, h4⟩ => by
        cases ok with
        | false => have := h3 rfl; rw [ho] at this; cases this
        | true => obtain ⟨hi, h5⟩ := h2 rfl; rw [ho] at h5; exact ⟨i, hi, h1, (Option.some.inj h5).symm, h4⟩
    have HN := Lib.hid hbn
    obtain ⟨b, off, rfl, hFb, hel⟩ := ha (by obtain ⟨h1, -⟩ := findN_some ho; exact List.length_pos_of_mem h1)
    have HE := Lib.hid hel
    clear hbn HC ho ha hel
    go_enter Tryz.func76, Tryz.ntmps76
    go_wp2_with (go_at_call 96; refine (HN.out _ hB0).mono ?_; rintro e w1 ⟨i, hi, rfl, hx, hb⟩; obtain ⟨hcl, hfz⟩ := bcell hb; have hzz := one_new hb; have hB1 := below_on hB0 (Nat.le_refl _) hb; obtain ⟨cs, ⟨h1, h2, h3, rfl⟩, -, hcell⟩ := HE.out w1 (hB1.block b (hF b hFb)) i hi; have g0 := hcell 0 _ rfl; have g1 := hcell 1 _ rfl; have g2 := hcell 2 _ rfl; simp only [Nat.add_zero] at g0; rw [hx] at g0 g1 g2; clear hx hcell h1 h2 h3)
    exact bodyPost_ret (v := .tuple #[.agg #[.string x.name, .int .i64 x.kind, .int .i64 x.num], .bool true]) (by simp [results, Tryz.results76, go_sem, hcl]) rfl ⟨rfl, by first | exact hB1 | exact three_set hB1 (Nat.le_refl _)⟩
end Go.Proofs.YtblhpiebheommaaGreat
/- The walk of names.Of. -/
namespace Go.Proofs.YtblhpiebheommaaGreat
open Go.RowKit

set_option maxRecDepth 20000 in
set_option maxHeartbeats 1000000 in
theorem ofT_calls (t : List NameD) (kind : Int) (n : ByteArray) (F : Nat → Prop) (w : World) (v : Value) (hF : Inn F w) (hr : RdNames F w t v) (hri : Rises t) (ht : t.length ≤ 1000000000000) :
    Calls Tryz.prog 88 #[v, .int .i64 kind, .string n] w (GivesTwo w (ofN t kind n)) := by
  have hf := findT_calls t n F w v hF hr hri ht
  obtain ⟨a, cap, rfl⟩ := hr.shape
  clear hr hri
  cases ho : findN t n with
  | none =>
    rw [ho] at hf
    have HC := Lib.hid (found_none hf)
    have hfin : Hid (ofN t kind n = (0, 11)) := by show _ = _; unfold ofN; rw [ho]
    clear hf ho
    go_enter Tryz.func88, Tryz.ntmps88
    go_wp2_with (go_at_call 76; refine HC.out.mono ?_; rintro e w1 ⟨rfl, hb⟩)
    go_ret2
    exact ⟨by rw [hfin.out]; rfl, (hb.alloc hb.size _)⟩
  | some x =>
    have hxn : n = x.name := (findN_some ho).2.symm
    subst hxn
    rw [ho] at hf
    have HC := Lib.hid (found_some hf)
    by_cases hk : x.kind = kind
    · have hfin : Hid (ofN t kind x.name = (x.num, 0)) := by show _ = _; unfold ofN; rw [ho]; simp [hk]
      clear hf ho
      subst hk
      go_enter Tryz.func88, Tryz.ntmps88
      go_wp2_with (go_at_call 76; refine HC.out.mono ?_; rintro e w1 ⟨rfl, hb⟩)
      go_ret2
      exact ⟨by rw [hfin.out]; rfl, (hb.alloc hb.size _)⟩
    · have hfin : Hid (ofN t kind x.name = (0, 12)) := by show _ = _; unfold ofN; rw [ho]; simp [hk]
      have e1 : (x.kind == kind) = false := by simpa using hk
      clear hf ho hk
      go_enter Tryz.func88, Tryz.ntmps88
      go_wp2_with (go_at_call 76; refine HC.out.mono ?_; rintro e w1 ⟨rfl, hb⟩)
      go_ret2
      exact ⟨by rw [hfin.out]; rfl, (hb.alloc hb.size _)⟩
end Go.Proofs.YtblhpiebheommaaGreat
