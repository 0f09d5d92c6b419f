/- The walks of clewref16's light and when. Printed by gen-light.py. -/
import Derived.Test.YtblhpiebheommaaKindsHoldsPart11
import Derived.Test.YtblhpiebheommaaRightR
import Derived.Test.YtblhpiebheommaaKindsHoldsPart3
import Derived.Test.YtblhpiebheommaaKindsHoldsPart2
import Derived.Test.YtblhpiebheommaaKindsHoldsPart4
import Derived.Test.YtblhpiebheommaaKindsHoldsPart10
import Derived.Sort.Walk0
namespace Go.Proofs.Ytblhpiebheommaa
open Go.RowKit Go.Sort

/-- Few statements, and those of a source. -/
def LightB (l : List St) : Prop := 0 ≤ St.fews l 200 ∧ RightB l
/-- A condition may be so. -/
def WhenB (l : List Ex) : Prop := l = [] ∨ ∃ e, l = [e] ∧ 0 ≤ e.few 200 ∧ RightE e ∧ e.kind ≠ 2 ∧ e.kind ≠ 13

set_option maxRecDepth 100000 in
set_option maxHeartbeats 1000000 in
theorem light_calls (l : List St) (F : Nat → Prop) (w : World) (v : Value) (hF : Inn F w) (hr : Sts F w l v) : Calls Try.prog 42 #[v] w (Gives w (.bool (dec (LightB l)))) := by
  have HFW := Lib.hid (fun (W : World) (hW : Below w.heap.size w W) => fewB_calls l F W v 200 (hF.below hW) (by omega) (by omega) (Sts.below hr hF hW (Nat.le_refl _)))
  have HRT := Lib.hid (fun (W : World) (hW : Below w.heap.size w W) => rightBlockR_calls l F W v (hF.below hW) (Sts.below hr hF hW (Nat.le_refl _)))
  obtain ⟨a, cap, rfl⟩ := hr.shape
  clear hr
  by_cases hx : 0 ≤ St.fews l 200
  · have hfin : Hid (dec (LightB l) = dec (RightB l)) := dec_congr ⟨fun h => h.2, fun h => ⟨hx, h⟩⟩
    generalize St.fews l 200 = x at HFW hx
    have hxd : decide (x ≥ 0) = true := by simpa using hx
    clear hx
    go_enter Try.func42, Try.ntmps42
    go_wp2_with (first | (go_at_call 13; refine (HFW.out _ (Below.refl _ _)).mono ?_; rintro e1 w1 ⟨rfl, hb1⟩) | (go_at_call 14; refine (HRT.out _ hb1).mono ?_; rintro e2 w2 ⟨rfl, hb2⟩))
    go_ret
    exact ⟨ret_bool hfin.out.symm, hb1.trans (hb2.mono hb1.size)⟩
  · have hfin : Hid (dec (LightB l) = false) := dec_false fun h => hx h.1
    generalize St.fews l 200 = x at HFW hx
    have hxd : decide (x ≥ 0) = false := by simpa using hx
    clear hx
    go_enter Try.func42, Try.ntmps42
    go_wp2_with (go_at_call 13; refine (HFW.out _ (Below.refl _ _)).mono ?_; rintro e1 w1 ⟨rfl, hb1⟩)
    go_ret
    exact ⟨ret_bool hfin.out.symm, hb1⟩

set_option maxRecDepth 100000 in
set_option maxHeartbeats 2000000 in
theorem whenR_calls (l : List Ex) (F : Nat → Prop) (w : World) (v : Value) (hF : Inn F w) (hr : Exs F w l v) : Calls Try.prog 41 #[v] w (Gives w (.bool (dec (WhenB l)))) := by
  obtain ⟨a, cap, rfl⟩ := hr.shape
  obtain ⟨_, hl, hc, ha⟩ := hr.opn
  by_cases h0 : l = []
  · subst h0
    have hfin : Hid (dec (WhenB []) = true) := dec_true (.inl rfl)
    clear hr ha
    go_enter Try.func41, Try.ntmps41
    go_wp2
    go_ret
    exact ⟨ret_bool hfin.out.symm, Below.refl _ _⟩
  have hpos : 0 < l.length := List.length_pos_iff.2 h0
  have e0 : ((l.length : Int) == 0) = false := by simp; omega
  by_cases h1 : l.length = 1
  rotate_left
  · have hfin : Hid (dec (WhenB l) = false) := dec_false fun h => h.elim h0 fun ⟨e, he, _⟩ => h1 (by rw [he]; rfl)
    have e1 : ((l.length : Int) == 1) = false := by simp; omega
    clear hr ha h1 h0
    go_enter Try.func41, Try.ntmps41
    go_wp2
    go_ret
    exact ⟨ret_bool hfin.out.symm, Below.refl _ _⟩
  have e1 : ((l.length : Int) == 1) = true := by simp; omega
  obtain ⟨b, off, rfl, hFb, hel⟩ := ha hpos
  obtain ⟨x, hx⟩ : ∃ x, l = [x] := List.length_eq_one_iff.1 h1
  obtain ⟨ke, oe, ne, se, ae, me, ce, hxe, g0, g1, g2, g3, g4⟩ := hel w rfl 0 hpos
  have hx0 : l[0] = x := by simp [hx]
  rw [hx0] at hxe
  have hk : x.kind = ke := hxe.parts.1
  simp only [Nat.zero_mul, Nat.add_zero] at g0 g1 g2 g3 g4
  have hrd : Hid (∀ W, Below w.heap.size w W → W.cell? ⟨b, off, none⟩ = some (.int .i64 ke) ∧ W.cell? ⟨b, off + 1, none⟩ = some (.int .i64 oe) ∧ W.cell? ⟨b, off + 2, none⟩ = some (.int .i64 ne) ∧ W.cell? ⟨b, off + 3, none⟩ = some (.string se) ∧ W.cell? ⟨b, off + 4, none⟩ = some (.slice ae me ce)) := fun W hW => by
    have hbl := fun j => World.cell?_of_block (w := w) (w' := W) (a := ⟨b, j, none⟩) (hW.block b (hF b hFb))
    exact ⟨(hbl _).trans g0, (hbl _).trans g1, (hbl _).trans g2, (hbl _).trans g3, (hbl _).trans g4⟩
  have HFW := Lib.hid (fun (W : World) (hW : Below w.heap.size w W) => few_calls x F W _ 200 (hF.below hW) (by omega) (by omega) (hxe.below hF hW (Nat.le_refl _)))
  have HRT := Lib.hid (fun (W : World) (hW : Below w.heap.size w W) => rightRef_calls x F W _ (hF.below hW) (hxe.below hF hW (Nat.le_refl _)))
  have hw : Hid (dec (WhenB l) = dec (0 ≤ x.few 200 ∧ RightE x ∧ ke ≠ 2 ∧ ke ≠ 13)) := dec_congr ⟨fun h => h.elim (fun h => absurd h h0) fun ⟨e, he, h⟩ => by rw [hx] at he; cases he; rw [hk] at h; exact h, fun h => .inr ⟨x, hx, by rw [hk]; exact h⟩⟩
  have hll : (0 : Int) < (l.length : Int) := by omega
  clear hr ha h1 h0 hel hxe hx hx0 hk hpos hl hc
  generalize l.length = len at e0 e1 hll
  generalize dec (WhenB l) = r at hw ⊢
  by_cases hf : 0 ≤ x.few 200
  rotate_left
  · have hfin : Hid (r = false) := by show _ = _; rw [hw.out]; exact dec_false fun h => hf h.1
    have hfd : decide (x.few 200 ≥ 0) = false := by simpa using hf
    generalize x.few 200 = xf at HFW hfd
    clear hf
    go_enter Try.func41, Try.ntmps41
    go_wp2_with (go_at_call 8; refine (HFW.out _ (Below.refl _ _)).mono ?_; rintro e1 w1 ⟨rfl, hb1⟩; obtain ⟨g0', g1', g2', g3', g4'⟩ := hrd.out w1 hb1)
    go_ret
    exact ⟨ret_bool hfin.out.symm, hb1⟩
  have hfd : decide (x.few 200 ≥ 0) = true := by simpa using hf
  by_cases hR : RightE x
  rotate_left
  · have hfin : Hid (r = false) := by show _ = _; rw [hw.out]; exact dec_false fun h => hR h.2.1
    rw [dec_false hR] at HRT
    generalize x.few 200 = xf at HFW hfd
    clear hf hR
    go_enter Try.func41, Try.ntmps41
    go_wp2_with (first | (go_at_call 8; refine (HFW.out _ (Below.refl _ _)).mono ?_; rintro e1 w1 ⟨rfl, hb1⟩; obtain ⟨g0', g1', g2', g3', g4'⟩ := hrd.out w1 hb1) | (go_at_call 9; refine (HRT.out _ hb1).mono ?_; rintro e2 w2 ⟨rfl, hb2⟩; have hb12 := hb1.trans (hb2.mono hb1.size); obtain ⟨g0'', -⟩ := hrd.out w2 hb12))
    go_ret
    exact ⟨ret_bool hfin.out.symm, hb12⟩
  rw [dec_true hR] at HRT
  by_cases h2 : ke = 2
  · have hfin : Hid (r = false) := by show _ = _; rw [hw.out]; exact dec_false fun h => h.2.2.1 h2
    have d2 : (ke != 2) = false := by simp [h2]
    generalize x.few 200 = xf at HFW hfd
    clear hf hR h2
    go_enter Try.func41, Try.ntmps41
    go_wp2_with (first | (go_at_call 8; refine (HFW.out _ (Below.refl _ _)).mono ?_; rintro e1 w1 ⟨rfl, hb1⟩; obtain ⟨g0', g1', g2', g3', g4'⟩ := hrd.out w1 hb1) | (go_at_call 9; refine (HRT.out _ hb1).mono ?_; rintro e2 w2 ⟨rfl, hb2⟩; have hb12 := hb1.trans (hb2.mono hb1.size); obtain ⟨g0'', -⟩ := hrd.out w2 hb12))
    go_ret
    exact ⟨ret_bool hfin.out.symm, hb12⟩
  have d2 : (ke != 2) = true := by simpa using h2
  have hfin : Hid (r = (ke != 13)) := by
    show _ = _
    rw [hw.out]
    by_cases h13 : ke = 13
    · rw [dec_false fun h => h.2.2.2 h13]; simp [h13]
    · rw [dec_true ⟨hf, hR, h2, h13⟩]; simp [h13]
  generalize x.few 200 = xf at HFW hfd
  clear hf hR h2
  go_enter Try.func41, Try.ntmps41
  go_wp2_with (first | (go_at_call 8; refine (HFW.out _ (Below.refl _ _)).mono ?_; rintro e1 w1 ⟨rfl, hb1⟩; obtain ⟨g0', g1', g2', g3', g4'⟩ := hrd.out w1 hb1) | (go_at_call 9; refine (HRT.out _ hb1).mono ?_; rintro e2 w2 ⟨rfl, hb2⟩; have hb12 := hb1.trans (hb2.mono hb1.size); obtain ⟨g0'', -⟩ := hrd.out w2 hb12))
  go_ret
  exact ⟨ret_bool hfin.out.symm, hb12⟩
end Go.Proofs.Ytblhpiebheommaa
/- What a table of names tells: plain laws. No program in sight. -/
namespace Go.Proofs.Ytblhpiebheommaa
open Go.RowKit

/-- The first of a name. -/
def findN (t : List NameD) (n : ByteArray) : Option NameD := t.find? (fun x => decide (x.name = n))

/-- The order of strings. -/
def ltS (a b : ByteArray) : Prop := a.data.toList < b.data.toList
/-- The names of a table rise. -/
def Rises (t : List NameD) : Prop := t.Pairwise (fun x y => ltS x.name y.name)

theorem findN_some {t : List NameD} {n : ByteArray} {x : NameD} (h : findN t n = some x) : x ∈ t ∧ x.name = n :=
  ⟨List.mem_of_find?_eq_some h, by have := List.find?_some h; simpa using this⟩
theorem findN_none {t : List NameD} {n : ByteArray} (h : findN t n = none) : ∀ x ∈ t, x.name ≠ n := by
  intro x hx e
  have := List.find?_eq_none.1 h x hx
  simp [e] at this

theorem ltS_irrefl (a : ByteArray) : ¬ ltS a a := List.lt_irrefl _
theorem ltS_trans {a b c : ByteArray} (h : ltS a b) (k : ltS b c) : ltS a c := List.lt_trans h k
theorem bytes_eq {a b : ByteArray} (h : a.data.toList = b.data.toList) : a = b := by
  cases a; cases b; simp at h; rw [h]
theorem ltS_tri (a b : ByteArray) (h1 : ¬ ltS a b) (h2 : ¬ ltS b a) : a = b :=
  bytes_eq (List.le_antisymm h2 h1)

theorem Rises.inj {t : List NameD} (h : Rises t) {x y : NameD} (hx : x ∈ t) (hy : y ∈ t) (e : x.name = y.name) : x = y := by
  induction t with
  | nil => cases hx
  | cons a t ih =>
    obtain ⟨h1, h2⟩ := List.pairwise_cons.1 h
    rcases List.mem_cons.1 hx with rfl | hx'
    · rcases List.mem_cons.1 hy with rfl | hy'
      · rfl
      · have := h1 y hy'; rw [e] at this; exact absurd this (ltS_irrefl _)
    · rcases List.mem_cons.1 hy with rfl | hy'
      · have := h1 x hx'; rw [e] at this; exact absurd this (ltS_irrefl _)
      · exact ih h2 hx' hy'

theorem Rises.find {t : List NameD} (h : Rises t) {x : NameD} (hx : x ∈ t) : findN t x.name = some x := by
  cases hf : findN t x.name with
  | none => exact absurd rfl (findN_none hf x hx)
  | some y =>
    obtain ⟨hy, e⟩ := findN_some hf
    rw [h.inj hx hy e.symm]

theorem Rises.get {t : List NameD} (h : Rises t) {i j : Nat} (hi : i < t.length) (hj : j < t.length) (hij : i < j) : ltS t[i].name t[j].name := List.pairwise_iff_getElem.1 h i j hi hj hij

/-- The place that a search by halves comes to: all ahead of it are less, all from it on are not. -/
theorem found_at {t : List NameD} (h : Rises t) {n : ByteArray} {i : Nat} (h1 : ∀ k (hk : k < t.length), k < i → ltS t[k].name n) (h2 : ∀ k (hk : k < t.length), i ≤ k → ¬ ltS t[k].name n) :
    (∀ (hi : i < t.length), t[i].name = n → findN t n = some t[i]) ∧ ((∀ hi : i < t.length, t[i].name ≠ n) → findN t n = none) := by
  refine ⟨fun hi e => ?_, fun hne => ?_⟩
  · have := h.find (List.getElem_mem hi); rwa [e] at this
  · cases hf : findN t n with
    | none => rfl
    | some y =>
      obtain ⟨hy, e⟩ := findN_some hf
      obtain ⟨k, hk, rfl⟩ := List.getElem_of_mem hy
      by_cases hlt : k < i
      · have := h1 k hk hlt; rw [e] at this; exact absurd this (ltS_irrefl _)
      · have hi : i < t.length := by omega
        by_cases hki : k = i
        · subst hki; exact absurd e (hne hk)
        · have h3 := h.get hi hk (by omega)
          rw [e] at h3
          exact absurd h3 (h2 i hi (Nat.le_refl _))
end Go.Proofs.Ytblhpiebheommaa
/- The walks of clewref15.Find, clewref15.Of, names.Find and names.Of: what a name stands for. -/
namespace Go.Proofs.Ytblhpiebheommaa
open Go.RowKit

/-- What a look-up hands back. -/
def foundV : Option NameD → Value
  | some x => .tuple #[.agg #[.string x.name, .int .i64 x.kind, .int .i64 x.num], .bool true]
  | none => .tuple #[.agg #[.string ⟨#[]⟩, .int .i64 0, .int .i64 0], .bool false]
/-- A call's post: it hands back what the name stands for. -/
def GivesFound (w : World) (o : Option NameD) (e : Ending) (w' : World) : Prop := e = .returned (foundV o) ∧ Below w.heap.size w w'

theorem found_none {P : Program} {k : Nat} {args : Array Value} {w : World} (h : Calls P k args w (GivesFound w none)) : Calls P k args w fun e w' => e = .returned (.tuple #[.agg #[.string ⟨#[]⟩, .int .i64 0, .int .i64 0], .bool false]) ∧ Below w.heap.size w w' := h
theorem found_some {P : Program} {k : Nat} {args : Array Value} {w : World} {x : NameD} (h : Calls P k args w (GivesFound w (some x))) : Calls P k args w fun e w' => e = .returned (.tuple #[.agg #[.string x.name, .int .i64 x.kind, .int .i64 x.num], .bool true]) ∧ Below w.heap.size w w' := h

/-- A box of the call's own, written. -/
theorem three_set {w0 X : World} {b : Nat} {u0 u1 u2 : Value} (hB : Below w0.heap.size w0 X) (hb : w0.heap.size ≤ b) : Below w0.heap.size w0 (((X.setCell ⟨b, 0, none⟩ u0).setCell ⟨b, 1, none⟩ u1).setCell ⟨b, 2, none⟩ u2) :=
  ((hB.setCell (p := ⟨b, 0, none⟩) hb _).setCell (p := ⟨b, 1, none⟩) hb _).setCell (p := ⟨b, 2, none⟩) hb _

theorem beq_str {a b : ByteArray} : (a.toList == b.toList) = decide (a = b) := by
  rw [ByteArray.toList_eq, ByteArray.toList_eq]
  by_cases h : a = b
  · subst h; simp
  · rw [decide_eq_false h, beq_eq_false_iff_ne]; exact fun e => h (bytes_eq e)

set_option maxRecDepth 20000 in
set_option maxHeartbeats 1000000 in
theorem findR_calls (t : List NameD) (n : ByteArray) (F : Nat → Prop) (w : World) (v : Value) (hF : Inn F w) (hr : RdNames F w t v) :
    Calls Try.prog 24 #[v, .string n] w (GivesFound w (findN t n)) := by
  obtain ⟨a, cap, rfl, hl, hc, ha⟩ := hr.opn
  unfold maxLen at hc
  have hpost : Hid (∀ k x (hk : k < t.length), (∀ i (hi : i < t.length), i < k → t[i].name ≠ n) → t[k] = x → x.name = n → findN t n = some x) := fun k x hk h1 e h2 => by
    subst e
    unfold findN
    rw [List.find?_eq_some_iff_getElem]
    exact ⟨by simpa using h2, k, hk, rfl, fun j hj => by simpa using h1 j (by omega) hj⟩
  have hno : Hid ((∀ i (hi : i < t.length), t[i].name ≠ n) → findN t n = none) := fun h => by
    unfold findN
    rw [List.find?_eq_none]
    intro x hx
    obtain ⟨k, hk, rfl⟩ := List.getElem_of_mem hx
    simpa using h k hk
  generalize findN t n = o at hpost hno
  clear hr
  go_enter Try.func24, Try.ntmps24
  go_wp2
  have hB0 : Below w.heap.size w (w.alloc (.cells #[.string ⟨#[]⟩, .int .i64 0, .int .i64 0] 63)) := (Below.refl _ w).alloc (Nat.le_refl _) _
  go_loop [6] (fun i => ∃ (k : Nat), k ≤ t.length ∧ i = .int .i64 k ∧ Hid (∀ i (hi : i < t.length), i < k → t[i].name ≠ n)) (fun i => t.length - (intOf i).toNat)
  case atStart => exact ⟨0, Nat.zero_le _, rfl, fun i _ h => absurd h (by omega)⟩
  case round =>
    obtain ⟨k, hk, rfl, hq⟩ := hrel
    by_cases hlt : k < t.length
    · obtain ⟨b, off, rfl, hFb, hel⟩ := ha (by omega)
      obtain ⟨cs, ⟨h1, h2, h3, rfl⟩, -, hcell⟩ := hel (w.alloc (.cells #[.string ⟨#[]⟩, .int .i64 0, .int .i64 0] 63)) (hB0.block b (hF b hFb)) k hlt
      have g0 := hcell 0 _ rfl
      have g1 := hcell 1 _ rfl
      have g2 := hcell 2 _ rfl
      simp only [Nat.add_zero] at g0
      have hx : Hid (t[k] = t[k]) := rfl
      obtain ⟨x, hx⟩ : ∃ x, x = t[k] := ⟨_, rfl⟩
      rw [← hx] at g0 g1 g2
      have HX := Lib.hid hx
      clear hel hcell ha h1 h2 h3
      by_cases he : x.name = n
      · have e1 : (x.name.toList == n.toList) = true := by rw [beq_str]; simpa using he
        have hfin : Hid (o = some x) := hpost.out k x hlt hq.out hx.symm he
        clear hq hpost hno hx
        subst he
        go_wp2
        exact bodyPost_ret (v := .tuple #[.agg #[.string x.name, .int .i64 x.kind, .int .i64 x.num], .bool true]) (by simp [results, Try.results24, go_sem]) rfl ⟨by rw [hfin.out]; rfl, by first | exact (Below.refl _ w).alloc (Nat.le_refl _) _ | exact three_set hB0 (Nat.le_refl _)⟩
      · have e1 : (x.name.toList == n.toList) = false := by rw [beq_str]; simpa using he
        have hnx : Hid (∀ i (hi : i < t.length), i < k + 1 → t[i].name ≠ n) := fun i hi h => by
          by_cases hik : i = k
          · subst hik; rw [← hx]; exact he
          · exact hq.out i hi (by omega)
        clear hq hpost hno he hx
        go_wp2
        go_round
        case rel => exact ⟨k + 1, by omega, by go_num, hnx⟩
        case measure => simp [intOf]; omega
    · have hfin : Hid (o = none) := hno.out (fun i hi => hq.out i hi (by omega))
      clear hq hpost hno
      go_wp2
      exact bodyPost_ret (v := .tuple #[.agg #[.string ⟨#[]⟩, .int .i64 0, .int .i64 0], .bool false]) (by simp [results, Try.results24, go_sem]) rfl ⟨by rw [hfin.out]; rfl, by first | exact hB0 | exact three_set hB0 (Nat.le_refl _)⟩

/-- The number of a name of a kind: the number, and the error. -/
def ofN (t : List NameD) (kind : Int) (n : ByteArray) : Int × Int :=
  match findN t n with
  | none => (0, 11)
  | some x => if x.kind = kind then (x.num, 0) else (0, 12)

def GivesTwo (w : World) (p : Int × Int) (e : Ending) (w' : World) : Prop := e = .returned (.tuple #[.int .i64 p.1, .int .i64 p.2]) ∧ Below w.heap.size w w'

set_option maxRecDepth 20000 in
set_option maxHeartbeats 1000000 in
theorem ofR_calls (t : List NameD) (kind : Int) (n : ByteArray) (F : Nat → Prop) (w : World) (v : Value) (hF : Inn F w) (hr : RdNames F w t v) :
    Calls Try.prog 62 #[v, .int .i64 kind, .string n] w (GivesTwo w (ofN t kind n)) := by
  have hf := findR_calls t n F w v hF hr
  obtain ⟨a, cap, rfl⟩ := hr.shape
  clear hr
  cases ho : findN t n with
  | none =>
    rw [ho] at hf
    have HC := Lib.hid (found_none hf)
    have hfin : Hid (ofN t kind n = (0, 11)) := by show _ = _; unfold ofN; rw [ho]
    clear hf ho
    go_enter Try.func62, Try.ntmps62
    go_wp2_with (go_at_call 24; refine HC.out.mono ?_; rintro e w1 ⟨rfl, hb⟩)
    go_ret2
    exact ⟨by rw [hfin.out]; rfl, (hb.alloc hb.size _)⟩
  | some x =>
    rw [ho] at hf
    have HC := Lib.hid (found_some hf)
    by_cases hk : x.kind = kind
    · have hfin : Hid (ofN t kind n = (x.num, 0)) := by show _ = _; unfold ofN; rw [ho]; simp [hk]
      have e1 : (x.kind != kind) = false := by simpa using hk
      clear hf ho hk
      go_enter Try.func62, Try.ntmps62
      go_wp2_with (go_at_call 24; refine HC.out.mono ?_; rintro e w1 ⟨rfl, hb⟩)
      go_ret2
      exact ⟨by rw [hfin.out]; rfl, (hb.alloc hb.size _)⟩
    · have hfin : Hid (ofN t kind n = (0, 12)) := by show _ = _; unfold ofN; rw [ho]; simp [hk]
      have e1 : (x.kind != kind) = true := by simpa using hk
      clear hf ho hk
      go_enter Try.func62, Try.ntmps62
      go_wp2_with (go_at_call 24; refine HC.out.mono ?_; rintro e w1 ⟨rfl, hb⟩)
      go_ret2
      exact ⟨by rw [hfin.out]; rfl, (hb.alloc hb.size _)⟩

theorem isNaN_calls (s : ByteArray) (w : World) : Calls Try.prog 97 #[.string s] w (Same0 w (.bool false)) := by
  go_enter Try.func97, Try.ntmps97
  go_wp2
  go_ret
  exact ⟨by simp, rfl⟩

/-- What Go's cmp.Compare says of two strings. -/
noncomputable def cmpS (a b : ByteArray) : Int := if dec (ltS a b) = true then -1 else if dec (ltS b a) = true then 1 else 0

theorem less_eq (a b : ByteArray) : Op.bytesLess a.toList b.toList = dec (ltS a b) := by
  rw [bytesLess_eq, ByteArray.toList_eq, ByteArray.toList_eq]
  by_cases h : a.data.toList < b.data.toList
  · rw [dec_true (show ltS a b from h)]; simpa using h
  · rw [dec_false (show ¬ ltS a b from h)]; simpa using h

theorem compare_calls (a b : ByteArray) (w : World) : Calls Try.prog 90 #[.string a, .string b] w (Same0 w (.int .i64 (cmpS a b))) := by
  have H1 := Lib.hid (isNaN_calls a w)
  have H2 := Lib.hid (isNaN_calls b w)
  by_cases h1 : ltS a b
  · have e1 : Op.bytesLess a.toList b.toList = true := by rw [less_eq]; exact dec_true h1
    have hfin : Hid (cmpS a b = -1) := by show _ = _; unfold cmpS; rw [if_pos (dec_true h1)]
    clear h1
    go_enter Try.func90, Try.ntmps90
    go_wp2_with (first | (go_at_call 97; (with_reducible refine H1.out.mono ?_); rintro e w1 ⟨rfl, rfl⟩) | (go_at_call 97; (with_reducible refine H2.out.mono ?_); rintro e w1 ⟨rfl, rfl⟩))
    go_ret
    exact ⟨ret_int hfin.out.symm, rfl⟩
  have e1 : Op.bytesLess a.toList b.toList = false := by rw [less_eq]; exact dec_false h1
  by_cases h2 : ltS b a
  · have e2 : (a.toList == b.toList) = false := by rw [beq_str]; simp; rintro rfl; exact ltS_irrefl _ h2
    have hfin : Hid (cmpS a b = 1) := by show _ = _; unfold cmpS; rw [if_neg (by rw [dec_false h1]; decide), if_pos (dec_true h2)]
    clear h1 h2
    go_enter Try.func90, Try.ntmps90
    go_wp2_with (first | (go_at_call 97; (with_reducible refine H1.out.mono ?_); rintro e w1 ⟨rfl, rfl⟩) | (go_at_call 97; (with_reducible refine H2.out.mono ?_); rintro e w1 ⟨rfl, rfl⟩))
    go_ret
    exact ⟨ret_int hfin.out.symm, rfl⟩
  · have e2 : (a.toList == b.toList) = true := by rw [beq_str]; simpa using ltS_tri a b h1 h2
    have hfin : Hid (cmpS a b = 0) := by show _ = _; unfold cmpS; rw [if_neg (by rw [dec_false h1]; decide), if_neg (by rw [dec_false h2]; decide)]
    clear h1 h2
    go_enter Try.func90, Try.ntmps90
    go_wp2_with (first | (go_at_call 97; (with_reducible refine H1.out.mono ?_); rintro e w1 ⟨rfl, rfl⟩) | (go_at_call 97; (with_reducible refine H2.out.mono ?_); rintro e w1 ⟨rfl, rfl⟩))
    go_ret
    exact ⟨ret_int hfin.out.symm, rfl⟩

theorem find1_calls (x : NameD) (n : ByteArray) (w : World) : Calls Try.prog 89 #[.agg #[.string x.name, .int .i64 x.kind, .int .i64 x.num], .string n] w (Gives w (.int .i64 (cmpS x.name n))) := by
  have HC := Lib.hid (fun w => compare_calls x.name n w)
  go_enter Try.func89, Try.ntmps89
  go_wp2_with (go_at_call 90; (with_reducible refine (HC.out _).mono ?_); rintro e w1 ⟨rfl, rfl⟩)
  go_ret
  exact ⟨rfl, (Below.refl _ _).alloc (Nat.le_refl _) _⟩

theorem cmpS_lt {a b : ByteArray} (h : ltS a b) : cmpS a b = -1 := by unfold cmpS; rw [if_pos (dec_true h)]
theorem cmpS_eq (a : ByteArray) : cmpS a a = 0 := by unfold cmpS; rw [if_neg (by rw [dec_false (ltS_irrefl a)]; decide), if_neg (by rw [dec_false (ltS_irrefl a)]; decide)]
theorem cmpS_gt {a b : ByteArray} (h : ltS b a) : cmpS a b = 1 := by
  unfold cmpS
  rw [if_neg (by rw [dec_false (fun k => ltS_irrefl _ (ltS_trans h k))]; decide), if_pos (dec_true h)]

/-- Where a search by halves comes to. -/
def GivesAt (t : List NameD) (n : ByteArray) (w : World) (e : Ending) (w' : World) : Prop :=
  ∃ (i : Nat) (ok : Bool), e = .returned (.tuple #[.int .i64 i, .bool ok]) ∧ (ok = true → ∃ (hi : i < t.length), findN t n = some t[i]) ∧ (ok = false → findN t n = none) ∧ Below w.heap.size w w'

theorem half_mid {i j h : Nat} (hh : h = (i + j) / 2) (hlt : i < j) : i ≤ h ∧ h < j := by omega

set_option maxRecDepth 20000 in
set_option maxHeartbeats 1000000 in
theorem bsearch_calls (t : List NameD) (n : ByteArray) (F : Nat → Prop) (w : World) (v : Value) (hF : Inn F w) (hr : RdNames F w t v) (hri : Rises t) (ht : t.length ≤ 1000000000000) :
    Calls Try.prog 88 #[v, .string n, .func (.func 89) #[] #[]] w (GivesAt t n w) := by
  obtain ⟨a, cap, rfl, hl, hc, ha⟩ := hr.opn
  unfold maxLen at hc
  have HR := Lib.hid hri
  clear hr hri
  go_enter Try.func88, Try.ntmps88
  go_wp2
  go_loopw [9, 10] (fun i j wr => ∃ (x y : Nat), x ≤ y ∧ y ≤ t.length ∧ i = .int .i64 x ∧ j = .int .i64 y ∧ Hid (∀ k (hk : k < t.length), k < x → ltS t[k].name n) ∧ Hid (∀ k (hk : k < t.length), y ≤ k → ¬ ltS t[k].name n) ∧ Below w.heap.size w wr) (fun i j _ => (intOf j).toNat - (intOf i).toNat)
  case atStart => exact ⟨0, t.length, Nat.zero_le _, Nat.le_refl _, rfl, rfl, fun k _ h => absurd h (by omega), fun k hk h => absurd h (by omega), Below.refl _ _⟩
  case round =>
    obtain ⟨x, y, hxy, hy, rfl, rfl, hq1, hq2, hB⟩ := hrel
    by_cases hlt : x < y
    · obtain ⟨b, off, rfl, hFb, hel⟩ := ha (by omega)
      obtain ⟨h, hh⟩ : ∃ h : Nat, h = (x + y) / 2 := ⟨_, rfl⟩
      have hm := half_mid hh hlt
      have he : ((x : Int) + (y : Int)) / 2 = (h : Int) := by omega
      clear hh
      have hht : h < t.length := by omega
      obtain ⟨cs, ⟨h1, h2, h3, rfl⟩, -, hcell⟩ := hel wr (hB.block b (hF b hFb)) h hht
      have g0 := hcell 0 _ rfl
      have g1 := hcell 1 _ rfl
      have g2 := hcell 2 _ rfl
      simp only [Nat.add_zero] at g0
      have hcall := find1_calls t[h] n wr
      clear hel hcell h1 h2 h3
      by_cases hls : ltS t[h].name n
      · rw [cmpS_lt hls] at hcall
        have HC := Lib.hid hcall
        have hnx : Hid (∀ k (hk : k < t.length), k < h + 1 → ltS t[k].name n) := fun k hk hlk => by
          by_cases hkh : k = h
          · subst hkh; exact hls
          · exact ltS_trans (HR.out.get hk hht (by omega)) hls
        clear hcall hls hq1 ha
        go_wp2_with (go_at_call 89; refine HC.out.mono ?_; rintro e w1 ⟨rfl, hb⟩)
        go_roundw
        case rel => exact ⟨h + 1, y, by omega, by omega, by go_num, rfl, hnx, hq2, below_on hB (Nat.le_refl _) hb⟩
        case measure => simp [intOf]; omega
      · have hnx : Hid (∀ k (hk : k < t.length), h ≤ k → ¬ ltS t[k].name n) := fun k hk hlk hk2 => by
          by_cases hkh : k = h
          · subst hkh; exact hls hk2
          · exact hls (ltS_trans (HR.out.get hht hk (by omega)) hk2)
        have hge : Hid (cmpS t[h].name n = 0 ∨ cmpS t[h].name n = 1) := by
          show _ ∨ _
          by_cases hgt : ltS n t[h].name
          · exact .inr (cmpS_gt hgt)
          · rw [ltS_tri _ _ hls hgt]; exact .inl (cmpS_eq n)
        generalize cmpS t[h].name n = z at hcall hge
        have hz : 0 ≤ z := by rcases hge.out with h | h <;> omega
        have HC := Lib.hid hcall
        clear hcall hls hq2 ha hge
        go_wp2_with (go_at_call 89; refine HC.out.mono ?_; rintro e w1 ⟨rfl, hb⟩)
        go_roundw
        case rel => exact ⟨x, h, by omega, by omega, rfl, rfl, hq1, hnx, below_on hB (Nat.le_refl _) hb⟩
        case measure => simp [intOf]; omega
    · have hxy' : x = y := by omega
      subst hxy'
      have hat := found_at HR.out hq1.out hq2.out
      clear hlt hq1 hq2 hxy
      by_cases hlt : x < t.length
      · obtain ⟨b, off, rfl, hFb, hel⟩ := ha (by omega)
        obtain ⟨cs, ⟨h1, h2, h3, rfl⟩, -, hcell⟩ := hel wr (hB.block b (hF b hFb)) x hlt
        have g0 := hcell 0 _ rfl
        have g1 := hcell 1 _ rfl
        have g2 := hcell 2 _ rfl
        simp only [Nat.add_zero] at g0
        have hcall := find1_calls t[x] n wr
        clear hel hcell h1 h2 h3 ha
        by_cases hne : t[x].name = n
        · have hfin : Hid (findN t n = some t[x]) := hat.1 hlt hne
          rw [hne, cmpS_eq] at hcall
          rw [hne] at g0
          have HC := Lib.hid hcall
          clear hcall hat hne
          go_wp2_with (go_at_call 89; refine HC.out.mono ?_; rintro e w1 ⟨rfl, hb⟩)
          go_ret2
          exact ⟨x, true, rfl, fun _ => ⟨hlt, hfin.out⟩, (fun h => by cases h), below_on hB (Nat.le_refl _) hb⟩
        · have hfin : Hid (findN t n = none) := hat.2 (fun _ => hne)
          have hge : Hid (cmpS t[x].name n ≠ 0) := by
            show _ ≠ _
            by_cases h1 : ltS t[x].name n
            · rw [cmpS_lt h1]; decide
            · by_cases h2 : ltS n t[x].name
              · rw [cmpS_gt h2]; decide
              · exact absurd (ltS_tri _ _ h1 h2) hne
          generalize cmpS t[x].name n = z at hcall hge
          have e1 : (z == 0) = false := by rw [beq_eq_false_iff_ne]; exact hge.out
          have HC := Lib.hid hcall
          clear hcall hat hne
          go_wp2_with (go_at_call 89; refine HC.out.mono ?_; rintro e w1 ⟨rfl, hb⟩)
          go_ret2
          exact ⟨x, false, rfl, (fun h => by cases h), fun _ => hfin.out, below_on hB (Nat.le_refl _) hb⟩
      · have hfin : Hid (findN t n = none) := hat.2 (fun h => absurd h hlt)
        clear hat ha
        go_wp2_with fail
        go_ret2
        exact ⟨x, false, rfl, (fun h => by cases h), fun _ => hfin.out, hB⟩

set_option maxRecDepth 20000 in
set_option maxHeartbeats 1000000 in
theorem findT_calls (t : List NameD) (n : ByteArray) (F : Nat → Prop) (w : World) (v : Value) (hF : Inn F w) (hr : RdNames F w t v) (hri : Rises t) (ht : t.length ≤ 1000000000000) :
    Calls Try.prog 75 #[v, .string n] w (GivesFound w (findN t n)) := by
  have hb := fun W (hW : Below w.heap.size w W) => bsearch_calls t n F W v (hF.below hW) (hr.below hF hW (Nat.le_refl _)) hri ht
  obtain ⟨a, cap, rfl, hl, hc, ha⟩ := hr.opn
  unfold maxLen at hc
  have HC := Lib.hid hb
  have hB0 : Below w.heap.size w (w.alloc (.cells #[.string ⟨#[]⟩, .int .i64 0, .int .i64 0] 63)) := (Below.refl _ w).alloc (Nat.le_refl _) _
  clear hb hr hri
  cases ho : findN t n with
  | none =>
    have hbn : ∀ W, Below w.heap.size w W → Calls Try.prog 88 #[.slice a t.length cap, .string n, .func (.func 89) #[] #[]] W (fun e w' => ∃ i : Nat, e = .returned (.tuple #[.int .i64 i, .bool false]) ∧ Below W.heap.size W w') := fun W hW =>
      (HC.out W hW).mono fun e w' ⟨i, ok, h1, h2, h3, h4⟩ => by
        cases ok with
        | false => exact ⟨i, h1, h4⟩
        | true => obtain ⟨hi, h5⟩ := h2 rfl; rw [ho] at h5; cases h5
    have HN := Lib.hid hbn
    clear hbn HC ho
    go_enter Try.func75, Try.ntmps75
    go_wp2_with (go_at_call 88; refine (HN.out _ hB0).mono ?_; rintro e w1 ⟨i, rfl, hb⟩; obtain ⟨hcl, hfz⟩ := bcell hb; have hzz := one_new hb)
    have hB1 := below_on hB0 (Nat.le_refl _) hb
    exact bodyPost_ret (v := .tuple #[.agg #[.string ⟨#[]⟩, .int .i64 0, .int .i64 0], .bool false]) (by simp [results, Try.results75, go_sem, hcl]) rfl ⟨rfl, by first | exact hB1 | exact three_set hB1 (Nat.le_refl _)⟩
  | some x =>
    have hbn : ∀ W, Below w.heap.size w W → Calls Try.prog 88 #[.slice a t.length cap, .string n, .func (.func 89) #[] #[]] W (fun e w' => ∃ (i : Nat) (hi : i < t.length), e = .returned (.tuple #[.int .i64 i, .bool true]) ∧ t[i] = x ∧ Below W.heap.size W w') := fun W hW =>
      (HC.out W hW).mono fun e w' ⟨i, ok, h1, h2, h3, h4⟩ => by
        cases ok with
        | false => have := h3 rfl; rw [ho] at this; cases this
        | true => obtain ⟨hi, h5⟩ := h2 rfl; rw [ho] at h5; exact ⟨i, hi, h1, (Option.some.inj h5).symm, h4⟩
    have HN := Lib.hid hbn
    obtain ⟨b, off, rfl, hFb, hel⟩ := ha (by obtain ⟨h1, -⟩ := findN_some ho; exact List.length_pos_of_mem h1)
    have HE := Lib.hid hel
    clear hbn HC ho ha hel
    go_enter Try.func75, Try.ntmps75
    go_wp2_with (go_at_call 88; refine (HN.out _ hB0).mono ?_; rintro e w1 ⟨i, hi, rfl, hx, hb⟩; obtain ⟨hcl, hfz⟩ := bcell hb; have hzz := one_new hb; have hB1 := below_on hB0 (Nat.le_refl _) hb; obtain ⟨cs, ⟨h1, h2, h3, rfl⟩, -, hcell⟩ := HE.out w1 (hB1.block b (hF b hFb)) i hi; have g0 := hcell 0 _ rfl; have g1 := hcell 1 _ rfl; have g2 := hcell 2 _ rfl; simp only [Nat.add_zero] at g0; rw [hx] at g0 g1 g2; clear hx hcell h1 h2 h3)
    exact bodyPost_ret (v := .tuple #[.agg #[.string x.name, .int .i64 x.kind, .int .i64 x.num], .bool true]) (by simp [results, Try.results75, go_sem, hcl]) rfl ⟨rfl, by first | exact hB1 | exact three_set hB1 (Nat.le_refl _)⟩
end Go.Proofs.Ytblhpiebheommaa
