/- The walks of kinds' checker: of, local, stands. What is wrong is thrown. -/
import Derived.Test.YtblhpiebheommaaGreatKindsChecksPart7
import Derived.Test.YtblhpiebheommaaGreatKindsChecksPart3
import Derived.Test.YtblhpiebheommaaGreatKindsChecksPart5
import Derived.Test.YtblhpiebheommaaGreatKindsChecksPart4
namespace Go.Proofs.YtblhpiebheommaaGreat
open Go.RowKit

/-- What is wrong, as it is thrown. -/
def wrongV (er : Int) (nm : ByteArray) : Value := .iface 104 (.agg #[.int .i64 er, .string nm])
/-- A call's post: it throws. -/
def Throws (w : World) (er : Int) (nm : ByteArray) (e : Ending) (w' : World) : Prop := e = .panicked [{ v := wrongV er nm, recovered := false }] ∧ Below w.heap.size w w'

/-- The checker's cell that holds the table of names. -/
def CkT (F : Nat → Prop) (w : World) (B : Nat) (t : List NameD) : Prop := B < w.heap.size ∧ ∃ v, w.cell? ⟨B, 0, none⟩ = some v ∧ RdNames F w t v
/-- The checker's cell that holds the locals. -/
def CkL (F : Nat → Prop) (w : World) (B : Nat) (l : List ByteArray) : Prop := B < w.heap.size ∧ ∃ v, w.cell? ⟨B, 14, none⟩ = some v ∧ RdStrs F w l v
theorem CkT.below {F : Nat → Prop} {w w' : World} {B : Nat} {t : List NameD} (h : CkT F w B t) (hF : Inn F w) (hb : Below w.heap.size w w') : CkT F w' B t := by
  obtain ⟨h1, v, h2, h3⟩ := h
  exact ⟨Nat.lt_of_lt_of_le h1 hb.size, v, by rw [hb.cell (p := ⟨B, 0, none⟩) h1]; exact h2, h3.below hF hb (Nat.le_refl _)⟩
theorem CkL.below {F : Nat → Prop} {w w' : World} {B : Nat} {t : List ByteArray} (h : CkL F w B t) (hF : Inn F w) (hb : Below w.heap.size w w') : CkL F w' B t := by
  obtain ⟨h1, v, h2, h3⟩ := h
  exact ⟨Nat.lt_of_lt_of_le h1 hb.size, v, by rw [hb.cell (p := ⟨B, 14, none⟩) h1]; exact h2, h3.below hF hb (Nat.le_refl _)⟩

/-- A call's post: where nothing is wrong it hands back v; else what is wrong is thrown. -/
def Judged (w : World) (p : Int × ByteArray) (v : Value) (e : Ending) (w' : World) : Prop :=
  (p.1 = 0 → e = .returned v) ∧ (p.1 ≠ 0 → e = .panicked [{ v := wrongV p.1 p.2, recovered := false }]) ∧ Below w.heap.size w w'
theorem judged_ok {P : Program} {k : Nat} {args : Array Value} {w : World} {p : Int × ByteArray} {v : Value} (h : Calls P k args w (Judged w p v)) (hp : p.1 = 0) : Calls P k args w fun e w' => e = .returned v ∧ Below w.heap.size w w' := h.mono fun _ _ ⟨h1, _, h3⟩ => ⟨h1 hp, h3⟩
theorem judged_bad {P : Program} {k : Nat} {args : Array Value} {w : World} {p : Int × ByteArray} {v : Value} (h : Calls P k args w (Judged w p v)) (hp : p.1 ≠ 0) : Calls P k args w fun e w' => e = .panicked [{ v := .iface 104 (.agg #[.int .i64 p.1, .string p.2]), recovered := false }] ∧ Below w.heap.size w w' := h.mono fun _ _ ⟨_, h2, h3⟩ => ⟨h2 hp, h3⟩
theorem Judged.fine {w w' : World} {p : Int × ByteArray} {v : Value} {e : Ending} (hp : p.1 = 0) (he : e = .returned v) (hb : Below w.heap.size w w') : Judged w p v e w' := ⟨fun _ => he, fun h => absurd hp h, hb⟩
theorem Judged.thrown {w w' : World} {p : Int × ByteArray} {v : Value} {e : Ending} {er : Int} {nm : ByteArray} (hp : p = (er, nm)) (h0 : er ≠ 0) (he : e = .panicked [{ v := .iface 104 (.agg #[.int .i64 er, .string nm]), recovered := false }]) (hb : Below w.heap.size w w') : Judged w p v e w' := by
  subst hp; exact ⟨fun h => absurd h h0, fun _ => he, hb⟩

def fineW : Int × ByteArray := (0, ⟨#[]⟩)
/-- What is wrong with a name of a kind. -/
def ofW (t : List NameD) (kind : Int) (n : ByteArray) : Int × ByteArray := if (ofN t kind n).2 = 0 then fineW else ((ofN t kind n).2, n)

set_option maxRecDepth 20000 in
set_option maxHeartbeats 1000000 in
theorem of_calls (t : List NameD) (kind : Int) (n : ByteArray) (F : Nat → Prop) (w : World) (B : Nat) (hF : Inn F w) (hc : CkT F w B t) (hri : Rises t) (ht : t.length ≤ 1000000000000) :
    Calls Tryz.prog 66 #[.pointer (some ⟨B, 0, none⟩), .int .i64 kind, .string n] w (Judged w (ofW t kind n) (.int .i64 (ofN t kind n).1)) := by
  obtain ⟨hB, v, hv, hr⟩ := hc
  have hf := ofT_calls t kind n F w v hF hr hri ht
  unfold ofW
  generalize ofN t kind n = p at hf ⊢
  obtain ⟨p1, p2⟩ := p
  have HC := Lib.hid hf
  obtain ⟨a, cap, rfl⟩ := hr.shape
  clear hf hr hri
  by_cases he : p2 = 0
  · subst he
    go_enter Tryz.func66, Tryz.ntmps66
    go_wp2_with (go_at_call 88; refine HC.out.mono ?_; rintro e w1 ⟨rfl, hb⟩)
    go_ret
    exact Judged.fine (by simp [fineW]) rfl hb
  · have e0 : (p2 != 0) = true := by simpa using he
    have hp : Hid ((if p2 = 0 then fineW else (p2, n)) = (p2, n)) := if_neg he
    have HE := Lib.hid he
    clear he
    generalize (if p2 = 0 then fineW else (p2, n)) = r at hp ⊢
    go_enter Tryz.func66, Tryz.ntmps66
    go_wp2_with (go_at_call 88; refine HC.out.mono ?_; rintro e w1 ⟨rfl, hb⟩)
    exact ⟨rfl, Judged.thrown (er := p2) (nm := n) hp.out HE.out rfl hb⟩

set_option maxRecDepth 20000 in
set_option maxHeartbeats 1000000 in
theorem local_calls (l : List ByteArray) (n : ByteArray) (F : Nat → Prop) (w : World) (B : Nat) (hc : CkL F w B l) :
    Calls Tryz.prog 87 #[.pointer (some ⟨B, 0, none⟩), .string n] w (Same0 w (.bool (dec (n ∈ l)))) := by
  obtain ⟨hB, v, hv, hr⟩ := hc
  obtain ⟨a, cap, rfl, hl, hc, ha⟩ := hr.opn
  unfold maxLen at hc
  have hyes : Hid (n ∈ l → dec (n ∈ l) = true) := fun h => dec_true h
  have hno : Hid ((∀ i (hi : i < l.length), l[i] ≠ n) → dec (n ∈ l) = false) := fun h => by
    refine dec_false fun hm => ?_
    obtain ⟨i, hi, e⟩ := List.getElem_of_mem hm
    exact h i hi e
  generalize dec (n ∈ l) = r at hyes hno ⊢
  clear hr
  go_enter Tryz.func87, Tryz.ntmps87
  go_wp2
  go_loop [12] (fun i => ∃ (k : Nat), k ≤ l.length ∧ i = .int .i64 k ∧ Hid (∀ i (hi : i < l.length), i < k → l[i] ≠ n)) (fun i => l.length - (intOf i).toNat)
  case atStart => exact ⟨0, Nat.zero_le _, rfl, fun i _ h => absurd h (by omega)⟩
  case round =>
    obtain ⟨k, hk, rfl, hq⟩ := hrel
    by_cases hlt : k < l.length
    · obtain ⟨b, off, rfl, hFb, hel⟩ := ha (by omega)
      obtain ⟨cs, ⟨h1, rfl⟩, -, hcell⟩ := hel w rfl k hlt
      have g0 := hcell 0 _ rfl
      simp only [Nat.add_zero, Nat.mul_one] at g0
      obtain ⟨x, hx⟩ : ∃ x, x = l[k] := ⟨_, rfl⟩
      rw [← hx] at g0
      have hm : x ∈ l := by rw [hx]; exact List.getElem_mem hlt
      have HX := Lib.hid hx
      clear hel hcell ha h1 hx
      by_cases he : x = n
      · subst he
        have hfin := Lib.hid (hyes.out hm)
        clear hq hyes hno hm
        go_wp2
        go_ret
        exact ⟨ret_bool hfin.out.symm, rfl⟩
      · have e1 : (x.toList == n.toList) = false := by rw [beq_str]; simpa using he
        have hnx : Hid (∀ i (hi : i < l.length), i < k + 1 → l[i] ≠ n) := fun i hi h => by
          by_cases hik : i = k
          · subst hik; rw [← HX.out]; exact he
          · exact hq.out i hi (by omega)
        clear hq hyes hno he hm
        go_wp2
        go_round
        case rel => exact ⟨k + 1, by omega, by go_num, hnx⟩
        case measure => simp [intOf]; omega
    · have hfin := Lib.hid (hno.out (fun i hi => hq.out i hi (by omega)))
      clear hq hyes hno
      go_wp2
      go_ret
      exact ⟨ret_bool hfin.out.symm, rfl⟩

/-- An int. -/
def Holds.int : Holds Int := ⟨fun _ _ x cs => I64 x ∧ cs = [.int .i64 x], fun _ _ h => h⟩

/-- What is wrong with a name that must be a local, or of one of some kinds. -/
noncomputable def eitherW (t : List NameD) (locals : List ByteArray) (ks : List Int) (n : ByteArray) : Int × ByteArray :=
  if dec (n ∈ locals) = true then fineW else
  match findN t n with
  | none => (11, n)
  | some x => if x.kind ∈ ks then fineW else (12, n)

set_option maxRecDepth 20000 in
set_option maxHeartbeats 2000000 in
theorem stands_calls (t : List NameD) (l : List ByteArray) (ks : List Int) (n : ByteArray) (F G : Nat → Prop) (w : World) (B : Nat) (kv : Value) (hF : Inn F w) (hc : CkT F w B t) (hcl : CkL F w B l) (hG : Inn G w) (hks : RdL Holds.int 1 G w ks kv) (hri : Rises t) (ht : t.length ≤ 1000000000000) :
    Calls Tryz.prog 65 #[.pointer (some ⟨B, 0, none⟩), .string n, kv] w (Judged w (eitherW t l ks n) (.tuple #[])) := by
  have hloc := local_calls l n F w B hcl
  obtain ⟨hB, v, hv, hr⟩ := hc
  have hfd := findT_calls t n F w v hF hr hri ht
  obtain ⟨a, cap, rfl⟩ := hr.shape
  obtain ⟨ka, kcap, rfl, kl, kc, ha⟩ := hks.opn
  unfold maxLen at kc
  unfold eitherW
  by_cases hm : n ∈ l
  · rw [dec_true hm] at hloc
    have HL := Lib.hid hloc
    rw [if_pos (dec_true hm)]
    clear hloc hm hfd hr hri hks ha
    go_enter Tryz.func65, Tryz.ntmps65
    go_wp2_with (go_at_call 87; refine HL.out.mono ?_; rintro e w1 ⟨rfl, rfl⟩)
    go_end0
    exact Judged.fine rfl rfl (Below.refl _ _)
  rw [dec_false hm] at hloc
  rw [if_neg (by rw [dec_false hm]; decide)]
  have HL := Lib.hid hloc
  clear hloc hm
  cases ho : findN t n with
  | none =>
    rw [ho] at hfd
    have HD := Lib.hid (found_none hfd)
    clear ho hfd hr hri hks ha
    go_enter Tryz.func65, Tryz.ntmps65
    go_wp2_with (first | (go_at_call 87; refine HL.out.mono ?_; rintro e w1 ⟨rfl, rfl⟩) | (go_at_call 76; refine HD.out.mono ?_; rintro e w1 ⟨rfl, hb⟩))
    exact ⟨rfl, Judged.thrown rfl (by decide) rfl (hb.alloc hb.size _)⟩
  | some x =>
    rw [ho] at hfd
    have HD := Lib.hid (found_some hfd)
    have hyes : Hid (x.kind ∈ ks → ((if x.kind ∈ ks then fineW else (12, n)) : Int × ByteArray) = fineW) := fun h => if_pos h
    have hno : Hid ((∀ i (hi : i < ks.length), ks[i] ≠ x.kind) → ((if x.kind ∈ ks then fineW else (12, n)) : Int × ByteArray) = (12, n)) := fun h => if_neg (fun hm => by
      obtain ⟨i, hi, e⟩ := List.getElem_of_mem hm
      exact h i hi e)
    show Calls _ _ _ _ (Judged w (if x.kind ∈ ks then fineW else (12, n)) (.tuple #[]))
    generalize (if x.kind ∈ ks then fineW else (12, n) : Int × ByteArray) = r at hyes hno ⊢
    clear ho hfd hr hri hks
    go_enter Tryz.func65, Tryz.ntmps65
    go_wp2_with (first | (go_at_call 87; refine HL.out.mono ?_; rintro e w1 ⟨rfl, rfl⟩) | (go_at_call 76; refine HD.out.mono ?_; rintro e w1 ⟨rfl, hb⟩))
    have hB1 : Below w.heap.size w (w1.alloc (.cells #[.string x.name, .int .i64 x.kind, .int .i64 x.num] 63)) := hb.alloc hb.size _
    have k1 : (w1.alloc (.cells #[.string x.name, .int .i64 x.kind, .int .i64 x.num] 63)).cell? ⟨w1.heap.size, 1, none⟩ = some (.int .i64 x.kind) := by simp
    generalize w1.alloc (.cells #[.string x.name, .int .i64 x.kind, .int .i64 x.num] 63) = W1 at hB1 k1 ⊢
    go_loop [29] (fun i => ∃ (k : Nat), k ≤ ks.length ∧ i = .int .i64 k ∧ Hid (∀ i (hi : i < ks.length), i < k → ks[i] ≠ x.kind)) (fun i => ks.length - (intOf i).toNat)
    case atStart => exact ⟨0, Nat.zero_le _, rfl, fun i _ h => absurd h (by omega)⟩
    case round =>
      obtain ⟨k, hk, rfl, hq⟩ := hrel
      by_cases hlt : k < ks.length
      · obtain ⟨b, off, rfl, hGb, hel⟩ := ha (by omega)
        obtain ⟨cs, ⟨h1, rfl⟩, -, hcell⟩ := hel W1 (hB1.block b (hG b hGb)) k hlt
        have g0 := hcell 0 _ rfl
        simp only [Nat.add_zero, Nat.mul_one] at g0
        obtain ⟨y, hy⟩ : ∃ y, y = ks[k] := ⟨_, rfl⟩
        rw [← hy] at g0
        have hm : y ∈ ks := by rw [hy]; exact List.getElem_mem hlt
        have HX := Lib.hid hy
        clear hel hcell ha h1 hy
        by_cases he : x.kind = y
        · subst he
          have hfin := Lib.hid (hyes.out hm)
          clear hq hyes hno hm
          go_wp2
          go_end0
          exact Judged.fine (by rw [hfin.out]; rfl) rfl hB1
        · have e1 : (x.kind == y) = false := by simpa using he
          have hnx : Hid (∀ i (hi : i < ks.length), i < k + 1 → ks[i] ≠ x.kind) := fun i hi h => by
            by_cases hik : i = k
            · subst hik; rw [← HX.out]; exact fun h => he h.symm
            · exact hq.out i hi (by omega)
          clear hq hyes hno he hm
          go_wp2
          go_round
          case rel => exact ⟨k + 1, by omega, by go_num, hnx⟩
          case measure => simp [intOf]; omega
      · have hfin := Lib.hid (hno.out (fun i hi => hq.out i hi (by omega)))
        clear hq hyes hno
        go_wp2
        exact ⟨rfl, Judged.thrown hfin.out (by decide) rfl hB1⟩
end Go.Proofs.YtblhpiebheommaaGreat
/- The walks of tree.name, clewref10.name and tree.exprHas. -/
namespace Go.Proofs.YtblhpiebheommaaGreat
open Go.RowKit Go.Sort

/-- A name that is no keyword. -/
def IsNm (s : ByteArray) : Prop := IsName s ∧ ¬ IsKey s


set_option maxHeartbeats 400000 in
theorem nameR_calls (s : ByteArray) (w : World) (hs : s.size ≤ maxLen) : Calls Tryz.prog 84 #[.string s] w (Same0 w (.bool (dec (IsNm s)))) := by
  have h1 := isNameR_calls s w hs
  by_cases hn : IsName s
  · have h2 := keyR_calls s w hs
    have e1 : Hid (dec (IsNm s) = !dec (IsKey s)) := by
      show dec (IsNm s) = _
      by_cases hk : IsKey s
      · rw [dec_true hk, dec_false (fun h => h.2 hk)]; rfl
      · rw [dec_false hk, dec_true ⟨hn, hk⟩]; rfl
    rw [dec_true hn] at h1
    have H1 := Lib.hid h1
    have H2 := Lib.hid h2
    clear h1 h2 hn
    go_enter Tryz.func84, Tryz.ntmps84
    go_wp2_with (first | (go_at_call 18; refine H1.out.mono ?_; rintro e w' ⟨rfl, rfl⟩) | (go_at_call 19; refine H2.out.mono ?_; rintro e w' ⟨rfl, rfl⟩))
    go_ret
    exact ⟨ret_bool e1.out.symm, rfl⟩
  · have e1 : Hid (dec (IsNm s) = false) := dec_false (fun h => hn h.1)
    rw [dec_false hn] at h1
    have H1 := Lib.hid h1
    clear h1 hn
    go_enter Tryz.func84, Tryz.ntmps84
    go_wp2_with (go_at_call 18; refine H1.out.mono ?_; rintro e w' ⟨rfl, rfl⟩)
    go_ret
    exact ⟨ret_bool e1.out.symm, rfl⟩

/-- What a kind of expressions has: Op, Num, Name; how many Args at least and at most; and whether there is such a kind. -/
structure Has where
  op : Bool
  num : Bool
  name : Bool
  least : Nat
  most : Nat
  is : Bool

def hasOf (k : Int) : Has :=
  if k = 1 ∨ k = 14 ∨ k = 15 ∨ k = 19 then ⟨false, true, false, 0, 0, true⟩
  else if k = 2 ∨ k = 3 then ⟨false, false, true, 0, 0, true⟩
  else if k = 4 ∨ k = 5 ∨ k = 11 ∨ k = 13 then ⟨false, false, false, 1, 1, true⟩
  else if k = 6 then ⟨true, false, false, 2, 2, true⟩
  else if k = 7 ∨ k = 8 then ⟨false, false, true, 1, 1, true⟩
  else if k = 16 ∨ k = 17 then ⟨false, true, false, 1, 1, true⟩
  else if k = 9 then ⟨false, false, true, 0, 8, true⟩
  else if k = 18 then ⟨false, true, false, 0, 8, true⟩
  else if k = 10 then ⟨true, false, false, 1, 1, true⟩
  else if k = 12 then ⟨true, false, false, 0, 0, true⟩
  else ⟨false, false, false, 0, 0, false⟩

def HasV (h : Has) : Value := .tuple #[.agg #[.bool h.op, .bool h.num, .bool h.name, .int .i64 h.least, .int .i64 h.most], .bool h.is]

theorem kind_cases (k : Int) : k = 1 ∨ k = 2 ∨ k = 3 ∨ k = 4 ∨ k = 5 ∨ k = 6 ∨ k = 7 ∨ k = 8 ∨ k = 9 ∨ k = 10 ∨ k = 11 ∨ k = 12 ∨ k = 13 ∨ k = 14 ∨ k = 15 ∨ k = 16 ∨ k = 17 ∨ k = 18 ∨ k = 19 ∨ k < 1 ∨ 19 < k := by omega


end Go.Proofs.YtblhpiebheommaaGreat
/- The walks of clewref10.bare and clewref10.among. -/
namespace Go.Proofs.YtblhpiebheommaaGreat
open Go.RowKit Go.Sort

theorem among_calls (n lo hi : Int) (w : World) : Calls Tryz.prog 82 #[.int .i64 n, .int .i64 lo, .int .i64 hi] w (Same0 w (.bool (dec (lo ≤ n ∧ n ≤ hi)))) := by
  by_cases h : lo ≤ n
  · have e : Hid (dec (lo ≤ n ∧ n ≤ hi) = decide (n ≤ hi)) := by
      show dec _ = _
      by_cases h2 : n ≤ hi
      · rw [dec_true ⟨h, h2⟩]; symm; simpa using h2
      · rw [dec_false (fun h3 => h2 h3.2)]; symm; simpa using h2
    go_enter Tryz.func82, Tryz.ntmps82
    go_wp2
    go_ret
    exact ⟨ret_bool e.out.symm, rfl⟩
  · have e : Hid (dec (lo ≤ n ∧ n ≤ hi) = false) := dec_false (fun h3 => h h3.1)
    go_enter Tryz.func82, Tryz.ntmps82
    go_wp2
    go_ret
    exact ⟨ret_bool e.out.symm, rfl⟩

/-- So many Args, and none of Op, Num, Name but those that are said. -/
def Bare (o n : Int) (s : ByteArray) (m : Nat) (args : Int) (op num named : Bool) : Prop := (m : Int) = args ∧ (op = true ∨ o = 0) ∧ (num = true ∨ n = 0) ∧ (named = true ∨ s = ByteArray.empty)

set_option maxRecDepth 100000 in
set_option maxHeartbeats 4000000 in
theorem bare_calls (k o n : Int) (s : ByteArray) (a : Option Addr) (m cap : Nat) (args : Int) (op num named : Bool) (w : World) :
    Calls Tryz.prog 81 #[.agg #[.int .i64 k, .int .i64 o, .int .i64 n, .string s, .slice a m cap], .int .i64 args, .bool op, .bool num, .bool named] w (Gives w (.bool (dec (Bare o n s m args op num named)))) := by
  have hR : Hid (dec (Bare o n s m args op num named) = dec ((m : Int) = args ∧ (op = true ∨ o = 0) ∧ (num = true ∨ n = 0) ∧ (named = true ∨ s = ByteArray.empty))) := rfl
  generalize dec (Bare o n s m args op num named) = R at *
  by_cases hm : (m : Int) = args
  rotate_left
  · have q : ((m : Int) == args) = false := by simpa using hm
    obtain rfl : R = false := by rw [hR.out]; exact dec_false (fun h => hm h.1)
    clear hR hm
    go_enter Tryz.func81, Tryz.ntmps81
    go_wp2
    go_ret
    exact ⟨rfl, (Below.refl _ _).alloc (Nat.le_refl _) _⟩
  subst hm
  by_cases ho : op = true ∨ o = 0
  rotate_left
  · have q : op = false := by cases op <;> simp at ho ⊢
    have q2 : (o == 0) = false := by cases op <;> simp at ho ⊢; exact ho
    subst q
    obtain rfl : R = false := by rw [hR.out]; exact dec_false (fun h => ho h.2.1)
    clear hR ho
    go_enter Tryz.func81, Tryz.ntmps81
    go_wp2
    go_ret
    exact ⟨rfl, (Below.refl _ _).alloc (Nat.le_refl _) _⟩
  by_cases hn : num = true ∨ n = 0
  rotate_left
  · have q : num = false := by cases num <;> simp at hn ⊢
    have q2 : (n == 0) = false := by cases num <;> simp at hn ⊢; exact hn
    subst q
    obtain rfl : R = false := by rw [hR.out]; exact dec_false (fun h => hn h.2.2.1)
    clear hR hn
    cases op
    · obtain rfl : o = 0 := by simpa using ho
      clear ho
      go_enter Tryz.func81, Tryz.ntmps81
      go_wp2
      go_ret
      exact ⟨rfl, (Below.refl _ _).alloc (Nat.le_refl _) _⟩
    · clear ho
      go_enter Tryz.func81, Tryz.ntmps81
      go_wp2
      go_ret
      exact ⟨rfl, (Below.refl _ _).alloc (Nat.le_refl _) _⟩
  have hS : Hid (R = dec (named = true ∨ s = ByteArray.empty)) := by show R = _; rw [hR.out]; exact dec_congr (by simp [ho, hn])
  clear hR
  by_cases hs : named = true ∨ s = ByteArray.empty
  · obtain rfl : R = true := by rw [hS.out]; exact dec_true hs
    clear hS
    cases op
    · obtain rfl : o = 0 := by simpa using ho
      cases num
      · obtain rfl : n = 0 := by simpa using hn
        cases named
        · obtain rfl : s = ByteArray.empty := by simpa using hs
          clear ho hn hs
          go_enter Tryz.func81, Tryz.ntmps81
          go_wp2
          go_ret
          exact ⟨rfl, (Below.refl _ _).alloc (Nat.le_refl _) _⟩
        · clear ho hn hs
          go_enter Tryz.func81, Tryz.ntmps81
          go_wp2
          go_ret
          exact ⟨rfl, (Below.refl _ _).alloc (Nat.le_refl _) _⟩
      · cases named
        · obtain rfl : s = ByteArray.empty := by simpa using hs
          clear ho hn hs
          go_enter Tryz.func81, Tryz.ntmps81
          go_wp2
          go_ret
          exact ⟨rfl, (Below.refl _ _).alloc (Nat.le_refl _) _⟩
        · clear ho hn hs
          go_enter Tryz.func81, Tryz.ntmps81
          go_wp2
          go_ret
          exact ⟨rfl, (Below.refl _ _).alloc (Nat.le_refl _) _⟩
    · cases num
      · obtain rfl : n = 0 := by simpa using hn
        cases named
        · obtain rfl : s = ByteArray.empty := by simpa using hs
          clear ho hn hs
          go_enter Tryz.func81, Tryz.ntmps81
          go_wp2
          go_ret
          exact ⟨rfl, (Below.refl _ _).alloc (Nat.le_refl _) _⟩
        · clear ho hn hs
          go_enter Tryz.func81, Tryz.ntmps81
          go_wp2
          go_ret
          exact ⟨rfl, (Below.refl _ _).alloc (Nat.le_refl _) _⟩
      · cases named
        · obtain rfl : s = ByteArray.empty := by simpa using hs
          clear ho hn hs
          go_enter Tryz.func81, Tryz.ntmps81
          go_wp2
          go_ret
          exact ⟨rfl, (Below.refl _ _).alloc (Nat.le_refl _) _⟩
        · clear ho hn hs
          go_enter Tryz.func81, Tryz.ntmps81
          go_wp2
          go_ret
          exact ⟨rfl, (Below.refl _ _).alloc (Nat.le_refl _) _⟩
  · have q : named = false := by cases named <;> simp at hs ⊢
    have q2 : s ≠ ByteArray.empty := fun h => hs (Or.inr h)
    have qs := strne q2
    have qs2 : s.toList.isEmpty = false := by simpa using qs
    subst q
    obtain rfl : R = false := by rw [hS.out]; exact dec_false hs
    clear hS hs q2
    cases op
    · obtain rfl : o = 0 := by simpa using ho
      cases num
      · obtain rfl : n = 0 := by simpa using hn
        clear ho hn
        go_enter Tryz.func81, Tryz.ntmps81
        go_wp2
        go_ret
        exact ⟨by first | rfl | simp, (Below.refl _ _).alloc (Nat.le_refl _) _⟩
      · clear ho hn
        go_enter Tryz.func81, Tryz.ntmps81
        go_wp2
        go_ret
        exact ⟨by first | rfl | simp, (Below.refl _ _).alloc (Nat.le_refl _) _⟩
    · cases num
      · obtain rfl : n = 0 := by simpa using hn
        clear ho hn
        go_enter Tryz.func81, Tryz.ntmps81
        go_wp2
        go_ret
        exact ⟨by first | rfl | simp, (Below.refl _ _).alloc (Nat.le_refl _) _⟩
      · clear ho hn
        go_enter Tryz.func81, Tryz.ntmps81
        go_wp2
        go_ret
        exact ⟨by first | rfl | simp, (Below.refl _ _).alloc (Nat.le_refl _) _⟩

end Go.Proofs.YtblhpiebheommaaGreat
