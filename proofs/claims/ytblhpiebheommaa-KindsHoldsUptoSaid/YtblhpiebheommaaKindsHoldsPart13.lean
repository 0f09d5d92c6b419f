/- The walk of names.Of. -/
import Derived.Test.YtblhpiebheommaaKindsHoldsPart12
import Derived.Test.YtblhpiebheommaaKindsHoldsPart3
import Derived.Test.YtblhpiebheommaaKindsHoldsPart7
import Derived.Deep.DeepCutAuto
import Derived.Deep.CutBlock
namespace Go.Proofs.Ytblhpiebheommaa
open Go.RowKit

set_option maxRecDepth 20000 in
set_option maxHeartbeats 1000000 in
theorem ofT_calls (t : List NameD) (kind : Int) (n : ByteArray) (F : Nat → Prop) (w : World) (v : Value) (hF : Inn F w) (hr : RdNames F w t v) (hri : Rises t) (ht : t.length ≤ 1000000000000) :
    Calls Try.prog 76 #[v, .int .i64 kind, .string n] w (GivesTwo w (ofN t kind n)) := by
  have hf := findT_calls t n F w v hF hr hri ht
  obtain ⟨a, cap, rfl⟩ := hr.shape
  clear hr hri
  cases ho : findN t n with
  | none =>
    rw [ho] at hf
    have HC := Lib.hid (found_none hf)
    have hfin : Hid (ofN t kind n = (0, 11)) := by show _ = _; unfold ofN; rw [ho]
    clear hf ho
    go_enter Try.func76, Try.ntmps76
    go_wp2_with (go_at_call 75; refine HC.out.mono ?_; rintro e w1 ⟨rfl, hb⟩)
    go_ret2
    exact ⟨by rw [hfin.out]; rfl, (hb.alloc hb.size _)⟩
  | some x =>
    have hxn : n = x.name := (findN_some ho).2.symm
    subst hxn
    rw [ho] at hf
    have HC := Lib.hid (found_some hf)
    by_cases hk : x.kind = kind
    · have hfin : Hid (ofN t kind x.name = (x.num, 0)) := by show _ = _; unfold ofN; rw [ho]; simp [hk]
      clear hf ho
      subst hk
      go_enter Try.func76, Try.ntmps76
      go_wp2_with (go_at_call 75; refine HC.out.mono ?_; rintro e w1 ⟨rfl, hb⟩)
      go_ret2
      exact ⟨by rw [hfin.out]; rfl, (hb.alloc hb.size _)⟩
    · have hfin : Hid (ofN t kind x.name = (0, 12)) := by show _ = _; unfold ofN; rw [ho]; simp [hk]
      have e1 : (x.kind == kind) = false := by simpa using hk
      clear hf ho hk
      go_enter Try.func76, Try.ntmps76
      go_wp2_with (go_at_call 75; refine HC.out.mono ?_; rintro e w1 ⟨rfl, hb⟩)
      go_ret2
      exact ⟨by rw [hfin.out]; rfl, (hb.alloc hb.size _)⟩
end Go.Proofs.Ytblhpiebheommaa
/- The walks of kinds' checker: of, local, stands. What is wrong is thrown. -/
namespace Go.Proofs.Ytblhpiebheommaa
open Go.RowKit

/-- What is wrong, as it is thrown. -/
def wrongV (er : Int) (nm : ByteArray) : Value := .iface 106 (.agg #[.int .i64 er, .string nm])
/-- A call's post: it throws. -/
def Throws (w : World) (er : Int) (nm : ByteArray) (e : Ending) (w' : World) : Prop := e = .panicked [{ v := wrongV er nm, recovered := false }] ∧ Below w.heap.size w w'

/-- The checker's cell that holds the table of names. -/
def CkT (F : Nat → Prop) (w : World) (B : Nat) (t : List NameD) : Prop := B < w.heap.size ∧ ∃ v, w.cell? ⟨B, 0, none⟩ = some v ∧ RdNames F w t v
/-- The checker's cell that holds the locals. -/
def CkL (F : Nat → Prop) (w : World) (B : Nat) (l : List ByteArray) : Prop := B < w.heap.size ∧ ∃ v, w.cell? ⟨B, 14, none⟩ = some v ∧ RdStrs F w l v
theorem CkT.below {F : Nat → Prop} {w w' : World} {B : Nat} {t : List NameD} (h : CkT F w B t) (hF : Inn F w) (hb : Below w.heap.size w w') : CkT F w' B t := by
  obtain ⟨h1, v, h2, h3⟩ := h
  exact ⟨Nat.lt_of_lt_of_le h1 hb.size, v, by rw [hb.cell (p := ⟨B, 0, none⟩) h1]; exact h2, h3.below hF hb (Nat.le_refl _)⟩
theorem CkL.below {F : Nat → Prop} {w w' : World} {B : Nat} {t : List ByteArray} (h : CkL F w B t) (hF : Inn F w) (hb : Below w.heap.size w w') : CkL F w' B t := by
  obtain ⟨h1, v, h2, h3⟩ := h
  exact ⟨Nat.lt_of_lt_of_le h1 hb.size, v, by rw [hb.cell (p := ⟨B, 14, none⟩) h1]; exact h2, h3.below hF hb (Nat.le_refl _)⟩

/-- A call's post: where nothing is wrong it hands back v; else what is wrong is thrown. -/
def Judged (w : World) (p : Int × ByteArray) (v : Value) (e : Ending) (w' : World) : Prop :=
  (p.1 = 0 → e = .returned v) ∧ (p.1 ≠ 0 → e = .panicked [{ v := wrongV p.1 p.2, recovered := false }]) ∧ Below w.heap.size w w'
theorem judged_ok {P : Program} {k : Nat} {args : Array Value} {w : World} {p : Int × ByteArray} {v : Value} (h : Calls P k args w (Judged w p v)) (hp : p.1 = 0) : Calls P k args w fun e w' => e = .returned v ∧ Below w.heap.size w w' := h.mono fun _ _ ⟨h1, _, h3⟩ => ⟨h1 hp, h3⟩
theorem judged_bad {P : Program} {k : Nat} {args : Array Value} {w : World} {p : Int × ByteArray} {v : Value} (h : Calls P k args w (Judged w p v)) (hp : p.1 ≠ 0) : Calls P k args w fun e w' => e = .panicked [{ v := .iface 106 (.agg #[.int .i64 p.1, .string p.2]), recovered := false }] ∧ Below w.heap.size w w' := h.mono fun _ _ ⟨_, h2, h3⟩ => ⟨h2 hp, h3⟩
theorem Judged.fine {w w' : World} {p : Int × ByteArray} {v : Value} {e : Ending} (hp : p.1 = 0) (he : e = .returned v) (hb : Below w.heap.size w w') : Judged w p v e w' := ⟨fun _ => he, fun h => absurd hp h, hb⟩
theorem Judged.thrown {w w' : World} {p : Int × ByteArray} {v : Value} {e : Ending} {er : Int} {nm : ByteArray} (hp : p = (er, nm)) (h0 : er ≠ 0) (he : e = .panicked [{ v := .iface 106 (.agg #[.int .i64 er, .string nm]), recovered := false }]) (hb : Below w.heap.size w w') : Judged w p v e w' := by
  subst hp; exact ⟨fun h => absurd h h0, fun _ => he, hb⟩

def fineW : Int × ByteArray := (0, ⟨#[]⟩)
/-- What is wrong with a name of a kind. -/
def ofW (t : List NameD) (kind : Int) (n : ByteArray) : Int × ByteArray := if (ofN t kind n).2 = 0 then fineW else ((ofN t kind n).2, n)

set_option maxRecDepth 20000 in
set_option maxHeartbeats 1000000 in
theorem of_calls (t : List NameD) (kind : Int) (n : ByteArray) (F : Nat → Prop) (w : World) (B : Nat) (hF : Inn F w) (hc : CkT F w B t) (hri : Rises t) (ht : t.length ≤ 1000000000000) :
    Calls Try.prog 58 #[.pointer (some ⟨B, 0, none⟩), .int .i64 kind, .string n] w (Judged w (ofW t kind n) (.int .i64 (ofN t kind n).1)) := by
  obtain ⟨hB, v, hv, hr⟩ := hc
  have hf := ofT_calls t kind n F w v hF hr hri ht
  unfold ofW
  generalize ofN t kind n = p at hf ⊢
  obtain ⟨p1, p2⟩ := p
  have HC := Lib.hid hf
  obtain ⟨a, cap, rfl⟩ := hr.shape
  clear hf hr hri
  by_cases he : p2 = 0
  · subst he
    go_enter Try.func58, Try.ntmps58
    go_wp2_with (go_at_call 76; refine HC.out.mono ?_; rintro e w1 ⟨rfl, hb⟩)
    go_ret
    exact Judged.fine (by simp [fineW]) rfl hb
  · have e0 : (p2 != 0) = true := by simpa using he
    have hp : Hid ((if p2 = 0 then fineW else (p2, n)) = (p2, n)) := if_neg he
    have HE := Lib.hid he
    clear he
    generalize (if p2 = 0 then fineW else (p2, n)) = r at hp ⊢
    go_enter Try.func58, Try.ntmps58
    go_wp2_with (go_at_call 76; refine HC.out.mono ?_; rintro e w1 ⟨rfl, hb⟩)
    exact ⟨rfl, Judged.thrown (er := p2) (nm := n) hp.out HE.out rfl hb⟩

set_option maxRecDepth 20000 in
set_option maxHeartbeats 1000000 in
theorem local_calls (l : List ByteArray) (n : ByteArray) (F : Nat → Prop) (w : World) (B : Nat) (hc : CkL F w B l) :
    Calls Try.prog 74 #[.pointer (some ⟨B, 0, none⟩), .string n] w (Same0 w (.bool (dec (n ∈ l)))) := by
  obtain ⟨hB, v, hv, hr⟩ := hc
  obtain ⟨a, cap, rfl, hl, hc, ha⟩ := hr.opn
  unfold maxLen at hc
  have hyes : Hid (n ∈ l → dec (n ∈ l) = true) := fun h => dec_true h
  have hno : Hid ((∀ i (hi : i < l.length), l[i] ≠ n) → dec (n ∈ l) = false) := fun h => by
    refine dec_false fun hm => ?_
    obtain ⟨i, hi, e⟩ := List.getElem_of_mem hm
    exact h i hi e
  generalize dec (n ∈ l) = r at hyes hno ⊢
  clear hr
  go_enter Try.func74, Try.ntmps74
  go_wp2
  go_loop [12] (fun i => ∃ (k : Nat), k ≤ l.length ∧ i = .int .i64 k ∧ Hid (∀ i (hi : i < l.length), i < k → l[i] ≠ n)) (fun i => l.length - (intOf i).toNat)
  case atStart => exact ⟨0, Nat.zero_le _, rfl, fun i _ h => absurd h (by omega)⟩
  case round =>
    obtain ⟨k, hk, rfl, hq⟩ := hrel
    by_cases hlt : k < l.length
    · obtain ⟨b, off, rfl, hFb, hel⟩ := ha (by omega)
      obtain ⟨cs, ⟨h1, rfl⟩, -, hcell⟩ := hel w rfl k hlt
      have g0 := hcell 0 _ rfl
      simp only [Nat.add_zero, Nat.mul_one] at g0
      obtain ⟨x, hx⟩ : ∃ x, x = l[k] := ⟨_, rfl⟩
      rw [← hx] at g0
      have hm : x ∈ l := by rw [hx]; exact List.getElem_mem hlt
      have HX := Lib.hid hx
      clear hel hcell ha h1 hx
      by_cases he : x = n
      · subst he
        have hfin := Lib.hid (hyes.out hm)
        clear hq hyes hno hm
        go_wp2
        go_ret
        exact ⟨ret_bool hfin.out.symm, rfl⟩
      · have e1 : (x.toList == n.toList) = false := by rw [beq_str]; simpa using he
        have hnx : Hid (∀ i (hi : i < l.length), i < k + 1 → l[i] ≠ n) := fun i hi h => by
          by_cases hik : i = k
          · subst hik; rw [← HX.out]; exact he
          · exact hq.out i hi (by omega)
        clear hq hyes hno he hm
        go_wp2
        go_round
        case rel => exact ⟨k + 1, by omega, by go_num, hnx⟩
        case measure => simp [intOf]; omega
    · have hfin := Lib.hid (hno.out (fun i hi => hq.out i hi (by omega)))
      clear hq hyes hno
      go_wp2
      go_ret
      exact ⟨ret_bool hfin.out.symm, rfl⟩

/-- An int. -/
def Holds.int : Holds Int := ⟨fun _ _ x cs => I64 x ∧ cs = [.int .i64 x], fun _ _ h => h⟩

/-- What is wrong with a name that must be a local, or of one of some kinds. -/
noncomputable def eitherW (t : List NameD) (locals : List ByteArray) (ks : List Int) (n : ByteArray) : Int × ByteArray :=
  if dec (n ∈ locals) = true then fineW else
  match findN t n with
  | none => (11, n)
  | some x => if x.kind ∈ ks then fineW else (12, n)

set_option maxRecDepth 20000 in
set_option maxHeartbeats 2000000 in
theorem stands_calls (t : List NameD) (l : List ByteArray) (ks : List Int) (n : ByteArray) (F G : Nat → Prop) (w : World) (B : Nat) (kv : Value) (hF : Inn F w) (hc : CkT F w B t) (hcl : CkL F w B l) (hG : Inn G w) (hks : RdL Holds.int 1 G w ks kv) (hri : Rises t) (ht : t.length ≤ 1000000000000) :
    Calls Try.prog 57 #[.pointer (some ⟨B, 0, none⟩), .string n, kv] w (Judged w (eitherW t l ks n) (.tuple #[])) := by
  have hloc := local_calls l n F w B hcl
  obtain ⟨hB, v, hv, hr⟩ := hc
  have hfd := findT_calls t n F w v hF hr hri ht
  obtain ⟨a, cap, rfl⟩ := hr.shape
  obtain ⟨ka, kcap, rfl, kl, kc, ha⟩ := hks.opn
  unfold maxLen at kc
  unfold eitherW
  by_cases hm : n ∈ l
  · rw [dec_true hm] at hloc
    have HL := Lib.hid hloc
    rw [if_pos (dec_true hm)]
    clear hloc hm hfd hr hri hks ha
    go_enter Try.func57, Try.ntmps57
    go_wp2_with (go_at_call 74; refine HL.out.mono ?_; rintro e w1 ⟨rfl, rfl⟩)
    go_end0
    exact Judged.fine rfl rfl (Below.refl _ _)
  rw [dec_false hm] at hloc
  rw [if_neg (by rw [dec_false hm]; decide)]
  have HL := Lib.hid hloc
  clear hloc hm
  cases ho : findN t n with
  | none =>
    rw [ho] at hfd
    have HD := Lib.hid (found_none hfd)
    clear ho hfd hr hri hks ha
    go_enter Try.func57, Try.ntmps57
    go_wp2_with (first | (go_at_call 74; refine HL.out.mono ?_; rintro e w1 ⟨rfl, rfl⟩) | (go_at_call 75; refine HD.out.mono ?_; rintro e w1 ⟨rfl, hb⟩))
    exact ⟨rfl, Judged.thrown rfl (by decide) rfl (hb.alloc hb.size _)⟩
  | some x =>
    rw [ho] at hfd
    have HD := Lib.hid (found_some hfd)
    have hyes : Hid (x.kind ∈ ks → ((if x.kind ∈ ks then fineW else (12, n)) : Int × ByteArray) = fineW) := fun h => if_pos h
    have hno : Hid ((∀ i (hi : i < ks.length), ks[i] ≠ x.kind) → ((if x.kind ∈ ks then fineW else (12, n)) : Int × ByteArray) = (12, n)) := fun h => if_neg (fun hm => by
      obtain ⟨i, hi, e⟩ := List.getElem_of_mem hm
      exact h i hi e)
    show Calls _ _ _ _ (Judged w (if x.kind ∈ ks then fineW else (12, n)) (.tuple #[]))
    generalize (if x.kind ∈ ks then fineW else (12, n) : Int × ByteArray) = r at hyes hno ⊢
    clear ho hfd hr hri hks
    go_enter Try.func57, Try.ntmps57
    go_wp2_with (first | (go_at_call 74; refine HL.out.mono ?_; rintro e w1 ⟨rfl, rfl⟩) | (go_at_call 75; refine HD.out.mono ?_; rintro e w1 ⟨rfl, hb⟩))
    have hB1 : Below w.heap.size w (w1.alloc (.cells #[.string x.name, .int .i64 x.kind, .int .i64 x.num] 63)) := hb.alloc hb.size _
    have k1 : (w1.alloc (.cells #[.string x.name, .int .i64 x.kind, .int .i64 x.num] 63)).cell? ⟨w1.heap.size, 1, none⟩ = some (.int .i64 x.kind) := by simp
    generalize w1.alloc (.cells #[.string x.name, .int .i64 x.kind, .int .i64 x.num] 63) = W1 at hB1 k1 ⊢
    go_loop [29] (fun i => ∃ (k : Nat), k ≤ ks.length ∧ i = .int .i64 k ∧ Hid (∀ i (hi : i < ks.length), i < k → ks[i] ≠ x.kind)) (fun i => ks.length - (intOf i).toNat)
    case atStart => exact ⟨0, Nat.zero_le _, rfl, fun i _ h => absurd h (by omega)⟩
    case round =>
      obtain ⟨k, hk, rfl, hq⟩ := hrel
      by_cases hlt : k < ks.length
      · obtain ⟨b, off, rfl, hGb, hel⟩ := ha (by omega)
        obtain ⟨cs, ⟨h1, rfl⟩, -, hcell⟩ := hel W1 (hB1.block b (hG b hGb)) k hlt
        have g0 := hcell 0 _ rfl
        simp only [Nat.add_zero, Nat.mul_one] at g0
        obtain ⟨y, hy⟩ : ∃ y, y = ks[k] := ⟨_, rfl⟩
        rw [← hy] at g0
        have hm : y ∈ ks := by rw [hy]; exact List.getElem_mem hlt
        have HX := Lib.hid hy
        clear hel hcell ha h1 hy
        by_cases he : x.kind = y
        · subst he
          have hfin := Lib.hid (hyes.out hm)
          clear hq hyes hno hm
          go_wp2
          go_end0
          exact Judged.fine (by rw [hfin.out]; rfl) rfl hB1
        · have e1 : (x.kind == y) = false := by simpa using he
          have hnx : Hid (∀ i (hi : i < ks.length), i < k + 1 → ks[i] ≠ x.kind) := fun i hi h => by
            by_cases hik : i = k
            · subst hik; rw [← HX.out]; exact fun h => he h.symm
            · exact hq.out i hi (by omega)
          clear hq hyes hno he hm
          go_wp2
          go_round
          case rel => exact ⟨k + 1, by omega, by go_num, hnx⟩
          case measure => simp [intOf]; omega
      · have hfin := Lib.hid (hno.out (fun i hi => hq.out i hi (by omega)))
        clear hq hyes hno
        go_wp2
        exact ⟨rfl, Judged.thrown hfin.out (by decide) rfl hB1⟩
end Go.Proofs.Ytblhpiebheommaa
/- The walk of kinds' checker.expr: what is wrong with an expression is thrown. -/
namespace Go.Proofs.Ytblhpiebheommaa
open Go.RowKit

def seqW (a b : Int × ByteArray) : Int × ByteArray := if a.1 = 0 then b else a
theorem seqW_fine {a b : Int × ByteArray} (h : a.1 = 0) : seqW a b = b := if_pos h
theorem seqW_bad {a b : Int × ByteArray} (h : a.1 ≠ 0) : seqW a b = a := if_neg h

/-- What is wrong with a call of a function. -/
def callW (t : List NameD) (fs : List FuncD) (n : ByteArray) (many : Nat) : Int × ByteArray :=
  if (ofN t 6 n).2 = 0 then (if ((fs.map (fun f => f.params.length))[(ofN t 6 n).1.toNat]?.getD many) = many then fineW else (7, n)) else ((ofN t 6 n).2, n)
/-- What is wrong with an expression itself. -/
noncomputable def ownEx (t : List NameD) (fs : List FuncD) (l : List ByteArray) (k : Int) (n : ByteArray) (many : Nat) : Int × ByteArray :=
  if k = 3 then eitherW t l [3, 4] n else if k = 7 then ofW t 1 n else if k = 8 then ofW t 2 n else if k = 9 then callW t fs n many else fineW
mutual
noncomputable def Ex.kW (t : List NameD) (fs : List FuncD) (l : List ByteArray) : Ex → Int × ByteArray
  | .mk k _ _ s args => seqW (ownEx t fs l k s args.length) (Ex.kWs t fs l args)
noncomputable def Ex.kWs (t : List NameD) (fs : List FuncD) (l : List ByteArray) : List Ex → Int × ByteArray
  | [] => fineW
  | e :: es => seqW (e.kW t fs l) (Ex.kWs t fs l es)
end

/-- A table's functions and things are the source's. -/
def TabOk (t : List NameD) (fs : List FuncD) (things : Nat) : Prop := ∀ x ∈ t, (x.kind = 6 → 0 ≤ x.num ∧ x.num < fs.length) ∧ (x.kind = 4 → 2 ≤ x.num ∧ x.num < things + 2)
theorem ofN_ok {t : List NameD} {kind z : Int} {n : ByteArray} (h : ofN t kind n = (z, 0)) : ∃ x ∈ t, x.kind = kind ∧ x.num = z := by
  unfold ofN at h
  cases hf : findN t n with
  | none => rw [hf] at h; simp at h
  | some x =>
    rw [hf] at h
    by_cases hk : x.kind = kind
    · simp [hk] at h; exact ⟨x, (findN_some hf).1, hk, h⟩
    · simp [hk] at h

/-- The checker's cell that holds the functions. -/
def CkF (F : Nat → Prop) (w : World) (B : Nat) (fs : List FuncD) : Prop := B < w.heap.size ∧ ∃ v, w.cell? ⟨B, 12, none⟩ = some v ∧ RdL Holds.fnc 3 F w fs v
theorem CkF.below {F : Nat → Prop} {w w' : World} {B : Nat} {t : List FuncD} (h : CkF F w B t) (hF : Inn F w) (hb : Below w.heap.size w w') : CkF F w' B t := by
  obtain ⟨h1, v, h2, h3⟩ := h
  exact ⟨Nat.lt_of_lt_of_le h1 hb.size, v, by rw [hb.cell (p := ⟨B, 12, none⟩) h1]; exact h2, h3.below hF hb (Nat.le_refl _)⟩

theorem built_ints (w : World) (l : List Int) (hl : l.length ≤ 1000) (h : ∀ x ∈ l, I64 x) : RdL Holds.int 1 (fun b => b = w.heap.size) (w.alloc (.cells (l.map (Value.int .i64)).toArray 3)) l (.slice (some ⟨w.heap.size, 0, none⟩) l.length l.length) := by
  refine ⟨fun i _ => (l.map (Value.int .i64)).getD i undef, ⟨_, _, rfl, Nat.le_refl _, by unfold maxLen; omega, fun _ => ⟨w.heap.size, 0, rfl, rfl, fun i hi j hj => ?_⟩⟩, fun i hi => ⟨h _ (List.getElem_mem hi), ?_⟩⟩
  · have := bx_new w (l.map (Value.int .i64)) 3 _ rfl i (by simpa using hi)
    rw [show 0 + i * 1 + j = i by omega, this]
    show _ = some ((l.map (Value.int .i64)).getD i undef)
    rw [List.getD_eq_getElem?_getD, List.getElem?_eq_getElem (by simpa using hi)]
    rfl
  · simp [rowCells, hi]

def KExC (t : List NameD) (fs : List FuncD) (e : Ex) : Prop := ∀ (l : List ByteArray) (F : Nat → Prop) (w : World) (B : Nat) (cs : List Value), Inn F w → CkT F w B t → CkL F w B l → CkF F w B fs → RdEx F w e cs →
  Calls Try.prog 34 #[.pointer (some ⟨B, 0, none⟩), .agg cs.toArray] w (Judged w (e.kW t fs l) (.tuple #[]))

set_option maxRecDepth 20000 in
set_option maxHeartbeats 4000000 in
theorem kexpr_calls (t : List NameD) (fs : List FuncD) (things : Nat) (hri : Rises t) (ht : t.length ≤ 1000000000000) (htab : TabOk t fs things) : ∀ e, KExC t fs e := by
  refine Ex.ind ?_
  intro k o n s args ih l F w B cs hF hct hcl hcf hr
  obtain ⟨i1, i2, i3, hss, v, c, rfl, hsl, hrow⟩ := hr
  have hargs : Exs F w args v := ⟨c, hsl, hrow⟩
  obtain ⟨a, cap, rfl⟩ := hargs.shape
  have HO := Lib.hid (fun kind W (hW : Below w.heap.size w W) => of_calls t kind s F W B (hF.below hW) (hct.below hF hW) hri ht)
  have HS := Lib.hid (fun (W : World) (hW : Below w.heap.size w W) => stands_calls t l [3, 4] s F (fun b => b = W.heap.size) (W.alloc (.cells #[.int .i64 3, .int .i64 4] 3)) B (.slice (some ⟨W.heap.size, 0, none⟩) 2 2) (hF.below (hW.alloc hW.size _)) (hct.below hF (hW.alloc hW.size _)) (hcl.below hF (hW.alloc hW.size _)) (fun b hb => by subst hb; simp) (built_ints W [3, 4] (by simp) (by simp [I64])) hri ht)
  have hfin : Hid ((Ex.mk k o n s args).kW t fs l = seqW (ownEx t fs l k s args.length) (Ex.kWs t fs l args)) := rfl
  generalize (Ex.mk k o n s args).kW t fs l = r at hfin ⊢
  obtain ⟨hB, fv, hfv, hfr⟩ := hcf
  obtain ⟨fa, fcap, rfl, hfl, hfc, hfa⟩ := hfr.opn
  unfold maxLen at hfc
  have hB0 : Below w.heap.size w (w.alloc (.cells #[.int .i64 k, .int .i64 o, .int .i64 n, .string s, .slice a args.length cap] 32)) := (Below.refl _ w).alloc (Nat.le_refl _) _
  go_enter Try.func34, Try.ntmps34
  go_upto_block 0 with fail
  obtain ⟨W0, hW0⟩ : ∃ W0, (w.alloc (.cells #[.int .i64 k, .int .i64 o, .int .i64 n, .string s, .slice a args.length cap] 32)) = W0 := ⟨_, rfl⟩
  have hz0 : w.heap.size < W0.heap.size := by rw [← hW0]; simp
  have b3 : W0.cell? ⟨w.heap.size, 3, none⟩ = some (.string s) := by rw [← hW0]; simp
  have b4 : W0.cell? ⟨w.heap.size, 4, none⟩ = some (.slice a args.length cap) := by rw [← hW0]; simp
  rw [hW0] at hB0 ⊢
  clear hW0
  have hf0 : W0.cell? ⟨B, 12, none⟩ = some (.slice fa fs.length fcap) := by rw [hB0.cell (p := ⟨B, 12, none⟩) hB]; exact hfv
  go_cut [] (fun wc => Hid ((ownEx t fs l k s args.length).1 = 0) ∧ Below W0.heap.size W0 wc)
  case first =>
    by_cases h3 : k = 3
    · subst h3
      have how : Hid (ownEx t fs l 3 s args.length = eitherW t l [3, 4] s) := rfl
      by_cases hz : (eitherW t l [3, 4] s).1 = 0
      · have hq : Hid ((ownEx t fs l 3 s args.length).1 = 0) := by show _ = _; rw [how.out]; exact hz
        have HC := Lib.hid (judged_ok (HS.out _ hB0) hz)
        clear hz how
        go_wp2_with (go_at_call 57; refine HC.out.mono ?_; rintro e w1 ⟨rfl, hb⟩)
        go_meet
        exact ⟨hq, below_on1 (Below.refl _ _) (Nat.le_refl _) hb⟩
      · have HC := Lib.hid (judged_bad (HS.out _ hB0) hz)
        have hq : Hid (r = ((eitherW t l [3, 4] s).1, (eitherW t l [3, 4] s).2)) := by show _ = _; rw [hfin.out, how.out, seqW_bad hz]
        have HZ := Lib.hid hz
        clear hz how hfin
        generalize eitherW t l [3, 4] s = p at HC HZ hq
        go_wp2_with (go_at_call 57; refine HC.out.mono ?_; rintro e w1 ⟨rfl, hb⟩)
        exact ⟨rfl, Judged.thrown hq.out HZ.out rfl (hB0.trans ((below_on1 (Below.refl _ _) (Nat.le_refl _) hb).mono hB0.size))⟩
    have e3 : (k == 3) = false := by simpa using h3
    by_cases h7 : k = 7
    · subst h7
      have how : Hid (ownEx t fs l 7 s args.length = ofW t 1 s) := rfl
      by_cases hz : (ofW t 1 s).1 = 0
      · have hq : Hid ((ownEx t fs l 7 s args.length).1 = 0) := by show _ = _; rw [how.out]; exact hz
        have HC := Lib.hid (judged_ok (HO.out 1 _ hB0) hz)
        clear hz how
        go_wp2_with (go_at_call 58; refine HC.out.mono ?_; rintro e w1 ⟨rfl, hb⟩)
        go_meet
        exact ⟨hq, hb⟩
      · have HC := Lib.hid (judged_bad (HO.out 1 _ hB0) hz)
        have hq : Hid (r = ((ofW t 1 s).1, (ofW t 1 s).2)) := by show _ = _; rw [hfin.out, how.out, seqW_bad hz]
        have HZ := Lib.hid hz
        clear hz how hfin
        generalize ofW t 1 s = p at HC HZ hq
        go_wp2_with (go_at_call 58; refine HC.out.mono ?_; rintro e w1 ⟨rfl, hb⟩)
        exact ⟨rfl, Judged.thrown hq.out HZ.out rfl (hB0.trans (hb.mono hB0.size))⟩
    have e7 : (k == 7) = false := by simpa using h7
    by_cases h8 : k = 8
    · subst h8
      have how : Hid (ownEx t fs l 8 s args.length = ofW t 2 s) := rfl
      by_cases hz : (ofW t 2 s).1 = 0
      · have hq : Hid ((ownEx t fs l 8 s args.length).1 = 0) := by show _ = _; rw [how.out]; exact hz
        have HC := Lib.hid (judged_ok (HO.out 2 _ hB0) hz)
        clear hz how
        go_wp2_with (go_at_call 58; refine HC.out.mono ?_; rintro e w1 ⟨rfl, hb⟩)
        go_meet
        exact ⟨hq, hb⟩
      · have HC := Lib.hid (judged_bad (HO.out 2 _ hB0) hz)
        have hq : Hid (r = ((ofW t 2 s).1, (ofW t 2 s).2)) := by show _ = _; rw [hfin.out, how.out, seqW_bad hz]
        have HZ := Lib.hid hz
        clear hz how hfin
        generalize ofW t 2 s = p at HC HZ hq
        go_wp2_with (go_at_call 58; refine HC.out.mono ?_; rintro e w1 ⟨rfl, hb⟩)
        exact ⟨rfl, Judged.thrown hq.out HZ.out rfl (hB0.trans (hb.mono hB0.size))⟩
    have e8 : (k == 8) = false := by simpa using h8
    by_cases h9 : k = 9
    · subst h9
      have how : Hid (ownEx t fs l 9 s args.length = callW t fs s args.length) := rfl
      have hcall := HO.out 6 _ hB0
      unfold ofW at hcall
      unfold callW at how
      obtain ⟨z, er, hze⟩ : ∃ z er, ofN t 6 s = (z, er) := ⟨_, _, rfl⟩
      rw [hze] at hcall how
      simp only at hcall how
      by_cases hz : er = 0
      · subst hz
        obtain ⟨x, hxm, hxk, hxz⟩ := ofN_ok hze
        obtain ⟨hx0, hx1⟩ := (htab x hxm).1 hxk
        rw [hxz] at hx0 hx1
        obtain ⟨j, rfl⟩ : ∃ j : Nat, z = (j : Int) := ⟨z.toNat, by omega⟩
        have hj : j < fs.length := by omega
        obtain ⟨fb, foff, rfl, hFfb, hfel⟩ := hfa (by omega)
        have hpm0 : ∀ W, Below W0.heap.size W0 W → W.cell? ⟨fb, foff + j * 3 + 1, none⟩ = W0.cell? ⟨fb, foff + j * 3 + 1, none⟩ := fun W hW => hW.cell (p := ⟨fb, foff + j * 3 + 1, none⟩) (by show fb < W0.heap.size; have := hF fb hFfb; omega)
        have hpm := Lib.hid hpm0
        clear hpm0
        obtain ⟨cs, ⟨-, v1, v2, rfl, hps, -⟩, -, hcell⟩ := hfel W0 (hB0.block fb (hF fb hFfb)) j hj
        have q1 := hcell 1 _ rfl
        obtain ⟨pa, pc, rfl⟩ := hps.shape
        have HC := Lib.hid (judged_ok hcall rfl)
        have hge : (fs.map (fun f => f.params.length))[(j : Int).toNat]?.getD args.length = fs[j].params.length := by simp [hj]
        rw [if_pos rfl, hge] at how
        clear hcall hfel hcell hze hps hxm hxk hxz hfa
        by_cases hpl : fs[j].params.length = args.length
        · have hq : Hid ((ownEx t fs l 9 s args.length).1 = 0) := by show _ = _; rw [how.out, if_pos hpl]; rfl
          rw [hpl] at q1
          clear how hge hpl
          go_wp2_with (go_at_call 58; refine HC.out.mono ?_; rintro e w1 ⟨rfl, hb⟩; have q2 := (hpm.out w1 hb).trans q1; have hf1 := (hb.cell (p := ⟨B, 12, none⟩) (by show B < W0.heap.size; omega)).trans hf0; have b3' := (hb.cell (p := ⟨w.heap.size, 3, none⟩) (by show w.heap.size < W0.heap.size; omega)).trans b3; have b4' := (hb.cell (p := ⟨w.heap.size, 4, none⟩) (by show w.heap.size < W0.heap.size; omega)).trans b4)
          go_quiet (fail)
          go_wp2_with fail
          go_meet
          exact ⟨hq, below_drewN hb _⟩
        · have hq : Hid (r = (7, s)) := by show _ = _; rw [hfin.out, how.out, if_neg hpl, seqW_bad (by simp)]
          have e7' : (((fs[j].params.length : Nat) : Int) != ((args.length : Nat) : Int)) = true := by simp; omega
          have HPL := Lib.hid hpl
          clear how hge hfin hpl
          generalize fs[j].params.length = pl at q1 e7'
          go_wp2_with (go_at_call 58; refine HC.out.mono ?_; rintro e w1 ⟨rfl, hb⟩; have q2 := (hpm.out w1 hb).trans q1; have hf1 := (hb.cell (p := ⟨B, 12, none⟩) (by show B < W0.heap.size; omega)).trans hf0; have b3' := (hb.cell (p := ⟨w.heap.size, 3, none⟩) (by show w.heap.size < W0.heap.size; omega)).trans b3; have b4' := (hb.cell (p := ⟨w.heap.size, 4, none⟩) (by show w.heap.size < W0.heap.size; omega)).trans b4)
          go_quiet (fail)
          go_wp2_with fail
          exact ⟨rfl, Judged.thrown hq.out (by decide) rfl (hB0.trans ((below_drewN hb _).mono hB0.size))⟩
      · rw [if_neg hz] at hcall how
        have HC := Lib.hid (judged_bad hcall hz)
        have hq : Hid (r = (er, s)) := by show _ = _; rw [hfin.out, how.out, seqW_bad hz]
        have HZ := Lib.hid hz
        clear hz how hfin hcall hze
        go_wp2_with (go_at_call 58; refine HC.out.mono ?_; rintro e w1 ⟨rfl, hb⟩)
        exact ⟨rfl, Judged.thrown hq.out HZ.out rfl (hB0.trans (hb.mono hB0.size))⟩
    have e9 : (k == 9) = false := by simpa using h9
    have hq : Hid ((ownEx t fs l k s args.length).1 = 0) := by
      show _ = _
      unfold ownEx
      rw [if_neg h3, if_neg h7, if_neg h8, if_neg h9]; rfl
    clear h3 h7 h8 h9
    go_wp2_with fail
    go_meet
    exact ⟨hq, Below.refl _ _⟩
  case rest =>
    obtain ⟨hown, hBc⟩ := hcut
    have hfin2 : Hid (r = Ex.kWs t fs l args) := by show _ = _; rw [hfin.out, seqW_fine hown.out]
    have hBw : Below w.heap.size w wc := hB0.trans (hBc.mono hB0.size)
    have b4c := (hBc.cell (p := ⟨w.heap.size, 4, none⟩) hz0).trans b4
    obtain ⟨_, hal, hac, haa⟩ := hargs.opn
    have HIH := Lib.hid (fun (x : Ex) (hx : x ∈ args) (W : World) (cs : List Value) (hW : Below w.heap.size w W) (hrx : RdEx F W x cs) => ih x hx l F W B cs (hF.below hW) (hct.below hF hW) (hcl.below hF hW) (CkF.below ⟨hB, _, hfv, hfr⟩ hF hW) hrx)
    clear hown hfin hcl hct hsl hrow HS HO ih hfa hfv hfr hargs
    go_wp2_with fail
    go_loopw [55] (fun i wr => ∃ kk : Nat, kk ≤ args.length ∧ i = .int .i64 kk ∧ Hid (Ex.kWs t fs l args = Ex.kWs t fs l (args.drop kk)) ∧ Below wc.heap.size wc wr) (fun i _ => args.length - (intOf i).toNat)
    case atStart => exact ⟨0, Nat.zero_le _, rfl, by show _ = _; rw [List.drop_zero], Below.refl _ _⟩
    case round =>
      obtain ⟨kk, hk, rfl, hq, hB⟩ := hrel
      have hBr : Below w.heap.size w wr := hBw.trans (hB.mono hBw.size)
      by_cases hlt : kk < args.length
      · obtain ⟨b, off, rfl, hFb, hel⟩ := haa (by omega)
        obtain ⟨kd', o', n', s', a', m', cap', hx, g0, g1, g2, g3, g4⟩ := hel wr (hBr.block b (hF b hFb)) kk hlt
        have hmem := List.getElem_mem hlt
        have hcall := fun o => HIH.out args[kk] hmem (wr.alloc o) _ (hBr.alloc hBr.size o) ((hx.below hF hBr (Nat.le_refl _)).alloc (hF.below hBr) o)
        have hdk : Ex.kWs t fs l (args.drop kk) = seqW (args[kk].kW t fs l) (Ex.kWs t fs l (args.drop (kk + 1))) := by rw [List.drop_eq_getElem_cons hlt]; rfl
        clear hel haa hx hmem
        by_cases hz : (args[kk].kW t fs l).1 = 0
        · have hnx : Hid (Ex.kWs t fs l args = Ex.kWs t fs l (args.drop (kk + 1))) := by show _ = _; rw [hq.out, hdk, seqW_fine hz]
          have HC := Lib.hid (fun o => judged_ok (hcall o) hz)
          clear hcall hdk hz hq
          go_wp2_with (go_at_call 34; refine (HC.out _).mono ?_; rintro e w1 ⟨rfl, hb⟩)
          go_roundw
          case rel => exact ⟨kk + 1, by omega, by go_num, hnx, below_on1 hB (Nat.le_refl _) hb⟩
          case measure => simp [intOf]; omega
        · have hnx : Hid (r = ((args[kk].kW t fs l).1, (args[kk].kW t fs l).2)) := by show _ = _; rw [hfin2.out, hq.out, hdk, seqW_bad hz]
          have HC := Lib.hid (fun o => judged_bad (hcall o) hz)
          have HZ := Lib.hid hz
          clear hcall hdk hz hq hfin2
          generalize args[kk].kW t fs l = p at HC HZ hnx
          go_wp2_with (go_at_call 34; refine (HC.out _).mono ?_; rintro e w1 ⟨rfl, hb⟩)
          exact ⟨rfl, Judged.thrown hnx.out HZ.out rfl (below_on1 hBr (Nat.le_refl _) hb)⟩
      · have hend : Hid (r = fineW) := by
          show _ = _
          rw [hfin2.out, hq.out, List.drop_eq_nil_of_le (by omega)]; rfl
        clear hq hfin2
        go_wp2_with fail
        go_end0
        exact Judged.fine (by rw [hend.out]; rfl) rfl hBr
end Go.Proofs.Ytblhpiebheommaa
