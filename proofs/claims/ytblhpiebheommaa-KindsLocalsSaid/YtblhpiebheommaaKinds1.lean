/- The walks of kinds' checker: of, local, stands. What is wrong is thrown. -/
import Derived.Test.YtblhpiebheommaaNamesO
import Derived.Test.YtblhpiebheommaaSrc
namespace Go.Proofs.Ytblhpiebheommaa
open Go.RowKit

/-- What is wrong, as it is thrown. -/
def wrongV (er : Int) (nm : ByteArray) : Value := .iface 106 (.agg #[.int .i64 er, .string nm])
/-- A call's post: it throws. -/
def Throws (w : World) (er : Int) (nm : ByteArray) (e : Ending) (w' : World) : Prop := e = .panicked [{ v := wrongV er nm, recovered := false }] ∧ Below w.heap.size w w'

/-- The checker's cell that holds the table of names. -/
def CkT (F : Nat → Prop) (w : World) (B : Nat) (t : List NameD) : Prop := B < w.heap.size ∧ ∃ v, w.cell? ⟨B, 0, none⟩ = some v ∧ RdNames F w t v
/-- The checker's cell that holds the locals. -/
def CkL (F : Nat → Prop) (w : World) (B : Nat) (l : List ByteArray) : Prop := B < w.heap.size ∧ ∃ v, w.cell? ⟨B, 14, none⟩ = some v ∧ RdStrs F w l v
theorem CkT.below {F : Nat → Prop} {w w' : World} {B : Nat} {t : List NameD} (h : CkT F w B t) (hF : Inn F w) (hb : Below w.heap.size w w') : CkT F w' B t := by
  obtain ⟨h1, v, h2, h3⟩ := h
  exact ⟨Nat.lt_of_lt_of_le h1 hb.size, v, by rw [hb.cell (p := ⟨B, 0, none⟩) h1]; exact h2, h3.below hF hb (Nat.le_refl _)⟩
theorem CkL.below {F : Nat → Prop} {w w' : World} {B : Nat} {t : List ByteArray} (h : CkL F w B t) (hF : Inn F w) (hb : Below w.heap.size w w') : CkL F w' B t := by
  obtain ⟨h1, v, h2, h3⟩ := h
  exact ⟨Nat.lt_of_lt_of_le h1 hb.size, v, by rw [hb.cell (p := ⟨B, 14, none⟩) h1]; exact h2, h3.below hF hb (Nat.le_refl _)⟩

/-- A call's post: where nothing is wrong it hands back v; else what is wrong is thrown. -/
def Judged (w : World) (p : Int × ByteArray) (v : Value) (e : Ending) (w' : World) : Prop :=
  (p.1 = 0 → e = .returned v) ∧ (p.1 ≠ 0 → e = .panicked [{ v := wrongV p.1 p.2, recovered := false }]) ∧ Below w.heap.size w w'
theorem judged_ok {P : Program} {k : Nat} {args : Array Value} {w : World} {p : Int × ByteArray} {v : Value} (h : Calls P k args w (Judged w p v)) (hp : p.1 = 0) : Calls P k args w fun e w' => e = .returned v ∧ Below w.heap.size w w' := h.mono fun _ _ ⟨h1, _, h3⟩ => ⟨h1 hp, h3⟩
theorem judged_bad {P : Program} {k : Nat} {args : Array Value} {w : World} {p : Int × ByteArray} {v : Value} (h : Calls P k args w (Judged w p v)) (hp : p.1 ≠ 0) : Calls P k args w fun e w' => e = .panicked [{ v := .iface 106 (.agg #[.int .i64 p.1, .string p.2]), recovered := false }] ∧ Below w.heap.size w w' := h.mono fun _ _ ⟨_, h2, h3⟩ => ⟨h2 hp, h3⟩
theorem Judged.fine {w w' : World} {p : Int × ByteArray} {v : Value} {e : Ending} (hp : p.1 = 0) (he : e = .returned v) (hb : Below w.heap.size w w') : Judged w p v e w' := ⟨fun _ => he, fun h => absurd hp h, hb⟩
theorem Judged.thrown {w w' : World} {p : Int × ByteArray} {v : Value} {e : Ending} {er : Int} {nm : ByteArray} (hp : p = (er, nm)) (h0 : er ≠ 0) (he : e = .panicked [{ v := .iface 106 (.agg #[.int .i64 er, .string nm]), recovered := false }]) (hb : Below w.heap.size w w') : Judged w p v e w' := by
  subst hp; exact ⟨fun h => absurd h h0, fun _ => he, hb⟩

def fineW : Int × ByteArray := (0, ⟨#[]⟩)
/-- What is wrong with a name of a kind. -/
def ofW (t : List NameD) (kind : Int) (n : ByteArray) : Int × ByteArray := if (ofN t kind n).2 = 0 then fineW else ((ofN t kind n).2, n)

set_option maxRecDepth 20000 in
set_option maxHeartbeats 1000000 in
theorem of_calls (t : List NameD) (kind : Int) (n : ByteArray) (F : Nat → Prop) (w : World) (B : Nat) (hF : Inn F w) (hc : CkT F w B t) (hri : Rises t) (ht : t.length ≤ 1000000000000) :
    Calls Try.prog 58 #[.pointer (some ⟨B, 0, none⟩), .int .i64 kind, .string n] w (Judged w (ofW t kind n) (.int .i64 (ofN t kind n).1)) := by
  obtain ⟨hB, v, hv, hr⟩ := hc
  have hf := ofT_calls t kind n F w v hF hr hri ht
  unfold ofW
  generalize ofN t kind n = p at hf ⊢
  obtain ⟨p1, p2⟩ := p
  have HC := Lib.hid hf
  obtain ⟨a, cap, rfl⟩ := hr.shape
  clear hf hr hri
  by_cases he : p2 = 0
  · subst he
    go_enter Try.func58, Try.ntmps58
    go_wp2_with (go_at_call 76; refine HC.out.mono ?_; rintro e w1 ⟨rfl, hb⟩)
    go_ret
    exact Judged.fine (by simp [fineW]) rfl hb
  · have e0 : (p2 != 0) = true := by simpa using he
    have hp : Hid ((if p2 = 0 then fineW else (p2, n)) = (p2, n)) := if_neg he
    have HE := Lib.hid he
    clear he
    generalize (if p2 = 0 then fineW else (p2, n)) = r at hp ⊢
    go_enter Try.func58, Try.ntmps58
    go_wp2_with (go_at_call 76; refine HC.out.mono ?_; rintro e w1 ⟨rfl, hb⟩)
    exact ⟨rfl, Judged.thrown (er := p2) (nm := n) hp.out HE.out rfl hb⟩

set_option maxRecDepth 20000 in
set_option maxHeartbeats 1000000 in
theorem local_calls (l : List ByteArray) (n : ByteArray) (F : Nat → Prop) (w : World) (B : Nat) (hc : CkL F w B l) :
    Calls Try.prog 74 #[.pointer (some ⟨B, 0, none⟩), .string n] w (Same0 w (.bool (dec (n ∈ l)))) := by
  obtain ⟨hB, v, hv, hr⟩ := hc
  obtain ⟨a, cap, rfl, hl, hc, ha⟩ := hr.opn
  unfold maxLen at hc
  have hyes : Hid (n ∈ l → dec (n ∈ l) = true) := fun h => dec_true h
  have hno : Hid ((∀ i (hi : i < l.length), l[i] ≠ n) → dec (n ∈ l) = false) := fun h => by
    refine dec_false fun hm => ?_
    obtain ⟨i, hi, e⟩ := List.getElem_of_mem hm
    exact h i hi e
  generalize dec (n ∈ l) = r at hyes hno ⊢
  clear hr
  go_enter Try.func74, Try.ntmps74
  go_wp2
  go_loop [12] (fun i => ∃ (k : Nat), k ≤ l.length ∧ i = .int .i64 k ∧ Hid (∀ i (hi : i < l.length), i < k → l[i] ≠ n)) (fun i => l.length - (intOf i).toNat)
  case atStart => exact ⟨0, Nat.zero_le _, rfl, fun i _ h => absurd h (by omega)⟩
  case round =>
    obtain ⟨k, hk, rfl, hq⟩ := hrel
    by_cases hlt : k < l.length
    · obtain ⟨b, off, rfl, hFb, hel⟩ := ha (by omega)
      obtain ⟨cs, ⟨h1, rfl⟩, -, hcell⟩ := hel w rfl k hlt
      have g0 := hcell 0 _ rfl
      simp only [Nat.add_zero, Nat.mul_one] at g0
      obtain ⟨x, hx⟩ : ∃ x, x = l[k] := ⟨_, rfl⟩
      rw [← hx] at g0
      have hm : x ∈ l := by rw [hx]; exact List.getElem_mem hlt
      have HX := Lib.hid hx
      clear hel hcell ha h1 hx
      by_cases he : x = n
      · subst he
        have hfin := Lib.hid (hyes.out hm)
        clear hq hyes hno hm
        go_wp2
        go_ret
        exact ⟨ret_bool hfin.out.symm, rfl⟩
      · have e1 : (x.toList == n.toList) = false := by rw [beq_str]; simpa using he
        have hnx : Hid (∀ i (hi : i < l.length), i < k + 1 → l[i] ≠ n) := fun i hi h => by
          by_cases hik : i = k
          · subst hik; rw [← HX.out]; exact he
          · exact hq.out i hi (by omega)
        clear hq hyes hno he hm
        go_wp2
        go_round
        case rel => exact ⟨k + 1, by omega, by go_num, hnx⟩
        case measure => simp [intOf]; omega
    · have hfin := Lib.hid (hno.out (fun i hi => hq.out i hi (by omega)))
      clear hq hyes hno
      go_wp2
      go_ret
      exact ⟨ret_bool hfin.out.symm, rfl⟩

/-- An int. -/
def Holds.int : Holds Int := ⟨fun _ _ x cs => I64 x ∧ cs = [.int .i64 x], fun _ _ h => h⟩

/-- What is wrong with a name that must be a local, or of one of some kinds. -/
noncomputable def eitherW (t : List NameD) (locals : List ByteArray) (ks : List Int) (n : ByteArray) : Int × ByteArray :=
  if dec (n ∈ locals) = true then fineW else
  match findN t n with
  | none => (11, n)
  | some x => if x.kind ∈ ks then fineW else (12, n)

set_option maxRecDepth 20000 in
set_option maxHeartbeats 2000000 in
theorem stands_calls (t : List NameD) (l : List ByteArray) (ks : List Int) (n : ByteArray) (F G : Nat → Prop) (w : World) (B : Nat) (kv : Value) (hF : Inn F w) (hc : CkT F w B t) (hcl : CkL F w B l) (hG : Inn G w) (hks : RdL Holds.int 1 G w ks kv) (hri : Rises t) (ht : t.length ≤ 1000000000000) :
    Calls Try.prog 57 #[.pointer (some ⟨B, 0, none⟩), .string n, kv] w (Judged w (eitherW t l ks n) (.tuple #[])) := by
  have hloc := local_calls l n F w B hcl
  obtain ⟨hB, v, hv, hr⟩ := hc
  have hfd := findT_calls t n F w v hF hr hri ht
  obtain ⟨a, cap, rfl⟩ := hr.shape
  obtain ⟨ka, kcap, rfl, kl, kc, ha⟩ := hks.opn
  unfold maxLen at kc
  unfold eitherW
  by_cases hm : n ∈ l
  · rw [dec_true hm] at hloc
    have HL := Lib.hid hloc
    rw [if_pos (dec_true hm)]
    clear hloc hm hfd hr hri hks ha
    go_enter Try.func57, Try.ntmps57
    go_wp2_with (go_at_call 74; refine HL.out.mono ?_; rintro e w1 ⟨rfl, rfl⟩)
    go_end0
    exact Judged.fine rfl rfl (Below.refl _ _)
  rw [dec_false hm] at hloc
  rw [if_neg (by rw [dec_false hm]; decide)]
  have HL := Lib.hid hloc
  clear hloc hm
  cases ho : findN t n with
  | none =>
    rw [ho] at hfd
    have HD := Lib.hid (found_none hfd)
    clear ho hfd hr hri hks ha
    go_enter Try.func57, Try.ntmps57
    go_wp2_with (first | (go_at_call 74; refine HL.out.mono ?_; rintro e w1 ⟨rfl, rfl⟩) | (go_at_call 75; refine HD.out.mono ?_; rintro e w1 ⟨rfl, hb⟩))
    exact ⟨rfl, Judged.thrown rfl (by decide) rfl (hb.alloc hb.size _)⟩
  | some x =>
    rw [ho] at hfd
    have HD := Lib.hid (found_some hfd)
    have hyes : Hid (x.kind ∈ ks → ((if x.kind ∈ ks then fineW else (12, n)) : Int × ByteArray) = fineW) := fun h => if_pos h
    have hno : Hid ((∀ i (hi : i < ks.length), ks[i] ≠ x.kind) → ((if x.kind ∈ ks then fineW else (12, n)) : Int × ByteArray) = (12, n)) := fun h => if_neg (fun hm => by
      obtain ⟨i, hi, e⟩ := List.getElem_of_mem hm
      exact h i hi e)
    show Calls _ _ _ _ (Judged w (if x.kind ∈ ks then fineW else (12, n)) (.tuple #[]))
    generalize (if x.kind ∈ ks then fineW else (12, n) : Int × ByteArray) = r at hyes hno ⊢
    clear ho hfd hr hri hks
    go_enter Try.func57, Try.ntmps57
    go_wp2_with (first | (go_at_call 74; refine HL.out.mono ?_; rintro e w1 ⟨rfl, rfl⟩) | (go_at_call 75; refine HD.out.mono ?_; rintro e w1 ⟨rfl, hb⟩))
    have hB1 : Below w.heap.size w (w1.alloc (.cells #[.string x.name, .int .i64 x.kind, .int .i64 x.num] 63)) := hb.alloc hb.size _
    have k1 : (w1.alloc (.cells #[.string x.name, .int .i64 x.kind, .int .i64 x.num] 63)).cell? ⟨w1.heap.size, 1, none⟩ = some (.int .i64 x.kind) := by simp
    generalize w1.alloc (.cells #[.string x.name, .int .i64 x.kind, .int .i64 x.num] 63) = W1 at hB1 k1 ⊢
    go_loop [29] (fun i => ∃ (k : Nat), k ≤ ks.length ∧ i = .int .i64 k ∧ Hid (∀ i (hi : i < ks.length), i < k → ks[i] ≠ x.kind)) (fun i => ks.length - (intOf i).toNat)
    case atStart => exact ⟨0, Nat.zero_le _, rfl, fun i _ h => absurd h (by omega)⟩
    case round =>
      obtain ⟨k, hk, rfl, hq⟩ := hrel
      by_cases hlt : k < ks.length
      · obtain ⟨b, off, rfl, hGb, hel⟩ := ha (by omega)
        obtain ⟨cs, ⟨h1, rfl⟩, -, hcell⟩ := hel W1 (hB1.block b (hG b hGb)) k hlt
        have g0 := hcell 0 _ rfl
        simp only [Nat.add_zero, Nat.mul_one] at g0
        obtain ⟨y, hy⟩ : ∃ y, y = ks[k] := ⟨_, rfl⟩
        rw [← hy] at g0
        have hm : y ∈ ks := by rw [hy]; exact List.getElem_mem hlt
        have HX := Lib.hid hy
        clear hel hcell ha h1 hy
        by_cases he : x.kind = y
        · subst he
          have hfin := Lib.hid (hyes.out hm)
          clear hq hyes hno hm
          go_wp2
          go_end0
          exact Judged.fine (by rw [hfin.out]; rfl) rfl hB1
        · have e1 : (x.kind == y) = false := by simpa using he
          have hnx : Hid (∀ i (hi : i < ks.length), i < k + 1 → ks[i] ≠ x.kind) := fun i hi h => by
            by_cases hik : i = k
            · subst hik; rw [← HX.out]; exact fun h => he h.symm
            · exact hq.out i hi (by omega)
          clear hq hyes hno he hm
          go_wp2
          go_round
          case rel => exact ⟨k + 1, by omega, by go_num, hnx⟩
          case measure => simp [intOf]; omega
      · have hfin := Lib.hid (hno.out (fun i hi => hq.out i hi (by omega)))
        clear hq hyes hno
        go_wp2
        exact ⟨rfl, Judged.thrown hfin.out (by decide) rfl hB1⟩
end Go.Proofs.Ytblhpiebheommaa
