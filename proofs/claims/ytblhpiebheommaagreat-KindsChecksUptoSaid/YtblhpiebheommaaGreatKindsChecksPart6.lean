/- A row's arguments that are a Source or a slice of strings. -/
import Derived.Test.YtblhpiebheommaaGreatKindsChecksPart5
import Derived.Test.YtblhpiebheommaaGreatKindsChecksPart3
import Derived.JoinedCond
import Derived.HandedShaped
import Derived.Test.YtblhpiebheommaaGreatKindsChecksPart2
import Derived.BigQuiet
import Derived.Deep.QuietTactic
namespace Go.Proofs.YtblhpiebheommaaGreat
open Go.ChangeShapes Go.WideShapes Go.ChangeAt Go.RowKit

section
variable {H : Type} {enc : TypeId × Value → H} {W : World} {base : Nat} {v : Value} {d : DataW H} {p : List MemPlace}

set_option maxRecDepth 100000 in
theorem arg_src (hv : Value.okWide Tryz.prog W .any base 29 v) (h : DataW.Trod enc Tryz.prog W 0 (fun _ => true) true 29 v d p) : ∃ (s : SrcD) (cs : List Value), v = .agg cs.toArray ∧ Holds.src.R (fun b => b < W.heap.size) W s cs := by
  obtain ⟨cs, rfl, _⟩ := okWide_struct Tryz.underlying29 hv
  obtain ⟨fuel, hf⟩ := h
  obtain ⟨e, he⟩ := read_src fuel _ _ hf
  exact ⟨e, cs.toList, by simp, he⟩
set_option maxRecDepth 100000 in
theorem arg_strs (hv : Value.okWide Tryz.prog W .any base 22 v) (h : DataW.Trod enc Tryz.prog W 0 (fun _ => true) true 22 v d p) : ∃ (l : List ByteArray), RdStrs (fun b => b < W.heap.size) W l v := by
  obtain ⟨a, len, cap, rfl⟩ := okWide_slice Tryz.underlying22 hv
  obtain ⟨fuel, hf⟩ := h
  obtain ⟨v', l, hv', hl⟩ := rdl_of Tryz.underlying22 ce_str (by omega) hf Holds.str read_str1
  have : Value.slice a len cap = v' := by simpa [Value.cells] using hv'
  subst this
  exact ⟨l, hl⟩
set_option maxRecDepth 100000 in
theorem same_src {W' : World} (h : DataW.Trod enc Tryz.prog W 0 (fun _ => true) true 29 v d p) (hb : Below W.heap.size W W') (hlt : ∀ x ∈ p, x.block < W.heap.size) : DataW.Trod enc Tryz.prog W' 0 (fun b => decide (b < W.heap.size)) true 29 v d p :=
  Below.trod Tryz.laidOut (by kernel_rfl) (of_decide_eq_true (by kernel_rfl)) h hb hlt
set_option maxRecDepth 100000 in
theorem same_strs {W' : World} (h : DataW.Trod enc Tryz.prog W 0 (fun _ => true) true 22 v d p) (hb : Below W.heap.size W W') (hlt : ∀ x ∈ p, x.block < W.heap.size) : DataW.Trod enc Tryz.prog W' 0 (fun b => decide (b < W.heap.size)) true 22 v d p :=
  Below.trod Tryz.laidOut (by kernel_rfl) (of_decide_eq_true (by kernel_rfl)) h hb hlt
end
end Go.Proofs.YtblhpiebheommaaGreat
/- The bulk of a Source's reading bounds the lengths of its declarations. -/
namespace Go.Proofs.YtblhpiebheommaaGreat
open Go.RowKit Go.ChangeShapes Go.WideShapes

section
variable {H : Type} {enc : TypeId × Value → H} {W : World}

set_option maxRecDepth 20000 in
theorem src_bulk {sp : Nat → Bool} {held : Bool} (fuel : Nat) (cs : List Value) (x : DataW H × List MemPlace) (h : DataW.trod enc Tryz.prog W 0 sp held fuel 29 cs = some x) {F : Nat → Prop} {w : World} {s : SrcD} (hs : Holds.src.R F w s cs) :
    s.flags.length + s.props.length + s.globals.length + s.objects.length + s.verbs.length + s.rules.length + s.funcs.length + s.daemons.length ≤ Rows.uptoBulk x.1 := by
  obtain ⟨a5, k5, a6, k6, a7, k7, a8, k8, a9, k9, a10, k10, a11, k11, a12, k12, rfl, -⟩ := src_shape hs
  obtain ⟨xs, m, rfl, rfl, hl, hlen, hf⟩ := DataW.trod_struct Tryz.underlying29 h
  have hlen : xs.length = 13 := hlen
  match xs, hlen with
  | [y0, y1, y2, y3, y4, y5, y6, y7, y8, y9, y10, y11, y12], _ =>
    have h5 := hf 5 _ rfl
    have h6 := hf 6 _ rfl
    have h7 := hf 7 _ rfl
    have h8 := hf 8 _ rfl
    have h9 := hf 9 _ rfl
    have h10 := hf 10 _ rfl
    have h11 := hf 11 _ rfl
    have h12 := hf 12 _ rfl
    obtain ⟨b5, n5, m5, q5, r5⟩ := sl_bulk Tryz.underlying22 h5
    obtain ⟨b6, n6, m6, q6, r6⟩ := sl_bulk Tryz.underlying23 h6
    obtain ⟨b7, n7, m7, q7, r7⟩ := sl_bulk Tryz.underlying23 h7
    obtain ⟨b8, n8, m8, q8, r8⟩ := sl_bulk Tryz.underlying24 h8
    obtain ⟨b9, n9, m9, q9, r9⟩ := sl_bulk Tryz.underlying25 h9
    obtain ⟨b10, n10, m10, q10, r10⟩ := sl_bulk Tryz.underlying26 h10
    obtain ⟨b11, n11, m11, q11, r11⟩ := sl_bulk Tryz.underlying27 h11
    obtain ⟨b12, n12, m12, q12, r12⟩ := sl_bulk Tryz.underlying27 h12
    have e5 : Value.slice a5 s.flags.length k5 = Value.slice b5 n5 m5 := by simpa [cz9] using q5
    have e5 : s.flags.length = n5 := by injection e5
    have e6 : Value.slice a6 s.props.length k6 = Value.slice b6 n6 m6 := by simpa [cz10] using q6
    have e6 : s.props.length = n6 := by injection e6
    have e7 : Value.slice a7 s.globals.length k7 = Value.slice b7 n7 m7 := by simpa [cz10] using q7
    have e7 : s.globals.length = n7 := by injection e7
    have e8 : Value.slice a8 s.objects.length k8 = Value.slice b8 n8 m8 := by simpa [cz14] using q8
    have e8 : s.objects.length = n8 := by injection e8
    have e9 : Value.slice a9 s.verbs.length k9 = Value.slice b9 n9 m9 := by simpa [cz15] using q9
    have e9 : s.verbs.length = n9 := by injection e9
    have e10 : Value.slice a10 s.rules.length k10 = Value.slice b10 n10 m10 := by simpa [cz16] using q10
    have e10 : s.rules.length = n10 := by injection e10
    have e11 : Value.slice a11 s.funcs.length k11 = Value.slice b11 n11 m11 := by simpa [cz17] using q11
    have e11 : s.funcs.length = n11 := by injection e11
    have e12 : Value.slice a12 s.daemons.length k12 = Value.slice b12 n12 m12 := by simpa [cz17] using q12
    have e12 : s.daemons.length = n12 := by injection e12
    clear hf h5 h6 h7 h8 h9 h10 h11 h12 q5 q6 q7 q8 q9 q10 q11 q12
    show s.flags.length + s.props.length + s.globals.length + s.objects.length + s.verbs.length + s.rules.length + s.funcs.length + s.daemons.length ≤ Rows.uptoBulk (DataW.agg (y0.1 :: y1.1 :: y2.1 :: y3.1 :: y4.1 :: y5.1 :: y6.1 :: y7.1 :: y8.1 :: y9.1 :: y10.1 :: y11.1 :: y12.1 :: []))
    simp only [Rows.uptoBulk, Rows.uptoBulkAll]
    omega

set_option maxRecDepth 100000 in
theorem arg_src_bulk {v : Value} {d : DataW H} {p : List MemPlace} {base : Nat} (hv : Value.okWide Tryz.prog W .any base 29 v) (h : DataW.Trod enc Tryz.prog W 0 (fun _ => true) true 29 v d p) :
    ∃ (s : SrcD) (cs : List Value), v = .agg cs.toArray ∧ Holds.src.R (fun b => b < W.heap.size) W s cs ∧ s.flags.length + s.props.length + s.globals.length + s.objects.length + s.verbs.length + s.rules.length + s.funcs.length + s.daemons.length ≤ Rows.uptoBulk d := by
  obtain ⟨cs, rfl, _⟩ := okWide_struct Tryz.underlying29 hv
  obtain ⟨fuel, hf⟩ := h
  obtain ⟨e, he⟩ := read_src fuel _ _ hf
  exact ⟨e, cs.toList, by simp, he, src_bulk fuel _ _ hf he⟩

set_option maxRecDepth 100000 in
theorem arg_int {v : Value} {base : Nat} (hv : Value.okWide Tryz.prog W .any base 3 v) : ∃ n, v = .int .i64 n := okWide_int Tryz.underlying3 hv
set_option maxRecDepth 100000 in
theorem same_int {v : Value} {d : DataW H} {p : List MemPlace} {W' : World} (h : DataW.Trod enc Tryz.prog W 0 (fun _ => true) true 3 v d p) (hb : Below W.heap.size W W') (hlt : ∀ x ∈ p, x.block < W.heap.size) : DataW.Trod enc Tryz.prog W' 0 (fun b => decide (b < W.heap.size)) true 3 v d p :=
  Below.trod Tryz.laidOut (by kernel_rfl) (of_decide_eq_true (by kernel_rfl)) h hb hlt

theorem bulk_le {d : DataW H} : ∀ {l : List (DataW H)}, d ∈ l → Rows.uptoBulk d ≤ Rows.uptoBulkAll l
  | x :: r, h => by
    simp only [Rows.uptoBulkAll]
    rcases List.mem_cons.1 h with rfl | h
    · omega
    · have := bulk_le h
      omega
theorem bulk_bound {l : List (DataW H)} (hk : Rows.uptoSmall H l = true) : Rows.uptoBulkAll l ≤ 1048576 := of_decide_eq_true hk
end
end Go.Proofs.YtblhpiebheommaaGreat
/- The bulk of a Source's reading bounds the lengths of its objects' words; a row's shape where the contract asks for the shaped world and for the bulk. -/
namespace Go.Proofs.YtblhpiebheommaaGreat
open Go.RowKit Go.ChangeShapes Go.WideShapes

section
variable {H : Type} {enc : TypeId × Value → H} {W : World}

theorem bulk_all {d : DataW H} {l : List (DataW H)} (h : d ∈ l) : Rows.uptoBulk d ≤ Rows.uptoBulk (DataW.agg l) := by
  have := bulk_le h
  simp only [Rows.uptoBulk]
  omega

set_option maxRecDepth 20000 in
theorem objs_bulk {sp : Nat → Bool} {held : Bool} (fuel : Nat) {l : List ObjD} {v : Value} (x : DataW H × List MemPlace) (h : DataW.trod enc Tryz.prog W 0 sp held fuel 24 [v] = some x) {F : Nat → Prop} (hr : RdL Holds.obj 10 F W l v) :
    ∀ o ∈ l, o.words.length ≤ Rows.uptoBulk x.1 ∧ o.adjs.length ≤ Rows.uptoBulk x.1 := by
  obtain ⟨a, cap, rfl, hl, hc, ha⟩ := hr.opn
  intro o ho
  obtain ⟨i, hi, rfl⟩ := List.getElem_of_mem ho
  obtain ⟨b, off, rfl, hFb, hel⟩ := ha (by omega)
  obtain ⟨cs, ⟨-, -, -, -, v5, v6, v7, v8, v9, rfl, j5, j6, -⟩, -, hcell⟩ := hel W rfl i hi
  obtain ⟨d5, f5, rfl⟩ := j5.shape
  obtain ⟨d6, f6, rfl⟩ := j6.shape
  have c5 := hcell 5 _ rfl
  have c6 := hcell 6 _ rfl
  generalize l[i] = o at c5 c6 ⊢
  rcases DataW.trod_slice Tryz.underlying24 h with ⟨e, _⟩ | ⟨a', len, cap', elems, rest, n, rfl, e, rfl, _, hl', hm, hlen, hel', _, _⟩
  · cases e
  · simp only [List.cons.injEq, Value.slice.injEq, Option.some.injEq, and_true] at e
    obtain ⟨rfl, rfl, rfl⟩ := e
    have h1 := hel' i hi
    rw [cz2, List.getElem?_eq_getElem (show i < elems.length by omega)] at h1
    obtain ⟨cs', h2, h3⟩ := Option.bind_eq_some_iff.1 h1
    have hci := World.cells?_some h2
    obtain ⟨xs, m, -, he, -, hlen2, hf⟩ := DataW.trod_struct Tryz.underlying41 h3
    have hlen2 : xs.length = 10 := hlen2
    have hcl : cs'.length = 10 := hci.2.1
    have g5 : cs'[5]? = some (.slice d5 o.words.length f5) := by
      have := hci.2.2 5 (by omega)
      rw [addr_add, addr_add] at this
      rw [← this]; exact c5
    have g6 : cs'[6]? = some (.slice d6 o.adjs.length f6) := by
      have := hci.2.2 6 (by omega)
      rw [addr_add, addr_add] at this
      rw [← this]; exact c6
    have h5 := hf 5 _ rfl
    have h6 := hf 6 _ rfl
    rw [List.getElem?_eq_getElem (show 5 < xs.length by omega)] at h5
    rw [List.getElem?_eq_getElem (show 6 < xs.length by omega)] at h6
    obtain ⟨b5, n5, m5, q5, r5⟩ := sl_bulk Tryz.underlying22 h5
    obtain ⟨b6, n6, m6, q6, r6⟩ := sl_bulk Tryz.underlying22 h6
    have k5 : cs'[5]? = some (.slice b5 n5 m5) := by
      have := congrArg (fun l => l[0]?) q5
      simpa [cz9, List.getElem?_take, List.getElem?_drop] using this
    have k6 : cs'[6]? = some (.slice b6 n6 m6) := by
      have := congrArg (fun l => l[0]?) q6
      simpa [cz9, List.getElem?_take, List.getElem?_drop] using this
    rw [g5] at k5
    rw [g6] at k6
    simp only [Option.some.injEq, Value.slice.injEq] at k5 k6
    have e1 : Rows.uptoBulk (elems[i].1) ≤ Rows.uptoBulk (DataW.slice (elems.map (·.1)) (rest.map (·.1))) := by
      have := bulk_le (d := elems[i].1) (l := elems.map (·.1)) (List.mem_map.2 ⟨_, List.getElem_mem _, rfl⟩)
      simp only [Rows.uptoBulk]
      omega
    have e2 : elems[i].1 = DataW.agg (xs.map (·.1)) := by rw [he]
    have e5 : Rows.uptoBulk xs[5].1 ≤ Rows.uptoBulk elems[i].1 := by rw [e2]; exact bulk_all (List.mem_map.2 ⟨_, List.getElem_mem _, rfl⟩)
    have e6 : Rows.uptoBulk xs[6].1 ≤ Rows.uptoBulk elems[i].1 := by rw [e2]; exact bulk_all (List.mem_map.2 ⟨_, List.getElem_mem _, rfl⟩)
    have e1' := e1
    constructor
    · rw [k5.2.1]; exact Nat.le_trans r5 (Nat.le_trans e5 e1')
    · rw [k6.2.1]; exact Nat.le_trans r6 (Nat.le_trans e6 e1')

set_option maxRecDepth 20000 in
theorem src_words {sp : Nat → Bool} {held : Bool} (fuel : Nat) (cs : List Value) (x : DataW H × List MemPlace) (h : DataW.trod enc Tryz.prog W 0 sp held fuel 29 cs = some x) {F : Nat → Prop} {s : SrcD} (hs : Holds.src.R F W s cs) :
    ∀ o ∈ s.objects, o.words.length ≤ Rows.uptoBulk x.1 ∧ o.adjs.length ≤ Rows.uptoBulk x.1 := by
  obtain ⟨a5, k5, a6, k6, a7, k7, a8, k8, a9, k9, a10, k10, a11, k11, a12, k12, rfl, -, -, -, g8, -⟩ := src_shape hs
  obtain ⟨xs, m, rfl, rfl, hl, hlen, hf⟩ := DataW.trod_struct Tryz.underlying29 h
  have hlen : xs.length = 13 := hlen
  have h8 := hf 8 _ rfl
  rw [List.getElem?_eq_getElem (show 8 < xs.length by omega)] at h8
  have h8' : DataW.trod enc Tryz.prog W 0 sp held m 24 [.slice a8 s.objects.length k8] = some xs[8] := by simpa [cz14] using h8
  have hb := objs_bulk m _ h8' g8
  have e8 : Rows.uptoBulk xs[8].1 ≤ Rows.uptoBulk (DataW.agg (xs.map (·.1))) := bulk_all (List.mem_map.2 ⟨_, List.getElem_mem _, rfl⟩)
  exact fun o ho => ⟨Nat.le_trans (hb o ho).1 e8, Nat.le_trans (hb o ho).2 e8⟩

set_option maxRecDepth 100000 in
theorem arg_src_words {v : Value} {d : DataW H} {p : List MemPlace} {base : Nat} (hv : Value.okWide Tryz.prog W .any base 29 v) (h : DataW.Trod enc Tryz.prog W 0 (fun _ => true) true 29 v d p) :
    ∃ (s : SrcD) (cs : List Value), v = .agg cs.toArray ∧ Holds.src.R (fun b => b < W.heap.size) W s cs ∧ s.flags.length + s.props.length + s.globals.length + s.objects.length + s.verbs.length + s.rules.length + s.funcs.length + s.daemons.length ≤ Rows.uptoBulk d ∧ ∀ o ∈ s.objects, o.words.length ≤ Rows.uptoBulk d ∧ o.adjs.length ≤ Rows.uptoBulk d := by
  obtain ⟨cs, rfl, _⟩ := okWide_struct Tryz.underlying29 hv
  obtain ⟨fuel, hf⟩ := h
  obtain ⟨e, he⟩ := read_src fuel _ _ hf
  exact ⟨e, cs.toList, by simp, he, src_bulk fuel _ _ hf he, src_words fuel _ _ hf he⟩
end

/-- A row's shape: a bounded reading, in a world whose own variables are of their types. -/
theorem returnsInHanded_bounded {H : Type} {enc : TypeId × Value → H} {a : Assume} {C : Checked} {os : Os} {f : FuncId} {fn : Func} {s : OpenSpec} {k : (H : Type) → List (DataW H) → Bool} (hk : s.cond = some k) {I : Stop.Interp} {conds : List PathCond} {apart fresh handsOn again : Bool}
    (own : ownKnob C.prog.godebug = none) (started : os.Started) (noInit : C.prog.inits.idxOf? f = none) (hfn : C.prog.funcs[f]? = some fn)
    (witness : ∃ (w : World) (tape : Tape) (i : Input), w.os = os ∧ (w.forCall tape i).Shaped C.prog ∧ i.vars = [] ∧ Input.okWide C.prog (w.forCall tape i) .any w.heap.size f i ∧
      s.pre6 enc C.prog fn conds apart (w.forCall tape i).memory i.args ∧ a.holds C.prog (lone (Frame.enter C.prog f i.args .normal) [] (w.forCall tape i)))
    (contract : ∀ (W : World) (base : Nat) (args : Array Value) (ds gs : List (DataW H)) (before : List MemPlace),
      (∀ (j : Nat) t v, fn.params[j]? = some t → args[j]? = some v → Value.okWide C.prog W .any base t v) →
      DataW.Whole enc C.prog fn.params.toList s.vars apart W args.toList ds gs before → k H (ds ++ gs) = true → W.ShapedOpen C.prog →
      Calls C.prog f args W fun e W' => ∃ v, e = .returned v ∧ (s.at I).post enc C.prog fn apart fresh handsOn again W args v W') :
    ReturnsInHanded a C os f .any (s.pre6 enc C.prog fn conds apart) ((s.at I).post enc C.prog fn apart fresh handsOn again) := by
  refine returnsInHanded_of_calls own started noInit witness fun w tape i _ hsh _ hok hpre hholds => ?_
  obtain ⟨_, _, _, fn', hfn', _, _, _, _, hval⟩ := hok
  obtain rfl : fn' = fn := Option.some.inj (hfn'.symm.trans hfn)
  obtain ⟨ds, gs, before, hw, hc, hkk⟩ := (OpenSpec.pre_some hk conds apart _ _).1 hpre.1
  refine (contract (w.forCall tape i) w.heap.size i.args ds gs before hval (DataW.Whole.of_heap (w' := w.forCall tape i) (by rfl) hw) hkk hsh).mono fun e W' ⟨v, he, hp⟩ => ?_
  subst he
  exact ChangeSpec.post_blind hp
end Go.Proofs.YtblhpiebheommaaGreat
/- What a table of names tells: plain laws. No program in sight. -/
namespace Go.Proofs.YtblhpiebheommaaGreat
open Go.RowKit

/-- The first of a name. -/
def findN (t : List NameD) (n : ByteArray) : Option NameD := t.find? (fun x => decide (x.name = n))

/-- The order of strings. -/
def ltS (a b : ByteArray) : Prop := a.data.toList < b.data.toList
/-- The names of a table rise. -/
def Rises (t : List NameD) : Prop := t.Pairwise (fun x y => ltS x.name y.name)

theorem findN_some {t : List NameD} {n : ByteArray} {x : NameD} (h : findN t n = some x) : x ∈ t ∧ x.name = n :=
  ⟨List.mem_of_find?_eq_some h, by have := List.find?_some h; simpa using this⟩
theorem findN_none {t : List NameD} {n : ByteArray} (h : findN t n = none) : ∀ x ∈ t, x.name ≠ n := by
  intro x hx e
  have := List.find?_eq_none.1 h x hx
  simp [e] at this

theorem ltS_irrefl (a : ByteArray) : ¬ ltS a a := List.lt_irrefl _
theorem ltS_trans {a b c : ByteArray} (h : ltS a b) (k : ltS b c) : ltS a c := List.lt_trans h k
theorem bytes_eq {a b : ByteArray} (h : a.data.toList = b.data.toList) : a = b := by
  cases a; cases b; simp at h; rw [h]
theorem ltS_tri (a b : ByteArray) (h1 : ¬ ltS a b) (h2 : ¬ ltS b a) : a = b :=
  bytes_eq (List.le_antisymm h2 h1)

theorem Rises.inj {t : List NameD} (h : Rises t) {x y : NameD} (hx : x ∈ t) (hy : y ∈ t) (e : x.name = y.name) : x = y := by
  induction t with
  | nil => cases hx
  | cons a t ih =>
    obtain ⟨h1, h2⟩ := List.pairwise_cons.1 h
    rcases List.mem_cons.1 hx with rfl | hx'
    · rcases List.mem_cons.1 hy with rfl | hy'
      · rfl
      · have := h1 y hy'; rw [e] at this; exact absurd this (ltS_irrefl _)
    · rcases List.mem_cons.1 hy with rfl | hy'
      · have := h1 x hx'; rw [e] at this; exact absurd this (ltS_irrefl _)
      · exact ih h2 hx' hy'

theorem Rises.find {t : List NameD} (h : Rises t) {x : NameD} (hx : x ∈ t) : findN t x.name = some x := by
  cases hf : findN t x.name with
  | none => exact absurd rfl (findN_none hf x hx)
  | some y =>
    obtain ⟨hy, e⟩ := findN_some hf
    rw [h.inj hx hy e.symm]

theorem Rises.get {t : List NameD} (h : Rises t) {i j : Nat} (hi : i < t.length) (hj : j < t.length) (hij : i < j) : ltS t[i].name t[j].name := List.pairwise_iff_getElem.1 h i j hi hj hij

/-- The place that a search by halves comes to: all ahead of it are less, all from it on are not. -/
theorem found_at {t : List NameD} (h : Rises t) {n : ByteArray} {i : Nat} (h1 : ∀ k (hk : k < t.length), k < i → ltS t[k].name n) (h2 : ∀ k (hk : k < t.length), i ≤ k → ¬ ltS t[k].name n) :
    (∀ (hi : i < t.length), t[i].name = n → findN t n = some t[i]) ∧ ((∀ hi : i < t.length, t[i].name ≠ n) → findN t n = none) := by
  refine ⟨fun hi e => ?_, fun hne => ?_⟩
  · have := h.find (List.getElem_mem hi); rwa [e] at this
  · cases hf : findN t n with
    | none => rfl
    | some y =>
      obtain ⟨hy, e⟩ := findN_some hf
      obtain ⟨k, hk, rfl⟩ := List.getElem_of_mem hy
      by_cases hlt : k < i
      · have := h1 k hk hlt; rw [e] at this; exact absurd this (ltS_irrefl _)
      · have hi : i < t.length := by omega
        by_cases hki : k = i
        · subst hki; exact absurd e (hne hk)
        · have h3 := h.get hi hk (by omega)
          rw [e] at h3
          exact absurd h3 (h2 i hi (Nat.le_refl _))
end Go.Proofs.YtblhpiebheommaaGreat
/- A slice of expressions or statements that a call has made for itself, read as the walks read one; and one more element of it. -/
namespace Go.Proofs.YtblhpiebheommaaGreat
open Go.RowKit

theorem own_cell {te sz lo : Nat} {w : World} {n : Nat} {ys : List Value} {g cap : Nat} (h : w.ownsRow lo te sz (.slice (some ⟨g, 0, none⟩) n cap) n ys) (i : Nat) (hi : i < n * sz) : w.cell? ⟨g, i, none⟩ = some (ys.getD i undef) := by
  have := h.cells (g := g) rfl i (ys.getD i undef) (by rw [List.getD_eq_getElem?_getD, List.getElem?_eq_getElem (by rw [h.1]; exact hi)]; rfl)
  have ha : (⟨g, 0, none⟩ : Addr).add i = ⟨g, i, none⟩ := by unfold Addr.add; split <;> simp_all
  rwa [ha] at this

theorem getD_drop (ys : List Value) (a j : Nat) : ys.getD (a + j) undef = (ys.drop a).getD j undef := by
  rw [List.getD_eq_getElem?_getD, List.getD_eq_getElem?_getD, List.getElem?_drop]

theorem cellsAt_five {ys : List Value} {i n : Nat} (hy : ys.length = n * 5) (hi : i < n) : cellsAt 5 ys i = [ys.getD (i * 5 + 0) undef, ys.getD (i * 5 + 1) undef, ys.getD (i * 5 + 2) undef, ys.getD (i * 5 + 3) undef, ys.getD (i * 5 + 4) undef] := by
  simp only [getD_drop]
  unfold cellsAt
  have hl : 5 ≤ (ys.drop (i * 5)).length := by rw [List.length_drop, hy]; omega
  match ys.drop (i * 5), hl with
  | a :: b :: c :: d :: e :: r, _ => rfl
theorem cellsAt_six {ys : List Value} {i n : Nat} (hy : ys.length = n * 6) (hi : i < n) : cellsAt 6 ys i = [ys.getD (i * 6 + 0) undef, ys.getD (i * 6 + 1) undef, ys.getD (i * 6 + 2) undef, ys.getD (i * 6 + 3) undef, ys.getD (i * 6 + 4) undef, ys.getD (i * 6 + 5) undef] := by
  simp only [getD_drop]
  unfold cellsAt
  have hl : 6 ≤ (ys.drop (i * 6)).length := by rw [List.length_drop, hy]; omega
  match ys.drop (i * 6), hl with
  | a :: b :: c :: d :: e :: f :: r, _ => rfl

section
variable {te lo : Nat} {w : World} {v : Value}
theorem OwnR.sl {α : Type} {R : Holds α} {sz : Nat} {xs : List α} (h : OwnR R te sz lo w xs v) : ∃ ys : List Value, ys.length = xs.length * sz ∧ SlAt (NewB lo w.heap.size) w sz v xs.length (fun i j => ys.getD (i * sz + j) undef) ∧ ∀ i (h : i < xs.length), R.R (NewB lo w.heap.size) w xs[i] (cellsAt sz ys i) := by
  obtain ⟨ys, G, h1, h2, h3⟩ := h
  refine ⟨ys, h1.1, ?_, fun i hi => R.keep (fun _ _ => rfl) (fun b hb => ⟨(h2 b hb).1, (h2 b hb).2.1⟩) (h3 i hi)⟩
  rcases h1.2 with ⟨rfl, h0⟩ | ⟨g, cap, cur, rfl, hg, hb, hn, hc, _⟩
  · exact ⟨none, 0, by rw [h0], by omega, by unfold maxLen; omega, fun h => absurd h (by omega)⟩
  · refine ⟨_, _, rfl, hn, hc, fun h0 => ⟨g, 0, rfl, ⟨hg, (Array.getElem?_eq_some_iff.1 hb).1⟩, fun i hi j hj => ?_⟩⟩
    have hlt : i * sz + j < xs.length * sz := by
      have := Nat.mul_le_mul_right sz (show i + 1 ≤ xs.length from hi)
      rw [Nat.add_mul] at this; omega
    have := own_cell h1 (i * sz + j) hlt
    rw [show 0 + i * sz + j = i * sz + j by omega]
    exact this

theorem OwnR.exs {xs : List Ex} (h : OwnR Holds.ex te 5 lo w xs v) : Exs (NewB lo w.heap.size) w xs v := by
  obtain ⟨ys, hy, h1, h2⟩ := h.sl
  refine ⟨_, h1, RdRow.of fun i hi => ?_⟩
  have := h2 i hi
  rw [cellsAt_five hy hi] at this
  exact this
theorem OwnR.sts {xs : List St} (h : OwnR Holds.st te 6 lo w xs v) : Sts (NewB lo w.heap.size) w xs v := by
  obtain ⟨ys, hy, h1, h2⟩ := h.sl
  refine ⟨_, h1, RdSts.of fun i hi => ?_⟩
  have := h2 i hi
  rw [cellsAt_six hy hi] at this
  exact this
end

/-- A round that makes an element in new memory (from wr to w1), lays its cells into a block of their own and appends it. -/
theorem OwnR.round {α : Type} {R : Holds α} {te sz lo s : Nat} {w0 wr w1 w2 : World} {xs : List α} {x : α} {cs ys : List Value} {v v' : Value} {o : Obj} (hown : OwnR R te sz lo wr xs v) (hb : Below wr.heap.size wr w1) (hB : Below lo w0 wr) (hlo : lo ≤ wr.heap.size)
    (hys : (w1.alloc o).ownsRow lo te sz v xs.length ys) (hs : wr.heap.size ≤ s) (hcs : R.R (NewB s w1.heap.size) w1 x cs) (hn : cs.length = sz) (hown' : w2.ownsRow lo te sz v' (xs.length + 1) (ys ++ cs)) (hg : (w1.alloc o).grownBy w2 v.ownBlock)
    (hat : v'.ownBlock = v.ownBlock ∨ v'.ownBlock = some (w1.alloc o).heap.size) : OwnR R te sz lo w2 (xs ++ [x]) v' ∧ Below lo w0 w2 := by
  obtain ⟨ys0, hys0⟩ := hown.owns
  have hin := ownsRow_in hys0
  have hz := hb.size
  refine ⟨OwnR.push ((hown.below hb).below ((Below.refl _ w1).alloc (Nat.le_refl _) _)) hys hown' hn hg hat (G2 := NewB s w1.heap.size) (fun b hb' => ⟨by have := hb'.1; omega, by have := hb'.2; simp; omega, fun e => by have := hb'.1; have := (hin b e).2; omega⟩) (R.keep (fun b hb' => ?_) (fun _ h => h) hcs), ?_⟩
  · have := hb'.2
    exact ((Below.refl w1.heap.size w1).alloc (Nat.le_refl _) o).block b this
  · exact ((hB.trans (hb.mono hlo)).alloc (by omega) o).grown hg (by simp; omega) (fun b e => (hin b e).1)

/-- A round that appends what lies in memory that was made in it. -/
theorem OwnR.roundMany {α : Type} {R : Holds α} {te sz lo s : Nat} {w0 wr w1 w2 : World} {xs zs : List α} {ns ys : List Value} {v v' : Value} (hown : OwnR R te sz lo wr xs v) (hb : Below wr.heap.size wr w1) (hB : Below lo w0 wr) (hlo : lo ≤ wr.heap.size)
    (hys : w1.ownsRow lo te sz v xs.length ys) (hs : wr.heap.size ≤ s) (hz : ∀ i (h : i < zs.length), R.R (NewB s w1.heap.size) w1 zs[i] (cellsAt sz ns i)) (hn : ns.length = zs.length * sz) (hown' : w2.ownsRow lo te sz v' (xs.length + zs.length) (ys ++ ns)) (hg : w1.grownBy w2 v.ownBlock)
    (hat : v'.ownBlock = v.ownBlock ∨ v'.ownBlock = some w1.heap.size) : OwnR R te sz lo w2 (xs ++ zs) v' ∧ Below lo w0 w2 := by
  obtain ⟨ys0, hys0⟩ := hown.owns
  have hin := ownsRow_in hys0
  have hz' := hb.size
  refine ⟨OwnR.many (hown.below hb) hys hown' hn hg hat (G2 := NewB s w1.heap.size) (fun b hb' => ⟨by have := hb'.1; omega, hb'.2, fun e => by have := hb'.1; have := (hin b e).2; omega⟩) hz, ?_⟩
  exact (hB.trans (hb.mono hlo)).grown hg (by omega) (fun b e => (hin b e).1)

theorem cellsAt_map (sz n : Nat) (c : Nat → Nat → Value) (i : Nat) (hi : i < n) (hsz : 0 < sz) : cellsAt sz ((List.range (n * sz)).map fun j => c (j / sz) (j % sz)) i = (List.range sz).map (c i) := by
  have hle : i * sz + sz ≤ n * sz := by rw [← Nat.succ_mul]; exact Nat.mul_le_mul_right _ hi
  apply List.ext_getElem?
  intro j
  unfold cellsAt
  by_cases hj : j < sz
  · rw [List.getElem?_take_of_lt hj, List.getElem?_drop, List.getElem?_map, List.getElem?_range (by omega), List.getElem?_map, List.getElem?_range hj]
    simp only [Option.map_some]
    have e1 : (i * sz + j) / sz = i := by rw [Nat.mul_comm, Nat.mul_add_div hsz, Nat.div_eq_of_lt hj, Nat.add_zero]
    have e2 : (i * sz + j) % sz = j := by rw [Nat.mul_comm, Nat.mul_add_mod]; exact Nat.mod_eq_of_lt hj
    rw [e1, e2]
  · rw [List.getElem?_eq_none (by simp; omega), List.getElem?_eq_none (by simp; omega)]

/-- The cells of a slice of statements. -/
theorem Sts.news {F : Nat → Prop} {w : World} {l : List St} {b off n cap : Nat} (h : Sts F w l (.slice (some ⟨b, off, none⟩) n cap)) :
    ∃ ns : List Value, ns.length = l.length * 6 ∧ (∀ j u, ns[j]? = some u → w.cell? ((⟨b, off, none⟩ : Addr).add j) = some u) ∧ (∀ u ∈ ns, u.oneCell' = true) ∧ ∀ i (h : i < l.length), RdSt F w l[i] (cellsAt 6 ns i) := by
  obtain ⟨c, ⟨a', cap', he, h1, h2, h3⟩, hrow⟩ := h
  simp only [Value.slice.injEq] at he
  obtain ⟨rfl, rfl, rfl⟩ := he
  have hcell : ∀ i, i < l.length → ∀ j, j < 6 → w.cell? ⟨b, off + i * 6 + j, none⟩ = some (c i j) := by
    intro i hi
    obtain ⟨b', off', e, _, hc⟩ := h3 (by omega)
    cases e
    exact hc i hi
  refine ⟨(List.range (l.length * 6)).map fun j => c (j / 6) (j % 6), by simp, fun j u hj => ?_, fun u hu => ?_, fun i hi => ?_⟩
  · have hlt : j < l.length * 6 := by
      have := (List.getElem?_eq_some_iff.1 hj).1; simpa using this
    rw [List.getElem?_map, List.getElem?_range hlt] at hj
    simp only [Option.map_some, Option.some.injEq] at hj
    have ha : (⟨b, off, none⟩ : Addr).add j = ⟨b, off + j, none⟩ := by unfold Addr.add; split <;> simp_all
    rw [ha, ← hj]
    have := hcell (j / 6) (by omega) (j % 6) (by omega)
    rw [show off + j / 6 * 6 + j % 6 = off + j by omega] at this
    exact this
  · obtain ⟨j, hj, rfl⟩ := List.mem_map.1 hu
    have hlt : j < l.length * 6 := by simpa using hj
    have hx := hrow.get (j / 6) (by omega)
    obtain ⟨_, _, _, _, _, _, _, _, _, _, _, _, e⟩ := hx.shape
    simp only [List.cons.injEq, and_true] at e
    obtain ⟨e0, e1, e2, e3, e4, e5⟩ := e
    have h6 : j % 6 = 0 ∨ j % 6 = 1 ∨ j % 6 = 2 ∨ j % 6 = 3 ∨ j % 6 = 4 ∨ j % 6 = 5 := by omega
    rcases h6 with h | h | h | h | h | h <;> rw [h]
    · rw [e0]; rfl
    · rw [e1]; rfl
    · rw [e2]; rfl
    · rw [e3]; rfl
    · rw [e4]; rfl
    · rw [e5]; rfl
  · rw [cellsAt_map 6 l.length c i hi (by omega)]
    exact hrow.get i hi

/-- A slice is nil, or begins somewhere. -/
def ProperSl (v : Value) : Prop := v = .slice none 0 0 ∨ ∃ b off n c, v = .slice (some ⟨b, off, none⟩) n c
theorem OwnR.proper {α : Type} {R : Holds α} {te sz lo : Nat} {w : World} {xs : List α} {v : Value} (h : OwnR R te sz lo w xs v) : ProperSl v := by
  obtain ⟨ys, G, h1, _⟩ := h
  rcases h1.2 with ⟨rfl, _⟩ | ⟨g, cap, cur, rfl, _⟩
  · exact .inl rfl
  · exact .inr ⟨_, _, _, _, rfl⟩

/-- A call that hands back an expression in new memory. -/
def GivesEx (w : World) (x : Ex) (e : Ending) (w' : World) : Prop := ∃ cs : List Value, e = .returned (.agg cs.toArray) ∧ RdEx (NewB w.heap.size w'.heap.size) w' x cs ∧ Below w.heap.size w w'
/-- A call that hands back a slice of expressions in new memory. -/
def GivesExs (w : World) (xs : List Ex) (e : Ending) (w' : World) : Prop := ∃ v : Value, e = .returned v ∧ Exs (NewB w.heap.size w'.heap.size) w' xs v ∧ Below w.heap.size w w'
def GivesSts (w : World) (xs : List St) (e : Ending) (w' : World) : Prop := ∃ v : Value, e = .returned v ∧ Sts (NewB w.heap.size w'.heap.size) w' xs v ∧ Below w.heap.size w w' ∧ ProperSl v

end Go.Proofs.YtblhpiebheommaaGreat
/- Cells that hold what they hold, carried from world to world. No program in sight. -/
namespace Go.Proofs.YtblhpiebheommaaGreat
open Go.RowKit

/-- These cells hold these values. -/
def CA (W : World) : List (Addr × Value) → Prop
  | [] => True
  | p :: l => (p.1.block < W.heap.size ∧ W.cell? p.1 = some p.2) ∧ CA W l
/-- These cells may be written. -/
def FA (W : World) : List Addr → Prop
  | [] => True
  | p :: l => (p.block < W.heap.size ∧ ∃ v, W.cell? p = some v ∧ W.frozen? p = false) ∧ FA W l

theorem CA.below {W W' : World} (hb : Below W.heap.size W W') : ∀ {l : List (Addr × Value)}, CA W l → CA W' l
  | [], _ => trivial
  | _ :: _, h => ⟨⟨Nat.lt_of_lt_of_le h.1.1 hb.size, by rw [hb.cell h.1.1]; exact h.1.2⟩, CA.below hb h.2⟩
theorem FA.below {W W' : World} (hb : Below W.heap.size W W') : ∀ {l : List Addr}, FA W l → FA W' l
  | [], _ => trivial
  | _ :: _, h => ⟨⟨Nat.lt_of_lt_of_le h.1.1 hb.size, by obtain ⟨v, h1, h2⟩ := h.1.2; exact ⟨v, by rw [hb.cell h.1.1]; exact h1, by rw [hb.frozen h.1.1]; exact h2⟩⟩, FA.below hb h.2⟩

abbrev five (b off : Nat) (v0 v1 v2 v3 v4 : Value) : List (Addr × Value) := [(⟨b, off, none⟩, v0), (⟨b, off + 1, none⟩, v1), (⟨b, off + 2, none⟩, v2), (⟨b, off + 3, none⟩, v3), (⟨b, off + 4, none⟩, v4)]

theorem below_drewN {B : Nat} {a w : World} (h : Below B a w) (n : Nat) : Below B a (w.drewN n) := h.trans ⟨rfl, rfl, rfl, Nat.le_refl _, fun _ _ => rfl⟩
end Go.Proofs.YtblhpiebheommaaGreat
