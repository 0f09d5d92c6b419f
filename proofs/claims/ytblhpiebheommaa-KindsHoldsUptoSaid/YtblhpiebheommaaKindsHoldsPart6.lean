/- A row's arguments that are a Source or a slice of strings. -/
import Derived.Test.YtblhpiebheommaaKindsHoldsPart5
import Derived.Test.YtblhpiebheommaaKindsHoldsPart3
import Derived.JoinedCond
import Derived.HandedShaped
import Derived.Test.YtblhpiebheommaaKindsHoldsPart4
namespace Go.Proofs.Ytblhpiebheommaa
open Go.ChangeShapes Go.WideShapes Go.ChangeAt Go.RowKit

section
variable {H : Type} {enc : TypeId × Value → H} {W : World} {base : Nat} {v : Value} {d : DataW H} {p : List MemPlace}

set_option maxRecDepth 100000 in
theorem arg_src (hv : Value.okWide Try.prog W .any base 29 v) (h : DataW.Trod enc Try.prog W 0 (fun _ => true) true 29 v d p) : ∃ (s : SrcD) (cs : List Value), v = .agg cs.toArray ∧ Holds.src.R (fun b => b < W.heap.size) W s cs := by
  obtain ⟨cs, rfl, _⟩ := okWide_struct Try.underlying29 hv
  obtain ⟨fuel, hf⟩ := h
  obtain ⟨e, he⟩ := read_src fuel _ _ hf
  exact ⟨e, cs.toList, by simp, he⟩
set_option maxRecDepth 100000 in
theorem arg_strs (hv : Value.okWide Try.prog W .any base 22 v) (h : DataW.Trod enc Try.prog W 0 (fun _ => true) true 22 v d p) : ∃ (l : List ByteArray), RdStrs (fun b => b < W.heap.size) W l v := by
  obtain ⟨a, len, cap, rfl⟩ := okWide_slice Try.underlying22 hv
  obtain ⟨fuel, hf⟩ := h
  obtain ⟨v', l, hv', hl⟩ := rdl_of Try.underlying22 ce_str (by omega) hf Holds.str read_str1
  have : Value.slice a len cap = v' := by simpa [Value.cells] using hv'
  subst this
  exact ⟨l, hl⟩
set_option maxRecDepth 100000 in
theorem same_src {W' : World} (h : DataW.Trod enc Try.prog W 0 (fun _ => true) true 29 v d p) (hb : Below W.heap.size W W') (hlt : ∀ x ∈ p, x.block < W.heap.size) : DataW.Trod enc Try.prog W' 0 (fun b => decide (b < W.heap.size)) true 29 v d p :=
  Below.trod Try.laidOut (by kernel_rfl) (of_decide_eq_true (by kernel_rfl)) h hb hlt
set_option maxRecDepth 100000 in
theorem same_strs {W' : World} (h : DataW.Trod enc Try.prog W 0 (fun _ => true) true 22 v d p) (hb : Below W.heap.size W W') (hlt : ∀ x ∈ p, x.block < W.heap.size) : DataW.Trod enc Try.prog W' 0 (fun b => decide (b < W.heap.size)) true 22 v d p :=
  Below.trod Try.laidOut (by kernel_rfl) (of_decide_eq_true (by kernel_rfl)) h hb hlt
end
end Go.Proofs.Ytblhpiebheommaa
/- The bulk of a Source's reading bounds the lengths of its declarations. -/
namespace Go.Proofs.Ytblhpiebheommaa
open Go.RowKit Go.ChangeShapes Go.WideShapes

section
variable {H : Type} {enc : TypeId × Value → H} {W : World}

set_option maxRecDepth 20000 in
theorem src_bulk {sp : Nat → Bool} {held : Bool} (fuel : Nat) (cs : List Value) (x : DataW H × List MemPlace) (h : DataW.trod enc Try.prog W 0 sp held fuel 29 cs = some x) {F : Nat → Prop} {w : World} {s : SrcD} (hs : Holds.src.R F w s cs) :
    s.flags.length + s.props.length + s.globals.length + s.objects.length + s.verbs.length + s.rules.length + s.funcs.length + s.daemons.length ≤ Rows.uptoBulk x.1 := by
  obtain ⟨a5, k5, a6, k6, a7, k7, a8, k8, a9, k9, a10, k10, a11, k11, a12, k12, rfl, -⟩ := src_shape hs
  obtain ⟨xs, m, rfl, rfl, hl, hlen, hf⟩ := DataW.trod_struct Try.underlying29 h
  have hlen : xs.length = 13 := hlen
  match xs, hlen with
  | [y0, y1, y2, y3, y4, y5, y6, y7, y8, y9, y10, y11, y12], _ =>
    have h5 := hf 5 _ rfl
    have h6 := hf 6 _ rfl
    have h7 := hf 7 _ rfl
    have h8 := hf 8 _ rfl
    have h9 := hf 9 _ rfl
    have h10 := hf 10 _ rfl
    have h11 := hf 11 _ rfl
    have h12 := hf 12 _ rfl
    obtain ⟨b5, n5, m5, q5, r5⟩ := sl_bulk Try.underlying22 h5
    obtain ⟨b6, n6, m6, q6, r6⟩ := sl_bulk Try.underlying23 h6
    obtain ⟨b7, n7, m7, q7, r7⟩ := sl_bulk Try.underlying23 h7
    obtain ⟨b8, n8, m8, q8, r8⟩ := sl_bulk Try.underlying24 h8
    obtain ⟨b9, n9, m9, q9, r9⟩ := sl_bulk Try.underlying25 h9
    obtain ⟨b10, n10, m10, q10, r10⟩ := sl_bulk Try.underlying26 h10
    obtain ⟨b11, n11, m11, q11, r11⟩ := sl_bulk Try.underlying27 h11
    obtain ⟨b12, n12, m12, q12, r12⟩ := sl_bulk Try.underlying27 h12
    have e5 : Value.slice a5 s.flags.length k5 = Value.slice b5 n5 m5 := by simpa [cz9] using q5
    have e5 : s.flags.length = n5 := by injection e5
    have e6 : Value.slice a6 s.props.length k6 = Value.slice b6 n6 m6 := by simpa [cz10] using q6
    have e6 : s.props.length = n6 := by injection e6
    have e7 : Value.slice a7 s.globals.length k7 = Value.slice b7 n7 m7 := by simpa [cz10] using q7
    have e7 : s.globals.length = n7 := by injection e7
    have e8 : Value.slice a8 s.objects.length k8 = Value.slice b8 n8 m8 := by simpa [cz14] using q8
    have e8 : s.objects.length = n8 := by injection e8
    have e9 : Value.slice a9 s.verbs.length k9 = Value.slice b9 n9 m9 := by simpa [cz15] using q9
    have e9 : s.verbs.length = n9 := by injection e9
    have e10 : Value.slice a10 s.rules.length k10 = Value.slice b10 n10 m10 := by simpa [cz16] using q10
    have e10 : s.rules.length = n10 := by injection e10
    have e11 : Value.slice a11 s.funcs.length k11 = Value.slice b11 n11 m11 := by simpa [cz17] using q11
    have e11 : s.funcs.length = n11 := by injection e11
    have e12 : Value.slice a12 s.daemons.length k12 = Value.slice b12 n12 m12 := by simpa [cz17] using q12
    have e12 : s.daemons.length = n12 := by injection e12
    clear hf h5 h6 h7 h8 h9 h10 h11 h12 q5 q6 q7 q8 q9 q10 q11 q12
    show s.flags.length + s.props.length + s.globals.length + s.objects.length + s.verbs.length + s.rules.length + s.funcs.length + s.daemons.length ≤ Rows.uptoBulk (DataW.agg (y0.1 :: y1.1 :: y2.1 :: y3.1 :: y4.1 :: y5.1 :: y6.1 :: y7.1 :: y8.1 :: y9.1 :: y10.1 :: y11.1 :: y12.1 :: []))
    simp only [Rows.uptoBulk, Rows.uptoBulkAll]
    omega

set_option maxRecDepth 100000 in
theorem arg_src_bulk {v : Value} {d : DataW H} {p : List MemPlace} {base : Nat} (hv : Value.okWide Try.prog W .any base 29 v) (h : DataW.Trod enc Try.prog W 0 (fun _ => true) true 29 v d p) :
    ∃ (s : SrcD) (cs : List Value), v = .agg cs.toArray ∧ Holds.src.R (fun b => b < W.heap.size) W s cs ∧ s.flags.length + s.props.length + s.globals.length + s.objects.length + s.verbs.length + s.rules.length + s.funcs.length + s.daemons.length ≤ Rows.uptoBulk d := by
  obtain ⟨cs, rfl, _⟩ := okWide_struct Try.underlying29 hv
  obtain ⟨fuel, hf⟩ := h
  obtain ⟨e, he⟩ := read_src fuel _ _ hf
  exact ⟨e, cs.toList, by simp, he, src_bulk fuel _ _ hf he⟩

set_option maxRecDepth 100000 in
theorem arg_int {v : Value} {base : Nat} (hv : Value.okWide Try.prog W .any base 3 v) : ∃ n, v = .int .i64 n := okWide_int Try.underlying3 hv
set_option maxRecDepth 100000 in
theorem same_int {v : Value} {d : DataW H} {p : List MemPlace} {W' : World} (h : DataW.Trod enc Try.prog W 0 (fun _ => true) true 3 v d p) (hb : Below W.heap.size W W') (hlt : ∀ x ∈ p, x.block < W.heap.size) : DataW.Trod enc Try.prog W' 0 (fun b => decide (b < W.heap.size)) true 3 v d p :=
  Below.trod Try.laidOut (by kernel_rfl) (of_decide_eq_true (by kernel_rfl)) h hb hlt

theorem bulk_le {d : DataW H} : ∀ {l : List (DataW H)}, d ∈ l → Rows.uptoBulk d ≤ Rows.uptoBulkAll l
  | x :: r, h => by
    simp only [Rows.uptoBulkAll]
    rcases List.mem_cons.1 h with rfl | h
    · omega
    · have := bulk_le h
      omega
theorem bulk_bound {l : List (DataW H)} (hk : Rows.uptoSmall H l = true) : Rows.uptoBulkAll l ≤ 1048576 := of_decide_eq_true hk
end
end Go.Proofs.Ytblhpiebheommaa
/- The bulk of a Source's reading bounds the lengths of its objects' words; a row's shape where the contract asks for the shaped world and for the bulk. -/
namespace Go.Proofs.Ytblhpiebheommaa
open Go.RowKit Go.ChangeShapes Go.WideShapes

section
variable {H : Type} {enc : TypeId × Value → H} {W : World}

theorem bulk_all {d : DataW H} {l : List (DataW H)} (h : d ∈ l) : Rows.uptoBulk d ≤ Rows.uptoBulk (DataW.agg l) := by
  have := bulk_le h
  simp only [Rows.uptoBulk]
  omega

set_option maxRecDepth 20000 in
theorem objs_bulk {sp : Nat → Bool} {held : Bool} (fuel : Nat) {l : List ObjD} {v : Value} (x : DataW H × List MemPlace) (h : DataW.trod enc Try.prog W 0 sp held fuel 24 [v] = some x) {F : Nat → Prop} (hr : RdL Holds.obj 10 F W l v) :
    ∀ o ∈ l, o.words.length ≤ Rows.uptoBulk x.1 ∧ o.adjs.length ≤ Rows.uptoBulk x.1 := by
  obtain ⟨a, cap, rfl, hl, hc, ha⟩ := hr.opn
  intro o ho
  obtain ⟨i, hi, rfl⟩ := List.getElem_of_mem ho
  obtain ⟨b, off, rfl, hFb, hel⟩ := ha (by omega)
  obtain ⟨cs, ⟨-, -, -, -, v5, v6, v7, v8, v9, rfl, j5, j6, -⟩, -, hcell⟩ := hel W rfl i hi
  obtain ⟨d5, f5, rfl⟩ := j5.shape
  obtain ⟨d6, f6, rfl⟩ := j6.shape
  have c5 := hcell 5 _ rfl
  have c6 := hcell 6 _ rfl
  generalize l[i] = o at c5 c6 ⊢
  rcases DataW.trod_slice Try.underlying24 h with ⟨e, _⟩ | ⟨a', len, cap', elems, rest, n, rfl, e, rfl, _, hl', hm, hlen, hel', _, _⟩
  · cases e
  · simp only [List.cons.injEq, Value.slice.injEq, Option.some.injEq, and_true] at e
    obtain ⟨rfl, rfl, rfl⟩ := e
    have h1 := hel' i hi
    rw [cz2, List.getElem?_eq_getElem (show i < elems.length by omega)] at h1
    obtain ⟨cs', h2, h3⟩ := Option.bind_eq_some_iff.1 h1
    have hci := World.cells?_some h2
    obtain ⟨xs, m, -, he, -, hlen2, hf⟩ := DataW.trod_struct Try.underlying55 h3
    have hlen2 : xs.length = 10 := hlen2
    have hcl : cs'.length = 10 := hci.2.1
    have g5 : cs'[5]? = some (.slice d5 o.words.length f5) := by
      have := hci.2.2 5 (by omega)
      rw [addr_add, addr_add] at this
      rw [← this]; exact c5
    have g6 : cs'[6]? = some (.slice d6 o.adjs.length f6) := by
      have := hci.2.2 6 (by omega)
      rw [addr_add, addr_add] at this
      rw [← this]; exact c6
    have h5 := hf 5 _ rfl
    have h6 := hf 6 _ rfl
    rw [List.getElem?_eq_getElem (show 5 < xs.length by omega)] at h5
    rw [List.getElem?_eq_getElem (show 6 < xs.length by omega)] at h6
    obtain ⟨b5, n5, m5, q5, r5⟩ := sl_bulk Try.underlying22 h5
    obtain ⟨b6, n6, m6, q6, r6⟩ := sl_bulk Try.underlying22 h6
    have k5 : cs'[5]? = some (.slice b5 n5 m5) := by
      have := congrArg (fun l => l[0]?) q5
      simpa [cz9, List.getElem?_take, List.getElem?_drop] using this
    have k6 : cs'[6]? = some (.slice b6 n6 m6) := by
      have := congrArg (fun l => l[0]?) q6
      simpa [cz9, List.getElem?_take, List.getElem?_drop] using this
    rw [g5] at k5
    rw [g6] at k6
    simp only [Option.some.injEq, Value.slice.injEq] at k5 k6
    have e1 : Rows.uptoBulk (elems[i].1) ≤ Rows.uptoBulk (DataW.slice (elems.map (·.1)) (rest.map (·.1))) := by
      have := bulk_le (d := elems[i].1) (l := elems.map (·.1)) (List.mem_map.2 ⟨_, List.getElem_mem _, rfl⟩)
      simp only [Rows.uptoBulk]
      omega
    have e2 : elems[i].1 = DataW.agg (xs.map (·.1)) := by rw [he]
    have e5 : Rows.uptoBulk xs[5].1 ≤ Rows.uptoBulk elems[i].1 := by rw [e2]; exact bulk_all (List.mem_map.2 ⟨_, List.getElem_mem _, rfl⟩)
    have e6 : Rows.uptoBulk xs[6].1 ≤ Rows.uptoBulk elems[i].1 := by rw [e2]; exact bulk_all (List.mem_map.2 ⟨_, List.getElem_mem _, rfl⟩)
    have e1' := e1
    constructor
    · rw [k5.2.1]; exact Nat.le_trans r5 (Nat.le_trans e5 e1')
    · rw [k6.2.1]; exact Nat.le_trans r6 (Nat.le_trans e6 e1')

set_option maxRecDepth 20000 in
theorem src_words {sp : Nat → Bool} {held : Bool} (fuel : Nat) (cs : List Value) (x : DataW H × List MemPlace) (h : DataW.trod enc Try.prog W 0 sp held fuel 29 cs = some x) {F : Nat → Prop} {s : SrcD} (hs : Holds.src.R F W s cs) :
    ∀ o ∈ s.objects, o.words.length ≤ Rows.uptoBulk x.1 ∧ o.adjs.length ≤ Rows.uptoBulk x.1 := by
  obtain ⟨a5, k5, a6, k6, a7, k7, a8, k8, a9, k9, a10, k10, a11, k11, a12, k12, rfl, -, -, -, g8, -⟩ := src_shape hs
  obtain ⟨xs, m, rfl, rfl, hl, hlen, hf⟩ := DataW.trod_struct Try.underlying29 h
  have hlen : xs.length = 13 := hlen
  have h8 := hf 8 _ rfl
  rw [List.getElem?_eq_getElem (show 8 < xs.length by omega)] at h8
  have h8' : DataW.trod enc Try.prog W 0 sp held m 24 [.slice a8 s.objects.length k8] = some xs[8] := by simpa [cz14] using h8
  have hb := objs_bulk m _ h8' g8
  have e8 : Rows.uptoBulk xs[8].1 ≤ Rows.uptoBulk (DataW.agg (xs.map (·.1))) := bulk_all (List.mem_map.2 ⟨_, List.getElem_mem _, rfl⟩)
  exact fun o ho => ⟨Nat.le_trans (hb o ho).1 e8, Nat.le_trans (hb o ho).2 e8⟩

set_option maxRecDepth 100000 in
theorem arg_src_words {v : Value} {d : DataW H} {p : List MemPlace} {base : Nat} (hv : Value.okWide Try.prog W .any base 29 v) (h : DataW.Trod enc Try.prog W 0 (fun _ => true) true 29 v d p) :
    ∃ (s : SrcD) (cs : List Value), v = .agg cs.toArray ∧ Holds.src.R (fun b => b < W.heap.size) W s cs ∧ s.flags.length + s.props.length + s.globals.length + s.objects.length + s.verbs.length + s.rules.length + s.funcs.length + s.daemons.length ≤ Rows.uptoBulk d ∧ ∀ o ∈ s.objects, o.words.length ≤ Rows.uptoBulk d ∧ o.adjs.length ≤ Rows.uptoBulk d := by
  obtain ⟨cs, rfl, _⟩ := okWide_struct Try.underlying29 hv
  obtain ⟨fuel, hf⟩ := h
  obtain ⟨e, he⟩ := read_src fuel _ _ hf
  exact ⟨e, cs.toList, by simp, he, src_bulk fuel _ _ hf he, src_words fuel _ _ hf he⟩
end

/-- A row's shape: a bounded reading, in a world whose own variables are of their types. -/
theorem returnsInHanded_bounded {H : Type} {enc : TypeId × Value → H} {a : Assume} {C : Checked} {os : Os} {f : FuncId} {fn : Func} {s : OpenSpec} {k : (H : Type) → List (DataW H) → Bool} (hk : s.cond = some k) {I : Stop.Interp} {conds : List PathCond} {apart fresh handsOn again : Bool}
    (own : ownKnob C.prog.godebug = none) (started : os.Started) (noInit : C.prog.inits.idxOf? f = none) (hfn : C.prog.funcs[f]? = some fn)
    (witness : ∃ (w : World) (tape : Tape) (i : Input), w.os = os ∧ (w.forCall tape i).Shaped C.prog ∧ i.vars = [] ∧ Input.okWide C.prog (w.forCall tape i) .any w.heap.size f i ∧
      s.pre6 enc C.prog fn conds apart (w.forCall tape i).memory i.args ∧ a.holds C.prog (lone (Frame.enter C.prog f i.args .normal) [] (w.forCall tape i)))
    (contract : ∀ (W : World) (base : Nat) (args : Array Value) (ds gs : List (DataW H)) (before : List MemPlace),
      (∀ (j : Nat) t v, fn.params[j]? = some t → args[j]? = some v → Value.okWide C.prog W .any base t v) →
      DataW.Whole enc C.prog fn.params.toList s.vars apart W args.toList ds gs before → k H (ds ++ gs) = true → W.ShapedOpen C.prog →
      Calls C.prog f args W fun e W' => ∃ v, e = .returned v ∧ (s.at I).post enc C.prog fn apart fresh handsOn again W args v W') :
    ReturnsInHanded a C os f .any (s.pre6 enc C.prog fn conds apart) ((s.at I).post enc C.prog fn apart fresh handsOn again) := by
  refine returnsInHanded_of_calls own started noInit witness fun w tape i _ hsh _ hok hpre hholds => ?_
  obtain ⟨_, _, _, fn', hfn', _, _, _, _, hval⟩ := hok
  obtain rfl : fn' = fn := Option.some.inj (hfn'.symm.trans hfn)
  obtain ⟨ds, gs, before, hw, hc, hkk⟩ := (OpenSpec.pre_some hk conds apart _ _).1 hpre.1
  refine (contract (w.forCall tape i) w.heap.size i.args ds gs before hval (DataW.Whole.of_heap (w' := w.forCall tape i) (by rfl) hw) hkk hsh).mono fun e W' ⟨v, he, hp⟩ => ?_
  subst he
  exact ChangeSpec.post_blind hp
end Go.Proofs.Ytblhpiebheommaa
/- The walks of tree.name, clewref10.name and tree.exprHas. -/
namespace Go.Proofs.Ytblhpiebheommaa
open Go.RowKit Go.Sort

/-- A name that is no keyword. -/
def IsNm (s : ByteArray) : Prop := IsName s ∧ ¬ IsKey s


set_option maxHeartbeats 400000 in
theorem nameR_calls (s : ByteArray) (w : World) (hs : s.size ≤ maxLen) : Calls Try.prog 55 #[.string s] w (Same0 w (.bool (dec (IsNm s)))) := by
  have h1 := isNameR_calls s w hs
  by_cases hn : IsName s
  · have h2 := keyR_calls s w hs
    have e1 : Hid (dec (IsNm s) = !dec (IsKey s)) := by
      show dec (IsNm s) = _
      by_cases hk : IsKey s
      · rw [dec_true hk, dec_false (fun h => h.2 hk)]; rfl
      · rw [dec_false hk, dec_true ⟨hn, hk⟩]; rfl
    rw [dec_true hn] at h1
    have H1 := Lib.hid h1
    have H2 := Lib.hid h2
    clear h1 h2 hn
    go_enter Try.func55, Try.ntmps55
    go_wp2_with (first | (go_at_call 25; refine H1.out.mono ?_; rintro e w' ⟨rfl, rfl⟩) | (go_at_call 26; refine H2.out.mono ?_; rintro e w' ⟨rfl, rfl⟩))
    go_ret
    exact ⟨ret_bool e1.out.symm, rfl⟩
  · have e1 : Hid (dec (IsNm s) = false) := dec_false (fun h => hn h.1)
    rw [dec_false hn] at h1
    have H1 := Lib.hid h1
    clear h1 hn
    go_enter Try.func55, Try.ntmps55
    go_wp2_with (go_at_call 25; refine H1.out.mono ?_; rintro e w' ⟨rfl, rfl⟩)
    go_ret
    exact ⟨ret_bool e1.out.symm, rfl⟩

/-- What a kind of expressions has: Op, Num, Name; how many Args at least and at most; and whether there is such a kind. -/
structure Has where
  op : Bool
  num : Bool
  name : Bool
  least : Nat
  most : Nat
  is : Bool

def hasOf (k : Int) : Has :=
  if k = 1 ∨ k = 14 ∨ k = 15 ∨ k = 19 then ⟨false, true, false, 0, 0, true⟩
  else if k = 2 ∨ k = 3 then ⟨false, false, true, 0, 0, true⟩
  else if k = 4 ∨ k = 5 ∨ k = 11 ∨ k = 13 then ⟨false, false, false, 1, 1, true⟩
  else if k = 6 then ⟨true, false, false, 2, 2, true⟩
  else if k = 7 ∨ k = 8 then ⟨false, false, true, 1, 1, true⟩
  else if k = 16 ∨ k = 17 then ⟨false, true, false, 1, 1, true⟩
  else if k = 9 then ⟨false, false, true, 0, 8, true⟩
  else if k = 18 then ⟨false, true, false, 0, 8, true⟩
  else if k = 10 then ⟨true, false, false, 1, 1, true⟩
  else if k = 12 then ⟨true, false, false, 0, 0, true⟩
  else ⟨false, false, false, 0, 0, false⟩

def HasV (h : Has) : Value := .tuple #[.agg #[.bool h.op, .bool h.num, .bool h.name, .int .i64 h.least, .int .i64 h.most], .bool h.is]

theorem kind_cases (k : Int) : k = 1 ∨ k = 2 ∨ k = 3 ∨ k = 4 ∨ k = 5 ∨ k = 6 ∨ k = 7 ∨ k = 8 ∨ k = 9 ∨ k = 10 ∨ k = 11 ∨ k = 12 ∨ k = 13 ∨ k = 14 ∨ k = 15 ∨ k = 16 ∨ k = 17 ∨ k = 18 ∨ k = 19 ∨ k < 1 ∨ 19 < k := by omega


end Go.Proofs.Ytblhpiebheommaa
/- The walk of tree.stmtHas, and of the function that RightBlock asks names by. -/
namespace Go.Proofs.Ytblhpiebheommaa
open Go.RowKit Go.Sort

/-- What a kind of statements has. -/
structure Parts where
  named : Bool
  body : Bool
  other : Bool
  least : Nat
  most : Nat
  is : Bool

def partsOf (k : Int) : Parts :=
  if k = 1 then ⟨false, false, false, 1, 8, true⟩
  else if k = 2 ∨ k = 3 ∨ k = 5 ∨ k = 6 ∨ k = 17 ∨ k = 23 then ⟨true, false, false, 1, 1, true⟩
  else if k = 4 then ⟨true, false, false, 2, 2, true⟩
  else if k = 7 then ⟨false, false, false, 2, 2, true⟩
  else if k = 8 ∨ k = 12 ∨ k = 16 ∨ k = 20 ∨ k = 22 ∨ k = 19 then ⟨false, false, false, 1, 1, true⟩
  else if k = 9 then ⟨false, true, true, 1, 1, true⟩
  else if k = 10 then ⟨false, true, false, 1, 1, true⟩
  else if k = 11 then ⟨true, true, false, 1, 1, true⟩
  else if k = 18 then ⟨true, false, false, 0, 0, true⟩
  else if k = 13 ∨ k = 14 ∨ k = 15 ∨ k = 21 then ⟨false, false, false, 0, 0, true⟩
  else ⟨false, false, false, 0, 0, false⟩

def PartsV (h : Parts) : Value := .tuple #[.agg #[.bool h.named, .bool h.body, .bool h.other, .int .i64 h.least, .int .i64 h.most], .bool h.is]

theorem skind_cases (k : Int) : k = 1 ∨ k = 2 ∨ k = 3 ∨ k = 4 ∨ k = 5 ∨ k = 6 ∨ k = 7 ∨ k = 8 ∨ k = 9 ∨ k = 10 ∨ k = 11 ∨ k = 12 ∨ k = 13 ∨ k = 14 ∨ k = 15 ∨ k = 16 ∨ k = 17 ∨ k = 18 ∨ k = 19 ∨ k = 20 ∨ k = 21 ∨ k = 22 ∨ k = 23 ∨ k < 1 ∨ 23 < k := by omega


/-- What RightBlock asks of a statement's name and number. -/
def NameOk (named : Bool) (k n : Int) (s : ByteArray) : Prop := if named = true then k ≠ 23 ∧ n = 0 ∧ IsNm s else s = ByteArray.empty ∧ n = 0


end Go.Proofs.Ytblhpiebheommaa
/- The walks of tree.op, tree.said and tree.shaped. -/
namespace Go.Proofs.Ytblhpiebheommaa
open Go.RowKit Go.Sort

def OpOk (k o : Int) : Prop := (k = 6 → 1 ≤ o ∧ o ≤ 14) ∧ (k = 10 → 1 ≤ o ∧ o ≤ 3) ∧ (k = 12 → 1 ≤ o ∧ o ≤ 6)
def SaidK (k : Int) : Prop := k = 2 ∨ k = 13 ∨ k = 19



/-- An expression has just what its kind has. -/
def Shaped (k o n : Int) (s : ByteArray) (m : Nat) : Prop :=
  (hasOf k).is = true ∧ ((hasOf k).op = true ∨ o = 0) ∧ ((hasOf k).num = true ∨ n = 0) ∧ ((hasOf k).name = true ∨ s = ByteArray.empty) ∧ (hasOf k).least ≤ m ∧ m ≤ (hasOf k).most ∧ OpOk k o

theorem hasOf_cases (k : Int) : ((hasOf k).op = true ∧ (hasOf k).num = false ∧ (hasOf k).name = false ∨ (hasOf k).op = false ∧ (hasOf k).num = true ∧ (hasOf k).name = false ∨ (hasOf k).op = false ∧ (hasOf k).num = false ∧ (hasOf k).name = true ∨
    (hasOf k).op = false ∧ (hasOf k).num = false ∧ (hasOf k).name = false) ∧ (hasOf k).least ≤ 8 ∧ (hasOf k).most ≤ 8 := by
  unfold hasOf
  repeat' split
  all_goals simp


end Go.Proofs.Ytblhpiebheommaa
/- The walk of tree.each: whether all of a list are so, whatever function is asked. -/
namespace Go.Proofs.Ytblhpiebheommaa
open Go.RowKit Go.Sort

/-- What the function value f (with what it has captured) tells of an expression, from world w on. -/
def Asks (F : Nat → Prop) (w : World) (f : Nat) (caps : Array Value) (x : Ex) (b : Bool) : Prop := ∀ (w' : World) (cs : List Value), Below w.heap.size w w' → RdEx F w' x cs → Calls Try.prog f (#[.agg cs.toArray] ++ caps) w' (Gives w' (.bool b))


end Go.Proofs.Ytblhpiebheommaa
/- The walks of tree.source, its closure, and tree.Right. -/
namespace Go.Proofs.Ytblhpiebheommaa
open Go.RowKit Go.Sort

mutual
/-- An expression of a source, whatever its depth. -/
def Src : Ex → Prop
  | .mk k o n s args => (1 ≤ k ∧ k ≤ 13) ∧ Shaped k o n s args.length ∧ (k = 1 → 0 ≤ n ∧ n ≤ 32767) ∧ (k = 2 → IsText s) ∧ (k = 3 ∨ k = 7 ∨ k = 8 ∨ k = 9 → IsNm s) ∧ Srcs args
def Srcs : List Ex → Prop
  | [] => True
  | a :: l => (¬ SaidK a.kind ∧ Src a) ∧ Srcs l
end

theorem srcs_iff (l : List Ex) : Srcs l ↔ ∀ a ∈ l, ¬ SaidK a.kind ∧ Src a := by
  induction l with
  | nil => simp [Srcs]
  | cons a l ih => simp [Srcs, ih]





/-- An expression of a source. -/
def RightE (e : Ex) : Prop := e.depth ≤ 32 ∧ Src e



end Go.Proofs.Ytblhpiebheommaa
/- The walks of clewref10.sameArgs and clewref10.Same. -/
namespace Go.Proofs.Ytblhpiebheommaa
open Go.RowKit Go.Sort






end Go.Proofs.Ytblhpiebheommaa
/- The walk of tree.SameBlock. -/
namespace Go.Proofs.Ytblhpiebheommaa
open Go.RowKit Go.Sort


theorem two_new {B : Nat} {w w' : World} {o o2 : Obj} (hb : Below B ((w.alloc o).alloc o2) w') : w.heap.size < w'.heap.size ∧ w.heap.size + 1 < w'.heap.size := by
  have := hb.size
  simp at this
  omega

theorem St.eta (e : St) : e = .mk e.kind e.num e.name e.args e.body e.els := by obtain ⟨_, _, _, _, _, _⟩ := e; rfl
theorem St.ext' {e f : St} (h1 : e.kind = f.kind) (h2 : e.num = f.num) (h3 : e.name = f.name) (h4 : e.args = f.args) (h5 : e.body = f.body) (h6 : e.els = f.els) : e = f := by
  rw [St.eta e, St.eta f, h1, h2, h3, h4, h5, h6]


end Go.Proofs.Ytblhpiebheommaa
/- The walks of clewref10.deepBlock, tree.deepBlock, and of the two DepthBlocks. -/
namespace Go.Proofs.Ytblhpiebheommaa
open Go.RowKit Go.Sort

def DeepBRC (l : List St) : Prop := ∀ (F : Nat → Prop) (w : World) (v : Value) (m : Nat), Inn F w → 1 ≤ m → m ≤ 1000 → Sts F w l v →
    Calls Try.prog 63 #[v, .int .i64 m] w (Gives w (.int .i64 (min (St.depths l) m : Nat)))

theorem St.depths_pos (l : List St) (h : 0 < l.length) : 1 ≤ St.depths l := by
  cases l with
  | nil => simp at h
  | cons e l => simp only [St.depths]; omega

set_option maxRecDepth 100000 in
set_option maxHeartbeats 1000000 in
theorem deepBR_calls : ∀ l : List St, DeepBRC l := by
  refine blocks_ind fun l ih => ?_
  intro F w v m hF hm0 hm1 hr
  obtain ⟨a, cap, rfl⟩ := hr.shape
  obtain ⟨_, hl, hc, ha⟩ := hr.opn
  by_cases hl0 : l.length = 0
  · have hz : ((l.length : Int) == 0) = true := by rw [hl0]; rfl
    have hnil : l = [] := List.length_eq_zero_iff.1 hl0
    subst hnil
    go_enter Try.func63, Try.ntmps63
    go_wp2
    go_ret
    exact ⟨ret_int (by simp [St.depths]), Below.refl _ _⟩
  have hz : ((l.length : Int) == 0) = false := by rw [beq_eq_false_iff_ne]; omega
  have hpos := St.depths_pos l (by omega)
  by_cases hm : m = 1
  · subst hm
    clear ha
    go_enter Try.func63, Try.ntmps63
    go_wp2
    go_ret
    exact ⟨ret_int (by omega), Below.refl _ _⟩
  have hm2 : 1 < m := by omega
  have hm3 : (1 : Int) < (m : Int) := by omega
  clear hm hl0
  go_enter Try.func63, Try.ntmps63
  go_wp2
  go_loopw [5, 17] (fun t i wr => ∃ (k : Nat), k ≤ l.length ∧ i = .int .i64 k ∧ t = .int .i64 (min (St.depths (l.take k) - 1) (m - 1) : Nat) ∧ Below w.heap.size w wr) (fun _ i _ => l.length - (intOf i).toNat)
  case atStart => exact ⟨0, Nat.zero_le _, rfl, by simp [St.depths], Below.refl _ _⟩
  case round =>
    obtain ⟨k, hk, rfl, rfl, hB⟩ := hrel
    by_cases hlt : k < l.length
    · obtain ⟨b, off, rfl, hFb, hel⟩ := ha (by omega)
      obtain ⟨kd', n', s', a', m', cap', a2, m2, cap2, a3, m3, cap3, hx, g0, g1, g2, g3, g4, g5⟩ := hel wr (hB.block b (hF b hFb)) k hlt
      clear ha hel
      have hs1 := St.depths_take l k hlt
      have hs3 := St.depth_eq l[k]
      obtain ⟨ihb, ihe⟩ := ih _ (List.getElem_mem hlt)
      have hI := hF.below hB
      obtain ⟨_, _, _, _, _, _, hxa, hxb, hxe⟩ := (hx.below hF hB (Nat.le_refl _)).parts
      obtain ⟨rfl, hal, hac, haa⟩ := hxa.opn
      clear ih hx hr
      generalize hT : St.depths (l.take k) = T at *
      have hT2 : min (T - 1) (m - 1) ≤ 1000 := by omega
      have HS1 := Lib.hid hs1
      have HS3 := Lib.hid hs3
      clear hs1 hs3
      obtain ⟨wo, rfl⟩ : ∃ wo : World, wo = wr := ⟨_, rfl⟩
      go_wp2
      go_loopw [5, 24] (fun t i w2 => ∃ (j : Nat), j ≤ (l[k]).args.length ∧ i = .int .i64 j ∧ t = .int .i64 (min (max (T - 1) (Ex.depths ((l[k]).args.take j))) (m - 1) : Nat) ∧ Below (wo.heap.size + 1) (wo.alloc (.cells #[.int .i64 kd', .int .i64 n', .string s', .slice a' (l[k]).args.length cap', .slice a2 m2 cap2, .slice a3 m3 cap3] 76)) w2) (fun _ i _ => (l[k]).args.length - (intOf i).toNat)
      case atStart => exact ⟨0, Nat.zero_le _, rfl, by simp [Ex.depths], Below.refl _ _⟩
      case round =>
        obtain ⟨j, hj, rfl, rfl, hB0⟩ := hrel
        have hB2 := below_of_alloc hB0
        by_cases hlt2 : j < (l[k]).args.length
        · obtain ⟨b2, off2, rfl, hFb2, hel2⟩ := haa (by omega)
          obtain ⟨kd2, o2, nn2, s2, a2', m2', cap2', hx2, q0, q1, q2, q3, q4⟩ := hel2 wr (hB2.block b2 (hI b2 hFb2)) j hlt2
          clear haa hel2
          have HS2 := Lib.hid (Ex.depths_take (l[k]).args j hlt2)
          have hI2 := hI.below hB2
          have hcall : ∀ o, Calls Try.prog 51 #[.agg #[.int .i64 kd2, .int .i64 o2, .int .i64 nn2, .string s2, .slice a2' m2' cap2'], .int .i64 ((m : Int) - 1)] (wr.alloc o) (Gives (wr.alloc o) (.int .i64 (min ((l[k]).args[j]).depth (m - 1) : Nat))) := fun o => by
            have := deepR_calls (l[k]).args[j] F (wr.alloc o) _ (m - 1) (hI2.alloc _) (by omega) (by omega) ((hx2.below hI hB2 (Nat.le_refl _)).alloc hI2 o)
            rwa [show (((m - 1 : Nat)) : Int) = (m : Int) - 1 by omega] at this
          clear hx2 hxb hxe ihb ihe
          generalize hD : min (max (T - 1) (Ex.depths ((l[k]).args.take j))) (m - 1) = D
          generalize hE : min ((l[k]).args[j]).depth (m - 1) = E at hcall
          have HD := Lib.hid hD
          have HE := Lib.hid hE
          have HC := Lib.hid hcall
          have HB0 := Lib.hid hB0
          clear hD hE hcall hB0
          go_wp2_with (first | (go_at_call 51; refine (HC.out _).mono ?_; rintro e w' ⟨rfl, hb⟩) | (go_at_call 77; refine (greater_calls _ _ _).mono ?_; rintro e w'' ⟨rfl, rfl⟩))
          go_roundw
          case rel => exact ⟨j + 1, by omega, by go_num, by rw [HS2.out]; have := HD.out; have := HE.out; congr 1; omega, below_on1 HB0.out (by simp) hb⟩
          case measure => simp [intOf]; omega
        · have : j = (l[k]).args.length := by omega
          subst this
          rw [List.take_length]
          clear haa
          have hI2 := hI.below hB2
          have hcb : ∀ (p : Regrown), Calls Try.prog 63 #[.slice a2 m2 cap2, .int .i64 ((m : Int) - 1)] (grow (redrawn wr p.d) p.os) fun e w'' => e = .returned (.int .i64 (min (St.depths (l[k]).body) (m - 1) : Nat)) ∧ ∃ p : Regrown, w'' = grow (redrawn wr p.d) p.os :=
            fun p => regrown_gives (fun w' hb => by
              have := ihb F w' _ (m - 1) (hI2.below hb) (by omega) (by omega) ((hxb.below hI hB2 (Nat.le_refl _)).below hI2 hb (Nat.le_refl _))
              rwa [show (((m - 1 : Nat)) : Int) = (m : Int) - 1 by omega] at this) p
          have hce : ∀ (p : Regrown), Calls Try.prog 63 #[.slice a3 m3 cap3, .int .i64 ((m : Int) - 1)] (grow (redrawn wr p.d) p.os) fun e w'' => e = .returned (.int .i64 (min (St.depths (l[k]).els) (m - 1) : Nat)) ∧ ∃ p : Regrown, w'' = grow (redrawn wr p.d) p.os :=
            fun p => regrown_gives (fun w' hb => by
              have := ihe F w' _ (m - 1) (hI2.below hb) (by omega) (by omega) ((hxe.below hI hB2 (Nat.le_refl _)).below hI2 hb (Nat.le_refl _))
              rwa [show (((m - 1 : Nat)) : Int) = (m : Int) - 1 by omega] at this) p
          have hcg : ∀ (x y : Int) (p : Regrown), Calls Try.prog 77 #[.int .i64 x, .int .i64 y] (grow (redrawn wr p.d) p.os) fun e w'' => e = .returned (.int .i64 (max x y)) ∧ ∃ p : Regrown, w'' = grow (redrawn wr p.d) p.os :=
            fun x y p => regrown_gives (fun w' hb => (greater_calls x y w').mono fun _ _ h => ⟨h.1, h.2 ▸ Below.refl _ _⟩) p
          have hq4 := fun d os => cell_regrown (w := wr) (a := ⟨wo.heap.size, 4, none⟩) (v := .slice a2 m2 cap2) (cell_kept hB0 (by go_simp)) d os
          have hq5 := fun d os => cell_regrown (w := wr) (a := ⟨wo.heap.size, 5, none⟩) (v := .slice a3 m3 cap3) (cell_kept hB0 (by go_simp)) d os
          generalize hA : min (St.depths (l[k]).body) (m - 1) = A at hcb
          generalize hE : min (St.depths (l[k]).els) (m - 1) = E at hce
          generalize hD : min (max (T - 1) (Ex.depths ((l[k]).args))) (m - 1) = D
          have HD := Lib.hid hD
          have HA := Lib.hid hA
          have HE := Lib.hid hE
          have HCb := Lib.hid hcb
          have HCe := Lib.hid hce
          have HCg := Lib.hid hcg
          have HB := Lib.hid (hB.trans (hB2.mono hB.size))
          clear hD hA hE hcb hce hcg hxb hxe ihb ihe hB0 hB2
          go_wp2
          refine wp_region_quiet_below (by kernel_rfl) (by kernel_rfl) ?_
          repeat (go_big_quiet_step (first | with_reducible exact HCb.out _ | with_reducible exact HCe.out _ | with_reducible exact HCg.out _ _ _))
          refine wpQuiet_nil ?_
          intro w' hw'
          have hb := below_of_regrown hw'
          clear hw' HCb HCe HCg hq4 hq5
          go_wp2
          go_roundw
          case rel => exact ⟨k + 1, by omega, by go_num, by rw [HS1.out]; have := HD.out; have := HE.out; have := HA.out; have := HS3.out; congr 1; omega, below_on HB.out (Nat.le_refl _) hb⟩
          case measure => simp [intOf]; omega
    · have : k = l.length := by omega
      subst this
      rw [List.take_length]
      have hz : min (St.depths l - 1) (m - 1) ≤ 1000 := by omega
      go_wp2
      go_ret
      exact ⟨ret_int (by omega), hB⟩

end Go.Proofs.Ytblhpiebheommaa
