/- A source (a story as it is written), as plain data, and what it is for one to lie in memory. No program in sight. -/
import Derived.Test.YtblhpiebheommaaGreatKindsChecksPart2
import Derived.Test.YtblhpiebheommaaGreatRows
import Derived.Test.YtblhpiebheommaaGreatData
import Derived.WalkSpells
import Derived.WalkLawsBesides
import Derived.Lib.QuietBelow
import Derived.BigQuiet
namespace Go.Proofs.YtblhpiebheommaaGreat
open Go.RowKit

theorem Exs.keep {F G : Nat → Prop} {w w' : World} {l : List Ex} {v : Value} (h1 : ∀ b, F b → w'.heap[b]? = w.heap[b]?) (h2 : ∀ b, F b → G b) (h : Exs F w l v) : Exs G w' l v := let ⟨c, h3, h4⟩ := h; ⟨c, h3.keep h1 h2, h4.keep h1 h2⟩
theorem Sts.keep {F G : Nat → Prop} {w w' : World} {l : List St} {v : Value} (h1 : ∀ b, F b → w'.heap[b]? = w.heap[b]?) (h2 : ∀ b, F b → G b) (h : Sts F w l v) : Sts G w' l v := let ⟨c, h3, h4⟩ := h; ⟨c, h3.keep h1 h2, h4.keep h1 h2⟩

theorem Holds.below {α : Type} (R : Holds α) {F : Nat → Prop} {w w' : World} {x : α} {cs : List Value} {B : Nat} (h : R.R F w x cs) (hF : Inn F w) (hb : Below B w w') (hB : w.heap.size ≤ B) : R.R F w' x cs :=
  R.keep (fun b hb' => hb.block b (Nat.lt_of_lt_of_le (hF b hb') hB)) (fun _ h => h) h

structure PairD where
  name : ByteArray
  num : Int
structure ExitD where
  dir : Int
  to : ByteArray
  els : ByteArray
  cond : List Ex
structure ObjD where
  name : ByteArray
  title : ByteArray
  inn : ByteArray
  text : ByteArray
  room : Bool
  words : List ByteArray
  adjs : List ByteArray
  flags : List ByteArray
  props : List PairD
  exits : List ExitD
structure SlotD where
  kind : Int
  words : List ByteArray
structure VerbD where
  name : ByteArray
  isMeta : Bool
  lines : List (List SlotD)
structure RuleD where
  verb : ByteArray
  phase : Int
  noun : ByteArray
  second : ByteArray
  cond : List Ex
  body : List St
structure FuncD where
  name : ByteArray
  params : List ByteArray
  body : List St
structure SrcD where
  title : ByteArray
  author : ByteArray
  start : ByteArray
  release : Int
  most : Int
  flags : List ByteArray
  props : List PairD
  globals : List PairD
  objects : List ObjD
  verbs : List VerbD
  rules : List RuleD
  funcs : List FuncD
  daemons : List FuncD

def Holds.pair : Holds PairD := ⟨fun _ _ x cs => x.name.size ≤ maxLen ∧ I64 x.num ∧ cs = [.string x.name, .int .i64 x.num], fun _ _ h => h⟩
def Holds.exit : Holds ExitD := ⟨fun F w x cs => I64 x.dir ∧ x.to.size ≤ maxLen ∧ x.els.size ≤ maxLen ∧ ∃ v, cs = [.int .i64 x.dir, .string x.to, .string x.els, v] ∧ Exs F w x.cond v,
  fun h1 h2 ⟨a, b, c, v, d, e⟩ => ⟨a, b, c, v, d, e.keep h1 h2⟩⟩
def Holds.obj : Holds ObjD := ⟨fun F w x cs => x.name.size ≤ maxLen ∧ x.title.size ≤ maxLen ∧ x.inn.size ≤ maxLen ∧ x.text.size ≤ maxLen ∧ ∃ v5 v6 v7 v8 v9, cs = [.string x.name, .string x.title, .string x.inn, .string x.text, .bool x.room, v5, v6, v7, v8, v9] ∧
    RdStrs F w x.words v5 ∧ RdStrs F w x.adjs v6 ∧ RdStrs F w x.flags v7 ∧ RdL Holds.pair 2 F w x.props v8 ∧ RdL Holds.exit 4 F w x.exits v9,
  fun h1 h2 ⟨a, b, c, d, v5, v6, v7, v8, v9, e, g5, g6, g7, g8, g9⟩ => ⟨a, b, c, d, v5, v6, v7, v8, v9, e, g5.keep h1 h2, g6.keep h1 h2, g7.keep h1 h2, g8.keep h1 h2, g9.keep h1 h2⟩⟩
def Holds.slot : Holds SlotD := ⟨fun F w x cs => I64 x.kind ∧ ∃ v, cs = [.int .i64 x.kind, v] ∧ RdStrs F w x.words v, fun h1 h2 ⟨a, v, b, c⟩ => ⟨a, v, b, c.keep h1 h2⟩⟩
def Holds.verb : Holds VerbD := ⟨fun F w x cs => x.name.size ≤ maxLen ∧ ∃ v, cs = [.string x.name, .bool x.isMeta, v] ∧ RdL (Holds.sl Holds.slot 2) 1 F w x.lines v, fun h1 h2 ⟨a, v, b, c⟩ => ⟨a, v, b, c.keep h1 h2⟩⟩
def Holds.rule : Holds RuleD := ⟨fun F w x cs => x.verb.size ≤ maxLen ∧ I64 x.phase ∧ x.noun.size ≤ maxLen ∧ x.second.size ≤ maxLen ∧ ∃ v4 v5, cs = [.string x.verb, .int .i64 x.phase, .string x.noun, .string x.second, v4, v5] ∧ Exs F w x.cond v4 ∧ Sts F w x.body v5,
  fun h1 h2 ⟨a, b, c, d, v4, v5, e, g4, g5⟩ => ⟨a, b, c, d, v4, v5, e, g4.keep h1 h2, g5.keep h1 h2⟩⟩
def Holds.fnc : Holds FuncD := ⟨fun F w x cs => x.name.size ≤ maxLen ∧ ∃ v1 v2, cs = [.string x.name, v1, v2] ∧ RdStrs F w x.params v1 ∧ Sts F w x.body v2, fun h1 h2 ⟨a, v1, v2, b, g1, g2⟩ => ⟨a, v1, v2, b, g1.keep h1 h2, g2.keep h1 h2⟩⟩

/-- The 13 cells of a source. -/
def Holds.src : Holds SrcD := ⟨fun F w x cs => x.title.size ≤ maxLen ∧ x.author.size ≤ maxLen ∧ x.start.size ≤ maxLen ∧ I64 x.release ∧ I64 x.most ∧ ∃ v5 v6 v7 v8 v9 v10 v11 v12, cs = [.string x.title, .string x.author, .string x.start, .int .i64 x.release, .int .i64 x.most, v5, v6, v7, v8, v9, v10, v11, v12] ∧
    RdStrs F w x.flags v5 ∧ RdL Holds.pair 2 F w x.props v6 ∧ RdL Holds.pair 2 F w x.globals v7 ∧ RdL Holds.obj 10 F w x.objects v8 ∧ RdL Holds.verb 3 F w x.verbs v9 ∧ RdL Holds.rule 6 F w x.rules v10 ∧ RdL Holds.fnc 3 F w x.funcs v11 ∧ RdL Holds.fnc 3 F w x.daemons v12,
  fun h1 h2 ⟨a, b, c, d, e, v5, v6, v7, v8, v9, v10, v11, v12, f, g5, g6, g7, g8, g9, g10, g11, g12⟩ => ⟨a, b, c, d, e, v5, v6, v7, v8, v9, v10, v11, v12, f, g5.keep h1 h2, g6.keep h1 h2, g7.keep h1 h2, g8.keep h1 h2, g9.keep h1 h2, g10.keep h1 h2, g11.keep h1 h2, g12.keep h1 h2⟩⟩

/-- A source's cells, each slice laid open as a value. -/
theorem src_shape {F : Nat → Prop} {w : World} {x : SrcD} {cs : List Value} (h : Holds.src.R F w x cs) : ∃ (a5 : Option Addr) (c5 : Nat) (a6 : Option Addr) (c6 : Nat) (a7 : Option Addr) (c7 : Nat) (a8 : Option Addr) (c8 : Nat) (a9 : Option Addr) (c9 : Nat) (a10 : Option Addr) (c10 : Nat) (a11 : Option Addr) (c11 : Nat) (a12 : Option Addr) (c12 : Nat),
    cs = [.string x.title, .string x.author, .string x.start, .int .i64 x.release, .int .i64 x.most, .slice a5 x.flags.length c5, .slice a6 x.props.length c6, .slice a7 x.globals.length c7, .slice a8 x.objects.length c8, .slice a9 x.verbs.length c9, .slice a10 x.rules.length c10, .slice a11 x.funcs.length c11, .slice a12 x.daemons.length c12] ∧
    RdStrs F w x.flags (.slice a5 x.flags.length c5) ∧ RdL Holds.pair 2 F w x.props (.slice a6 x.props.length c6) ∧ RdL Holds.pair 2 F w x.globals (.slice a7 x.globals.length c7) ∧ RdL Holds.obj 10 F w x.objects (.slice a8 x.objects.length c8) ∧ RdL Holds.verb 3 F w x.verbs (.slice a9 x.verbs.length c9) ∧
    RdL Holds.rule 6 F w x.rules (.slice a10 x.rules.length c10) ∧ RdL Holds.fnc 3 F w x.funcs (.slice a11 x.funcs.length c11) ∧ RdL Holds.fnc 3 F w x.daemons (.slice a12 x.daemons.length c12) := by
  obtain ⟨-, -, -, -, -, v5, v6, v7, v8, v9, v10, v11, v12, rfl, g5, g6, g7, g8, g9, g10, g11, g12⟩ := h
  obtain ⟨a5, c5, rfl⟩ := g5.shape
  obtain ⟨a6, c6, rfl⟩ := g6.shape
  obtain ⟨a7, c7, rfl⟩ := g7.shape
  obtain ⟨a8, c8, rfl⟩ := g8.shape
  obtain ⟨a9, c9, rfl⟩ := g9.shape
  obtain ⟨a10, c10, rfl⟩ := g10.shape
  obtain ⟨a11, c11, rfl⟩ := g11.shape
  obtain ⟨a12, c12, rfl⟩ := g12.shape
  exact ⟨_, _, _, _, _, _, _, _, _, _, _, _, _, _, _, _, rfl, g5, g6, g7, g8, g9, g10, g11, g12⟩
end Go.Proofs.YtblhpiebheommaaGreat
/- Reading a Source from a row's arguments. Printed by gen-reads.py. -/
namespace Go.Proofs.YtblhpiebheommaaGreat
open Go.RowKit Go.ChangeShapes Go.WideShapes

theorem cz0 : Tryz.prog.cellsOf 99 = 2 := by kernel_rfl
theorem cz1 : Tryz.prog.cellsOf 44 = 4 := by kernel_rfl
theorem cz2 : Tryz.prog.cellsOf 41 = 10 := by kernel_rfl
theorem cz3 : Tryz.prog.cellsOf 131 = 2 := by kernel_rfl
theorem cz4 : Tryz.prog.cellsOf 86 = 3 := by kernel_rfl
theorem cz5 : Tryz.prog.cellsOf 48 = 6 := by kernel_rfl
theorem cz6 : Tryz.prog.cellsOf 51 = 3 := by kernel_rfl
theorem cz7 : Tryz.prog.cellsOf 29 = 13 := by kernel_rfl
theorem cz8 : Tryz.prog.cellsOf 4 = 1 := by kernel_rfl
theorem cz9 : Tryz.prog.cellsOf 22 = 1 := by kernel_rfl
theorem cz10 : Tryz.prog.cellsOf 23 = 1 := by kernel_rfl
theorem cz11 : Tryz.prog.cellsOf 39 = 1 := by kernel_rfl
theorem cz12 : Tryz.prog.cellsOf 116 = 1 := by kernel_rfl
theorem cz13 : Tryz.prog.cellsOf 84 = 1 := by kernel_rfl
theorem cz14 : Tryz.prog.cellsOf 24 = 1 := by kernel_rfl
theorem cz15 : Tryz.prog.cellsOf 25 = 1 := by kernel_rfl
theorem cz16 : Tryz.prog.cellsOf 26 = 1 := by kernel_rfl
theorem cz17 : Tryz.prog.cellsOf 27 = 1 := by kernel_rfl
instance : Inhabited ByteArray := ⟨⟨#[]⟩⟩
instance : Inhabited PairD := ⟨⟨⟨#[]⟩, 0⟩⟩
instance : Inhabited ExitD := ⟨⟨0, ⟨#[]⟩, ⟨#[]⟩, []⟩⟩
instance : Inhabited ObjD := ⟨⟨⟨#[]⟩, ⟨#[]⟩, ⟨#[]⟩, ⟨#[]⟩, false, [], [], [], [], []⟩⟩
instance : Inhabited SlotD := ⟨⟨0, []⟩⟩
instance : Inhabited VerbD := ⟨⟨⟨#[]⟩, false, []⟩⟩
instance : Inhabited RuleD := ⟨⟨⟨#[]⟩, 0, ⟨#[]⟩, ⟨#[]⟩, [], []⟩⟩
instance : Inhabited FuncD := ⟨⟨⟨#[]⟩, [], []⟩⟩

section
variable {H : Type} {enc : TypeId × Value → H} {W : World} {sp : Nat → Bool} {held : Bool}

theorem rdl_of {P : Program} {te tt : TypeId} {sz fuel : Nat} {cs : List Value} {x : DataW H × List MemPlace} (ht : P.underlying tt = some (.slice te)) (hc : P.cellsOf te = sz) (hsz : 0 < sz)
    (h : DataW.trod enc P W 0 sp held fuel tt cs = some x) {α : Type} [Inhabited α] (R : Holds α) (hR : ∀ m cs y, DataW.trod enc P W 0 sp held m te cs = some y → ∃ e, R.R (fun b => b < W.heap.size) W e cs) :
    ∃ v l, cs = [v] ∧ RdL R sz (fun b => b < W.heap.size) W l v := by
  obtain ⟨v, len, c, hv, hsl, E, hE⟩ := sl_of ht hc hsz h (R := R.R (fun b => b < W.heap.size) W) (α := α) (fun m cs y _ => hR m cs y)
  refine ⟨v, (List.range len).map E, hv, c, by simpa using hsl, fun i hi => ?_⟩
  have := hE i (by simpa using hi)
  rw [List.getElem_map, List.getElem_range]
  exact this
theorem read_str1 (m : Nat) (cs : List Value) (y : DataW H × List MemPlace) (h : DataW.trod enc Tryz.prog W 0 sp held m 9 cs = some y) : ∃ e, Holds.str.R (fun b => b < W.heap.size) W e cs := by
  obtain ⟨s, hs, _, ws⟩ := DataW.trod_string Tryz.underlying9 h
  exact ⟨s, ws, by simpa using hs⟩

set_option maxRecDepth 20000 in
theorem read_pair (fuel : Nat) (cs : List Value) (x : DataW H × List MemPlace) (h : DataW.trod enc Tryz.prog W 0 sp held fuel 99 cs = some x) : ∃ e, Holds.pair.R (fun b => b < W.heap.size) W e cs := by
  obtain ⟨xs, m, rfl, _, hl, hlen, hf⟩ := DataW.trod_struct Tryz.underlying99 h
  rw [cz0] at hl
  have hlen : xs.length = 2 := hlen
  match cs, hl, xs, hlen with
  | [c0, c1], _, [y0, y1], _ =>
    have h0 := hf 0 _ rfl
    have h1 := hf 1 _ rfl
    obtain ⟨d0, q0, _, w0⟩ := DataW.trod_string Tryz.underlying9 h0
    have e0 : c0 = .string d0 := by simpa [ce_str] using q0
    obtain ⟨d1, q1, _, w1⟩ := DataW.trod_int Tryz.underlying3 h1
    have e1 : c1 = .int .i64 d1 := by simpa [ce_int] using q1
    subst e0 e1
    exact ⟨⟨d0, d1⟩, w0, i64_wf w1, rfl⟩

set_option maxRecDepth 20000 in
theorem read_exit (fuel : Nat) (cs : List Value) (x : DataW H × List MemPlace) (h : DataW.trod enc Tryz.prog W 0 sp held fuel 44 cs = some x) : ∃ e, Holds.exit.R (fun b => b < W.heap.size) W e cs := by
  obtain ⟨xs, m, rfl, _, hl, hlen, hf⟩ := DataW.trod_struct Tryz.underlying44 h
  rw [cz1] at hl
  have hlen : xs.length = 4 := hlen
  match cs, hl, xs, hlen with
  | [c0, c1, c2, c3], _, [y0, y1, y2, y3], _ =>
    have h0 := hf 0 _ rfl
    have h1 := hf 1 _ rfl
    have h2 := hf 2 _ rfl
    have h3 := hf 3 _ rfl
    obtain ⟨d0, q0, _, w0⟩ := DataW.trod_int Tryz.underlying3 h0
    have e0 : c0 = .int .i64 d0 := by simpa [ce_int] using q0
    obtain ⟨d1, q1, _, w1⟩ := DataW.trod_string Tryz.underlying9 h1
    have e1 : c1 = .string d1 := by simpa [ce_str] using q1
    obtain ⟨d2, q2, _, w2⟩ := DataW.trod_string Tryz.underlying9 h2
    have e2 : c2 = .string d2 := by simpa [ce_str] using q2
    obtain ⟨v3, d3, q3, r3⟩ := read_exs h3
    have e3 : c3 = v3 := by simpa [ce_exs] using q3
    subst e0 e1 e2 e3
    exact ⟨⟨d0, d1, d2, d3⟩, i64_wf w0, w1, w2, _, rfl, r3⟩

set_option maxRecDepth 20000 in
theorem read_obj (fuel : Nat) (cs : List Value) (x : DataW H × List MemPlace) (h : DataW.trod enc Tryz.prog W 0 sp held fuel 41 cs = some x) : ∃ e, Holds.obj.R (fun b => b < W.heap.size) W e cs := by
  obtain ⟨xs, m, rfl, _, hl, hlen, hf⟩ := DataW.trod_struct Tryz.underlying41 h
  rw [cz2] at hl
  have hlen : xs.length = 10 := hlen
  match cs, hl, xs, hlen with
  | [c0, c1, c2, c3, c4, c5, c6, c7, c8, c9], _, [y0, y1, y2, y3, y4, y5, y6, y7, y8, y9], _ =>
    have h0 := hf 0 _ rfl
    have h1 := hf 1 _ rfl
    have h2 := hf 2 _ rfl
    have h3 := hf 3 _ rfl
    have h4 := hf 4 _ rfl
    have h5 := hf 5 _ rfl
    have h6 := hf 6 _ rfl
    have h7 := hf 7 _ rfl
    have h8 := hf 8 _ rfl
    have h9 := hf 9 _ rfl
    obtain ⟨d0, q0, _, w0⟩ := DataW.trod_string Tryz.underlying9 h0
    have e0 : c0 = .string d0 := by simpa [ce_str] using q0
    obtain ⟨d1, q1, _, w1⟩ := DataW.trod_string Tryz.underlying9 h1
    have e1 : c1 = .string d1 := by simpa [ce_str] using q1
    obtain ⟨d2, q2, _, w2⟩ := DataW.trod_string Tryz.underlying9 h2
    have e2 : c2 = .string d2 := by simpa [ce_str] using q2
    obtain ⟨d3, q3, _, w3⟩ := DataW.trod_string Tryz.underlying9 h3
    have e3 : c3 = .string d3 := by simpa [ce_str] using q3
    obtain ⟨d4, q4, _⟩ := DataW.trod_bool Tryz.underlying4 h4
    have e4 : c4 = .bool d4 := by simpa [cz8] using q4
    obtain ⟨v5, d5, q5, r5⟩ := rdl_of Tryz.underlying22 ce_str (by omega) h5 Holds.str read_str1
    have e5 : c5 = v5 := by simpa [cz9] using q5
    obtain ⟨v6, d6, q6, r6⟩ := rdl_of Tryz.underlying22 ce_str (by omega) h6 Holds.str read_str1
    have e6 : c6 = v6 := by simpa [cz9] using q6
    obtain ⟨v7, d7, q7, r7⟩ := rdl_of Tryz.underlying22 ce_str (by omega) h7 Holds.str read_str1
    have e7 : c7 = v7 := by simpa [cz9] using q7
    obtain ⟨v8, d8, q8, r8⟩ := rdl_of Tryz.underlying23 cz0 (by omega) h8 Holds.pair read_pair
    have e8 : c8 = v8 := by simpa [cz10] using q8
    obtain ⟨v9, d9, q9, r9⟩ := rdl_of Tryz.underlying39 cz1 (by omega) h9 Holds.exit read_exit
    have e9 : c9 = v9 := by simpa [cz11] using q9
    subst e0 e1 e2 e3 e4 e5 e6 e7 e8 e9
    exact ⟨⟨d0, d1, d2, d3, d4, d5, d6, d7, d8, d9⟩, w0, w1, w2, w3, _, _, _, _, _, rfl, r5, r6, r7, r8, r9⟩

set_option maxRecDepth 20000 in
theorem read_slot (fuel : Nat) (cs : List Value) (x : DataW H × List MemPlace) (h : DataW.trod enc Tryz.prog W 0 sp held fuel 131 cs = some x) : ∃ e, Holds.slot.R (fun b => b < W.heap.size) W e cs := by
  obtain ⟨xs, m, rfl, _, hl, hlen, hf⟩ := DataW.trod_struct Tryz.underlying131 h
  rw [cz3] at hl
  have hlen : xs.length = 2 := hlen
  match cs, hl, xs, hlen with
  | [c0, c1], _, [y0, y1], _ =>
    have h0 := hf 0 _ rfl
    have h1 := hf 1 _ rfl
    obtain ⟨d0, q0, _, w0⟩ := DataW.trod_int Tryz.underlying3 h0
    have e0 : c0 = .int .i64 d0 := by simpa [ce_int] using q0
    obtain ⟨v1, d1, q1, r1⟩ := rdl_of Tryz.underlying22 ce_str (by omega) h1 Holds.str read_str1
    have e1 : c1 = v1 := by simpa [cz9] using q1
    subst e0 e1
    exact ⟨⟨d0, d1⟩, i64_wf w0, _, rfl, r1⟩

theorem read_line (m : Nat) (cs : List Value) (y : DataW H × List MemPlace) (h : DataW.trod enc Tryz.prog W 0 sp held m 116 cs = some y) : ∃ e, (Holds.sl Holds.slot 2).R (fun b => b < W.heap.size) W e cs := by
  obtain ⟨v, l, hv, hl⟩ := rdl_of Tryz.underlying116 cz3 (by omega) h Holds.slot read_slot
  exact ⟨l, v, hv, hl⟩

set_option maxRecDepth 20000 in
theorem read_verb (fuel : Nat) (cs : List Value) (x : DataW H × List MemPlace) (h : DataW.trod enc Tryz.prog W 0 sp held fuel 86 cs = some x) : ∃ e, Holds.verb.R (fun b => b < W.heap.size) W e cs := by
  obtain ⟨xs, m, rfl, _, hl, hlen, hf⟩ := DataW.trod_struct Tryz.underlying86 h
  rw [cz4] at hl
  have hlen : xs.length = 3 := hlen
  match cs, hl, xs, hlen with
  | [c0, c1, c2], _, [y0, y1, y2], _ =>
    have h0 := hf 0 _ rfl
    have h1 := hf 1 _ rfl
    have h2 := hf 2 _ rfl
    obtain ⟨d0, q0, _, w0⟩ := DataW.trod_string Tryz.underlying9 h0
    have e0 : c0 = .string d0 := by simpa [ce_str] using q0
    obtain ⟨d1, q1, _⟩ := DataW.trod_bool Tryz.underlying4 h1
    have e1 : c1 = .bool d1 := by simpa [cz8] using q1
    obtain ⟨v2, d2, q2, r2⟩ := rdl_of Tryz.underlying84 cz12 (by omega) h2 (Holds.sl Holds.slot 2) read_line
    have e2 : c2 = v2 := by simpa [cz13] using q2
    subst e0 e1 e2
    exact ⟨⟨d0, d1, d2⟩, w0, _, rfl, r2⟩

set_option maxRecDepth 20000 in
theorem read_rule (fuel : Nat) (cs : List Value) (x : DataW H × List MemPlace) (h : DataW.trod enc Tryz.prog W 0 sp held fuel 48 cs = some x) : ∃ e, Holds.rule.R (fun b => b < W.heap.size) W e cs := by
  obtain ⟨xs, m, rfl, _, hl, hlen, hf⟩ := DataW.trod_struct Tryz.underlying48 h
  rw [cz5] at hl
  have hlen : xs.length = 6 := hlen
  match cs, hl, xs, hlen with
  | [c0, c1, c2, c3, c4, c5], _, [y0, y1, y2, y3, y4, y5], _ =>
    have h0 := hf 0 _ rfl
    have h1 := hf 1 _ rfl
    have h2 := hf 2 _ rfl
    have h3 := hf 3 _ rfl
    have h4 := hf 4 _ rfl
    have h5 := hf 5 _ rfl
    obtain ⟨d0, q0, _, w0⟩ := DataW.trod_string Tryz.underlying9 h0
    have e0 : c0 = .string d0 := by simpa [ce_str] using q0
    obtain ⟨d1, q1, _, w1⟩ := DataW.trod_int Tryz.underlying3 h1
    have e1 : c1 = .int .i64 d1 := by simpa [ce_int] using q1
    obtain ⟨d2, q2, _, w2⟩ := DataW.trod_string Tryz.underlying9 h2
    have e2 : c2 = .string d2 := by simpa [ce_str] using q2
    obtain ⟨d3, q3, _, w3⟩ := DataW.trod_string Tryz.underlying9 h3
    have e3 : c3 = .string d3 := by simpa [ce_str] using q3
    obtain ⟨v4, d4, q4, r4⟩ := read_exs h4
    have e4 : c4 = v4 := by simpa [ce_exs] using q4
    obtain ⟨v5, d5, q5, r5⟩ := read_sts h5
    have e5 : c5 = v5 := by simpa [ce_sts] using q5
    subst e0 e1 e2 e3 e4 e5
    exact ⟨⟨d0, d1, d2, d3, d4, d5⟩, w0, i64_wf w1, w2, w3, _, _, rfl, r4, r5⟩

set_option maxRecDepth 20000 in
theorem read_fnc (fuel : Nat) (cs : List Value) (x : DataW H × List MemPlace) (h : DataW.trod enc Tryz.prog W 0 sp held fuel 51 cs = some x) : ∃ e, Holds.fnc.R (fun b => b < W.heap.size) W e cs := by
  obtain ⟨xs, m, rfl, _, hl, hlen, hf⟩ := DataW.trod_struct Tryz.underlying51 h
  rw [cz6] at hl
  have hlen : xs.length = 3 := hlen
  match cs, hl, xs, hlen with
  | [c0, c1, c2], _, [y0, y1, y2], _ =>
    have h0 := hf 0 _ rfl
    have h1 := hf 1 _ rfl
    have h2 := hf 2 _ rfl
    obtain ⟨d0, q0, _, w0⟩ := DataW.trod_string Tryz.underlying9 h0
    have e0 : c0 = .string d0 := by simpa [ce_str] using q0
    obtain ⟨v1, d1, q1, r1⟩ := rdl_of Tryz.underlying22 ce_str (by omega) h1 Holds.str read_str1
    have e1 : c1 = v1 := by simpa [cz9] using q1
    obtain ⟨v2, d2, q2, r2⟩ := read_sts h2
    have e2 : c2 = v2 := by simpa [ce_sts] using q2
    subst e0 e1 e2
    exact ⟨⟨d0, d1, d2⟩, w0, _, _, rfl, r1, r2⟩

set_option maxRecDepth 20000 in
theorem read_src (fuel : Nat) (cs : List Value) (x : DataW H × List MemPlace) (h : DataW.trod enc Tryz.prog W 0 sp held fuel 29 cs = some x) : ∃ e, Holds.src.R (fun b => b < W.heap.size) W e cs := by
  obtain ⟨xs, m, rfl, _, hl, hlen, hf⟩ := DataW.trod_struct Tryz.underlying29 h
  rw [cz7] at hl
  have hlen : xs.length = 13 := hlen
  match cs, hl, xs, hlen with
  | [c0, c1, c2, c3, c4, c5, c6, c7, c8, c9, c10, c11, c12], _, [y0, y1, y2, y3, y4, y5, y6, y7, y8, y9, y10, y11, y12], _ =>
    have h0 := hf 0 _ rfl
    have h1 := hf 1 _ rfl
    have h2 := hf 2 _ rfl
    have h3 := hf 3 _ rfl
    have h4 := hf 4 _ rfl
    have h5 := hf 5 _ rfl
    have h6 := hf 6 _ rfl
    have h7 := hf 7 _ rfl
    have h8 := hf 8 _ rfl
    have h9 := hf 9 _ rfl
    have h10 := hf 10 _ rfl
    have h11 := hf 11 _ rfl
    have h12 := hf 12 _ rfl
    obtain ⟨d0, q0, _, w0⟩ := DataW.trod_string Tryz.underlying9 h0
    have e0 : c0 = .string d0 := by simpa [ce_str] using q0
    obtain ⟨d1, q1, _, w1⟩ := DataW.trod_string Tryz.underlying9 h1
    have e1 : c1 = .string d1 := by simpa [ce_str] using q1
    obtain ⟨d2, q2, _, w2⟩ := DataW.trod_string Tryz.underlying9 h2
    have e2 : c2 = .string d2 := by simpa [ce_str] using q2
    obtain ⟨d3, q3, _, w3⟩ := DataW.trod_int Tryz.underlying3 h3
    have e3 : c3 = .int .i64 d3 := by simpa [ce_int] using q3
    obtain ⟨d4, q4, _, w4⟩ := DataW.trod_int Tryz.underlying3 h4
    have e4 : c4 = .int .i64 d4 := by simpa [ce_int] using q4
    obtain ⟨v5, d5, q5, r5⟩ := rdl_of Tryz.underlying22 ce_str (by omega) h5 Holds.str read_str1
    have e5 : c5 = v5 := by simpa [cz9] using q5
    obtain ⟨v6, d6, q6, r6⟩ := rdl_of Tryz.underlying23 cz0 (by omega) h6 Holds.pair read_pair
    have e6 : c6 = v6 := by simpa [cz10] using q6
    obtain ⟨v7, d7, q7, r7⟩ := rdl_of Tryz.underlying23 cz0 (by omega) h7 Holds.pair read_pair
    have e7 : c7 = v7 := by simpa [cz10] using q7
    obtain ⟨v8, d8, q8, r8⟩ := rdl_of Tryz.underlying24 cz2 (by omega) h8 Holds.obj read_obj
    have e8 : c8 = v8 := by simpa [cz14] using q8
    obtain ⟨v9, d9, q9, r9⟩ := rdl_of Tryz.underlying25 cz4 (by omega) h9 Holds.verb read_verb
    have e9 : c9 = v9 := by simpa [cz15] using q9
    obtain ⟨v10, d10, q10, r10⟩ := rdl_of Tryz.underlying26 cz5 (by omega) h10 Holds.rule read_rule
    have e10 : c10 = v10 := by simpa [cz16] using q10
    obtain ⟨v11, d11, q11, r11⟩ := rdl_of Tryz.underlying27 cz6 (by omega) h11 Holds.fnc read_fnc
    have e11 : c11 = v11 := by simpa [cz17] using q11
    obtain ⟨v12, d12, q12, r12⟩ := rdl_of Tryz.underlying27 cz6 (by omega) h12 Holds.fnc read_fnc
    have e12 : c12 = v12 := by simpa [cz17] using q12
    subst e0 e1 e2 e3 e4 e5 e6 e7 e8 e9 e10 e11 e12
    exact ⟨⟨d0, d1, d2, d3, d4, d5, d6, d7, d8, d9, d10, d11, d12⟩, w0, w1, w2, i64_wf w3, i64_wf w4, _, _, _, _, _, _, _, _, rfl, r5, r6, r7, r8, r9, r10, r11, r12⟩

end
end Go.Proofs.YtblhpiebheommaaGreat
/- What the bulk of a slice's reading tells of its length. -/
namespace Go.Proofs.YtblhpiebheommaaGreat
open Go.RowKit Go.ChangeShapes Go.WideShapes

theorem bulk_one {H : Type} (d : DataW H) : 1 ≤ Rows.uptoBulk d := by
  cases d
  all_goals (unfold Rows.uptoBulk; first | omega | (split <;> omega))
theorem bulk_len {H : Type} : ∀ l : List (DataW H), l.length ≤ Rows.uptoBulkAll l
  | [] => Nat.zero_le _
  | d :: r => by
    have h1 := bulk_one d
    have h2 := bulk_len r
    simp only [Rows.uptoBulkAll, List.length_cons]
    omega
theorem sl_bulk {H : Type} {enc : TypeId × Value → H} {W : World} {sp : Nat → Bool} {held : Bool} {P : Program} {te tt : TypeId} {fuel : Nat} {cs : List Value} {x : DataW H × List MemPlace} (ht : P.underlying tt = some (.slice te))
    (h : DataW.trod enc P W 0 sp held fuel tt cs = some x) : ∃ a n cap, cs = [.slice a n cap] ∧ n ≤ Rows.uptoBulk x.1 := by
  rcases DataW.trod_slice ht h with ⟨rfl, _⟩ | ⟨a, len, cap, elems, rest, n, rfl, rfl, rfl, _, hl, hm, hlen, hel, _, _⟩
  · exact ⟨none, 0, 0, rfl, Nat.zero_le _⟩
  · refine ⟨some a, len, cap, rfl, ?_⟩
    have := bulk_len (elems.map (·.1))
    rw [List.length_map] at this
    show len ≤ Rows.uptoBulk (DataW.slice (elems.map (·.1)) (rest.map (·.1)))
    unfold Rows.uptoBulk
    omega
end Go.Proofs.YtblhpiebheommaaGreat
/- The walks of the functions that count expressions and statements, and tell how deep they are: each hands back the number that XData defines, and leaves what was in memory as it was. -/
namespace Go.Proofs.YtblhpiebheommaaGreat
open Go.RowKit





def FewC (e : Ex) : Prop := ∀ (F : Nat → Prop) (w : World) (cs : List Value) (m : Int), Inn F w → 0 ≤ m → m ≤ 1000000 → RdEx F w e cs →
    Calls Tryz.prog 32 #[.agg cs.toArray, .int .i64 m] w (Gives w (.int .i64 (e.few m)))

set_option maxHeartbeats 400000 in
theorem few_calls (e : Ex) : FewC e := by
  induction e using Ex.ind with
  | h kd o n s args ih =>
  intro F w cs m hF hm0 hm1 hr
  obtain ⟨h1, h2, h3, h4, v, c, rfl, hsl, hrow⟩ := hr
  obtain ⟨a, cap, rfl, hl, hc, ha⟩ := hsl
  unfold maxLen at hc
  go_enter Tryz.func32, Tryz.ntmps32
  go_wp2
  go_loopw [1, 12] (fun t i wr => ∃ (k : Nat) (q : Int), k ≤ args.length ∧ i = .int .i64 k ∧ t = .int .i64 q ∧ -1 ≤ q ∧ q ≤ 1000000 ∧ Hid (Ex.fews args (m - 1) = Ex.fews (args.drop k) q) ∧ Below w.heap.size w wr) (fun _ i _ => args.length - (intOf i).toNat)
  case atStart => exact ⟨0, m - 1, Nat.zero_le _, rfl, rfl, by omega, by omega, by rw [List.drop_zero]; exact rfl, (Below.refl _ _).alloc (Nat.le_refl _) _⟩
  case round =>
    obtain ⟨k, q, hk, rfl, rfl, hq0, hq1, hq, hB⟩ := hrel
    by_cases hlt : k < args.length
    · obtain ⟨b, off, rfl, hFb, hcell⟩ := ha (by omega)
      obtain ⟨kd', o', n', s', a', m', cap', hx, g0, g1, g2, g3, g4⟩ := row_at hcell hrow (hB.block b (hF b hFb)) k hlt
      clear ha hcell hrow
      have HD := Lib.hid (Ex.fews_drop args k hlt q)
      have ihk : FewC args[k] := ih _ (List.getElem_mem hlt)
      have hI := hF.below hB
      have hx2 := fun o => (hx.below hF hB (Nat.le_refl _)).alloc hI o
      clear ih hx
      by_cases hneg : q < 0
      · have hfin : Hid (Ex.few (.mk kd o n s args) m = q) := by
          show Ex.fews args (m - 1) = q
          rw [hq.out, HD.out, if_pos hneg]
        clear hq HD
        go_wp2
        go_ret
        exact ⟨ret_int hfin.out.symm, hB.alloc hB.size _⟩
      · have hfs := Ex.few_size args[k] q (by omega)
        have hr1 := hfs.1.1
        have hr2 := hfs.1.2
        have hnx : Hid (Ex.fews args (m - 1) = Ex.fews (args.drop (k + 1)) (args[k].few q)) := by
          show Ex.fews args (m - 1) = _
          rw [hq.out, HD.out, if_neg hneg]
        clear hq HD hfs
        go_wp2_with (go_at_call 32; refine (ihk F _ _ q (hI.alloc _) (by omega) (by omega) (hx2 _)).mono ?_; rintro e w' ⟨rfl, hb⟩)
        go_roundw
        case rel => exact ⟨k + 1, _, by omega, by go_num, rfl, by omega, by omega, hnx, below_on1 hB (Nat.le_refl _) hb⟩
        case measure => simp [intOf]; omega
    · have : k = args.length := by omega
      subst this
      have hfin : Hid (Ex.few (.mk kd o n s args) m = q) := by
        show Ex.fews args (m - 1) = q
        rw [hq.out, List.drop_length]; rfl
      clear hq
      go_wp2
      go_ret
      exact ⟨ret_int hfin.out.symm, hB⟩

def DeepRC (e : Ex) : Prop := ∀ (F : Nat → Prop) (w : World) (cs : List Value) (m : Nat), Inn F w → 1 ≤ m → m ≤ 1000 → RdEx F w e cs →
    Calls Tryz.prog 80 #[.agg cs.toArray, .int .i64 m] w (Gives w (.int .i64 (min e.depth m : Nat)))

set_option maxHeartbeats 400000 in
theorem deepR_calls (e : Ex) : DeepRC e := by
  induction e using Ex.ind with
  | h kd o n s args ih =>
  intro F w cs m hF hm0 hm1 hr
  obtain ⟨h1, h2, h3, h4, v, c, rfl, hsl, hrow⟩ := hr
  obtain ⟨a, cap, rfl, hl, hc, ha⟩ := hsl
  unfold maxLen at hc
  by_cases hm : m = 1
  · subst hm
    go_enter Tryz.func80, Tryz.ntmps80
    go_wp2
    go_ret
    exact ⟨ret_int (by simp only [Ex.depth]; omega), (Below.refl _ _).alloc (Nat.le_refl _) _⟩
  have hm2 : 1 < m := by omega
  clear hm
  have hm3 : (1 : Int) < (m : Int) := by omega
  go_enter Tryz.func80, Tryz.ntmps80
  go_wp2
  go_loopw [5, 14] (fun t i wr => ∃ (k : Nat), k ≤ args.length ∧ i = .int .i64 k ∧ t = .int .i64 (min (Ex.depths (args.take k)) (m - 1) : Nat) ∧ Below w.heap.size w wr) (fun _ i _ => args.length - (intOf i).toNat)
  case atStart => exact ⟨0, Nat.zero_le _, rfl, by simp [Ex.depths], (Below.refl _ _).alloc (Nat.le_refl _) _⟩
  case round =>
    obtain ⟨k, hk, rfl, rfl, hB⟩ := hrel
    by_cases hlt : k < args.length
    · obtain ⟨b, off, rfl, hFb, hcell⟩ := ha (by omega)
      obtain ⟨kd', o', n', s', a', m', cap', hx, g0, g1, g2, g3, g4⟩ := row_at hcell hrow (hB.block b (hF b hFb)) k hlt
      clear ha hcell hrow
      have HS := Lib.hid (Ex.depths_take args k hlt)
      have ihk : DeepRC args[k] := ih _ (List.getElem_mem hlt)
      have hI := hF.below hB
      have hx2 := fun o => (hx.below hF hB (Nat.le_refl _)).alloc hI o
      clear ih hx
      have hcall : ∀ o, Calls Tryz.prog 80 #[.agg #[.int .i64 kd', .int .i64 o', .int .i64 n', .string s', .slice a' m' cap'], .int .i64 ((m : Int) - 1)] (wr.alloc o) (Gives (wr.alloc o) (.int .i64 (min (args[k]).depth (m - 1) : Nat))) := fun o => by
        have := ihk F (wr.alloc o) _ (m - 1) (hI.alloc _) (by omega) (by omega) (hx2 _)
        rwa [show (((m - 1 : Nat)) : Int) = (m : Int) - 1 by omega] at this
      clear ihk
      generalize hD : min (Ex.depths (args.take k)) (m - 1) = D
      generalize hE : min (args[k]).depth (m - 1) = E at hcall
      have hD2 : D ≤ 1000 := by omega
      have hE2 : E ≤ 1000 := by omega
      have HD := Lib.hid hD
      have HE := Lib.hid hE
      clear hD hE
      have HC := Lib.hid hcall
      clear hcall
      by_cases hlt2 : D < E
      all_goals
        go_wp2_with (go_at_call 80; refine (HC.out _).mono ?_; rintro e w' ⟨rfl, hb⟩)
        go_roundw
        case rel => exact ⟨k + 1, by omega, by go_num, by rw [HS.out]; have := HD.out; have := HE.out; first | rfl | (congr 2; omega), below_on1 hB (Nat.le_refl _) hb⟩
        case measure => simp [intOf]; omega
    · have : k = args.length := by omega
      subst this
      rw [List.take_length]
      generalize hD : Ex.depths args = D
      have hz : min D (m - 1) ≤ 1000 := by omega
      go_wp2
      go_ret
      exact ⟨ret_int (by simp only [Ex.depth, hD]; omega), hB⟩

end Go.Proofs.YtblhpiebheommaaGreat
