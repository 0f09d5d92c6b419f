/- A source (a story as it is written), as plain data, and what it is for one to lie in memory. No program in sight. -/
import Derived.Test.YtblhpiebheommaaSl
namespace Go.Proofs.Ytblhpiebheommaa
open Go.RowKit

theorem Exs.keep {F G : Nat → Prop} {w w' : World} {l : List Ex} {v : Value} (h1 : ∀ b, F b → w'.heap[b]? = w.heap[b]?) (h2 : ∀ b, F b → G b) (h : Exs F w l v) : Exs G w' l v := let ⟨c, h3, h4⟩ := h; ⟨c, h3.keep h1 h2, h4.keep h1 h2⟩
theorem Sts.keep {F G : Nat → Prop} {w w' : World} {l : List St} {v : Value} (h1 : ∀ b, F b → w'.heap[b]? = w.heap[b]?) (h2 : ∀ b, F b → G b) (h : Sts F w l v) : Sts G w' l v := let ⟨c, h3, h4⟩ := h; ⟨c, h3.keep h1 h2, h4.keep h1 h2⟩

theorem Holds.below {α : Type} (R : Holds α) {F : Nat → Prop} {w w' : World} {x : α} {cs : List Value} {B : Nat} (h : R.R F w x cs) (hF : Inn F w) (hb : Below B w w') (hB : w.heap.size ≤ B) : R.R F w' x cs :=
  R.keep (fun b hb' => hb.block b (Nat.lt_of_lt_of_le (hF b hb') hB)) (fun _ h => h) h

structure PairD where
  name : ByteArray
  num : Int
structure ExitD where
  dir : Int
  to : ByteArray
  els : ByteArray
  cond : List Ex
structure ObjD where
  name : ByteArray
  title : ByteArray
  inn : ByteArray
  text : ByteArray
  room : Bool
  words : List ByteArray
  adjs : List ByteArray
  flags : List ByteArray
  props : List PairD
  exits : List ExitD
structure SlotD where
  kind : Int
  words : List ByteArray
structure VerbD where
  name : ByteArray
  isMeta : Bool
  lines : List (List SlotD)
structure RuleD where
  verb : ByteArray
  phase : Int
  noun : ByteArray
  second : ByteArray
  cond : List Ex
  body : List St
structure FuncD where
  name : ByteArray
  params : List ByteArray
  body : List St
structure SrcD where
  title : ByteArray
  author : ByteArray
  start : ByteArray
  release : Int
  most : Int
  flags : List ByteArray
  props : List PairD
  globals : List PairD
  objects : List ObjD
  verbs : List VerbD
  rules : List RuleD
  funcs : List FuncD
  daemons : List FuncD

def Holds.pair : Holds PairD := ⟨fun _ _ x cs => x.name.size ≤ maxLen ∧ I64 x.num ∧ cs = [.string x.name, .int .i64 x.num], fun _ _ h => h⟩
def Holds.exit : Holds ExitD := ⟨fun F w x cs => I64 x.dir ∧ x.to.size ≤ maxLen ∧ x.els.size ≤ maxLen ∧ ∃ v, cs = [.int .i64 x.dir, .string x.to, .string x.els, v] ∧ Exs F w x.cond v,
  fun h1 h2 ⟨a, b, c, v, d, e⟩ => ⟨a, b, c, v, d, e.keep h1 h2⟩⟩
def Holds.obj : Holds ObjD := ⟨fun F w x cs => x.name.size ≤ maxLen ∧ x.title.size ≤ maxLen ∧ x.inn.size ≤ maxLen ∧ x.text.size ≤ maxLen ∧ ∃ v5 v6 v7 v8 v9, cs = [.string x.name, .string x.title, .string x.inn, .string x.text, .bool x.room, v5, v6, v7, v8, v9] ∧
    RdStrs F w x.words v5 ∧ RdStrs F w x.adjs v6 ∧ RdStrs F w x.flags v7 ∧ RdL Holds.pair 2 F w x.props v8 ∧ RdL Holds.exit 4 F w x.exits v9,
  fun h1 h2 ⟨a, b, c, d, v5, v6, v7, v8, v9, e, g5, g6, g7, g8, g9⟩ => ⟨a, b, c, d, v5, v6, v7, v8, v9, e, g5.keep h1 h2, g6.keep h1 h2, g7.keep h1 h2, g8.keep h1 h2, g9.keep h1 h2⟩⟩
def Holds.slot : Holds SlotD := ⟨fun F w x cs => I64 x.kind ∧ ∃ v, cs = [.int .i64 x.kind, v] ∧ RdStrs F w x.words v, fun h1 h2 ⟨a, v, b, c⟩ => ⟨a, v, b, c.keep h1 h2⟩⟩
def Holds.verb : Holds VerbD := ⟨fun F w x cs => x.name.size ≤ maxLen ∧ ∃ v, cs = [.string x.name, .bool x.isMeta, v] ∧ RdL (Holds.sl Holds.slot 2) 1 F w x.lines v, fun h1 h2 ⟨a, v, b, c⟩ => ⟨a, v, b, c.keep h1 h2⟩⟩
def Holds.rule : Holds RuleD := ⟨fun F w x cs => x.verb.size ≤ maxLen ∧ I64 x.phase ∧ x.noun.size ≤ maxLen ∧ x.second.size ≤ maxLen ∧ ∃ v4 v5, cs = [.string x.verb, .int .i64 x.phase, .string x.noun, .string x.second, v4, v5] ∧ Exs F w x.cond v4 ∧ Sts F w x.body v5,
  fun h1 h2 ⟨a, b, c, d, v4, v5, e, g4, g5⟩ => ⟨a, b, c, d, v4, v5, e, g4.keep h1 h2, g5.keep h1 h2⟩⟩
def Holds.fnc : Holds FuncD := ⟨fun F w x cs => x.name.size ≤ maxLen ∧ ∃ v1 v2, cs = [.string x.name, v1, v2] ∧ RdStrs F w x.params v1 ∧ Sts F w x.body v2, fun h1 h2 ⟨a, v1, v2, b, g1, g2⟩ => ⟨a, v1, v2, b, g1.keep h1 h2, g2.keep h1 h2⟩⟩

/-- The 13 cells of a source. -/
def Holds.src : Holds SrcD := ⟨fun F w x cs => x.title.size ≤ maxLen ∧ x.author.size ≤ maxLen ∧ x.start.size ≤ maxLen ∧ I64 x.release ∧ I64 x.most ∧ ∃ v5 v6 v7 v8 v9 v10 v11 v12, cs = [.string x.title, .string x.author, .string x.start, .int .i64 x.release, .int .i64 x.most, v5, v6, v7, v8, v9, v10, v11, v12] ∧
    RdStrs F w x.flags v5 ∧ RdL Holds.pair 2 F w x.props v6 ∧ RdL Holds.pair 2 F w x.globals v7 ∧ RdL Holds.obj 10 F w x.objects v8 ∧ RdL Holds.verb 3 F w x.verbs v9 ∧ RdL Holds.rule 6 F w x.rules v10 ∧ RdL Holds.fnc 3 F w x.funcs v11 ∧ RdL Holds.fnc 3 F w x.daemons v12,
  fun h1 h2 ⟨a, b, c, d, e, v5, v6, v7, v8, v9, v10, v11, v12, f, g5, g6, g7, g8, g9, g10, g11, g12⟩ => ⟨a, b, c, d, e, v5, v6, v7, v8, v9, v10, v11, v12, f, g5.keep h1 h2, g6.keep h1 h2, g7.keep h1 h2, g8.keep h1 h2, g9.keep h1 h2, g10.keep h1 h2, g11.keep h1 h2, g12.keep h1 h2⟩⟩

/-- A source's cells, each slice laid open as a value. -/
theorem src_shape {F : Nat → Prop} {w : World} {x : SrcD} {cs : List Value} (h : Holds.src.R F w x cs) : ∃ (a5 : Option Addr) (c5 : Nat) (a6 : Option Addr) (c6 : Nat) (a7 : Option Addr) (c7 : Nat) (a8 : Option Addr) (c8 : Nat) (a9 : Option Addr) (c9 : Nat) (a10 : Option Addr) (c10 : Nat) (a11 : Option Addr) (c11 : Nat) (a12 : Option Addr) (c12 : Nat),
    cs = [.string x.title, .string x.author, .string x.start, .int .i64 x.release, .int .i64 x.most, .slice a5 x.flags.length c5, .slice a6 x.props.length c6, .slice a7 x.globals.length c7, .slice a8 x.objects.length c8, .slice a9 x.verbs.length c9, .slice a10 x.rules.length c10, .slice a11 x.funcs.length c11, .slice a12 x.daemons.length c12] ∧
    RdStrs F w x.flags (.slice a5 x.flags.length c5) ∧ RdL Holds.pair 2 F w x.props (.slice a6 x.props.length c6) ∧ RdL Holds.pair 2 F w x.globals (.slice a7 x.globals.length c7) ∧ RdL Holds.obj 10 F w x.objects (.slice a8 x.objects.length c8) ∧ RdL Holds.verb 3 F w x.verbs (.slice a9 x.verbs.length c9) ∧
    RdL Holds.rule 6 F w x.rules (.slice a10 x.rules.length c10) ∧ RdL Holds.fnc 3 F w x.funcs (.slice a11 x.funcs.length c11) ∧ RdL Holds.fnc 3 F w x.daemons (.slice a12 x.daemons.length c12) := by
  obtain ⟨-, -, -, -, -, v5, v6, v7, v8, v9, v10, v11, v12, rfl, g5, g6, g7, g8, g9, g10, g11, g12⟩ := h
  obtain ⟨a5, c5, rfl⟩ := g5.shape
  obtain ⟨a6, c6, rfl⟩ := g6.shape
  obtain ⟨a7, c7, rfl⟩ := g7.shape
  obtain ⟨a8, c8, rfl⟩ := g8.shape
  obtain ⟨a9, c9, rfl⟩ := g9.shape
  obtain ⟨a10, c10, rfl⟩ := g10.shape
  obtain ⟨a11, c11, rfl⟩ := g11.shape
  obtain ⟨a12, c12, rfl⟩ := g12.shape
  exact ⟨_, _, _, _, _, _, _, _, _, _, _, _, _, _, _, _, rfl, g5, g6, g7, g8, g9, g10, g11, g12⟩
end Go.Proofs.Ytblhpiebheommaa
