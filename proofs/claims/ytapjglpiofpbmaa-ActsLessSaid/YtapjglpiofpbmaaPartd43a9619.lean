/- A slice that a call makes for itself by append: what it holds, element by element, and what one more element makes of it. No program in sight. -/
import Derived.Test.YtapjglpiofpbmaaPart46f78eed
import Derived.Maps.AppendAt
namespace Go.Proofs.Ytapjglpiofpbmaa
open Go.RowKit

/-- The blocks from one number up to another one. -/
def NewB (lo hi : Nat) (b : Nat) : Prop := lo ≤ b ∧ b < hi

/-- How cells hold a datum; it goes on to hold where the blocks that are read stay. -/
structure Holds (α : Type) where
  R : (Nat → Prop) → World → α → List Value → Prop
  keep : ∀ {F G : Nat → Prop} {w w' : World} {x : α} {cs : List Value}, (∀ b, F b → w'.heap[b]? = w.heap[b]?) → (∀ b, F b → G b) → R F w x cs → R G w' x cs

def Holds.ex : Holds Ex := ⟨RdEx, fun h1 h2 h => h.keep h1 h2⟩
def Holds.st : Holds St := ⟨RdSt, fun h1 h2 h => h.keep h1 h2⟩

/-- The sz cells of element i. -/
def cellsAt (sz : Nat) (ys : List Value) (i : Nat) : List Value := (ys.drop (i * sz)).take sz

/-- A slice that the call has made itself (its blocks: from lo on) holds these data; its array is read by none of them. -/
def OwnR {α : Type} (R : Holds α) (te sz lo : Nat) (w : World) (xs : List α) (v : Value) : Prop :=
  ∃ (ys : List Value) (G : Nat → Prop), w.ownsRow lo te sz v xs.length ys ∧ (∀ b, G b → lo ≤ b ∧ b < w.heap.size ∧ v.ownBlock ≠ some b) ∧ ∀ i (h : i < xs.length), R.R G w xs[i] (cellsAt sz ys i)

section
variable {α : Type} {R : Holds α} {te sz lo : Nat} {w w' : World} {xs : List α} {v : Value}

theorem OwnR.nil (R : Holds α) (te sz lo : Nat) (w : World) : OwnR R te sz lo w [] (.slice none 0 0) :=
  ⟨[], fun _ => False, World.ownsRow_nil _ _ _ _, fun _ h => h.elim, fun i h => absurd h (by simp)⟩

theorem ownsRow_blk {ys : List Value} {n : Nat} (h : w.ownsRow lo te sz v n ys) (hb : ∀ g, v.ownBlock = some g → w'.heap[g]? = w.heap[g]?) : w'.ownsRow lo te sz v n ys := by
  obtain ⟨h1, h2⟩ := h
  refine ⟨h1, ?_⟩
  rcases h2 with h2 | ⟨g, cap, cur, rfl, h3, h4, h5⟩
  · exact .inl h2
  · exact .inr ⟨g, cap, cur, rfl, h3, by rw [hb g rfl]; exact h4, h5⟩

theorem ownsRow_in {ys : List Value} {n : Nat} (h : w.ownsRow lo te sz v n ys) : ∀ g, v.ownBlock = some g → lo ≤ g ∧ g < w.heap.size := by
  intro g hg
  rcases h.2 with ⟨rfl, _⟩ | ⟨g', cap, cur, rfl, h3, h4, h5⟩
  · simp [Value.ownBlock] at hg
  · simp [Value.ownBlock] at hg
    subst hg
    exact ⟨h3, (Array.getElem?_eq_some_iff.1 h4).1⟩

theorem OwnR.below (h : OwnR R te sz lo w xs v) (hb : Below w.heap.size w w') : OwnR R te sz lo w' xs v := by
  obtain ⟨ys, G, h1, h2, h3⟩ := h
  have hk : ∀ b, G b → w'.heap[b]? = w.heap[b]? := fun b hG => hb.block b (h2 b hG).2.1
  exact ⟨ys, G, ownsRow_blk h1 fun g hg => hb.block g (ownsRow_in h1 g hg).2, fun b hG => ⟨(h2 b hG).1, Nat.lt_of_lt_of_le (h2 b hG).2.1 hb.size, (h2 b hG).2.2⟩, fun i hi => R.keep hk (fun _ h => h) (h3 i hi)⟩

theorem OwnR.owns (h : OwnR R te sz lo w xs v) : ∃ ys, w.ownsRow lo te sz v xs.length ys := let ⟨ys, _, h1, _⟩ := h; ⟨ys, h1⟩

theorem OwnR.shape (h : OwnR R te sz lo w xs v) : ∃ a cap, v = .slice a xs.length cap := by
  obtain ⟨ys, G, h1, _⟩ := h
  rcases h1.2 with ⟨rfl, h0⟩ | ⟨g', cap, cur, rfl, h3, h4, h5⟩
  · exact ⟨_, _, by rw [h0]⟩
  · exact ⟨_, _, rfl⟩

/-- What append makes of it: the elements zs behind it, whose cells are ns. -/
theorem OwnR.more {zs : List α} {ns : List Value} {G2 : Nat → Prop} {v' : Value} (h : ∃ G, (∀ b, G b → lo ≤ b ∧ b < w.heap.size ∧ v.ownBlock ≠ some b) ∧ ∃ ys : List Value, ys.length = xs.length * sz ∧ (∀ i (h : i < xs.length), R.R G w xs[i] (cellsAt sz ys i)) ∧ w'.ownsRow lo te sz v' (xs.length + zs.length) (ys ++ ns))
    (_hn : ns.length = zs.length * sz) (hg : w.grownBy w' v.ownBlock) (hat : v'.ownBlock = v.ownBlock ∨ v'.ownBlock = some w.heap.size)
    (hG2 : ∀ b, G2 b → lo ≤ b ∧ b < w.heap.size ∧ v.ownBlock ≠ some b) (hz : ∀ i (h : i < zs.length), R.R G2 w zs[i] (cellsAt sz ns i)) : OwnR R te sz lo w' (xs ++ zs) v' := by
  obtain ⟨G, h2, ys, hy, h3, hown⟩ := h
  have hk : ∀ b, (G b ∨ G2 b) → lo ≤ b ∧ b < w.heap.size ∧ v.ownBlock ≠ some b := fun b hb => hb.elim (h2 b) (hG2 b)
  have hw : ∀ b, (G b ∨ G2 b) → w'.heap[b]? = w.heap[b]? := fun b hb => hg.block b (hk b hb).2.1 (fun e => (hk b hb).2.2 e.symm)
  refine ⟨ys ++ ns, fun b => G b ∨ G2 b, by rw [List.length_append]; exact hown, fun b hb => ⟨(hk b hb).1, Nat.lt_of_lt_of_le (hk b hb).2.1 hg.size, ?_⟩, fun i hi => ?_⟩
  · rcases hat with e | e
    · rw [e]; exact (hk b hb).2.2
    · rw [e]; have := (hk b hb).2.1; intro e2; simp at e2; omega
  · rw [List.length_append] at hi
    by_cases hlt : i < xs.length
    · have e1 : cellsAt sz (ys ++ ns) i = cellsAt sz ys i := by
        unfold cellsAt
        have hle : i * sz + sz ≤ ys.length := by rw [hy, ← Nat.succ_mul]; exact Nat.mul_le_mul_right _ hlt
        rw [List.drop_append_of_le_length (by omega), List.take_append_of_le_length (by simp; omega)]
      rw [e1, List.getElem_append_left hlt]
      exact R.keep (fun b hb => hw b (.inl hb)) (fun b hb => .inl hb) (h3 i hlt)
    · have e1 : cellsAt sz (ys ++ ns) i = cellsAt sz ns (i - xs.length) := by
        unfold cellsAt
        have e2 : i * sz = ys.length + (i - xs.length) * sz := by rw [hy, ← Nat.add_mul]; congr 1; omega
        rw [e2, List.drop_append, List.drop_eq_nil_of_le (by omega)]
        simp
      rw [e1, List.getElem_append_right (by omega)]
      exact R.keep (fun b hb => hw b (.inr hb)) (fun b hb => .inr hb) (hz _ (by omega))

theorem ownsRow_eq {ys ys2 : List Value} {n : Nat} (h1 : w.ownsRow lo te sz v n ys2) (hy : w.ownsRow lo te sz v n ys) : ys2 = ys := by
  rcases h1.2 with ⟨rfl, h0⟩ | ⟨g, cap, cur, rfl, _, h4, _, _, _, h5⟩
  · have a1 := h1.1; have a2 := hy.1
    rw [h0] at a1 a2
    have b1 : ys2 = [] := List.eq_nil_of_length_eq_zero (by simpa using a1)
    have b2 : ys = [] := List.eq_nil_of_length_eq_zero (by simpa using a2)
    rw [b1, b2]
  · rcases hy.2 with ⟨e0, _⟩ | ⟨g', cap', cur', e0, _, h4', _, _, _, h5'⟩
    · cases e0
    · cases e0
      rw [h4] at h4'
      cases h4'
      rw [← h5, ← h5']

/-- Elements behind it. -/
theorem OwnR.many {zs : List α} {ns : List Value} {G2 : Nat → Prop} {v' : Value} {ys : List Value} (h : OwnR R te sz lo w xs v) (hy : w.ownsRow lo te sz v xs.length ys)
    (hown : w'.ownsRow lo te sz v' (xs.length + zs.length) (ys ++ ns)) (hn : ns.length = zs.length * sz) (hg : w.grownBy w' v.ownBlock) (hat : v'.ownBlock = v.ownBlock ∨ v'.ownBlock = some w.heap.size)
    (hG2 : ∀ b, G2 b → lo ≤ b ∧ b < w.heap.size ∧ v.ownBlock ≠ some b) (hz : ∀ i (h : i < zs.length), R.R G2 w zs[i] (cellsAt sz ns i)) : OwnR R te sz lo w' (xs ++ zs) v' := by
  obtain ⟨ys2, G, h1, h2, h3⟩ := h
  have e : ys2 = ys := ownsRow_eq h1 hy
  subst e
  exact OwnR.more (zs := zs) (ns := ns) (G2 := G2) ⟨G, h2, ys2, h1.1, h3, hown⟩ hn hg hat hG2 hz

/-- One more element. -/
theorem OwnR.push {x : α} {cs : List Value} {G2 : Nat → Prop} {v' : Value} {ys : List Value} (h : OwnR R te sz lo w xs v) (hy : w.ownsRow lo te sz v xs.length ys)
    (hown : w'.ownsRow lo te sz v' (xs.length + 1) (ys ++ cs)) (hn : cs.length = sz) (hg : w.grownBy w' v.ownBlock) (hat : v'.ownBlock = v.ownBlock ∨ v'.ownBlock = some w.heap.size)
    (hG2 : ∀ b, G2 b → lo ≤ b ∧ b < w.heap.size ∧ v.ownBlock ≠ some b) (hz : R.R G2 w x cs) : OwnR R te sz lo w' (xs ++ [x]) v' := by
  refine OwnR.many (zs := [x]) (ns := cs) (G2 := G2) h hy (by simpa using hown) (by simp [hn]) hg hat hG2 fun i hi => ?_
  have : i = 0 := by simpa using hi
  subst this
  have e2 : cellsAt sz cs 0 = cs := by unfold cellsAt; simp [← hn]
  rw [e2]; exact hz
end
end Go.Proofs.Ytapjglpiofpbmaa
/- Slices of structs, of whatever struct: how they read, and how one of their elements is opened. No program in sight. -/
namespace Go.Proofs.Ytapjglpiofpbmaa
open Go.RowKit

/-- The sz cells of element i. -/
def rowCells (c : Nat → Nat → Value) (sz i : Nat) : List Value := (List.range sz).map (c i)

/-- A slice value whose elements hold these data. -/
def RdL {α : Type} (R : Holds α) (sz : Nat) (F : Nat → Prop) (w : World) (l : List α) (v : Value) : Prop := ∃ c, SlAt F w sz v l.length c ∧ ∀ i (h : i < l.length), R.R F w l[i] (rowCells c sz i)

section
variable {α : Type} {R : Holds α} {sz : Nat} {F G : Nat → Prop} {w w' : World} {l : List α} {v : Value}

theorem RdL.keep (hw : ∀ b, F b → w'.heap[b]? = w.heap[b]?) (hG : ∀ b, F b → G b) (h : RdL R sz F w l v) : RdL R sz G w' l v := by
  obtain ⟨c, h1, h2⟩ := h
  exact ⟨c, h1.keep hw hG, fun i hi => R.keep hw hG (h2 i hi)⟩
theorem RdL.below {B : Nat} (h : RdL R sz F w l v) (hF : Inn F w) (hb : Below B w w') (hB : w.heap.size ≤ B) : RdL R sz F w' l v := h.keep (fun b hb' => hb.block b (Nat.lt_of_lt_of_le (hF b hb') hB)) (fun _ h => h)
theorem RdL.alloc (h : RdL R sz F w l v) (hF : Inn F w) (o : Obj) : RdL R sz F (w.alloc o) l v := h.below hF ((Below.refl w.heap.size w).alloc (Nat.le_refl _) o) (Nat.le_refl _)

theorem RdL.shape (h : RdL R sz F w l v) : ∃ a cap, v = .slice a l.length cap := by
  obtain ⟨c, ⟨a, cap, rfl, _⟩, _⟩ := h
  exact ⟨a, cap, rfl⟩
theorem RdL.len (h : RdL R sz F w l v) : l.length ≤ maxLen := by
  obtain ⟨c, ⟨a, cap, rfl, h1, h2, _⟩, _⟩ := h
  omega

/-- The slice, opened: its array; and each element's cells, in any world in which that block is as it was. -/
theorem RdL.opn (h : RdL R sz F w l v) : ∃ a cap, v = .slice a l.length cap ∧ l.length ≤ cap ∧ cap ≤ maxLen ∧ (0 < l.length → ∃ b off, a = some ⟨b, off, none⟩ ∧ F b ∧ ∀ (wr : World), wr.heap[b]? = w.heap[b]? → ∀ k (hk : k < l.length), ∃ cs : List Value,
    R.R F w l[k] cs ∧ cs.length = sz ∧ ∀ j u, cs[j]? = some u → wr.cell? ⟨b, off + k * sz + j, none⟩ = some u) := by
  obtain ⟨c, ⟨a, cap, rfl, h1, h2, h3⟩, h4⟩ := h
  refine ⟨a, cap, rfl, h1, h2, fun h0 => ?_⟩
  obtain ⟨b, off, rfl, hb, hc⟩ := h3 h0
  refine ⟨b, off, rfl, hb, fun wr hwr k hk => ⟨rowCells c sz k, h4 k hk, by simp [rowCells], fun j u hu => ?_⟩⟩
  rw [World.cell?_of_block (w := w) hwr]
  unfold rowCells at hu
  rw [List.getElem?_map] at hu
  by_cases hj : j < sz
  · rw [List.getElem?_range hj] at hu
    simp at hu
    rw [← hu]
    exact hc k hk j hj
  · rw [List.getElem?_eq_none (by simp; omega)] at hu
    cases hu

theorem RdL.nil (R : Holds α) (sz : Nat) (F : Nat → Prop) (w : World) (a : Option Addr) (cap : Nat) (hc : cap ≤ maxLen) : RdL R sz F w [] (.slice a 0 cap) :=
  ⟨fun _ _ => undef, ⟨a, cap, rfl, Nat.zero_le _, hc, fun h => absurd h (by simp)⟩, fun i h => absurd h (by simp)⟩
end

/-- A struct's field that is a slice. -/
def Holds.sl {α : Type} (R : Holds α) (sz : Nat) : Holds (List α) := ⟨fun F w l cs => ∃ v, cs = [v] ∧ RdL R sz F w l v, fun h1 h2 ⟨v, h3, h4⟩ => ⟨v, h3, h4.keep h1 h2⟩⟩

/-- A string. -/
def Holds.str : Holds ByteArray := ⟨fun _ _ s cs => s.size ≤ maxLen ∧ cs = [.string s], fun _ _ h => h⟩
/-- A slice of strings. -/
abbrev RdStrs (F : Nat → Prop) (w : World) (l : List ByteArray) (v : Value) : Prop := RdL Holds.str 1 F w l v

/-- What a name stands for. -/
structure NameD where
  name : ByteArray
  kind : Int
  num : Int
def Holds.name : Holds NameD := ⟨fun _ _ x cs => x.name.size ≤ maxLen ∧ I64 x.kind ∧ I64 x.num ∧ cs = [.string x.name, .int .i64 x.kind, .int .i64 x.num], fun _ _ h => h⟩
abbrev RdNames (F : Nat → Prop) (w : World) (l : List NameD) (v : Value) : Prop := RdL Holds.name 3 F w l v
end Go.Proofs.Ytapjglpiofpbmaa
/- A source (a story as it is written), as plain data, and what it is for one to lie in memory. No program in sight. -/
namespace Go.Proofs.Ytapjglpiofpbmaa
open Go.RowKit

theorem Exs.keep {F G : Nat → Prop} {w w' : World} {l : List Ex} {v : Value} (h1 : ∀ b, F b → w'.heap[b]? = w.heap[b]?) (h2 : ∀ b, F b → G b) (h : Exs F w l v) : Exs G w' l v := let ⟨c, h3, h4⟩ := h; ⟨c, h3.keep h1 h2, h4.keep h1 h2⟩
theorem Sts.keep {F G : Nat → Prop} {w w' : World} {l : List St} {v : Value} (h1 : ∀ b, F b → w'.heap[b]? = w.heap[b]?) (h2 : ∀ b, F b → G b) (h : Sts F w l v) : Sts G w' l v := let ⟨c, h3, h4⟩ := h; ⟨c, h3.keep h1 h2, h4.keep h1 h2⟩

theorem Holds.below {α : Type} (R : Holds α) {F : Nat → Prop} {w w' : World} {x : α} {cs : List Value} {B : Nat} (h : R.R F w x cs) (hF : Inn F w) (hb : Below B w w') (hB : w.heap.size ≤ B) : R.R F w' x cs :=
  R.keep (fun b hb' => hb.block b (Nat.lt_of_lt_of_le (hF b hb') hB)) (fun _ h => h) h

structure PairD where
  name : ByteArray
  num : Int
structure ExitD where
  dir : Int
  to : ByteArray
  els : ByteArray
  cond : List Ex
structure ObjD where
  name : ByteArray
  title : ByteArray
  inn : ByteArray
  text : ByteArray
  room : Bool
  words : List ByteArray
  adjs : List ByteArray
  flags : List ByteArray
  props : List PairD
  exits : List ExitD
structure SlotD where
  kind : Int
  words : List ByteArray
structure VerbD where
  name : ByteArray
  isMeta : Bool
  lines : List (List SlotD)
structure RuleD where
  verb : ByteArray
  phase : Int
  noun : ByteArray
  second : ByteArray
  cond : List Ex
  body : List St
structure FuncD where
  name : ByteArray
  params : List ByteArray
  body : List St
structure SrcD where
  title : ByteArray
  author : ByteArray
  start : ByteArray
  release : Int
  most : Int
  flags : List ByteArray
  props : List PairD
  globals : List PairD
  objects : List ObjD
  verbs : List VerbD
  rules : List RuleD
  funcs : List FuncD
  daemons : List FuncD

def Holds.pair : Holds PairD := ⟨fun _ _ x cs => x.name.size ≤ maxLen ∧ I64 x.num ∧ cs = [.string x.name, .int .i64 x.num], fun _ _ h => h⟩
def Holds.exit : Holds ExitD := ⟨fun F w x cs => I64 x.dir ∧ x.to.size ≤ maxLen ∧ x.els.size ≤ maxLen ∧ ∃ v, cs = [.int .i64 x.dir, .string x.to, .string x.els, v] ∧ Exs F w x.cond v,
  fun h1 h2 ⟨a, b, c, v, d, e⟩ => ⟨a, b, c, v, d, e.keep h1 h2⟩⟩
def Holds.obj : Holds ObjD := ⟨fun F w x cs => x.name.size ≤ maxLen ∧ x.title.size ≤ maxLen ∧ x.inn.size ≤ maxLen ∧ x.text.size ≤ maxLen ∧ ∃ v5 v6 v7 v8 v9, cs = [.string x.name, .string x.title, .string x.inn, .string x.text, .bool x.room, v5, v6, v7, v8, v9] ∧
    RdStrs F w x.words v5 ∧ RdStrs F w x.adjs v6 ∧ RdStrs F w x.flags v7 ∧ RdL Holds.pair 2 F w x.props v8 ∧ RdL Holds.exit 4 F w x.exits v9,
  fun h1 h2 ⟨a, b, c, d, v5, v6, v7, v8, v9, e, g5, g6, g7, g8, g9⟩ => ⟨a, b, c, d, v5, v6, v7, v8, v9, e, g5.keep h1 h2, g6.keep h1 h2, g7.keep h1 h2, g8.keep h1 h2, g9.keep h1 h2⟩⟩
def Holds.slot : Holds SlotD := ⟨fun F w x cs => I64 x.kind ∧ ∃ v, cs = [.int .i64 x.kind, v] ∧ RdStrs F w x.words v, fun h1 h2 ⟨a, v, b, c⟩ => ⟨a, v, b, c.keep h1 h2⟩⟩
def Holds.verb : Holds VerbD := ⟨fun F w x cs => x.name.size ≤ maxLen ∧ ∃ v, cs = [.string x.name, .bool x.isMeta, v] ∧ RdL (Holds.sl Holds.slot 2) 1 F w x.lines v, fun h1 h2 ⟨a, v, b, c⟩ => ⟨a, v, b, c.keep h1 h2⟩⟩
def Holds.rule : Holds RuleD := ⟨fun F w x cs => x.verb.size ≤ maxLen ∧ I64 x.phase ∧ x.noun.size ≤ maxLen ∧ x.second.size ≤ maxLen ∧ ∃ v4 v5, cs = [.string x.verb, .int .i64 x.phase, .string x.noun, .string x.second, v4, v5] ∧ Exs F w x.cond v4 ∧ Sts F w x.body v5,
  fun h1 h2 ⟨a, b, c, d, v4, v5, e, g4, g5⟩ => ⟨a, b, c, d, v4, v5, e, g4.keep h1 h2, g5.keep h1 h2⟩⟩
def Holds.fnc : Holds FuncD := ⟨fun F w x cs => x.name.size ≤ maxLen ∧ ∃ v1 v2, cs = [.string x.name, v1, v2] ∧ RdStrs F w x.params v1 ∧ Sts F w x.body v2, fun h1 h2 ⟨a, v1, v2, b, g1, g2⟩ => ⟨a, v1, v2, b, g1.keep h1 h2, g2.keep h1 h2⟩⟩

/-- The 13 cells of a source. -/
def Holds.src : Holds SrcD := ⟨fun F w x cs => x.title.size ≤ maxLen ∧ x.author.size ≤ maxLen ∧ x.start.size ≤ maxLen ∧ I64 x.release ∧ I64 x.most ∧ ∃ v5 v6 v7 v8 v9 v10 v11 v12, cs = [.string x.title, .string x.author, .string x.start, .int .i64 x.release, .int .i64 x.most, v5, v6, v7, v8, v9, v10, v11, v12] ∧
    RdStrs F w x.flags v5 ∧ RdL Holds.pair 2 F w x.props v6 ∧ RdL Holds.pair 2 F w x.globals v7 ∧ RdL Holds.obj 10 F w x.objects v8 ∧ RdL Holds.verb 3 F w x.verbs v9 ∧ RdL Holds.rule 6 F w x.rules v10 ∧ RdL Holds.fnc 3 F w x.funcs v11 ∧ RdL Holds.fnc 3 F w x.daemons v12,
  fun h1 h2 ⟨a, b, c, d, e, v5, v6, v7, v8, v9, v10, v11, v12, f, g5, g6, g7, g8, g9, g10, g11, g12⟩ => ⟨a, b, c, d, e, v5, v6, v7, v8, v9, v10, v11, v12, f, g5.keep h1 h2, g6.keep h1 h2, g7.keep h1 h2, g8.keep h1 h2, g9.keep h1 h2, g10.keep h1 h2, g11.keep h1 h2, g12.keep h1 h2⟩⟩

/-- A source's cells, each slice laid open as a value. -/
theorem src_shape {F : Nat → Prop} {w : World} {x : SrcD} {cs : List Value} (h : Holds.src.R F w x cs) : ∃ (a5 : Option Addr) (c5 : Nat) (a6 : Option Addr) (c6 : Nat) (a7 : Option Addr) (c7 : Nat) (a8 : Option Addr) (c8 : Nat) (a9 : Option Addr) (c9 : Nat) (a10 : Option Addr) (c10 : Nat) (a11 : Option Addr) (c11 : Nat) (a12 : Option Addr) (c12 : Nat),
    cs = [.string x.title, .string x.author, .string x.start, .int .i64 x.release, .int .i64 x.most, .slice a5 x.flags.length c5, .slice a6 x.props.length c6, .slice a7 x.globals.length c7, .slice a8 x.objects.length c8, .slice a9 x.verbs.length c9, .slice a10 x.rules.length c10, .slice a11 x.funcs.length c11, .slice a12 x.daemons.length c12] ∧
    RdStrs F w x.flags (.slice a5 x.flags.length c5) ∧ RdL Holds.pair 2 F w x.props (.slice a6 x.props.length c6) ∧ RdL Holds.pair 2 F w x.globals (.slice a7 x.globals.length c7) ∧ RdL Holds.obj 10 F w x.objects (.slice a8 x.objects.length c8) ∧ RdL Holds.verb 3 F w x.verbs (.slice a9 x.verbs.length c9) ∧
    RdL Holds.rule 6 F w x.rules (.slice a10 x.rules.length c10) ∧ RdL Holds.fnc 3 F w x.funcs (.slice a11 x.funcs.length c11) ∧ RdL Holds.fnc 3 F w x.daemons (.slice a12 x.daemons.length c12) := by
  obtain ⟨-, -, -, -, -, v5, v6, v7, v8, v9, v10, v11, v12, rfl, g5, g6, g7, g8, g9, g10, g11, g12⟩ := h
  obtain ⟨a5, c5, rfl⟩ := g5.shape
  obtain ⟨a6, c6, rfl⟩ := g6.shape
  obtain ⟨a7, c7, rfl⟩ := g7.shape
  obtain ⟨a8, c8, rfl⟩ := g8.shape
  obtain ⟨a9, c9, rfl⟩ := g9.shape
  obtain ⟨a10, c10, rfl⟩ := g10.shape
  obtain ⟨a11, c11, rfl⟩ := g11.shape
  obtain ⟨a12, c12, rfl⟩ := g12.shape
  exact ⟨_, _, _, _, _, _, _, _, _, _, _, _, _, _, _, _, rfl, g5, g6, g7, g8, g9, g10, g11, g12⟩
end Go.Proofs.Ytapjglpiofpbmaa
/- Plain data of a story's tables, of a world and of commands, and what it is for them to lie in memory. No program in sight. Printed by gen-ac0.py. -/
namespace Go.Proofs.Ytapjglpiofpbmaa
open Go.RowKit

def Holds.int : Holds Int := ⟨fun _ _ n cs => I64 n ∧ cs = [.int .i64 n], fun _ _ h => h⟩
abbrev RdInts (F : Nat → Prop) (w : World) (l : List Int) (v : Value) : Prop := RdL Holds.int 1 F w l v
/-- A way. -/
structure WayD where
  dir : Int
  goes : Int
  cond : Int
  els : Int
def Holds.way : Holds WayD := ⟨fun _ _ x cs => I64 x.dir ∧ I64 x.goes ∧ I64 x.cond ∧ I64 x.els ∧ cs = [.int .i64 x.dir, .int .i64 x.goes, .int .i64 x.cond, .int .i64 x.els], fun _ _ h => h⟩
/-- A thing. -/
structure ThingD where
  title : Int
  text : Int
  parent : Int
  flags : Int
  room : Bool
  props : List Int
  words : List ByteArray
  adjs : List ByteArray
  ways : List WayD
def Holds.thing : Holds ThingD := ⟨fun F w x cs => I64 x.title ∧ I64 x.text ∧ I64 x.parent ∧ I64 x.flags ∧ ∃ v5 v6 v7 v8, cs = [.int .i64 x.title, .int .i64 x.text, .int .i64 x.parent, .int .i64 x.flags, .bool x.room, v5, v6, v7, v8] ∧ RdInts F w x.props v5 ∧ RdStrs F w x.words v6 ∧ RdStrs F w x.adjs v7 ∧ RdL Holds.way 4 F w x.ways v8, fun h1 h2 ⟨a0, a1, a2, a3, v5, v6, v7, v8, e, g5, g6, g7, g8⟩ => ⟨a0, a1, a2, a3, v5, v6, v7, v8, e, g5.keep h1 h2, g6.keep h1 h2, g7.keep h1 h2, g8.keep h1 h2⟩⟩
/-- A verb. -/
structure ActD where
  isMeta : Bool
  lines : List (List SlotD)
def Holds.act : Holds ActD := ⟨fun F w x cs => ∃ v1, cs = [.bool x.isMeta, v1] ∧ RdL (Holds.sl Holds.slot 2) 1 F w x.lines v1, fun h1 h2 ⟨v1, e, g1⟩ => ⟨v1, e, g1.keep h1 h2⟩⟩
/-- A rule. -/
structure DeedD where
  verb : Int
  phase : Int
  noun : Int
  second : Int
  cond : Int
  body : Int
def Holds.deed : Holds DeedD := ⟨fun _ _ x cs => I64 x.verb ∧ I64 x.phase ∧ I64 x.noun ∧ I64 x.second ∧ I64 x.cond ∧ I64 x.body ∧ cs = [.int .i64 x.verb, .int .i64 x.phase, .int .i64 x.noun, .int .i64 x.second, .int .i64 x.cond, .int .i64 x.body], fun _ _ h => h⟩
/-- The tables. -/
structure TabD where
  title : Int
  byl : Int
  release : Int
  most : Int
  texts : List ByteArray
  flags : Int
  props : List Int
  globals : List Int
  things : List ThingD
  acts : List ActD
  deeds : List DeedD
  funcs : List Int
  daemons : List Int
  params : List Int
  locals : List Int
def Holds.tab : Holds TabD := ⟨fun F w x cs => I64 x.title ∧ I64 x.byl ∧ I64 x.release ∧ I64 x.most ∧ I64 x.flags ∧ ∃ v4 v6 v7 v8 v9 v10 v11 v12 v13 v14, cs = [.int .i64 x.title, .int .i64 x.byl, .int .i64 x.release, .int .i64 x.most, v4, .int .i64 x.flags, v6, v7, v8, v9, v10, v11, v12, v13, v14] ∧ RdStrs F w x.texts v4 ∧ RdInts F w x.props v6 ∧ RdInts F w x.globals v7 ∧ RdL Holds.thing 9 F w x.things v8 ∧ RdL Holds.act 2 F w x.acts v9 ∧ RdL Holds.deed 6 F w x.deeds v10 ∧ RdInts F w x.funcs v11 ∧ RdInts F w x.daemons v12 ∧ RdInts F w x.params v13 ∧ RdInts F w x.locals v14, fun h1 h2 ⟨a0, a1, a2, a3, a4, v4, v6, v7, v8, v9, v10, v11, v12, v13, v14, e, g4, g6, g7, g8, g9, g10, g11, g12, g13, g14⟩ => ⟨a0, a1, a2, a3, a4, v4, v6, v7, v8, v9, v10, v11, v12, v13, v14, e, g4.keep h1 h2, g6.keep h1 h2, g7.keep h1 h2, g8.keep h1 h2, g9.keep h1 h2, g10.keep h1 h2, g11.keep h1 h2, g12.keep h1 h2, g13.keep h1 h2, g14.keep h1 h2⟩⟩
/-- A world. -/
structure WorldD where
  globals : List Int
  parent : List Int
  child : List Int
  next : List Int
  flags : List Int
  props : List Int
  timers : List Int
  seed : Int
  score : Int
  turns : Int
  over : Int
  it : Int
  go : Int
def Holds.world : Holds WorldD := ⟨fun F w x cs => (0 ≤ x.seed ∧ x.seed < 18446744073709551616) ∧ I64 x.score ∧ I64 x.turns ∧ I64 x.over ∧ I64 x.it ∧ I64 x.go ∧ ∃ v0 v1 v2 v3 v4 v5 v6, cs = [v0, v1, v2, v3, v4, v5, v6, .int .u64 x.seed, .int .i64 x.score, .int .i64 x.turns, .int .i64 x.over, .int .i64 x.it, .int .i64 x.go] ∧ RdInts F w x.globals v0 ∧ RdInts F w x.parent v1 ∧ RdInts F w x.child v2 ∧ RdInts F w x.next v3 ∧ RdInts F w x.flags v4 ∧ RdInts F w x.props v5 ∧ RdInts F w x.timers v6, fun h1 h2 ⟨a0, a1, a2, a3, a4, a5, v0, v1, v2, v3, v4, v5, v6, e, g0, g1, g2, g3, g4, g5, g6⟩ => ⟨a0, a1, a2, a3, a4, a5, v0, v1, v2, v3, v4, v5, v6, e, g0.keep h1 h2, g1.keep h1 h2, g2.keep h1 h2, g3.keep h1 h2, g4.keep h1 h2, g5.keep h1 h2, g6.keep h1 h2⟩⟩
/-- A command. -/
structure CmdD where
  verb : Int
  noun : Int
  second : Int
  number : Int
  dir : Int
def Holds.cmd : Holds CmdD := ⟨fun _ _ x cs => I64 x.verb ∧ I64 x.noun ∧ I64 x.second ∧ I64 x.number ∧ I64 x.dir ∧ cs = [.int .i64 x.verb, .int .i64 x.noun, .int .i64 x.second, .int .i64 x.number, .int .i64 x.dir], fun _ _ h => h⟩
def CmdD.val (c : CmdD) : Value := .agg #[.int .i64 c.verb, .int .i64 c.noun, .int .i64 c.second, .int .i64 c.number, .int .i64 c.dir]

/-- A slice of ints opened: element k, in any world in which its block is as it was. -/
theorem RdInts.opn {F : Nat → Prop} {w : World} {l : List Int} {v : Value} (h : RdInts F w l v) : ∃ a cap, v = .slice a l.length cap ∧ l.length ≤ cap ∧ cap ≤ 9223372036854775807 ∧
    (0 < l.length → ∃ b off, a = some ⟨b, off, none⟩ ∧ F b ∧ ∀ (wr : World), wr.heap[b]? = w.heap[b]? → ∀ k (hk : k < l.length), I64 l[k] ∧ wr.cell? ⟨b, off + k, none⟩ = some (.int .i64 l[k])) := by
  obtain ⟨a, cap, rfl, h1, h2, h3⟩ := RdL.opn h
  refine ⟨a, cap, rfl, h1, by unfold maxLen at h2; omega, fun h0 => ?_⟩
  obtain ⟨b, off, rfl, hF, hc⟩ := h3 h0
  refine ⟨b, off, rfl, hF, fun wr hwr k hk => ?_⟩
  obtain ⟨cs, ⟨q1, rfl⟩, -, hcell⟩ := hc wr hwr k hk
  have := hcell 0 _ rfl
  simp only [Nat.mul_one, Nat.add_zero] at this
  exact ⟨q1, this⟩
end Go.Proofs.Ytapjglpiofpbmaa
/- What the things of a world are within one another, and all that can be done, in plain words: the plain law of acts. No program in sight. -/
namespace Go.Proofs.Ytapjglpiofpbmaa
open Go.RowKit

/-- The number at a place; 0 beyond. -/
def atI (l : List Int) (x : Int) : Int := if x < 0 then 0 else l.getD x.toNat 0
/-- Is it a thing's number? -/
def IsTh (n : Nat) (x : Int) : Prop := 1 ≤ x ∧ x < n
instance (n : Nat) (x : Int) : Decidable (IsTh n x) := inferInstanceAs (Decidable (_ ∧ _))
/-- The things that follow one another, so many at most. -/
def chainF (nx : List Int) (n : Nat) : Nat → Int → List Int
  | 0, _ => []
  | f + 1, c => if IsTh n c then c :: chainF nx n f (atI nx c) else []
def WorldD.n (w : WorldD) : Nat := w.parent.length
def WorldD.kids (w : WorldD) (x : Int) : List Int := if IsTh w.n x then chainF w.next w.n w.n (atI w.child x) else []
def topF (pa : List Int) (n : Nat) : Nat → Int → Int → Int
  | 0, t, _ => t
  | f + 1, t, x => if IsTh n x then topF pa n f x (atI pa x) else t
def WorldD.top (w : WorldD) (x : Int) : Int := topF w.parent w.n w.n 0 x
def inF (pa : List Int) (n : Nat) (y : Int) : Nat → Int → Bool
  | 0, _ => false
  | f + 1, x => if IsTh n x then decide (x = y) || inF pa n y f (atI pa x) else false
def upI (pa : List Int) : Nat → Int → Int
  | 0, x => x
  | k + 1, x => upI pa k (atI pa x)

/-- The things are within one another as they must be (as far as is needed). -/
structure Nest (w : WorldD) : Prop where
  child : w.child.length = w.n
  next : w.next.length = w.n
  pos : 0 < w.n
  up : ∀ x, IsTh w.n x → ∀ c ∈ w.kids x, atI w.parent c = x
  free : ∀ x, IsTh w.n x → IsTh w.n (atI w.parent x) → inF w.parent w.n x w.n (atI w.parent x) = false

theorem chain_is {nx : List Int} {n : Nat} : ∀ {f : Nat} {c x : Int}, x ∈ chainF nx n f c → IsTh n x
  | f + 1, c, x, h => by
    unfold chainF at h
    split at h
    · rename_i hc
      rcases List.mem_cons.1 h with rfl | h
      · exact hc
      · exact chain_is h
    · simp at h
theorem kids_is {w : WorldD} {x c : Int} (h : c ∈ w.kids x) : IsTh w.n x ∧ IsTh w.n c := by
  unfold WorldD.kids at h
  split at h
  · rename_i hx
    exact ⟨hx, chain_is h⟩
  · simp at h
theorem chain_len {nx : List Int} {n : Nat} : ∀ {f : Nat} {c : Int}, (chainF nx n f c).length ≤ f
  | 0, _ => Nat.le_refl _
  | f + 1, c => by
    unfold chainF
    split
    · have := chain_len (nx := nx) (n := n) (f := f) (c := atI nx c)
      simp only [List.length_cons]; omega
    · simp
theorem kids_len (w : WorldD) (x : Int) : (w.kids x).length ≤ w.n := by
  unfold WorldD.kids
  split
  · exact chain_len
  · simp

theorem upI_succ (pa : List Int) : ∀ (k : Nat) (x : Int), upI pa (k + 1) x = atI pa (upI pa k x)
  | 0, _ => rfl
  | k + 1, x => by
    show upI pa (k + 1) (atI pa x) = atI pa (upI pa k (atI pa x))
    exact upI_succ pa k (atI pa x)
theorem upI_add (pa : List Int) : ∀ (j k : Nat) (x : Int), upI pa (j + k) x = upI pa j (upI pa k x)
  | j, 0, x => rfl
  | j, k + 1, x => by
    show upI pa (j + k) (atI pa x) = upI pa j (upI pa k (atI pa x))
    exact upI_add pa j k (atI pa x)
/-- What is come to going up is met within so many steps. -/
theorem inF_of {pa : List Int} {n : Nat} {y : Int} : ∀ (f k : Nat) (x : Int), k < f → (∀ i, i ≤ k → IsTh n (upI pa i x)) → upI pa k x = y → inF pa n y f x = true
  | f + 1, 0, x, _, h, e => by
    have h0 : IsTh n x := h 0 (Nat.le_refl _)
    unfold inF
    rw [if_pos h0]
    rw [show x = y from e]
    simp
  | f + 1, k + 1, x, hk, h, e => by
    have h0 : IsTh n x := h 0 (Nat.zero_le _)
    unfold inF
    rw [if_pos h0, inF_of f k (atI pa x) (by omega) (fun i hi => h (i + 1) (by omega)) e]
    simp
/-- Different numbers from 1 to n - 1 are fewer than n. -/
theorem nodup_few : ∀ (m : Nat) (l : List Int), l.Nodup → (∀ x ∈ l, 1 ≤ x ∧ x ≤ m) → l.length ≤ m
  | 0, l, _, h => by
    cases l with
    | nil => exact Nat.le_refl _
    | cons a l => have := h a (by simp); omega
  | m + 1, l, hn, h => by
    have hf : (l.filter fun x => decide (x ≤ (m : Int))).length ≤ m := nodup_few m _ (hn.filter _) (fun x hx => by
      obtain ⟨h1, h2⟩ := List.mem_filter.1 hx
      exact ⟨(h x h1).1, of_decide_eq_true h2⟩)
    have hg : (l.filter fun x => !decide (x ≤ (m : Int))).length ≤ 1 := by
      have he : ∀ x ∈ l.filter (fun x => !decide (x ≤ (m : Int))), x = (m : Int) + 1 := fun x hx => by
        obtain ⟨h1, h2⟩ := List.mem_filter.1 hx
        have := (h x h1).2
        simp at h2
        omega
      have hd := hn.filter (fun x => !decide (x ≤ (m : Int)))
      generalize l.filter (fun x => !decide (x ≤ (m : Int))) = g at he hd
      match g, he, hd with
      | [], _, _ => simp
      | [_], _, _ => simp
      | a :: b :: r, he, hd =>
        have h1 := he a (by simp)
        have h2 := he b (by simp)
        simp [h1, h2] at hd
    have hl : l.length = (l.filter fun x => decide (x ≤ (m : Int))).length + (l.filter fun x => !decide (x ≤ (m : Int))).length := by
      clear hf hg hn h
      induction l with
      | nil => rfl
      | cons a l ih => by_cases h : a ≤ (m : Int) <;> simp [h, ih] <;> omega
    omega
/-- Going up, one comes to an end. -/
theorem up_few {w : WorldD} (hw : Nest w) (x : Int) (k : Nat) (h : ∀ i, i < k → IsTh w.n (upI w.parent i x)) : k < w.n := by
  rcases Nat.lt_or_ge k w.n with hlt | hge
  · exact hlt
  have hd : ((List.range w.n).map fun i => upI w.parent i x).Nodup := by
    rw [List.nodup_iff_pairwise_ne, List.pairwise_map]
    refine List.Pairwise.imp_of_mem ?_ (List.pairwise_lt_range (n := w.n))
    intro i j hi hj hij e
    rw [List.mem_range] at hi hj
    have hy := h i (by omega)
    have hy1 := h (i + 1) (by omega)
    have hst : ∀ m, upI w.parent m (upI w.parent (i + 1) x) = upI w.parent (m + (i + 1)) x := fun m => (upI_add _ _ _ _).symm
    have hin : inF w.parent w.n (upI w.parent i x) w.n (upI w.parent (i + 1) x) = true :=
      inF_of w.n (j - i - 1) _ (by omega) (fun m hm => by rw [hst]; exact h _ (by omega)) (by rw [hst, show j - i - 1 + (i + 1) = j by omega]; exact e.symm)
    rw [upI_succ] at hin hy1
    rw [hw.free _ hy hy1] at hin
    cases hin
  have := nodup_few (w.n - 1) _ hd (fun y hy => by
    obtain ⟨i, hi, rfl⟩ := List.mem_map.1 hy
    have := h i (Nat.lt_of_lt_of_le (List.mem_range.1 hi) hge)
    unfold IsTh at this
    omega)
  rw [List.length_map, List.length_range] at this
  have := hw.pos
  omega

/-- Nothing is deeper than so many below a thing. -/
def Deep (w : WorldD) : Nat → Int → Prop
  | 0, x => w.kids x = []
  | d + 1, x => ∀ c ∈ w.kids x, Deep w d c
theorem deep_up {w : WorldD} (hw : Nest w) : ∀ (d : Nat) (x : Int) (k : Nat), (∀ i, i < k → IsTh w.n (upI w.parent i x)) → w.n ≤ k + d + 1 → Deep w d x
  | 0, x, k, h, hk => by
    show w.kids x = []
    rw [List.eq_nil_iff_forall_not_mem]
    intro c hc
    have hc2 := kids_is hc
    have := up_few hw c (k + 1) (fun i hi => by
      cases i with
      | zero => exact hc2.2
      | succ i =>
        show IsTh w.n (upI w.parent i (atI w.parent c))
        rw [hw.up x hc2.1 c hc]
        exact h i (by omega))
    omega
  | d + 1, x, k, h, hk => fun c hc => by
    have hc2 := kids_is hc
    exact deep_up hw d c (k + 1) (fun i hi => by
      cases i with
      | zero => exact hc2.2
      | succ i =>
        show IsTh w.n (upI w.parent i (atI w.parent c))
        rw [hw.up x hc2.1 c hc]
        exact h i (by omega)) (by omega)
/-- All below a thing is less deep than there are things. -/
theorem deep_all {w : WorldD} (hw : Nest w) (x : Int) : Deep w (w.n - 1) x :=
  deep_up hw (w.n - 1) x 0 (fun i hi => by omega) (by omega)

/-- What is reached from a thing, so deep at most: hidden things are passed over, and what is in one that does not show it. -/
def reachF (kids : Int → List Int) (hid shw : Int → Bool) : Nat → Int → List Int
  | 0, _ => []
  | d + 1, x => (kids x).flatMap fun c => if hid c then [] else c :: (if shw c then reachF kids hid shw d c else [])

/-- Does a command come ahead of another one? -/
def CmdD.lt (a b : CmdD) : Prop := a.verb < b.verb ∨ a.verb = b.verb ∧ (a.noun < b.noun ∨ a.noun = b.noun ∧ (a.second < b.second ∨ a.second = b.second ∧ (a.number < b.number ∨ a.number = b.number ∧ a.dir < b.dir)))
instance (a b : CmdD) : Decidable (a.lt b) := inferInstanceAs (Decidable (_ ∨ _))
theorem CmdD.ext' {a b : CmdD} (h1 : a.verb = b.verb) (h2 : a.noun = b.noun) (h3 : a.second = b.second) (h4 : a.number = b.number) (h5 : a.dir = b.dir) : a = b := by
  cases a; cases b; simp_all
instance : DecidableEq CmdD := fun a b => if h : a.verb = b.verb ∧ a.noun = b.noun ∧ a.second = b.second ∧ a.number = b.number ∧ a.dir = b.dir then isTrue (CmdD.ext' h.1 h.2.1 h.2.2.1 h.2.2.2.1 h.2.2.2.2) else isFalse (fun e => h (by rw [e]; exact ⟨rfl, rfl, rfl, rfl, rfl⟩))
theorem CmdD.lt_irrefl (a : CmdD) : ¬ a.lt a := by unfold CmdD.lt; omega
theorem CmdD.lt_trans {a b c : CmdD} (h : a.lt b) (k : b.lt c) : a.lt c := by unfold CmdD.lt at *; omega
theorem CmdD.lt_asymm {a b : CmdD} (h : a.lt b) : ¬ b.lt a := fun k => CmdD.lt_irrefl a (CmdD.lt_trans h k)
theorem CmdD.lt_total {a b : CmdD} (h : a ≠ b) : a.lt b ∨ b.lt a := by
  have : ¬ (a.verb = b.verb ∧ a.noun = b.noun ∧ a.second = b.second ∧ a.number = b.number ∧ a.dir = b.dir) := fun k => h (CmdD.ext' k.1 k.2.1 k.2.2.1 k.2.2.2.1 k.2.2.2.2)
  unfold CmdD.lt
  omega
/-- Two rising rows of the same commands are one. -/
theorem rows_one : ∀ {l m : List CmdD}, l.Pairwise CmdD.lt → m.Pairwise CmdD.lt → (∀ x, x ∈ l ↔ x ∈ m) → l = m
  | [], [], _, _, _ => rfl
  | [], b :: m, _, _, h => absurd ((h b).2 (by simp)) (by simp)
  | a :: l, [], _, _, h => absurd ((h a).1 (by simp)) (by simp)
  | a :: l, b :: m, hl, hm, h => by
    obtain ⟨l1, l2⟩ := List.pairwise_cons.1 hl
    obtain ⟨m1, m2⟩ := List.pairwise_cons.1 hm
    have e : a = b := by
      rcases List.mem_cons.1 ((h a).1 (by simp)) with e | h1
      · exact e
      · rcases List.mem_cons.1 ((h b).2 (by simp)) with e | h2
        · exact e.symm
        · exact absurd (CmdD.lt_trans (l1 b h2) (m1 a h1)) (CmdD.lt_irrefl _)
    subst e
    rw [rows_one l2 m2 fun x => by
      have hx := h x
      simp only [List.mem_cons] at hx
      constructor
      · intro h1
        rcases hx.1 (Or.inr h1) with rfl | h2
        · exact absurd (l1 _ h1) (CmdD.lt_irrefl _)
        · exact h2
      · intro h1
        rcases hx.2 (Or.inr h1) with rfl | h2
        · exact absurd (m1 _ h1) (CmdD.lt_irrefl _)
        · exact h2]

/-- How many slots of a line are of one of two kinds. -/
def hasN (l : List SlotD) (a b : Int) : Nat := (l.filter fun s => decide (s.kind = a) || decide (s.kind = b)).length
theorem hasN_snoc (l : List SlotD) (s : SlotD) (a b : Int) : hasN (l ++ [s]) a b = hasN l a b + if s.kind = a ∨ s.kind = b then 1 else 0 := by
  unfold hasN
  rw [List.filter_append]
  by_cases h : s.kind = a ∨ s.kind = b
  · rw [if_pos h]
    have : (decide (s.kind = a) || decide (s.kind = b)) = true := by simpa using h
    simp [this]
  · rw [if_neg h]
    have : (decide (s.kind = a) || decide (s.kind = b)) = false := by simpa using h
    simp [this]
/-- 0 alone, or so many numbers from one on. -/
def rowI (has : Bool) (lo : Int) (k : Nat) : List Int := if has then (List.range k).map (fun i : Nat => lo + (i : Int)) else [0]
/-- The commands of a line. -/
def lineC (verb : Int) (l : List SlotD) (seen : List Int) : List CmdD :=
  (if 0 < hasN l 2 3 then seen else [0]).flatMap fun x => (if 1 < hasN l 2 3 then seen else [0]).flatMap fun y => (rowI (decide (0 < hasN l 4 4)) 0 10).flatMap fun n => (rowI (decide (0 < hasN l 5 5)) 1 12).map fun d => ⟨verb, x, y, n, d⟩
/-- The commands of the verbs from one on, line by line. -/
def actsC (seen : List Int) : Nat → List ActD → List CmdD
  | _, [] => []
  | v, a :: l => (if a.isMeta then [] else a.lines.flatMap fun s => lineC v s seen) ++ actsC seen (v + 1) l
theorem actsC_snoc (seen : List Int) : ∀ (v : Nat) (l : List ActD) (a : ActD), actsC seen v (l ++ [a]) = actsC seen v l ++ (if a.isMeta then [] else a.lines.flatMap fun s => lineC (v + l.length : Nat) s seen)
  | v, [], a => by simp [actsC]
  | v, b :: l, a => by
    show (if b.isMeta then [] else b.lines.flatMap fun s => lineC v s seen) ++ actsC seen (v + 1) (l ++ [a]) = _
    rw [actsC_snoc seen (v + 1) l a]
    show _ = ((if b.isMeta then [] else b.lines.flatMap fun s => lineC v s seen) ++ actsC seen (v + 1) l) ++ _
    rw [List.append_assoc, List.length_cons, show v + 1 + l.length = v + (l.length + 1) by omega]
end Go.Proofs.Ytapjglpiofpbmaa
/- A slice of expressions or statements that a call has made for itself, read as the walks read one; and one more element of it. -/
namespace Go.Proofs.Ytapjglpiofpbmaa
open Go.RowKit

theorem own_cell {te sz lo : Nat} {w : World} {n : Nat} {ys : List Value} {g cap : Nat} (h : w.ownsRow lo te sz (.slice (some ⟨g, 0, none⟩) n cap) n ys) (i : Nat) (hi : i < n * sz) : w.cell? ⟨g, i, none⟩ = some (ys.getD i undef) := by
  have := h.cells (g := g) rfl i (ys.getD i undef) (by rw [List.getD_eq_getElem?_getD, List.getElem?_eq_getElem (by rw [h.1]; exact hi)]; rfl)
  have ha : (⟨g, 0, none⟩ : Addr).add i = ⟨g, i, none⟩ := by unfold Addr.add; split <;> simp_all
  rwa [ha] at this

theorem getD_drop (ys : List Value) (a j : Nat) : ys.getD (a + j) undef = (ys.drop a).getD j undef := by
  rw [List.getD_eq_getElem?_getD, List.getD_eq_getElem?_getD, List.getElem?_drop]

theorem cellsAt_five {ys : List Value} {i n : Nat} (hy : ys.length = n * 5) (hi : i < n) : cellsAt 5 ys i = [ys.getD (i * 5 + 0) undef, ys.getD (i * 5 + 1) undef, ys.getD (i * 5 + 2) undef, ys.getD (i * 5 + 3) undef, ys.getD (i * 5 + 4) undef] := by
  simp only [getD_drop]
  unfold cellsAt
  have hl : 5 ≤ (ys.drop (i * 5)).length := by rw [List.length_drop, hy]; omega
  match ys.drop (i * 5), hl with
  | a :: b :: c :: d :: e :: r, _ => rfl
theorem cellsAt_six {ys : List Value} {i n : Nat} (hy : ys.length = n * 6) (hi : i < n) : cellsAt 6 ys i = [ys.getD (i * 6 + 0) undef, ys.getD (i * 6 + 1) undef, ys.getD (i * 6 + 2) undef, ys.getD (i * 6 + 3) undef, ys.getD (i * 6 + 4) undef, ys.getD (i * 6 + 5) undef] := by
  simp only [getD_drop]
  unfold cellsAt
  have hl : 6 ≤ (ys.drop (i * 6)).length := by rw [List.length_drop, hy]; omega
  match ys.drop (i * 6), hl with
  | a :: b :: c :: d :: e :: f :: r, _ => rfl

section
variable {te lo : Nat} {w : World} {v : Value}
theorem OwnR.sl {α : Type} {R : Holds α} {sz : Nat} {xs : List α} (h : OwnR R te sz lo w xs v) : ∃ ys : List Value, ys.length = xs.length * sz ∧ SlAt (NewB lo w.heap.size) w sz v xs.length (fun i j => ys.getD (i * sz + j) undef) ∧ ∀ i (h : i < xs.length), R.R (NewB lo w.heap.size) w xs[i] (cellsAt sz ys i) := by
  obtain ⟨ys, G, h1, h2, h3⟩ := h
  refine ⟨ys, h1.1, ?_, fun i hi => R.keep (fun _ _ => rfl) (fun b hb => ⟨(h2 b hb).1, (h2 b hb).2.1⟩) (h3 i hi)⟩
  rcases h1.2 with ⟨rfl, h0⟩ | ⟨g, cap, cur, rfl, hg, hb, hn, hc, _⟩
  · exact ⟨none, 0, by rw [h0], by omega, by unfold maxLen; omega, fun h => absurd h (by omega)⟩
  · refine ⟨_, _, rfl, hn, hc, fun h0 => ⟨g, 0, rfl, ⟨hg, (Array.getElem?_eq_some_iff.1 hb).1⟩, fun i hi j hj => ?_⟩⟩
    have hlt : i * sz + j < xs.length * sz := by
      have := Nat.mul_le_mul_right sz (show i + 1 ≤ xs.length from hi)
      rw [Nat.add_mul] at this; omega
    have := own_cell h1 (i * sz + j) hlt
    rw [show 0 + i * sz + j = i * sz + j by omega]
    exact this

theorem OwnR.exs {xs : List Ex} (h : OwnR Holds.ex te 5 lo w xs v) : Exs (NewB lo w.heap.size) w xs v := by
  obtain ⟨ys, hy, h1, h2⟩ := h.sl
  refine ⟨_, h1, RdRow.of fun i hi => ?_⟩
  have := h2 i hi
  rw [cellsAt_five hy hi] at this
  exact this
theorem OwnR.sts {xs : List St} (h : OwnR Holds.st te 6 lo w xs v) : Sts (NewB lo w.heap.size) w xs v := by
  obtain ⟨ys, hy, h1, h2⟩ := h.sl
  refine ⟨_, h1, RdSts.of fun i hi => ?_⟩
  have := h2 i hi
  rw [cellsAt_six hy hi] at this
  exact this
end

/-- A round that makes an element in new memory (from wr to w1), lays its cells into a block of their own and appends it. -/
theorem OwnR.round {α : Type} {R : Holds α} {te sz lo s : Nat} {w0 wr w1 w2 : World} {xs : List α} {x : α} {cs ys : List Value} {v v' : Value} {o : Obj} (hown : OwnR R te sz lo wr xs v) (hb : Below wr.heap.size wr w1) (hB : Below lo w0 wr) (hlo : lo ≤ wr.heap.size)
    (hys : (w1.alloc o).ownsRow lo te sz v xs.length ys) (hs : wr.heap.size ≤ s) (hcs : R.R (NewB s w1.heap.size) w1 x cs) (hn : cs.length = sz) (hown' : w2.ownsRow lo te sz v' (xs.length + 1) (ys ++ cs)) (hg : (w1.alloc o).grownBy w2 v.ownBlock)
    (hat : v'.ownBlock = v.ownBlock ∨ v'.ownBlock = some (w1.alloc o).heap.size) : OwnR R te sz lo w2 (xs ++ [x]) v' ∧ Below lo w0 w2 := by
  obtain ⟨ys0, hys0⟩ := hown.owns
  have hin := ownsRow_in hys0
  have hz := hb.size
  refine ⟨OwnR.push ((hown.below hb).below ((Below.refl _ w1).alloc (Nat.le_refl _) _)) hys hown' hn hg hat (G2 := NewB s w1.heap.size) (fun b hb' => ⟨by have := hb'.1; omega, by have := hb'.2; simp; omega, fun e => by have := hb'.1; have := (hin b e).2; omega⟩) (R.keep (fun b hb' => ?_) (fun _ h => h) hcs), ?_⟩
  · have := hb'.2
    exact ((Below.refl w1.heap.size w1).alloc (Nat.le_refl _) o).block b this
  · exact ((hB.trans (hb.mono hlo)).alloc (by omega) o).grown hg (by simp; omega) (fun b e => (hin b e).1)

/-- A round that appends what lies in memory that was made in it. -/
theorem OwnR.roundMany {α : Type} {R : Holds α} {te sz lo s : Nat} {w0 wr w1 w2 : World} {xs zs : List α} {ns ys : List Value} {v v' : Value} (hown : OwnR R te sz lo wr xs v) (hb : Below wr.heap.size wr w1) (hB : Below lo w0 wr) (hlo : lo ≤ wr.heap.size)
    (hys : w1.ownsRow lo te sz v xs.length ys) (hs : wr.heap.size ≤ s) (hz : ∀ i (h : i < zs.length), R.R (NewB s w1.heap.size) w1 zs[i] (cellsAt sz ns i)) (hn : ns.length = zs.length * sz) (hown' : w2.ownsRow lo te sz v' (xs.length + zs.length) (ys ++ ns)) (hg : w1.grownBy w2 v.ownBlock)
    (hat : v'.ownBlock = v.ownBlock ∨ v'.ownBlock = some w1.heap.size) : OwnR R te sz lo w2 (xs ++ zs) v' ∧ Below lo w0 w2 := by
  obtain ⟨ys0, hys0⟩ := hown.owns
  have hin := ownsRow_in hys0
  have hz' := hb.size
  refine ⟨OwnR.many (hown.below hb) hys hown' hn hg hat (G2 := NewB s w1.heap.size) (fun b hb' => ⟨by have := hb'.1; omega, hb'.2, fun e => by have := hb'.1; have := (hin b e).2; omega⟩) hz, ?_⟩
  exact (hB.trans (hb.mono hlo)).grown hg (by omega) (fun b e => (hin b e).1)

theorem cellsAt_map (sz n : Nat) (c : Nat → Nat → Value) (i : Nat) (hi : i < n) (hsz : 0 < sz) : cellsAt sz ((List.range (n * sz)).map fun j => c (j / sz) (j % sz)) i = (List.range sz).map (c i) := by
  have hle : i * sz + sz ≤ n * sz := by rw [← Nat.succ_mul]; exact Nat.mul_le_mul_right _ hi
  apply List.ext_getElem?
  intro j
  unfold cellsAt
  by_cases hj : j < sz
  · rw [List.getElem?_take_of_lt hj, List.getElem?_drop, List.getElem?_map, List.getElem?_range (by omega), List.getElem?_map, List.getElem?_range hj]
    simp only [Option.map_some]
    have e1 : (i * sz + j) / sz = i := by rw [Nat.mul_comm, Nat.mul_add_div hsz, Nat.div_eq_of_lt hj, Nat.add_zero]
    have e2 : (i * sz + j) % sz = j := by rw [Nat.mul_comm, Nat.mul_add_mod]; exact Nat.mod_eq_of_lt hj
    rw [e1, e2]
  · rw [List.getElem?_eq_none (by simp; omega), List.getElem?_eq_none (by simp; omega)]

/-- The cells of a slice of statements. -/
theorem Sts.news {F : Nat → Prop} {w : World} {l : List St} {b off n cap : Nat} (h : Sts F w l (.slice (some ⟨b, off, none⟩) n cap)) :
    ∃ ns : List Value, ns.length = l.length * 6 ∧ (∀ j u, ns[j]? = some u → w.cell? ((⟨b, off, none⟩ : Addr).add j) = some u) ∧ (∀ u ∈ ns, u.oneCell' = true) ∧ ∀ i (h : i < l.length), RdSt F w l[i] (cellsAt 6 ns i) := by
  obtain ⟨c, ⟨a', cap', he, h1, h2, h3⟩, hrow⟩ := h
  simp only [Value.slice.injEq] at he
  obtain ⟨rfl, rfl, rfl⟩ := he
  have hcell : ∀ i, i < l.length → ∀ j, j < 6 → w.cell? ⟨b, off + i * 6 + j, none⟩ = some (c i j) := by
    intro i hi
    obtain ⟨b', off', e, _, hc⟩ := h3 (by omega)
    cases e
    exact hc i hi
  refine ⟨(List.range (l.length * 6)).map fun j => c (j / 6) (j % 6), by simp, fun j u hj => ?_, fun u hu => ?_, fun i hi => ?_⟩
  · have hlt : j < l.length * 6 := by
      have := (List.getElem?_eq_some_iff.1 hj).1; simpa using this
    rw [List.getElem?_map, List.getElem?_range hlt] at hj
    simp only [Option.map_some, Option.some.injEq] at hj
    have ha : (⟨b, off, none⟩ : Addr).add j = ⟨b, off + j, none⟩ := by unfold Addr.add; split <;> simp_all
    rw [ha, ← hj]
    have := hcell (j / 6) (by omega) (j % 6) (by omega)
    rw [show off + j / 6 * 6 + j % 6 = off + j by omega] at this
    exact this
  · obtain ⟨j, hj, rfl⟩ := List.mem_map.1 hu
    have hlt : j < l.length * 6 := by simpa using hj
    have hx := hrow.get (j / 6) (by omega)
    obtain ⟨_, _, _, _, _, _, _, _, _, _, _, _, e⟩ := hx.shape
    simp only [List.cons.injEq, and_true] at e
    obtain ⟨e0, e1, e2, e3, e4, e5⟩ := e
    have h6 : j % 6 = 0 ∨ j % 6 = 1 ∨ j % 6 = 2 ∨ j % 6 = 3 ∨ j % 6 = 4 ∨ j % 6 = 5 := by omega
    rcases h6 with h | h | h | h | h | h <;> rw [h]
    · rw [e0]; rfl
    · rw [e1]; rfl
    · rw [e2]; rfl
    · rw [e3]; rfl
    · rw [e4]; rfl
    · rw [e5]; rfl
  · rw [cellsAt_map 6 l.length c i hi (by omega)]
    exact hrow.get i hi

/-- A slice is nil, or begins somewhere. -/
def ProperSl (v : Value) : Prop := v = .slice none 0 0 ∨ ∃ b off n c, v = .slice (some ⟨b, off, none⟩) n c
theorem OwnR.proper {α : Type} {R : Holds α} {te sz lo : Nat} {w : World} {xs : List α} {v : Value} (h : OwnR R te sz lo w xs v) : ProperSl v := by
  obtain ⟨ys, G, h1, _⟩ := h
  rcases h1.2 with ⟨rfl, _⟩ | ⟨g, cap, cur, rfl, _⟩
  · exact .inl rfl
  · exact .inr ⟨_, _, _, _, rfl⟩

/-- A call that hands back an expression in new memory. -/
def GivesEx (w : World) (x : Ex) (e : Ending) (w' : World) : Prop := ∃ cs : List Value, e = .returned (.agg cs.toArray) ∧ RdEx (NewB w.heap.size w'.heap.size) w' x cs ∧ Below w.heap.size w w'
/-- A call that hands back a slice of expressions in new memory. -/
def GivesExs (w : World) (xs : List Ex) (e : Ending) (w' : World) : Prop := ∃ v : Value, e = .returned v ∧ Exs (NewB w.heap.size w'.heap.size) w' xs v ∧ Below w.heap.size w w'
def GivesSts (w : World) (xs : List St) (e : Ending) (w' : World) : Prop := ∃ v : Value, e = .returned v ∧ Sts (NewB w.heap.size w'.heap.size) w' xs v ∧ Below w.heap.size w w' ∧ ProperSl v

end Go.Proofs.Ytapjglpiofpbmaa
