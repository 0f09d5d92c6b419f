/- A slice that a call makes for itself by append: what it holds, element by element, and what one more element makes of it. No program in sight. -/
import Derived.Test.YtnbfadgclffgkaaGreatDoorPart68311049
import Derived.Maps.AppendAt
namespace Go.Proofs.YtnbfadgclffgkaaGreatDoor
open Go.RowKit
def NewB (lo hi : Nat) (b : Nat) : Prop := lo ≤ b ∧ b < hi
structure Holds (α : Type) where
  R : (Nat → Prop) → World → α → List Value → Prop
  keep : ∀ {F G : Nat → Prop} {w w' : World} {x : α} {cs : List Value}, (∀ b, F b → w'.heap[b]? = w.heap[b]?) → (∀ b, F b → G b) → R F w x cs → R G w' x cs
def Holds.ex : Holds Ex := ⟨RdEx, fun h1 h2 h => h.keep h1 h2⟩
def Holds.st : Holds St := ⟨RdSt, fun h1 h2 h => h.keep h1 h2⟩
def cellsAt (sz : Nat) (ys : List Value) (i : Nat) : List Value := (ys.drop (i * sz)).take sz
def OwnR {α : Type} (R : Holds α) (te sz lo : Nat) (w : World) (xs : List α) (v : Value) : Prop :=
  ∃ (ys : List Value) (G : Nat → Prop), w.ownsRow lo te sz v xs.length ys ∧ (∀ b, G b → lo ≤ b ∧ b < w.heap.size ∧ v.ownBlock ≠ some b) ∧ ∀ i (h : i < xs.length), R.R G w xs[i] (cellsAt sz ys i)
section
variable {α : Type} {R : Holds α} {te sz lo : Nat} {w w' : World} {xs : List α} {v : Value}
theorem OwnR.nil (R : Holds α) (te sz lo : Nat) (w : World) : OwnR R te sz lo w [] (.slice none 0 0) :=
  ⟨[], fun _ => False, World.ownsRow_nil _ _ _ _, fun _ h => h.elim, fun i h => absurd h (by simp)⟩
theorem ownsRow_blk {ys : List Value} {n : Nat} (h : w.ownsRow lo te sz v n ys) (hb : ∀ g, v.ownBlock = some g → w'.heap[g]? = w.heap[g]?) : w'.ownsRow lo te sz v n ys := by
  obtain ⟨h1, h2⟩ := h
  refine ⟨h1, ?_⟩
  rcases h2 with h2 | ⟨g, cap, cur, rfl, h3, h4, h5⟩
  · exact .inl h2
  · exact .inr ⟨g, cap, cur, rfl, h3, by rw [hb g rfl]; exact h4, h5⟩
theorem ownsRow_in {ys : List Value} {n : Nat} (h : w.ownsRow lo te sz v n ys) : ∀ g, v.ownBlock = some g → lo ≤ g ∧ g < w.heap.size := by
  intro g hg
  rcases h.2 with ⟨rfl, _⟩ | ⟨g', cap, cur, rfl, h3, h4, h5⟩
  · simp [Value.ownBlock] at hg
  · simp [Value.ownBlock] at hg
    subst hg
    exact ⟨h3, (Array.getElem?_eq_some_iff.1 h4).1⟩
theorem OwnR.below (h : OwnR R te sz lo w xs v) (hb : Below w.heap.size w w') : OwnR R te sz lo w' xs v := by
  obtain ⟨ys, G, h1, h2, h3⟩ := h
  have hk : ∀ b, G b → w'.heap[b]? = w.heap[b]? := fun b hG => hb.block b (h2 b hG).2.1
  exact ⟨ys, G, ownsRow_blk h1 fun g hg => hb.block g (ownsRow_in h1 g hg).2, fun b hG => ⟨(h2 b hG).1, Nat.lt_of_lt_of_le (h2 b hG).2.1 hb.size, (h2 b hG).2.2⟩, fun i hi => R.keep hk (fun _ h => h) (h3 i hi)⟩
theorem OwnR.owns (h : OwnR R te sz lo w xs v) : ∃ ys, w.ownsRow lo te sz v xs.length ys := let ⟨ys, _, h1, _⟩ := h; ⟨ys, h1⟩
theorem OwnR.shape (h : OwnR R te sz lo w xs v) : ∃ a cap, v = .slice a xs.length cap := by
  obtain ⟨ys, G, h1, _⟩ := h
  rcases h1.2 with ⟨rfl, h0⟩ | ⟨g', cap, cur, rfl, h3, h4, h5⟩
  · exact ⟨_, _, by rw [h0]⟩
  · exact ⟨_, _, rfl⟩
theorem OwnR.more {zs : List α} {ns : List Value} {G2 : Nat → Prop} {v' : Value} (h : ∃ G, (∀ b, G b → lo ≤ b ∧ b < w.heap.size ∧ v.ownBlock ≠ some b) ∧ ∃ ys : List Value, ys.length = xs.length * sz ∧ (∀ i (h : i < xs.length), R.R G w xs[i] (cellsAt sz ys i)) ∧ w'.ownsRow lo te sz v' (xs.length + zs.length) (ys ++ ns))
    (_hn : ns.length = zs.length * sz) (hg : w.grownBy w' v.ownBlock) (hat : v'.ownBlock = v.ownBlock ∨ v'.ownBlock = some w.heap.size)
    (hG2 : ∀ b, G2 b → lo ≤ b ∧ b < w.heap.size ∧ v.ownBlock ≠ some b) (hz : ∀ i (h : i < zs.length), R.R G2 w zs[i] (cellsAt sz ns i)) : OwnR R te sz lo w' (xs ++ zs) v' := by
  obtain ⟨G, h2, ys, hy, h3, hown⟩ := h
  have hk : ∀ b, (G b ∨ G2 b) → lo ≤ b ∧ b < w.heap.size ∧ v.ownBlock ≠ some b := fun b hb => hb.elim (h2 b) (hG2 b)
  have hw : ∀ b, (G b ∨ G2 b) → w'.heap[b]? = w.heap[b]? := fun b hb => hg.block b (hk b hb).2.1 (fun e => (hk b hb).2.2 e.symm)
  refine ⟨ys ++ ns, fun b => G b ∨ G2 b, by rw [List.length_append]; exact hown, fun b hb => ⟨(hk b hb).1, Nat.lt_of_lt_of_le (hk b hb).2.1 hg.size, ?_⟩, fun i hi => ?_⟩
  · rcases hat with e | e
    · rw [e]; exact (hk b hb).2.2
    · rw [e]; have := (hk b hb).2.1; intro e2; simp at e2; omega
  · rw [List.length_append] at hi
    by_cases hlt : i < xs.length
    · have e1 : cellsAt sz (ys ++ ns) i = cellsAt sz ys i := by
        unfold cellsAt
        have hle : i * sz + sz ≤ ys.length := by rw [hy, ← Nat.succ_mul]; exact Nat.mul_le_mul_right _ hlt
        rw [List.drop_append_of_le_length (by omega), List.take_append_of_le_length (by simp; omega)]
      rw [e1, List.getElem_append_left hlt]
      exact R.keep (fun b hb => hw b (.inl hb)) (fun b hb => .inl hb) (h3 i hlt)
    · have e1 : cellsAt sz (ys ++ ns) i = cellsAt sz ns (i - xs.length) := by
        unfold cellsAt
        have e2 : i * sz = ys.length + (i - xs.length) * sz := by rw [hy, ← Nat.add_mul]; congr 1; omega
        rw [e2, List.drop_append, List.drop_eq_nil_of_le (by omega)]
        simp
      rw [e1, List.getElem_append_right (by omega)]
      exact R.keep (fun b hb => hw b (.inr hb)) (fun b hb => .inr hb) (hz _ (by omega))
theorem ownsRow_eq {ys ys2 : List Value} {n : Nat} (h1 : w.ownsRow lo te sz v n ys2) (hy : w.ownsRow lo te sz v n ys) : ys2 = ys := by
  rcases h1.2 with ⟨rfl, h0⟩ | ⟨g, cap, cur, rfl, _, h4, _, _, _, h5⟩
  · have a1 := h1.1; have a2 := hy.1
    rw [h0] at a1 a2
    have b1 : ys2 = [] := List.eq_nil_of_length_eq_zero (by simpa using a1)
    have b2 : ys = [] := List.eq_nil_of_length_eq_zero (by simpa using a2)
    rw [b1, b2]
  · rcases hy.2 with ⟨e0, _⟩ | ⟨g', cap', cur', e0, _, h4', _, _, _, h5'⟩
    · cases e0
    · cases e0
      rw [h4] at h4'
      cases h4'
      rw [← h5, ← h5']
theorem OwnR.many {zs : List α} {ns : List Value} {G2 : Nat → Prop} {v' : Value} {ys : List Value} (h : OwnR R te sz lo w xs v) (hy : w.ownsRow lo te sz v xs.length ys)
    (hown : w'.ownsRow lo te sz v' (xs.length + zs.length) (ys ++ ns)) (hn : ns.length = zs.length * sz) (hg : w.grownBy w' v.ownBlock) (hat : v'.ownBlock = v.ownBlock ∨ v'.ownBlock = some w.heap.size)
    (hG2 : ∀ b, G2 b → lo ≤ b ∧ b < w.heap.size ∧ v.ownBlock ≠ some b) (hz : ∀ i (h : i < zs.length), R.R G2 w zs[i] (cellsAt sz ns i)) : OwnR R te sz lo w' (xs ++ zs) v' := by
  obtain ⟨ys2, G, h1, h2, h3⟩ := h
  have e : ys2 = ys := ownsRow_eq h1 hy
  subst e
  exact OwnR.more (zs := zs) (ns := ns) (G2 := G2) ⟨G, h2, ys2, h1.1, h3, hown⟩ hn hg hat hG2 hz
theorem OwnR.push {x : α} {cs : List Value} {G2 : Nat → Prop} {v' : Value} {ys : List Value} (h : OwnR R te sz lo w xs v) (hy : w.ownsRow lo te sz v xs.length ys)
    (hown : w'.ownsRow lo te sz v' (xs.length + 1) (ys ++ cs)) (hn : cs.length = sz) (hg : w.grownBy w' v.ownBlock) (hat : v'.ownBlock = v.ownBlock ∨ v'.ownBlock = some w.heap.size)
    (hG2 : ∀ b, G2 b → lo ≤ b ∧ b < w.heap.size ∧ v.ownBlock ≠ some b) (hz : R.R G2 w x cs) : OwnR R te sz lo w' (xs ++ [x]) v' := by
  refine OwnR.many (zs := [x]) (ns := cs) (G2 := G2) h hy (by simpa using hown) (by simp [hn]) hg hat hG2 fun i hi => ?_
  have : i = 0 := by simpa using hi
  subst this
  have e2 : cellsAt sz cs 0 = cs := by unfold cellsAt; simp [← hn]
  rw [e2]; exact hz
end
end Go.Proofs.YtnbfadgclffgkaaGreatDoor
/- Slices of structs, of whatever struct: how they read, and how one of their elements is opened. No program in sight. -/
namespace Go.Proofs.YtnbfadgclffgkaaGreatDoor
open Go.RowKit
def rowCells (c : Nat → Nat → Value) (sz i : Nat) : List Value := (List.range sz).map (c i)
def RdL {α : Type} (R : Holds α) (sz : Nat) (F : Nat → Prop) (w : World) (l : List α) (v : Value) : Prop := ∃ c, SlAt F w sz v l.length c ∧ ∀ i (h : i < l.length), R.R F w l[i] (rowCells c sz i)
section
variable {α : Type} {R : Holds α} {sz : Nat} {F G : Nat → Prop} {w w' : World} {l : List α} {v : Value}
theorem RdL.keep (hw : ∀ b, F b → w'.heap[b]? = w.heap[b]?) (hG : ∀ b, F b → G b) (h : RdL R sz F w l v) : RdL R sz G w' l v := by
  obtain ⟨c, h1, h2⟩ := h
  exact ⟨c, h1.keep hw hG, fun i hi => R.keep hw hG (h2 i hi)⟩
theorem RdL.below {B : Nat} (h : RdL R sz F w l v) (hF : Inn F w) (hb : Below B w w') (hB : w.heap.size ≤ B) : RdL R sz F w' l v := h.keep (fun b hb' => hb.block b (Nat.lt_of_lt_of_le (hF b hb') hB)) (fun _ h => h)
theorem RdL.alloc (h : RdL R sz F w l v) (hF : Inn F w) (o : Obj) : RdL R sz F (w.alloc o) l v := h.below hF ((Below.refl w.heap.size w).alloc (Nat.le_refl _) o) (Nat.le_refl _)
theorem RdL.shape (h : RdL R sz F w l v) : ∃ a cap, v = .slice a l.length cap := by
  obtain ⟨c, ⟨a, cap, rfl, _⟩, _⟩ := h
  exact ⟨a, cap, rfl⟩
theorem RdL.len (h : RdL R sz F w l v) : l.length ≤ maxLen := by
  obtain ⟨c, ⟨a, cap, rfl, h1, h2, _⟩, _⟩ := h
  omega
theorem RdL.opn (h : RdL R sz F w l v) : ∃ a cap, v = .slice a l.length cap ∧ l.length ≤ cap ∧ cap ≤ maxLen ∧ (0 < l.length → ∃ b off, a = some ⟨b, off, none⟩ ∧ F b ∧ ∀ (wr : World), wr.heap[b]? = w.heap[b]? → ∀ k (hk : k < l.length), ∃ cs : List Value,
    R.R F w l[k] cs ∧ cs.length = sz ∧ ∀ j u, cs[j]? = some u → wr.cell? ⟨b, off + k * sz + j, none⟩ = some u) := by
  obtain ⟨c, ⟨a, cap, rfl, h1, h2, h3⟩, h4⟩ := h
  refine ⟨a, cap, rfl, h1, h2, fun h0 => ?_⟩
  obtain ⟨b, off, rfl, hb, hc⟩ := h3 h0
  refine ⟨b, off, rfl, hb, fun wr hwr k hk => ⟨rowCells c sz k, h4 k hk, by simp [rowCells], fun j u hu => ?_⟩⟩
  rw [World.cell?_of_block (w := w) hwr]
  unfold rowCells at hu
  rw [List.getElem?_map] at hu
  by_cases hj : j < sz
  · rw [List.getElem?_range hj] at hu
    simp at hu
    rw [← hu]
    exact hc k hk j hj
  · rw [List.getElem?_eq_none (by simp; omega)] at hu
    cases hu
theorem RdL.nil (R : Holds α) (sz : Nat) (F : Nat → Prop) (w : World) (a : Option Addr) (cap : Nat) (hc : cap ≤ maxLen) : RdL R sz F w [] (.slice a 0 cap) :=
  ⟨fun _ _ => undef, ⟨a, cap, rfl, Nat.zero_le _, hc, fun h => absurd h (by simp)⟩, fun i h => absurd h (by simp)⟩
end
def Holds.sl {α : Type} (R : Holds α) (sz : Nat) : Holds (List α) := ⟨fun F w l cs => ∃ v, cs = [v] ∧ RdL R sz F w l v, fun h1 h2 ⟨v, h3, h4⟩ => ⟨v, h3, h4.keep h1 h2⟩⟩
def Holds.str : Holds ByteArray := ⟨fun _ _ s cs => s.size ≤ maxLen ∧ cs = [.string s], fun _ _ h => h⟩
abbrev RdStrs (F : Nat → Prop) (w : World) (l : List ByteArray) (v : Value) : Prop := RdL Holds.str 1 F w l v
structure NameD where
  name : ByteArray
  kind : Int
  num : Int
def Holds.name : Holds NameD := ⟨fun _ _ x cs => x.name.size ≤ maxLen ∧ I64 x.kind ∧ I64 x.num ∧ cs = [.string x.name, .int .i64 x.kind, .int .i64 x.num], fun _ _ h => h⟩
end Go.Proofs.YtnbfadgclffgkaaGreatDoor
/- A source (a story as it is written), as plain data, and what it is for one to lie in memory. No program in sight. -/
namespace Go.Proofs.YtnbfadgclffgkaaGreatDoor
open Go.RowKit
theorem Exs.keep {F G : Nat → Prop} {w w' : World} {l : List Ex} {v : Value} (h1 : ∀ b, F b → w'.heap[b]? = w.heap[b]?) (h2 : ∀ b, F b → G b) (h : Exs F w l v) : Exs G w' l v := let ⟨c, h3, h4⟩ := h; ⟨c, h3.keep h1 h2, h4.keep h1 h2⟩
theorem Sts.keep {F G : Nat → Prop} {w w' : World} {l : List St} {v : Value} (h1 : ∀ b, F b → w'.heap[b]? = w.heap[b]?) (h2 : ∀ b, F b → G b) (h : Sts F w l v) : Sts G w' l v := let ⟨c, h3, h4⟩ := h; ⟨c, h3.keep h1 h2, h4.keep h1 h2⟩
theorem Holds.below {α : Type} (R : Holds α) {F : Nat → Prop} {w w' : World} {x : α} {cs : List Value} {B : Nat} (h : R.R F w x cs) (hF : Inn F w) (hb : Below B w w') (hB : w.heap.size ≤ B) : R.R F w' x cs :=
  R.keep (fun b hb' => hb.block b (Nat.lt_of_lt_of_le (hF b hb') hB)) (fun _ h => h) h
structure PairD where
  name : ByteArray
  num : Int
structure ExitD where
  dir : Int
  to : ByteArray
  els : ByteArray
  cond : List Ex
structure ObjD where
  name : ByteArray
  title : ByteArray
  inn : ByteArray
  text : ByteArray
  room : Bool
  words : List ByteArray
  adjs : List ByteArray
  flags : List ByteArray
  props : List PairD
  exits : List ExitD
structure SlotD where
  kind : Int
  words : List ByteArray
structure VerbD where
  name : ByteArray
  isMeta : Bool
  lines : List (List SlotD)
structure RuleD where
  verb : ByteArray
  phase : Int
  noun : ByteArray
  second : ByteArray
  cond : List Ex
  body : List St
structure FuncD where
  name : ByteArray
  params : List ByteArray
  body : List St
structure SrcD where
  title : ByteArray
  author : ByteArray
  start : ByteArray
  release : Int
  most : Int
  flags : List ByteArray
  props : List PairD
  globals : List PairD
  objects : List ObjD
  verbs : List VerbD
  rules : List RuleD
  funcs : List FuncD
  daemons : List FuncD
def Holds.slot : Holds SlotD := ⟨fun F w x cs => I64 x.kind ∧ ∃ v, cs = [.int .i64 x.kind, v] ∧ RdStrs F w x.words v, fun h1 h2 ⟨a, v, b, c⟩ => ⟨a, v, b, c.keep h1 h2⟩⟩
def Holds.verb : Holds VerbD := ⟨fun F w x cs => x.name.size ≤ maxLen ∧ ∃ v, cs = [.string x.name, .bool x.isMeta, v] ∧ RdL (Holds.sl Holds.slot 2) 1 F w x.lines v, fun h1 h2 ⟨a, v, b, c⟩ => ⟨a, v, b, c.keep h1 h2⟩⟩
end Go.Proofs.YtnbfadgclffgkaaGreatDoor
/- A slice of expressions or statements that a call has made for itself, read as the walks read one; and one more element of it. -/
namespace Go.Proofs.YtnbfadgclffgkaaGreatDoor
open Go.RowKit
theorem own_cell {te sz lo : Nat} {w : World} {n : Nat} {ys : List Value} {g cap : Nat} (h : w.ownsRow lo te sz (.slice (some ⟨g, 0, none⟩) n cap) n ys) (i : Nat) (hi : i < n * sz) : w.cell? ⟨g, i, none⟩ = some (ys.getD i undef) := by
  have := h.cells (g := g) rfl i (ys.getD i undef) (by rw [List.getD_eq_getElem?_getD, List.getElem?_eq_getElem (by rw [h.1]; exact hi)]; rfl)
  have ha : (⟨g, 0, none⟩ : Addr).add i = ⟨g, i, none⟩ := by unfold Addr.add; split <;> simp_all
  rwa [ha] at this
theorem getD_drop (ys : List Value) (a j : Nat) : ys.getD (a + j) undef = (ys.drop a).getD j undef := by
  rw [List.getD_eq_getElem?_getD, List.getD_eq_getElem?_getD, List.getElem?_drop]
theorem cellsAt_five {ys : List Value} {i n : Nat} (hy : ys.length = n * 5) (hi : i < n) : cellsAt 5 ys i = [ys.getD (i * 5 + 0) undef, ys.getD (i * 5 + 1) undef, ys.getD (i * 5 + 2) undef, ys.getD (i * 5 + 3) undef, ys.getD (i * 5 + 4) undef] := by
  simp only [getD_drop]
  unfold cellsAt
  have hl : 5 ≤ (ys.drop (i * 5)).length := by rw [List.length_drop, hy]; omega
  match ys.drop (i * 5), hl with
  | a :: b :: c :: d :: e :: r, _ => rfl
section
variable {te lo : Nat} {w : World} {v : Value}
theorem OwnR.sl {α : Type} {R : Holds α} {sz : Nat} {xs : List α} (h : OwnR R te sz lo w xs v) : ∃ ys : List Value, ys.length = xs.length * sz ∧ SlAt (NewB lo w.heap.size) w sz v xs.length (fun i j => ys.getD (i * sz + j) undef) ∧ ∀ i (h : i < xs.length), R.R (NewB lo w.heap.size) w xs[i] (cellsAt sz ys i) := by
  obtain ⟨ys, G, h1, h2, h3⟩ := h
  refine ⟨ys, h1.1, ?_, fun i hi => R.keep (fun _ _ => rfl) (fun b hb => ⟨(h2 b hb).1, (h2 b hb).2.1⟩) (h3 i hi)⟩
  rcases h1.2 with ⟨rfl, h0⟩ | ⟨g, cap, cur, rfl, hg, hb, hn, hc, _⟩
  · exact ⟨none, 0, by rw [h0], by omega, by unfold maxLen; omega, fun h => absurd h (by omega)⟩
  · refine ⟨_, _, rfl, hn, hc, fun h0 => ⟨g, 0, rfl, ⟨hg, (Array.getElem?_eq_some_iff.1 hb).1⟩, fun i hi j hj => ?_⟩⟩
    have hlt : i * sz + j < xs.length * sz := by
      have := Nat.mul_le_mul_right sz (show i + 1 ≤ xs.length from hi)
      rw [Nat.add_mul] at this; omega
    have := own_cell h1 (i * sz + j) hlt
    rw [show 0 + i * sz + j = i * sz + j by omega]
    exact this
theorem OwnR.exs {xs : List Ex} (h : OwnR Holds.ex te 5 lo w xs v) : Exs (NewB lo w.heap.size) w xs v := by
  obtain ⟨ys, hy, h1, h2⟩ := h.sl
  refine ⟨_, h1, RdRow.of fun i hi => ?_⟩
  have := h2 i hi
  rw [cellsAt_five hy hi] at this
  exact this
end
theorem OwnR.round {α : Type} {R : Holds α} {te sz lo s : Nat} {w0 wr w1 w2 : World} {xs : List α} {x : α} {cs ys : List Value} {v v' : Value} {o : Obj} (hown : OwnR R te sz lo wr xs v) (hb : Below wr.heap.size wr w1) (hB : Below lo w0 wr) (hlo : lo ≤ wr.heap.size)
    (hys : (w1.alloc o).ownsRow lo te sz v xs.length ys) (hs : wr.heap.size ≤ s) (hcs : R.R (NewB s w1.heap.size) w1 x cs) (hn : cs.length = sz) (hown' : w2.ownsRow lo te sz v' (xs.length + 1) (ys ++ cs)) (hg : (w1.alloc o).grownBy w2 v.ownBlock)
    (hat : v'.ownBlock = v.ownBlock ∨ v'.ownBlock = some (w1.alloc o).heap.size) : OwnR R te sz lo w2 (xs ++ [x]) v' ∧ Below lo w0 w2 := by
  obtain ⟨ys0, hys0⟩ := hown.owns
  have hin := ownsRow_in hys0
  have hz := hb.size
  refine ⟨OwnR.push ((hown.below hb).below ((Below.refl _ w1).alloc (Nat.le_refl _) _)) hys hown' hn hg hat (G2 := NewB s w1.heap.size) (fun b hb' => ⟨by have := hb'.1; omega, by have := hb'.2; simp; omega, fun e => by have := hb'.1; have := (hin b e).2; omega⟩) (R.keep (fun b hb' => ?_) (fun _ h => h) hcs), ?_⟩
  · have := hb'.2
    exact ((Below.refl w1.heap.size w1).alloc (Nat.le_refl _) o).block b this
  · exact ((hB.trans (hb.mono hlo)).alloc (by omega) o).grown hg (by simp; omega) (fun b e => (hin b e).1)
theorem cellsAt_map (sz n : Nat) (c : Nat → Nat → Value) (i : Nat) (hi : i < n) (hsz : 0 < sz) : cellsAt sz ((List.range (n * sz)).map fun j => c (j / sz) (j % sz)) i = (List.range sz).map (c i) := by
  have hle : i * sz + sz ≤ n * sz := by rw [← Nat.succ_mul]; exact Nat.mul_le_mul_right _ hi
  apply List.ext_getElem?
  intro j
  unfold cellsAt
  by_cases hj : j < sz
  · rw [List.getElem?_take_of_lt hj, List.getElem?_drop, List.getElem?_map, List.getElem?_range (by omega), List.getElem?_map, List.getElem?_range hj]
    simp only [Option.map_some]
    have e1 : (i * sz + j) / sz = i := by rw [Nat.mul_comm, Nat.mul_add_div hsz, Nat.div_eq_of_lt hj, Nat.add_zero]
    have e2 : (i * sz + j) % sz = j := by rw [Nat.mul_comm, Nat.mul_add_mod]; exact Nat.mod_eq_of_lt hj
    rw [e1, e2]
  · rw [List.getElem?_eq_none (by simp; omega), List.getElem?_eq_none (by simp; omega)]
theorem Sts.news {F : Nat → Prop} {w : World} {l : List St} {b off n cap : Nat} (h : Sts F w l (.slice (some ⟨b, off, none⟩) n cap)) :
    ∃ ns : List Value, ns.length = l.length * 6 ∧ (∀ j u, ns[j]? = some u → w.cell? ((⟨b, off, none⟩ : Addr).add j) = some u) ∧ (∀ u ∈ ns, u.oneCell' = true) ∧ ∀ i (h : i < l.length), RdSt F w l[i] (cellsAt 6 ns i) := by
  obtain ⟨c, ⟨a', cap', he, h1, h2, h3⟩, hrow⟩ := h
  simp only [Value.slice.injEq] at he
  obtain ⟨rfl, rfl, rfl⟩ := he
  have hcell : ∀ i, i < l.length → ∀ j, j < 6 → w.cell? ⟨b, off + i * 6 + j, none⟩ = some (c i j) := by
    intro i hi
    obtain ⟨b', off', e, _, hc⟩ := h3 (by omega)
    cases e
    exact hc i hi
  refine ⟨(List.range (l.length * 6)).map fun j => c (j / 6) (j % 6), by simp, fun j u hj => ?_, fun u hu => ?_, fun i hi => ?_⟩
  · have hlt : j < l.length * 6 := by
      have := (List.getElem?_eq_some_iff.1 hj).1; simpa using this
    rw [List.getElem?_map, List.getElem?_range hlt] at hj
    simp only [Option.map_some, Option.some.injEq] at hj
    have ha : (⟨b, off, none⟩ : Addr).add j = ⟨b, off + j, none⟩ := by unfold Addr.add; split <;> simp_all
    rw [ha, ← hj]
    have := hcell (j / 6) (by omega) (j % 6) (by omega)
    rw [show off + j / 6 * 6 + j % 6 = off + j by omega] at this
    exact this
  · obtain ⟨j, hj, rfl⟩ := List.mem_map.1 hu
    have hlt : j < l.length * 6 := by simpa using hj
    have hx := hrow.get (j / 6) (by omega)
    obtain ⟨_, _, _, _, _, _, _, _, _, _, _, _, e⟩ := hx.shape
    simp only [List.cons.injEq, and_true] at e
    obtain ⟨e0, e1, e2, e3, e4, e5⟩ := e
    have h6 : j % 6 = 0 ∨ j % 6 = 1 ∨ j % 6 = 2 ∨ j % 6 = 3 ∨ j % 6 = 4 ∨ j % 6 = 5 := by omega
    rcases h6 with h | h | h | h | h | h <;> rw [h]
    · rw [e0]; rfl
    · rw [e1]; rfl
    · rw [e2]; rfl
    · rw [e3]; rfl
    · rw [e4]; rfl
    · rw [e5]; rfl
  · rw [cellsAt_map 6 l.length c i hi (by omega)]
    exact hrow.get i hi
end Go.Proofs.YtnbfadgclffgkaaGreatDoor
