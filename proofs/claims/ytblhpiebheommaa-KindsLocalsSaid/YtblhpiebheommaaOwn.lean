/- A slice that a call makes for itself by append: what it holds, element by element, and what one more element makes of it. No program in sight. -/
import Derived.Test.YtblhpiebheommaaData
import Derived.Maps.AppendAt
namespace Go.Proofs.Ytblhpiebheommaa
open Go.RowKit

/-- The blocks from one number up to another one. -/
def NewB (lo hi : Nat) (b : Nat) : Prop := lo ≤ b ∧ b < hi

/-- How cells hold a datum; it goes on to hold where the blocks that are read stay. -/
structure Holds (α : Type) where
  R : (Nat → Prop) → World → α → List Value → Prop
  keep : ∀ {F G : Nat → Prop} {w w' : World} {x : α} {cs : List Value}, (∀ b, F b → w'.heap[b]? = w.heap[b]?) → (∀ b, F b → G b) → R F w x cs → R G w' x cs

def Holds.ex : Holds Ex := ⟨RdEx, fun h1 h2 h => h.keep h1 h2⟩
def Holds.st : Holds St := ⟨RdSt, fun h1 h2 h => h.keep h1 h2⟩

/-- The sz cells of element i. -/
def cellsAt (sz : Nat) (ys : List Value) (i : Nat) : List Value := (ys.drop (i * sz)).take sz

/-- A slice that the call has made itself (its blocks: from lo on) holds these data; its array is read by none of them. -/
def OwnR {α : Type} (R : Holds α) (te sz lo : Nat) (w : World) (xs : List α) (v : Value) : Prop :=
  ∃ (ys : List Value) (G : Nat → Prop), w.ownsRow lo te sz v xs.length ys ∧ (∀ b, G b → lo ≤ b ∧ b < w.heap.size ∧ v.ownBlock ≠ some b) ∧ ∀ i (h : i < xs.length), R.R G w xs[i] (cellsAt sz ys i)

section
variable {α : Type} {R : Holds α} {te sz lo : Nat} {w w' : World} {xs : List α} {v : Value}

theorem OwnR.nil (R : Holds α) (te sz lo : Nat) (w : World) : OwnR R te sz lo w [] (.slice none 0 0) :=
  ⟨[], fun _ => False, World.ownsRow_nil _ _ _ _, fun _ h => h.elim, fun i h => absurd h (by simp)⟩

theorem ownsRow_blk {ys : List Value} {n : Nat} (h : w.ownsRow lo te sz v n ys) (hb : ∀ g, v.ownBlock = some g → w'.heap[g]? = w.heap[g]?) : w'.ownsRow lo te sz v n ys := by
  obtain ⟨h1, h2⟩ := h
  refine ⟨h1, ?_⟩
  rcases h2 with h2 | ⟨g, cap, cur, rfl, h3, h4, h5⟩
  · exact .inl h2
  · exact .inr ⟨g, cap, cur, rfl, h3, by rw [hb g rfl]; exact h4, h5⟩

theorem ownsRow_in {ys : List Value} {n : Nat} (h : w.ownsRow lo te sz v n ys) : ∀ g, v.ownBlock = some g → lo ≤ g ∧ g < w.heap.size := by
  intro g hg
  rcases h.2 with ⟨rfl, _⟩ | ⟨g', cap, cur, rfl, h3, h4, h5⟩
  · simp [Value.ownBlock] at hg
  · simp [Value.ownBlock] at hg
    subst hg
    exact ⟨h3, (Array.getElem?_eq_some_iff.1 h4).1⟩

theorem OwnR.below (h : OwnR R te sz lo w xs v) (hb : Below w.heap.size w w') : OwnR R te sz lo w' xs v := by
  obtain ⟨ys, G, h1, h2, h3⟩ := h
  have hk : ∀ b, G b → w'.heap[b]? = w.heap[b]? := fun b hG => hb.block b (h2 b hG).2.1
  exact ⟨ys, G, ownsRow_blk h1 fun g hg => hb.block g (ownsRow_in h1 g hg).2, fun b hG => ⟨(h2 b hG).1, Nat.lt_of_lt_of_le (h2 b hG).2.1 hb.size, (h2 b hG).2.2⟩, fun i hi => R.keep hk (fun _ h => h) (h3 i hi)⟩

theorem OwnR.owns (h : OwnR R te sz lo w xs v) : ∃ ys, w.ownsRow lo te sz v xs.length ys := let ⟨ys, _, h1, _⟩ := h; ⟨ys, h1⟩

theorem OwnR.shape (h : OwnR R te sz lo w xs v) : ∃ a cap, v = .slice a xs.length cap := by
  obtain ⟨ys, G, h1, _⟩ := h
  rcases h1.2 with ⟨rfl, h0⟩ | ⟨g', cap, cur, rfl, h3, h4, h5⟩
  · exact ⟨_, _, by rw [h0]⟩
  · exact ⟨_, _, rfl⟩

/-- What append makes of it: the elements zs behind it, whose cells are ns. -/
theorem OwnR.more {zs : List α} {ns : List Value} {G2 : Nat → Prop} {v' : Value} (h : ∃ G, (∀ b, G b → lo ≤ b ∧ b < w.heap.size ∧ v.ownBlock ≠ some b) ∧ ∃ ys : List Value, ys.length = xs.length * sz ∧ (∀ i (h : i < xs.length), R.R G w xs[i] (cellsAt sz ys i)) ∧ w'.ownsRow lo te sz v' (xs.length + zs.length) (ys ++ ns))
    (_hn : ns.length = zs.length * sz) (hg : w.grownBy w' v.ownBlock) (hat : v'.ownBlock = v.ownBlock ∨ v'.ownBlock = some w.heap.size)
    (hG2 : ∀ b, G2 b → lo ≤ b ∧ b < w.heap.size ∧ v.ownBlock ≠ some b) (hz : ∀ i (h : i < zs.length), R.R G2 w zs[i] (cellsAt sz ns i)) : OwnR R te sz lo w' (xs ++ zs) v' := by
  obtain ⟨G, h2, ys, hy, h3, hown⟩ := h
  have hk : ∀ b, (G b ∨ G2 b) → lo ≤ b ∧ b < w.heap.size ∧ v.ownBlock ≠ some b := fun b hb => hb.elim (h2 b) (hG2 b)
  have hw : ∀ b, (G b ∨ G2 b) → w'.heap[b]? = w.heap[b]? := fun b hb => hg.block b (hk b hb).2.1 (fun e => (hk b hb).2.2 e.symm)
  refine ⟨ys ++ ns, fun b => G b ∨ G2 b, by rw [List.length_append]; exact hown, fun b hb => ⟨(hk b hb).1, Nat.lt_of_lt_of_le (hk b hb).2.1 hg.size, ?_⟩, fun i hi => ?_⟩
  · rcases hat with e | e
    · rw [e]; exact (hk b hb).2.2
    · rw [e]; have := (hk b hb).2.1; intro e2; simp at e2; omega
  · rw [List.length_append] at hi
    by_cases hlt : i < xs.length
    · have e1 : cellsAt sz (ys ++ ns) i = cellsAt sz ys i := by
        unfold cellsAt
        have hle : i * sz + sz ≤ ys.length := by rw [hy, ← Nat.succ_mul]; exact Nat.mul_le_mul_right _ hlt
        rw [List.drop_append_of_le_length (by omega), List.take_append_of_le_length (by simp; omega)]
      rw [e1, List.getElem_append_left hlt]
      exact R.keep (fun b hb => hw b (.inl hb)) (fun b hb => .inl hb) (h3 i hlt)
    · have e1 : cellsAt sz (ys ++ ns) i = cellsAt sz ns (i - xs.length) := by
        unfold cellsAt
        have e2 : i * sz = ys.length + (i - xs.length) * sz := by rw [hy, ← Nat.add_mul]; congr 1; omega
        rw [e2, List.drop_append, List.drop_eq_nil_of_le (by omega)]
        simp
      rw [e1, List.getElem_append_right (by omega)]
      exact R.keep (fun b hb => hw b (.inr hb)) (fun b hb => .inr hb) (hz _ (by omega))

theorem ownsRow_eq {ys ys2 : List Value} {n : Nat} (h1 : w.ownsRow lo te sz v n ys2) (hy : w.ownsRow lo te sz v n ys) : ys2 = ys := by
  rcases h1.2 with ⟨rfl, h0⟩ | ⟨g, cap, cur, rfl, _, h4, _, _, _, h5⟩
  · have a1 := h1.1; have a2 := hy.1
    rw [h0] at a1 a2
    have b1 : ys2 = [] := List.eq_nil_of_length_eq_zero (by simpa using a1)
    have b2 : ys = [] := List.eq_nil_of_length_eq_zero (by simpa using a2)
    rw [b1, b2]
  · rcases hy.2 with ⟨e0, _⟩ | ⟨g', cap', cur', e0, _, h4', _, _, _, h5'⟩
    · cases e0
    · cases e0
      rw [h4] at h4'
      cases h4'
      rw [← h5, ← h5']

/-- Elements behind it. -/
theorem OwnR.many {zs : List α} {ns : List Value} {G2 : Nat → Prop} {v' : Value} {ys : List Value} (h : OwnR R te sz lo w xs v) (hy : w.ownsRow lo te sz v xs.length ys)
    (hown : w'.ownsRow lo te sz v' (xs.length + zs.length) (ys ++ ns)) (hn : ns.length = zs.length * sz) (hg : w.grownBy w' v.ownBlock) (hat : v'.ownBlock = v.ownBlock ∨ v'.ownBlock = some w.heap.size)
    (hG2 : ∀ b, G2 b → lo ≤ b ∧ b < w.heap.size ∧ v.ownBlock ≠ some b) (hz : ∀ i (h : i < zs.length), R.R G2 w zs[i] (cellsAt sz ns i)) : OwnR R te sz lo w' (xs ++ zs) v' := by
  obtain ⟨ys2, G, h1, h2, h3⟩ := h
  have e : ys2 = ys := ownsRow_eq h1 hy
  subst e
  exact OwnR.more (zs := zs) (ns := ns) (G2 := G2) ⟨G, h2, ys2, h1.1, h3, hown⟩ hn hg hat hG2 hz

/-- One more element. -/
theorem OwnR.push {x : α} {cs : List Value} {G2 : Nat → Prop} {v' : Value} {ys : List Value} (h : OwnR R te sz lo w xs v) (hy : w.ownsRow lo te sz v xs.length ys)
    (hown : w'.ownsRow lo te sz v' (xs.length + 1) (ys ++ cs)) (hn : cs.length = sz) (hg : w.grownBy w' v.ownBlock) (hat : v'.ownBlock = v.ownBlock ∨ v'.ownBlock = some w.heap.size)
    (hG2 : ∀ b, G2 b → lo ≤ b ∧ b < w.heap.size ∧ v.ownBlock ≠ some b) (hz : R.R G2 w x cs) : OwnR R te sz lo w' (xs ++ [x]) v' := by
  refine OwnR.many (zs := [x]) (ns := cs) (G2 := G2) h hy (by simpa using hown) (by simp [hn]) hg hat hG2 fun i hi => ?_
  have : i = 0 := by simpa using hi
  subst this
  have e2 : cellsAt sz cs 0 = cs := by unfold cellsAt; simp [← hn]
  rw [e2]; exact hz
end
end Go.Proofs.Ytblhpiebheommaa
