/- A block of the call's own whose cells are known and may be written (plain). -/
import Derived.Test.YtmabeegoapcfpaaGreatDoorApp
import Derived.Test.YtmabeegoapcfpaaGreatDoorPart5a3fc3a6
namespace Go.Proofs.YtmabeegoapcfpaaGreatDoor
open Go.RowKit
def BoxU (w : World) (b : Nat) (cs : List Value) : Prop := BoxAt w b cs ∧ ∀ j, w.frozen? ⟨b, j, none⟩ = false
theorem BoxU.below {w w' : World} {b : Nat} {cs : List Value} {B : Nat} (h : BoxU w b cs) (hb : Below B w w') (hB : b < B) : BoxU w' b cs :=
  ⟨h.1.below hb hB, fun j => by rw [hb.frozen (p := ⟨b, j, none⟩) hB]; exact h.2 j⟩
theorem BoxU.new (w : World) (cs : List Value) (t : TypeId) : BoxU (w.alloc (.cells cs.toArray t)) w.heap.size cs := ⟨BoxAt.new w cs t, fun j => by simp⟩
theorem BoxU.set {w : World} {b : Nat} {cs : List Value} (h : BoxU w b cs) (j : Nat) (v : Value) (hj : j < cs.length) : BoxU (w.setCell ⟨b, j, none⟩ v) b (cs.set j v) := by
  refine ⟨⟨by simpa using h.1.1, fun k hk => ?_⟩, fun k => by rw [World.frozen?_setCell]; exact h.2 k⟩
  by_cases e : k = j
  · subst e
    rw [World.cell?_setCell_same (h := (h.1.2 k hj).trans (List.getElem?_eq_getElem hj)), List.getElem?_set_self hj]
  · rw [World.cell?_setCell_other (h := fun e2 => e (by simpa using e2.symm)), List.getElem?_set_ne (fun e2 => e e2.symm)]
    exact h.1.2 k (by simpa using hk)
theorem BoxU.far {w : World} {a b j : Nat} {cs : List Value} {v : Value} (h : BoxU w b cs) (hne : a ≠ b) : BoxU (w.setCell ⟨a, j, none⟩ v) b cs := by
  refine ⟨⟨by simpa using h.1.1, fun k hk => ?_⟩, fun k => by rw [World.frozen?_setCell]; exact h.2 k⟩
  rw [World.cell?_setCell_other (h := fun e => hne (by simpa using congrArg Addr.block e))]
  exact h.1.2 k hk
theorem boxes_two (w : World) (cs : List Value) (t : TypeId) : BoxU ((w.alloc (.cells cs.toArray t)).alloc (.cells cs.toArray t)).drew w.heap.size cs ∧ BoxU ((w.alloc (.cells cs.toArray t)).alloc (.cells cs.toArray t)).drew (w.heap.size + 1) cs ∧
    Below w.heap.size w ((w.alloc (.cells cs.toArray t)).alloc (.cells cs.toArray t)).drew := by
  have hb1 : Below w.heap.size w (w.alloc (.cells cs.toArray t)) := (Below.refl _ w).alloc (Nat.le_refl _) _
  have hz : (w.alloc (.cells cs.toArray t)).heap.size = w.heap.size + 1 := by simp
  have hb2 : Below (w.alloc (.cells cs.toArray t)).heap.size (w.alloc (.cells cs.toArray t)) ((w.alloc (.cells cs.toArray t)).alloc (.cells cs.toArray t)) := (Below.refl _ _).alloc (Nat.le_refl _) _
  have hb3 : Below ((w.alloc (.cells cs.toArray t)).alloc (.cells cs.toArray t)).heap.size ((w.alloc (.cells cs.toArray t)).alloc (.cells cs.toArray t)) ((w.alloc (.cells cs.toArray t)).alloc (.cells cs.toArray t)).drew := (Below.refl _ _).drew
  have h1 := ((BoxU.new w cs t).below hb2 (by simp)).below hb3 (by simp; omega)
  have h2 := (BoxU.new (w.alloc (.cells cs.toArray t)) cs t).below hb3 (by simp)
  rw [hz] at h2
  exact ⟨h1, h2, hb1.trans ((bt hb2 hb3).mono hb1.size)⟩
theorem ownsRow_shape {w : World} {lo te sz n : Nat} {v : Value} {ys : List Value} (h : w.ownsRow lo te sz v n ys) : ∃ a c, v = .slice a n c := by
  rcases h.2 with ⟨rfl, h0⟩ | ⟨g', cap, cur, rfl, h3, h4, h5⟩
  · exact ⟨_, _, by rw [h0]⟩
  · exact ⟨_, _, rfl⟩
theorem own_two {α : Type} {R : Holds α} {te sz : Nat} {w w1 w2 : World} {l : List α} {x : α} {ns cs : List Value} {v1 v2 : Value} {o o' : Obj}
    (hown1 : w1.ownsRow w.heap.size te sz v1 l.length ns) (hg1 : (w.alloc o).grownBy w1 (some w.heap.size)) (hown2 : w2.ownsRow w.heap.size te sz v2 (l.length + 1) (ns ++ cs)) (hg2 : (w1.alloc o').grownBy w2 v1.ownBlock)
    (hat2 : v2.ownBlock = v1.ownBlock ∨ v2.ownBlock = some (w1.alloc o').heap.size) (hn : cs.length = sz) (hl : ∀ w', ∀ i (h : i < l.length), R.R (fun _ => False) w' l[i] (cellsAt sz ns i)) (hx : ∀ w', R.R (fun _ => False) w' x cs) :
    Below w.heap.size w w2 ∧ OwnR R te sz w.heap.size w2 (l ++ [x]) v2 := by
  have hb0 : Below w.heap.size w (w.alloc o) := (Below.refl _ w).alloc (Nat.le_refl _) _
  have hb1 : Below w.heap.size w w1 := hb0.grown hg1 (by simp) (fun b e => by cases e; exact Nat.le_refl _)
  have hb2 : Below w.heap.size w (w1.alloc o') := hb1.alloc hb1.size _
  have hb3 : Below w.heap.size w w2 := hb2.grown hg2 hb2.size (fun b e => (ownsRow_in hown1 b e).1)
  refine ⟨hb3, ?_⟩
  have h1 : OwnR R te sz w.heap.size (w1.alloc o') l v1 := ⟨ns, fun _ => False, hown1.alloc _, fun _ h => h.elim, fun i hi => hl _ i hi⟩
  exact OwnR.push (G2 := fun _ => False) h1 (hown1.alloc _) hown2 hn hg2 hat2 (fun _ h => h.elim) (hx _)
theorem OwnR.aside {α : Type} {R : Holds α} {te sz lo : Nat} {w : World} {xs : List α} {v u : Value} {p : Addr} (h : OwnR R te sz lo w xs v) (hp : p.block < lo) : OwnR R te sz lo (w.setCell p u) xs v := by
  obtain ⟨ys, G, h1, h2, h3⟩ := h
  have hk : ∀ b, lo ≤ b → (w.setCell p u).heap[b]? = w.heap[b]? := fun b hb => Below.heap_setCell _ _ _ b (by omega)
  exact ⟨ys, G, ownsRow_blk h1 fun g hg => hk g (ownsRow_in h1 g hg).1, fun b hG => ⟨(h2 b hG).1, by have := (h2 b hG).2.1; simpa using this, (h2 b hG).2.2⟩, fun i hi => R.keep (fun b hG => hk b (h2 b hG).1) (fun _ h => h) (h3 i hi)⟩
theorem cells_two (w : World) (x y : Value) (t : TypeId) : ∀ j u, [x, y][j]? = some u → (w.alloc (.cells #[x, y] t)).cell? ((⟨w.heap.size, 0, none⟩ : Addr).add j) = some u := by
  intro j u hj
  match j, hj with
  | 0, hj =>
    simp at hj
    subst hj
    simp [Addr.add]
  | 1, hj =>
    simp at hj
    subst hj
    simp [Addr.add]
end Go.Proofs.YtmabeegoapcfpaaGreatDoor
