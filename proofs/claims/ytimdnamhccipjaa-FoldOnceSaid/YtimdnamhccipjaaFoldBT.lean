/- The walk of fold.Block: statements, folded. -/
import Derived.Test.YtimdnamhccipjaaFoldT
import Derived.Test.YtimdnamhccipjaaFoldBD
import Derived.Test.YtimdnamhccipjaaCells
import Derived.Deep.RegionWith
import Derived.Laws.AppendOwnNone
namespace Go.Proofs.Ytimdnamhccipjaa
open Go.RowKit

theorem Try.infoSt : (Try.prog.info? 62).map (fun i => (i.zero, i.size, i.bytes)) = some (some (.agg #[.int .i64 0, .int .i64 0, .string ⟨#[]⟩, .slice none 0 0, .slice none 0 0, .slice none 0 0]), 6, 104) := by kernel_rfl

def BlockTC (l : List St) : Prop := ∀ (F : Nat → Prop) (w : World) (v : Value), Inn F w → St.shps l → l.length ≤ 256 → Sts F w l v → Calls Try.prog 23 #[v] w (GivesSts w (St.folds l []))

theorem exprsT_all (l : List Ex) (F : Nat → Prop) (w : World) (v : Value) (hF : Inn F w) (hs : Ex.shps l) (hlen : l.length ≤ 2199023255488) (hr : Exs F w l v) : Calls Try.prog 52 #[v] w (GivesExs w (Ex.folds l)) :=
  exprsT_calls l (fun x _ => exprT_calls x) F w v hF hs hlen hr

/-- A statement's box behind the folding of its parts. -/
def Folded (lo : Nat) (w0 wc : World) (s : St) (k n : Int) (st : ByteArray) : Prop :=
  ∃ (a1 : Option Addr) (c1 : Nat) (b1 : Value) (e1 : Value), CA wc [(⟨lo, 0, none⟩, .int .i64 k), (⟨lo, 1, none⟩, .int .i64 n), (⟨lo, 2, none⟩, .string st), (⟨lo, 3, none⟩, .slice a1 (Ex.folds s.args).length c1), (⟨lo, 4, none⟩, b1), (⟨lo, 5, none⟩, e1)] ∧
    Exs (NewB (lo + 1) wc.heap.size) wc (Ex.folds s.args) (.slice a1 (Ex.folds s.args).length c1) ∧ Sts (NewB (lo + 1) wc.heap.size) wc (St.folds s.body []) b1 ∧ Sts (NewB (lo + 1) wc.heap.size) wc (St.folds s.els []) e1 ∧ ProperSl b1 ∧ ProperSl e1 ∧ Below lo w0 wc

theorem one_new' {B : Nat} {w w' : World} {o : Obj} (hb : Below B (w.alloc o).drew w') : w.heap.size < w'.heap.size := by
  have := hb.size
  simp at this
  omega

theorem set_other {w : World} {b i j : Nat} {v : Value} (h : j ≠ i) : (w.setCell ⟨b, j, none⟩ v).cell? ⟨b, i, none⟩ = w.cell? ⟨b, i, none⟩ := by
  apply World.cell?_setCell_other
  intro e; exact h (by injection e)
theorem set_same {w : World} {b i : Nat} {u v : Value} (h : w.cell? ⟨b, i, none⟩ = some u) : (w.setCell ⟨b, i, none⟩ v).cell? ⟨b, i, none⟩ = some v := by
  apply World.cell?_setCell_same
  exact h

theorem folded_mk {wr w1 w2 w3 : World} {kd n : Int} {s : ByteArray} {x1 x2 x3 : Value} {t : TypeId} {S : St} {y1 : Option Addr} {d1 : Nat} {v2 v3 : Value}
    (hb1 : Below (wr.alloc (.cells #[.int .i64 kd, .int .i64 n, .string s, x1, x2, x3] t)).drew.heap.size (wr.alloc (.cells #[.int .i64 kd, .int .i64 n, .string s, x1, x2, x3] t)).drew w1) (hb2 : Below w1.heap.size w1 w2) (hb3 : Below w2.heap.size w2 w3)
    (hv1 : Exs (NewB (wr.alloc (.cells #[.int .i64 kd, .int .i64 n, .string s, x1, x2, x3] t)).drew.heap.size w1.heap.size) w1 (Ex.folds S.args) (.slice y1 (Ex.folds S.args).length d1))
    (hv2 : Sts (NewB w1.heap.size w2.heap.size) w2 (St.folds S.body []) v2) (hv3 : Sts (NewB w2.heap.size w3.heap.size) w3 (St.folds S.els []) v3) (hp2 : ProperSl v2) (hp3 : ProperSl v3) :
    Folded wr.heap.size wr (((w3.setCell ⟨wr.heap.size, 3, none⟩ (.slice y1 (Ex.folds S.args).length d1)).setCell ⟨wr.heap.size, 4, none⟩ v2).setCell ⟨wr.heap.size, 5, none⟩ v3) S kd n s := by
  have hz1 : wr.heap.size + 1 ≤ w1.heap.size := by have := hb1.size; simp at this; omega
  have hz2 := hb2.size
  have hz3 := hb3.size
  have hB1 : Below (wr.heap.size + 1) (wr.alloc (.cells #[.int .i64 kd, .int .i64 n, .string s, x1, x2, x3] t)) w1 := (Below.refl _ _).drew.trans (hb1.mono (by simp))
  have hB3 : Below (wr.heap.size + 1) (wr.alloc (.cells #[.int .i64 kd, .int .i64 n, .string s, x1, x2, x3] t)) w3 := (hB1.trans (hb2.mono hz1)).trans (hb3.mono (by omega))
  have hBr : Below wr.heap.size wr w3 := ((Below.refl wr.heap.size wr).alloc (Nat.le_refl _) _).trans (hB3.mono (by omega))
  have hcell : ∀ j v, (#[Value.int .i64 kd, .int .i64 n, .string s, x1, x2, x3] : Array Value)[j]? = some v → w3.cell? ⟨wr.heap.size, j, none⟩ = some v := by
    intro j v hj
    rw [hB3.cell (p := ⟨wr.heap.size, j, none⟩) (by show wr.heap.size < _; omega)]
    have hbx := bx_new wr [.int .i64 kd, .int .i64 n, .string s, x1, x2, x3] t _ rfl j (by
      have := (Array.getElem?_eq_some_iff.1 hj).1; simpa using this)
    rw [hbx]; simpa using hj
  have c0 := hcell 0 _ rfl
  have c1 := hcell 1 _ rfl
  have c2 := hcell 2 _ rfl
  have c3 := hcell 3 _ rfl
  have c4 := hcell 4 _ rfl
  have c5 := hcell 5 _ rfl
  have hblk : ∀ c, c ≠ wr.heap.size → (((w3.setCell ⟨wr.heap.size, 3, none⟩ (.slice y1 (Ex.folds S.args).length d1)).setCell ⟨wr.heap.size, 4, none⟩ v2).setCell ⟨wr.heap.size, 5, none⟩ v3).heap[c]? = w3.heap[c]? := fun c hc => by
    rw [Below.heap_setCell _ _ _ _ hc, Below.heap_setCell _ _ _ _ hc, Below.heap_setCell _ _ _ _ hc]
  have hlt : wr.heap.size < w3.heap.size := by omega
  refine ⟨y1, d1, v2, v3, ⟨⟨by simpa using hlt, by go_simp⟩, ⟨by simpa using hlt, by go_simp⟩, ⟨by simpa using hlt, by go_simp⟩, ⟨by simpa using hlt, ?_⟩, ⟨by simpa using hlt, ?_⟩, ⟨by simpa using hlt, ?_⟩, trivial⟩, ?_, ?_, ?_, hp2, hp3, ?_⟩
  · exact (set_other (by omega)).trans ((set_other (by omega)).trans (set_same c3))
  · exact (set_other (by omega)).trans (set_same ((set_other (by omega)).trans c4))
  · exact set_same ((set_other (by omega)).trans ((set_other (by omega)).trans c5))
  · refine hv1.keep (fun c hc => ?_) (fun c hc => ⟨by have := hc.1; simp at this; omega, by have := hc.2; simp; omega⟩)
    rw [hblk c (by have := hc.1; simp at this; omega), hb3.block c (by have := hc.2; omega), hb2.block c hc.2]
  · refine hv2.keep (fun c hc => ?_) (fun c hc => ⟨by have := hc.1; omega, by have := hc.2; simp; omega⟩)
    rw [hblk c (by have := hc.1; omega), hb3.block c hc.2]
  · refine hv3.keep (fun c hc => ?_) (fun c hc => ⟨by have := hc.1; omega, by have := hc.2; simp; omega⟩)
    rw [hblk c (by have := hc.1; omega)]
  · exact ((hBr.setCell (p := ⟨wr.heap.size, 3, none⟩) (Nat.le_refl _) _).setCell (p := ⟨wr.heap.size, 4, none⟩) (Nat.le_refl _) _).setCell (p := ⟨wr.heap.size, 5, none⟩) (Nat.le_refl _) _

end Go.Proofs.Ytimdnamhccipjaa
