/- A builder among other variables: WriteString leaves each block that holds no row of bytes as it is. Made from XBd's text by gen-bdx.py. -/
import Derived.Test.YtnbfadgclffgkaaGreatDoorBd
import Derived.Test.YtnbfadgclffgkaaGreatDoorPart2cdae13e
import Derived.Laws.EntriesVeiled
namespace Go.Proofs.YtnbfadgclffgkaaGreatDoor
open Go.RowKit
def Kept (b B : Nat) (w w' : World) : Prop := Below B w w' ∧ ∀ x cs T fr, w.heap[x]? = some (.cells cs T fr) → T ≠ 5 → x ≠ b → w'.heap[x]? = w.heap[x]?
theorem Kept.trans {b B : Nat} {w w' w'' : World} (h : Kept b B w w') (k : Kept b B w' w'') : Kept b B w w'' :=
  ⟨h.1.trans k.1, fun x cs T fr hx hT hb => (k.2 x cs T fr ((h.2 x cs T fr hx hT hb).trans hx) hT hb).trans (h.2 x cs T fr hx hT hb)⟩
theorem Kept.refl (b B : Nat) (w : World) : Kept b B w w := ⟨Below.refl _ _, fun _ _ _ _ _ _ _ => rfl⟩
theorem Kept.of {b B : Nat} {w w' : World} (h : Below w.heap.size w w') (hB : B ≤ w.heap.size) : Kept b B w w' := ⟨h.mono hB, fun x cs T fr hx _ _ => h.block x (by
  rcases Nat.lt_or_ge x w.heap.size with h' | h'
  · exact h'
  · simp [Array.getElem?_eq_none h'] at hx)⟩
def BoxT (w : World) (x : Nat) (cs : List Value) (T : TypeId) : Prop := w.heap[x]? = some (.cells cs.toArray T (0, 0))
theorem BoxT.new (w : World) (cs : List Value) (T : TypeId) : BoxT (w.alloc (.cells cs.toArray T)) w.heap.size cs T := by
  show (w.heap.push _)[w.heap.size]? = _
  exact Array.getElem?_push_size
theorem BoxT.lt {w : World} {x : Nat} {cs : List Value} {T : TypeId} (h : BoxT w x cs T) : x < w.heap.size := by
  rcases Nat.lt_or_ge x w.heap.size with h' | h'
  · exact h'
  · simp [BoxT, Array.getElem?_eq_none h'] at h
theorem BoxT.keep {w w' : World} {x b B : Nat} {cs : List Value} {T : TypeId} (h : BoxT w x cs T) (hk : Kept b B w w') (hT : T ≠ 5) (hb : x ≠ b) : BoxT w' x cs T := (hk.2 x _ T _ h hT hb).trans h
theorem BoxT.below {w w' : World} {x : Nat} {cs : List Value} {T : TypeId} (h : BoxT w x cs T) (hk : Below w.heap.size w w') : BoxT w' x cs T := (hk.block x h.lt).trans h
theorem BoxT.cell {w : World} {x : Nat} {cs : List Value} {T : TypeId} (h : BoxT w x cs T) (j : Nat) : w.cell? ⟨x, j, none⟩ = cs[j]? := by
  rw [Lib.cell_of_heap h]
  simp
theorem bdCheckK (B b : Nat) (l : List UInt8) (w : World) (h : Bd B b l w) :
    Calls Tryz.prog 126 #[.pointer (some ⟨b, 0, none⟩)] w fun e w' => e = .returned (.tuple #[]) ∧ BdU B b l w' ∧ Kept b B w w' := by
  rcases h with h | h
  · refine (bdCheck_fresh b w h.cell0 h.shape h.frozen0).mono ?_
    rintro e w' ⟨rfl, rfl⟩
    exact ⟨rfl, h.used _, (Below.refl B w).setCell (p := ⟨b, 0, none⟩) h.1 _, fun x cs T fr _ _ hb => Below.heap_setCell _ _ _ _ hb⟩
  · refine (bdCheck_used b w h.cell0).mono ?_
    rintro e w' ⟨rfl, rfl⟩
    exact ⟨rfl, h, Kept.refl _ _ _⟩
set_option maxHeartbeats 2000000 in
set_option maxRecDepth 100000 in
theorem bdWSk (B b : Nat) (l : List UInt8) (s : ByteArray) (w : World) (h : Bd B b l w) (hlen : l.length + s.size ≤ 140737488355328) (hBw : B ≤ w.heap.size) :
    Calls Tryz.prog 81 #[.pointer (some ⟨b, 0, none⟩), .string s] w fun e w' => e = .returned (.tuple #[.int .i64 s.size, .nilIface]) ∧ BdU B b (l ++ s.data.toList) w' ∧ Kept b B w w' := by
  obtain ⟨i0, hi, hz0, hz1, hz2⟩ := info_parts Tryz.Builder_Extra_169.infoByte
  have HI := Lib.hid hi
  have HZ0 := Lib.hid hz0
  have HZ1 := Lib.hid hz1
  have HZ2 := Lib.hid hz2
  have HC := Lib.hid (bdCheckK B b l w h)
  clear hi hz0 hz1 hz2 h
  go_enter Tryz.func81, Tryz.ntmps81
  go_wp2_with (go_at_call 126; refine HC.out.mono ?_)
  rintro e w1 ⟨rfl, h1, hk1⟩
  have hb1 := hk1.1
  obtain ⟨hB, v, hbk, hown, hne⟩ := h1
  have c0 : w1.cell? ⟨b, 0, none⟩ = some (.pointer (some ⟨b, 0, none⟩)) := by rw [Lib.cell_of_heap hbk]; rfl
  have c1 : w1.cell? ⟨b, 1, none⟩ = some v := by rw [Lib.cell_of_heap hbk]; rfl
  have hlenc := Lib.byteCells_length l
  go_wp2_with (at_builtin; refine Lib.wpList_append_own_string _ rfl _ _ 107 9 rfl B 5 i0 Tryz.underlying107 Tryz.underlying9 HI.out HZ0.out HZ1.out HZ2.out _ _ _ rfl hown s rfl ?c3 ?c4 ?c5 ?_)
  case c3 => unfold maxLen; omega
  case c4 => omega
  case c5 => have := hb1.size; omega
  intro v' w2 hown' hgrow _
  have hlt : b < w1.heap.size := by
    rcases Nat.lt_or_ge b w1.heap.size with h' | h'
    · exact h'
    · simp [Array.getElem?_eq_none h'] at hbk
  have hb2 : w2.heap[b]? = some (.cells #[.pointer (some ⟨b, 0, none⟩), v] 109 (0, 0)) := by
    rw [hgrow.block b hlt (fun e => hne e.symm)]
    exact hbk
  have d0 : w2.cell? ⟨b, 0, none⟩ = some (.pointer (some ⟨b, 0, none⟩)) := by rw [Lib.cell_of_heap hb2]; rfl
  have d1 : w2.cell? ⟨b, 1, none⟩ = some v := by rw [Lib.cell_of_heap hb2]; rfl
  have f1 : w2.frozen? ⟨b, 1, none⟩ = false := Lib.frozen_of_heap hb2 1
  obtain ⟨ao, n', cap, rfl⟩ : ∃ ao n' cap, v' = .slice ao n' cap := by
    rcases hown'.2 with ⟨hv, _⟩ | ⟨g, cap, cur, hv, _⟩
    · exact ⟨_, _, _, hv⟩
    · exact ⟨_, _, _, hv⟩
  go_wp2
  go_ret2
  refine ⟨rfl, ?_, ?_⟩
  · show Lib.BuilderAt _ _ B b _ (Lib.byteCells (l ++ s.data.toList)) _
    rw [bytes_app, ← Lib.strCells_eq]
    exact Lib.BuilderAt.put (T := 109) (e := 5) hB hb2 (bs' := Lib.byteCells l ++ Lib.strCells s) (by simpa [Lib.strCells_length, hlenc] using hown') (by decide)
  · refine ⟨(hb1.grown hgrow (by have := hb1.size; omega) (fun k hk => (hown.lt k hk).1)).setCell (p := ⟨b, 1, none⟩) hB _, ?_⟩
    intro x cs T fr hx hT hxb
    have hx1 := (hk1.2 x cs T fr hx hT hxb).trans hx
    have hxs : x < w1.heap.size := by
      rcases Nat.lt_or_ge x w1.heap.size with h' | h'
      · exact h'
      · simp [Array.getElem?_eq_none h'] at hx1
    have hne2 : some x ≠ v.ownBlock := fun e => Lib.ownBlock_ne hown hx1 hT e.symm
    rw [Below.heap_setCell _ _ _ _ hxb, hgrow.block x hxs hne2, hx1, hx]
def BdH (b : Nat) (l : List UInt8) (w : World) : Prop := Bd b b l w
theorem BdH.keep {b : Nat} {l : List UInt8} {w w' : World} (h : BdH b l w) (hb : Below w.heap.size w w') : BdH b l w' := Bd.keep h hb
theorem BdH.lt {b : Nat} {l : List UInt8} {w : World} (h : BdH b l w) : b < w.heap.size := Bd.lt h
theorem BdH.new (w : World) : BdH w.heap.size [] (w.alloc (.cells #[.pointer none, .slice none 0 0] 109)) := Bd.new w
def Wrote (b : Nat) (l : List UInt8) (w : World) (w' : World) : Prop := BdH b l w' ∧ Kept b b w w'
theorem BdH.text {b : Nat} {w : World} {l : List UInt8} (h : BdH b l w) (s : ByteArray) (hl : l.length + s.size ≤ 140737488355328) :
    Calls Tryz.prog 81 #[.pointer (some ⟨b, 0, none⟩), .string s] w fun e w' => e = .returned (.tuple #[.int .i64 s.size, .nilIface]) ∧ Wrote b (l ++ s.data.toList) w w' := by
  refine (bdWSk _ _ l s w h hl (Nat.le_of_lt h.lt)).mono ?_
  rintro e w' ⟨rfl, h1, h2⟩
  exact ⟨rfl, h1.bd, h2⟩
theorem BdH.str {b : Nat} {w : World} {l : List UInt8} (h : BdH b l w) :
    Calls Tryz.prog 83 #[.pointer (some ⟨b, 0, none⟩)] w fun e w' => e = .returned (.string ⟨l.toArray⟩) ∧ Below b w w' := bdStr _ _ l w h (Nat.le_of_lt h.lt)
end Go.Proofs.YtnbfadgclffgkaaGreatDoor
