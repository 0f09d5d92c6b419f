/- The example of chapter 50: clewlaw50.room(true). Printed by gen-ac37.py. -/
import Derived.Test.YtapjglpiofpbmaaAfF
import Derived.Deep.DeepCutAuto
import Derived.Laws.CopyOwn
namespace Go.Proofs.Ytapjglpiofpbmaa
open Go.RowKit Go.Sort

/-- So many objects, one behind another. -/
def allocs (w : World) (l : List Obj) : World := l.foldl World.alloc w
theorem allocs_below : ∀ (l : List Obj) (w : World), Below w.heap.size w (allocs w l)
  | [], w => Below.refl _ _
  | o :: l, w => by
    have h1 : Below w.heap.size w (w.alloc o) := (Below.refl _ _).alloc (Nat.le_refl _) _
    exact btK h1 (allocs_below l (w.alloc o))
theorem allocs_get : ∀ (l : List Obj) (w : World) (i : Nat) (o : Obj), l[i]? = some o → (allocs w l).heap[w.heap.size + i]? = some o
  | [], w, i, o, h => by cases h
  | p :: l, w, 0, o, h => by
    obtain rfl : p = o := by simpa using h
    have h1 : (w.alloc p).heap[w.heap.size]? = some p := World.alloc_heap_new w p
    have h2 := (allocs_below l (w.alloc p)).block w.heap.size (by simp)
    exact h2.trans h1
  | p :: l, w, i + 1, o, h => by
    have h1 := allocs_get l (w.alloc p) i o (by simpa using h)
    rwa [World.size_alloc, show w.heap.size + 1 + i = w.heap.size + (i + 1) by omega] at h1
theorem any_cut0 {P : Program} {md : Region.Mode} {ops : Array Oper} {Q : Exit → Act → World → Prop} {fuel : Nat} {listed : Array Bool} {a : Act} {w : World} (aF : Act) (wF : World) (h1 : Q .normal aF wF) (h2 : Q .normal aF wF → wpAny P md ops Q fuel listed a w) : wpAny P md ops Q fuel listed a w := h2 h1
theorem BoxT.cell' {w : World} {b j : Nat} {cs : List Value} {T : TypeId} (h : BoxT w b cs T) : w.cell? ⟨b, j, none⟩ = cs[j]? := by
  simp [World.cell?, show w.heap[b]? = _ from h]
theorem i64_lit (n : Int) (h : decide (-100 ≤ n ∧ n ≤ 100) = true) : I64 n := by
  have := of_decide_eq_true h
  unfold I64
  omega
/-- A slice whose array stands alone in a block. -/
theorem RdL.lit {α : Type} {R : Holds α} {sz : Nat} {F : Nat → Prop} {w : World} {l : List α} {b : Nat} {cs : List Value} {T : TypeId} (n : Nat) (hb : BoxT w b cs T) (hF : F b) (hn : l.length = n) (hl : n ≤ maxLen) (hc : cs.length = n * sz) (h : ∀ i (hi : i < l.length), R.R F w l[i] (cellsAt sz cs i)) : RdL R sz F w l (.slice (some ⟨b, 0, none⟩) n n) := by
  subst hn
  refine ⟨fun i j => (cs[i * sz + j]?).getD undef, ⟨_, _, rfl, Nat.le_refl _, hl, fun _ => ⟨b, 0, rfl, hF, fun i hi j hj => ?_⟩⟩, fun i hi => ?_⟩
  · have h1 : i * sz + j < cs.length := by
      have := Nat.mul_le_mul_right sz (show i + 1 ≤ l.length from hi)
      rw [Nat.add_mul, Nat.one_mul] at this
      omega
    rw [hb.cell', Nat.zero_add, List.getElem?_eq_getElem h1]
    simp [List.getElem?_eq_getElem h1]
  · have e : rowCells (fun i j => (cs[i * sz + j]?).getD undef) sz i = cellsAt sz cs i := by
      unfold rowCells cellsAt
      apply List.ext_getElem?
      intro j
      rw [List.getElem?_map, List.getElem?_take]
      by_cases hj : j < sz
      · have h1 : i * sz + j < cs.length := by
          have := Nat.mul_le_mul_right sz (show i + 1 ≤ l.length from hi)
          rw [Nat.add_mul, Nat.one_mul] at this
          omega
        rw [List.getElem?_range hj, if_pos hj, List.getElem?_drop]
        simp [List.getElem?_eq_getElem h1]
      · rw [if_neg hj, List.getElem?_eq_none (by simp; omega)]
        rfl
    rw [e]
    exact h i hi
def roomObjs (s : Nat) : List Obj := [.cells #[.int .i64 0, .int .i64 0, .int .i64 0, .int .i64 0, .slice none 0 0, .int .i64 0, .slice none 0 0, .slice none 0 0, .slice none 0 0, .slice none 0 0, .slice none 0 0, .slice none 0 0, .slice none 0 0, .slice none 0 0, .slice none 0 0] 35, .cells #[.slice none 0 0, .slice none 0 0, .slice none 0 0, .slice none 0 0, .slice none 0 0, .slice none 0 0, .slice none 0 0, .int .u64 0, .int .i64 0, .int .i64 0, .int .i64 0, .int .i64 0, .int .i64 0] 38, .cells #[.string { data := #[120] }] 9, .cells #[.int .i64 0, .int .i64 (-1), .int .i64 0, .int .i64 0, .bool false, .slice none 0 0, .slice none 0 0, .slice none 0 0, .slice none 0 0, .int .i64 0, .int .i64 (-1), .int .i64 2, .int .i64 0, .bool false, .slice none 0 0, .slice none 0 0, .slice none 0 0, .slice none 0 0, .int .i64 0, .int .i64 (-1), .int .i64 0, .int .i64 1, .bool true, .slice none 0 0, .slice none 0 0, .slice none 0 0, .slice none 0 0] 47, .cells #[.int .i64 0, .int .i64 0, .int .i64 0, .int .i64 0, .slice (some ⟨s + 1 + 1, 0, none⟩) 1 1, .int .i64 4, .slice none 0 0, .slice none 0 0, .slice (some ⟨s + 1 + 1 + 1, 0, none⟩) 3 3, .slice (some ⟨s + 1 + 1 + 1 + 1 + 1 + 1 + 1 + 1 + 1, 0, none⟩) 1 1, .slice none 0 0, .slice none 0 0, .slice none 0 0, .slice none 0 0, .slice none 0 0] 35, .cells #[.int .i64 5, .slice none 0 0] 49, .cells #[.string { data := #[116, 97, 107, 101] }] 9, .cells #[.int .i64 1, .slice (some ⟨s + 1 + 1 + 1 + 1 + 1 + 1, 0, none⟩) 1 1, .int .i64 2, .slice none 0 0] 49, .cells #[.slice (some ⟨s + 1 + 1 + 1 + 1 + 1, 0, none⟩) 1 1, .slice (some ⟨s + 1 + 1 + 1 + 1 + 1 + 1 + 1, 0, none⟩) 2 2] 50, .cells #[.bool false, .slice (some ⟨s + 1 + 1 + 1 + 1 + 1 + 1 + 1 + 1, 0, none⟩) 2 2] 53, .cells #[.int .i64 0, .int .i64 2, .int .i64 0] 3, .cells #[.int .i64 0, .int .i64 0, .int .i64 1] 3, .cells #[.int .i64 0, .int .i64 0, .int .i64 0] 3, .cells #[.int .i64 0, .int .i64 0, .int .i64 1] 3, .cells #[.slice none 0 0, .slice (some ⟨s + 1 + 1 + 1 + 1 + 1 + 1 + 1 + 1 + 1 + 1, 0, none⟩) 3 3, .slice (some ⟨s + 1 + 1 + 1 + 1 + 1 + 1 + 1 + 1 + 1 + 1 + 1, 0, none⟩) 3 3, .slice (some ⟨s + 1 + 1 + 1 + 1 + 1 + 1 + 1 + 1 + 1 + 1 + 1 + 1, 0, none⟩) 3 3, .slice (some ⟨s + 1 + 1 + 1 + 1 + 1 + 1 + 1 + 1 + 1 + 1 + 1 + 1 + 1 + 1 + 1, 0, none⟩) 3 3, .slice none 0 0, .slice none 0 0, .int .u64 1, .int .i64 0, .int .i64 0, .int .i64 0, .int .i64 0, .int .i64 0] 38, .cells #[.int .i64 0, .int .i64 0, .int .i64 0] 3]
def tab0 : TabD := ⟨0, 0, 0, 0, [{ data := #[120] }], 4, [], [], [⟨0, -1, 0, 0, false, [], [], [], []⟩, ⟨0, -1, 2, 0, false, [], [], [], []⟩, ⟨0, -1, 0, 1, true, [], [], [], []⟩], [⟨false, [[⟨5, []⟩], [⟨1, [{ data := #[116, 97, 107, 101] }]⟩, ⟨2, []⟩]]⟩], [], [], [], [], []⟩
def world0 : WorldD := ⟨[], [0, 2, 0], [0, 0, 1], [0, 0, 0], [0, 0, 0], [], [], 1, 0, 0, 0, 0, 0⟩
theorem results_two {fn : Func} {p q : Tmp} {ty ty' : TypeId} (h : fn.results = #[.cell p ty, .cell q ty']) (tmps : Array Value) (P : Program) (w : World) (g g' : Nat) (t t' : TypeId) (cs cs' : Array Value) (d d' : Array Field)
    (hp : tmps.getD p undef = .pointer (some ⟨g, 0, none⟩)) (hq : tmps.getD q undef = .pointer (some ⟨g', 0, none⟩)) (hg : w.heap[g]? = some (.cells cs t (0, 0))) (hg' : w.heap[g']? = some (.cells cs' t' (0, 0)))
    (hu : P.underlying ty = some (.struct d)) (hi : (P.info? ty).map (·.size) = some cs.size)
    (hu' : P.underlying ty' = some (.struct d')) (hi' : (P.info? ty').map (·.size) = some cs'.size) :
    (results fn tmps).run P w = .ok (.tuple #[.agg cs, .agg cs']) w := by
  have hp' : tmps[p]?.getD undef = .pointer (some ⟨g, 0, none⟩) := by simpa using hp
  have hq' : tmps[q]?.getD undef = .pointer (some ⟨g', 0, none⟩) := by simpa using hq
  simp [results, h, hp', hq', asAddr, run_loadVar_row w g t ty cs (0, 0) _ hg hu rfl hi, run_loadVar_row w g' t' ty' cs' (0, 0) _ hg' hu' rfl hi']
/-- Tables and a world in memory that the call has made. -/
def GivesTW (t : TabD) (x : WorldD) (w : World) (e : Ending) (w' : World) : Prop := ∃ cs ds, e = .returned (.tuple #[.agg cs.toArray, .agg ds.toArray]) ∧ Holds.tab.R (NewB w.heap.size w'.heap.size) w' t cs ∧ Holds.world.R (NewB w.heap.size w'.heap.size) w' x ds ∧ Below w.heap.size w w'
/-- What lies in memory behind the example's making. -/
theorem room_data {w W : World} (hs : w.heap.size + 16 ≤ W.heap.size) (h : ∀ i o, 2 ≤ i → (roomObjs w.heap.size)[i]? = some o → W.heap[w.heap.size + i]? = some o) :
    Holds.tab.R (NewB w.heap.size W.heap.size) W tab0 ([.int .i64 0, .int .i64 0, .int .i64 0, .int .i64 0, .slice (some ⟨w.heap.size + 1 + 1, 0, none⟩) 1 1, .int .i64 4, .slice none 0 0, .slice none 0 0, .slice (some ⟨w.heap.size + 1 + 1 + 1, 0, none⟩) 3 3, .slice (some ⟨w.heap.size + 1 + 1 + 1 + 1 + 1 + 1 + 1 + 1 + 1, 0, none⟩) 1 1, .slice none 0 0, .slice none 0 0, .slice none 0 0, .slice none 0 0, .slice none 0 0]) ∧ Holds.world.R (NewB w.heap.size W.heap.size) W world0 ([.slice none 0 0, .slice (some ⟨w.heap.size + 1 + 1 + 1 + 1 + 1 + 1 + 1 + 1 + 1 + 1, 0, none⟩) 3 3, .slice (some ⟨w.heap.size + 1 + 1 + 1 + 1 + 1 + 1 + 1 + 1 + 1 + 1 + 1, 0, none⟩) 3 3, .slice (some ⟨w.heap.size + 1 + 1 + 1 + 1 + 1 + 1 + 1 + 1 + 1 + 1 + 1 + 1, 0, none⟩) 3 3, .slice (some ⟨w.heap.size + 1 + 1 + 1 + 1 + 1 + 1 + 1 + 1 + 1 + 1 + 1 + 1 + 1 + 1 + 1, 0, none⟩) 3 3, .slice none 0 0, .slice none 0 0, .int .u64 1, .int .i64 0, .int .i64 0, .int .i64 0, .int .i64 0, .int .i64 0]) := by
  have hF : ∀ i, i < 16 → NewB w.heap.size W.heap.size (w.heap.size + i) := fun i hi => ⟨by omega, by omega⟩
  have b2 : BoxT W (w.heap.size + 1 + 1) [.string { data := #[120] }] 9 := h 2 _ (by omega) rfl
  have b3 : BoxT W (w.heap.size + 1 + 1 + 1) [.int .i64 0, .int .i64 (-1), .int .i64 0, .int .i64 0, .bool false, .slice none 0 0, .slice none 0 0, .slice none 0 0, .slice none 0 0, .int .i64 0, .int .i64 (-1), .int .i64 2, .int .i64 0, .bool false, .slice none 0 0, .slice none 0 0, .slice none 0 0, .slice none 0 0, .int .i64 0, .int .i64 (-1), .int .i64 0, .int .i64 1, .bool true, .slice none 0 0, .slice none 0 0, .slice none 0 0, .slice none 0 0] 47 := h 3 _ (by omega) rfl
  have b5 : BoxT W (w.heap.size + 1 + 1 + 1 + 1 + 1) [.int .i64 5, .slice none 0 0] 49 := h 5 _ (by omega) rfl
  have b6 : BoxT W (w.heap.size + 1 + 1 + 1 + 1 + 1 + 1) [.string { data := #[116, 97, 107, 101] }] 9 := h 6 _ (by omega) rfl
  have b7 : BoxT W (w.heap.size + 1 + 1 + 1 + 1 + 1 + 1 + 1) [.int .i64 1, .slice (some ⟨w.heap.size + 1 + 1 + 1 + 1 + 1 + 1, 0, none⟩) 1 1, .int .i64 2, .slice none 0 0] 49 := h 7 _ (by omega) rfl
  have b8 : BoxT W (w.heap.size + 1 + 1 + 1 + 1 + 1 + 1 + 1 + 1) [.slice (some ⟨w.heap.size + 1 + 1 + 1 + 1 + 1, 0, none⟩) 1 1, .slice (some ⟨w.heap.size + 1 + 1 + 1 + 1 + 1 + 1 + 1, 0, none⟩) 2 2] 50 := h 8 _ (by omega) rfl
  have b9 : BoxT W (w.heap.size + 1 + 1 + 1 + 1 + 1 + 1 + 1 + 1 + 1) [.bool false, .slice (some ⟨w.heap.size + 1 + 1 + 1 + 1 + 1 + 1 + 1 + 1, 0, none⟩) 2 2] 53 := h 9 _ (by omega) rfl
  have b10 : BoxT W (w.heap.size + 1 + 1 + 1 + 1 + 1 + 1 + 1 + 1 + 1 + 1) [.int .i64 0, .int .i64 2, .int .i64 0] 3 := h 10 _ (by omega) rfl
  have b11 : BoxT W (w.heap.size + 1 + 1 + 1 + 1 + 1 + 1 + 1 + 1 + 1 + 1 + 1) [.int .i64 0, .int .i64 0, .int .i64 1] 3 := h 11 _ (by omega) rfl
  have b12 : BoxT W (w.heap.size + 1 + 1 + 1 + 1 + 1 + 1 + 1 + 1 + 1 + 1 + 1 + 1) [.int .i64 0, .int .i64 0, .int .i64 0] 3 := h 12 _ (by omega) rfl
  have b15 : BoxT W (w.heap.size + 1 + 1 + 1 + 1 + 1 + 1 + 1 + 1 + 1 + 1 + 1 + 1 + 1 + 1 + 1) [.int .i64 0, .int .i64 0, .int .i64 0] 3 := h 15 _ (by omega) rfl
  have k0 : I64 0 := i64_lit _ rfl
  have nilI : RdInts (NewB w.heap.size W.heap.size) W [] (.slice none 0 0) := RdL.nil _ _ _ _ _ _ (by decide)
  have nilS : RdStrs (NewB w.heap.size W.heap.size) W [] (.slice none 0 0) := RdL.nil _ _ _ _ _ _ (by decide)
  have i10 : RdInts (NewB w.heap.size W.heap.size) W [0, 2, 0] (.slice (some ⟨w.heap.size + 1 + 1 + 1 + 1 + 1 + 1 + 1 + 1 + 1 + 1, 0, none⟩) 3 3) := RdL.lit 3 b10 (hF 10 (by omega)) rfl (by decide) rfl (fun i hi => by match i, hi with | 0, _ => exact ⟨i64_lit _ rfl, rfl⟩ | 1, _ => exact ⟨i64_lit _ rfl, rfl⟩ | 2, _ => exact ⟨i64_lit _ rfl, rfl⟩)
  have i11 : RdInts (NewB w.heap.size W.heap.size) W [0, 0, 1] (.slice (some ⟨w.heap.size + 1 + 1 + 1 + 1 + 1 + 1 + 1 + 1 + 1 + 1 + 1, 0, none⟩) 3 3) := RdL.lit 3 b11 (hF 11 (by omega)) rfl (by decide) rfl (fun i hi => by match i, hi with | 0, _ => exact ⟨i64_lit _ rfl, rfl⟩ | 1, _ => exact ⟨i64_lit _ rfl, rfl⟩ | 2, _ => exact ⟨i64_lit _ rfl, rfl⟩)
  have i12 : RdInts (NewB w.heap.size W.heap.size) W [0, 0, 0] (.slice (some ⟨w.heap.size + 1 + 1 + 1 + 1 + 1 + 1 + 1 + 1 + 1 + 1 + 1 + 1, 0, none⟩) 3 3) := RdL.lit 3 b12 (hF 12 (by omega)) rfl (by decide) rfl (fun i hi => by match i, hi with | 0, _ => exact ⟨i64_lit _ rfl, rfl⟩ | 1, _ => exact ⟨i64_lit _ rfl, rfl⟩ | 2, _ => exact ⟨i64_lit _ rfl, rfl⟩)
  have i15 : RdInts (NewB w.heap.size W.heap.size) W [0, 0, 0] (.slice (some ⟨w.heap.size + 1 + 1 + 1 + 1 + 1 + 1 + 1 + 1 + 1 + 1 + 1 + 1 + 1 + 1 + 1, 0, none⟩) 3 3) := RdL.lit 3 b15 (hF 15 (by omega)) rfl (by decide) rfl (fun i hi => by match i, hi with | 0, _ => exact ⟨i64_lit _ rfl, rfl⟩ | 1, _ => exact ⟨i64_lit _ rfl, rfl⟩ | 2, _ => exact ⟨i64_lit _ rfl, rfl⟩)
  have t2 : RdStrs (NewB w.heap.size W.heap.size) W [{ data := #[120] }] (.slice (some ⟨w.heap.size + 1 + 1, 0, none⟩) 1 1) := RdL.lit 1 b2 (hF 2 (by omega)) rfl (by decide) rfl (fun i hi => by match i, hi with | 0, _ => exact ⟨show ({ data := #[120] } : ByteArray).size ≤ maxLen by decide, rfl⟩)
  have t6 : RdStrs (NewB w.heap.size W.heap.size) W [{ data := #[116, 97, 107, 101] }] (.slice (some ⟨w.heap.size + 1 + 1 + 1 + 1 + 1 + 1, 0, none⟩) 1 1) := RdL.lit 1 b6 (hF 6 (by omega)) rfl (by decide) rfl (fun i hi => by match i, hi with | 0, _ => exact ⟨show ({ data := #[116, 97, 107, 101] } : ByteArray).size ≤ maxLen by decide, rfl⟩)
  have s5 : RdL Holds.slot 2 (NewB w.heap.size W.heap.size) W [⟨5, []⟩] (.slice (some ⟨w.heap.size + 1 + 1 + 1 + 1 + 1, 0, none⟩) 1 1) := RdL.lit 1 b5 (hF 5 (by omega)) rfl (by decide) rfl (fun i hi => by match i, hi with | 0, _ => exact ⟨i64_lit _ rfl, _, rfl, nilS⟩)
  have s7 : RdL Holds.slot 2 (NewB w.heap.size W.heap.size) W [⟨1, [{ data := #[116, 97, 107, 101] }]⟩, ⟨2, []⟩] (.slice (some ⟨w.heap.size + 1 + 1 + 1 + 1 + 1 + 1 + 1, 0, none⟩) 2 2) := RdL.lit 2 b7 (hF 7 (by omega)) rfl (by decide) rfl (fun i hi => by match i, hi with | 0, _ => exact ⟨i64_lit _ rfl, _, rfl, t6⟩ | 1, _ => exact ⟨i64_lit _ rfl, _, rfl, nilS⟩)
  have l8 : RdL (Holds.sl Holds.slot 2) 1 (NewB w.heap.size W.heap.size) W [[⟨5, []⟩], [⟨1, [{ data := #[116, 97, 107, 101] }]⟩, ⟨2, []⟩]] (.slice (some ⟨w.heap.size + 1 + 1 + 1 + 1 + 1 + 1 + 1 + 1, 0, none⟩) 2 2) := RdL.lit 2 b8 (hF 8 (by omega)) rfl (by decide) rfl (fun i hi => by match i, hi with | 0, _ => exact ⟨_, rfl, s5⟩ | 1, _ => exact ⟨_, rfl, s7⟩)
  have a9 : RdL Holds.act 2 (NewB w.heap.size W.heap.size) W tab0.acts (.slice (some ⟨w.heap.size + 1 + 1 + 1 + 1 + 1 + 1 + 1 + 1 + 1, 0, none⟩) 1 1) := RdL.lit 1 b9 (hF 9 (by omega)) rfl (by decide) rfl (fun i hi => by match i, hi with | 0, _ => exact ⟨_, rfl, l8⟩)
  have nw : RdL Holds.way 4 (NewB w.heap.size W.heap.size) W [] (.slice none 0 0) := RdL.nil _ _ _ _ _ _ (by decide)
  have nd : RdL Holds.deed 6 (NewB w.heap.size W.heap.size) W [] (.slice none 0 0) := RdL.nil _ _ _ _ _ _ (by decide)
  have h3 : RdL Holds.thing 9 (NewB w.heap.size W.heap.size) W tab0.things (.slice (some ⟨w.heap.size + 1 + 1 + 1, 0, none⟩) 3 3) := RdL.lit 3 b3 (hF 3 (by omega)) rfl (by decide) rfl (fun i hi => by match i, hi with | 0, _ => exact ⟨i64_lit _ rfl, i64_lit _ rfl, i64_lit _ rfl, i64_lit _ rfl, _, _, _, _, rfl, nilI, nilS, nilS, nw⟩ | 1, _ => exact ⟨i64_lit _ rfl, i64_lit _ rfl, i64_lit _ rfl, i64_lit _ rfl, _, _, _, _, rfl, nilI, nilS, nilS, nw⟩ | 2, _ => exact ⟨i64_lit _ rfl, i64_lit _ rfl, i64_lit _ rfl, i64_lit _ rfl, _, _, _, _, rfl, nilI, nilS, nilS, nw⟩)
  exact ⟨⟨k0, k0, k0, k0, i64_lit _ rfl, _, _, _, _, _, _, _, _, _, _, rfl, t2, nilI, nilI, h3, a9, nd, nilI, nilI, nilI, nilI⟩, ⟨by decide, by decide⟩, k0, k0, k0, k0, k0, _, _, _, _, _, _, _, rfl, nilI, i10, i11, i12, i15, nilI, nilI⟩
set_option maxRecDepth 100000 in
set_option maxHeartbeats 4000000 in
theorem room_calls (w : World) : Calls Try.prog 9 #[.bool true] w (GivesTW tab0 world0 w) := by
  obtain ⟨wc, hwc⟩ : ∃ z, allocs w (roomObjs w.heap.size) = z := ⟨_, rfl⟩
  have hB0 : Below w.heap.size w wc := hwc ▸ allocs_below _ _
  have hO : ∀ i o, (roomObjs w.heap.size)[i]? = some o → wc.heap[w.heap.size + i]? = some o := hwc ▸ allocs_get _ _
  have hsz : w.heap.size + 16 ≤ wc.heap.size := by
    have h9 := hO 15 _ rfl
    have := (Array.getElem?_eq_some_iff.1 h9).1
    omega
  have HO := Lib.hid hO; have HB := Lib.hid hB0; have HZ := Lib.hid hsz; have HWC := Lib.hid hwc
  clear hwc hB0 hO hsz
  go_enter Try.func9, Try.ntmps9
  go_upto_region 6 with fail
  change Code.wp _ _ _ _ (allocs w (roomObjs w.heap.size))
  rw [HWC.out]
  refine wp_region_any (by kernel_rfl) ?_
  change wpAny _ _ _ _ _ _ _ (World.drew wc)
  obtain ⟨wd, hwd⟩ : ∃ z, wc.drew = z := ⟨_, rfl⟩
  rw [hwd]
  have HB1 : Hid (Below w.heap.size w wd) := HB.out.trans (by rw [← hwd]; exact (Below.refl _ _).drew)
  have HO1 : Hid (∀ i o, (roomObjs w.heap.size)[i]? = some o → wd.heap[w.heap.size + i]? = some o) := by rw [← hwd]; exact HO.out
  have HZ1 : Hid (w.heap.size + 16 ≤ wd.heap.size) := by rw [← hwd]; exact HZ.out
  clear hwd HO HB HZ HWC
  obtain ⟨TA, hTA⟩ : ∃ v, (#[.int .i64 0, .int .i64 0, .int .i64 0, .int .i64 0, .slice (some ⟨w.heap.size + 1 + 1, 0, none⟩) 1 1, .int .i64 4, .slice none 0 0, .slice none 0 0, .slice (some ⟨w.heap.size + 1 + 1 + 1, 0, none⟩) 3 3, .slice (some ⟨w.heap.size + 1 + 1 + 1 + 1 + 1 + 1 + 1 + 1 + 1, 0, none⟩) 1 1, .slice none 0 0, .slice none 0 0, .slice none 0 0, .slice none 0 0, .slice none 0 0] : Array Value) = v := ⟨_, rfl⟩
  obtain ⟨WA, hWA⟩ : ∃ v, (#[.slice none 0 0, .slice (some ⟨w.heap.size + 1 + 1 + 1 + 1 + 1 + 1 + 1 + 1 + 1 + 1, 0, none⟩) 3 3, .slice (some ⟨w.heap.size + 1 + 1 + 1 + 1 + 1 + 1 + 1 + 1 + 1 + 1 + 1, 0, none⟩) 3 3, .slice (some ⟨w.heap.size + 1 + 1 + 1 + 1 + 1 + 1 + 1 + 1 + 1 + 1 + 1 + 1, 0, none⟩) 3 3, .slice (some ⟨w.heap.size + 1 + 1 + 1 + 1 + 1 + 1 + 1 + 1 + 1 + 1 + 1 + 1 + 1 + 1 + 1, 0, none⟩) 3 3, .slice none 0 0, .slice none 0 0, .int .u64 1, .int .i64 0, .int .i64 0, .int .i64 0, .int .i64 0, .int .i64 0] : Array Value) = v := ⟨_, rfl⟩
  have g0 : wd.heap[w.heap.size]? = some (.cells #[.int .i64 0, .int .i64 0, .int .i64 0, .int .i64 0, .slice none 0 0, .int .i64 0, .slice none 0 0, .slice none 0 0, .slice none 0 0, .slice none 0 0, .slice none 0 0, .slice none 0 0, .slice none 0 0, .slice none 0 0, .slice none 0 0] 35 (0, 0)) := HO1.out 0 _ rfl
  have g1 : wd.heap[w.heap.size + 1]? = some (.cells #[.slice none 0 0, .slice none 0 0, .slice none 0 0, .slice none 0 0, .slice none 0 0, .slice none 0 0, .slice none 0 0, .int .u64 0, .int .i64 0, .int .i64 0, .int .i64 0, .int .i64 0, .int .i64 0] 38 (0, 0)) := HO1.out 1 _ rfl
  have g4 : wd.heap[w.heap.size + 1 + 1 + 1 + 1]? = some (.cells TA 35 (0, 0)) := by rw [← hTA]; exact HO1.out 4 _ rfl
  have g14 : wd.heap[w.heap.size + 1 + 1 + 1 + 1 + 1 + 1 + 1 + 1 + 1 + 1 + 1 + 1 + 1 + 1]? = some (.cells WA 38 (0, 0)) := by rw [← hWA]; exact HO1.out 14 _ rfl
  have sT : TA.size = 15 := by rw [← hTA]; rfl
  have sW : WA.size = 13 := by rw [← hWA]; rfl
  have oT : TA.all (·.oneCell') = true := by rw [← hTA]; simp [Value.oneCell']
  have oW : WA.all (·.oneCell') = true := by rw [← hWA]; simp [Value.oneCell']
  have zT : (Try.prog.info? 35).map (·.size) = some TA.size := by rw [sT]; kernel_rfl
  have zW : (Try.prog.info? 38).map (·.size) = some WA.size := by rw [sW]; kernel_rfl
  have HTA := Lib.hid hTA; have HWA := Lib.hid hWA
  clear hTA hWA
  obtain ⟨w2, hw2⟩ : ∃ z, wd.setRow w.heap.size TA = z := ⟨_, rfl⟩
  have g1' : w2.heap[w.heap.size + 1]? = some (.cells #[.slice none 0 0, .slice none 0 0, .slice none 0 0, .slice none 0 0, .slice none 0 0, .slice none 0 0, .slice none 0 0, .int .u64 0, .int .i64 0, .int .i64 0, .int .i64 0, .int .i64 0, .int .i64 0] 38 (0, 0)) := by rw [← hw2, setRow_other _ _ _ _ (by omega)]; exact g1
  have g14' : w2.heap[w.heap.size + 1 + 1 + 1 + 1 + 1 + 1 + 1 + 1 + 1 + 1 + 1 + 1 + 1 + 1]? = some (.cells WA 38 (0, 0)) := by rw [← hw2, setRow_other _ _ _ _ (by omega)]; exact g14
  obtain ⟨w3, hw3⟩ : ∃ z, w2.setRow (w.heap.size + 1) WA = z := ⟨_, rfl⟩
  refine any_cut0 { tmps := #[.bool true, undef, .pointer (some ⟨w.heap.size, 0, none⟩), .pointer (some ⟨w.heap.size + 1, 0, none⟩), .pointer (some ⟨w.heap.size + 1 + 1 + 1 + 1, 0, none⟩), .pointer (some ⟨w.heap.size + 1 + 1 + 1 + 1 + 1 + 1 + 1 + 1 + 1 + 1 + 1 + 1 + 1 + 1, 0, none⟩), .slice (some ⟨w.heap.size + 1 + 1, 0, none⟩) 1 1, .agg #[.int .i64 0, .int .i64 (-1), .int .i64 0, .int .i64 0, .bool false, .slice none 0 0, .slice none 0 0, .slice none 0 0, .slice none 0 0], .agg #[.int .i64 0, .int .i64 (-1), .int .i64 2, .int .i64 0, .bool false, .slice none 0 0, .slice none 0 0, .slice none 0 0, .slice none 0 0], .agg #[.int .i64 0, .int .i64 (-1), .int .i64 0, .int .i64 1, .bool true, .slice none 0 0, .slice none 0 0, .slice none 0 0, .slice none 0 0], .slice (some ⟨w.heap.size + 1 + 1 + 1, 0, none⟩) 3 3, .agg #[.int .i64 0, .int .i64 0, .int .i64 0, .int .i64 0, .slice (some ⟨w.heap.size + 1 + 1, 0, none⟩) 1 1, .int .i64 4, .slice none 0 0, .slice none 0 0, .slice (some ⟨w.heap.size + 1 + 1 + 1, 0, none⟩) 3 3, .slice none 0 0, .slice none 0 0, .slice none 0 0, .slice none 0 0, .slice none 0 0, .slice none 0 0], .agg #[.int .i64 5, .slice none 0 0], .slice (some ⟨w.heap.size + 1 + 1 + 1 + 1 + 1, 0, none⟩) 1 1, .slice (some ⟨w.heap.size + 1 + 1 + 1 + 1 + 1 + 1, 0, none⟩) 1 1, .agg #[.int .i64 1, .slice (some ⟨w.heap.size + 1 + 1 + 1 + 1 + 1 + 1, 0, none⟩) 1 1], .agg #[.int .i64 2, .slice none 0 0], .slice (some ⟨w.heap.size + 1 + 1 + 1 + 1 + 1 + 1 + 1, 0, none⟩) 2 2, .slice (some ⟨w.heap.size + 1 + 1 + 1 + 1 + 1 + 1 + 1 + 1, 0, none⟩) 2 2, .agg #[.bool false, .slice (some ⟨w.heap.size + 1 + 1 + 1 + 1 + 1 + 1 + 1 + 1, 0, none⟩) 2 2], .slice (some ⟨w.heap.size + 1 + 1 + 1 + 1 + 1 + 1 + 1 + 1 + 1, 0, none⟩) 1 1, .pointer (some ⟨w.heap.size + 1 + 1 + 1 + 1, 9, none⟩), .slice (some ⟨w.heap.size + 1 + 1 + 1 + 1 + 1 + 1 + 1 + 1 + 1 + 1, 0, none⟩) 3 3, .slice (some ⟨w.heap.size + 1 + 1 + 1 + 1 + 1 + 1 + 1 + 1 + 1 + 1 + 1, 0, none⟩) 3 3, .slice (some ⟨w.heap.size + 1 + 1 + 1 + 1 + 1 + 1 + 1 + 1 + 1 + 1 + 1 + 1, 0, none⟩) 3 3, .slice (some ⟨w.heap.size + 1 + 1 + 1 + 1 + 1 + 1 + 1 + 1 + 1 + 1 + 1 + 1 + 1, 0, none⟩) 3 3, .agg #[.slice none 0 0, .slice (some ⟨w.heap.size + 1 + 1 + 1 + 1 + 1 + 1 + 1 + 1 + 1 + 1, 0, none⟩) 3 3, .slice (some ⟨w.heap.size + 1 + 1 + 1 + 1 + 1 + 1 + 1 + 1 + 1 + 1 + 1, 0, none⟩) 3 3, .slice (some ⟨w.heap.size + 1 + 1 + 1 + 1 + 1 + 1 + 1 + 1 + 1 + 1 + 1 + 1, 0, none⟩) 3 3, .slice (some ⟨w.heap.size + 1 + 1 + 1 + 1 + 1 + 1 + 1 + 1 + 1 + 1 + 1 + 1 + 1, 0, none⟩) 3 3, .slice none 0 0, .slice none 0 0, .int .u64 1, .int .i64 0, .int .i64 0, .int .i64 0, .int .i64 0, .int .i64 0], .bool true, .slice (some ⟨w.heap.size + 1 + 1 + 1 + 1 + 1 + 1 + 1 + 1 + 1 + 1 + 1 + 1 + 1 + 1 + 1, 0, none⟩) 3 3, .pointer (some ⟨w.heap.size + 1 + 1 + 1 + 1 + 1 + 1 + 1 + 1 + 1 + 1 + 1 + 1 + 1 + 1, 4, none⟩), .agg TA, .agg WA], defers := [] } w3 ?hend (fun HEND => ?htree)
  case hend =>
    have q0 : w3.heap[w.heap.size]? = some (.cells TA 35 (0, 0)) := by rw [← hw3, setRow_other _ _ _ _ (by omega), ← hw2]; exact setRow_heap _ _ _ _ _ _ g0
    have q1 : w3.heap[w.heap.size + 1]? = some (.cells WA 38 (0, 0)) := by rw [← hw3]; exact setRow_heap _ _ _ _ _ _ g1'
    have hb3 : Below w.heap.size w w3 := by rw [← hw3, ← hw2]; exact Go.below_setRow (Go.below_setRow HB1.out (Nat.le_refl _) _) (by omega) _
    have hz3 : w.heap.size + 16 ≤ w3.heap.size := by rw [← hw3, ← hw2]; simpa using HZ1.out
    have hq : ∀ i o, 2 ≤ i → (roomObjs w.heap.size)[i]? = some o → w3.heap[w.heap.size + i]? = some o := fun i o hi h => by
      rw [← hw3, setRow_other _ _ _ _ (by omega), ← hw2, setRow_other _ _ _ _ (by omega)]
      exact HO1.out i o h
    obtain ⟨d1, d2⟩ := room_data hz3 hq
    have HD1 := Lib.hid d1; have HD2 := Lib.hid d2; have HB3 := Lib.hid hb3
    clear d1 d2 hq hz3 hb3
    go_wp2_with fail
    refine bodyPost_ret (results_two (p := 2) (q := 3) (ty := 35) (ty' := 38) rfl _ _ _ w.heap.size (w.heap.size + 1) 35 38 TA WA _ _ rfl rfl q0 q1 Try.underlying35 zT Try.underlying38 zW) rfl ?_
    exact ⟨_, _, by rw [← HTA.out, ← HWA.out], HD1.out, HD2.out, HB3.out⟩
  case htree =>
    clear HO1 HZ1 HB1
    refine wpAny_ready (rs := [0, 1]) (by kernel_rfl) (by simp) ?_
    refine AllReady.cons rfl (fun K hK => ?_) (AllReady.cons rfl (fun K hK => ?_) (AllReady.nil))
    · rw [if_pos (by rfl)]
      refine wp_load_row 35 (.tmp 4) rfl (w.heap.size + 1 + 1 + 1 + 1) rfl 35 TA (0, 0) _ g4 Try.underlying35 rfl zT (hK _ _ ?_)
      clear hK K
      simp only [Act.put, List.setIfInBounds_toArray]
      refine wpAny_ready (rs := [1, 2]) (by kernel_rfl) (by simp) ?_
      refine AllReady.cons rfl (fun K hK => ?_) (AllReady.cons rfl (fun K hK => ?_) (AllReady.nil))
      · rw [if_pos (by rfl)]
        refine wp_load_row 38 (.tmp 5) rfl (w.heap.size + 1 + 1 + 1 + 1 + 1 + 1 + 1 + 1 + 1 + 1 + 1 + 1 + 1 + 1) rfl 38 WA (0, 0) _ g14 Try.underlying38 rfl zW (hK _ _ ?_)
        clear hK K
        simp only [Act.put]
        refine wpAny_ready (rs := [2]) (by kernel_rfl) (by simp) ?_
        refine AllReady.cons rfl (fun K hK => ?_) (AllReady.nil)
        · rw [if_pos (by rfl)]
          refine wp_store_row 35 (.tmp 2) (.tmp 30) rfl w.heap.size TA rfl rfl 35 _ g0 zT (by rw [sT]; rfl) oT ?_
          rw [hw2]
          refine hK _ _ ?_
          clear hK K
          simp only [Act.put]
          refine wpAny_ready (rs := [3]) (by kernel_rfl) (by simp) ?_
          refine AllReady.cons rfl (fun K hK => ?_) (AllReady.nil)
          · rw [if_pos (by rfl)]
            refine wp_store_row 38 (.tmp 3) (.tmp 31) rfl (w.heap.size + 1) WA rfl rfl 38 _ g1' zW (by rw [sW]; rfl) oW ?_
            rw [hw3]
            refine hK _ _ ?_
            clear hK K
            simp only [Act.put]
            refine wpAny_done (by kernel_rfl) ?_ _
            exact HEND
      · rw [if_pos (by rfl)]
        refine wp_store_row 35 (.tmp 2) (.tmp 30) rfl w.heap.size TA rfl rfl 35 _ g0 zT (by rw [sT]; rfl) oT ?_
        rw [hw2]
        refine hK _ _ ?_
        clear hK K
        simp only [Act.put]
        refine wpAny_ready (rs := [1]) (by kernel_rfl) (by simp) ?_
        refine AllReady.cons rfl (fun K hK => ?_) (AllReady.nil)
        · rw [if_pos (by rfl)]
          refine wp_load_row 38 (.tmp 5) rfl (w.heap.size + 1 + 1 + 1 + 1 + 1 + 1 + 1 + 1 + 1 + 1 + 1 + 1 + 1 + 1) rfl 38 WA (0, 0) _ g14' Try.underlying38 rfl zW (hK _ _ ?_)
          clear hK K
          simp only [Act.put]
          refine wpAny_ready (rs := [3]) (by kernel_rfl) (by simp) ?_
          refine AllReady.cons rfl (fun K hK => ?_) (AllReady.nil)
          · rw [if_pos (by rfl)]
            refine wp_store_row 38 (.tmp 3) (.tmp 31) rfl (w.heap.size + 1) WA rfl rfl 38 _ g1' zW (by rw [sW]; rfl) oW ?_
            rw [hw3]
            refine hK _ _ ?_
            clear hK K
            simp only [Act.put]
            refine wpAny_done (by kernel_rfl) ?_ _
            exact HEND
    · rw [if_pos (by rfl)]
      refine wp_load_row 38 (.tmp 5) rfl (w.heap.size + 1 + 1 + 1 + 1 + 1 + 1 + 1 + 1 + 1 + 1 + 1 + 1 + 1 + 1) rfl 38 WA (0, 0) _ g14 Try.underlying38 rfl zW (hK _ _ ?_)
      clear hK K
      simp only [Act.put, List.setIfInBounds_toArray]
      refine wpAny_ready (rs := [0]) (by kernel_rfl) (by simp) ?_
      refine AllReady.cons rfl (fun K hK => ?_) (AllReady.nil)
      · rw [if_pos (by rfl)]
        refine wp_load_row 35 (.tmp 4) rfl (w.heap.size + 1 + 1 + 1 + 1) rfl 35 TA (0, 0) _ g4 Try.underlying35 rfl zT (hK _ _ ?_)
        clear hK K
        simp only [Act.put]
        refine wpAny_ready (rs := [2]) (by kernel_rfl) (by simp) ?_
        refine AllReady.cons rfl (fun K hK => ?_) (AllReady.nil)
        · rw [if_pos (by rfl)]
          refine wp_store_row 35 (.tmp 2) (.tmp 30) rfl w.heap.size TA rfl rfl 35 _ g0 zT (by rw [sT]; rfl) oT ?_
          rw [hw2]
          refine hK _ _ ?_
          clear hK K
          simp only [Act.put]
          refine wpAny_ready (rs := [3]) (by kernel_rfl) (by simp) ?_
          refine AllReady.cons rfl (fun K hK => ?_) (AllReady.nil)
          · rw [if_pos (by rfl)]
            refine wp_store_row 38 (.tmp 3) (.tmp 31) rfl (w.heap.size + 1) WA rfl rfl 38 _ g1' zW (by rw [sW]; rfl) oW ?_
            rw [hw3]
            refine hK _ _ ?_
            clear hK K
            simp only [Act.put]
            refine wpAny_done (by kernel_rfl) ?_ _
            exact HEND
end Go.Proofs.Ytapjglpiofpbmaa
/- Chapter 50's example. Printed by gen-ac38.py. -/
namespace Go.Proofs.Ytapjglpiofpbmaa
open Go.RowKit Go.Sort

theorem two_boxes (w : World) (cs ds : List Value) (T T' : TypeId) : BoxT ((w.alloc (.cells cs.toArray T)).alloc (.cells ds.toArray T')) w.heap.size cs T ∧ BoxT ((w.alloc (.cells cs.toArray T)).alloc (.cells ds.toArray T')) (w.heap.size + 1) ds T' ∧ Below w.heap.size w ((w.alloc (.cells cs.toArray T)).alloc (.cells ds.toArray T')) := by
  have hb1 : Below w.heap.size w (w.alloc (.cells cs.toArray T)) := (Below.refl _ _).alloc (Nat.le_refl _) _
  have hb2 : Below (w.alloc (.cells cs.toArray T)).heap.size (w.alloc (.cells cs.toArray T)) ((w.alloc (.cells cs.toArray T)).alloc (.cells ds.toArray T')) := (Below.refl _ _).alloc (Nat.le_refl _) _
  have h2 := BoxT.new (w.alloc (.cells cs.toArray T)) ds T'
  rw [World.size_alloc] at h2
  exact ⟨(BoxT.new w cs T).below hb2, h2, btK hb1 hb2⟩
theorem may0 : MayP tab0 world0 := by
  have hn : ∀ x, IsTh world0.n x → x = 1 ∨ x = 2 := fun x h => by
    obtain ⟨h1, h2⟩ := h
    change x < 3 at h2
    omega
  refine ⟨⟨⟨rfl, rfl, by decide, fun x hx => ?_, fun x hx => ?_⟩, fun x hx => ?_⟩, rfl, by decide, by decide, rfl, by decide, by decide, by decide⟩
  all_goals
    rcases hn x hx with rfl | rfl <;> decide +kernel
theorem all0 : allC tab0 world0 = [⟨0, 0, 0, 0, 1⟩, ⟨0, 0, 0, 0, 2⟩, ⟨0, 0, 0, 0, 3⟩, ⟨0, 0, 0, 0, 4⟩, ⟨0, 0, 0, 0, 5⟩, ⟨0, 0, 0, 0, 6⟩, ⟨0, 0, 0, 0, 7⟩, ⟨0, 0, 0, 0, 8⟩, ⟨0, 0, 0, 0, 9⟩, ⟨0, 0, 0, 0, 10⟩, ⟨0, 0, 0, 0, 11⟩, ⟨0, 0, 0, 0, 12⟩] := by decide +kernel
set_option maxRecDepth 100000 in
set_option maxHeartbeats 4000000 in
theorem awake_calls (w : World) : Calls Try.prog 6 #[] w (Gives w (.bool true)) := by
  have HRO := Lib.hid (room_calls w)
  go_enter Try.func6, Try.ntmps6
  go_upto_region 1 with fail
  go_cut [1, 2] (fun va vb wc => ∃ (w1 : World) (cs ds : List Value), va = .pointer (some ⟨w1.heap.size, 0, none⟩) ∧ vb = .pointer (some ⟨w1.heap.size + 1, 0, none⟩) ∧ BoxT wc w1.heap.size cs 35 ∧ BoxT wc (w1.heap.size + 1) ds 38 ∧ Holds.tab.R (NewB w.heap.size w1.heap.size) w1 tab0 cs ∧ Holds.world.R (NewB w.heap.size w1.heap.size) w1 world0 ds ∧ Below w1.heap.size w1 wc ∧ Below w.heap.size w w1)
  case first =>
    go_wp2_with (first | (go_at_call 9; (with_reducible refine HRO.out.mono ?_); rintro e w1 ⟨cs, ds, rfl, ht, hx, hb1⟩; have HT1 := Lib.hid ht; have HX1 := Lib.hid hx; (obtain ⟨-, -, -, -, -, v4, v6, v7, v8, v9, v10, v11, v12, v13, v14, rfl, g4, g6, g7, g8, g9, g10, g11, g12, g13, g14⟩ := ht); (obtain ⟨ad4, ca4, rfl⟩ := g4.shape); (obtain ⟨ad6, ca6, rfl⟩ := g6.shape); (obtain ⟨ad7, ca7, rfl⟩ := g7.shape); (obtain ⟨ad8, ca8, rfl⟩ := g8.shape); (obtain ⟨ad9, ca9, rfl⟩ := g9.shape); (obtain ⟨ad10, ca10, rfl⟩ := g10.shape); (obtain ⟨ad11, ca11, rfl⟩ := g11.shape); (obtain ⟨ad12, ca12, rfl⟩ := g12.shape); (obtain ⟨ad13, ca13, rfl⟩ := g13.shape); (obtain ⟨ad14, ca14, rfl⟩ := g14.shape); (obtain ⟨-, -, -, -, -, -, u0, u1, u2, u3, u4, u5, u6, rfl, f0, f1, f2, f3, f4, f5, f6⟩ := hx); (obtain ⟨wa0, wc0, rfl⟩ := f0.shape); (obtain ⟨wa1, wc1, rfl⟩ := f1.shape); (obtain ⟨wa2, wc2, rfl⟩ := f2.shape); (obtain ⟨wa3, wc3, rfl⟩ := f3.shape); (obtain ⟨wa4, wc4, rfl⟩ := f4.shape); (obtain ⟨wa5, wc5, rfl⟩ := f5.shape); (obtain ⟨wa6, wc6, rfl⟩ := f6.shape); clear g4 g6 g7 g8 g9 g10 g11 g12 g13 g14 f0 f1 f2 f3 f4 f5 f6))
    go_meet
    obtain ⟨h1, h2, h3⟩ := two_boxes w1 _ _ 35 38
    exact ⟨w1, _, _, rfl, rfl, h1, h2, HT1.out, HX1.out, h3, hb1⟩
  case rest =>
    obtain ⟨w1, cs, ds, rfl, rfl, hbt, hbx, ht, hx, hb, hb0⟩ := hcut
    have hF : Inn (NewB w.heap.size w1.heap.size) w1 := newB_inn _ _
    have HAL0 := Lib.hid (fun (W : World) (h : Below w1.heap.size w1 W) => allP_calls (NewB w.heap.size w1.heap.size) W tab0 world0 cs ds (fun b hb => Nat.lt_of_lt_of_le (hF b hb) h.size) (Holds.tab.keep (fun b hb => h.block b (hF b hb)) (fun _ h => h) ht) (Holds.world.keep (fun b hb => h.block b (hF b hb)) (fun _ h => h) hx) may0.nest may0.few may0.flags may0.pos may0.acts may0.lines)
    have HIS0 := Lib.hid (fun (W : World) (h : Below w1.heap.size w1 W) (c : CmdD) => isP_calls (NewB w.heap.size w1.heap.size) W tab0 world0 cs ds (fun b hb => Nat.lt_of_lt_of_le (hF b hb) h.size) (Holds.tab.keep (fun b hb => h.block b (hF b hb)) (fun _ h => h) ht) (Holds.world.keep (fun b hb => h.block b (hF b hb)) (fun _ h => h) hx) may0.nest may0.few may0.flags may0.pos may0.acts may0.lines c)
    have HLT0 : Hid (∀ W, BoxT W w1.heap.size cs 35 → (Instr.loadAt 35 (.pointer (some ⟨w1.heap.size, 0, none⟩))).run Try.prog W = .ok (.agg cs.toArray) W) := fun W h => by
      obtain ⟨-, -, -, -, -, v4, v6, v7, v8, v9, v10, v11, v12, v13, v14, rfl, -⟩ := ht
      exact run_loadAt_mid W _ 0 35 _ _ h.range Try.underlying35 rfl (by kernel_rfl)
    have HLW0 : Hid (∀ W, BoxT W (w1.heap.size + 1) ds 38 → (Instr.loadAt 38 (.pointer (some ⟨w1.heap.size + 1, 0, none⟩))).run Try.prog W = .ok (.agg ds.toArray) W) := fun W h => by
      obtain ⟨-, -, -, -, -, -, u0, u1, u2, u3, u4, u5, u6, rfl, -⟩ := hx
      exact run_loadAt_mid W _ 0 38 _ _ h.range Try.underlying38 rfl (by kernel_rfl)
    have HXt := Lib.hid hbt; have HXv := Lib.hid hbx; have HBv := Lib.hid hb; have HB0 := Lib.hid hb0
    obtain ⟨TV, hTV⟩ : ∃ v, Value.agg cs.toArray = v := ⟨_, rfl⟩
    obtain ⟨WV, hWV⟩ : ∃ v, Value.agg ds.toArray = v := ⟨_, rfl⟩
    have HAL := Lib.hid HAL0.out; have HIS := Lib.hid HIS0.out; have HLT := Lib.hid HLT0.out; have HLW := Lib.hid HLW0.out
    rw [hWV, hTV, all0] at HAL
    rw [hWV, hTV, all0] at HIS
    rw [hTV] at HLT
    rw [hWV] at HLW
    clear hTV hWV HAL0 HIS0 HLT0 HLW0 hbt hbx hb hb0 ht hx hF HRO
    go_upto_region 3 with (first | ((with_reducible refine wpList_load_T 35 (.tmp 1) ?hw9 ⟨w1.heap.size, 0, none⟩ ?hx9 TV (HLT.out _ HXt.out) ?_); (case hw9 => rfl); (case hx9 => first | rfl | (exact rfl))) | ((with_reducible refine wpList_load_T 38 (.tmp 2) ?hw9 ⟨w1.heap.size + 1, 0, none⟩ ?hx9 WV (HLW.out _ HXv.out) ?_); (case hw9 => rfl); (case hx9 => first | rfl | (exact rfl))) | (go_at_call 10; (with_reducible refine (HAL.out _ HBv.out).mono ?_); rintro e w4 ⟨lv, rfl, ho, hb4⟩))
    have hB4 := btK HBv.out hb4
    have HB4 := Lib.hid hB4
    obtain ⟨va, vc, he, -, -, hel9⟩ := RdL.elem ho.rdl (newB_inn _ w4)
    have he : lv = .slice va 12 vc := he
    subst he
    obtain ⟨b, off, rfl, hel⟩ := hel9 (by decide)
    obtain ⟨x0, -, ⟨-, -, -, -, -, rfl⟩, hr0⟩ := hel 0 (by decide)
    obtain ⟨x1, -, ⟨-, -, -, -, -, rfl⟩, hr1⟩ := hel 1 (by decide)
    obtain ⟨x11, -, ⟨-, -, -, -, -, rfl⟩, hr11⟩ := hel 11 (by decide)
    have hl0 : ∀ W, Below w4.heap.size w4 W → (Instr.loadAt 23 (.pointer (some ⟨b, off + 0 * 5, none⟩))).run Try.prog W = .ok (CmdD.val ⟨0, 0, 0, 0, 1⟩) W := fun W h => run_loadAt_mid W b (off + 0 * 5) 23 _ _ (hr0 W h) Try.underlying23 rfl (by kernel_rfl)
    have hl1 : ∀ W, Below w4.heap.size w4 W → (Instr.loadAt 23 (.pointer (some ⟨b, off + 1 * 5, none⟩))).run Try.prog W = .ok (CmdD.val ⟨0, 0, 0, 0, 2⟩) W := fun W h => run_loadAt_mid W b (off + 1 * 5) 23 _ _ (hr1 W h) Try.underlying23 rfl (by kernel_rfl)
    have hl11 : ∀ W, Below w4.heap.size w4 W → (Instr.loadAt 23 (.pointer (some ⟨b, off + 11 * 5, none⟩))).run Try.prog W = .ok (CmdD.val ⟨0, 0, 0, 0, 12⟩) W := fun W h => run_loadAt_mid W b (off + 11 * 5) 23 _ _ (hr11 W h) Try.underlying23 rfl (by kernel_rfl)
    have G5 := Lib.hid (regrownG (w := w4) (fun W h => HIS.out W (btK HB4.out h) ⟨0, 0, 0, 0, 5⟩))
    have G0 := Lib.hid (regrownG (w := w4) (fun W h => HIS.out W (btK HB4.out h) ⟨0, 0, 0, 0, 0⟩))
    have GL := Lib.hid (regrownG (w := w4) (fun W h => less_calls ⟨0, 0, 0, 0, 1⟩ ⟨0, 0, 0, 0, 2⟩ (by unfold CmdD.Fit I64; decide) (by unfold CmdD.Fit I64; decide) W))
    have q1 := fun W => cmd_eql ⟨0, 0, 0, 0, 1⟩ ⟨0, 0, 0, 0, 1⟩ W
    have q2 := fun W x y => cmd_guard .eql x y ⟨0, 0, 0, 0, 1⟩ ⟨0, 0, 0, 0, 1⟩ W
    have q3 := fun W => cmd_eql ⟨0, 0, 0, 0, 12⟩ ⟨0, 0, 0, 0, 12⟩ W
    have q4 := fun W x y => cmd_guard .eql x y ⟨0, 0, 0, 0, 12⟩ ⟨0, 0, 0, 0, 12⟩ W
    rw [decide_eq_true rfl] at q1 q3
    rw [show decide ((⟨0, 0, 0, 0, 5⟩ : CmdD) ∈ _) = true by decide +kernel] at G5
    rw [show decide ((⟨0, 0, 0, 0, 0⟩ : CmdD) ∈ _) = false by decide +kernel] at G0
    rw [show decide (CmdD.lt ⟨0, 0, 0, 0, 1⟩ ⟨0, 0, 0, 0, 2⟩) = true by decide +kernel] at GL
    dsimp only [CmdD.val] at G5 G0
    obtain ⟨e0, he0⟩ : ∃ v, CmdD.val ⟨0, 0, 0, 0, 1⟩ = v := ⟨_, rfl⟩
    obtain ⟨e1, he1⟩ : ∃ v, CmdD.val ⟨0, 0, 0, 0, 2⟩ = v := ⟨_, rfl⟩
    obtain ⟨e11, he11⟩ : ∃ v, CmdD.val ⟨0, 0, 0, 0, 12⟩ = v := ⟨_, rfl⟩
    have q1' : ∀ W, (binOp .eql 23 e0 (.agg #[.int .i64 0, .int .i64 0, .int .i64 0, .int .i64 0, .int .i64 1])).run Try.prog W = .ok (.bool true) W := he0 ▸ q1
    have q2' : ∀ W x y, (eqGuard .eql 23 x y e0 (.agg #[.int .i64 0, .int .i64 0, .int .i64 0, .int .i64 0, .int .i64 1])).run Try.prog W = .ok () W := he0 ▸ q2
    have q3' : ∀ W, (binOp .eql 23 e11 (.agg #[.int .i64 0, .int .i64 0, .int .i64 0, .int .i64 0, .int .i64 12])).run Try.prog W = .ok (.bool true) W := he11 ▸ q3
    have q4' : ∀ W x y, (eqGuard .eql 23 x y e11 (.agg #[.int .i64 0, .int .i64 0, .int .i64 0, .int .i64 0, .int .i64 12])).run Try.prog W = .ok () W := he11 ▸ q4
    rw [he0] at hl0
    rw [he1] at hl1
    rw [he11] at hl11
    rw [he0, he1] at GL
    clear he0 he1 he11 q1 q2 q3 q4 hr0 hr1 hr11 hel hel9 ho
    have qT : ∀ W, (∃ p : Regrown, W = grow (redrawn w4 p.d) p.os) → (Instr.loadAt 35 (.pointer (some ⟨w1.heap.size, 0, none⟩))).run Try.prog W = .ok TV W := fun W h => HLT.out _ ((HXt.out.below hb4).below (below_of_regrown h))
    have QT := Lib.hid qT
    clear qT
    have qW : ∀ W, (∃ p : Regrown, W = grow (redrawn w4 p.d) p.os) → (Instr.loadAt 38 (.pointer (some ⟨w1.heap.size + 1, 0, none⟩))).run Try.prog W = .ok WV W := fun W h => HLW.out _ ((HXv.out.below hb4).below (below_of_regrown h))
    have QW := Lib.hid qW
    clear qW
    have q0 : ∀ W, (∃ p : Regrown, W = grow (redrawn w4 p.d) p.os) → (Instr.loadAt 23 (.pointer (some ⟨b, off + 0 * 5, none⟩))).run Try.prog W = .ok e0 W := fun W h => hl0 _ (below_of_regrown h)
    have Q0 := Lib.hid q0
    clear q0
    have q1 : ∀ W, (∃ p : Regrown, W = grow (redrawn w4 p.d) p.os) → (Instr.loadAt 23 (.pointer (some ⟨b, off + 1 * 5, none⟩))).run Try.prog W = .ok e1 W := fun W h => hl1 _ (below_of_regrown h)
    have Q1 := Lib.hid q1
    clear q1
    have q11 : ∀ W, (∃ p : Regrown, W = grow (redrawn w4 p.d) p.os) → (Instr.loadAt 23 (.pointer (some ⟨b, off + 11 * 5, none⟩))).run Try.prog W = .ok e11 W := fun W h => hl11 _ (below_of_regrown h)
    have Q11 := Lib.hid q11
    clear q11
    have HE4 := Lib.hid (btK HB0.out (btK HBv.out hb4))
    clear hl0 hl1 hl11 hB4 hb4
    refine wp_region_quiet_below (by kernel_rfl) (by kernel_rfl) ?_
    (try dsimp only [List.append])
    repeat (first | (go_big_quiet_want; (refine quiet_load 35 _ (by rfl) _ (by rfl) TV (fun W hW => QT.out W hW) ?_); simp only [Act.put, List.setIfInBounds_toArray, List.set_cons_succ, List.set_cons_zero]; go_big_quiet_on) | (go_big_quiet_want; (refine quiet_load 38 _ (by rfl) _ (by rfl) WV (fun W hW => QW.out W hW) ?_); simp only [Act.put, List.setIfInBounds_toArray, List.set_cons_succ, List.set_cons_zero]; go_big_quiet_on) | (go_big_quiet_want; (refine quiet_load 23 _ (by rfl) _ (by rfl) e0 (fun W hW => Q0.out W hW) ?_); simp only [Act.put, List.setIfInBounds_toArray, List.set_cons_succ, List.set_cons_zero]; go_big_quiet_on) | (go_big_quiet_want; (refine quiet_load 23 _ (by rfl) _ (by rfl) e1 (fun W hW => Q1.out W hW) ?_); simp only [Act.put, List.setIfInBounds_toArray, List.set_cons_succ, List.set_cons_zero]; go_big_quiet_on) | (go_big_quiet_want; (refine quiet_load 23 _ (by rfl) _ (by rfl) e11 (fun W hW => Q11.out W hW) ?_); simp only [Act.put, List.setIfInBounds_toArray, List.set_cons_succ, List.set_cons_zero]; go_big_quiet_on) | go_big_quiet_step (first | with_reducible exact G5.out _ | with_reducible exact G0.out _ | with_reducible exact GL.out _))
    with_reducible refine wpQuiet_nil ?_
    intro w3 hw3
    have hb3 := below_of_regrown hw3
    clear hw3
    go_wp2
    go_ret
    exact ⟨rfl, btK HE4.out hb3⟩
end Go.Proofs.Ytapjglpiofpbmaa
