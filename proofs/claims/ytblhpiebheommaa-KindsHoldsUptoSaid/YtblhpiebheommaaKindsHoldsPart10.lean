/- A slice of expressions or statements that a call has made for itself, read as the walks read one; and one more element of it. -/
import Derived.Test.YtblhpiebheommaaKindsHoldsPart2
import Derived.BigQuiet
import Derived.Deep.QuietTactic
namespace Go.Proofs.Ytblhpiebheommaa
open Go.RowKit

theorem own_cell {te sz lo : Nat} {w : World} {n : Nat} {ys : List Value} {g cap : Nat} (h : w.ownsRow lo te sz (.slice (some ⟨g, 0, none⟩) n cap) n ys) (i : Nat) (hi : i < n * sz) : w.cell? ⟨g, i, none⟩ = some (ys.getD i undef) := by
  have := h.cells (g := g) rfl i (ys.getD i undef) (by rw [List.getD_eq_getElem?_getD, List.getElem?_eq_getElem (by rw [h.1]; exact hi)]; rfl)
  have ha : (⟨g, 0, none⟩ : Addr).add i = ⟨g, i, none⟩ := by unfold Addr.add; split <;> simp_all
  rwa [ha] at this

theorem getD_drop (ys : List Value) (a j : Nat) : ys.getD (a + j) undef = (ys.drop a).getD j undef := by
  rw [List.getD_eq_getElem?_getD, List.getD_eq_getElem?_getD, List.getElem?_drop]

theorem cellsAt_five {ys : List Value} {i n : Nat} (hy : ys.length = n * 5) (hi : i < n) : cellsAt 5 ys i = [ys.getD (i * 5 + 0) undef, ys.getD (i * 5 + 1) undef, ys.getD (i * 5 + 2) undef, ys.getD (i * 5 + 3) undef, ys.getD (i * 5 + 4) undef] := by
  simp only [getD_drop]
  unfold cellsAt
  have hl : 5 ≤ (ys.drop (i * 5)).length := by rw [List.length_drop, hy]; omega
  match ys.drop (i * 5), hl with
  | a :: b :: c :: d :: e :: r, _ => rfl
theorem cellsAt_six {ys : List Value} {i n : Nat} (hy : ys.length = n * 6) (hi : i < n) : cellsAt 6 ys i = [ys.getD (i * 6 + 0) undef, ys.getD (i * 6 + 1) undef, ys.getD (i * 6 + 2) undef, ys.getD (i * 6 + 3) undef, ys.getD (i * 6 + 4) undef, ys.getD (i * 6 + 5) undef] := by
  simp only [getD_drop]
  unfold cellsAt
  have hl : 6 ≤ (ys.drop (i * 6)).length := by rw [List.length_drop, hy]; omega
  match ys.drop (i * 6), hl with
  | a :: b :: c :: d :: e :: f :: r, _ => rfl

section
variable {te lo : Nat} {w : World} {v : Value}
theorem OwnR.sl {α : Type} {R : Holds α} {sz : Nat} {xs : List α} (h : OwnR R te sz lo w xs v) : ∃ ys : List Value, ys.length = xs.length * sz ∧ SlAt (NewB lo w.heap.size) w sz v xs.length (fun i j => ys.getD (i * sz + j) undef) ∧ ∀ i (h : i < xs.length), R.R (NewB lo w.heap.size) w xs[i] (cellsAt sz ys i) := by
  obtain ⟨ys, G, h1, h2, h3⟩ := h
  refine ⟨ys, h1.1, ?_, fun i hi => R.keep (fun _ _ => rfl) (fun b hb => ⟨(h2 b hb).1, (h2 b hb).2.1⟩) (h3 i hi)⟩
  rcases h1.2 with ⟨rfl, h0⟩ | ⟨g, cap, cur, rfl, hg, hb, hn, hc, _⟩
  · exact ⟨none, 0, by rw [h0], by omega, by unfold maxLen; omega, fun h => absurd h (by omega)⟩
  · refine ⟨_, _, rfl, hn, hc, fun h0 => ⟨g, 0, rfl, ⟨hg, (Array.getElem?_eq_some_iff.1 hb).1⟩, fun i hi j hj => ?_⟩⟩
    have hlt : i * sz + j < xs.length * sz := by
      have := Nat.mul_le_mul_right sz (show i + 1 ≤ xs.length from hi)
      rw [Nat.add_mul] at this; omega
    have := own_cell h1 (i * sz + j) hlt
    rw [show 0 + i * sz + j = i * sz + j by omega]
    exact this

theorem OwnR.exs {xs : List Ex} (h : OwnR Holds.ex te 5 lo w xs v) : Exs (NewB lo w.heap.size) w xs v := by
  obtain ⟨ys, hy, h1, h2⟩ := h.sl
  refine ⟨_, h1, RdRow.of fun i hi => ?_⟩
  have := h2 i hi
  rw [cellsAt_five hy hi] at this
  exact this
theorem OwnR.sts {xs : List St} (h : OwnR Holds.st te 6 lo w xs v) : Sts (NewB lo w.heap.size) w xs v := by
  obtain ⟨ys, hy, h1, h2⟩ := h.sl
  refine ⟨_, h1, RdSts.of fun i hi => ?_⟩
  have := h2 i hi
  rw [cellsAt_six hy hi] at this
  exact this
end

/-- A round that makes an element in new memory (from wr to w1), lays its cells into a block of their own and appends it. -/
theorem OwnR.round {α : Type} {R : Holds α} {te sz lo s : Nat} {w0 wr w1 w2 : World} {xs : List α} {x : α} {cs ys : List Value} {v v' : Value} {o : Obj} (hown : OwnR R te sz lo wr xs v) (hb : Below wr.heap.size wr w1) (hB : Below lo w0 wr) (hlo : lo ≤ wr.heap.size)
    (hys : (w1.alloc o).ownsRow lo te sz v xs.length ys) (hs : wr.heap.size ≤ s) (hcs : R.R (NewB s w1.heap.size) w1 x cs) (hn : cs.length = sz) (hown' : w2.ownsRow lo te sz v' (xs.length + 1) (ys ++ cs)) (hg : (w1.alloc o).grownBy w2 v.ownBlock)
    (hat : v'.ownBlock = v.ownBlock ∨ v'.ownBlock = some (w1.alloc o).heap.size) : OwnR R te sz lo w2 (xs ++ [x]) v' ∧ Below lo w0 w2 := by
  obtain ⟨ys0, hys0⟩ := hown.owns
  have hin := ownsRow_in hys0
  have hz := hb.size
  refine ⟨OwnR.push ((hown.below hb).below ((Below.refl _ w1).alloc (Nat.le_refl _) _)) hys hown' hn hg hat (G2 := NewB s w1.heap.size) (fun b hb' => ⟨by have := hb'.1; omega, by have := hb'.2; simp; omega, fun e => by have := hb'.1; have := (hin b e).2; omega⟩) (R.keep (fun b hb' => ?_) (fun _ h => h) hcs), ?_⟩
  · have := hb'.2
    exact ((Below.refl w1.heap.size w1).alloc (Nat.le_refl _) o).block b this
  · exact ((hB.trans (hb.mono hlo)).alloc (by omega) o).grown hg (by simp; omega) (fun b e => (hin b e).1)

/-- A round that appends what lies in memory that was made in it. -/
theorem OwnR.roundMany {α : Type} {R : Holds α} {te sz lo s : Nat} {w0 wr w1 w2 : World} {xs zs : List α} {ns ys : List Value} {v v' : Value} (hown : OwnR R te sz lo wr xs v) (hb : Below wr.heap.size wr w1) (hB : Below lo w0 wr) (hlo : lo ≤ wr.heap.size)
    (hys : w1.ownsRow lo te sz v xs.length ys) (hs : wr.heap.size ≤ s) (hz : ∀ i (h : i < zs.length), R.R (NewB s w1.heap.size) w1 zs[i] (cellsAt sz ns i)) (hn : ns.length = zs.length * sz) (hown' : w2.ownsRow lo te sz v' (xs.length + zs.length) (ys ++ ns)) (hg : w1.grownBy w2 v.ownBlock)
    (hat : v'.ownBlock = v.ownBlock ∨ v'.ownBlock = some w1.heap.size) : OwnR R te sz lo w2 (xs ++ zs) v' ∧ Below lo w0 w2 := by
  obtain ⟨ys0, hys0⟩ := hown.owns
  have hin := ownsRow_in hys0
  have hz' := hb.size
  refine ⟨OwnR.many (hown.below hb) hys hown' hn hg hat (G2 := NewB s w1.heap.size) (fun b hb' => ⟨by have := hb'.1; omega, hb'.2, fun e => by have := hb'.1; have := (hin b e).2; omega⟩) hz, ?_⟩
  exact (hB.trans (hb.mono hlo)).grown hg (by omega) (fun b e => (hin b e).1)

theorem cellsAt_map (sz n : Nat) (c : Nat → Nat → Value) (i : Nat) (hi : i < n) (hsz : 0 < sz) : cellsAt sz ((List.range (n * sz)).map fun j => c (j / sz) (j % sz)) i = (List.range sz).map (c i) := by
  have hle : i * sz + sz ≤ n * sz := by rw [← Nat.succ_mul]; exact Nat.mul_le_mul_right _ hi
  apply List.ext_getElem?
  intro j
  unfold cellsAt
  by_cases hj : j < sz
  · rw [List.getElem?_take_of_lt hj, List.getElem?_drop, List.getElem?_map, List.getElem?_range (by omega), List.getElem?_map, List.getElem?_range hj]
    simp only [Option.map_some]
    have e1 : (i * sz + j) / sz = i := by rw [Nat.mul_comm, Nat.mul_add_div hsz, Nat.div_eq_of_lt hj, Nat.add_zero]
    have e2 : (i * sz + j) % sz = j := by rw [Nat.mul_comm, Nat.mul_add_mod]; exact Nat.mod_eq_of_lt hj
    rw [e1, e2]
  · rw [List.getElem?_eq_none (by simp; omega), List.getElem?_eq_none (by simp; omega)]

/-- The cells of a slice of statements. -/
theorem Sts.news {F : Nat → Prop} {w : World} {l : List St} {b off n cap : Nat} (h : Sts F w l (.slice (some ⟨b, off, none⟩) n cap)) :
    ∃ ns : List Value, ns.length = l.length * 6 ∧ (∀ j u, ns[j]? = some u → w.cell? ((⟨b, off, none⟩ : Addr).add j) = some u) ∧ (∀ u ∈ ns, u.oneCell' = true) ∧ ∀ i (h : i < l.length), RdSt F w l[i] (cellsAt 6 ns i) := by
  obtain ⟨c, ⟨a', cap', he, h1, h2, h3⟩, hrow⟩ := h
  simp only [Value.slice.injEq] at he
  obtain ⟨rfl, rfl, rfl⟩ := he
  have hcell : ∀ i, i < l.length → ∀ j, j < 6 → w.cell? ⟨b, off + i * 6 + j, none⟩ = some (c i j) := by
    intro i hi
    obtain ⟨b', off', e, _, hc⟩ := h3 (by omega)
    cases e
    exact hc i hi
  refine ⟨(List.range (l.length * 6)).map fun j => c (j / 6) (j % 6), by simp, fun j u hj => ?_, fun u hu => ?_, fun i hi => ?_⟩
  · have hlt : j < l.length * 6 := by
      have := (List.getElem?_eq_some_iff.1 hj).1; simpa using this
    rw [List.getElem?_map, List.getElem?_range hlt] at hj
    simp only [Option.map_some, Option.some.injEq] at hj
    have ha : (⟨b, off, none⟩ : Addr).add j = ⟨b, off + j, none⟩ := by unfold Addr.add; split <;> simp_all
    rw [ha, ← hj]
    have := hcell (j / 6) (by omega) (j % 6) (by omega)
    rw [show off + j / 6 * 6 + j % 6 = off + j by omega] at this
    exact this
  · obtain ⟨j, hj, rfl⟩ := List.mem_map.1 hu
    have hlt : j < l.length * 6 := by simpa using hj
    have hx := hrow.get (j / 6) (by omega)
    obtain ⟨_, _, _, _, _, _, _, _, _, _, _, _, e⟩ := hx.shape
    simp only [List.cons.injEq, and_true] at e
    obtain ⟨e0, e1, e2, e3, e4, e5⟩ := e
    have h6 : j % 6 = 0 ∨ j % 6 = 1 ∨ j % 6 = 2 ∨ j % 6 = 3 ∨ j % 6 = 4 ∨ j % 6 = 5 := by omega
    rcases h6 with h | h | h | h | h | h <;> rw [h]
    · rw [e0]; rfl
    · rw [e1]; rfl
    · rw [e2]; rfl
    · rw [e3]; rfl
    · rw [e4]; rfl
    · rw [e5]; rfl
  · rw [cellsAt_map 6 l.length c i hi (by omega)]
    exact hrow.get i hi

/-- A slice is nil, or begins somewhere. -/
def ProperSl (v : Value) : Prop := v = .slice none 0 0 ∨ ∃ b off n c, v = .slice (some ⟨b, off, none⟩) n c
theorem OwnR.proper {α : Type} {R : Holds α} {te sz lo : Nat} {w : World} {xs : List α} {v : Value} (h : OwnR R te sz lo w xs v) : ProperSl v := by
  obtain ⟨ys, G, h1, _⟩ := h
  rcases h1.2 with ⟨rfl, _⟩ | ⟨g, cap, cur, rfl, _⟩
  · exact .inl rfl
  · exact .inr ⟨_, _, _, _, rfl⟩

/-- A call that hands back an expression in new memory. -/
def GivesEx (w : World) (x : Ex) (e : Ending) (w' : World) : Prop := ∃ cs : List Value, e = .returned (.agg cs.toArray) ∧ RdEx (NewB w.heap.size w'.heap.size) w' x cs ∧ Below w.heap.size w w'
/-- A call that hands back a slice of expressions in new memory. -/
def GivesExs (w : World) (xs : List Ex) (e : Ending) (w' : World) : Prop := ∃ v : Value, e = .returned v ∧ Exs (NewB w.heap.size w'.heap.size) w' xs v ∧ Below w.heap.size w w'
def GivesSts (w : World) (xs : List St) (e : Ending) (w' : World) : Prop := ∃ v : Value, e = .returned v ∧ Sts (NewB w.heap.size w'.heap.size) w' xs v ∧ Below w.heap.size w w' ∧ ProperSl v

end Go.Proofs.Ytblhpiebheommaa
/- Cells that hold what they hold, carried from world to world. No program in sight. -/
namespace Go.Proofs.Ytblhpiebheommaa
open Go.RowKit

/-- These cells hold these values. -/
def CA (W : World) : List (Addr × Value) → Prop
  | [] => True
  | p :: l => (p.1.block < W.heap.size ∧ W.cell? p.1 = some p.2) ∧ CA W l
/-- These cells may be written. -/
def FA (W : World) : List Addr → Prop
  | [] => True
  | p :: l => (p.block < W.heap.size ∧ ∃ v, W.cell? p = some v ∧ W.frozen? p = false) ∧ FA W l

theorem CA.below {W W' : World} (hb : Below W.heap.size W W') : ∀ {l : List (Addr × Value)}, CA W l → CA W' l
  | [], _ => trivial
  | _ :: _, h => ⟨⟨Nat.lt_of_lt_of_le h.1.1 hb.size, by rw [hb.cell h.1.1]; exact h.1.2⟩, CA.below hb h.2⟩
theorem FA.below {W W' : World} (hb : Below W.heap.size W W') : ∀ {l : List Addr}, FA W l → FA W' l
  | [], _ => trivial
  | _ :: _, h => ⟨⟨Nat.lt_of_lt_of_le h.1.1 hb.size, by obtain ⟨v, h1, h2⟩ := h.1.2; exact ⟨v, by rw [hb.cell h.1.1]; exact h1, by rw [hb.frozen h.1.1]; exact h2⟩⟩, FA.below hb h.2⟩

abbrev five (b off : Nat) (v0 v1 v2 v3 v4 : Value) : List (Addr × Value) := [(⟨b, off, none⟩, v0), (⟨b, off + 1, none⟩, v1), (⟨b, off + 2, none⟩, v2), (⟨b, off + 3, none⟩, v3), (⟨b, off + 4, none⟩, v4)]

theorem below_drewN {B : Nat} {a w : World} (h : Below B a w) (n : Nat) : Below B a (w.drewN n) := h.trans ⟨rfl, rfl, rfl, Nat.le_refl _, fun _ _ => rfl⟩
end Go.Proofs.Ytblhpiebheommaa
