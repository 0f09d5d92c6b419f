/- What folding makes of expressions: plain data, no program in sight. -/
import Derived.Test.YtimdnamhccipjaaNumB
namespace Go.Proofs.Ytimdnamhccipjaa
open Go.RowKit

/-- A number zs an expression. -/
def numE (n : Int) : Ex := .mk 1 0 n ⟨#[]⟩ []

/-- What is made of an expression whose Args are folded. -/
def foldTop (k o n : Int) (s : ByteArray) : List Ex → Ex
  | [x] => if x.kind = 1 ∧ k = 4 then numE (wr (-(wr x.num))) else if x.kind = 1 ∧ k = 5 then numE (bitI (wr x.num == 0)) else .mk k o n s [x]
  | [x, y] => if k = 6 ∧ x.kind = 1 then
        (if o = 2 ∧ wr x.num = 0 then numE 0 else if o = 1 ∧ wr x.num ≠ 0 then numE 1 else if y.kind = 1 ∧ (binV o x.num y.num).2 = true then numE (binV o x.num y.num).1 else .mk k o n s [x, y])
      else .mk k o n s [x, y]
  | zs => .mk k o n s zs

mutual
def Ex.fold : Ex → Ex
  | .mk k o n s args => foldTop k o n s (Ex.folds args)
def Ex.folds : List Ex → List Ex
  | [] => []
  | e :: l => e.fold :: Ex.folds l
end

theorem Ex.folds_eq (l : List Ex) : Ex.folds l = l.map Ex.fold := by
  induction l with
  | nil => rfl
  | cons e l ih => simp [Ex.folds, ih]
theorem Ex.folds_length (l : List Ex) : (Ex.folds l).length = l.length := by rw [Ex.folds_eq]; simp

mutual
/-- What folding asks of an expression. -/
def Ex.shp : Ex → Prop
  | .mk k _ n _ args => (k = 4 ∨ k = 5 → args.length = 1) ∧ (k = 6 → args.length = 2) ∧ (k = 1 → args = [] ∧ -32768 ≤ n ∧ n ≤ 32767) ∧ args.length ≤ 2199023255488 ∧ Ex.shps args
def Ex.shps : List Ex → Prop
  | [] => True
  | e :: l => e.shp ∧ Ex.shps l
end
theorem Ex.shps_mem {l : List Ex} (h : Ex.shps l) : ∀ x ∈ l, x.shp := by
  induction l with
  | nil => intro x hx; cases hx
  | cons e l ih =>
    intro x hx
    rcases List.mem_cons.1 hx with rfl | hx
    · exact h.1
    · exact ih h.2 x hx
theorem Ex.shps_of {l : List Ex} (h : ∀ x ∈ l, x.shp) : Ex.shps l := by
  induction l with
  | nil => trivial
  | cons e l ih => exact ⟨h e (by simp), ih fun x hx => h x (by simp [hx])⟩

theorem numE_shp {n : Int} (h : -32768 ≤ n ∧ n ≤ 32767) : (numE n).shp := by simp [numE, Ex.shp, Ex.shps, h]
theorem bitI_in (b : Bool) : -32768 ≤ bitI b ∧ bitI b ≤ 32767 := by unfold bitI; split <;> omega
def InR {α : Type} (x : Int × α) : Prop := -32768 ≤ x.1 ∧ x.1 ≤ 32767
theorem divV_in (a b : Int) : InR (divV a b) := by
  unfold divV
  split
  · exact ⟨by simp, by simp⟩
  · exact wr_range _
theorem modV_in (a b : Int) : InR (modV a b) := by
  unfold modV
  split
  · exact ⟨by simp, by simp⟩
  · exact tmod_in (wr_range _)
theorem ite_in {α : Type} {c : Prop} [Decidable c] {x y : Int × α} (h1 : InR x) (h2 : InR y) : InR (if c then x else y) := by
  by_cases h : c
  · rw [if_pos h]; exact h1
  · rw [if_neg h]; exact h2
theorem binV_in (op a b : Int) : InR (binV op a b) := by
  unfold binV
  exact ite_in (bitI_in _) (ite_in (bitI_in _) (ite_in (bitI_in _) (ite_in (bitI_in _) (ite_in (bitI_in _) (ite_in (bitI_in _) (ite_in (bitI_in _) (ite_in (bitI_in _) (ite_in (wr_range _) (ite_in (wr_range _) (ite_in (wr_range _) (ite_in (divV_in a b) (ite_in (modV_in a b) ⟨by simp, by simp⟩))))))))))))

theorem foldTop_or (k o n : Int) (s : ByteArray) (zs : List Ex) : (∃ m, (-32768 ≤ m ∧ m ≤ 32767) ∧ foldTop k o n s zs = numE m) ∨ foldTop k o n s zs = .mk k o n s zs := by
  unfold foldTop
  repeat' split
  all_goals first | exact .inr rfl | exact .inl ⟨_, wr_range _, rfl⟩ | exact .inl ⟨_, bitI_in _, rfl⟩ | exact .inl ⟨_, binV_in _ _ _, rfl⟩ | exact .inl ⟨0, by omega, rfl⟩ | exact .inl ⟨1, by omega, rfl⟩

theorem foldTop_shp {k o n : Int} {s : ByteArray} {zs : List Ex} (h : (Ex.mk k o n s zs).shp) : (foldTop k o n s zs).shp := by
  rcases foldTop_or k o n s zs with ⟨m, hm, e⟩ | e
  · rw [e]; exact numE_shp hm
  · rw [e]; exact h

theorem Ex.fold_shp (e : Ex) : e.shp → e.fold.shp := by
  induction e using Ex.ind with
  | h k o n s args ih =>
    intro h
    simp only [Ex.fold]
    refine foldTop_shp ?_
    obtain ⟨h1, h2, h3, h5, h4⟩ := h
    refine ⟨by rwa [Ex.folds_length], by rwa [Ex.folds_length], fun hk => ⟨by rw [(h3 hk).1]; rfl, (h3 hk).2⟩, by rwa [Ex.folds_length], ?_⟩
    rw [Ex.folds_eq]
    refine Ex.shps_of fun x hx => ?_
    obtain ⟨y, hy, rfl⟩ := List.mem_map.1 hx
    exact ih y hy (Ex.shps_mem h4 y hy)

theorem shp_num {e : Ex} (h : e.shp) (hk : e.kind = 1) : -32768 ≤ e.num ∧ e.num ≤ 32767 := by
  obtain ⟨k', o', n', s', as'⟩ := e
  exact (h.2.2.1 hk).2

theorem foldTop_size (k o n : Int) (s : ByteArray) (zs : List Ex) : (foldTop k o n s zs).size ≤ (Ex.mk k o n s zs).size := by
  rcases foldTop_or k o n s zs with ⟨m, hm, e⟩ | e
  · rw [e]; simp [numE, Ex.size, Ex.sizes]
  · rw [e]; exact Nat.le_refl _

mutual
theorem Ex.fold_size : ∀ e : Ex, e.fold.size ≤ e.size
  | .mk k o n s args => by
    have h1 := Ex.folds_size args
    have h2 := foldTop_size k o n s (Ex.folds args)
    simp only [Ex.fold, Ex.size] at *
    omega
theorem Ex.folds_size : ∀ l : List Ex, Ex.sizes (Ex.folds l) ≤ Ex.sizes l
  | [] => by simp [Ex.folds]
  | e :: l => by
    have h1 := Ex.fold_size e
    have h2 := Ex.folds_size l
    simp only [Ex.folds, Ex.sizes]; omega
end

/-- What is folded is folded no further. -/
theorem foldTop_again {k o n : Int} {s : ByteArray} {zs : List Ex} (has : Ex.folds zs = zs) : (foldTop k o n s zs).fold = foldTop k o n s zs := by
  rcases foldTop_or k o n s zs with ⟨m, hm, e⟩ | e
  · rw [e]; rfl
  · rw [e]; simp only [Ex.fold]; rw [has, e]

theorem Ex.fold_fold (e : Ex) : e.fold.fold = e.fold := by
  induction e using Ex.ind with
  | h k o n s args ih =>
    simp only [Ex.fold]
    refine foldTop_again ?_
    rw [Ex.folds_eq, Ex.folds_eq, List.map_map]
    exact List.map_congr_left fun x hx => ih x hx

end Go.Proofs.Ytimdnamhccipjaa
