/- What folding makes of statements: plain data, no program in sight. -/
import Derived.Test.YtimdnamhccipjaaFoldData
namespace Go.Proofs.Ytimdnamhccipjaa
open Go.RowKit

/-- The number that an expression is. -/
def knownNum : List Ex → Option Int
  | [x] => if x.kind = 1 then some (wr x.num) else none
  | _ => none

/-- What comes behind out for a statement whose parts are folded; rest: how many come behind it. -/
def foldStep (out : List St) (s : St) (rest : Nat) : List St :=
  match knownNum s.args with
  | none => out ++ [s]
  | some n =>
    if s.kind = 10 then (if n = 0 then out else out ++ [s])
    else if s.kind = 9 then
      (if out.length + (if n = 0 then s.els else s.body).length + rest ≤ 256 then out ++ (if n = 0 then s.els else s.body) else out ++ [s])
    else out ++ [s]

mutual
/-- A statement, its parts folded. -/
def St.fold : St → St
  | .mk k n s args body els => .mk k n s (Ex.folds args) (St.folds body []) (St.folds els [])
/-- Statements, folded, behind others. -/
def St.folds : List St → List St → List St
  | [], out => out
  | s :: l, out => St.folds l (foldStep out s.fold l.length)
end

theorem St.folds_drop (l : List St) (k : Nat) (h : k < l.length) (out : List St) : St.folds (l.drop k) out = St.folds (l.drop (k + 1)) (foldStep out (l[k]).fold (l.length - k - 1)) := by
  rw [List.drop_eq_getElem_cons h]
  simp only [St.folds, List.length_drop]
  congr 2

theorem St.sizes_append (a b : List St) : St.sizes (a ++ b) = St.sizes a + St.sizes b := by
  induction a with
  | nil => simp [St.sizes]
  | cons x a ih => simp only [List.cons_append, St.sizes, ih]; omega

theorem foldStep_sizes (out : List St) (s : St) (rest : Nat) : St.sizes (foldStep out s rest) ≤ St.sizes out + s.size := by
  have h := St.size_eq s
  unfold foldStep
  repeat' split
  all_goals (first | rw [St.sizes_append] | skip)
  all_goals (try simp only [St.sizes])
  all_goals omega

mutual
theorem St.fold_size : ∀ s : St, s.fold.size ≤ s.size
  | .mk k n s args body els => by
    have h1 := St.folds_sizes body []
    have h2 := St.folds_sizes els []
    simp only [St.fold, St.size, St.sizes] at *
    omega
theorem St.folds_sizes : ∀ (l out : List St), St.sizes (St.folds l out) ≤ St.sizes out + St.sizes l
  | [], out => by simp [St.folds, St.sizes]
  | s :: l, out => by
    have h1 := St.folds_sizes l (foldStep out s.fold l.length)
    have h2 := foldStep_sizes out s.fold l.length
    have h3 := St.fold_size s
    simp only [St.folds, St.sizes]
    omega
end

theorem foldStep_len (out : List St) (s : St) (rest : Nat) (h : out.length + 1 + rest ≤ 256) : (foldStep out s rest).length + rest ≤ 256 := by
  unfold foldStep
  repeat' split
  all_goals (try simp only [List.length_append, List.length_singleton])
  all_goals omega

theorem St.folds_len : ∀ (l out : List St), out.length + l.length ≤ 256 → (St.folds l out).length ≤ 256
  | [], out, h => by simpa [St.folds] using h
  | s :: l, out, h => by
    simp only [St.folds]
    exact St.folds_len l _ (foldStep_len out s.fold l.length (by simp at h; omega))

mutual
/-- What folding asks of a statement. -/
def St.shp : St → Prop
  | .mk _ _ _ args body els => Ex.shps args ∧ args.length ≤ 2199023255488 ∧ body.length ≤ 256 ∧ els.length ≤ 256 ∧ St.shps body ∧ St.shps els
def St.shps : List St → Prop
  | [] => True
  | s :: l => s.shp ∧ St.shps l
end
theorem St.shps_mem {l : List St} (h : St.shps l) : ∀ x ∈ l, x.shp := by
  induction l with
  | nil => intro x hx; cases hx
  | cons e l ih =>
    intro x hx
    rcases List.mem_cons.1 hx with rfl | hx
    · exact h.1
    · exact ih h.2 x hx
theorem St.shps_of {l : List St} (h : ∀ x ∈ l, x.shp) : St.shps l := by
  induction l with
  | nil => trivial
  | cons e l ih => exact ⟨h e (by simp), ih fun x hx => h x (by simp [hx])⟩
theorem St.shp_parts {s : St} (h : s.shp) : Ex.shps s.args ∧ s.args.length ≤ 2199023255488 ∧ s.body.length ≤ 256 ∧ s.els.length ≤ 256 ∧ St.shps s.body ∧ St.shps s.els := by
  obtain ⟨_, _, _, _, _, _⟩ := s; exact h

theorem Ex.folds_shps {l : List Ex} (h : Ex.shps l) : Ex.shps (Ex.folds l) := by
  rw [Ex.folds_eq]
  refine Ex.shps_of fun x hx => ?_
  obtain ⟨y, hy, rfl⟩ := List.mem_map.1 hx
  exact y.fold_shp (Ex.shps_mem h y hy)

theorem foldStep_shps {out : List St} {s : St} {rest : Nat} (h : St.shps out) (hs : s.shp) : St.shps (foldStep out s rest) := by
  have hp := St.shp_parts hs
  have ha : ∀ l, St.shps l → St.shps (out ++ l) := fun l hl => St.shps_of fun x hx => by
    rcases List.mem_append.1 hx with hx | hx
    · exact St.shps_mem h x hx
    · exact St.shps_mem hl x hx
  have h1 : St.shps [s] := ⟨hs, trivial⟩
  unfold foldStep
  repeat' split
  all_goals first | exact h | exact ha _ h1 | exact ha _ hp.2.2.2.2.1 | exact ha _ hp.2.2.2.2.2

mutual
theorem St.fold_shp : ∀ s : St, s.shp → s.fold.shp
  | .mk _ _ _ _ body els, h => ⟨Ex.folds_shps h.1, by rw [Ex.folds_length]; exact h.2.1, St.folds_len _ _ (by simpa using h.2.2.1), St.folds_len _ _ (by simpa using h.2.2.2.1), St.folds_shps body [] h.2.2.2.2.1 trivial, St.folds_shps els [] h.2.2.2.2.2 trivial⟩
theorem St.folds_shps : ∀ (l out : List St), St.shps l → St.shps out → St.shps (St.folds l out)
  | [], _, _, h => h
  | s :: l, _, h, ho => St.folds_shps l _ h.2 (foldStep_shps ho (St.fold_shp s h.1))
end

theorem St.fold_parts (s : St) : s.fold.kind = s.kind ∧ s.fold.num = s.num ∧ s.fold.name = s.name ∧ s.fold.args = Ex.folds s.args ∧ s.fold.body = St.folds s.body [] ∧ s.fold.els = St.folds s.els [] := by
  obtain ⟨_, _, _, _, _, _⟩ := s; exact ⟨rfl, rfl, rfl, rfl, rfl, rfl⟩

/-- A statement stays, or something is chosen in its place. -/
theorem foldStep_keep {out : List St} {s : St} {rest : Nat} (h : knownNum s.args = none ∨ (s.kind ≠ 9 ∧ s.kind ≠ 10)) : foldStep out s rest = out ++ [s] := by
  unfold foldStep
  rcases h with h | ⟨h1, h2⟩
  · rw [h]
  · split
    · rfl
    · rw [if_neg h2, if_neg h1]
theorem foldStep_while {out : List St} {s : St} {rest : Nat} {n : Int} (h : knownNum s.args = some n) (hk : s.kind = 10) : foldStep out s rest = if n = 0 then out else out ++ [s] := by
  unfold foldStep
  rw [h]
  simp [hk]
theorem foldStep_if {out : List St} {s : St} {rest : Nat} {n : Int} (h : knownNum s.args = some n) (hk : s.kind = 9) :
    foldStep out s rest = if out.length + (if n = 0 then s.els else s.body).length + rest ≤ 256 then out ++ (if n = 0 then s.els else s.body) else out ++ [s] := by
  unfold foldStep
  rw [h]
  simp [hk]

end Go.Proofs.Ytimdnamhccipjaa
