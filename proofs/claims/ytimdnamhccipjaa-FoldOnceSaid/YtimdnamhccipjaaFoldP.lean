/- Plain laws of folding: what may be in a book is what folding asks for; what is folded is folded no further, but where an if has stayed. -/
import Derived.Test.YtimdnamhccipjaaFoldL
import Derived.Test.YtimdnamhccipjaaFoldS
namespace Go.Proofs.Ytimdnamhccipjaa
open Go.RowKit Go.Sort

mutual
theorem Ex.shp_of : ∀ e : Ex, e.bsh → e.fit → e.shp
  | .mk k o n s args, h, hf => by
    obtain ⟨⟨h1, h2, h3⟩, h4⟩ := h
    refine ⟨h1, h2, fun hk => ⟨List.eq_nil_of_length_eq_zero (h3 hk).1, (h3 hk).2⟩, hf.1, Ex.shps_ofs args h4 hf.2⟩
theorem Ex.shps_ofs : ∀ l : List Ex, Ex.bshs l → Ex.fits l → Ex.shps l
  | [], _, _ => trivial
  | e :: l, h, hf => ⟨Ex.shp_of e h.1 hf.1, Ex.shps_ofs l h.2 hf.2⟩
end
mutual
theorem St.shp_of : ∀ e : St, e.bsh → e.fit → e.shp
  | .mk _ _ _ args body els, h, hf => ⟨Ex.shps_ofs args h.1 hf.2.1, hf.1, h.2.1.1, h.2.2.1, St.shps_ofs body h.2.1.2 hf.2.2.1, St.shps_ofs els h.2.2.2 hf.2.2.2⟩
theorem St.shps_ofs : ∀ l : List St, St.bshs l → St.fits l → St.shps l
  | [], _, _ => trivial
  | e :: l, h, hf => ⟨St.shp_of e h.1 hf.1, St.shps_ofs l h.2 hf.2⟩
end

mutual
/-- What folding leaves. -/
def St.fd : St → Prop
  | .mk k _ _ args body els => Ex.folds args = args ∧ ¬ (k = 10 ∧ knownNum args = some 0) ∧ St.fds body ∧ St.fds els
def St.fds : List St → Prop
  | [] => True
  | s :: l => s.fd ∧ St.fds l
end
theorem St.fds_append {a b : List St} (ha : St.fds a) (hb : St.fds b) : St.fds (a ++ b) := by
  induction a with
  | nil => exact hb
  | cons s a ih => exact ⟨ha.1, ih ha.2⟩

theorem foldStep_fds {out : List St} {s : St} {rest : Nat} (ho : St.fds out) (ha : Ex.folds s.args = s.args) (hb : St.fds s.body) (he : St.fds s.els) : St.fds (foldStep out s rest) := by
  have hs : ¬ (s.kind = 10 ∧ knownNum s.args = some 0) → St.fds (out ++ [s]) := fun h => St.fds_append ho ⟨by obtain ⟨_, _, _, _, _, _⟩ := s; exact ⟨ha, h, hb, he⟩, trivial⟩
  unfold foldStep
  split
  · rename_i hk
    exact hs (fun h => by rw [hk] at h; cases h.2)
  · rename_i n hk
    split
    · split
      · exact ho
      · rename_i hn
        exact hs (fun h => by rw [hk] at h; exact hn (by injection h.2))
    · rename_i h10
      have hc : St.fds (if n = 0 then s.els else s.body) := by
        split
        · exact he
        · exact hb
      generalize (if n = 0 then s.els else s.body) = ch at *
      split
      · split
        · exact St.fds_append ho hc
        · exact hs (fun h => h10 h.1)
      · exact hs (fun h => h10 h.1)

theorem Ex.folds_folds (l : List Ex) : Ex.folds (Ex.folds l) = Ex.folds l := by
  rw [Ex.folds_eq, Ex.folds_eq, List.map_map]
  exact List.map_congr_left fun x _ => x.fold_fold

theorem St.folds_fds : ∀ l out : List St, St.fds out → St.fds (St.folds l out) := by
  have key : ∀ l : List St, ∀ out, St.fds out → St.fds (St.folds l out) := by
    refine blocks_ind fun l ih => ?_
    induction l with
    | nil => intro out h; exact h
    | cons s l ihl =>
      intro out ho
      simp only [St.folds]
      refine ihl (fun x hx => ih x (by simp [hx])) _ (foldStep_fds ho ?_ ?_ ?_)
      · rw [s.fold_parts.2.2.2.1]; exact Ex.folds_folds _
      · rw [s.fold_parts.2.2.2.2.1]; exact (ih s (by simp)).1 [] trivial
      · rw [s.fold_parts.2.2.2.2.2]; exact (ih s (by simp)).2 [] trivial
  exact key

theorem knownNum_some {l : List Ex} {n : Int} (h : knownNum l = some n) : ∃ x, l = [x] ∧ x.kind = 1 := by
  match l with
  | [] => cases h
  | [x] =>
    simp only [knownNum] at h
    by_cases hk : x.kind = 1
    · exact ⟨x, rfl, hk⟩
    · rw [if_neg hk] at h; cases h
  | _ :: _ :: _ => cases h

theorem St.folds_again : ∀ l : List St, ∀ out, St.fds l → St.stayL l = false → St.folds l out = out ++ l := by
  refine blocks_ind fun l ih => ?_
  induction l with
  | nil => intro out _ _; simp [St.folds]
  | cons s l ihl =>
    intro out hf hst
    obtain ⟨hs, hl⟩ := hf
    have hst2 : s.stay = false ∧ St.stayL l = false := by simpa [St.stayL] using hst
    have hse := s.stay_eq
    rw [hst2.1] at hse
    obtain ⟨ib, ie⟩ := ih s (by simp)
    obtain ⟨k, n, nm, args, body, els⟩ := s
    obtain ⟨h1, h2, h3, h4⟩ := hs
    simp only [St.kind, St.args, St.body, St.els] at hse ib ie
    have h := hse.symm
    rw [Bool.or_eq_false_iff, Bool.or_eq_false_iff] at h
    obtain ⟨⟨g1, g2⟩, g3⟩ := h
    have hfold : (St.mk k n nm args body els).fold = .mk k n nm args body els := by
      simp only [St.fold]
      rw [h1, ib [] h3 g2, ie [] h4 g3]
      rfl
    simp only [St.folds]
    rw [hfold]
    have hstep : foldStep out (.mk k n nm args body els) l.length = out ++ [.mk k n nm args body els] := by
      cases hkn : knownNum args with
      | none => exact foldStep_keep (s := .mk k n nm args body els) (.inl hkn)
      | some q =>
        obtain ⟨x, rfl, hxk⟩ := knownNum_some hkn
        have h9 : k ≠ 9 := by
          rintro rfl
          simp [hxk] at g1
        by_cases h10 : k = 10
        · rw [foldStep_while (s := .mk k n nm [x] body els) hkn h10, if_neg]
          rintro rfl
          exact h2 ⟨h10, hkn⟩
        · exact foldStep_keep (s := .mk k n nm [x] body els) (.inr ⟨h9, h10⟩)
    rw [hstep, ihl (fun x hx => ih x (by simp [hx])) _ hl hst2.2]
    simp

end Go.Proofs.Ytimdnamhccipjaa
