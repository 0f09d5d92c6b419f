/- What a table of names tells: plain laws. No program in sight. -/
import Derived.Test.YtblhpiebheommaaSl
namespace Go.Proofs.Ytblhpiebheommaa
open Go.RowKit

/-- The first of a name. -/
def findN (t : List NameD) (n : ByteArray) : Option NameD := t.find? (fun x => decide (x.name = n))

/-- The order of strings. -/
def ltS (a b : ByteArray) : Prop := a.data.toList < b.data.toList
/-- The names of a table rise. -/
def Rises (t : List NameD) : Prop := t.Pairwise (fun x y => ltS x.name y.name)

theorem findN_some {t : List NameD} {n : ByteArray} {x : NameD} (h : findN t n = some x) : x ∈ t ∧ x.name = n :=
  ⟨List.mem_of_find?_eq_some h, by have := List.find?_some h; simpa using this⟩
theorem findN_none {t : List NameD} {n : ByteArray} (h : findN t n = none) : ∀ x ∈ t, x.name ≠ n := by
  intro x hx e
  have := List.find?_eq_none.1 h x hx
  simp [e] at this

theorem ltS_irrefl (a : ByteArray) : ¬ ltS a a := List.lt_irrefl _
theorem ltS_trans {a b c : ByteArray} (h : ltS a b) (k : ltS b c) : ltS a c := List.lt_trans h k
theorem bytes_eq {a b : ByteArray} (h : a.data.toList = b.data.toList) : a = b := by
  cases a; cases b; simp at h; rw [h]
theorem ltS_tri (a b : ByteArray) (h1 : ¬ ltS a b) (h2 : ¬ ltS b a) : a = b :=
  bytes_eq (List.le_antisymm h2 h1)

theorem Rises.inj {t : List NameD} (h : Rises t) {x y : NameD} (hx : x ∈ t) (hy : y ∈ t) (e : x.name = y.name) : x = y := by
  induction t with
  | nil => cases hx
  | cons a t ih =>
    obtain ⟨h1, h2⟩ := List.pairwise_cons.1 h
    rcases List.mem_cons.1 hx with rfl | hx'
    · rcases List.mem_cons.1 hy with rfl | hy'
      · rfl
      · have := h1 y hy'; rw [e] at this; exact absurd this (ltS_irrefl _)
    · rcases List.mem_cons.1 hy with rfl | hy'
      · have := h1 x hx'; rw [e] at this; exact absurd this (ltS_irrefl _)
      · exact ih h2 hx' hy'

theorem Rises.find {t : List NameD} (h : Rises t) {x : NameD} (hx : x ∈ t) : findN t x.name = some x := by
  cases hf : findN t x.name with
  | none => exact absurd rfl (findN_none hf x hx)
  | some y =>
    obtain ⟨hy, e⟩ := findN_some hf
    rw [h.inj hx hy e.symm]

theorem Rises.get {t : List NameD} (h : Rises t) {i j : Nat} (hi : i < t.length) (hj : j < t.length) (hij : i < j) : ltS t[i].name t[j].name := List.pairwise_iff_getElem.1 h i j hi hj hij

/-- The place that a search by halves comes to: all ahead of it are less, all from it on are not. -/
theorem found_at {t : List NameD} (h : Rises t) {n : ByteArray} {i : Nat} (h1 : ∀ k (hk : k < t.length), k < i → ltS t[k].name n) (h2 : ∀ k (hk : k < t.length), i ≤ k → ¬ ltS t[k].name n) :
    (∀ (hi : i < t.length), t[i].name = n → findN t n = some t[i]) ∧ ((∀ hi : i < t.length, t[i].name ≠ n) → findN t n = none) := by
  refine ⟨fun hi e => ?_, fun hne => ?_⟩
  · have := h.find (List.getElem_mem hi); rwa [e] at this
  · cases hf : findN t n with
    | none => rfl
    | some y =>
      obtain ⟨hy, e⟩ := findN_some hf
      obtain ⟨k, hk, rfl⟩ := List.getElem_of_mem hy
      by_cases hlt : k < i
      · have := h1 k hk hlt; rw [e] at this; exact absurd this (ltS_irrefl _)
      · have hi : i < t.length := by omega
        by_cases hki : k = i
        · subst hki; exact absurd e (hne hk)
        · have h3 := h.get hi hk (by omega)
          rw [e] at h3
          exact absurd h3 (h2 i hi (Nat.le_refl _))
end Go.Proofs.Ytblhpiebheommaa
