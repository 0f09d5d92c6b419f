/- A name put in its place among names that rise; the table of all names: plain laws. No program in sight. -/
import Derived.Test.YtblhpiebheommaaGreatKindsChecksPart33
namespace Go.Proofs.YtblhpiebheommaaGreat
open Go.RowKit

/-- How many names at the head are less. -/
noncomputable def headN : List NameD → ByteArray → Nat
  | [], _ => 0
  | x :: l, n => if dec (ltS x.name n) = true then headN l n + 1 else 0
/-- A name in its place. -/
noncomputable def putN (t : List NameD) (x : NameD) : List NameD := t.take (headN t x.name) ++ x :: t.drop (headN t x.name)

theorem headN_le : ∀ (t : List NameD) (n : ByteArray), headN t n ≤ t.length
  | [], _ => Nat.le_refl _
  | x :: l, n => by
    unfold headN
    have := headN_le l n
    split
    · simp; omega
    · omega
theorem headN_lt : ∀ (t : List NameD) (n : ByteArray) (k : Nat) (hk : k < t.length), k < headN t n → ltS t[k].name n
  | x :: l, n, k, hk, h => by
    unfold headN at h
    split at h
    · rename_i hx
      cases k with
      | zero => exact dec_iff.1 hx
      | succ k => exact headN_lt l n k (by simpa using hk) (by omega)
    · omega
theorem headN_stop : ∀ (t : List NameD) (n : ByteArray) (h : headN t n < t.length), ¬ ltS t[headN t n].name n
  | x :: l, n, h => by
    by_cases hx : ltS x.name n
    · have e : headN (x :: l) n = headN l n + 1 := by show (if dec (ltS x.name n) = true then headN l n + 1 else 0) = _; rw [if_pos (dec_true hx)]
      have := headN_stop l n (by rw [e] at h; simpa using h)
      simpa [e] using this
    · have e : headN (x :: l) n = 0 := by show (if dec (ltS x.name n) = true then headN l n + 1 else 0) = _; rw [if_neg (by rw [dec_false hx]; decide)]
      simpa [e] using hx
/-- The number that a search from the left comes to. -/
theorem headN_eq {t : List NameD} {n : ByteArray} {k : Nat} (h1 : ∀ i (hi : i < t.length), i < k → ltS t[i].name n) (h2 : ∀ h : k < t.length, ¬ ltS t[k].name n) (hk : k ≤ t.length) : headN t n = k := by
  by_cases hlt : headN t n < k
  · exact absurd (h1 _ (by omega) hlt) (headN_stop t n (by omega))
  · by_cases hgt : k < headN t n
    · have := headN_le t n
      exact absurd (headN_lt t n k (by omega) hgt) (h2 (by omega))
    · omega

theorem putN_len (t : List NameD) (x : NameD) : (putN t x).length = t.length + 1 := by
  have := headN_le t x.name
  unfold putN; simp; omega
theorem putN_mem {t : List NameD} {x y : NameD} : y ∈ putN t x ↔ y = x ∨ y ∈ t := by
  unfold putN
  have h := List.take_append_drop (headN t x.name) t
  constructor
  · intro hy
    rcases List.mem_append.1 hy with hy | hy
    · exact .inr (List.mem_of_mem_take hy)
    · rcases List.mem_cons.1 hy with hy | hy
      · exact .inl hy
      · exact .inr (List.mem_of_mem_drop hy)
  · rintro (rfl | hy)
    · simp
    · rw [← h] at hy
      rcases List.mem_append.1 hy with hy | hy
      · exact List.mem_append_left _ hy
      · exact List.mem_append_right _ (List.mem_cons_of_mem _ hy)
theorem putN_rises {t : List NameD} {x : NameD} (h : Rises t) (hx : findN t x.name = none) : Rises (putN t x) := by
  have hne := findN_none hx
  have hr := h
  unfold Rises putN
  rw [← List.take_append_drop (headN t x.name) t] at h
  obtain ⟨h1, h2, h3⟩ := List.pairwise_append.1 h
  refine List.pairwise_append.2 ⟨h1, List.pairwise_cons.2 ⟨fun y hy => ?_, h2⟩, fun a ha b hb => ?_⟩
  · obtain ⟨k, hk, rfl⟩ := List.getElem_of_mem hy
    rw [List.length_drop] at hk
    rw [List.getElem_drop]
    have hs := headN_stop t x.name (by omega)
    have hm : t[headN t x.name + k] ∈ t := List.getElem_mem _
    have : ¬ ltS t[headN t x.name + k].name x.name := fun hl => by
      by_cases h0 : k = 0
      · subst h0; exact hs hl
      · exact hs (ltS_trans (hr.get (by omega) (by omega) (by omega)) hl)
    by_cases hlt : ltS x.name t[headN t x.name + k].name
    · exact hlt
    · exact absurd (ltS_tri _ _ this hlt) (hne _ hm)
  · obtain ⟨k, hk, rfl⟩ := List.getElem_of_mem ha
    rw [List.length_take] at hk
    rw [List.getElem_take]
    have hk1 := headN_lt t x.name k (by omega) (by omega)
    rcases List.mem_cons.1 hb with rfl | hb
    · exact hk1
    · exact h3 _ (by rw [List.mem_take_iff_getElem]; exact ⟨k, by omega, rfl⟩) b hb

/-- May a declaration come into the table? -/
def EntOk (t : List NameD) (x : EntD) : Prop := IsName x.name ∧ ¬ IsKey x.name ∧ findN t x.name = none ∧ x.place < x.most
/-- The table of declarations. -/
noncomputable def mkT : List EntD → List NameD → Option (List NameD)
  | [], t => some t
  | x :: l, t => if dec (EntOk t x) = true then mkT l (putN t ⟨x.name, x.kind, x.num⟩) else none

/-- The names that each story has. -/
def namesStart : List NameD := [⟨⟨#[98, 111, 120]⟩, 1, 2⟩, ⟨⟨#[104, 105, 100, 100, 101, 110]⟩, 1, 3⟩, ⟨⟨#[108, 105, 116]⟩, 1, 0⟩, ⟨⟨#[111, 112, 101, 110]⟩, 1, 1⟩]
theorem start_rises : Rises namesStart := by
  unfold Rises namesStart ltS
  simp only [List.pairwise_cons, List.mem_cons, List.not_mem_nil, or_false, forall_eq_or_imp, forall_eq, false_implies, implies_true, List.Pairwise.nil, and_true]
  decide

theorem mkT_ok : ∀ (l : List EntD) (t u : List NameD), mkT l t = some u → Rises t → Rises u ∧ u.length = t.length + l.length ∧ (∀ y, y ∈ u → y ∈ t ∨ ∃ x ∈ l, y = ⟨x.name, x.kind, x.num⟩) ∧ (∀ x ∈ l, x.place < x.most)
  | [], t, u, h, hr => by
    have : t = u := by simpa [mkT] using h
    subst this
    exact ⟨hr, by simp, fun y hy => .inl hy, fun x hx => by cases hx⟩
  | x :: l, t, u, h, hr => by
    unfold mkT at h
    split at h
    · rename_i hok
      have hok := dec_iff.1 hok
      obtain ⟨h1, h2, h3, h4⟩ := mkT_ok l _ u h (putN_rises (x := ⟨x.name, x.kind, x.num⟩) hr hok.2.2.1)
      refine ⟨h1, by rw [h2, putN_len]; simp; omega, fun y hy => ?_, fun z hz => ?_⟩
      · rcases h3 y hy with h | ⟨z, hz, rfl⟩
        · rcases putN_mem.1 h with rfl | h
          · exact .inr ⟨x, by simp, rfl⟩
          · exact .inl h
        · exact .inr ⟨z, by simp [hz], rfl⟩
      · rcases List.mem_cons.1 hz with rfl | hz
        · exact hok.2.2.2
        · exact h4 z hz
    · cases h
end Go.Proofs.YtblhpiebheommaaGreat
