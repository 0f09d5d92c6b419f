/- The walks of kinds' whole: many; Check's closure. Printed by gen-kinds14.py. -/
import Derived.Test.YtblhpiebheommaaKindsHoldsPart21
import Derived.Test.YtblhpiebheommaaKindsHoldsPart3
import Derived.Test.YtblhpiebheommaaKindsHoldsPart12
import Derived.Test.YtblhpiebheommaaKindsHoldsPart4
namespace Go.Proofs.Ytblhpiebheommaa
open Go.RowKit

/-- How many there are of a part. -/
def manyN (s : SrcD) (p : Int) : Nat := if p = 1 then 1 else if p = 5 then s.objects.length else if p = 6 then s.verbs.length else if p = 7 then s.rules.length else if p = 8 then s.funcs.length else s.daemons.length

set_option maxRecDepth 100000 in
set_option maxHeartbeats 1000000 in
theorem many_calls (t : List NameD) (s : SrcD) (p : Int) (F : Nat → Prop) (w : World) (tv : Value) (ss : List Value) (h0 : RdNames F w t tv) (h1 : Holds.src.R F w s ss) :
    Calls Try.prog 43 #[.agg (tv :: ss).toArray, .int .i64 p] w (Gives w (.int .i64 (manyN s p))) := by
  obtain ⟨a0, c0, rfl⟩ := h0.shape
  obtain ⟨a5, c5, a6, c6, a7, c7, a8, c8, a9, c9, a10, c10, a11, c11, a12, c12, rfl, g5, g6, g7, g8, g9, g10, g11, g12⟩ := src_shape h1
  have hB1 : ∀ o, Below w.heap.size w (w.alloc o) := fun o => (Below.refl _ w).alloc (Nat.le_refl _) _
  have HB := Lib.hid hB1
  clear h0 h1 g5 g6 g7 g8 g9 g10 g11 g12 hB1
  unfold manyN
  by_cases h1 : p = 1
  · subst h1
    go_enter Try.func43, Try.ntmps43
    go_wp2
    go_ret
    exact ⟨rfl, HB.out _⟩
  have e1 : (p == 1) = false := by simpa using h1
  rw [if_neg h1]
  clear h1
  by_cases h5 : p = 5
  · subst h5
    go_enter Try.func43, Try.ntmps43
    go_wp2
    go_ret
    exact ⟨rfl, HB.out _⟩
  have e5 : (p == 5) = false := by simpa using h5
  rw [if_neg h5]
  clear h5
  by_cases h6 : p = 6
  · subst h6
    go_enter Try.func43, Try.ntmps43
    go_wp2
    go_ret
    exact ⟨rfl, HB.out _⟩
  have e6 : (p == 6) = false := by simpa using h6
  rw [if_neg h6]
  clear h6
  by_cases h7 : p = 7
  · subst h7
    go_enter Try.func43, Try.ntmps43
    go_wp2
    go_ret
    exact ⟨rfl, HB.out _⟩
  have e7 : (p == 7) = false := by simpa using h7
  rw [if_neg h7]
  clear h7
  by_cases h8 : p = 8
  · subst h8
    go_enter Try.func43, Try.ntmps43
    go_wp2
    go_ret
    exact ⟨rfl, HB.out _⟩
  have e8 : (p == 8) = false := by simpa using h8
  rw [if_neg h8]
  clear h8
  go_enter Try.func43, Try.ntmps43
  go_wp2
  go_ret
  exact ⟨rfl, HB.out _⟩

set_option maxRecDepth 100000 in
set_option maxHeartbeats 1000000 in
theorem check1_calls (t : List NameD) (s : SrcD) (part i : Int) (q : Int × ByteArray) (F : Nat → Prop) (w : World) (b0 b1 b2 : Nat) (tv : Value) (ss : List Value) (h0 : RdNames F w t tv) (h1 : Holds.src.R F w s ss) (hb0 : BoxAt w b0 (tv :: ss)) (hb1 : BoxAt w b1 [.int .i64 part]) (hb2 : BoxAt w b2 [.int .i64 i])
    (hc : Calls Try.prog 45 #[.agg (tv :: ss).toArray, .int .i64 part, .int .i64 i] w (Judged w q (.tuple #[]))) :
    Calls Try.prog 44 #[.pointer (some ⟨b0, 0, none⟩), .pointer (some ⟨b1, 0, none⟩), .pointer (some ⟨b2, 0, none⟩)] w (Judged w q (.tuple #[])) := by
  obtain ⟨a0, c0, rfl⟩ := h0.shape
  obtain ⟨a5, c5, a6, c6, a7, c7, a8, c8, a9, c9, a10, c10, a11, c11, a12, c12, rfl, g5, g6, g7, g8, g9, g10, g11, g12⟩ := src_shape h1

  have s0 := hb0.2 0 (by simp)
  have s1 := hb0.2 1 (by simp)
  have s2 := hb0.2 2 (by simp)
  have s3 := hb0.2 3 (by simp)
  have s4 := hb0.2 4 (by simp)
  have s5 := hb0.2 5 (by simp)
  have s6 := hb0.2 6 (by simp)
  have s7 := hb0.2 7 (by simp)
  have s8 := hb0.2 8 (by simp)
  have s9 := hb0.2 9 (by simp)
  have s10 := hb0.2 10 (by simp)
  have s11 := hb0.2 11 (by simp)
  have s12 := hb0.2 12 (by simp)
  have s13 := hb0.2 13 (by simp)
  simp only [List.getElem?_cons_succ, List.getElem?_cons_zero] at s0 s1 s2 s3 s4 s5 s6 s7 s8 s9 s10 s11 s12 s13
  have p0 := hb1.one
  have p1 := hb2.one
  clear h0 h1 g5 g6 g7 g8 g9 g10 g11 g12 hb0 hb1 hb2
  by_cases hq : q.1 = 0
  · have HC := Lib.hid (judged_ok hc hq)
    have HQ := Lib.hid hq
    clear hc hq
    go_enter Try.func44, Try.ntmps44
    go_wp2_with (go_at_call 45; refine HC.out.mono ?_; rintro e w1 ⟨rfl, hb⟩)
    go_end0
    exact Judged.fine HQ.out rfl hb
  · have HC := Lib.hid (judged_bad hc hq)
    have HQ := Lib.hid hq
    clear hc hq
    go_enter Try.func44, Try.ntmps44
    go_wp2_with (go_at_call 45; refine HC.out.mono ?_; rintro e w1 ⟨rfl, hb⟩)
    exact ⟨rfl, Judged.thrown rfl HQ.out rfl hb⟩
end Go.Proofs.Ytblhpiebheommaa
/- The declarations of a source, in order, and the table of names that is made of them: plain data. No program in sight. -/
namespace Go.Proofs.Ytblhpiebheommaa
open Go.RowKit

/-- A declaration. -/
structure EntD where
  name : ByteArray
  kind : Int
  part : Int
  place : Int
  num : Int
  most : Int
def Holds.ent : Holds EntD := ⟨fun _ _ x cs => x.name.size ≤ maxLen ∧ I64 x.kind ∧ I64 x.part ∧ I64 x.place ∧ I64 x.num ∧ I64 x.most ∧ cs = [.string x.name, .int .i64 x.kind, .int .i64 x.part, .int .i64 x.place, .int .i64 x.num, .int .i64 x.most], fun _ _ h => h⟩

/-- The declarations of a list, from place k on. -/
def ents {α : Type} (nm : α → ByteArray) (kd pt sh mo : Int) : Nat → List α → List EntD
  | _, [] => []
  | k, x :: l => ⟨nm x, kd, pt, k, k + sh, mo⟩ :: ents nm kd pt sh mo (k + 1) l

theorem ents_append {α : Type} (nm : α → ByteArray) (kd pt sh mo : Int) : ∀ (a b : List α) (k : Nat), ents nm kd pt sh mo k (a ++ b) = ents nm kd pt sh mo k a ++ ents nm kd pt sh mo (k + a.length) b
  | [], b, k => by simp [ents]
  | x :: a, b, k => by
    simp only [List.cons_append, ents, List.length_cons]
    rw [ents_append nm kd pt sh mo a b (k + 1)]
    rw [show k + 1 + a.length = k + (a.length + 1) by omega]
theorem ents_len {α : Type} (nm : α → ByteArray) (kd pt sh mo : Int) : ∀ (a : List α) (k : Nat), (ents nm kd pt sh mo k a).length = a.length
  | [], _ => rfl
  | _ :: a, k => by simp [ents, ents_len nm kd pt sh mo a (k + 1)]
theorem ents_take {α : Type} (nm : α → ByteArray) (kd pt sh mo : Int) (l : List α) (k : Nat) (h : k < l.length) : ents nm kd pt sh mo 0 (l.take (k + 1)) = ents nm kd pt sh mo 0 (l.take k) ++ [⟨nm l[k], kd, pt, k, k + sh, mo⟩] := by
  rw [List.take_succ_eq_append_getElem h, ents_append]
  simp [ents, Nat.min_eq_left (Nat.le_of_lt h)]

/-- All declarations of a source, in the order in which they are gone through. -/
def SrcD.ents (s : SrcD) : List EntD :=
  ((((((Ytblhpiebheommaa.ents (fun x => x) 1 2 4 12 0 s.flags ++ Ytblhpiebheommaa.ents PairD.name 2 3 0 16 0 s.props) ++ Ytblhpiebheommaa.ents PairD.name 3 4 0 64 0 s.globals) ++ Ytblhpiebheommaa.ents ObjD.name 4 5 2 126 0 s.objects) ++ Ytblhpiebheommaa.ents VerbD.name 5 6 0 64 0 s.verbs) ++ Ytblhpiebheommaa.ents FuncD.name 6 8 0 64 0 s.funcs) ++ Ytblhpiebheommaa.ents FuncD.name 7 9 0 16 0 s.daemons)
end Go.Proofs.Ytblhpiebheommaa
/- A name put in its place among names that rise; the table of all names: plain laws. No program in sight. -/
namespace Go.Proofs.Ytblhpiebheommaa
open Go.RowKit

/-- How many names at the head are less. -/
noncomputable def headN : List NameD → ByteArray → Nat
  | [], _ => 0
  | x :: l, n => if dec (ltS x.name n) = true then headN l n + 1 else 0
/-- A name in its place. -/
noncomputable def putN (t : List NameD) (x : NameD) : List NameD := t.take (headN t x.name) ++ x :: t.drop (headN t x.name)

theorem headN_le : ∀ (t : List NameD) (n : ByteArray), headN t n ≤ t.length
  | [], _ => Nat.le_refl _
  | x :: l, n => by
    unfold headN
    have := headN_le l n
    split
    · simp; omega
    · omega
theorem headN_lt : ∀ (t : List NameD) (n : ByteArray) (k : Nat) (hk : k < t.length), k < headN t n → ltS t[k].name n
  | x :: l, n, k, hk, h => by
    unfold headN at h
    split at h
    · rename_i hx
      cases k with
      | zero => exact dec_iff.1 hx
      | succ k => exact headN_lt l n k (by simpa using hk) (by omega)
    · omega
theorem headN_stop : ∀ (t : List NameD) (n : ByteArray) (h : headN t n < t.length), ¬ ltS t[headN t n].name n
  | x :: l, n, h => by
    by_cases hx : ltS x.name n
    · have e : headN (x :: l) n = headN l n + 1 := by show (if dec (ltS x.name n) = true then headN l n + 1 else 0) = _; rw [if_pos (dec_true hx)]
      have := headN_stop l n (by rw [e] at h; simpa using h)
      simpa [e] using this
    · have e : headN (x :: l) n = 0 := by show (if dec (ltS x.name n) = true then headN l n + 1 else 0) = _; rw [if_neg (by rw [dec_false hx]; decide)]
      simpa [e] using hx
/-- The number that a search from the left comes to. -/
theorem headN_eq {t : List NameD} {n : ByteArray} {k : Nat} (h1 : ∀ i (hi : i < t.length), i < k → ltS t[i].name n) (h2 : ∀ h : k < t.length, ¬ ltS t[k].name n) (hk : k ≤ t.length) : headN t n = k := by
  by_cases hlt : headN t n < k
  · exact absurd (h1 _ (by omega) hlt) (headN_stop t n (by omega))
  · by_cases hgt : k < headN t n
    · have := headN_le t n
      exact absurd (headN_lt t n k (by omega) hgt) (h2 (by omega))
    · omega

theorem putN_len (t : List NameD) (x : NameD) : (putN t x).length = t.length + 1 := by
  have := headN_le t x.name
  unfold putN; simp; omega
theorem putN_mem {t : List NameD} {x y : NameD} : y ∈ putN t x ↔ y = x ∨ y ∈ t := by
  unfold putN
  have h := List.take_append_drop (headN t x.name) t
  constructor
  · intro hy
    rcases List.mem_append.1 hy with hy | hy
    · exact .inr (List.mem_of_mem_take hy)
    · rcases List.mem_cons.1 hy with hy | hy
      · exact .inl hy
      · exact .inr (List.mem_of_mem_drop hy)
  · rintro (rfl | hy)
    · simp
    · rw [← h] at hy
      rcases List.mem_append.1 hy with hy | hy
      · exact List.mem_append_left _ hy
      · exact List.mem_append_right _ (List.mem_cons_of_mem _ hy)
theorem putN_rises {t : List NameD} {x : NameD} (h : Rises t) (hx : findN t x.name = none) : Rises (putN t x) := by
  have hne := findN_none hx
  have hr := h
  unfold Rises putN
  rw [← List.take_append_drop (headN t x.name) t] at h
  obtain ⟨h1, h2, h3⟩ := List.pairwise_append.1 h
  refine List.pairwise_append.2 ⟨h1, List.pairwise_cons.2 ⟨fun y hy => ?_, h2⟩, fun a ha b hb => ?_⟩
  · obtain ⟨k, hk, rfl⟩ := List.getElem_of_mem hy
    rw [List.length_drop] at hk
    rw [List.getElem_drop]
    have hs := headN_stop t x.name (by omega)
    have hm : t[headN t x.name + k] ∈ t := List.getElem_mem _
    have : ¬ ltS t[headN t x.name + k].name x.name := fun hl => by
      by_cases h0 : k = 0
      · subst h0; exact hs hl
      · exact hs (ltS_trans (hr.get (by omega) (by omega) (by omega)) hl)
    by_cases hlt : ltS x.name t[headN t x.name + k].name
    · exact hlt
    · exact absurd (ltS_tri _ _ this hlt) (hne _ hm)
  · obtain ⟨k, hk, rfl⟩ := List.getElem_of_mem ha
    rw [List.length_take] at hk
    rw [List.getElem_take]
    have hk1 := headN_lt t x.name k (by omega) (by omega)
    rcases List.mem_cons.1 hb with rfl | hb
    · exact hk1
    · exact h3 _ (by rw [List.mem_take_iff_getElem]; exact ⟨k, by omega, rfl⟩) b hb

/-- May a declaration come into the table? -/
def EntOk (t : List NameD) (x : EntD) : Prop := IsName x.name ∧ ¬ IsKey x.name ∧ findN t x.name = none ∧ x.place < x.most
/-- The table of declarations. -/
noncomputable def mkT : List EntD → List NameD → Option (List NameD)
  | [], t => some t
  | x :: l, t => if dec (EntOk t x) = true then mkT l (putN t ⟨x.name, x.kind, x.num⟩) else none

/-- The names that each story has. -/
def namesStart : List NameD := [⟨⟨#[98, 111, 120]⟩, 1, 2⟩, ⟨⟨#[104, 105, 100, 100, 101, 110]⟩, 1, 3⟩, ⟨⟨#[108, 105, 116]⟩, 1, 0⟩, ⟨⟨#[111, 112, 101, 110]⟩, 1, 1⟩]
theorem start_rises : Rises namesStart := by
  unfold Rises namesStart ltS
  simp only [List.pairwise_cons, List.mem_cons, List.not_mem_nil, or_false, forall_eq_or_imp, forall_eq, false_implies, implies_true, List.Pairwise.nil, and_true]
  decide

theorem mkT_ok : ∀ (l : List EntD) (t u : List NameD), mkT l t = some u → Rises t → Rises u ∧ u.length = t.length + l.length ∧ (∀ y, y ∈ u → y ∈ t ∨ ∃ x ∈ l, y = ⟨x.name, x.kind, x.num⟩) ∧ (∀ x ∈ l, x.place < x.most)
  | [], t, u, h, hr => by
    have : t = u := by simpa [mkT] using h
    subst this
    exact ⟨hr, by simp, fun y hy => .inl hy, fun x hx => by cases hx⟩
  | x :: l, t, u, h, hr => by
    unfold mkT at h
    split at h
    · rename_i hok
      have hok := dec_iff.1 hok
      obtain ⟨h1, h2, h3, h4⟩ := mkT_ok l _ u h (putN_rises (x := ⟨x.name, x.kind, x.num⟩) hr hok.2.2.1)
      refine ⟨h1, by rw [h2, putN_len]; simp; omega, fun y hy => ?_, fun z hz => ?_⟩
      · rcases h3 y hy with h | ⟨z, hz, rfl⟩
        · rcases putN_mem.1 h with rfl | h
          · exact .inr ⟨x, by simp, rfl⟩
          · exact .inl h
        · exact .inr ⟨z, by simp [hz], rfl⟩
      · rcases List.mem_cons.1 hz with rfl | hz
        · exact hok.2.2.2
        · exact h4 z hz
    · cases h
end Go.Proofs.Ytblhpiebheommaa
