/- The walks of tree.source, its closure, and tree.Right. -/
import Derived.Test.YtmabeegoapcfpaaGreatDoorQPartecf4a49d
namespace Go.Proofs.YtmabeegoapcfpaaGreatDoor
open Go.RowKit Go.Sort
mutual
def Src : Ex → Prop
  | .mk k o n s args => (1 ≤ k ∧ k ≤ 13) ∧ Shaped k o n s args.length ∧ (k = 1 → 0 ≤ n ∧ n ≤ 32767) ∧ (k = 2 → IsText s) ∧ (k = 3 ∨ k = 7 ∨ k = 8 ∨ k = 9 → IsNm s) ∧ Srcs args
def Srcs : List Ex → Prop
  | [] => True
  | a :: l => (¬ SaidK a.kind ∧ Src a) ∧ Srcs l
end
theorem srcs_iff (l : List Ex) : Srcs l ↔ ∀ a ∈ l, ¬ SaidK a.kind ∧ Src a := by
  induction l with
  | nil => simp [Srcs]
  | cons a l ih => simp [Srcs, ih]
def SourceC (e : Ex) : Prop := ∀ (F : Nat → Prop) (w : World) (cs : List Value), Inn F w → MX w → RdEx F w e cs →
    Calls Tryz.prog 85 #[.agg cs.toArray] w (Gives w (.bool (dec (Src e))))
set_option maxHeartbeats 400000 in
theorem source1_calls (e : Ex) (h : SourceC e) (F : Nat → Prop) (w : World) (cs : List Value) (hF : Inn F w) (hm : MX w) (hr : RdEx F w e cs) :
    Calls Tryz.prog 153 #[.agg cs.toArray] w (Gives w (.bool (dec (¬ SaidK e.kind ∧ Src e)))) := by
  obtain ⟨k, o, n, s, a, m, cap, rfl⟩ := hr.shape
  have hk : e.kind = k := hr.parts.1
  have hc := fun ob => h F (w.alloc ob) _ (hF.alloc ob) (hm.alloc ob) (hr.alloc hF ob)
  have hsd := fun w => said_calls k w
  rw [hk]
  clear h hr hm hF hk
  by_cases hs : SaidK k
  · rw [dec_true hs] at hsd
    have hfin : Hid (dec (¬ SaidK k ∧ Src e) = false) := dec_false (fun h => h.1 hs)
    have HS := Lib.hid hsd
    clear hsd hc hs
    go_enter Tryz.func153, Tryz.ntmps153
    go_wp2_with (go_at_call 154; refine (HS.out _).mono ?_; rintro e w' ⟨rfl, rfl⟩)
    go_ret
    exact ⟨ret_bool hfin.out.symm, (Below.refl _ _).alloc (Nat.le_refl _) _⟩
  · rw [dec_false hs] at hsd
    have hfin : Hid (dec (¬ SaidK k ∧ Src e) = dec (Src e)) := dec_congr (by simp [hs])
    have HS := Lib.hid hsd
    have HC := Lib.hid hc
    clear hsd hc hs
    go_enter Tryz.func153, Tryz.ntmps153
    go_wp2_with (first | (go_at_call 154; refine (HS.out _).mono ?_; rintro e w' ⟨rfl, rfl⟩) | (go_at_call 85; refine (HC.out _).mono ?_; rintro e w' ⟨rfl, hb⟩))
    go_ret
    exact ⟨ret_bool hfin.out.symm, below_on1 (Below.refl _ _) (Nat.le_refl _) hb⟩
theorem callFunc_source1 (args : Array Value) (w : World) : (callFunc 153 args).run Tryz.prog w = .ok (.enter 153 args) w := by
  go_simp
set_option maxRecDepth 100000 in
set_option maxHeartbeats 2000000 in
theorem source_calls (e : Ex) : SourceC e := by
  induction e using Ex.ind with
  | h k o n s args ih =>
  intro F w cs hF hm hr
  obtain ⟨k', o', n', s', a, m, cap, rfl⟩ := hr.shape
  obtain ⟨rfl, rfl, rfl, rfl, _, _, _, hsz, hxa⟩ := hr.parts
  simp only [Ex.kind, Ex.op, Ex.num, Ex.name, Ex.args] at *
  obtain ⟨rfl, _, _, _⟩ := hxa.opn
  have hR : Hid (dec (Src (.mk k o n s args)) = dec ((1 ≤ k ∧ k ≤ 13) ∧ Shaped k o n s args.length ∧ (k = 1 → 0 ≤ n ∧ n ≤ 32767) ∧ (k = 2 → IsText s) ∧ (k = 3 ∨ k = 7 ∨ k = 8 ∨ k = 9 → IsNm s) ∧ (∀ x ∈ args, ¬ SaidK x.kind ∧ Src x))) := dec_congr (by simp only [Src, srcs_iff])
  have hea : ∀ w', Below w.heap.size w w' → Calls Tryz.prog 152 #[.slice a args.length cap, .func (.func 153) #[] #[]] w' (Gives w' (.bool (dec (∀ x ∈ args, ¬ SaidK x.kind ∧ Src x)))) := fun w' hb =>
    each_calls F w' 153 #[] args _ (fun x => ¬ SaidK x.kind ∧ Src x) (hF.below hb) (hxa.below hF hb (Nat.le_refl _)) callFunc_source1 (fun x hx w2 cs hb2 hr2 => by
      simpa using source1_calls x (ih x hx) F w2 cs ((hF.below hb).below hb2) ((hm.below hb (Nat.le_refl _)).below hb2 (Nat.le_refl _)) hr2)
  have hsh := fun w => shaped_calls k o n s a args.length cap w
  have htx := fun w => isText_calls s w hsz
  have hnm : ∀ w', Below w.heap.size w w' → Calls Tryz.prog 87 #[.string s] w' (Same0 w' (.bool (dec (IsNm s)))) := fun w' hb => nameT_calls s w' hsz (hm.below hb (Nat.le_refl _))
  have hE2 : k = 2 → Shaped k o n s args.length → (∀ x ∈ args, ¬ SaidK x.kind ∧ Src x) := fun hk hs => by
    subst hk
    have h0 : args.length ≤ 0 := hs.2.2.2.2.2.1
    rw [List.length_eq_zero_iff.1 (Nat.le_zero.1 h0)]
    simp
  generalize dec (Src (.mk k o n s args)) = R at *
  generalize hEa : (∀ x ∈ args, ¬ SaidK x.kind ∧ Src x) = EA at *
  generalize hSh : Shaped k o n s args.length = SH at *
  generalize hTx : IsText s = TX at *
  generalize hNm : IsNm s = NM at *
  clear ih hr hm hF hxa hsz hEa hSh hTx hNm
  have HE := Lib.hid hea
  have HT := Lib.hid htx
  have HE2 := Lib.hid hE2
  clear hea htx hE2
  by_cases hk1 : 1 ≤ k
  rotate_left
  · obtain rfl : R = false := by rw [hR.out]; exact dec_false (by omega)
    have d1 : decide (k < 1) = true := by simp; omega
    clear hR hsh hnm
    go_enter Tryz.func85, Tryz.ntmps85
    go_wp2
    go_ret
    exact ⟨rfl, (Below.refl _ _).alloc (Nat.le_refl _) _⟩
  have d1 : decide (k < 1) = false := by simp; omega
  by_cases hk2 : k ≤ 13
  rotate_left
  · obtain rfl : R = false := by rw [hR.out]; exact dec_false (by omega)
    have d2 : decide (13 < k) = true := by simp; omega
    clear hR hsh hnm
    go_enter Tryz.func85, Tryz.ntmps85
    go_wp2
    go_ret
    exact ⟨rfl, (Below.refl _ _).alloc (Nat.le_refl _) _⟩
  have d2 : decide (13 < k) = false := by simp; omega
  by_cases hsh1 : SH
  rotate_left
  · obtain rfl : R = false := by rw [hR.out]; exact dec_false (fun h => hsh1 h.2.1)
    rw [dec_false hsh1] at hsh
    have HS := Lib.hid hsh
    clear hR hsh hnm hsh1
    go_enter Tryz.func85, Tryz.ntmps85
    go_wp2_with (go_at_call 151; refine (HS.out _).mono ?_; rintro e w' ⟨rfl, hb⟩)
    go_ret
    exact ⟨rfl, below_on1 (Below.refl _ _) (Nat.le_refl _) hb⟩
  rw [dec_true hsh1] at hsh
  have HS := Lib.hid hsh
  clear hsh
  have hcs : k = 1 ∨ k = 2 ∨ k = 3 ∨ k = 7 ∨ k = 8 ∨ k = 9 ∨ (k ≠ 1 ∧ k ≠ 2 ∧ k ≠ 3 ∧ k ≠ 7 ∧ k ≠ 8 ∧ k ≠ 9) := by omega
  rcases hcs with rfl | rfl | rfl | rfl | rfl | rfl | ⟨c1, c2, c3, c4, c5, c6⟩
  case inl =>
    by_cases hn0 : 0 ≤ n
    rotate_left
    · obtain rfl : R = false := by rw [hR.out]; exact dec_false (fun h => hn0 (h.2.2.1 rfl).1)
      have q : decide (n < 0) = true := by simp; omega
      clear hR hnm hsh1
      go_enter Tryz.func85, Tryz.ntmps85
      go_wp2_with (go_at_call 151; refine (HS.out _).mono ?_; rintro e w' ⟨rfl, hb⟩; obtain ⟨hcl, hfz⟩ := bcell hb; have hz1 := one_new hb)
      go_ret
      exact ⟨rfl, below_on1 (Below.refl _ _) (Nat.le_refl _) hb⟩
    have q : decide (n < 0) = false := by simp; omega
    by_cases hn1 : n ≤ 32767
    rotate_left
    · obtain rfl : R = false := by rw [hR.out]; exact dec_false (fun h => hn1 (h.2.2.1 rfl).2)
      have q2 : decide (32767 < n) = true := by simp; omega
      clear hR hnm hsh1
      go_enter Tryz.func85, Tryz.ntmps85
      go_wp2_with (go_at_call 151; refine (HS.out _).mono ?_; rintro e w' ⟨rfl, hb⟩; obtain ⟨hcl, hfz⟩ := bcell hb; have hz1 := one_new hb)
      go_ret
      exact ⟨rfl, below_on1 (Below.refl _ _) (Nat.le_refl _) hb⟩
    have q2 : decide (32767 < n) = false := by simp; omega
    obtain rfl : R = dec EA := by rw [hR.out]; exact dec_congr (by simp [hsh1, hn0, hn1])
    clear hR hnm hsh1
    go_enter Tryz.func85, Tryz.ntmps85
    go_wp2_with (first | (go_at_call 151; refine (HS.out _).mono ?_; rintro e w' ⟨rfl, hb⟩; obtain ⟨hcl, hfz⟩ := bcell hb; have hz1 := one_new hb) | (go_at_call 152; refine (HE.out _ (below_on1 (Below.refl _ _) (Nat.le_refl _) hb)).mono ?_; rintro e w2 ⟨rfl, hb2⟩))
    go_ret
    exact ⟨rfl, below_on (below_on1 (Below.refl _ _) (Nat.le_refl _) hb) (Nat.le_refl _) hb2⟩
  case inr.inl =>
    obtain rfl : R = dec TX := by rw [hR.out]; exact dec_congr (by simp [hsh1, HE2.out rfl hsh1])
    clear hR hnm hsh1
    go_enter Tryz.func85, Tryz.ntmps85
    go_wp2_with (first | (go_at_call 151; refine (HS.out _).mono ?_; rintro e w' ⟨rfl, hb⟩; obtain ⟨hcl, hfz⟩ := bcell hb; have hz1 := one_new hb) | (go_at_call 23; refine (HT.out _).mono ?_; rintro e w2 ⟨rfl, rfl⟩))
    go_ret
    exact ⟨rfl, below_on1 (Below.refl _ _) (Nat.le_refl _) hb⟩
  case inr.inr.inr.inr.inr.inr =>
    obtain rfl : R = dec EA := by rw [hR.out]; exact dec_congr (by simp [hsh1, hk1, hk2, c1, c2, c3, c4, c5, c6])
    have z1 : (k == 1) = false := by simpa using c1
    have z2 : (k == 2) = false := by simpa using c2
    have z3 : (k == 3) = false := by simpa using c3
    have z4 : (k == 7) = false := by simpa using c4
    have z5 : (k == 8) = false := by simpa using c5
    have z6 : (k == 9) = false := by simpa using c6
    clear hR hnm hsh1 c1 c2 c3 c4 c5 c6
    go_enter Tryz.func85, Tryz.ntmps85
    go_wp2_with (first | (go_at_call 151; refine (HS.out _).mono ?_; rintro e w' ⟨rfl, hb⟩; obtain ⟨hcl, hfz⟩ := bcell hb; have hz1 := one_new hb) | (go_at_call 152; refine (HE.out _ (below_on1 (Below.refl _ _) (Nat.le_refl _) hb)).mono ?_; rintro e w2 ⟨rfl, hb2⟩))
    go_ret
    exact ⟨rfl, below_on (below_on1 (Below.refl _ _) (Nat.le_refl _) hb) (Nat.le_refl _) hb2⟩
  all_goals
    by_cases hn : NM
    · obtain rfl : R = dec EA := by rw [hR.out]; exact dec_congr (by simp [hsh1, hn])
      rw [show dec NM = true from dec_true hn] at hnm
      have HN := Lib.hid hnm
      clear hR hnm hsh1 hn
      go_enter Tryz.func85, Tryz.ntmps85
      go_wp2_with (first | (go_at_call 151; refine (HS.out _).mono ?_; rintro e w' ⟨rfl, hb⟩; obtain ⟨hcl, hfz⟩ := bcell hb; have hz1 := one_new hb) | (go_at_call 87; refine (HN.out _ (below_on1 (Below.refl _ _) (Nat.le_refl _) hb)).mono ?_; rintro e w2 ⟨rfl, rfl⟩) | (go_at_call 152; refine (HE.out _ (below_on1 (Below.refl _ _) (Nat.le_refl _) hb)).mono ?_; rintro e w2 ⟨rfl, hb2⟩))
      go_ret
      exact ⟨rfl, below_on (below_on1 (Below.refl _ _) (Nat.le_refl _) hb) (Nat.le_refl _) hb2⟩
    · obtain rfl : R = false := by rw [hR.out]; exact dec_false (fun h => hn (h.2.2.2.2.1 (by simp)))
      rw [show dec NM = false from dec_false hn] at hnm
      have HN := Lib.hid hnm
      clear hR hnm hsh1 hn
      go_enter Tryz.func85, Tryz.ntmps85
      go_wp2_with (first | (go_at_call 151; refine (HS.out _).mono ?_; rintro e w' ⟨rfl, hb⟩; obtain ⟨hcl, hfz⟩ := bcell hb; have hz1 := one_new hb) | (go_at_call 87; refine (HN.out _ (below_on1 (Below.refl _ _) (Nat.le_refl _) hb)).mono ?_; rintro e w2 ⟨rfl, rfl⟩))
      go_ret
      exact ⟨rfl, below_on1 (Below.refl _ _) (Nat.le_refl _) hb⟩
def RightE (e : Ex) : Prop := e.depth ≤ 32 ∧ Src e
def RightC (e : Ex) : Prop := ∀ (F : Nat → Prop) (w : World) (cs : List Value), Inn F w → MX w → RdEx F w e cs →
    Calls Tryz.prog 161 #[.agg cs.toArray] w (Gives w (.bool (dec (RightE e))))
set_option maxHeartbeats 1000000 in
theorem rightT_calls (e : Ex) : RightC e := by
  intro F w cs hF hm hr
  obtain ⟨k, o, n, s, a, m, cap, rfl⟩ := hr.shape
  have hd := fun o => depthT_calls e F (w.alloc o) _ (hF.alloc o) (hr.alloc hF o)
  have hs : ∀ ob w', Below (w.alloc ob).heap.size (w.alloc ob) w' → Calls Tryz.prog 85 #[.agg #[.int .i64 k, .int .i64 o, .int .i64 n, .string s, .slice a m cap]] w' (Gives w' (.bool (dec (Src e)))) := fun ob w' hb =>
    source_calls e F w' _ ((hF.alloc ob).below hb) ((hm.alloc ob).below hb (Nat.le_refl _)) ((hr.alloc hF ob).below (hF.alloc ob) hb (Nat.le_refl _))
  have hR : Hid (dec (RightE e) = dec (e.depth ≤ 32 ∧ Src e)) := rfl
  generalize dec (RightE e) = R at *
  generalize hS : Src e = S at *
  generalize hD : e.depth = D at *
  have HD := Lib.hid hd
  have HS := Lib.hid hs
  clear hd hs hr hm hF hS hD
  by_cases h32 : D ≤ 32
  · obtain rfl : R = dec S := by rw [hR.out]; exact dec_congr (by simp [h32])
    have q : ((min D 65 : Nat) : Int) ≤ 32 := by omega
    clear hR h32
    go_enter Tryz.func161, Tryz.ntmps161
    go_wp2_with (first | (go_at_call 162; refine (HD.out _).mono ?_; rintro e w' ⟨rfl, hb⟩; obtain ⟨hcl, hfz⟩ := bcell hb; have hz1 := one_new hb) | (go_at_call 85; refine (HS.out _ _ hb).mono ?_; rintro e w2 ⟨rfl, hb2⟩))
    go_ret
    exact ⟨rfl, below_on (below_on1 (Below.refl _ _) (Nat.le_refl _) hb) (Nat.le_refl _) hb2⟩
  · obtain rfl : R = false := by rw [hR.out]; exact dec_false (fun h => h32 h.1)
    have q : ¬ ((min D 65 : Nat) : Int) ≤ 32 := by omega
    have q2 : decide (((min D 65 : Nat) : Int) ≤ 32) = false := by simpa using q
    clear hR h32 HS
    go_enter Tryz.func161, Tryz.ntmps161
    go_wp2_with (go_at_call 162; refine (HD.out _).mono ?_; rintro e w' ⟨rfl, hb⟩; obtain ⟨hcl, hfz⟩ := bcell hb; have hz1 := one_new hb)
    go_ret
    exact ⟨by first | rfl | (congr 2; omega) | simp, below_on1 (Below.refl _ _) (Nat.le_refl _) hb⟩
end Go.Proofs.YtmabeegoapcfpaaGreatDoor
