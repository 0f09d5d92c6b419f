/- The walks of clewref10.bare and clewref10.among. -/
import Derived.Test.YtnbfadgclffgkaaGreatDoorPart32955a71
import Derived.Deep.DeepCutAuto
import Derived.Deep.CutBlock
namespace Go.Proofs.YtnbfadgclffgkaaGreatDoor
open Go.RowKit Go.Sort
theorem among_calls (n lo hi : Int) (w : World) : Calls Tryz.prog 119 #[.int .i64 n, .int .i64 lo, .int .i64 hi] w (Same0 w (.bool (dec (lo ≤ n ∧ n ≤ hi)))) := by
  by_cases h : lo ≤ n
  · have e : Hid (dec (lo ≤ n ∧ n ≤ hi) = decide (n ≤ hi)) := by
      show dec _ = _
      by_cases h2 : n ≤ hi
      · rw [dec_true ⟨h, h2⟩]; symm; simpa using h2
      · rw [dec_false (fun h3 => h2 h3.2)]; symm; simpa using h2
    go_enter Tryz.func119, Tryz.ntmps119
    go_wp2
    go_ret
    exact ⟨ret_bool e.out.symm, rfl⟩
  · have e : Hid (dec (lo ≤ n ∧ n ≤ hi) = false) := dec_false (fun h3 => h h3.1)
    go_enter Tryz.func119, Tryz.ntmps119
    go_wp2
    go_ret
    exact ⟨ret_bool e.out.symm, rfl⟩
def Bare (o n : Int) (s : ByteArray) (m : Nat) (args : Int) (op num named : Bool) : Prop := (m : Int) = args ∧ (op = true ∨ o = 0) ∧ (num = true ∨ n = 0) ∧ (named = true ∨ s = ByteArray.empty)
set_option maxRecDepth 100000 in
set_option maxHeartbeats 4000000 in
theorem bare_calls (k o n : Int) (s : ByteArray) (a : Option Addr) (m cap : Nat) (args : Int) (op num named : Bool) (w : World) :
    Calls Tryz.prog 121 #[.agg #[.int .i64 k, .int .i64 o, .int .i64 n, .string s, .slice a m cap], .int .i64 args, .bool op, .bool num, .bool named] w (Gives w (.bool (dec (Bare o n s m args op num named)))) := by
  have hR : Hid (dec (Bare o n s m args op num named) = dec ((m : Int) = args ∧ (op = true ∨ o = 0) ∧ (num = true ∨ n = 0) ∧ (named = true ∨ s = ByteArray.empty))) := rfl
  generalize dec (Bare o n s m args op num named) = R at *
  by_cases hm : (m : Int) = args
  rotate_left
  · have q : ((m : Int) == args) = false := by simpa using hm
    obtain rfl : R = false := by rw [hR.out]; exact dec_false (fun h => hm h.1)
    clear hR hm
    go_enter Tryz.func121, Tryz.ntmps121
    go_wp2
    go_ret
    exact ⟨rfl, (Below.refl _ _).alloc (Nat.le_refl _) _⟩
  subst hm
  by_cases ho : op = true ∨ o = 0
  rotate_left
  · have q : op = false := by cases op <;> simp at ho ⊢
    have q2 : (o == 0) = false := by cases op <;> simp at ho ⊢; exact ho
    subst q
    obtain rfl : R = false := by rw [hR.out]; exact dec_false (fun h => ho h.2.1)
    clear hR ho
    go_enter Tryz.func121, Tryz.ntmps121
    go_wp2
    go_ret
    exact ⟨rfl, (Below.refl _ _).alloc (Nat.le_refl _) _⟩
  by_cases hn : num = true ∨ n = 0
  rotate_left
  · have q : num = false := by cases num <;> simp at hn ⊢
    have q2 : (n == 0) = false := by cases num <;> simp at hn ⊢; exact hn
    subst q
    obtain rfl : R = false := by rw [hR.out]; exact dec_false (fun h => hn h.2.2.1)
    clear hR hn
    cases op
    · obtain rfl : o = 0 := by simpa using ho
      clear ho
      go_enter Tryz.func121, Tryz.ntmps121
      go_wp2
      go_ret
      exact ⟨rfl, (Below.refl _ _).alloc (Nat.le_refl _) _⟩
    · clear ho
      go_enter Tryz.func121, Tryz.ntmps121
      go_wp2
      go_ret
      exact ⟨rfl, (Below.refl _ _).alloc (Nat.le_refl _) _⟩
  have hS : Hid (R = dec (named = true ∨ s = ByteArray.empty)) := by show R = _; rw [hR.out]; exact dec_congr (by simp [ho, hn])
  clear hR
  by_cases hs : named = true ∨ s = ByteArray.empty
  · obtain rfl : R = true := by rw [hS.out]; exact dec_true hs
    clear hS
    cases op
    · obtain rfl : o = 0 := by simpa using ho
      cases num
      · obtain rfl : n = 0 := by simpa using hn
        cases named
        · obtain rfl : s = ByteArray.empty := by simpa using hs
          clear ho hn hs
          go_enter Tryz.func121, Tryz.ntmps121
          go_wp2
          go_ret
          exact ⟨rfl, (Below.refl _ _).alloc (Nat.le_refl _) _⟩
        · clear ho hn hs
          go_enter Tryz.func121, Tryz.ntmps121
          go_wp2
          go_ret
          exact ⟨rfl, (Below.refl _ _).alloc (Nat.le_refl _) _⟩
      · cases named
        · obtain rfl : s = ByteArray.empty := by simpa using hs
          clear ho hn hs
          go_enter Tryz.func121, Tryz.ntmps121
          go_wp2
          go_ret
          exact ⟨rfl, (Below.refl _ _).alloc (Nat.le_refl _) _⟩
        · clear ho hn hs
          go_enter Tryz.func121, Tryz.ntmps121
          go_wp2
          go_ret
          exact ⟨rfl, (Below.refl _ _).alloc (Nat.le_refl _) _⟩
    · cases num
      · obtain rfl : n = 0 := by simpa using hn
        cases named
        · obtain rfl : s = ByteArray.empty := by simpa using hs
          clear ho hn hs
          go_enter Tryz.func121, Tryz.ntmps121
          go_wp2
          go_ret
          exact ⟨rfl, (Below.refl _ _).alloc (Nat.le_refl _) _⟩
        · clear ho hn hs
          go_enter Tryz.func121, Tryz.ntmps121
          go_wp2
          go_ret
          exact ⟨rfl, (Below.refl _ _).alloc (Nat.le_refl _) _⟩
      · cases named
        · obtain rfl : s = ByteArray.empty := by simpa using hs
          clear ho hn hs
          go_enter Tryz.func121, Tryz.ntmps121
          go_wp2
          go_ret
          exact ⟨rfl, (Below.refl _ _).alloc (Nat.le_refl _) _⟩
        · clear ho hn hs
          go_enter Tryz.func121, Tryz.ntmps121
          go_wp2
          go_ret
          exact ⟨rfl, (Below.refl _ _).alloc (Nat.le_refl _) _⟩
  · have q : named = false := by cases named <;> simp at hs ⊢
    have q2 : s ≠ ByteArray.empty := fun h => hs (Or.inr h)
    have qs := strne q2
    have qs2 : s.toList.isEmpty = false := by simpa using qs
    subst q
    obtain rfl : R = false := by rw [hS.out]; exact dec_false hs
    clear hS hs q2
    cases op
    · obtain rfl : o = 0 := by simpa using ho
      cases num
      · obtain rfl : n = 0 := by simpa using hn
        clear ho hn
        go_enter Tryz.func121, Tryz.ntmps121
        go_wp2
        go_ret
        exact ⟨by first | rfl | simp, (Below.refl _ _).alloc (Nat.le_refl _) _⟩
      · clear ho hn
        go_enter Tryz.func121, Tryz.ntmps121
        go_wp2
        go_ret
        exact ⟨by first | rfl | simp, (Below.refl _ _).alloc (Nat.le_refl _) _⟩
    · cases num
      · obtain rfl : n = 0 := by simpa using hn
        clear ho hn
        go_enter Tryz.func121, Tryz.ntmps121
        go_wp2
        go_ret
        exact ⟨by first | rfl | simp, (Below.refl _ _).alloc (Nat.le_refl _) _⟩
      · clear ho hn
        go_enter Tryz.func121, Tryz.ntmps121
        go_wp2
        go_ret
        exact ⟨by first | rfl | simp, (Below.refl _ _).alloc (Nat.le_refl _) _⟩
end Go.Proofs.YtnbfadgclffgkaaGreatDoor
/- The walks of clewref10.right and clewref10.Right. -/
namespace Go.Proofs.YtnbfadgclffgkaaGreatDoor
open Go.RowKit Go.Sort
def KindOk (said : Bool) (k o n : Int) (s : ByteArray) (m : Nat) : Prop :=
  if k = 1 then Bare o n s m 0 false true false ∧ (0 ≤ n ∧ n ≤ 32767)
  else if k = 2 then said = true ∧ Bare o n s m 0 false false true ∧ IsText s
  else if k = 3 then Bare o n s m 0 false false true ∧ IsNm s
  else if k = 4 ∨ k = 5 ∨ k = 11 then Bare o n s m 1 false false false
  else if k = 13 then said = true ∧ Bare o n s m 1 false false false
  else if k = 6 then Bare o n s m 2 true false false ∧ (1 ≤ o ∧ o ≤ 14)
  else if k = 7 ∨ k = 8 then Bare o n s m 1 false false true ∧ IsNm s
  else if k = 9 then Bare o n s m m false false true ∧ (m : Int) ≤ 8 ∧ IsNm s
  else if k = 10 then Bare o n s m 1 true false false ∧ (1 ≤ o ∧ o ≤ 3)
  else if k = 12 then Bare o n s m 0 true false false ∧ (1 ≤ o ∧ o ≤ 6)
  else False
mutual
def RightR : Bool → Ex → Prop
  | said, .mk k o n s args => KindOk said k o n s args.length ∧ RightRs args
def RightRs : List Ex → Prop
  | [] => True
  | a :: l => RightR false a ∧ RightRs l
end
theorem rightRs_iff (l : List Ex) : RightRs l ↔ ∀ a ∈ l, RightR false a := by
  induction l with
  | nil => simp [RightRs]
  | cons a l ih => simp [RightRs, ih]
def RightRC (e : Ex) : Prop := ∀ (F : Nat → Prop) (w : World) (cs : List Value) (said : Bool), Inn F w → RdEx F w e cs →
    Calls Tryz.prog 77 #[.agg cs.toArray, .bool said] w (Gives w (.bool (dec (RightR said e))))
set_option maxRecDepth 100000 in
set_option maxHeartbeats 2000000 in
theorem rightR_calls (e : Ex) : RightRC e := by
  induction e using Ex.ind with
  | h k o n s args ih =>
  intro F w cs said hF hr
  obtain ⟨k', o', n', s', a, m, cap, rfl⟩ := hr.shape
  obtain ⟨rfl, rfl, rfl, rfl, _, _, _, hsz, hxa⟩ := hr.parts
  simp only [Ex.kind, Ex.op, Ex.num, Ex.name, Ex.args] at *
  obtain ⟨rfl, hl, hc, ha⟩ := hxa.opn
  have hfinR : Hid (dec (RightR said (.mk k o n s args)) = dec (KindOk said k o n s args.length ∧ ∀ x ∈ args, RightR false x)) := dec_congr (by simp only [RightR, rightRs_iff])
  generalize hRe : dec (KindOk said k o n s args.length) = R
  have HRe := Lib.hid hRe
  clear hRe
  go_enter Tryz.func77, Tryz.ntmps77
  go_upto_block 0 with fail
  go_cut [5] from 10 to 107 (fun ok wc => ok = .bool R ∧ Below (w.heap.size + 1) (w.alloc (.cells #[.int .i64 k, .int .i64 o, .int .i64 n, .string s, .slice a args.length cap] 73)) wc)
  case first =>
    clear ih hr hxa ha hF hfinR
    have hcs : k = 1 ∨ k = 2 ∨ k = 3 ∨ k = 4 ∨ k = 5 ∨ k = 6 ∨ k = 7 ∨ k = 8 ∨ k = 9 ∨ k = 10 ∨ k = 11 ∨ k = 12 ∨ k = 13 ∨ k < 1 ∨ 13 < k := by omega
    rcases hcs with rfl | rfl | rfl | rfl | rfl | rfl | rfl | rfl | rfl | rfl | rfl | rfl | rfl | hlo | hhi
    case inl =>
      have hb0 := fun w => bare_calls 1 o n s a args.length cap 0 false true false w
      have hK : Hid (R = dec (Bare o n s args.length 0 false true false ∧ (0 ≤ n ∧ n ≤ 32767))) := by show R = _; rw [← HRe.out]; exact dec_congr (by simp [KindOk])
      clear HRe
      by_cases hB : Bare o n s args.length 0 false true false
      rotate_left
      · obtain rfl : R = false := by rw [hK.out]; exact dec_false (by simp [hB])
        rw [dec_false hB] at hb0
        have HB := Lib.hid hb0
        clear hK hb0 hB
        go_wp2_with (go_at_call 121; refine (HB.out _).mono ?_; rintro e w' ⟨rfl, hb⟩; obtain ⟨hcl, hfz⟩ := bcell hb; have hz1 := one_new hb)
        go_meet
        case rel => exact ⟨rfl, (below_on (Below.refl _ _) (by simp) hb)⟩
      rw [dec_true hB] at hb0
      have HB := Lib.hid hb0
      clear hb0
      obtain rfl : R = dec (0 ≤ n ∧ n ≤ 32767) := by rw [hK.out]; exact dec_congr (by simp [hB])
      have HX := Lib.hid (fun w => among_calls n 0 32767 w)
      clear hK hB
      go_wp2_with (first | (go_at_call 121; refine (HB.out _).mono ?_; rintro e w' ⟨rfl, hb⟩; obtain ⟨hcl, hfz⟩ := bcell hb; have hz1 := one_new hb) | (go_at_call 119; refine (HX.out _).mono ?_; rintro e w2 ⟨rfl, rfl⟩))
      go_meet
      case rel => exact ⟨rfl, (below_on (Below.refl _ _) (by simp) hb)⟩
    case inr.inl =>
      have hb0 := fun w => bare_calls 2 o n s a args.length cap 0 false false true w
      have hK : Hid (R = dec (said = true ∧ Bare o n s args.length 0 false false true ∧ IsText s)) := by show R = _; rw [← HRe.out]; exact dec_congr (by simp [KindOk])
      clear HRe
      cases said
      · obtain rfl : R = false := by rw [hK.out]; exact dec_false (by simp)
        clear hK hb0
        go_wp2
        go_meet
        case rel => exact ⟨rfl, Below.refl _ _⟩
      by_cases hB : Bare o n s args.length 0 false false true
      rotate_left
      · obtain rfl : R = false := by rw [hK.out]; exact dec_false (by simp [hB])
        rw [dec_false hB] at hb0
        have HB := Lib.hid hb0
        clear hK hb0 hB
        go_wp2_with (go_at_call 121; refine (HB.out _).mono ?_; rintro e w' ⟨rfl, hb⟩; obtain ⟨hcl, hfz⟩ := bcell hb; have hz1 := one_new hb)
        go_meet
        case rel => exact ⟨rfl, (below_on (Below.refl _ _) (by simp) hb)⟩
      rw [dec_true hB] at hb0
      have HB := Lib.hid hb0
      clear hb0
      obtain rfl : R = dec (IsText s) := by rw [hK.out]; exact dec_congr (by simp [hB])
      have HX := Lib.hid (fun w => isTextR_calls s w hsz)
      clear hK hB
      go_wp2_with (first | (go_at_call 121; refine (HB.out _).mono ?_; rintro e w' ⟨rfl, hb⟩; obtain ⟨hcl, hfz⟩ := bcell hb; have hz1 := one_new hb) | (go_at_call 122; refine (HX.out _).mono ?_; rintro e w2 ⟨rfl, rfl⟩))
      go_meet
      case rel => exact ⟨rfl, (below_on (Below.refl _ _) (by simp) hb)⟩
    case inr.inr.inl =>
      have hb0 := fun w => bare_calls 3 o n s a args.length cap 0 false false true w
      have hK : Hid (R = dec (Bare o n s args.length 0 false false true ∧ IsNm s)) := by show R = _; rw [← HRe.out]; exact dec_congr (by simp [KindOk])
      clear HRe
      by_cases hB : Bare o n s args.length 0 false false true
      rotate_left
      · obtain rfl : R = false := by rw [hK.out]; exact dec_false (by simp [hB])
        rw [dec_false hB] at hb0
        have HB := Lib.hid hb0
        clear hK hb0 hB
        go_wp2_with (go_at_call 121; refine (HB.out _).mono ?_; rintro e w' ⟨rfl, hb⟩; obtain ⟨hcl, hfz⟩ := bcell hb; have hz1 := one_new hb)
        go_meet
        case rel => exact ⟨rfl, (below_on (Below.refl _ _) (by simp) hb)⟩
      rw [dec_true hB] at hb0
      have HB := Lib.hid hb0
      clear hb0
      obtain rfl : R = dec (IsNm s) := by rw [hK.out]; exact dec_congr (by simp [hB])
      have HX := Lib.hid (fun w => nameR_calls s w hsz)
      clear hK hB
      go_wp2_with (first | (go_at_call 121; refine (HB.out _).mono ?_; rintro e w' ⟨rfl, hb⟩; obtain ⟨hcl, hfz⟩ := bcell hb; have hz1 := one_new hb) | (go_at_call 76; refine (HX.out _).mono ?_; rintro e w2 ⟨rfl, rfl⟩))
      go_meet
      case rel => exact ⟨rfl, (below_on (Below.refl _ _) (by simp) hb)⟩
    case inr.inr.inr.inl =>
      have hb0 := fun w => bare_calls 4 o n s a args.length cap 1 false false false w
      have hK : Hid (R = dec (Bare o n s args.length 1 false false false)) := by show R = _; rw [← HRe.out]; exact dec_congr (by simp [KindOk])
      clear HRe
      by_cases hB : Bare o n s args.length 1 false false false
      rotate_left
      · obtain rfl : R = false := by rw [hK.out]; exact dec_false (by simp [hB])
        rw [dec_false hB] at hb0
        have HB := Lib.hid hb0
        clear hK hb0 hB
        go_wp2_with (go_at_call 121; refine (HB.out _).mono ?_; rintro e w' ⟨rfl, hb⟩; obtain ⟨hcl, hfz⟩ := bcell hb; have hz1 := one_new hb)
        go_meet
        case rel => exact ⟨rfl, (below_on (Below.refl _ _) (by simp) hb)⟩
      rw [dec_true hB] at hb0
      have HB := Lib.hid hb0
      clear hb0
      obtain rfl : R = true := by rw [hK.out]; exact dec_true (by simp [hB])
      clear hK hB
      go_wp2_with (go_at_call 121; refine (HB.out _).mono ?_; rintro e w' ⟨rfl, hb⟩; obtain ⟨hcl, hfz⟩ := bcell hb; have hz1 := one_new hb)
      go_meet
      case rel => exact ⟨rfl, (below_on (Below.refl _ _) (by simp) hb)⟩
    case inr.inr.inr.inr.inl =>
      have hb0 := fun w => bare_calls 5 o n s a args.length cap 1 false false false w
      have hK : Hid (R = dec (Bare o n s args.length 1 false false false)) := by show R = _; rw [← HRe.out]; exact dec_congr (by simp [KindOk])
      clear HRe
      by_cases hB : Bare o n s args.length 1 false false false
      rotate_left
      · obtain rfl : R = false := by rw [hK.out]; exact dec_false (by simp [hB])
        rw [dec_false hB] at hb0
        have HB := Lib.hid hb0
        clear hK hb0 hB
        go_wp2_with (go_at_call 121; refine (HB.out _).mono ?_; rintro e w' ⟨rfl, hb⟩; obtain ⟨hcl, hfz⟩ := bcell hb; have hz1 := one_new hb)
        go_meet
        case rel => exact ⟨rfl, (below_on (Below.refl _ _) (by simp) hb)⟩
      rw [dec_true hB] at hb0
      have HB := Lib.hid hb0
      clear hb0
      obtain rfl : R = true := by rw [hK.out]; exact dec_true (by simp [hB])
      clear hK hB
      go_wp2_with (go_at_call 121; refine (HB.out _).mono ?_; rintro e w' ⟨rfl, hb⟩; obtain ⟨hcl, hfz⟩ := bcell hb; have hz1 := one_new hb)
      go_meet
      case rel => exact ⟨rfl, (below_on (Below.refl _ _) (by simp) hb)⟩
    case inr.inr.inr.inr.inr.inl =>
      have hb0 := fun w => bare_calls 6 o n s a args.length cap 2 true false false w
      have hK : Hid (R = dec (Bare o n s args.length 2 true false false ∧ (1 ≤ o ∧ o ≤ 14))) := by show R = _; rw [← HRe.out]; exact dec_congr (by simp [KindOk])
      clear HRe
      by_cases hB : Bare o n s args.length 2 true false false
      rotate_left
      · obtain rfl : R = false := by rw [hK.out]; exact dec_false (by simp [hB])
        rw [dec_false hB] at hb0
        have HB := Lib.hid hb0
        clear hK hb0 hB
        go_wp2_with (go_at_call 121; refine (HB.out _).mono ?_; rintro e w' ⟨rfl, hb⟩; obtain ⟨hcl, hfz⟩ := bcell hb; have hz1 := one_new hb)
        go_meet
        case rel => exact ⟨rfl, (below_on (Below.refl _ _) (by simp) hb)⟩
      rw [dec_true hB] at hb0
      have HB := Lib.hid hb0
      clear hb0
      obtain rfl : R = dec (1 ≤ o ∧ o ≤ 14) := by rw [hK.out]; exact dec_congr (by simp [hB])
      have HX := Lib.hid (fun w => among_calls o 1 14 w)
      clear hK hB
      go_wp2_with (first | (go_at_call 121; refine (HB.out _).mono ?_; rintro e w' ⟨rfl, hb⟩; obtain ⟨hcl, hfz⟩ := bcell hb; have hz1 := one_new hb) | (go_at_call 119; refine (HX.out _).mono ?_; rintro e w2 ⟨rfl, rfl⟩))
      go_meet
      case rel => exact ⟨rfl, (below_on (Below.refl _ _) (by simp) hb)⟩
    case inr.inr.inr.inr.inr.inr.inl =>
      have hb0 := fun w => bare_calls 7 o n s a args.length cap 1 false false true w
      have hK : Hid (R = dec (Bare o n s args.length 1 false false true ∧ IsNm s)) := by show R = _; rw [← HRe.out]; exact dec_congr (by simp [KindOk])
      clear HRe
      by_cases hB : Bare o n s args.length 1 false false true
      rotate_left
      · obtain rfl : R = false := by rw [hK.out]; exact dec_false (by simp [hB])
        rw [dec_false hB] at hb0
        have HB := Lib.hid hb0
        clear hK hb0 hB
        go_wp2_with (go_at_call 121; refine (HB.out _).mono ?_; rintro e w' ⟨rfl, hb⟩; obtain ⟨hcl, hfz⟩ := bcell hb; have hz1 := one_new hb)
        go_meet
        case rel => exact ⟨rfl, (below_on (Below.refl _ _) (by simp) hb)⟩
      rw [dec_true hB] at hb0
      have HB := Lib.hid hb0
      clear hb0
      obtain rfl : R = dec (IsNm s) := by rw [hK.out]; exact dec_congr (by simp [hB])
      have HX := Lib.hid (fun w => nameR_calls s w hsz)
      clear hK hB
      go_wp2_with (first | (go_at_call 121; refine (HB.out _).mono ?_; rintro e w' ⟨rfl, hb⟩; obtain ⟨hcl, hfz⟩ := bcell hb; have hz1 := one_new hb) | (go_at_call 76; refine (HX.out _).mono ?_; rintro e w2 ⟨rfl, rfl⟩))
      go_meet
      case rel => exact ⟨rfl, (below_on (Below.refl _ _) (by simp) hb)⟩
    case inr.inr.inr.inr.inr.inr.inr.inl =>
      have hb0 := fun w => bare_calls 8 o n s a args.length cap 1 false false true w
      have hK : Hid (R = dec (Bare o n s args.length 1 false false true ∧ IsNm s)) := by show R = _; rw [← HRe.out]; exact dec_congr (by simp [KindOk])
      clear HRe
      by_cases hB : Bare o n s args.length 1 false false true
      rotate_left
      · obtain rfl : R = false := by rw [hK.out]; exact dec_false (by simp [hB])
        rw [dec_false hB] at hb0
        have HB := Lib.hid hb0
        clear hK hb0 hB
        go_wp2_with (go_at_call 121; refine (HB.out _).mono ?_; rintro e w' ⟨rfl, hb⟩; obtain ⟨hcl, hfz⟩ := bcell hb; have hz1 := one_new hb)
        go_meet
        case rel => exact ⟨rfl, (below_on (Below.refl _ _) (by simp) hb)⟩
      rw [dec_true hB] at hb0
      have HB := Lib.hid hb0
      clear hb0
      obtain rfl : R = dec (IsNm s) := by rw [hK.out]; exact dec_congr (by simp [hB])
      have HX := Lib.hid (fun w => nameR_calls s w hsz)
      clear hK hB
      go_wp2_with (first | (go_at_call 121; refine (HB.out _).mono ?_; rintro e w' ⟨rfl, hb⟩; obtain ⟨hcl, hfz⟩ := bcell hb; have hz1 := one_new hb) | (go_at_call 76; refine (HX.out _).mono ?_; rintro e w2 ⟨rfl, rfl⟩))
      go_meet
      case rel => exact ⟨rfl, (below_on (Below.refl _ _) (by simp) hb)⟩
    case inr.inr.inr.inr.inr.inr.inr.inr.inl =>
      have hb0 := fun w => bare_calls 9 o n s a args.length cap (args.length : Int) false false true w
      have hK : Hid (R = dec (Bare o n s args.length (args.length : Int) false false true ∧ (args.length : Int) ≤ 8 ∧ IsNm s)) := by show R = _; rw [← HRe.out]; exact dec_congr (by simp [KindOk])
      clear HRe
      by_cases hB : Bare o n s args.length (args.length : Int) false false true
      rotate_left
      · obtain rfl : R = false := by rw [hK.out]; exact dec_false (by simp [hB])
        rw [dec_false hB] at hb0
        have HB := Lib.hid hb0
        clear hK hb0 hB
        go_wp2_with (go_at_call 121; refine (HB.out _).mono ?_; rintro e w' ⟨rfl, hb⟩; obtain ⟨hcl, hfz⟩ := bcell hb; have hz1 := one_new hb)
        go_meet
        case rel => exact ⟨rfl, (below_on (Below.refl _ _) (by simp) hb)⟩
      rw [dec_true hB] at hb0
      have HB := Lib.hid hb0
      clear hb0
      by_cases h8 : (args.length : Int) ≤ 8
      rotate_left
      · obtain rfl : R = false := by rw [hK.out]; exact dec_false (by simp [h8])
        have q1 : decide ((args.length : Int) ≤ 8) = false := by simpa using h8
        clear hK hB
        go_wp2_with (go_at_call 121; refine (HB.out _).mono ?_; rintro e w' ⟨rfl, hb⟩; obtain ⟨hcl, hfz⟩ := bcell hb; have hz1 := one_new hb)
        go_meet
        case rel => exact ⟨rfl, (below_on (Below.refl _ _) (by simp) hb)⟩
      have q1 : decide ((args.length : Int) ≤ 8) = true := by simpa using h8
      obtain rfl : R = dec (IsNm s) := by rw [hK.out]; exact dec_congr (by simp [hB, h8])
      have HX := Lib.hid (fun w => nameR_calls s w hsz)
      clear hK hB
      go_wp2_with (first | (go_at_call 121; refine (HB.out _).mono ?_; rintro e w' ⟨rfl, hb⟩; obtain ⟨hcl, hfz⟩ := bcell hb; have hz1 := one_new hb) | (go_at_call 76; refine (HX.out _).mono ?_; rintro e w2 ⟨rfl, rfl⟩))
      go_meet
      case rel => exact ⟨rfl, (below_on (Below.refl _ _) (by simp) hb)⟩
    case inr.inr.inr.inr.inr.inr.inr.inr.inr.inl =>
      have hb0 := fun w => bare_calls 10 o n s a args.length cap 1 true false false w
      have hK : Hid (R = dec (Bare o n s args.length 1 true false false ∧ (1 ≤ o ∧ o ≤ 3))) := by show R = _; rw [← HRe.out]; exact dec_congr (by simp [KindOk])
      clear HRe
      by_cases hB : Bare o n s args.length 1 true false false
      rotate_left
      · obtain rfl : R = false := by rw [hK.out]; exact dec_false (by simp [hB])
        rw [dec_false hB] at hb0
        have HB := Lib.hid hb0
        clear hK hb0 hB
        go_wp2_with (go_at_call 121; refine (HB.out _).mono ?_; rintro e w' ⟨rfl, hb⟩; obtain ⟨hcl, hfz⟩ := bcell hb; have hz1 := one_new hb)
        go_meet
        case rel => exact ⟨rfl, (below_on (Below.refl _ _) (by simp) hb)⟩
      rw [dec_true hB] at hb0
      have HB := Lib.hid hb0
      clear hb0
      obtain rfl : R = dec (1 ≤ o ∧ o ≤ 3) := by rw [hK.out]; exact dec_congr (by simp [hB])
      have HX := Lib.hid (fun w => among_calls o 1 3 w)
      clear hK hB
      go_wp2_with (first | (go_at_call 121; refine (HB.out _).mono ?_; rintro e w' ⟨rfl, hb⟩; obtain ⟨hcl, hfz⟩ := bcell hb; have hz1 := one_new hb) | (go_at_call 119; refine (HX.out _).mono ?_; rintro e w2 ⟨rfl, rfl⟩))
      go_meet
      case rel => exact ⟨rfl, (below_on (Below.refl _ _) (by simp) hb)⟩
    case inr.inr.inr.inr.inr.inr.inr.inr.inr.inr.inl =>
      have hb0 := fun w => bare_calls 11 o n s a args.length cap 1 false false false w
      have hK : Hid (R = dec (Bare o n s args.length 1 false false false)) := by show R = _; rw [← HRe.out]; exact dec_congr (by simp [KindOk])
      clear HRe
      by_cases hB : Bare o n s args.length 1 false false false
      rotate_left
      · obtain rfl : R = false := by rw [hK.out]; exact dec_false (by simp [hB])
        rw [dec_false hB] at hb0
        have HB := Lib.hid hb0
        clear hK hb0 hB
        go_wp2_with (go_at_call 121; refine (HB.out _).mono ?_; rintro e w' ⟨rfl, hb⟩; obtain ⟨hcl, hfz⟩ := bcell hb; have hz1 := one_new hb)
        go_meet
        case rel => exact ⟨rfl, (below_on (Below.refl _ _) (by simp) hb)⟩
      rw [dec_true hB] at hb0
      have HB := Lib.hid hb0
      clear hb0
      obtain rfl : R = true := by rw [hK.out]; exact dec_true (by simp [hB])
      clear hK hB
      go_wp2_with (go_at_call 121; refine (HB.out _).mono ?_; rintro e w' ⟨rfl, hb⟩; obtain ⟨hcl, hfz⟩ := bcell hb; have hz1 := one_new hb)
      go_meet
      case rel => exact ⟨rfl, (below_on (Below.refl _ _) (by simp) hb)⟩
    case inr.inr.inr.inr.inr.inr.inr.inr.inr.inr.inr.inl =>
      have hb0 := fun w => bare_calls 12 o n s a args.length cap 0 true false false w
      have hK : Hid (R = dec (Bare o n s args.length 0 true false false ∧ (1 ≤ o ∧ o ≤ 6))) := by show R = _; rw [← HRe.out]; exact dec_congr (by simp [KindOk])
      clear HRe
      by_cases hB : Bare o n s args.length 0 true false false
      rotate_left
      · obtain rfl : R = false := by rw [hK.out]; exact dec_false (by simp [hB])
        rw [dec_false hB] at hb0
        have HB := Lib.hid hb0
        clear hK hb0 hB
        go_wp2_with (go_at_call 121; refine (HB.out _).mono ?_; rintro e w' ⟨rfl, hb⟩; obtain ⟨hcl, hfz⟩ := bcell hb; have hz1 := one_new hb)
        go_meet
        case rel => exact ⟨rfl, (below_on (Below.refl _ _) (by simp) hb)⟩
      rw [dec_true hB] at hb0
      have HB := Lib.hid hb0
      clear hb0
      obtain rfl : R = dec (1 ≤ o ∧ o ≤ 6) := by rw [hK.out]; exact dec_congr (by simp [hB])
      have HX := Lib.hid (fun w => among_calls o 1 6 w)
      clear hK hB
      go_wp2_with (first | (go_at_call 121; refine (HB.out _).mono ?_; rintro e w' ⟨rfl, hb⟩; obtain ⟨hcl, hfz⟩ := bcell hb; have hz1 := one_new hb) | (go_at_call 119; refine (HX.out _).mono ?_; rintro e w2 ⟨rfl, rfl⟩))
      go_meet
      case rel => exact ⟨rfl, (below_on (Below.refl _ _) (by simp) hb)⟩
    case inr.inr.inr.inr.inr.inr.inr.inr.inr.inr.inr.inr.inl =>
      have hb0 := fun w => bare_calls 13 o n s a args.length cap 1 false false false w
      have hK : Hid (R = dec (said = true ∧ Bare o n s args.length 1 false false false)) := by show R = _; rw [← HRe.out]; exact dec_congr (by simp [KindOk])
      clear HRe
      cases said
      · obtain rfl : R = false := by rw [hK.out]; exact dec_false (by simp)
        clear hK hb0
        go_wp2
        go_meet
        case rel => exact ⟨rfl, Below.refl _ _⟩
      by_cases hB : Bare o n s args.length 1 false false false
      rotate_left
      · obtain rfl : R = false := by rw [hK.out]; exact dec_false (by simp [hB])
        rw [dec_false hB] at hb0
        have HB := Lib.hid hb0
        clear hK hb0 hB
        go_wp2_with (go_at_call 121; refine (HB.out _).mono ?_; rintro e w' ⟨rfl, hb⟩; obtain ⟨hcl, hfz⟩ := bcell hb; have hz1 := one_new hb)
        go_meet
        case rel => exact ⟨rfl, (below_on (Below.refl _ _) (by simp) hb)⟩
      rw [dec_true hB] at hb0
      have HB := Lib.hid hb0
      clear hb0
      obtain rfl : R = true := by rw [hK.out]; exact dec_true (by simp [hB])
      clear hK hB
      go_wp2_with (go_at_call 121; refine (HB.out _).mono ?_; rintro e w' ⟨rfl, hb⟩; obtain ⟨hcl, hfz⟩ := bcell hb; have hz1 := one_new hb)
      go_meet
      case rel => exact ⟨rfl, (below_on (Below.refl _ _) (by simp) hb)⟩
    case inr.inr.inr.inr.inr.inr.inr.inr.inr.inr.inr.inr.inr.inl =>
      obtain rfl : R = false := by rw [← HRe.out]; exact dec_false (by have hz : k ≠ 1 ∧ k ≠ 2 ∧ k ≠ 3 ∧ k ≠ 4 ∧ k ≠ 5 ∧ k ≠ 6 ∧ k ≠ 7 ∧ k ≠ 8 ∧ k ≠ 9 ∧ k ≠ 10 ∧ k ≠ 11 ∧ k ≠ 12 ∧ k ≠ 13 := (by omega); simp [KindOk, hz])
      clear HRe
      go_wp2
      go_meet
      case rel => exact ⟨rfl, Below.refl _ _⟩
    case inr.inr.inr.inr.inr.inr.inr.inr.inr.inr.inr.inr.inr.inr =>
      obtain rfl : R = false := by rw [← HRe.out]; exact dec_false (by have hz : k ≠ 1 ∧ k ≠ 2 ∧ k ≠ 3 ∧ k ≠ 4 ∧ k ≠ 5 ∧ k ≠ 6 ∧ k ≠ 7 ∧ k ≠ 8 ∧ k ≠ 9 ∧ k ≠ 10 ∧ k ≠ 11 ∧ k ≠ 12 ∧ k ≠ 13 := (by omega); simp [KindOk, hz])
      clear HRe
      go_wp2
      go_meet
      case rel => exact ⟨rfl, Below.refl _ _⟩
  case rest =>
    obtain ⟨rfl, hB0⟩ := hcut
    have hB := below_of_alloc hB0
    have hbx : wc.cell? ⟨w.heap.size, 4, none⟩ = some (.slice a args.length cap) := cell_kept hB0 (by go_simp)
    go_wp2
    go_loopw [5, 111] (fun b i wr => ∃ (j : Nat) (c : Bool), j ≤ args.length ∧ i = .int .i64 j ∧ b = .bool c ∧ Hid (c = dec (KindOk said k o n s args.length ∧ ∀ x ∈ args.take j, RightR false x)) ∧ Below wc.heap.size wc wr) (fun _ i _ => args.length - (intOf i).toNat)
    case atStart => exact ⟨0, _, Nat.zero_le _, rfl, rfl, by show R = _; rw [← HRe.out]; exact dec_congr (by simp), Below.refl _ _⟩
    case round =>
      obtain ⟨j, c, hj, rfl, rfl, hq, hB1⟩ := hrel
      have hB2 := below_on hB (Nat.le_refl _) hB1
      by_cases hlt : j < args.length
      · obtain ⟨b, off, rfl, hFb, hel⟩ := ha (by omega)
        obtain ⟨kd', o', n', s', a', m', cap', hx, g0, g1, g2, g3, g4⟩ := hel wr (hB2.block b (hF b hFb)) j hlt
        have hI := hF.below hB2
        have hcall : ∀ ob, Calls Tryz.prog 77 #[.agg #[.int .i64 kd', .int .i64 o', .int .i64 n', .string s', .slice a' m' cap'], .bool false] (wr.alloc ob) (Gives (wr.alloc ob) (.bool (dec (RightR false args[j])))) := fun ob =>
          ih _ (List.getElem_mem hlt) F (wr.alloc ob) _ false (hI.alloc ob) ((hx.below hF hB2 (Nat.le_refl _)).alloc hI ob)
        have hte : args.take (j + 1) = args.take j ++ [args[j]] := List.take_succ_eq_append_getElem hlt
        have HC := Lib.hid hcall
        cases c
        · have hnx : Hid (false = dec (KindOk said k o n s args.length ∧ ∀ x ∈ args.take (j + 1), RightR false x)) := by
            show false = _
            symm
            refine dec_false (fun h => ?_)
            have h1 := hq.out
            rw [dec_true ⟨h.1, fun x hx => h.2 x (by rw [hte]; exact List.mem_append_left _ hx)⟩] at h1
            cases h1
          clear hcall hx ih hte hq ha hel hxa hr
          go_wp2
          go_roundw
          case rel => exact ⟨j + 1, false, by omega, by go_num, rfl, hnx, hB1.alloc hB1.size _⟩
          case measure => simp [intOf]; omega
        · have hnx : Hid (dec (RightR false args[j]) = dec (KindOk said k o n s args.length ∧ ∀ x ∈ args.take (j + 1), RightR false x)) := by
            refine dec_congr ?_
            have h1 := dec_iff.1 hq.out.symm
            rw [hte]
            constructor
            · intro h; exact ⟨h1.1, fun x hx => (List.mem_append.1 hx).elim (h1.2 x) (fun h2 => by rw [List.mem_singleton.1 h2]; exact h)⟩
            · intro h; exact h.2 _ (List.mem_append_right _ (by simp))
          clear hcall hx ih hte hq ha hel hxa hr
          go_wp2_with (go_at_call 77; refine (HC.out _).mono ?_; rintro e w' ⟨rfl, hb⟩)
          go_roundw
          case rel => exact ⟨j + 1, _, by omega, by go_num, rfl, hnx, below_on1 hB1 (Nat.le_refl _) hb⟩
          case measure => simp [intOf]; omega
      · have : j = args.length := by omega
        subst this
        have hq2 : Hid (dec (RightR said (.mk k o n s args)) = c) := by show _ = c; rw [hfinR.out, hq.out, List.take_length]
        clear hq ha hfinR HRe
        go_wp2
        go_ret
        exact ⟨ret_bool hq2.out.symm, hB2⟩
theorem kindOk_iff (said : Bool) (k o n : Int) (s : ByteArray) (m : Nat) :
    KindOk said k o n s m ↔ (said = true ∨ ¬ SaidK k) ∧ (1 ≤ k ∧ k ≤ 13) ∧ Shaped k o n s m ∧ (k = 1 → 0 ≤ n ∧ n ≤ 32767) ∧ (k = 2 → IsText s) ∧ (k = 3 ∨ k = 7 ∨ k = 8 ∨ k = 9 → IsNm s) := by
  have hcs : k = 1 ∨ k = 2 ∨ k = 3 ∨ k = 4 ∨ k = 5 ∨ k = 6 ∨ k = 7 ∨ k = 8 ∨ k = 9 ∨ k = 10 ∨ k = 11 ∨ k = 12 ∨ k = 13 ∨ k < 1 ∨ 13 < k := by omega
  rcases hcs with rfl | rfl | rfl | rfl | rfl | rfl | rfl | rfl | rfl | rfl | rfl | rfl | rfl | h | h
  case inr.inr.inr.inr.inr.inr.inr.inr.inr.inr.inr.inr.inr.inl =>
    have hz : k ≠ 1 ∧ k ≠ 2 ∧ k ≠ 3 ∧ k ≠ 4 ∧ k ≠ 5 ∧ k ≠ 6 ∧ k ≠ 7 ∧ k ≠ 8 ∧ k ≠ 9 ∧ k ≠ 10 ∧ k ≠ 11 ∧ k ≠ 12 ∧ k ≠ 13 := (by omega)
    simp [KindOk, hz]; omega
  case inr.inr.inr.inr.inr.inr.inr.inr.inr.inr.inr.inr.inr.inr =>
    have hz : k ≠ 1 ∧ k ≠ 2 ∧ k ≠ 3 ∧ k ≠ 4 ∧ k ≠ 5 ∧ k ≠ 6 ∧ k ≠ 7 ∧ k ≠ 8 ∧ k ≠ 9 ∧ k ≠ 10 ∧ k ≠ 11 ∧ k ≠ 12 ∧ k ≠ 13 := (by omega)
    simp [KindOk, hz]; omega
  all_goals
    simp only [KindOk, Bare, Shaped, hasOf, SaidK, OpOk]
    simp
    try omega
  all_goals grind
theorem rightR_iff (e : Ex) : ∀ said, RightR said e ↔ (said = true ∨ ¬ SaidK e.kind) ∧ Src e := by
  induction e using Ex.ind with
  | h k o n s args ih =>
  intro said
  have h1 : (∀ a ∈ args, RightR false a) ↔ ∀ a ∈ args, ¬ SaidK a.kind ∧ Src a := by
    constructor
    · intro h a ha; have := (ih a ha false).1 (h a ha); simpa using this
    · intro h a ha; exact (ih a ha false).2 (by simpa using h a ha)
  simp only [RightR, rightRs_iff, Src, srcs_iff, kindOk_iff, h1, Ex.kind]
  grind
end Go.Proofs.YtnbfadgclffgkaaGreatDoor
