/- The walks of clewref10.has and clewref10.shape: whether a statement has what its kind has. (Printed by gen-stshape.py.) -/
import Derived.Test.YtnbfadgclffgkaaGreatDoorPart32955a71
import Derived.Test.YtnbfadgclffgkaaGreatDoorPartad8ea8a8
namespace Go.Proofs.YtnbfadgclffgkaaGreatDoor
open Go.RowKit Go.Sort
def HasP (named : Bool) (ar : Int) (body other : Bool) (n : Int) (s : ByteArray) (m m2 m3 : Nat) : Prop :=
  (m : Int) = ar ∧ (body = true ∨ m2 = 0) ∧ (other = true ∨ m3 = 0) ∧ (named = true ∨ s = ByteArray.empty ∧ n = 0)
set_option maxRecDepth 100000 in
set_option maxHeartbeats 4000000 in
theorem has_calls (k n : Int) (s : ByteArray) (a : Option Addr) (m cap : Nat) (a2 : Option Addr) (m2 cap2 : Nat) (a3 : Option Addr) (m3 cap3 : Nat) (named : Bool) (ar : Int) (body other : Bool) (w : World) :
    Calls Tryz.prog 118 #[.agg #[.int .i64 k, .int .i64 n, .string s, .slice a m cap, .slice a2 m2 cap2, .slice a3 m3 cap3], .bool named, .int .i64 ar, .bool body, .bool other] w (Gives w (.bool (dec (HasP named ar body other n s m m2 m3)))) := by
  by_cases p1 : (m : Int) = ar
  rotate_left
  · have q1 : ((m : Int) == ar) = false := by simpa using p1
    have hfin : Hid (dec (HasP named ar body other n s m m2 m3) = false) := dec_false (by unfold HasP; first | grind | (simp; grind) | simp)
    clear p1
    go_enter Tryz.func118, Tryz.ntmps118
    go_wp2
    go_ret
    exact ⟨by first | exact ret_bool hfin.out.symm | (rw [hfin.out]; simp), (Below.refl _ _).alloc (Nat.le_refl _) _⟩
  have q1 : ((m : Int) == ar) = true := by simpa using p1
  cases body
  · by_cases p2 : m2 = 0
    rotate_left
    · have q2 : ((m2 : Int) == 0) = false := by simpa using p2
      have hfin : Hid (dec (HasP named ar false other n s m m2 m3) = false) := dec_false (by unfold HasP; first | grind | (simp; grind) | simp)
      clear p1 p2
      go_enter Tryz.func118, Tryz.ntmps118
      go_wp2
      go_ret
      exact ⟨by first | exact ret_bool hfin.out.symm | (rw [hfin.out]; simp), (Below.refl _ _).alloc (Nat.le_refl _) _⟩
    have q2 : ((m2 : Int) == 0) = true := by simpa using p2
    cases other
    · by_cases p3 : m3 = 0
      rotate_left
      · have q3 : ((m3 : Int) == 0) = false := by simpa using p3
        have hfin : Hid (dec (HasP named ar false false n s m m2 m3) = false) := dec_false (by unfold HasP; first | grind | (simp; grind) | simp)
        clear p1 p2 p3
        go_enter Tryz.func118, Tryz.ntmps118
        go_wp2
        go_ret
        exact ⟨by first | exact ret_bool hfin.out.symm | (rw [hfin.out]; simp), (Below.refl _ _).alloc (Nat.le_refl _) _⟩
      have q3 : ((m3 : Int) == 0) = true := by simpa using p3
      cases named
      · by_cases p4 : s = ByteArray.empty
        rotate_left
        · have q4 := strne p4
          have q5 : s.toList.isEmpty = false := by simpa using q4
          have hfin : Hid (dec (HasP false ar false false n s m m2 m3) = false) := dec_false (by unfold HasP; first | grind | (simp; grind) | simp)
          clear p1 p2 p3 p4
          go_enter Tryz.func118, Tryz.ntmps118
          go_wp2
          go_ret
          exact ⟨by first | exact ret_bool hfin.out.symm | (rw [hfin.out]; simp), (Below.refl _ _).alloc (Nat.le_refl _) _⟩
        subst p4
        by_cases p5 : n = 0
        · have q6 : (n == 0) = true := by simpa using p5
          have hfin : Hid (dec (HasP false ar false false n ByteArray.empty m m2 m3) = true) := dec_true (by unfold HasP; first | grind | (simp; grind) | simp)
          clear p1 p2 p3 p5
          go_enter Tryz.func118, Tryz.ntmps118
          go_wp2
          go_ret
          exact ⟨by first | exact ret_bool hfin.out.symm | (rw [hfin.out]; simp), (Below.refl _ _).alloc (Nat.le_refl _) _⟩
        · have q6 : (n == 0) = false := by simpa using p5
          have hfin : Hid (dec (HasP false ar false false n ByteArray.empty m m2 m3) = false) := dec_false (by unfold HasP; first | grind | (simp; grind) | simp)
          clear p1 p2 p3 p5
          go_enter Tryz.func118, Tryz.ntmps118
          go_wp2
          go_ret
          exact ⟨by first | exact ret_bool hfin.out.symm | (rw [hfin.out]; simp), (Below.refl _ _).alloc (Nat.le_refl _) _⟩
      · have hfin : Hid (dec (HasP true ar false false n s m m2 m3) = true) := dec_true (by unfold HasP; first | grind | (simp; grind) | simp)
        clear p1 p2 p3
        go_enter Tryz.func118, Tryz.ntmps118
        go_wp2
        go_ret
        exact ⟨by first | exact ret_bool hfin.out.symm | (rw [hfin.out]; simp), (Below.refl _ _).alloc (Nat.le_refl _) _⟩
    · cases named
      · by_cases p4 : s = ByteArray.empty
        rotate_left
        · have q4 := strne p4
          have q5 : s.toList.isEmpty = false := by simpa using q4
          have hfin : Hid (dec (HasP false ar false true n s m m2 m3) = false) := dec_false (by unfold HasP; first | grind | (simp; grind) | simp)
          clear p1 p2 p4
          go_enter Tryz.func118, Tryz.ntmps118
          go_wp2
          go_ret
          exact ⟨by first | exact ret_bool hfin.out.symm | (rw [hfin.out]; simp), (Below.refl _ _).alloc (Nat.le_refl _) _⟩
        subst p4
        by_cases p5 : n = 0
        · have q6 : (n == 0) = true := by simpa using p5
          have hfin : Hid (dec (HasP false ar false true n ByteArray.empty m m2 m3) = true) := dec_true (by unfold HasP; first | grind | (simp; grind) | simp)
          clear p1 p2 p5
          go_enter Tryz.func118, Tryz.ntmps118
          go_wp2
          go_ret
          exact ⟨by first | exact ret_bool hfin.out.symm | (rw [hfin.out]; simp), (Below.refl _ _).alloc (Nat.le_refl _) _⟩
        · have q6 : (n == 0) = false := by simpa using p5
          have hfin : Hid (dec (HasP false ar false true n ByteArray.empty m m2 m3) = false) := dec_false (by unfold HasP; first | grind | (simp; grind) | simp)
          clear p1 p2 p5
          go_enter Tryz.func118, Tryz.ntmps118
          go_wp2
          go_ret
          exact ⟨by first | exact ret_bool hfin.out.symm | (rw [hfin.out]; simp), (Below.refl _ _).alloc (Nat.le_refl _) _⟩
      · have hfin : Hid (dec (HasP true ar false true n s m m2 m3) = true) := dec_true (by unfold HasP; first | grind | (simp; grind) | simp)
        clear p1 p2
        go_enter Tryz.func118, Tryz.ntmps118
        go_wp2
        go_ret
        exact ⟨by first | exact ret_bool hfin.out.symm | (rw [hfin.out]; simp), (Below.refl _ _).alloc (Nat.le_refl _) _⟩
  · cases other
    · by_cases p3 : m3 = 0
      rotate_left
      · have q3 : ((m3 : Int) == 0) = false := by simpa using p3
        have hfin : Hid (dec (HasP named ar true false n s m m2 m3) = false) := dec_false (by unfold HasP; first | grind | (simp; grind) | simp)
        clear p1 p3
        go_enter Tryz.func118, Tryz.ntmps118
        go_wp2
        go_ret
        exact ⟨by first | exact ret_bool hfin.out.symm | (rw [hfin.out]; simp), (Below.refl _ _).alloc (Nat.le_refl _) _⟩
      have q3 : ((m3 : Int) == 0) = true := by simpa using p3
      cases named
      · by_cases p4 : s = ByteArray.empty
        rotate_left
        · have q4 := strne p4
          have q5 : s.toList.isEmpty = false := by simpa using q4
          have hfin : Hid (dec (HasP false ar true false n s m m2 m3) = false) := dec_false (by unfold HasP; first | grind | (simp; grind) | simp)
          clear p1 p3 p4
          go_enter Tryz.func118, Tryz.ntmps118
          go_wp2
          go_ret
          exact ⟨by first | exact ret_bool hfin.out.symm | (rw [hfin.out]; simp), (Below.refl _ _).alloc (Nat.le_refl _) _⟩
        subst p4
        by_cases p5 : n = 0
        · have q6 : (n == 0) = true := by simpa using p5
          have hfin : Hid (dec (HasP false ar true false n ByteArray.empty m m2 m3) = true) := dec_true (by unfold HasP; first | grind | (simp; grind) | simp)
          clear p1 p3 p5
          go_enter Tryz.func118, Tryz.ntmps118
          go_wp2
          go_ret
          exact ⟨by first | exact ret_bool hfin.out.symm | (rw [hfin.out]; simp), (Below.refl _ _).alloc (Nat.le_refl _) _⟩
        · have q6 : (n == 0) = false := by simpa using p5
          have hfin : Hid (dec (HasP false ar true false n ByteArray.empty m m2 m3) = false) := dec_false (by unfold HasP; first | grind | (simp; grind) | simp)
          clear p1 p3 p5
          go_enter Tryz.func118, Tryz.ntmps118
          go_wp2
          go_ret
          exact ⟨by first | exact ret_bool hfin.out.symm | (rw [hfin.out]; simp), (Below.refl _ _).alloc (Nat.le_refl _) _⟩
      · have hfin : Hid (dec (HasP true ar true false n s m m2 m3) = true) := dec_true (by unfold HasP; first | grind | (simp; grind) | simp)
        clear p1 p3
        go_enter Tryz.func118, Tryz.ntmps118
        go_wp2
        go_ret
        exact ⟨by first | exact ret_bool hfin.out.symm | (rw [hfin.out]; simp), (Below.refl _ _).alloc (Nat.le_refl _) _⟩
    · cases named
      · by_cases p4 : s = ByteArray.empty
        rotate_left
        · have q4 := strne p4
          have q5 : s.toList.isEmpty = false := by simpa using q4
          have hfin : Hid (dec (HasP false ar true true n s m m2 m3) = false) := dec_false (by unfold HasP; first | grind | (simp; grind) | simp)
          clear p1 p4
          go_enter Tryz.func118, Tryz.ntmps118
          go_wp2
          go_ret
          exact ⟨by first | exact ret_bool hfin.out.symm | (rw [hfin.out]; simp), (Below.refl _ _).alloc (Nat.le_refl _) _⟩
        subst p4
        by_cases p5 : n = 0
        · have q6 : (n == 0) = true := by simpa using p5
          have hfin : Hid (dec (HasP false ar true true n ByteArray.empty m m2 m3) = true) := dec_true (by unfold HasP; first | grind | (simp; grind) | simp)
          clear p1 p5
          go_enter Tryz.func118, Tryz.ntmps118
          go_wp2
          go_ret
          exact ⟨by first | exact ret_bool hfin.out.symm | (rw [hfin.out]; simp), (Below.refl _ _).alloc (Nat.le_refl _) _⟩
        · have q6 : (n == 0) = false := by simpa using p5
          have hfin : Hid (dec (HasP false ar true true n ByteArray.empty m m2 m3) = false) := dec_false (by unfold HasP; first | grind | (simp; grind) | simp)
          clear p1 p5
          go_enter Tryz.func118, Tryz.ntmps118
          go_wp2
          go_ret
          exact ⟨by first | exact ret_bool hfin.out.symm | (rw [hfin.out]; simp), (Below.refl _ _).alloc (Nat.le_refl _) _⟩
      · have hfin : Hid (dec (HasP true ar true true n s m m2 m3) = true) := dec_true (by unfold HasP; first | grind | (simp; grind) | simp)
        clear p1
        go_enter Tryz.func118, Tryz.ntmps118
        go_wp2
        go_ret
        exact ⟨by first | exact ret_bool hfin.out.symm | (rw [hfin.out]; simp), (Below.refl _ _).alloc (Nat.le_refl _) _⟩
theorem dec_and {p q : Prop} : (dec p && dec q) = dec (p ∧ q) := by
  by_cases hp : p
  · by_cases hq : q
    · rw [dec_true hp, dec_true hq, dec_true ⟨hp, hq⟩]; rfl
    · rw [dec_false hq, Bool.and_false, dec_false (p := p ∧ q) (fun h => hq h.2)]
  · rw [dec_false hp, Bool.false_and, dec_false (p := p ∧ q) (fun h => hp h.1)]
def shapeP (k n : Int) (s : ByteArray) (m m2 m3 : Nat) : Prop :=
  (partsOf k).is = true ∧ HasP (partsOf k).named (if k = 1 then m else (partsOf k).least) (partsOf k).body (partsOf k).other n s m m2 m3 ∧ (k = 1 → 1 ≤ m ∧ m ≤ 8)
set_option maxRecDepth 100000 in
set_option maxHeartbeats 4000000 in
theorem shape_calls (k n : Int) (s : ByteArray) (a : Option Addr) (m cap : Nat) (a2 : Option Addr) (m2 cap2 : Nat) (a3 : Option Addr) (m3 cap3 : Nat) (w : World) :
    Calls Tryz.prog 75 #[.agg #[.int .i64 k, .int .i64 n, .string s, .slice a m cap, .slice a2 m2 cap2, .slice a3 m3 cap3]] w (Gives w (.tuple #[.bool (dec (shapeP k n s m m2 m3)), .bool (partsOf k).named])) := by
  have HH := Lib.hid (fun named ar body other w' => has_calls k n s a m cap a2 m2 cap2 a3 m3 cap3 named ar body other w')
  have HM := Lib.hid (fun w' => among_calls m 1 8 w')
  have hz : (k < 1 ∨ 23 < k) → partsOf k = ⟨false, false, false, 0, 0, false⟩ := fun h => by
    unfold partsOf
    repeat (rw [if_neg (by omega)])
  have hS : Hid (dec (shapeP k n s m m2 m3) = dec (shapeP k n s m m2 m3)) := rfl
  generalize hR : dec (shapeP k n s m m2 m3) = R at hS ⊢
  rcases skind_cases k with rfl | rfl | rfl | rfl | rfl | rfl | rfl | rfl | rfl | rfl | rfl | rfl | rfl | rfl | rfl | rfl | rfl | rfl | rfl | rfl | rfl | rfl | rfl | h | h
  case inl =>
    clear hz hS
    have hP : Hid (R = (dec (HasP false m false false n s m m2 m3) && dec ((1 : Int) ≤ m ∧ (m : Int) ≤ 8))) := by
      show R = _
      rw [← hR, dec_and]
      exact dec_congr (by simp [shapeP, partsOf]; omega)
    generalize dec ((1 : Int) ≤ m ∧ (m : Int) ≤ 8) = Y at *
    generalize hX : dec (HasP false m false false n s m m2 m3) = X at *
    have HX := Lib.hid (fun w' => by have := HH.out false m false false w'; rwa [hX] at this)
    clear HH hR hX
    have hx : X = true ∨ X = false := by cases X <;> simp
    rcases hx with rfl | rfl
    all_goals
      go_enter Tryz.func75, Tryz.ntmps75
      go_wp2_with (first | (go_at_call 118; refine (HX.out _).mono ?_; rintro e w' ⟨rfl, hb⟩; obtain ⟨hcl, hfz⟩ := bcell hb; have hz1 := one_new hb) | (go_at_call 119; refine (HM.out _).mono ?_; rintro e w2 ⟨rfl, rfl⟩))
      exact bodyPost_ret (v := .tuple #[.bool R, .bool false]) (by rw [hP.out]; simp [results, Tryz.results75, go_sem]) rfl ⟨rfl, below_on1 (Below.refl _ _) (Nat.le_refl _) hb⟩
  case inr.inl =>
    clear hz hS
    have hP : Hid (R = dec (HasP true 1 false false n s m m2 m3)) := by
      show R = _
      rw [← hR]
      exact dec_congr (by simp [shapeP, partsOf])
    have HX := Lib.hid (fun w' => HH.out true 1 false false w')
    clear HH HM hR
    go_enter Tryz.func75, Tryz.ntmps75
    go_wp2_with (go_at_call 118; refine (HX.out _).mono ?_; rintro e w' ⟨rfl, hb⟩; obtain ⟨hcl, hfz⟩ := bcell hb; have hz1 := one_new hb)
    exact bodyPost_ret (v := .tuple #[.bool R, .bool true]) (by rw [hP.out]; simp [results, Tryz.results75, go_sem]) rfl ⟨rfl, below_on1 (Below.refl _ _) (Nat.le_refl _) hb⟩
  case inr.inr.inl =>
    clear hz hS
    have hP : Hid (R = dec (HasP true 1 false false n s m m2 m3)) := by
      show R = _
      rw [← hR]
      exact dec_congr (by simp [shapeP, partsOf])
    have HX := Lib.hid (fun w' => HH.out true 1 false false w')
    clear HH HM hR
    go_enter Tryz.func75, Tryz.ntmps75
    go_wp2_with (go_at_call 118; refine (HX.out _).mono ?_; rintro e w' ⟨rfl, hb⟩; obtain ⟨hcl, hfz⟩ := bcell hb; have hz1 := one_new hb)
    exact bodyPost_ret (v := .tuple #[.bool R, .bool true]) (by rw [hP.out]; simp [results, Tryz.results75, go_sem]) rfl ⟨rfl, below_on1 (Below.refl _ _) (Nat.le_refl _) hb⟩
  case inr.inr.inr.inl =>
    clear hz hS
    have hP : Hid (R = dec (HasP true 2 false false n s m m2 m3)) := by
      show R = _
      rw [← hR]
      exact dec_congr (by simp [shapeP, partsOf])
    have HX := Lib.hid (fun w' => HH.out true 2 false false w')
    clear HH HM hR
    go_enter Tryz.func75, Tryz.ntmps75
    go_wp2_with (go_at_call 118; refine (HX.out _).mono ?_; rintro e w' ⟨rfl, hb⟩; obtain ⟨hcl, hfz⟩ := bcell hb; have hz1 := one_new hb)
    exact bodyPost_ret (v := .tuple #[.bool R, .bool true]) (by rw [hP.out]; simp [results, Tryz.results75, go_sem]) rfl ⟨rfl, below_on1 (Below.refl _ _) (Nat.le_refl _) hb⟩
  case inr.inr.inr.inr.inl =>
    clear hz hS
    have hP : Hid (R = dec (HasP true 1 false false n s m m2 m3)) := by
      show R = _
      rw [← hR]
      exact dec_congr (by simp [shapeP, partsOf])
    have HX := Lib.hid (fun w' => HH.out true 1 false false w')
    clear HH HM hR
    go_enter Tryz.func75, Tryz.ntmps75
    go_wp2_with (go_at_call 118; refine (HX.out _).mono ?_; rintro e w' ⟨rfl, hb⟩; obtain ⟨hcl, hfz⟩ := bcell hb; have hz1 := one_new hb)
    exact bodyPost_ret (v := .tuple #[.bool R, .bool true]) (by rw [hP.out]; simp [results, Tryz.results75, go_sem]) rfl ⟨rfl, below_on1 (Below.refl _ _) (Nat.le_refl _) hb⟩
  case inr.inr.inr.inr.inr.inl =>
    clear hz hS
    have hP : Hid (R = dec (HasP true 1 false false n s m m2 m3)) := by
      show R = _
      rw [← hR]
      exact dec_congr (by simp [shapeP, partsOf])
    have HX := Lib.hid (fun w' => HH.out true 1 false false w')
    clear HH HM hR
    go_enter Tryz.func75, Tryz.ntmps75
    go_wp2_with (go_at_call 118; refine (HX.out _).mono ?_; rintro e w' ⟨rfl, hb⟩; obtain ⟨hcl, hfz⟩ := bcell hb; have hz1 := one_new hb)
    exact bodyPost_ret (v := .tuple #[.bool R, .bool true]) (by rw [hP.out]; simp [results, Tryz.results75, go_sem]) rfl ⟨rfl, below_on1 (Below.refl _ _) (Nat.le_refl _) hb⟩
  case inr.inr.inr.inr.inr.inr.inl =>
    clear hz hS
    have hP : Hid (R = dec (HasP false 2 false false n s m m2 m3)) := by
      show R = _
      rw [← hR]
      exact dec_congr (by simp [shapeP, partsOf])
    have HX := Lib.hid (fun w' => HH.out false 2 false false w')
    clear HH HM hR
    go_enter Tryz.func75, Tryz.ntmps75
    go_wp2_with (go_at_call 118; refine (HX.out _).mono ?_; rintro e w' ⟨rfl, hb⟩; obtain ⟨hcl, hfz⟩ := bcell hb; have hz1 := one_new hb)
    exact bodyPost_ret (v := .tuple #[.bool R, .bool false]) (by rw [hP.out]; simp [results, Tryz.results75, go_sem]) rfl ⟨rfl, below_on1 (Below.refl _ _) (Nat.le_refl _) hb⟩
  case inr.inr.inr.inr.inr.inr.inr.inl =>
    clear hz hS
    have hP : Hid (R = dec (HasP false 1 false false n s m m2 m3)) := by
      show R = _
      rw [← hR]
      exact dec_congr (by simp [shapeP, partsOf])
    have HX := Lib.hid (fun w' => HH.out false 1 false false w')
    clear HH HM hR
    go_enter Tryz.func75, Tryz.ntmps75
    go_wp2_with (go_at_call 118; refine (HX.out _).mono ?_; rintro e w' ⟨rfl, hb⟩; obtain ⟨hcl, hfz⟩ := bcell hb; have hz1 := one_new hb)
    exact bodyPost_ret (v := .tuple #[.bool R, .bool false]) (by rw [hP.out]; simp [results, Tryz.results75, go_sem]) rfl ⟨rfl, below_on1 (Below.refl _ _) (Nat.le_refl _) hb⟩
  case inr.inr.inr.inr.inr.inr.inr.inr.inl =>
    clear hz hS
    have hP : Hid (R = dec (HasP false 1 true true n s m m2 m3)) := by
      show R = _
      rw [← hR]
      exact dec_congr (by simp [shapeP, partsOf])
    have HX := Lib.hid (fun w' => HH.out false 1 true true w')
    clear HH HM hR
    go_enter Tryz.func75, Tryz.ntmps75
    go_wp2_with (go_at_call 118; refine (HX.out _).mono ?_; rintro e w' ⟨rfl, hb⟩; obtain ⟨hcl, hfz⟩ := bcell hb; have hz1 := one_new hb)
    exact bodyPost_ret (v := .tuple #[.bool R, .bool false]) (by rw [hP.out]; simp [results, Tryz.results75, go_sem]) rfl ⟨rfl, below_on1 (Below.refl _ _) (Nat.le_refl _) hb⟩
  case inr.inr.inr.inr.inr.inr.inr.inr.inr.inl =>
    clear hz hS
    have hP : Hid (R = dec (HasP false 1 true false n s m m2 m3)) := by
      show R = _
      rw [← hR]
      exact dec_congr (by simp [shapeP, partsOf])
    have HX := Lib.hid (fun w' => HH.out false 1 true false w')
    clear HH HM hR
    go_enter Tryz.func75, Tryz.ntmps75
    go_wp2_with (go_at_call 118; refine (HX.out _).mono ?_; rintro e w' ⟨rfl, hb⟩; obtain ⟨hcl, hfz⟩ := bcell hb; have hz1 := one_new hb)
    exact bodyPost_ret (v := .tuple #[.bool R, .bool false]) (by rw [hP.out]; simp [results, Tryz.results75, go_sem]) rfl ⟨rfl, below_on1 (Below.refl _ _) (Nat.le_refl _) hb⟩
  case inr.inr.inr.inr.inr.inr.inr.inr.inr.inr.inl =>
    clear hz hS
    have hP : Hid (R = dec (HasP true 1 true false n s m m2 m3)) := by
      show R = _
      rw [← hR]
      exact dec_congr (by simp [shapeP, partsOf])
    have HX := Lib.hid (fun w' => HH.out true 1 true false w')
    clear HH HM hR
    go_enter Tryz.func75, Tryz.ntmps75
    go_wp2_with (go_at_call 118; refine (HX.out _).mono ?_; rintro e w' ⟨rfl, hb⟩; obtain ⟨hcl, hfz⟩ := bcell hb; have hz1 := one_new hb)
    exact bodyPost_ret (v := .tuple #[.bool R, .bool true]) (by rw [hP.out]; simp [results, Tryz.results75, go_sem]) rfl ⟨rfl, below_on1 (Below.refl _ _) (Nat.le_refl _) hb⟩
  case inr.inr.inr.inr.inr.inr.inr.inr.inr.inr.inr.inl =>
    clear hz hS
    have hP : Hid (R = dec (HasP false 1 false false n s m m2 m3)) := by
      show R = _
      rw [← hR]
      exact dec_congr (by simp [shapeP, partsOf])
    have HX := Lib.hid (fun w' => HH.out false 1 false false w')
    clear HH HM hR
    go_enter Tryz.func75, Tryz.ntmps75
    go_wp2_with (go_at_call 118; refine (HX.out _).mono ?_; rintro e w' ⟨rfl, hb⟩; obtain ⟨hcl, hfz⟩ := bcell hb; have hz1 := one_new hb)
    exact bodyPost_ret (v := .tuple #[.bool R, .bool false]) (by rw [hP.out]; simp [results, Tryz.results75, go_sem]) rfl ⟨rfl, below_on1 (Below.refl _ _) (Nat.le_refl _) hb⟩
  case inr.inr.inr.inr.inr.inr.inr.inr.inr.inr.inr.inr.inl =>
    clear hz hS
    have hP : Hid (R = dec (HasP false 0 false false n s m m2 m3)) := by
      show R = _
      rw [← hR]
      exact dec_congr (by simp [shapeP, partsOf])
    have HX := Lib.hid (fun w' => HH.out false 0 false false w')
    clear HH HM hR
    go_enter Tryz.func75, Tryz.ntmps75
    go_wp2_with (go_at_call 118; refine (HX.out _).mono ?_; rintro e w' ⟨rfl, hb⟩; obtain ⟨hcl, hfz⟩ := bcell hb; have hz1 := one_new hb)
    exact bodyPost_ret (v := .tuple #[.bool R, .bool false]) (by rw [hP.out]; simp [results, Tryz.results75, go_sem]) rfl ⟨rfl, below_on1 (Below.refl _ _) (Nat.le_refl _) hb⟩
  case inr.inr.inr.inr.inr.inr.inr.inr.inr.inr.inr.inr.inr.inl =>
    clear hz hS
    have hP : Hid (R = dec (HasP false 0 false false n s m m2 m3)) := by
      show R = _
      rw [← hR]
      exact dec_congr (by simp [shapeP, partsOf])
    have HX := Lib.hid (fun w' => HH.out false 0 false false w')
    clear HH HM hR
    go_enter Tryz.func75, Tryz.ntmps75
    go_wp2_with (go_at_call 118; refine (HX.out _).mono ?_; rintro e w' ⟨rfl, hb⟩; obtain ⟨hcl, hfz⟩ := bcell hb; have hz1 := one_new hb)
    exact bodyPost_ret (v := .tuple #[.bool R, .bool false]) (by rw [hP.out]; simp [results, Tryz.results75, go_sem]) rfl ⟨rfl, below_on1 (Below.refl _ _) (Nat.le_refl _) hb⟩
  case inr.inr.inr.inr.inr.inr.inr.inr.inr.inr.inr.inr.inr.inr.inl =>
    clear hz hS
    have hP : Hid (R = dec (HasP false 0 false false n s m m2 m3)) := by
      show R = _
      rw [← hR]
      exact dec_congr (by simp [shapeP, partsOf])
    have HX := Lib.hid (fun w' => HH.out false 0 false false w')
    clear HH HM hR
    go_enter Tryz.func75, Tryz.ntmps75
    go_wp2_with (go_at_call 118; refine (HX.out _).mono ?_; rintro e w' ⟨rfl, hb⟩; obtain ⟨hcl, hfz⟩ := bcell hb; have hz1 := one_new hb)
    exact bodyPost_ret (v := .tuple #[.bool R, .bool false]) (by rw [hP.out]; simp [results, Tryz.results75, go_sem]) rfl ⟨rfl, below_on1 (Below.refl _ _) (Nat.le_refl _) hb⟩
  case inr.inr.inr.inr.inr.inr.inr.inr.inr.inr.inr.inr.inr.inr.inr.inl =>
    clear hz hS
    have hP : Hid (R = dec (HasP false 1 false false n s m m2 m3)) := by
      show R = _
      rw [← hR]
      exact dec_congr (by simp [shapeP, partsOf])
    have HX := Lib.hid (fun w' => HH.out false 1 false false w')
    clear HH HM hR
    go_enter Tryz.func75, Tryz.ntmps75
    go_wp2_with (go_at_call 118; refine (HX.out _).mono ?_; rintro e w' ⟨rfl, hb⟩; obtain ⟨hcl, hfz⟩ := bcell hb; have hz1 := one_new hb)
    exact bodyPost_ret (v := .tuple #[.bool R, .bool false]) (by rw [hP.out]; simp [results, Tryz.results75, go_sem]) rfl ⟨rfl, below_on1 (Below.refl _ _) (Nat.le_refl _) hb⟩
  case inr.inr.inr.inr.inr.inr.inr.inr.inr.inr.inr.inr.inr.inr.inr.inr.inl =>
    clear hz hS
    have hP : Hid (R = dec (HasP true 1 false false n s m m2 m3)) := by
      show R = _
      rw [← hR]
      exact dec_congr (by simp [shapeP, partsOf])
    have HX := Lib.hid (fun w' => HH.out true 1 false false w')
    clear HH HM hR
    go_enter Tryz.func75, Tryz.ntmps75
    go_wp2_with (go_at_call 118; refine (HX.out _).mono ?_; rintro e w' ⟨rfl, hb⟩; obtain ⟨hcl, hfz⟩ := bcell hb; have hz1 := one_new hb)
    exact bodyPost_ret (v := .tuple #[.bool R, .bool true]) (by rw [hP.out]; simp [results, Tryz.results75, go_sem]) rfl ⟨rfl, below_on1 (Below.refl _ _) (Nat.le_refl _) hb⟩
  case inr.inr.inr.inr.inr.inr.inr.inr.inr.inr.inr.inr.inr.inr.inr.inr.inr.inl =>
    clear hz hS
    have hP : Hid (R = dec (HasP true 0 false false n s m m2 m3)) := by
      show R = _
      rw [← hR]
      exact dec_congr (by simp [shapeP, partsOf])
    have HX := Lib.hid (fun w' => HH.out true 0 false false w')
    clear HH HM hR
    go_enter Tryz.func75, Tryz.ntmps75
    go_wp2_with (go_at_call 118; refine (HX.out _).mono ?_; rintro e w' ⟨rfl, hb⟩; obtain ⟨hcl, hfz⟩ := bcell hb; have hz1 := one_new hb)
    exact bodyPost_ret (v := .tuple #[.bool R, .bool true]) (by rw [hP.out]; simp [results, Tryz.results75, go_sem]) rfl ⟨rfl, below_on1 (Below.refl _ _) (Nat.le_refl _) hb⟩
  case inr.inr.inr.inr.inr.inr.inr.inr.inr.inr.inr.inr.inr.inr.inr.inr.inr.inr.inl =>
    clear hz hS
    have hP : Hid (R = dec (HasP false 1 false false n s m m2 m3)) := by
      show R = _
      rw [← hR]
      exact dec_congr (by simp [shapeP, partsOf])
    have HX := Lib.hid (fun w' => HH.out false 1 false false w')
    clear HH HM hR
    go_enter Tryz.func75, Tryz.ntmps75
    go_wp2_with (go_at_call 118; refine (HX.out _).mono ?_; rintro e w' ⟨rfl, hb⟩; obtain ⟨hcl, hfz⟩ := bcell hb; have hz1 := one_new hb)
    exact bodyPost_ret (v := .tuple #[.bool R, .bool false]) (by rw [hP.out]; simp [results, Tryz.results75, go_sem]) rfl ⟨rfl, below_on1 (Below.refl _ _) (Nat.le_refl _) hb⟩
  case inr.inr.inr.inr.inr.inr.inr.inr.inr.inr.inr.inr.inr.inr.inr.inr.inr.inr.inr.inl =>
    clear hz hS
    have hP : Hid (R = dec (HasP false 1 false false n s m m2 m3)) := by
      show R = _
      rw [← hR]
      exact dec_congr (by simp [shapeP, partsOf])
    have HX := Lib.hid (fun w' => HH.out false 1 false false w')
    clear HH HM hR
    go_enter Tryz.func75, Tryz.ntmps75
    go_wp2_with (go_at_call 118; refine (HX.out _).mono ?_; rintro e w' ⟨rfl, hb⟩; obtain ⟨hcl, hfz⟩ := bcell hb; have hz1 := one_new hb)
    exact bodyPost_ret (v := .tuple #[.bool R, .bool false]) (by rw [hP.out]; simp [results, Tryz.results75, go_sem]) rfl ⟨rfl, below_on1 (Below.refl _ _) (Nat.le_refl _) hb⟩
  case inr.inr.inr.inr.inr.inr.inr.inr.inr.inr.inr.inr.inr.inr.inr.inr.inr.inr.inr.inr.inl =>
    clear hz hS
    have hP : Hid (R = dec (HasP false 0 false false n s m m2 m3)) := by
      show R = _
      rw [← hR]
      exact dec_congr (by simp [shapeP, partsOf])
    have HX := Lib.hid (fun w' => HH.out false 0 false false w')
    clear HH HM hR
    go_enter Tryz.func75, Tryz.ntmps75
    go_wp2_with (go_at_call 118; refine (HX.out _).mono ?_; rintro e w' ⟨rfl, hb⟩; obtain ⟨hcl, hfz⟩ := bcell hb; have hz1 := one_new hb)
    exact bodyPost_ret (v := .tuple #[.bool R, .bool false]) (by rw [hP.out]; simp [results, Tryz.results75, go_sem]) rfl ⟨rfl, below_on1 (Below.refl _ _) (Nat.le_refl _) hb⟩
  case inr.inr.inr.inr.inr.inr.inr.inr.inr.inr.inr.inr.inr.inr.inr.inr.inr.inr.inr.inr.inr.inl =>
    clear hz hS
    have hP : Hid (R = dec (HasP false 1 false false n s m m2 m3)) := by
      show R = _
      rw [← hR]
      exact dec_congr (by simp [shapeP, partsOf])
    have HX := Lib.hid (fun w' => HH.out false 1 false false w')
    clear HH HM hR
    go_enter Tryz.func75, Tryz.ntmps75
    go_wp2_with (go_at_call 118; refine (HX.out _).mono ?_; rintro e w' ⟨rfl, hb⟩; obtain ⟨hcl, hfz⟩ := bcell hb; have hz1 := one_new hb)
    exact bodyPost_ret (v := .tuple #[.bool R, .bool false]) (by rw [hP.out]; simp [results, Tryz.results75, go_sem]) rfl ⟨rfl, below_on1 (Below.refl _ _) (Nat.le_refl _) hb⟩
  case inr.inr.inr.inr.inr.inr.inr.inr.inr.inr.inr.inr.inr.inr.inr.inr.inr.inr.inr.inr.inr.inr.inl =>
    clear hz hS
    have hP : Hid (R = dec (HasP true 1 false false n s m m2 m3)) := by
      show R = _
      rw [← hR]
      exact dec_congr (by simp [shapeP, partsOf])
    have HX := Lib.hid (fun w' => HH.out true 1 false false w')
    clear HH HM hR
    go_enter Tryz.func75, Tryz.ntmps75
    go_wp2_with (go_at_call 118; refine (HX.out _).mono ?_; rintro e w' ⟨rfl, hb⟩; obtain ⟨hcl, hfz⟩ := bcell hb; have hz1 := one_new hb)
    exact bodyPost_ret (v := .tuple #[.bool R, .bool true]) (by rw [hP.out]; simp [results, Tryz.results75, go_sem]) rfl ⟨rfl, below_on1 (Below.refl _ _) (Nat.le_refl _) hb⟩
  case inr.inr.inr.inr.inr.inr.inr.inr.inr.inr.inr.inr.inr.inr.inr.inr.inr.inr.inr.inr.inr.inr.inr.inl =>
    have hp := hz (Or.inl h)
    have hP : Hid (R = false) := by
      show R = _
      rw [← hR]
      exact dec_false (by simp [shapeP, hp])
    rw [hp]
    clear HH HM hR hz hS hp
    go_enter Tryz.func75, Tryz.ntmps75
    go_wp2
    exact bodyPost_ret (v := .tuple #[.bool R, .bool false]) (by rw [hP.out]; simp [results, Tryz.results75, go_sem]) rfl ⟨rfl, (Below.refl _ _).alloc (Nat.le_refl _) _⟩
  case inr.inr.inr.inr.inr.inr.inr.inr.inr.inr.inr.inr.inr.inr.inr.inr.inr.inr.inr.inr.inr.inr.inr.inr =>
    have hp := hz (Or.inr h)
    have hP : Hid (R = false) := by
      show R = _
      rw [← hR]
      exact dec_false (by simp [shapeP, hp])
    rw [hp]
    clear HH HM hR hz hS hp
    go_enter Tryz.func75, Tryz.ntmps75
    go_wp2
    exact bodyPost_ret (v := .tuple #[.bool R, .bool false]) (by rw [hP.out]; simp [results, Tryz.results75, go_sem]) rfl ⟨rfl, (Below.refl _ _).alloc (Nat.le_refl _) _⟩
end Go.Proofs.YtnbfadgclffgkaaGreatDoor
