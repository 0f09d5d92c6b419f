/- What show.Source needs at sources without exits, conditions and bodies. Printed by gen-show12.py. -/
import Derived.Test.YtmabeegoapcfpaaGreatDoorQBdx
import Derived.Test.YtmabeegoapcfpaaGreatDoorQPart92d78415
import Derived.Test.YtmabeegoapcfpaaGreatDoorQPartd33c0715
import Derived.Test.YtmabeegoapcfpaaGreatDoorQSos
import Derived.Test.YtmabeegoapcfpaaGreatDoorQPart663812f7
namespace Go.Proofs.YtmabeegoapcfpaaGreatDoor
open Go.RowKit Go.Sort
set_option maxRecDepth 100000 in
set_option maxHeartbeats 1000000 in
theorem rowS0 (a : Option Addr) (cap : Nat) (sep : ByteArray) (f : Nat) (caps : Array Value) (w : World) : Calls Tryz.prog 63 #[.slice a 0 cap, .string sep, .func (.func f) #[] caps] w (Gives w (.string ⟨#[]⟩)) := by
  have HJ := Lib.hid (fun W => Tryz.strings_Join_none none 0 sep W)
  go_enter Tryz.func63, Tryz.ntmps63
  go_wp2
  go_loopw [7, 12] (fun o i wr => o = .slice none 0 0 ∧ i = .int .i64 0 ∧ Hid (Below w.heap.size w wr)) (fun _ _ _ => 0)
  case atStart => exact ⟨rfl, rfl, Below.refl _ _⟩
  case round =>
    obtain ⟨rfl, rfl, hB⟩ := hrel
    go_wp2_with (go_at_call 128; (with_reducible refine (HJ.out _).mono ?_); rintro e w2 ⟨rfl, rfl⟩)
    go_ret
    exact ⟨rfl, hB⟩
set_option maxRecDepth 100000 in
set_option maxHeartbeats 1000000 in
theorem rowE0 (a : Option Addr) (cap : Nat) (sep : ByteArray) (f : Nat) (caps : Array Value) (w : World) : Calls Tryz.prog 135 #[.slice a 0 cap, .string sep, .func (.func f) #[] caps] w (Gives w (.string ⟨#[]⟩)) := by
  have HJ := Lib.hid (fun W => Tryz.strings_Join_none none 0 sep W)
  go_enter Tryz.func135, Tryz.ntmps135
  go_wp2
  go_loopw [7, 12] (fun o i wr => o = .slice none 0 0 ∧ i = .int .i64 0 ∧ Hid (Below w.heap.size w wr)) (fun _ _ _ => 0)
  case atStart => exact ⟨rfl, rfl, Below.refl _ _⟩
  case round =>
    obtain ⟨rfl, rfl, hB⟩ := hrel
    go_wp2_with (go_at_call 128; (with_reducible refine (HJ.out _).mono ?_); rintro e w2 ⟨rfl, rfl⟩)
    go_ret
    exact ⟨rfl, hB⟩
set_option maxHeartbeats 400000 in
theorem cond0 (a : Option Addr) (cap : Nat) (w : World) : Calls Tryz.prog 70 #[.slice a 0 cap] w (Gives w (.string ⟨#[]⟩)) := by
  have HC := Lib.hid (rowE0 a cap ⟨#[]⟩ 136 #[] w)
  go_enter Tryz.func70, Tryz.ntmps70
  go_wp2_with (go_at_call 135; (with_reducible refine HC.out.mono ?_); rintro e w1 ⟨rfl, hb⟩)
  go_ret
  exact ⟨rfl, hb⟩
def phaseB (p : Int) : ByteArray := if p = 1 then ⟨#[98, 101, 102, 111, 114, 101, 32]⟩ else if p = 2 then ⟨#[111, 110, 32]⟩ else ⟨#[97, 102, 116, 101, 114, 32]⟩
set_option maxHeartbeats 400000 in
theorem phase_calls (p : Int) (w : World) : Calls Tryz.prog 68 #[.int .i64 p] w (Gives w (.string (phaseB p))) := by
  by_cases h1 : p = 1
  · subst h1
    go_enter Tryz.func68, Tryz.ntmps68
    go_wp2
    go_ret
    exact ⟨rfl, Below.refl _ _⟩
  have e1 : (p == 1) = false := by simpa using h1
  by_cases h2 : p = 2
  · subst h2
    clear h1
    go_enter Tryz.func68, Tryz.ntmps68
    go_wp2
    go_ret
    exact ⟨rfl, Below.refl _ _⟩
  have e2 : (p == 2) = false := by simpa using h2
  have hfin : Hid (phaseB p = ⟨#[97, 102, 116, 101, 114, 32]⟩) := by show _ = _; unfold phaseB; rw [if_neg h1, if_neg h2]
  clear h1 h2
  go_enter Tryz.func68, Tryz.ntmps68
  go_wp2
  go_ret
  exact ⟨by rw [hfin.out]; rfl, Below.refl _ _⟩
set_option maxHeartbeats 400000 in
theorem tabs0 (w : World) : Calls Tryz.prog 139 #[.int .i64 0] w (Gives w (.string ⟨#[]⟩)) := by
  have HC : Hid (∀ W, Calls Tryz.prog 189 #[.string ⟨#[9]⟩, .int .i64 (max 0 (min 0 64))] W fun e w' => e = .returned (.string ⟨#[]⟩) ∧ w' = W) := fun W => by
    rw [show (max 0 (min 0 64) : Int) = 0 from by decide]
    exact Tryz.strings_Repeat_zero ⟨#[9]⟩ W
  go_enter Tryz.func139, Tryz.ntmps139
  go_wp2_with (go_at_call 189; (with_reducible refine (HC.out _).mono ?_); rintro e w1 ⟨rfl, rfl⟩)
  go_ret
  exact ⟨rfl, Below.refl _ _⟩
set_option maxRecDepth 100000 in
set_option maxHeartbeats 1000000 in
theorem block0 (a : Option Addr) (cap : Nat) (w : World) : Calls Tryz.prog 71 #[.slice a 0 cap, .int .i64 0] w (Gives w (.string ⟨#[123, 10, 125]⟩)) := by
  have HC : Hid (∀ W, Calls Tryz.prog 139 #[.int .i64 (max 0 (min 0 64))] W (Gives W (.string ⟨#[]⟩))) := fun W => by
    rw [show (max 0 (min 0 64) : Int) = 0 from by decide]
    exact tabs0 W
  go_enter Tryz.func71, Tryz.ntmps71
  go_wp2
  go_loopw [5, 13] (fun o i wr => o = .string ⟨#[123, 10]⟩ ∧ i = .int .i64 0 ∧ Hid (Below w.heap.size w wr)) (fun _ _ _ => 0)
  case atStart => exact ⟨rfl, rfl, Below.refl _ _⟩
  case round =>
    obtain ⟨rfl, rfl, hB⟩ := hrel
    go_wp2_with (go_at_call 139; (with_reducible refine (HC.out _).mono ?_); rintro e w2 ⟨rfl, hb⟩)
    go_ret
    exact ⟨rfl, bt hB.out hb⟩
set_option maxHeartbeats 400000 in
theorem item0 (s : ByteArray) (p : Addr) (w : World) : Calls Tryz.prog 129 #[.string s, .string ⟨#[]⟩, .pointer (some p)] w (Gives w (.tuple #[])) := by
  go_enter Tryz.func129, Tryz.ntmps129
  go_wp2
  go_end0
  exact ⟨rfl, Below.refl _ _⟩
def whichB (noun second : ByteArray) : ByteArray :=
  if second = ⟨#[]⟩ then (if noun = ⟨#[]⟩ then ⟨#[]⟩ else ⟨#[40]⟩ ++ noun ++ ⟨#[41]⟩)
  else ⟨#[40]⟩ ++ (if noun = ⟨#[]⟩ then ⟨#[97, 110, 121]⟩ else noun) ++ ⟨#[44, 32]⟩ ++ second ++ ⟨#[41]⟩
set_option maxRecDepth 100000 in
set_option maxHeartbeats 1000000 in
theorem which_calls (F : Nat → Prop) (w : World) (x : RuleD) (cs : List Value) (hx : Holds.rule.R F w x cs) (hn : x.noun.size ≤ 1000000) (hs : x.second.size ≤ 1000000) :
    Calls Tryz.prog 69 #[.agg cs.toArray] w (Gives w (.string (whichB x.noun x.second))) := by
  obtain ⟨x_verb, x_phase, x_noun, x_second, x_cond, x_body⟩ := x
  obtain ⟨-, -, -, -, v4, v5, rfl, ka4, ka5⟩ := hx
  simp only at ka4 ka5 hn hs
  obtain ⟨d4, f4, rfl⟩ := ka4.shape
  obtain ⟨d5, f5, rfl⟩ := ka5.shape
  obtain ⟨W1, hW1⟩ : ∃ W1, w.alloc (.cells #[.string x_verb, .int .i64 x_phase, .string x_noun, .string x_second, .slice d4 x_cond.length f4, .slice d5 x_body.length f5] 42) = W1 := ⟨_, rfl⟩
  have hs1 : W1.heap.size = w.heap.size + 1 := by rw [← hW1]; simp
  have hb1 : Below w.heap.size w W1 := by rw [← hW1]; exact (Below.refl _ _).alloc (Nat.le_refl _) _
  have hbx1 : BoxAt W1 w.heap.size [.string x_verb, .int .i64 x_phase, .string x_noun, .string x_second, .slice d4 x_cond.length f4, .slice d5 x_body.length f5] := by rw [← hW1]; exact BoxAt.new _ _ _
  have hE : Hid (∀ W, Below W1.heap.size W1 W → BoxAt W (w.heap.size) [.string x_verb, .int .i64 x_phase, .string x_noun, .string x_second, .slice d4 x_cond.length f4, .slice d5 x_body.length f5] ∧ Below w.heap.size w W) := fun W h2 => ⟨hbx1.below h2 (by omega), (bt hb1 h2)⟩
  have HZ0 := Lib.hid hs1
  have HW1 := Lib.hid hW1
  clear hW1 hs1 hb1 hbx1
  clear ka4 ka5
  by_cases h1 : x_second = ⟨#[]⟩
  · by_cases h2 : x_noun = ⟨#[]⟩
    · have hfin : Hid (whichB x_noun x_second = ⟨#[]⟩) := by show _ = _; unfold whichB; rw [if_pos h1, if_pos h2]
      have e1 : x_second.toList.isEmpty = true := emp_t h1
      have e2 : x_noun.toList.isEmpty = true := emp_t h2
      clear h1 h2
      go_enter Tryz.func69, Tryz.ntmps69
      go_upto_region 1 with fail
      rw [HW1.out]
      obtain ⟨hq1, hqt0⟩ := hE.out W1 (Below.refl _ _)
      have g2 := hq1.2 2 (by simp)
      have g3 := hq1.2 3 (by simp)
      simp only [cqs, cqz] at g2 g3
      go_wp2_with fail
      go_ret
      exact ⟨by rw [hfin.out]; rfl, hqt0⟩
    · have hfin : Hid (whichB x_noun x_second = ⟨#[40]⟩ ++ x_noun ++ ⟨#[41]⟩) := by show _ = _; unfold whichB; rw [if_pos h1, if_neg h2]
      have e1 : x_second.toList.isEmpty = true := emp_t h1
      have e2 : x_noun.toList.isEmpty = false := emp_f h2
      clear h1 h2
      go_enter Tryz.func69, Tryz.ntmps69
      go_upto_region 1 with fail
      rw [HW1.out]
      obtain ⟨hq1, hqt0⟩ := hE.out W1 (Below.refl _ _)
      have g2 := hq1.2 2 (by simp)
      have g3 := hq1.2 3 (by simp)
      simp only [cqs, cqz] at g2 g3
      go_wp2_with fail
      go_ret
      exact ⟨by rw [hfin.out]; rfl, hqt0⟩
  · by_cases h2 : x_noun = ⟨#[]⟩
    · have hfin : Hid (whichB x_noun x_second = ⟨#[40]⟩ ++ ⟨#[97, 110, 121]⟩ ++ ⟨#[44, 32]⟩ ++ x_second ++ ⟨#[41]⟩) := by show _ = _; unfold whichB; rw [if_neg h1, if_pos h2]
      have e1 : x_second.toList.isEmpty = false := emp_f h1
      have e2 : x_noun.toList.isEmpty = true := emp_t h2
      clear h1 h2
      go_enter Tryz.func69, Tryz.ntmps69
      go_upto_region 1 with fail
      rw [HW1.out]
      obtain ⟨hq1, hqt0⟩ := hE.out W1 (Below.refl _ _)
      have g2 := hq1.2 2 (by simp)
      have g3 := hq1.2 3 (by simp)
      simp only [cqs, cqz] at g2 g3
      go_wp2_with fail
      go_ret
      exact ⟨by rw [hfin.out]; rfl, hqt0⟩
    · have hfin : Hid (whichB x_noun x_second = ⟨#[40]⟩ ++ x_noun ++ ⟨#[44, 32]⟩ ++ x_second ++ ⟨#[41]⟩) := by show _ = _; unfold whichB; rw [if_neg h1, if_neg h2]
      have e1 : x_second.toList.isEmpty = false := emp_f h1
      have e2 : x_noun.toList.isEmpty = false := emp_f h2
      clear h1 h2
      go_enter Tryz.func69, Tryz.ntmps69
      go_upto_region 1 with fail
      rw [HW1.out]
      obtain ⟨hq1, hqt0⟩ := hE.out W1 (Below.refl _ _)
      have g2 := hq1.2 2 (by simp)
      have g3 := hq1.2 3 (by simp)
      simp only [cqs, cqz] at g2 g3
      go_wp2_with fail
      go_ret
      exact ⟨by rw [hfin.out]; rfl, hqt0⟩
end Go.Proofs.YtmabeegoapcfpaaGreatDoor
