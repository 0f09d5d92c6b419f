/- The walk of clewlaw16.KindsLocals: it returns true. -/
import Derived.Test.YtblhpiebheommaaKinds20
import Derived.Test.YtblhpiebheommaaFewBlock
import Derived.Test.YtblhpiebheommaaKey
namespace Go.Proofs.Ytblhpiebheommaa
open Go.RowKit Go.Sort

theorem St.sizes_totals : ∀ l : List St, St.sizes l ≤ St.totals l := by
  refine blocks_ind fun l ih => ?_
  induction l with
  | nil => exact Nat.le_refl _
  | cons s r ihr =>
    obtain ⟨h1, h2⟩ := ih s (List.mem_cons_self ..)
    have h3 := ihr fun x hx => ih x (List.mem_cons_of_mem _ hx)
    have h4 := St.size_eq s
    obtain ⟨k, n, nm, args, body, els⟩ := s
    simp only [St.sizes, St.totals, St.total, St.body, St.els] at *
    omega

set_option maxRecDepth 100000 in
set_option maxHeartbeats 1000000 in
theorem kindsLocals_calls (l : List St) (F : Nat → Prop) (w : World) (v : Value) (hF : Inn F w) (_hm : MX w) (hl : Sts F w l v) :
    Calls Try.prog 5 #[v] w (Gives w (.bool true)) := by
  obtain ⟨a, cap, rfl⟩ := hl.shape
  have HA := Lib.hid (fun w' => awake16_calls w')
  have HF := Lib.hid (fun w' (hb : Below w.heap.size w w') => fewB_calls l F w' _ 2000 (hF.below hb) (by omega) (by omega) (hl.below hF hb (Nat.le_refl _)))
  have hx0 := (St.fews_total l 2000 (by omega))
  have hsz : 0 ≤ St.fews l 2000 → St.sizes l ≤ 1000000 := fun h => by
    have h1 := hx0.2 h
    have h2 := St.sizes_totals l
    omega
  have HT : Hid (0 ≤ St.fews l 2000 → ∀ w' (_hb : Below w.heap.size w w'), Calls Try.prog 17 #[.slice a l.length cap] w' (Gives w' (.int .i64 (St.locsL l)))) := fun h w' hb => locsT_calls l F w' _ (hF.below hb) (hsz h) (hl.below hF hb (Nat.le_refl _))
  have HR : Hid (0 ≤ St.fews l 2000 → ∀ w' (_hb : Below w.heap.size w w'), Calls Try.prog 18 #[.slice a l.length cap] w' (Gives w' (.int .i64 (St.locsL l)))) := fun h w' hb => locsR_calls l F w' _ (hF.below hb) (hsz h) (hl.below hF hb (Nat.le_refl _))
  have hW : Below w.heap.size w w := Below.refl _ _
  clear hl hF hsz hx0
  generalize St.fews l 2000 = x at *
  generalize St.locsL l = t at *
  generalize l.length = len at *
  by_cases hx : x < 0
  · have hxd : decide (x < 0) = true := by simp [hx]
    clear HT HR
    go_enter Try.func5, Try.ntmps5
    go_wp2_with (first | (go_at_call 13; (with_reducible refine (HF.out _ hW).mono ?_); rintro e w' ⟨rfl, hb⟩) | (go_at_call 10; (with_reducible refine (HA.out _).mono ?_); rintro e w'' ⟨rfl, hb2⟩))
    go_ret
    exact ⟨rfl, below_on hb (Nat.le_refl _) hb2⟩
  have hxd : decide (x < 0) = false := by simp [hx]
  have HT2 := Lib.hid (HT.out (by omega))
  have HR2 := Lib.hid (HR.out (by omega))
  clear hx HT HR
  go_enter Try.func5, Try.ntmps5
  go_wp2_with (first | (go_at_call 13; (with_reducible refine (HF.out _ hW).mono ?_); rintro e w1 ⟨rfl, hb1⟩) |
    (go_at_call 17; (with_reducible refine (HT2.out _ hb1).mono ?_); rintro e w2 ⟨rfl, hb2⟩; have hbo2 : Below w.heap.size w w2 := below_on hb1 (Nat.le_refl _) hb2) |
    (go_at_call 18; (with_reducible refine (HR2.out _ hbo2).mono ?_); rintro e w3 ⟨rfl, hb3⟩; have hbo3 : Below w.heap.size w w3 := below_on hbo2 (Nat.le_refl _) hb3) |
    (go_at_call 10; (with_reducible refine (HA.out _).mono ?_); rintro e w4 ⟨rfl, hb4⟩))
  go_ret
  exact ⟨rfl, below_on hbo3 (Nat.le_refl _) hb4⟩
end Go.Proofs.Ytblhpiebheommaa
