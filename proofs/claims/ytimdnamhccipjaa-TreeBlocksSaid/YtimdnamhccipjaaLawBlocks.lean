/- The walk of clewlaw10.TreeBlocks: it returns true. -/
import Derived.Test.YtimdnamhccipjaaLawSizes
import Derived.Test.YtimdnamhccipjaaRightBR
namespace Go.Proofs.Ytimdnamhccipjaa
open Go.RowKit Go.Sort

set_option maxRecDepth 100000 in
set_option maxHeartbeats 1000000 in
theorem treeBlocks_calls (l : List St) (F : Nat → Prop) (w : World) (v : Value) (hF : Inn F w) (hm : MX w) (hl : Sts F w l v) :
    Calls Try.prog 8 #[v] w (Gives w (.bool true)) := by
  obtain ⟨a, cap, rfl⟩ := hl.shape
  have HA := Lib.hid (awake_below hm)
  have HF := Lib.hid (fun w' (hb : Below w.heap.size w w') => fewB_calls l F w' _ 600 (hF.below hb) (by omega) (by omega) (hl.below hF hb (Nat.le_refl _)))
  have HT := Lib.hid (fun w' (hb : Below w.heap.size w w') => rightBlock_calls l F w' _ (hF.below hb) (hm.below hb (Nat.le_refl _)) (hl.below hF hb (Nat.le_refl _)))
  have HR := Lib.hid (fun w' (hb : Below w.heap.size w w') => rightBlockR_calls l F w' _ (hF.below hb) (hl.below hF hb (Nat.le_refl _)))
  have hx0 := (St.fews_total l 600 (by omega)).1
  have hW : Below w.heap.size w w := Below.refl _ _
  clear hl hF hm
  generalize St.fews l 600 = x at *
  generalize dec (RightB l) = t at *
  generalize l.length = len at *
  by_cases hx : x < 0
  · have hxd : decide (x < 0) = true := by simp [hx]
    clear HT HR
    go_enter Try.func8, Try.ntmps8
    go_wp2_with (first | (go_at_call 34; (with_reducible refine (HF.out _ hW).mono ?_); rintro e w' ⟨rfl, hb⟩) | (go_at_call 31; (with_reducible refine (HA.out _ hb).mono ?_); rintro e w'' ⟨rfl, hb2⟩))
    go_ret
    exact ⟨rfl, below_on hb (Nat.le_refl _) hb2⟩
  have hxd : decide (x < 0) = false := by simp [hx]
  clear hx hx0
  go_enter Try.func8, Try.ntmps8
  go_wp2_with (first | (go_at_call 34; (with_reducible refine (HF.out _ hW).mono ?_); rintro e w1 ⟨rfl, hb1⟩) |
    (go_at_call 35; (with_reducible refine (HT.out _ hb1).mono ?_); rintro e w2 ⟨rfl, hb2⟩; have hbo2 : Below w.heap.size w w2 := below_on hb1 (Nat.le_refl _) hb2) |
    (go_at_call 36; (with_reducible refine (HR.out _ hbo2).mono ?_); rintro e w3 ⟨rfl, hb3⟩; have hbo3 : Below w.heap.size w w3 := below_on hbo2 (Nat.le_refl _) hb3) |
    (go_at_call 31; (with_reducible refine (HA.out _ hbo3).mono ?_); rintro e w4 ⟨rfl, hb4⟩))
  go_ret
  exact ⟨rfl, below_on hbo3 (Nat.le_refl _) hb4⟩

end Go.Proofs.Ytimdnamhccipjaa
