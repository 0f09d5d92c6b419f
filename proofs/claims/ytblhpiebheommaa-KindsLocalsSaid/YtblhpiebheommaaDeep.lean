/- The walks of tree.deep, tree.Depth, clewref10.Depth and clewref10.greater. -/
import Derived.Test.YtblhpiebheommaaSize
namespace Go.Proofs.Ytblhpiebheommaa
open Go.RowKit


/-- A cell of a block that was laid in 'w', read later. -/
theorem cell_kept {w wr : World} {o : Obj} {j : Nat} {v : Value} (hB : Below (w.heap.size + 1) (w.alloc o) wr) (h : (w.alloc o).cell? ⟨w.heap.size, j, none⟩ = some v) : wr.cell? ⟨w.heap.size, j, none⟩ = some v := by
  rw [hB.cell (by simp)]; exact h

theorem below_of_alloc {w wr : World} {o : Obj} (hB : Below (w.heap.size + 1) (w.alloc o) wr) : Below w.heap.size w wr := ((Below.refl _ _).alloc (Nat.le_refl _) o).trans (hB.mono (by omega))




def DepthRC (e : Ex) : Prop := ∀ (F : Nat → Prop) (w : World) (cs : List Value), Inn F w → RdEx F w e cs →
    Calls Try.prog 28 #[.agg cs.toArray] w (Gives w (.int .i64 (min e.depth 65 : Nat)))

set_option maxHeartbeats 400000 in
theorem depthR_calls (e : Ex) : DepthRC e := by
  intro F w cs hF hr
  obtain ⟨kd', o', n', s', a', m', cap', rfl⟩ := hr.shape
  have hd := fun o => deepR_calls e F (w.alloc o) _ 65 (hF.alloc o) (by omega) (by omega) (hr.alloc hF o)
  have HC := Lib.hid hd
  clear hd
  go_enter Try.func28, Try.ntmps28
  go_wp2_with (go_at_call 51; refine (HC.out _).mono ?_; rintro e w' ⟨rfl, hb⟩)
  go_ret
  exact ⟨rfl, below_on1 (Below.refl _ _) (Nat.le_refl _) hb⟩

theorem greater_calls (a b : Int) (w : World) : Calls Try.prog 77 #[.int .i64 a, .int .i64 b] w (fun e w' => e = .returned (.int .i64 (max a b)) ∧ w = w') := by
  by_cases h : b < a
  all_goals
    go_enter Try.func77, Try.ntmps77
    go_wp2
    go_ret
    exact ⟨ret_int (by omega), rfl⟩

end Go.Proofs.Ytblhpiebheommaa
