/- The walks of tree.deep, tree.Depth, clewref10.Depth and clewref10.greater. -/
import Derived.Test.YtimdnamhccipjaaSize
namespace Go.Proofs.Ytimdnamhccipjaa
open Go.RowKit

def DeepTC (e : Ex) : Prop := ∀ (F : Nat → Prop) (w : World) (cs : List Value) (m : Nat), Inn F w → m ≤ 1000 → RdEx F w e cs →
    Calls Try.prog 78 #[.agg cs.toArray, .int .i64 m] w (Gives w (.int .i64 (min e.depth (m + 1) : Nat)))

/-- A cell of a block that was laid in 'w', read later. -/
theorem cell_kept {w wr : World} {o : Obj} {j : Nat} {v : Value} (hB : Below (w.heap.size + 1) (w.alloc o) wr) (h : (w.alloc o).cell? ⟨w.heap.size, j, none⟩ = some v) : wr.cell? ⟨w.heap.size, j, none⟩ = some v := by
  rw [hB.cell (by simp)]; exact h

theorem below_of_alloc {w wr : World} {o : Obj} (hB : Below (w.heap.size + 1) (w.alloc o) wr) : Below w.heap.size w wr := ((Below.refl _ _).alloc (Nat.le_refl _) o).trans (hB.mono (by omega))

set_option maxHeartbeats 1000000 in
theorem deepT_calls (e : Ex) : DeepTC e := by
  induction e using Ex.ind with
  | h kd o n s args ih =>
  intro F w cs m hF hm1 hr
  obtain ⟨h1, h2, h3, h4, v, c, rfl, hsl, hrow⟩ := hr
  obtain ⟨a, cap, rfl, hl, hc, ha⟩ := hsl
  unfold maxLen at hc
  by_cases hm : m = 0
  · subst hm
    by_cases h0 : 0 < args.length
    all_goals
      go_enter Try.func78, Try.ntmps78
      go_wp2
      refine wp_loop_rounds 1 ?_
      rw [rounds_succ]
      go_wp2
      go_ret
      exact ⟨ret_int (by simp only [Ex.depth]; omega), (Below.refl _ _).alloc (Nat.le_refl _) _⟩
  have hm2 : 0 < m := by omega
  clear hm
  have hm3 : (0 : Int) < (m : Int) := by omega
  go_enter Try.func78, Try.ntmps78
  go_wp2
  go_loopw [5, 6] (fun t i wr => ∃ (k : Nat), k ≤ args.length ∧ i = .int .i64 k ∧ t = .int .i64 (min (1 + Ex.depths (args.take k)) (m + 1) : Nat) ∧ Below (w.heap.size + 1) (w.alloc (.cells #[.int .i64 kd, .int .i64 o, .int .i64 n, .string s, .slice a args.length cap] 35)) wr) (fun _ i _ => args.length - (intOf i).toNat)
  case atStart => exact ⟨0, Nat.zero_le _, rfl, by simp [Ex.depths], Below.refl _ _⟩
  case round =>
    obtain ⟨k, hk, rfl, rfl, hB0⟩ := hrel
    have hB := below_of_alloc hB0
    have hbx : wr.cell? ⟨w.heap.size, 4, none⟩ = some (.slice a args.length cap) := cell_kept hB0 (by go_simp)
    by_cases hlt : k < args.length
    · obtain ⟨b, off, rfl, hFb, hcell⟩ := ha (by omega)
      obtain ⟨kd', o', n', s', a', m', cap', hx, g0, g1, g2, g3, g4⟩ := row_at hcell hrow (hB.block b (hF b hFb)) k hlt
      clear ha hcell hrow
      have HS := Lib.hid (Ex.depths_take args k hlt)
      have ihk : DeepTC args[k] := ih _ (List.getElem_mem hlt)
      have hI := hF.below hB
      have hcall : Calls Try.prog 78 #[.agg #[.int .i64 kd', .int .i64 o', .int .i64 n', .string s', .slice a' m' cap'], .int .i64 ((m : Int) - 1)] wr (Gives wr (.int .i64 (min (args[k]).depth m : Nat))) := by
        have := ihk F wr _ (m - 1) hI (by omega) (hx.below hF hB (Nat.le_refl _))
        rwa [show (((m - 1 : Nat)) : Int) = (m : Int) - 1 by omega, show m - 1 + 1 = m by omega] at this
      clear ihk ih hx
      generalize hD : min (1 + Ex.depths (args.take k)) (m + 1) = D
      generalize hE : min (args[k]).depth m = E at hcall
      have hD2 : D ≤ 1001 := by omega
      have hE2 : E ≤ 1000 := by omega
      have HD := Lib.hid hD
      have HE := Lib.hid hE
      clear hD hE
      have HC := Lib.hid hcall
      have HB0 := Lib.hid hB0
      clear hcall hB0
      go_wp2_with (go_at_call 78; refine HC.out.mono ?_; rintro e w' ⟨rfl, hb⟩)
      go_roundw
      case rel => exact ⟨k + 1, by omega, by go_num, by rw [HS.out]; have := HD.out; have := HE.out; congr 1; split <;> omega, below_on HB0.out (by simp) hb⟩
      case measure => simp [intOf]; omega
    · have : k = args.length := by omega
      subst this
      rw [List.take_length]
      generalize hD : Ex.depths args = D
      have hz : min (1 + D) (m + 1) ≤ 1001 := by omega
      go_wp2
      go_ret
      exact ⟨ret_int (by simp only [Ex.depth, hD]), hB⟩

def DepthC (e : Ex) : Prop := ∀ (F : Nat → Prop) (w : World) (cs : List Value), Inn F w → RdEx F w e cs →
    Calls Try.prog 39 #[.agg cs.toArray] w (Gives w (.int .i64 (min e.depth 65 : Nat)))

set_option maxHeartbeats 400000 in
theorem depthT_calls (e : Ex) : DepthC e := by
  intro F w cs hF hr
  obtain ⟨kd', o', n', s', a', m', cap', rfl⟩ := hr.shape
  have hd := fun o => deepT_calls e F (w.alloc o) _ 64 (hF.alloc o) (by omega) (hr.alloc hF o)
  have HC := Lib.hid hd
  clear hd
  go_enter Try.func39, Try.ntmps39
  go_wp2_with (go_at_call 78; refine (HC.out _).mono ?_; rintro e w' ⟨rfl, hb⟩)
  go_ret
  exact ⟨rfl, below_on1 (Below.refl _ _) (Nat.le_refl _) hb⟩

def DepthRC (e : Ex) : Prop := ∀ (F : Nat → Prop) (w : World) (cs : List Value), Inn F w → RdEx F w e cs →
    Calls Try.prog 40 #[.agg cs.toArray] w (Gives w (.int .i64 (min e.depth 65 : Nat)))

set_option maxHeartbeats 400000 in
theorem depthR_calls (e : Ex) : DepthRC e := by
  intro F w cs hF hr
  obtain ⟨kd', o', n', s', a', m', cap', rfl⟩ := hr.shape
  have hd := fun o => deepR_calls e F (w.alloc o) _ 65 (hF.alloc o) (by omega) (by omega) (hr.alloc hF o)
  have HC := Lib.hid hd
  clear hd
  go_enter Try.func40, Try.ntmps40
  go_wp2_with (go_at_call 79; refine (HC.out _).mono ?_; rintro e w' ⟨rfl, hb⟩)
  go_ret
  exact ⟨rfl, below_on1 (Below.refl _ _) (Nat.le_refl _) hb⟩

theorem greater_calls (a b : Int) (w : World) : Calls Try.prog 117 #[.int .i64 a, .int .i64 b] w (fun e w' => e = .returned (.int .i64 (max a b)) ∧ w = w') := by
  by_cases h : b < a
  all_goals
    go_enter Try.func117, Try.ntmps117
    go_wp2
    go_ret
    exact ⟨ret_int (by omega), rfl⟩

end Go.Proofs.Ytimdnamhccipjaa
