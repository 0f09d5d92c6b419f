/- The walks of the functions that count expressions and statements, and tell how deep they are: each hands back the number that XData defines, and leaves what was in memory as it was. -/
import Derived.Test.YtblhpiebheommaaRows
import Derived.Test.YtblhpiebheommaaData
import Derived.WalkSpells
import Derived.WalkLawsBesides
import Derived.Lib.QuietBelow
import Derived.BigQuiet
namespace Go.Proofs.Ytblhpiebheommaa
open Go.RowKit





def FewC (e : Ex) : Prop := ∀ (F : Nat → Prop) (w : World) (cs : List Value) (m : Int), Inn F w → 0 ≤ m → m ≤ 1000000 → RdEx F w e cs →
    Calls Try.prog 8 #[.agg cs.toArray, .int .i64 m] w (Gives w (.int .i64 (e.few m)))

set_option maxHeartbeats 400000 in
theorem few_calls (e : Ex) : FewC e := by
  induction e using Ex.ind with
  | h kd o n s args ih =>
  intro F w cs m hF hm0 hm1 hr
  obtain ⟨h1, h2, h3, h4, v, c, rfl, hsl, hrow⟩ := hr
  obtain ⟨a, cap, rfl, hl, hc, ha⟩ := hsl
  unfold maxLen at hc
  go_enter Try.func8, Try.ntmps8
  go_wp2
  go_loopw [1, 12] (fun t i wr => ∃ (k : Nat) (q : Int), k ≤ args.length ∧ i = .int .i64 k ∧ t = .int .i64 q ∧ -1 ≤ q ∧ q ≤ 1000000 ∧ Hid (Ex.fews args (m - 1) = Ex.fews (args.drop k) q) ∧ Below w.heap.size w wr) (fun _ i _ => args.length - (intOf i).toNat)
  case atStart => exact ⟨0, m - 1, Nat.zero_le _, rfl, rfl, by omega, by omega, by rw [List.drop_zero]; exact rfl, (Below.refl _ _).alloc (Nat.le_refl _) _⟩
  case round =>
    obtain ⟨k, q, hk, rfl, rfl, hq0, hq1, hq, hB⟩ := hrel
    by_cases hlt : k < args.length
    · obtain ⟨b, off, rfl, hFb, hcell⟩ := ha (by omega)
      obtain ⟨kd', o', n', s', a', m', cap', hx, g0, g1, g2, g3, g4⟩ := row_at hcell hrow (hB.block b (hF b hFb)) k hlt
      clear ha hcell hrow
      have HD := Lib.hid (Ex.fews_drop args k hlt q)
      have ihk : FewC args[k] := ih _ (List.getElem_mem hlt)
      have hI := hF.below hB
      have hx2 := fun o => (hx.below hF hB (Nat.le_refl _)).alloc hI o
      clear ih hx
      by_cases hneg : q < 0
      · have hfin : Hid (Ex.few (.mk kd o n s args) m = q) := by
          show Ex.fews args (m - 1) = q
          rw [hq.out, HD.out, if_pos hneg]
        clear hq HD
        go_wp2
        go_ret
        exact ⟨ret_int hfin.out.symm, hB.alloc hB.size _⟩
      · have hfs := Ex.few_size args[k] q (by omega)
        have hr1 := hfs.1.1
        have hr2 := hfs.1.2
        have hnx : Hid (Ex.fews args (m - 1) = Ex.fews (args.drop (k + 1)) (args[k].few q)) := by
          show Ex.fews args (m - 1) = _
          rw [hq.out, HD.out, if_neg hneg]
        clear hq HD hfs
        go_wp2_with (go_at_call 8; refine (ihk F _ _ q (hI.alloc _) (by omega) (by omega) (hx2 _)).mono ?_; rintro e w' ⟨rfl, hb⟩)
        go_roundw
        case rel => exact ⟨k + 1, _, by omega, by go_num, rfl, by omega, by omega, hnx, below_on1 hB (Nat.le_refl _) hb⟩
        case measure => simp [intOf]; omega
    · have : k = args.length := by omega
      subst this
      have hfin : Hid (Ex.few (.mk kd o n s args) m = q) := by
        show Ex.fews args (m - 1) = q
        rw [hq.out, List.drop_length]; rfl
      clear hq
      go_wp2
      go_ret
      exact ⟨ret_int hfin.out.symm, hB⟩

def DeepRC (e : Ex) : Prop := ∀ (F : Nat → Prop) (w : World) (cs : List Value) (m : Nat), Inn F w → 1 ≤ m → m ≤ 1000 → RdEx F w e cs →
    Calls Try.prog 51 #[.agg cs.toArray, .int .i64 m] w (Gives w (.int .i64 (min e.depth m : Nat)))

set_option maxHeartbeats 400000 in
theorem deepR_calls (e : Ex) : DeepRC e := by
  induction e using Ex.ind with
  | h kd o n s args ih =>
  intro F w cs m hF hm0 hm1 hr
  obtain ⟨h1, h2, h3, h4, v, c, rfl, hsl, hrow⟩ := hr
  obtain ⟨a, cap, rfl, hl, hc, ha⟩ := hsl
  unfold maxLen at hc
  by_cases hm : m = 1
  · subst hm
    go_enter Try.func51, Try.ntmps51
    go_wp2
    go_ret
    exact ⟨ret_int (by simp only [Ex.depth]; omega), (Below.refl _ _).alloc (Nat.le_refl _) _⟩
  have hm2 : 1 < m := by omega
  clear hm
  have hm3 : (1 : Int) < (m : Int) := by omega
  go_enter Try.func51, Try.ntmps51
  go_wp2
  go_loopw [5, 14] (fun t i wr => ∃ (k : Nat), k ≤ args.length ∧ i = .int .i64 k ∧ t = .int .i64 (min (Ex.depths (args.take k)) (m - 1) : Nat) ∧ Below w.heap.size w wr) (fun _ i _ => args.length - (intOf i).toNat)
  case atStart => exact ⟨0, Nat.zero_le _, rfl, by simp [Ex.depths], (Below.refl _ _).alloc (Nat.le_refl _) _⟩
  case round =>
    obtain ⟨k, hk, rfl, rfl, hB⟩ := hrel
    by_cases hlt : k < args.length
    · obtain ⟨b, off, rfl, hFb, hcell⟩ := ha (by omega)
      obtain ⟨kd', o', n', s', a', m', cap', hx, g0, g1, g2, g3, g4⟩ := row_at hcell hrow (hB.block b (hF b hFb)) k hlt
      clear ha hcell hrow
      have HS := Lib.hid (Ex.depths_take args k hlt)
      have ihk : DeepRC args[k] := ih _ (List.getElem_mem hlt)
      have hI := hF.below hB
      have hx2 := fun o => (hx.below hF hB (Nat.le_refl _)).alloc hI o
      clear ih hx
      have hcall : ∀ o, Calls Try.prog 51 #[.agg #[.int .i64 kd', .int .i64 o', .int .i64 n', .string s', .slice a' m' cap'], .int .i64 ((m : Int) - 1)] (wr.alloc o) (Gives (wr.alloc o) (.int .i64 (min (args[k]).depth (m - 1) : Nat))) := fun o => by
        have := ihk F (wr.alloc o) _ (m - 1) (hI.alloc _) (by omega) (by omega) (hx2 _)
        rwa [show (((m - 1 : Nat)) : Int) = (m : Int) - 1 by omega] at this
      clear ihk
      generalize hD : min (Ex.depths (args.take k)) (m - 1) = D
      generalize hE : min (args[k]).depth (m - 1) = E at hcall
      have hD2 : D ≤ 1000 := by omega
      have hE2 : E ≤ 1000 := by omega
      have HD := Lib.hid hD
      have HE := Lib.hid hE
      clear hD hE
      have HC := Lib.hid hcall
      clear hcall
      by_cases hlt2 : D < E
      all_goals
        go_wp2_with (go_at_call 51; refine (HC.out _).mono ?_; rintro e w' ⟨rfl, hb⟩)
        go_roundw
        case rel => exact ⟨k + 1, by omega, by go_num, by rw [HS.out]; have := HD.out; have := HE.out; first | rfl | (congr 2; omega), below_on1 hB (Nat.le_refl _) hb⟩
        case measure => simp [intOf]; omega
    · have : k = args.length := by omega
      subst this
      rw [List.take_length]
      generalize hD : Ex.depths args = D
      have hz : min D (m - 1) ≤ 1000 := by omega
      go_wp2
      go_ret
      exact ⟨ret_int (by simp only [Ex.depth, hD]; omega), hB⟩

end Go.Proofs.Ytblhpiebheommaa
