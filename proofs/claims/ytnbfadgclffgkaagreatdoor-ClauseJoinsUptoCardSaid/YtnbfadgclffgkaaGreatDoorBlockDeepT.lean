/- The walk of tree.deepBlock, and of the two DepthBlocks. -/
import Derived.Test.YtnbfadgclffgkaaGreatDoorPart2cdae13e
namespace Go.Proofs.YtnbfadgclffgkaaGreatDoor
open Go.RowKit Go.Sort
def DeepBTC (l : List St) : Prop := ∀ (F : Nat → Prop) (w : World) (v : Value) (m : Nat), Inn F w → m ≤ 1000 → Sts F w l v →
    Calls Tryz.prog 103 #[v, .int .i64 m] w (Gives w (.int .i64 (min (St.depths l) (m + 1) : Nat)))
set_option maxRecDepth 100000 in
set_option maxHeartbeats 1000000 in
theorem deepBT_calls : ∀ l : List St, DeepBTC l := by
  refine blocks_ind fun l ih => ?_
  intro F w v m hF hm1 hr
  obtain ⟨a, cap, rfl⟩ := hr.shape
  obtain ⟨_, hl, hc, ha⟩ := hr.opn
  by_cases hl0 : l.length = 0
  · have hnil : l = [] := List.length_eq_zero_iff.1 hl0
    subst hnil
    clear ha
    go_enter Tryz.func103, Tryz.ntmps103
    go_wp2
    refine wp_loop_rounds 1 ?_
    rw [rounds_succ]
    go_wp2
    go_ret
    exact ⟨ret_int (by simp [St.depths]), Below.refl _ _⟩
  have hpos := St.depths_pos l (by omega)
  have hlp : 0 < l.length := by omega
  have hlp2 : (1 : Int) ≤ (l.length : Int) := by omega
  by_cases hm : m = 0
  · subst hm
    clear ha
    rcases Classical.em ((1 : Int) < (l.length : Int)) with hone | hone
    all_goals
      go_enter Tryz.func103, Tryz.ntmps103
      go_wp2
      refine wp_loop_rounds 1 ?_
      rw [rounds_succ]
      go_wp2
      go_ret
      exact ⟨ret_int (by omega), Below.refl _ _⟩
  have hm2 : 0 < m := by omega
  have hm3 : (0 : Int) < (m : Int) := by omega
  clear hm hl0
  rcases Classical.em ((1 : Int) < (l.length : Int)) with hone | hone
  all_goals
    go_enter Tryz.func103, Tryz.ntmps103
    go_wp2
    go_loopw [5, 6] (fun t i wr => ∃ (k : Nat), k ≤ l.length ∧ i = .int .i64 k ∧ t = .int .i64 (min (max 1 (St.depths (l.take k))) (m + 1) : Nat) ∧ Below w.heap.size w wr) (fun _ i _ => l.length - (intOf i).toNat)
    case atStart => exact ⟨0, Nat.zero_le _, rfl, by first | (congr 1; simp only [List.take_zero, St.depths]; omega) | simp [St.depths] | (simp [St.depths]; omega), Below.refl _ _⟩
    case round =>
      obtain ⟨k, hk, rfl, rfl, hB⟩ := hrel
      by_cases hlt : k < l.length
      · obtain ⟨b, off, rfl, hFb, hel⟩ := ha (by omega)
        obtain ⟨kd', n', s', a', m', cap', a2, m2, cap2, a3, m3, cap3, hx, g0, g1, g2, g3, g4, g5⟩ := hel wr (hB.block b (hF b hFb)) k hlt
        have hI := hF.below hB
        have hbl : b < wr.heap.size := hI b hFb
        clear ha hel g0 g1 g2
        have hs1 := St.depths_take l k hlt
        have hs3 := St.depth_eq l[k]
        obtain ⟨ihb, ihe⟩ := ih _ (List.getElem_mem hlt)
        obtain ⟨_, _, _, _, _, _, hxa, hxb, hxe⟩ := (hx.below hF hB (Nat.le_refl _)).parts
        obtain ⟨rfl, hal, hac, haa⟩ := hxa.opn
        clear ih hx hr
        generalize hT : St.depths (l.take k) = T at *
        have hT2 : min (max 1 T) (m + 1) ≤ 1001 := by omega
        have HS1 := Lib.hid hs1
        have HS3 := Lib.hid hs3
        clear hs1 hs3
        obtain ⟨wo, rfl⟩ : ∃ wo : World, wo = wr := ⟨_, rfl⟩
        go_wp2
        go_loopw [5, 28] (fun t i w2 => ∃ (j : Nat), j ≤ (l[k]).args.length ∧ i = .int .i64 j ∧ t = .int .i64 (min (max (max 1 T) (1 + Ex.depths ((l[k]).args.take j))) (m + 1) : Nat) ∧ Below wo.heap.size wo w2) (fun _ i _ => (l[k]).args.length - (intOf i).toNat)
        case atStart => exact ⟨0, Nat.zero_le _, rfl, by congr 2; simp only [List.take_zero, Ex.depths]; omega, Below.refl _ _⟩
        case round =>
          obtain ⟨j, hj, rfl, rfl, hB2⟩ := hrel
          by_cases hlt2 : j < (l[k]).args.length
          · obtain ⟨b2, off2, rfl, hFb2, hel2⟩ := haa (by omega)
            obtain ⟨kd2, o2, nn2, s2, a2', m2', cap2', hx2, q0, q1, q2, q3, q4⟩ := hel2 wr (hB2.block b2 (hI b2 hFb2)) j hlt2
            clear haa hel2
            have HS2 := Lib.hid (Ex.depths_take (l[k]).args j hlt2)
            have hI2 := hI.below hB2
            have hcall : ∀ o, Calls Tryz.prog 149 #[.agg #[.int .i64 kd2, .int .i64 o2, .int .i64 nn2, .string s2, .slice a2' m2' cap2'], .int .i64 ((m : Int) - 1)] (wr.alloc o) (Gives (wr.alloc o) (.int .i64 (min ((l[k]).args[j]).depth m : Nat))) := fun o => by
              have := deepT_calls (l[k]).args[j] F (wr.alloc o) _ (m - 1) (hI2.alloc _) (by omega) ((hx2.below hI hB2 (Nat.le_refl _)).alloc hI2 o)
              rwa [show (((m - 1 : Nat)) : Int) = (m : Int) - 1 by omega, show m - 1 + 1 = m by omega] at this
            clear hx2 hxb hxe ihb ihe
            generalize hD : min (max (max 1 T) (1 + Ex.depths ((l[k]).args.take j))) (m + 1) = D
            generalize hE : min ((l[k]).args[j]).depth m = E at hcall
            have hD2 : D ≤ 1001 := by omega
            have hE2 : E ≤ 1000 := by omega
            have HD := Lib.hid hD
            have HE := Lib.hid hE
            have HC := Lib.hid hcall
            have HB2 := Lib.hid hB2
            clear hD hE hcall hB2 hB
            go_wp2_with (go_at_call 149; refine (HC.out _).mono ?_; rintro e w' ⟨rfl, hb⟩)
            go_roundw
            case rel => exact ⟨j + 1, by omega, by go_num, by rw [HS2.out]; have := HD.out; have := HE.out; congr 1; split <;> omega, below_on1 HB2.out (Nat.le_refl _) hb⟩
            case measure => simp [intOf]; omega
          · have : j = (l[k]).args.length := by omega
            subst this
            rw [List.take_length]
            clear haa
            have hI2 := hI.below hB2
            have hcb : ∀ (p : Regrown), Calls Tryz.prog 103 #[.slice a2 m2 cap2, .int .i64 ((m : Int) - 1)] (grow (redrawn wr p.d) p.os) fun e w'' => e = .returned (.int .i64 (min (St.depths (l[k]).body) m : Nat)) ∧ ∃ p : Regrown, w'' = grow (redrawn wr p.d) p.os :=
              fun p => regrown_gives (fun w' hb => by
                have := ihb F w' _ (m - 1) (hI2.below hb) (by omega) ((hxb.below hI hB2 (Nat.le_refl _)).below hI2 hb (Nat.le_refl _))
                rwa [show (((m - 1 : Nat)) : Int) = (m : Int) - 1 by omega, show m - 1 + 1 = m by omega] at this) p
            have hce : ∀ (p : Regrown), Calls Tryz.prog 103 #[.slice a3 m3 cap3, .int .i64 ((m : Int) - 1)] (grow (redrawn wr p.d) p.os) fun e w'' => e = .returned (.int .i64 (min (St.depths (l[k]).els) m : Nat)) ∧ ∃ p : Regrown, w'' = grow (redrawn wr p.d) p.os :=
              fun p => regrown_gives (fun w' hb => by
                have := ihe F w' _ (m - 1) (hI2.below hb) (by omega) ((hxe.below hI hB2 (Nat.le_refl _)).below hI2 hb (Nat.le_refl _))
                rwa [show (((m - 1 : Nat)) : Int) = (m : Int) - 1 by omega, show m - 1 + 1 = m by omega] at this) p
            have hq4 := fun d os => cell_regrown (w := wr) (a := ⟨b, off + k * 6 + 4, none⟩) (v := .slice a2 m2 cap2) (by rw [hB2.cell hbl]; exact g4) d os
            have hq5 := fun d os => cell_regrown (w := wr) (a := ⟨b, off + k * 6 + 5, none⟩) (v := .slice a3 m3 cap3) (by rw [hB2.cell hbl]; exact g5) d os
            generalize hA : min (St.depths (l[k]).body) m = A at hcb
            generalize hE : min (St.depths (l[k]).els) m = E at hce
            generalize hD : min (max (max 1 T) (1 + Ex.depths ((l[k]).args))) (m + 1) = D
            have hA2 : A ≤ 1000 := by omega
            have hE2 : E ≤ 1000 := by omega
            have hD2 : D ≤ 1001 := by omega
            have HD := Lib.hid hD
            have HA := Lib.hid hA
            have HE := Lib.hid hE
            have HCb := Lib.hid hcb
            have HCe := Lib.hid hce
            have HB := Lib.hid (bt hB hB2)
            clear hD hA hE hcb hce hxb hxe ihb ihe hB2 hB g3 g4 g5
            go_wp2
            refine wp_region_quiet_below (by kernel_rfl) (by kernel_rfl) ?_
            repeat (go_big_quiet_step (first | with_reducible exact HCb.out _ | with_reducible exact HCe.out _))
            refine wpQuiet_nil ?_
            intro w' hw'
            have hb := below_of_regrown hw'
            clear hw' HCb HCe hq4 hq5
            go_wp2
            go_roundw
            case rel => exact ⟨k + 1, by omega, by go_num, by rw [HS1.out]; have := HD.out; have := HE.out; have := HA.out; have := HS3.out; congr 1; first | omega | (split <;> split <;> omega), below_on HB.out (Nat.le_refl _) hb⟩
            case measure => simp [intOf]; omega
      · have : k = l.length := by omega
        subst this
        rw [List.take_length]
        have hz : min (max 1 (St.depths l)) (m + 1) ≤ 1001 := by omega
        go_wp2
        go_ret
        exact ⟨ret_int (by omega), hB⟩
def DepthBC (l : List St) : Prop := ∀ (F : Nat → Prop) (w : World) (v : Value), Inn F w → Sts F w l v →
    Calls Tryz.prog 61 #[v] w (Gives w (.int .i64 (min (St.depths l) 65 : Nat)))
set_option maxHeartbeats 400000 in
theorem depthBT_calls (l : List St) : DepthBC l := by
  intro F w v hF hr
  have HC := Lib.hid (deepBT_calls l F w v 64 hF (by omega) hr)
  go_enter Tryz.func61, Tryz.ntmps61
  go_wp2_with (go_at_call 103; refine (HC.out).mono ?_; rintro e w' ⟨rfl, hb⟩)
  go_ret
  exact ⟨rfl, hb⟩
def DepthBRC (l : List St) : Prop := ∀ (F : Nat → Prop) (w : World) (v : Value), Inn F w → Sts F w l v →
    Calls Tryz.prog 39 #[v] w (Gives w (.int .i64 (min (St.depths l) 65 : Nat)))
set_option maxHeartbeats 400000 in
theorem depthBR_calls (l : List St) : DepthBRC l := by
  intro F w v hF hr
  have HC := Lib.hid (deepBR_calls l F w v 65 hF (by omega) (by omega) hr)
  go_enter Tryz.func39, Tryz.ntmps39
  go_wp2_with (go_at_call 74; refine (HC.out).mono ?_; rintro e w' ⟨rfl, hb⟩)
  go_ret
  exact ⟨rfl, hb⟩
end Go.Proofs.YtnbfadgclffgkaaGreatDoor
