/- The walks of clewref10.deepBlock, tree.deepBlock, and of the two DepthBlocks. -/
import Derived.Test.YtmabeegoapcfpaaGreatDoorQPart8b87d8c5
namespace Go.Proofs.YtmabeegoapcfpaaGreatDoor
open Go.RowKit Go.Sort
def DeepBRC (l : List St) : Prop := ∀ (F : Nat → Prop) (w : World) (v : Value) (m : Nat), Inn F w → 1 ≤ m → m ≤ 1000 → Sts F w l v →
    Calls Tryz.prog 204 #[v, .int .i64 m] w (Gives w (.int .i64 (min (St.depths l) m : Nat)))
theorem St.depths_pos (l : List St) (h : 0 < l.length) : 1 ≤ St.depths l := by
  cases l with
  | nil => simp at h
  | cons e l => simp only [St.depths]; omega
set_option maxRecDepth 100000 in
set_option maxHeartbeats 1000000 in
theorem deepBR_calls : ∀ l : List St, DeepBRC l := by
  refine blocks_ind fun l ih => ?_
  intro F w v m hF hm0 hm1 hr
  obtain ⟨a, cap, rfl⟩ := hr.shape
  obtain ⟨_, hl, hc, ha⟩ := hr.opn
  by_cases hl0 : l.length = 0
  · have hz : ((l.length : Int) == 0) = true := by rw [hl0]; rfl
    have hnil : l = [] := List.length_eq_zero_iff.1 hl0
    subst hnil
    go_enter Tryz.func204, Tryz.ntmps204
    go_wp2
    go_ret
    exact ⟨ret_int (by simp [St.depths]), Below.refl _ _⟩
  have hz : ((l.length : Int) == 0) = false := by rw [beq_eq_false_iff_ne]; omega
  have hpos := St.depths_pos l (by omega)
  by_cases hm : m = 1
  · subst hm
    clear ha
    go_enter Tryz.func204, Tryz.ntmps204
    go_wp2
    go_ret
    exact ⟨ret_int (by omega), Below.refl _ _⟩
  have hm2 : 1 < m := by omega
  have hm3 : (1 : Int) < (m : Int) := by omega
  clear hm hl0
  go_enter Tryz.func204, Tryz.ntmps204
  go_wp2
  go_loopw [5, 17] (fun t i wr => ∃ (k : Nat), k ≤ l.length ∧ i = .int .i64 k ∧ t = .int .i64 (min (St.depths (l.take k) - 1) (m - 1) : Nat) ∧ Below w.heap.size w wr) (fun _ i _ => l.length - (intOf i).toNat)
  case atStart => exact ⟨0, Nat.zero_le _, rfl, by simp [St.depths], Below.refl _ _⟩
  case round =>
    obtain ⟨k, hk, rfl, rfl, hB⟩ := hrel
    by_cases hlt : k < l.length
    · obtain ⟨b, off, rfl, hFb, hel⟩ := ha (by omega)
      obtain ⟨kd', n', s', a', m', cap', a2, m2, cap2, a3, m3, cap3, hx, g0, g1, g2, g3, g4, g5⟩ := hel wr (hB.block b (hF b hFb)) k hlt
      clear ha hel
      have hs1 := St.depths_take l k hlt
      have hs3 := St.depth_eq l[k]
      obtain ⟨ihb, ihe⟩ := ih _ (List.getElem_mem hlt)
      have hI := hF.below hB
      obtain ⟨_, _, _, _, _, _, hxa, hxb, hxe⟩ := (hx.below hF hB (Nat.le_refl _)).parts
      obtain ⟨rfl, hal, hac, haa⟩ := hxa.opn
      clear ih hx hr
      generalize hT : St.depths (l.take k) = T at *
      have hT2 : min (T - 1) (m - 1) ≤ 1000 := by omega
      have HS1 := Lib.hid hs1
      have HS3 := Lib.hid hs3
      clear hs1 hs3
      obtain ⟨wo, rfl⟩ : ∃ wo : World, wo = wr := ⟨_, rfl⟩
      go_wp2
      go_loopw [5, 24] (fun t i w2 => ∃ (j : Nat), j ≤ (l[k]).args.length ∧ i = .int .i64 j ∧ t = .int .i64 (min (max (T - 1) (Ex.depths ((l[k]).args.take j))) (m - 1) : Nat) ∧ Below (wo.heap.size + 1) (wo.alloc (.cells #[.int .i64 kd', .int .i64 n', .string s', .slice a' (l[k]).args.length cap', .slice a2 m2 cap2, .slice a3 m3 cap3] 108)) w2) (fun _ i _ => (l[k]).args.length - (intOf i).toNat)
      case atStart => exact ⟨0, Nat.zero_le _, rfl, by simp [Ex.depths], Below.refl _ _⟩
      case round =>
        obtain ⟨j, hj, rfl, rfl, hB0⟩ := hrel
        have hB2 := below_of_alloc hB0
        by_cases hlt2 : j < (l[k]).args.length
        · obtain ⟨b2, off2, rfl, hFb2, hel2⟩ := haa (by omega)
          obtain ⟨kd2, o2, nn2, s2, a2', m2', cap2', hx2, q0, q1, q2, q3, q4⟩ := hel2 wr (hB2.block b2 (hI b2 hFb2)) j hlt2
          clear haa hel2
          have HS2 := Lib.hid (Ex.depths_take (l[k]).args j hlt2)
          have hI2 := hI.below hB2
          have hcall : ∀ o, Calls Tryz.prog 208 #[.agg #[.int .i64 kd2, .int .i64 o2, .int .i64 nn2, .string s2, .slice a2' m2' cap2'], .int .i64 ((m : Int) - 1)] (wr.alloc o) (Gives (wr.alloc o) (.int .i64 (min ((l[k]).args[j]).depth (m - 1) : Nat))) := fun o => by
            have := deepR_calls (l[k]).args[j] F (wr.alloc o) _ (m - 1) (hI2.alloc _) (by omega) (by omega) ((hx2.below hI hB2 (Nat.le_refl _)).alloc hI2 o)
            rwa [show (((m - 1 : Nat)) : Int) = (m : Int) - 1 by omega] at this
          clear hx2 hxb hxe ihb ihe
          generalize hD : min (max (T - 1) (Ex.depths ((l[k]).args.take j))) (m - 1) = D
          generalize hE : min ((l[k]).args[j]).depth (m - 1) = E at hcall
          have HD := Lib.hid hD
          have HE := Lib.hid hE
          have HC := Lib.hid hcall
          have HB0 := Lib.hid hB0
          clear hD hE hcall hB0
          go_wp2_with (first | (go_at_call 208; refine (HC.out _).mono ?_; rintro e w' ⟨rfl, hb⟩) | (go_at_call 229; refine (greater_calls _ _ _).mono ?_; rintro e w'' ⟨rfl, rfl⟩))
          go_roundw
          case rel => exact ⟨j + 1, by omega, by go_num, by rw [HS2.out]; have := HD.out; have := HE.out; congr 1; omega, below_on1 HB0.out (by simp) hb⟩
          case measure => simp [intOf]; omega
        · have : j = (l[k]).args.length := by omega
          subst this
          rw [List.take_length]
          clear haa
          have hI2 := hI.below hB2
          have hcb : ∀ (p : Regrown), Calls Tryz.prog 204 #[.slice a2 m2 cap2, .int .i64 ((m : Int) - 1)] (grow (redrawn wr p.d) p.os) fun e w'' => e = .returned (.int .i64 (min (St.depths (l[k]).body) (m - 1) : Nat)) ∧ ∃ p : Regrown, w'' = grow (redrawn wr p.d) p.os :=
            fun p => regrown_gives (fun w' hb => by
              have := ihb F w' _ (m - 1) (hI2.below hb) (by omega) (by omega) ((hxb.below hI hB2 (Nat.le_refl _)).below hI2 hb (Nat.le_refl _))
              rwa [show (((m - 1 : Nat)) : Int) = (m : Int) - 1 by omega] at this) p
          have hce : ∀ (p : Regrown), Calls Tryz.prog 204 #[.slice a3 m3 cap3, .int .i64 ((m : Int) - 1)] (grow (redrawn wr p.d) p.os) fun e w'' => e = .returned (.int .i64 (min (St.depths (l[k]).els) (m - 1) : Nat)) ∧ ∃ p : Regrown, w'' = grow (redrawn wr p.d) p.os :=
            fun p => regrown_gives (fun w' hb => by
              have := ihe F w' _ (m - 1) (hI2.below hb) (by omega) (by omega) ((hxe.below hI hB2 (Nat.le_refl _)).below hI2 hb (Nat.le_refl _))
              rwa [show (((m - 1 : Nat)) : Int) = (m : Int) - 1 by omega] at this) p
          have hcg : ∀ (x y : Int) (p : Regrown), Calls Tryz.prog 229 #[.int .i64 x, .int .i64 y] (grow (redrawn wr p.d) p.os) fun e w'' => e = .returned (.int .i64 (max x y)) ∧ ∃ p : Regrown, w'' = grow (redrawn wr p.d) p.os :=
            fun x y p => regrown_gives (fun w' hb => (greater_calls x y w').mono fun _ _ h => ⟨h.1, h.2 ▸ Below.refl _ _⟩) p
          have hq4 := fun d os => cell_regrown (w := wr) (a := ⟨wo.heap.size, 4, none⟩) (v := .slice a2 m2 cap2) (cell_kept hB0 (by go_simp)) d os
          have hq5 := fun d os => cell_regrown (w := wr) (a := ⟨wo.heap.size, 5, none⟩) (v := .slice a3 m3 cap3) (cell_kept hB0 (by go_simp)) d os
          generalize hA : min (St.depths (l[k]).body) (m - 1) = A at hcb
          generalize hE : min (St.depths (l[k]).els) (m - 1) = E at hce
          generalize hD : min (max (T - 1) (Ex.depths ((l[k]).args))) (m - 1) = D
          have HD := Lib.hid hD
          have HA := Lib.hid hA
          have HE := Lib.hid hE
          have HCb := Lib.hid hcb
          have HCe := Lib.hid hce
          have HCg := Lib.hid hcg
          have HB := Lib.hid (bt hB hB2)
          clear hD hA hE hcb hce hcg hxb hxe ihb ihe hB0 hB2
          go_wp2
          refine wp_region_quiet_below (by kernel_rfl) (by kernel_rfl) ?_
          repeat (go_big_quiet_step (first | with_reducible exact HCb.out _ | with_reducible exact HCe.out _ | with_reducible exact HCg.out _ _ _))
          refine wpQuiet_nil ?_
          intro w' hw'
          have hb := below_of_regrown hw'
          clear hw' HCb HCe HCg hq4 hq5
          go_wp2
          go_roundw
          case rel => exact ⟨k + 1, by omega, by go_num, by rw [HS1.out]; have := HD.out; have := HE.out; have := HA.out; have := HS3.out; congr 1; omega, below_on HB.out (Nat.le_refl _) hb⟩
          case measure => simp [intOf]; omega
    · have : k = l.length := by omega
      subst this
      rw [List.take_length]
      have hz : min (St.depths l - 1) (m - 1) ≤ 1000 := by omega
      go_wp2
      go_ret
      exact ⟨ret_int (by omega), hB⟩
end Go.Proofs.YtmabeegoapcfpaaGreatDoor
/- The walk of tree.deepBlock, and of the two DepthBlocks. -/
namespace Go.Proofs.YtmabeegoapcfpaaGreatDoor
open Go.RowKit Go.Sort
def DeepBTC (l : List St) : Prop := ∀ (F : Nat → Prop) (w : World) (v : Value) (m : Nat), Inn F w → m ≤ 1000 → Sts F w l v →
    Calls Tryz.prog 155 #[v, .int .i64 m] w (Gives w (.int .i64 (min (St.depths l) (m + 1) : Nat)))
set_option maxRecDepth 100000 in
set_option maxHeartbeats 1000000 in
theorem deepBT_calls : ∀ l : List St, DeepBTC l := by
  refine blocks_ind fun l ih => ?_
  intro F w v m hF hm1 hr
  obtain ⟨a, cap, rfl⟩ := hr.shape
  obtain ⟨_, hl, hc, ha⟩ := hr.opn
  by_cases hl0 : l.length = 0
  · have hnil : l = [] := List.length_eq_zero_iff.1 hl0
    subst hnil
    clear ha
    go_enter Tryz.func155, Tryz.ntmps155
    go_wp2
    refine wp_loop_rounds 1 ?_
    rw [rounds_succ]
    go_wp2
    go_ret
    exact ⟨ret_int (by simp [St.depths]), Below.refl _ _⟩
  have hpos := St.depths_pos l (by omega)
  have hlp : 0 < l.length := by omega
  have hlp2 : (1 : Int) ≤ (l.length : Int) := by omega
  by_cases hm : m = 0
  · subst hm
    clear ha
    rcases Classical.em ((1 : Int) < (l.length : Int)) with hone | hone
    all_goals
      go_enter Tryz.func155, Tryz.ntmps155
      go_wp2
      refine wp_loop_rounds 1 ?_
      rw [rounds_succ]
      go_wp2
      go_ret
      exact ⟨ret_int (by omega), Below.refl _ _⟩
  have hm2 : 0 < m := by omega
  have hm3 : (0 : Int) < (m : Int) := by omega
  clear hm hl0
  rcases Classical.em ((1 : Int) < (l.length : Int)) with hone | hone
  all_goals
    go_enter Tryz.func155, Tryz.ntmps155
    go_wp2
    go_loopw [5, 6] (fun t i wr => ∃ (k : Nat), k ≤ l.length ∧ i = .int .i64 k ∧ t = .int .i64 (min (max 1 (St.depths (l.take k))) (m + 1) : Nat) ∧ Below w.heap.size w wr) (fun _ i _ => l.length - (intOf i).toNat)
    case atStart => exact ⟨0, Nat.zero_le _, rfl, by first | (congr 1; simp only [List.take_zero, St.depths]; omega) | simp [St.depths] | (simp [St.depths]; omega), Below.refl _ _⟩
    case round =>
      obtain ⟨k, hk, rfl, rfl, hB⟩ := hrel
      by_cases hlt : k < l.length
      · obtain ⟨b, off, rfl, hFb, hel⟩ := ha (by omega)
        obtain ⟨kd', n', s', a', m', cap', a2, m2, cap2, a3, m3, cap3, hx, g0, g1, g2, g3, g4, g5⟩ := hel wr (hB.block b (hF b hFb)) k hlt
        have hI := hF.below hB
        have hbl : b < wr.heap.size := hI b hFb
        clear ha hel g0 g1 g2
        have hs1 := St.depths_take l k hlt
        have hs3 := St.depth_eq l[k]
        obtain ⟨ihb, ihe⟩ := ih _ (List.getElem_mem hlt)
        obtain ⟨_, _, _, _, _, _, hxa, hxb, hxe⟩ := (hx.below hF hB (Nat.le_refl _)).parts
        obtain ⟨rfl, hal, hac, haa⟩ := hxa.opn
        clear ih hx hr
        generalize hT : St.depths (l.take k) = T at *
        have hT2 : min (max 1 T) (m + 1) ≤ 1001 := by omega
        have HS1 := Lib.hid hs1
        have HS3 := Lib.hid hs3
        clear hs1 hs3
        obtain ⟨wo, rfl⟩ : ∃ wo : World, wo = wr := ⟨_, rfl⟩
        go_wp2
        go_loopw [5, 28] (fun t i w2 => ∃ (j : Nat), j ≤ (l[k]).args.length ∧ i = .int .i64 j ∧ t = .int .i64 (min (max (max 1 T) (1 + Ex.depths ((l[k]).args.take j))) (m + 1) : Nat) ∧ Below wo.heap.size wo w2) (fun _ i _ => (l[k]).args.length - (intOf i).toNat)
        case atStart => exact ⟨0, Nat.zero_le _, rfl, by congr 2; simp only [List.take_zero, Ex.depths]; omega, Below.refl _ _⟩
        case round =>
          obtain ⟨j, hj, rfl, rfl, hB2⟩ := hrel
          by_cases hlt2 : j < (l[k]).args.length
          · obtain ⟨b2, off2, rfl, hFb2, hel2⟩ := haa (by omega)
            obtain ⟨kd2, o2, nn2, s2, a2', m2', cap2', hx2, q0, q1, q2, q3, q4⟩ := hel2 wr (hB2.block b2 (hI b2 hFb2)) j hlt2
            clear haa hel2
            have HS2 := Lib.hid (Ex.depths_take (l[k]).args j hlt2)
            have hI2 := hI.below hB2
            have hcall : ∀ o, Calls Tryz.prog 196 #[.agg #[.int .i64 kd2, .int .i64 o2, .int .i64 nn2, .string s2, .slice a2' m2' cap2'], .int .i64 ((m : Int) - 1)] (wr.alloc o) (Gives (wr.alloc o) (.int .i64 (min ((l[k]).args[j]).depth m : Nat))) := fun o => by
              have := deepT_calls (l[k]).args[j] F (wr.alloc o) _ (m - 1) (hI2.alloc _) (by omega) ((hx2.below hI hB2 (Nat.le_refl _)).alloc hI2 o)
              rwa [show (((m - 1 : Nat)) : Int) = (m : Int) - 1 by omega, show m - 1 + 1 = m by omega] at this
            clear hx2 hxb hxe ihb ihe
            generalize hD : min (max (max 1 T) (1 + Ex.depths ((l[k]).args.take j))) (m + 1) = D
            generalize hE : min ((l[k]).args[j]).depth m = E at hcall
            have hD2 : D ≤ 1001 := by omega
            have hE2 : E ≤ 1000 := by omega
            have HD := Lib.hid hD
            have HE := Lib.hid hE
            have HC := Lib.hid hcall
            have HB2 := Lib.hid hB2
            clear hD hE hcall hB2 hB
            go_wp2_with (go_at_call 196; refine (HC.out _).mono ?_; rintro e w' ⟨rfl, hb⟩)
            go_roundw
            case rel => exact ⟨j + 1, by omega, by go_num, by rw [HS2.out]; have := HD.out; have := HE.out; congr 1; split <;> omega, below_on1 HB2.out (Nat.le_refl _) hb⟩
            case measure => simp [intOf]; omega
          · have : j = (l[k]).args.length := by omega
            subst this
            rw [List.take_length]
            clear haa
            have hI2 := hI.below hB2
            have hcb : ∀ (p : Regrown), Calls Tryz.prog 155 #[.slice a2 m2 cap2, .int .i64 ((m : Int) - 1)] (grow (redrawn wr p.d) p.os) fun e w'' => e = .returned (.int .i64 (min (St.depths (l[k]).body) m : Nat)) ∧ ∃ p : Regrown, w'' = grow (redrawn wr p.d) p.os :=
              fun p => regrown_gives (fun w' hb => by
                have := ihb F w' _ (m - 1) (hI2.below hb) (by omega) ((hxb.below hI hB2 (Nat.le_refl _)).below hI2 hb (Nat.le_refl _))
                rwa [show (((m - 1 : Nat)) : Int) = (m : Int) - 1 by omega, show m - 1 + 1 = m by omega] at this) p
            have hce : ∀ (p : Regrown), Calls Tryz.prog 155 #[.slice a3 m3 cap3, .int .i64 ((m : Int) - 1)] (grow (redrawn wr p.d) p.os) fun e w'' => e = .returned (.int .i64 (min (St.depths (l[k]).els) m : Nat)) ∧ ∃ p : Regrown, w'' = grow (redrawn wr p.d) p.os :=
              fun p => regrown_gives (fun w' hb => by
                have := ihe F w' _ (m - 1) (hI2.below hb) (by omega) ((hxe.below hI hB2 (Nat.le_refl _)).below hI2 hb (Nat.le_refl _))
                rwa [show (((m - 1 : Nat)) : Int) = (m : Int) - 1 by omega, show m - 1 + 1 = m by omega] at this) p
            have hq4 := fun d os => cell_regrown (w := wr) (a := ⟨b, off + k * 6 + 4, none⟩) (v := .slice a2 m2 cap2) (by rw [hB2.cell hbl]; exact g4) d os
            have hq5 := fun d os => cell_regrown (w := wr) (a := ⟨b, off + k * 6 + 5, none⟩) (v := .slice a3 m3 cap3) (by rw [hB2.cell hbl]; exact g5) d os
            generalize hA : min (St.depths (l[k]).body) m = A at hcb
            generalize hE : min (St.depths (l[k]).els) m = E at hce
            generalize hD : min (max (max 1 T) (1 + Ex.depths ((l[k]).args))) (m + 1) = D
            have hA2 : A ≤ 1000 := by omega
            have hE2 : E ≤ 1000 := by omega
            have hD2 : D ≤ 1001 := by omega
            have HD := Lib.hid hD
            have HA := Lib.hid hA
            have HE := Lib.hid hE
            have HCb := Lib.hid hcb
            have HCe := Lib.hid hce
            have HB := Lib.hid (bt hB hB2)
            clear hD hA hE hcb hce hxb hxe ihb ihe hB2 hB g3 g4 g5
            go_wp2
            refine wp_region_quiet_below (by kernel_rfl) (by kernel_rfl) ?_
            repeat (go_big_quiet_step (first | with_reducible exact HCb.out _ | with_reducible exact HCe.out _))
            refine wpQuiet_nil ?_
            intro w' hw'
            have hb := below_of_regrown hw'
            clear hw' HCb HCe hq4 hq5
            go_wp2
            go_roundw
            case rel => exact ⟨k + 1, by omega, by go_num, by rw [HS1.out]; have := HD.out; have := HE.out; have := HA.out; have := HS3.out; congr 1; first | omega | (split <;> split <;> omega), below_on HB.out (Nat.le_refl _) hb⟩
            case measure => simp [intOf]; omega
      · have : k = l.length := by omega
        subst this
        rw [List.take_length]
        have hz : min (max 1 (St.depths l)) (m + 1) ≤ 1001 := by omega
        go_wp2
        go_ret
        exact ⟨ret_int (by omega), hB⟩
def DepthBC (l : List St) : Prop := ∀ (F : Nat → Prop) (w : World) (v : Value), Inn F w → Sts F w l v →
    Calls Tryz.prog 88 #[v] w (Gives w (.int .i64 (min (St.depths l) 65 : Nat)))
set_option maxHeartbeats 400000 in
theorem depthBT_calls (l : List St) : DepthBC l := by
  intro F w v hF hr
  have HC := Lib.hid (deepBT_calls l F w v 64 hF (by omega) hr)
  go_enter Tryz.func88, Tryz.ntmps88
  go_wp2_with (go_at_call 155; refine (HC.out).mono ?_; rintro e w' ⟨rfl, hb⟩)
  go_ret
  exact ⟨rfl, hb⟩
def DepthBRC (l : List St) : Prop := ∀ (F : Nat → Prop) (w : World) (v : Value), Inn F w → Sts F w l v →
    Calls Tryz.prog 175 #[v] w (Gives w (.int .i64 (min (St.depths l) 65 : Nat)))
set_option maxHeartbeats 400000 in
theorem depthBR_calls (l : List St) : DepthBRC l := by
  intro F w v hF hr
  have HC := Lib.hid (deepBR_calls l F w v 65 hF (by omega) (by omega) hr)
  go_enter Tryz.func175, Tryz.ntmps175
  go_wp2_with (go_at_call 204; refine (HC.out).mono ?_; rintro e w' ⟨rfl, hb⟩)
  go_ret
  exact ⟨rfl, hb⟩
end Go.Proofs.YtmabeegoapcfpaaGreatDoor
