/- The walk of clewref10.FewBlock. -/
import Derived.Test.YtblhpiebheommaaBlockSize
namespace Go.Proofs.Ytblhpiebheommaa
open Go.RowKit Go.Sort

def FewBC (l : List St) : Prop := ∀ (F : Nat → Prop) (w : World) (v : Value) (m : Int), Inn F w → -3000000 ≤ m → m ≤ 1000000 → Sts F w l v →
    Calls Try.prog 13 #[v, .int .i64 m] w (Gives w (.int .i64 (St.fews l m)))

set_option maxRecDepth 100000 in
set_option maxHeartbeats 1000000 in
theorem fewB_calls : ∀ l : List St, FewBC l := by
  refine blocks_ind fun l ih => ?_
  intro F w v m hF hm0 hm1 hr
  obtain ⟨a, cap, rfl⟩ := hr.shape
  obtain ⟨_, hl, hc, ha⟩ := hr.opn
  go_enter Try.func13, Try.ntmps13
  go_wp2
  go_loopw [1, 11] (fun t i wr => ∃ (k : Nat) (q : Int), k ≤ l.length ∧ i = .int .i64 k ∧ t = .int .i64 q ∧ -3000000 ≤ q ∧ q ≤ 1000000 ∧ Hid (St.fews l m = St.fews (l.drop k) q) ∧ Below w.heap.size w wr) (fun _ i _ => l.length - (intOf i).toNat)
  case atStart => exact ⟨0, m, Nat.zero_le _, rfl, rfl, by omega, by omega, by rw [List.drop_zero]; exact rfl, Below.refl _ _⟩
  case round =>
    obtain ⟨k, q, hk, rfl, rfl, hq0, hq1, hq, hB⟩ := hrel
    by_cases hlt : k < l.length
    · obtain ⟨b, off, rfl, hFb, hel⟩ := ha (by omega)
      obtain ⟨kd', n', s', a', m', cap', a2, m2, cap2, a3, m3, cap3, hx, g0, g1, g2, g3, g4, g5⟩ := hel wr (hB.block b (hF b hFb)) k hlt
      have hI := hF.below hB
      clear ha hel
      have HD := Lib.hid (St.fews_drop l k hlt q)
      obtain ⟨ihb, ihe⟩ := ih _ (List.getElem_mem hlt)
      obtain ⟨_, _, _, _, _, _, hxa, hxb, hxe⟩ := (hx.below hF hB (Nat.le_refl _)).parts
      obtain ⟨rfl, hal, hac, haa⟩ := hxa.opn
      clear ih hx hr
      obtain ⟨wo, rfl⟩ : ∃ wo : World, wo = wr := ⟨_, rfl⟩
      go_wp2
      go_loopw [1, 20] (fun t i w2 => ∃ (j : Nat) (p : Int), j ≤ (l[k]).args.length ∧ i = .int .i64 j ∧ t = .int .i64 p ∧ -3000001 ≤ p ∧ p ≤ 1000000 ∧ Hid (Ex.fews (l[k]).args (q - 1) = Ex.fews ((l[k]).args.drop j) p) ∧ Below (wo.heap.size + 1) (wo.alloc (.cells #[.int .i64 kd', .int .i64 n', .string s', .slice a' (l[k]).args.length cap', .slice a2 m2 cap2, .slice a3 m3 cap3] 76)) w2) (fun _ i _ => (l[k]).args.length - (intOf i).toNat)
      case atStart => exact ⟨0, q - 1, Nat.zero_le _, rfl, rfl, by omega, by omega, by rw [List.drop_zero]; exact rfl, Below.refl _ _⟩
      case round =>
        obtain ⟨j, p, hj, rfl, rfl, hp0, hp1, hp, hB0⟩ := hrel
        have hB2 := below_of_alloc hB0
        by_cases hlt2 : j < (l[k]).args.length
        · obtain ⟨b2, off2, rfl, hFb2, hel2⟩ := haa (by omega)
          obtain ⟨kd2, o2, nn2, s2, a2', m2', cap2', hx2, q0, q1, q2, q3, q4⟩ := hel2 wr (hB2.block b2 (hI b2 hFb2)) j hlt2
          clear haa hel2
          have HD2 := Lib.hid (Ex.fews_drop (l[k]).args j hlt2 p)
          have hI2 := hI.below hB2
          by_cases hneg : p < 0
          · have hfin : Hid (St.fews l m = p) := by
              show St.fews l m = p
              have h1 : Ex.fews (l[k]).args (q - 1) = p := by rw [hp.out, HD2.out, if_pos hneg]
              rw [hq.out, HD.out, h1, if_pos hneg]
            clear hq HD hp HD2 ihb ihe hxb hxe hx2
            go_wp2
            go_ret
            exact ⟨ret_int hfin.out.symm, (hB.trans (hB2.mono hB.size)).alloc (Nat.le_trans hB.size hB2.size) _⟩
          · have hfs := Ex.few_size (l[k]).args[j] p (by omega)
            have hr1 := hfs.1.1
            have hr2 := hfs.1.2
            have hnx : Hid (Ex.fews (l[k]).args (q - 1) = Ex.fews ((l[k]).args.drop (j + 1)) ((l[k]).args[j].few p)) := by
              show Ex.fews (l[k]).args (q - 1) = _
              rw [hp.out, HD2.out, if_neg hneg]
            have HC := Lib.hid (fun o => few_calls (l[k]).args[j] F (wr.alloc o) _ p (hI2.alloc _) (by omega) (by omega) ((hx2.below hI hB2 (Nat.le_refl _)).alloc hI2 o))
            have HB0 := Lib.hid hB0
            clear hp HD2 hfs hx2 ihb ihe hxb hxe hB0
            go_wp2_with (go_at_call 8; refine (HC.out _).mono ?_; rintro e w' ⟨rfl, hb⟩)
            go_roundw
            case rel => exact ⟨j + 1, _, by omega, by go_num, rfl, by omega, by omega, hnx, below_on1 HB0.out (by simp) hb⟩
            case measure => simp [intOf]; omega
        · have : j = (l[k]).args.length := by omega
          subst this
          have hpe : Ex.fews (l[k]).args (q - 1) = p := by rw [hp.out, List.drop_length]; rfl
          clear haa hp
          by_cases hneg : p < 0
          · have hfin : Hid (St.fews l m = p) := by
              show St.fews l m = p
              rw [hq.out, HD.out, hpe, if_pos hneg]
            clear hq HD hpe ihb ihe hxb hxe
            go_wp2
            go_ret
            exact ⟨ret_int hfin.out.symm, hB.trans (hB2.mono hB.size)⟩
          have hI2 := hI.below hB2
          have ht1 := St.fews_total (l[k]).body p (by omega)
          have hnx : Hid (St.fews l m = St.fews (l.drop (k + 1)) (St.fews (l[k]).els (St.fews (l[k]).body p))) := by
            show St.fews l m = _
            rw [hq.out, HD.out, hpe, if_neg hneg]
          clear hpe hq HD
          generalize hA : St.fews (l[k]).body p = A at ht1 hnx
          have ht2 : -(2 * p + 3) ≤ St.fews (l[k]).els A ∧ St.fews (l[k]).els A ≤ p := by
            by_cases hAn : A < 0
            · have := St.fews_neg (l[k]).els A hAn; omega
            · have := St.fews_total (l[k]).els A (by omega); omega
          have hcb : ∀ (p1 : Regrown), Calls Try.prog 13 #[.slice a2 m2 cap2, .int .i64 p] (grow (redrawn wr p1.d) p1.os) fun e w'' => e = .returned (.int .i64 A) ∧ ∃ p : Regrown, w'' = grow (redrawn wr p.d) p.os :=
            fun p1 => regrown_gives (fun w' hb => by
              have := ihb F w' _ p (hI2.below hb) (by omega) (by omega) ((hxb.below hI hB2 (Nat.le_refl _)).below hI2 hb (Nat.le_refl _))
              rwa [hA] at this) p1
          have hce : ∀ (p1 : Regrown), Calls Try.prog 13 #[.slice a3 m3 cap3, .int .i64 A] (grow (redrawn wr p1.d) p1.os) fun e w'' => e = .returned (.int .i64 (St.fews (l[k]).els A)) ∧ ∃ p : Regrown, w'' = grow (redrawn wr p.d) p.os :=
            fun p1 => regrown_gives (fun w' hb => ihe F w' _ A (hI2.below hb) (by omega) (by omega) ((hxe.below hI hB2 (Nat.le_refl _)).below hI2 hb (Nat.le_refl _))) p1
          have hq4 := fun d os => cell_regrown (w := wr) (a := ⟨wo.heap.size, 4, none⟩) (v := .slice a2 m2 cap2) (cell_kept hB0 (by go_simp)) d os
          have hq5 := fun d os => cell_regrown (w := wr) (a := ⟨wo.heap.size, 5, none⟩) (v := .slice a3 m3 cap3) (cell_kept hB0 (by go_simp)) d os
          generalize hE : St.fews (l[k]).els A = E at ht2 hnx hce
          have HCb := Lib.hid hcb
          have HCe := Lib.hid hce
          have HB := Lib.hid (hB.trans (hB2.mono hB.size))
          clear hA hE hcb hce hxb hxe ihb ihe hB0 hB2 hB
          go_wp2
          refine wp_region_quiet_below (by kernel_rfl) (by kernel_rfl) ?_
          repeat (go_big_quiet_step (first | with_reducible exact HCb.out _ | with_reducible exact HCe.out _))
          refine wpQuiet_nil ?_
          intro w' hw'
          have hb := below_of_regrown hw'
          clear hw' HCb HCe hq4 hq5
          go_wp2
          go_roundw
          case rel => exact ⟨k + 1, _, by omega, by go_num, rfl, by omega, by omega, hnx, below_on HB.out (Nat.le_refl _) hb⟩
          case measure => simp [intOf]; omega
    · have : k = l.length := by omega
      subst this
      have hfin : Hid (St.fews l m = q) := by
        show St.fews l m = q
        rw [hq.out, List.drop_length]; rfl
      clear hq
      go_wp2
      go_ret
      exact ⟨ret_int hfin.out.symm, hB⟩

end Go.Proofs.Ytblhpiebheommaa
