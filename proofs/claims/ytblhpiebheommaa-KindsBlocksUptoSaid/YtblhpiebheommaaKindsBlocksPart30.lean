/- The walk of clewref10.FewBlock. -/
import Derived.Test.YtblhpiebheommaaKindsBlocksPart4
import Derived.Test.YtblhpiebheommaaKindsBlocksPart21
import Derived.Test.YtblhpiebheommaaKindsBlocksPart5
import Derived.Test.YtblhpiebheommaaKindsBlocksPart12
import Derived.Test.YtblhpiebheommaaKindsBlocksPart29
namespace Go.Proofs.Ytblhpiebheommaa
open Go.RowKit Go.Sort

def FewBC (l : List St) : Prop := ∀ (F : Nat → Prop) (w : World) (v : Value) (m : Int), Inn F w → -3000000 ≤ m → m ≤ 1000000 → Sts F w l v →
    Calls Try.prog 13 #[v, .int .i64 m] w (Gives w (.int .i64 (St.fews l m)))

set_option maxRecDepth 100000 in
set_option maxHeartbeats 1000000 in
theorem fewB_calls : ∀ l : List St, FewBC l := by
  refine blocks_ind fun l ih => ?_
  intro F w v m hF hm0 hm1 hr
  obtain ⟨a, cap, rfl⟩ := hr.shape
  obtain ⟨_, hl, hc, ha⟩ := hr.opn
  go_enter Try.func13, Try.ntmps13
  go_wp2
  go_loopw [1, 11] (fun t i wr => ∃ (k : Nat) (q : Int), k ≤ l.length ∧ i = .int .i64 k ∧ t = .int .i64 q ∧ -3000000 ≤ q ∧ q ≤ 1000000 ∧ Hid (St.fews l m = St.fews (l.drop k) q) ∧ Below w.heap.size w wr) (fun _ i _ => l.length - (intOf i).toNat)
  case atStart => exact ⟨0, m, Nat.zero_le _, rfl, rfl, by omega, by omega, by rw [List.drop_zero]; exact rfl, Below.refl _ _⟩
  case round =>
    obtain ⟨k, q, hk, rfl, rfl, hq0, hq1, hq, hB⟩ := hrel
    by_cases hlt : k < l.length
    · obtain ⟨b, off, rfl, hFb, hel⟩ := ha (by omega)
      obtain ⟨kd', n', s', a', m', cap', a2, m2, cap2, a3, m3, cap3, hx, g0, g1, g2, g3, g4, g5⟩ := hel wr (hB.block b (hF b hFb)) k hlt
      have hI := hF.below hB
      clear ha hel
      have HD := Lib.hid (St.fews_drop l k hlt q)
      obtain ⟨ihb, ihe⟩ := ih _ (List.getElem_mem hlt)
      obtain ⟨_, _, _, _, _, _, hxa, hxb, hxe⟩ := (hx.below hF hB (Nat.le_refl _)).parts
      obtain ⟨rfl, hal, hac, haa⟩ := hxa.opn
      clear ih hx hr
      obtain ⟨wo, rfl⟩ : ∃ wo : World, wo = wr := ⟨_, rfl⟩
      go_wp2
      go_loopw [1, 20] (fun t i w2 => ∃ (j : Nat) (p : Int), j ≤ (l[k]).args.length ∧ i = .int .i64 j ∧ t = .int .i64 p ∧ -3000001 ≤ p ∧ p ≤ 1000000 ∧ Hid (Ex.fews (l[k]).args (q - 1) = Ex.fews ((l[k]).args.drop j) p) ∧ Below (wo.heap.size + 1) (wo.alloc (.cells #[.int .i64 kd', .int .i64 n', .string s', .slice a' (l[k]).args.length cap', .slice a2 m2 cap2, .slice a3 m3 cap3] 76)) w2) (fun _ i _ => (l[k]).args.length - (intOf i).toNat)
      case atStart => exact ⟨0, q - 1, Nat.zero_le _, rfl, rfl, by omega, by omega, by rw [List.drop_zero]; exact rfl, Below.refl _ _⟩
      case round =>
        obtain ⟨j, p, hj, rfl, rfl, hp0, hp1, hp, hB0⟩ := hrel
        have hB2 := below_of_alloc hB0
        by_cases hlt2 : j < (l[k]).args.length
        · obtain ⟨b2, off2, rfl, hFb2, hel2⟩ := haa (by omega)
          obtain ⟨kd2, o2, nn2, s2, a2', m2', cap2', hx2, q0, q1, q2, q3, q4⟩ := hel2 wr (hB2.block b2 (hI b2 hFb2)) j hlt2
          clear haa hel2
          have HD2 := Lib.hid (Ex.fews_drop (l[k]).args j hlt2 p)
          have hI2 := hI.below hB2
          by_cases hneg : p < 0
          · have hfin : Hid (St.fews l m = p) := by
              show St.fews l m = p
              have h1 : Ex.fews (l[k]).args (q - 1) = p := by rw [hp.out, HD2.out, if_pos hneg]
              rw [hq.out, HD.out, h1, if_pos hneg]
            clear hq HD hp HD2 ihb ihe hxb hxe hx2
            go_wp2
            go_ret
            exact ⟨ret_int hfin.out.symm, (hB.trans (hB2.mono hB.size)).alloc (Nat.le_trans hB.size hB2.size) _⟩
          · have hfs := Ex.few_size (l[k]).args[j] p (by omega)
            have hr1 := hfs.1.1
            have hr2 := hfs.1.2
            have hnx : Hid (Ex.fews (l[k]).args (q - 1) = Ex.fews ((l[k]).args.drop (j + 1)) ((l[k]).args[j].few p)) := by
              show Ex.fews (l[k]).args (q - 1) = _
              rw [hp.out, HD2.out, if_neg hneg]
            have HC := Lib.hid (fun o => few_calls (l[k]).args[j] F (wr.alloc o) _ p (hI2.alloc _) (by omega) (by omega) ((hx2.below hI hB2 (Nat.le_refl _)).alloc hI2 o))
            have HB0 := Lib.hid hB0
            clear hp HD2 hfs hx2 ihb ihe hxb hxe hB0
            go_wp2_with (go_at_call 8; refine (HC.out _).mono ?_; rintro e w' ⟨rfl, hb⟩)
            go_roundw
            case rel => exact ⟨j + 1, _, by omega, by go_num, rfl, by omega, by omega, hnx, below_on1 HB0.out (by simp) hb⟩
            case measure => simp [intOf]; omega
        · have : j = (l[k]).args.length := by omega
          subst this
          have hpe : Ex.fews (l[k]).args (q - 1) = p := by rw [hp.out, List.drop_length]; rfl
          clear haa hp
          by_cases hneg : p < 0
          · have hfin : Hid (St.fews l m = p) := by
              show St.fews l m = p
              rw [hq.out, HD.out, hpe, if_pos hneg]
            clear hq HD hpe ihb ihe hxb hxe
            go_wp2
            go_ret
            exact ⟨ret_int hfin.out.symm, hB.trans (hB2.mono hB.size)⟩
          have hI2 := hI.below hB2
          have ht1 := St.fews_total (l[k]).body p (by omega)
          have hnx : Hid (St.fews l m = St.fews (l.drop (k + 1)) (St.fews (l[k]).els (St.fews (l[k]).body p))) := by
            show St.fews l m = _
            rw [hq.out, HD.out, hpe, if_neg hneg]
          clear hpe hq HD
          generalize hA : St.fews (l[k]).body p = A at ht1 hnx
          have ht2 : -(2 * p + 3) ≤ St.fews (l[k]).els A ∧ St.fews (l[k]).els A ≤ p := by
            by_cases hAn : A < 0
            · have := St.fews_neg (l[k]).els A hAn; omega
            · have := St.fews_total (l[k]).els A (by omega); omega
          have hcb : ∀ (p1 : Regrown), Calls Try.prog 13 #[.slice a2 m2 cap2, .int .i64 p] (grow (redrawn wr p1.d) p1.os) fun e w'' => e = .returned (.int .i64 A) ∧ ∃ p : Regrown, w'' = grow (redrawn wr p.d) p.os :=
            fun p1 => regrown_gives (fun w' hb => by
              have := ihb F w' _ p (hI2.below hb) (by omega) (by omega) ((hxb.below hI hB2 (Nat.le_refl _)).below hI2 hb (Nat.le_refl _))
              rwa [hA] at this) p1
          have hce : ∀ (p1 : Regrown), Calls Try.prog 13 #[.slice a3 m3 cap3, .int .i64 A] (grow (redrawn wr p1.d) p1.os) fun e w'' => e = .returned (.int .i64 (St.fews (l[k]).els A)) ∧ ∃ p : Regrown, w'' = grow (redrawn wr p.d) p.os :=
            fun p1 => regrown_gives (fun w' hb => ihe F w' _ A (hI2.below hb) (by omega) (by omega) ((hxe.below hI hB2 (Nat.le_refl _)).below hI2 hb (Nat.le_refl _))) p1
          have hq4 := fun d os => cell_regrown (w := wr) (a := ⟨wo.heap.size, 4, none⟩) (v := .slice a2 m2 cap2) (cell_kept hB0 (by go_simp)) d os
          have hq5 := fun d os => cell_regrown (w := wr) (a := ⟨wo.heap.size, 5, none⟩) (v := .slice a3 m3 cap3) (cell_kept hB0 (by go_simp)) d os
          generalize hE : St.fews (l[k]).els A = E at ht2 hnx hce
          have HCb := Lib.hid hcb
          have HCe := Lib.hid hce
          have HB := Lib.hid (hB.trans (hB2.mono hB.size))
          clear hA hE hcb hce hxb hxe ihb ihe hB0 hB2 hB
          go_wp2
          refine wp_region_quiet_below (by kernel_rfl) (by kernel_rfl) ?_
          repeat (go_big_quiet_step (first | with_reducible exact HCb.out _ | with_reducible exact HCe.out _))
          refine wpQuiet_nil ?_
          intro w' hw'
          have hb := below_of_regrown hw'
          clear hw' HCb HCe hq4 hq5
          go_wp2
          go_roundw
          case rel => exact ⟨k + 1, _, by omega, by go_num, rfl, by omega, by omega, hnx, below_on HB.out (Nat.le_refl _) hb⟩
          case measure => simp [intOf]; omega
    · have : k = l.length := by omega
      subst this
      have hfin : Hid (St.fews l m = q) := by
        show St.fews l m = q
        rw [hq.out, List.drop_length]; rfl
      clear hq
      go_wp2
      go_ret
      exact ⟨ret_int hfin.out.symm, hB⟩

end Go.Proofs.Ytblhpiebheommaa
/- The walk of clewlaw16.KindsLocals: it returns true. -/
namespace Go.Proofs.Ytblhpiebheommaa
open Go.RowKit Go.Sort

theorem St.sizes_totals : ∀ l : List St, St.sizes l ≤ St.totals l := by
  refine blocks_ind fun l ih => ?_
  induction l with
  | nil => exact Nat.le_refl _
  | cons s r ihr =>
    obtain ⟨h1, h2⟩ := ih s (List.mem_cons_self ..)
    have h3 := ihr fun x hx => ih x (List.mem_cons_of_mem _ hx)
    have h4 := St.size_eq s
    obtain ⟨k, n, nm, args, body, els⟩ := s
    simp only [St.sizes, St.totals, St.total, St.body, St.els] at *
    omega

set_option maxRecDepth 100000 in
set_option maxHeartbeats 1000000 in
theorem kindsLocals_calls (l : List St) (F : Nat → Prop) (w : World) (v : Value) (hF : Inn F w) (_hm : MX w) (hl : Sts F w l v) :
    Calls Try.prog 5 #[v] w (Gives w (.bool true)) := by
  obtain ⟨a, cap, rfl⟩ := hl.shape
  have HA := Lib.hid (fun w' => awake16_calls w')
  have HF := Lib.hid (fun w' (hb : Below w.heap.size w w') => fewB_calls l F w' _ 2000 (hF.below hb) (by omega) (by omega) (hl.below hF hb (Nat.le_refl _)))
  have hx0 := (St.fews_total l 2000 (by omega))
  have hsz : 0 ≤ St.fews l 2000 → St.sizes l ≤ 1000000 := fun h => by
    have h1 := hx0.2 h
    have h2 := St.sizes_totals l
    omega
  have HT : Hid (0 ≤ St.fews l 2000 → ∀ w' (_hb : Below w.heap.size w w'), Calls Try.prog 17 #[.slice a l.length cap] w' (Gives w' (.int .i64 (St.locsL l)))) := fun h w' hb => locsT_calls l F w' _ (hF.below hb) (hsz h) (hl.below hF hb (Nat.le_refl _))
  have HR : Hid (0 ≤ St.fews l 2000 → ∀ w' (_hb : Below w.heap.size w w'), Calls Try.prog 18 #[.slice a l.length cap] w' (Gives w' (.int .i64 (St.locsL l)))) := fun h w' hb => locsR_calls l F w' _ (hF.below hb) (hsz h) (hl.below hF hb (Nat.le_refl _))
  have hW : Below w.heap.size w w := Below.refl _ _
  clear hl hF hsz hx0
  generalize St.fews l 2000 = x at *
  generalize St.locsL l = t at *
  generalize l.length = len at *
  by_cases hx : x < 0
  · have hxd : decide (x < 0) = true := by simp [hx]
    clear HT HR
    go_enter Try.func5, Try.ntmps5
    go_wp2_with (first | (go_at_call 13; (with_reducible refine (HF.out _ hW).mono ?_); rintro e w' ⟨rfl, hb⟩) | (go_at_call 10; (with_reducible refine (HA.out _).mono ?_); rintro e w'' ⟨rfl, hb2⟩))
    go_ret
    exact ⟨rfl, below_on hb (Nat.le_refl _) hb2⟩
  have hxd : decide (x < 0) = false := by simp [hx]
  have HT2 := Lib.hid (HT.out (by omega))
  have HR2 := Lib.hid (HR.out (by omega))
  clear hx HT HR
  go_enter Try.func5, Try.ntmps5
  go_wp2_with (first | (go_at_call 13; (with_reducible refine (HF.out _ hW).mono ?_); rintro e w1 ⟨rfl, hb1⟩) |
    (go_at_call 17; (with_reducible refine (HT2.out _ hb1).mono ?_); rintro e w2 ⟨rfl, hb2⟩; have hbo2 : Below w.heap.size w w2 := below_on hb1 (Nat.le_refl _) hb2) |
    (go_at_call 18; (with_reducible refine (HR2.out _ hbo2).mono ?_); rintro e w3 ⟨rfl, hb3⟩; have hbo3 : Below w.heap.size w w3 := below_on hbo2 (Nat.le_refl _) hb3) |
    (go_at_call 10; (with_reducible refine (HA.out _).mono ?_); rintro e w4 ⟨rfl, hb4⟩))
  go_ret
  exact ⟨rfl, below_on hbo3 (Nat.le_refl _) hb4⟩
end Go.Proofs.Ytblhpiebheommaa
/- The walk of clewlaw16.KindsBlocks: it returns true. Printed by gen-lawkblocks.py. -/
namespace Go.Proofs.Ytblhpiebheommaa
open Go.RowKit Go.Sort

set_option maxRecDepth 100000 in
set_option maxHeartbeats 8000000 in
theorem kindsBlocks_calls (s : SrcD) (l : List ByteArray) (wh : Int) (L : List St) (F : Nat → Prop) (w : World) (ss : List Value) (lv Lv : Value) (hF : Inn F w) (h1 : Holds.src.R F w s ss) (h2 : RdStrs F w l lv) (h3 : Sts F w L Lv)
    (hsz : s.flags.length + s.props.length + s.globals.length + s.objects.length + s.verbs.length + s.funcs.length + s.daemons.length ≤ 100000000) :
    Calls Try.prog 4 #[.agg ss.toArray, lv, .int .i64 wh, Lv] w (Gives w (.bool true)) := by
  have HMK := Lib.hid (fun (W : World) (hW : Below w.heap.size w W) => makeR_calls s F W ss (hF.below hW) (Holds.below _ h1 hF hW (Nat.le_refl _)) hsz)
  have HFW := Lib.hid (fun (W : World) (hW : Below w.heap.size w W) => fewB_calls L F W Lv 400 (hF.below hW) (by omega) (by omega) (Sts.below h3 hF hW (Nat.le_refl _)))
  have HRT := Lib.hid (fun (W : World) (hW : Below w.heap.size w W) => rightBlockR_calls L F W Lv (hF.below hW) (Sts.below h3 hF hW (Nat.le_refl _)))
  have HAW := Lib.hid (fun (W : World) (_ : Below w.heap.size w W) => awake16_calls W)
  have hfew := St.fews_total L 400 (by omega)
  have hsz4 : 0 ≤ St.fews L 400 → St.sizes L ≤ 1000000 := fun h => by
    have q1 := hfew.2 h
    have q2 := St.sizes_totals L
    omega
  have hfew1 := hfew.1
  have HKE : Hid (∀ (W : World) (hW : Below w.heap.size w W) (t : List NameD) (tv : Value) (G : Nat → Prop), Inn G W → (∀ b, F b → G b) → mkT s.ents namesStart = some t → RdNames G W t tv → 0 ≤ St.fews L 400 → RightB L → l.length ≤ 30 → Calls Try.prog 15 #[tv, .agg ss.toArray, lv, .int .i64 wh, Lv] W (GivesWrong W (St.kWs t s.funcs wh l 0 L)) ∧ Calls Try.prog 16 #[tv, .agg ss.toArray, lv, .int .i64 wh, Lv] W (Gives W (.tuple #[.int .i64 (St.kWs t s.funcs wh l 0 L).1, .string (St.kWs t s.funcs wh l 0 L).2]))) := fun W hW t tv G hG hFG hmk hr hx hrb hl30 => by
    have hlen : t.length ≤ 1000000000000 := by
      rw [(mkT_ok _ _ _ hmk start_rises).2.1]
      unfold SrcD.ents
      simp only [List.length_append, ents_len]
      show 4 + _ ≤ _
      omega
    obtain ⟨q1, q2, q3⟩ := made_tab hmk
    have k1 := Holds.src.keep (fun b hb => rfl) hFG (Holds.below _ h1 hF hW (Nat.le_refl _))
    have k2 := RdL.keep (fun b hb => rfl) hFG (RdL.below h2 hF hW (Nat.le_refl _))
    have k3 := Sts.keep (fun b hb => rfl) hFG (Sts.below h3 hF hW (Nat.le_refl _))
    exact ⟨kBlock_calls t s l wh L G W tv lv Lv ss hG q3 hlen q1 (by omega) hr k1 k2 k3, rBlk_calls t s l wh L G W tv lv Lv ss hG q1 (lones_of_blk L hrb.2) (hsz4 hx) (by omega) hr k1 k2 k3⟩
  clear hfew hsz4
  obtain ⟨a2, c2, rfl⟩ := h2.shape
  obtain ⟨a3, c3, rfl⟩ := h3.shape
  obtain ⟨a5, c5, a6, c6, a7, c7, a8, c8, a9, c9, a10, c10, a11, c11, a12, c12, rfl, -⟩ := src_shape h1
  have hB2 : Below w.heap.size w (w.alloc (.cells #[.string s.title, .string s.author, .string s.start, .int .i64 s.release, .int .i64 s.most, .slice a5 s.flags.length c5, .slice a6 s.props.length c6, .slice a7 s.globals.length c7, .slice a8 s.objects.length c8, .slice a9 s.verbs.length c9, .slice a10 s.rules.length c10, .slice a11 s.funcs.length c11, .slice a12 s.daemons.length c12] 29)) := (Below.refl _ w).alloc (Nat.le_refl _) _
  have hst : Hid (∀ w1, Below (w.alloc (.cells #[.string s.title, .string s.author, .string s.start, .int .i64 s.release, .int .i64 s.most, .slice a5 s.flags.length c5, .slice a6 s.props.length c6, .slice a7 s.globals.length c7, .slice a8 s.objects.length c8, .slice a9 s.verbs.length c9, .slice a10 s.rules.length c10, .slice a11 s.funcs.length c11, .slice a12 s.daemons.length c12] 29)).heap.size (w.alloc (.cells #[.string s.title, .string s.author, .string s.start, .int .i64 s.release, .int .i64 s.most, .slice a5 s.flags.length c5, .slice a6 s.props.length c6, .slice a7 s.globals.length c7, .slice a8 s.objects.length c8, .slice a9 s.verbs.length c9, .slice a10 s.rules.length c10, .slice a11 s.funcs.length c11, .slice a12 s.daemons.length c12] 29)) w1 → Below w.heap.size w w1 ∧ BoxAt w1 w.heap.size [.string s.title, .string s.author, .string s.start, .int .i64 s.release, .int .i64 s.most, .slice a5 s.flags.length c5, .slice a6 s.props.length c6, .slice a7 s.globals.length c7, .slice a8 s.objects.length c8, .slice a9 s.verbs.length c9, .slice a10 s.rules.length c10, .slice a11 s.funcs.length c11, .slice a12 s.daemons.length c12]) := fun w1 hb => by
    refine ⟨hB2.trans (hb.mono hB2.size), ?_⟩
    exact (BoxAt.new w [.string s.title, .string s.author, .string s.start, .int .i64 s.release, .int .i64 s.most, .slice a5 s.flags.length c5, .slice a6 s.props.length c6, .slice a7 s.globals.length c7, .slice a8 s.objects.length c8, .slice a9 s.verbs.length c9, .slice a10 s.rules.length c10, .slice a11 s.funcs.length c11, .slice a12 s.daemons.length c12] 29).below hb (by simp)
  have HM1 := Lib.hid (HMK.out _ hB2)
  clear h1 h2 h3 hsz HMK hB2
  obtain ⟨mo, hmoe⟩ : ∃ mo, mkT s.ents namesStart = mo := ⟨_, rfl⟩
  rw [hmoe] at HM1 HKE
  generalize St.fews L 400 = x at HFW hfew1 HKE
  have HRR : Hid (dec (RightB L) = true → RightB L) := fun h => by by_cases hr : RightB L; exact hr; rw [dec_false hr] at h; cases h
  generalize dec (RightB L) = rr at HRT HRR
  go_enter Try.func4, Try.ntmps4
  go_upto_region 2 with (go_at_call 7; refine HM1.out.mono ?_; rintro e0 w1 ⟨ta, tn, tc, er, pt, fn, fs, rfl, hb1, ho⟩)
  obtain ⟨hbw, hsb0⟩ := hst.out w1 hb1
  have hsb := hsb0.below ((Below.refl _ w1).alloc (Nat.le_refl _) (.cells #[.int .i64 er, .int .i64 pt, .int .i64 fn, .string fs] 36)) hsb0.1
  have hbf := hbw.alloc hbw.size (.cells #[.int .i64 er, .int .i64 pt, .int .i64 fn, .string fs] 36)
  have f0 : (w1.alloc (.cells #[.int .i64 er, .int .i64 pt, .int .i64 fn, .string fs] 36)).cell? ⟨w1.heap.size, 0, none⟩ = some (.int .i64 er) := by simp
  have HBF := Lib.hid hbf
  have HSB := Lib.hid hsb
  have HBW := Lib.hid hbw
  have hkeep : Hid (∀ W, Below (w1.alloc (.cells #[.int .i64 er, .int .i64 pt, .int .i64 fn, .string fs] 36)).heap.size (w1.alloc (.cells #[.int .i64 er, .int .i64 pt, .int .i64 fn, .string fs] 36)) W → Below w.heap.size w W ∧ BoxAt W w.heap.size [.string s.title, .string s.author, .string s.start, .int .i64 s.release, .int .i64 s.most, .slice a5 s.flags.length c5, .slice a6 s.props.length c6, .slice a7 s.globals.length c7, .slice a8 s.objects.length c8, .slice a9 s.verbs.length c9, .slice a10 s.rules.length c10, .slice a11 s.funcs.length c11, .slice a12 s.daemons.length c12]) := fun W hW => ⟨HBF.out.trans (hW.mono HBF.out.size), HSB.out.below hW HSB.out.1⟩
  clear hbw hsb0 hsb
  by_cases her : er = 0
  · have hot : ∃ t, mo = some t ∧ OwnN (w.alloc (.cells #[.string s.title, .string s.author, .string s.start, .int .i64 s.release, .int .i64 s.most, .slice a5 s.flags.length c5, .slice a6 s.props.length c6, .slice a7 s.globals.length c7, .slice a8 s.objects.length c8, .slice a9 s.verbs.length c9, .slice a10 s.rules.length c10, .slice a11 s.funcs.length c11, .slice a12 s.daemons.length c12] 29)).heap.size w1 t (.slice ta tn tc) := by
      rcases ho with ⟨h, _⟩ | ⟨_, h⟩
      · exact absurd her h
      · exact h
    obtain ⟨t, hmo, hown⟩ := hot
    have HKE3 := Lib.hid (fun (W : World) (hW : Below (w1.alloc (.cells #[.int .i64 er, .int .i64 pt, .int .i64 fn, .string fs] 36)).heap.size (w1.alloc (.cells #[.int .i64 er, .int .i64 pt, .int .i64 fn, .string fs] 36)) W) => HKE.out W (hkeep.out W hW).1 t (.slice ta tn tc) (fun b => F b ∨ b < W.heap.size) (fun b hb => hb.elim (fun h => (hF.below (hkeep.out W hW).1) b h) id) (fun _ h => .inl h) hmo
      ((hown.rd (made_tab (s := s) (by first | exact hmo | (rw [hmoe]; exact hmo))).2.1).keep (fun b hb => (hW.block b (by have := hb.2; simp; omega)).trans (Below.heap_alloc w1 _ b hb.2)) (fun b hb => .inr (by have := hb.2; have := hW.size; simp at this; omega))))
    subst her
    clear HKE
    clear ho hown hmo
    by_cases hl : l.length > 30
    · have hld : decide ((l.length : Int) > 30) = true := by simp; omega
      clear HKE3 hl
      go_wp2_with (go_at_call 10; refine (HAW.out _ HBF.out).mono ?_; rintro e6 w6 ⟨rfl, hb6⟩)
      go_ret
      exact ⟨rfl, HBF.out.trans (hb6.mono HBF.out.size)⟩
    have hld : decide ((l.length : Int) > 30) = false := by simp; omega
    by_cases hx : x < 0
    · have hxd : decide (x < 0) = true := by simp [hx]
      clear HKE3 hl
      go_wp2_with (first | (go_at_call 13; refine (HFW.out _ HBF.out).mono ?_; rintro e2 w2 ⟨rfl, hb2⟩; obtain ⟨k2b, k2s⟩ := hkeep.out w2 hb2) | (go_at_call 10; refine (HAW.out _ k2b).mono ?_; rintro e6 w6 ⟨rfl, hb6⟩))
      go_ret
      exact ⟨rfl, k2b.trans (hb6.mono k2b.size)⟩
    have hxd : decide (x < 0) = false := by simp [hx]
    have hHR := HRR.out
    cases rr
    · clear HKE3 hl HRR hHR
      go_wp2_with (first | (go_at_call 13; refine (HFW.out _ HBF.out).mono ?_; rintro e2 w2 ⟨rfl, hb2⟩; obtain ⟨k2b, k2s⟩ := hkeep.out w2 hb2) | (go_at_call 14; refine (HRT.out _ k2b).mono ?_; rintro e3 w3 ⟨rfl, hb3⟩; have hb23 := hb2.trans (hb3.mono hb2.size); obtain ⟨k3b, k3s⟩ := hkeep.out w3 hb23; have hs0 := k3s.2 0 (by simp); have hs1 := k3s.2 1 (by simp); have hs2 := k3s.2 2 (by simp); have hs3 := k3s.2 3 (by simp); have hs4 := k3s.2 4 (by simp); have hs5 := k3s.2 5 (by simp); have hs6 := k3s.2 6 (by simp); have hs7 := k3s.2 7 (by simp); have hs8 := k3s.2 8 (by simp); have hs9 := k3s.2 9 (by simp); have hs10 := k3s.2 10 (by simp); have hs11 := k3s.2 11 (by simp); have hs12 := k3s.2 12 (by simp); simp only [List.getElem?_cons_succ, List.getElem?_cons_zero] at hs0 hs1 hs2 hs3 hs4 hs5 hs6 hs7 hs8 hs9 hs10 hs11 hs12) | (go_at_call 10; refine (HAW.out _ k3b).mono ?_; rintro e6 w6 ⟨rfl, hb6⟩))
      go_ret
      exact ⟨rfl, k3b.trans (hb6.mono k3b.size)⟩
    · have HKE2 := Lib.hid (fun W hW => HKE3.out W hW (by omega) (hHR rfl) (by omega))
      clear HKE3 hl hx HRR hHR
      have hcle := clean_kWsS t s.funcs wh L l 0
      have hnm : Hid (∀ nn : ByteArray, ((St.kWs t s.funcs wh l 0 L).1 = 0 → nn = ⟨#[]⟩) → ((St.kWs t s.funcs wh l 0 L).1 ≠ 0 → nn = (St.kWs t s.funcs wh l 0 L).2) → nn = (St.kWs t s.funcs wh l 0 L).2) := fun nn h0 h1 => by
        by_cases hz : (St.kWs t s.funcs wh l 0 L).1 = 0
        · rw [h0 hz, hcle hz]; rfl
        · exact h1 hz
      clear hcle
      generalize St.kWs t s.funcs wh l 0 L = pw at HKE2 hnm
      by_cases h7 : wh = 7
      · have hw7 : (wh != 7) = false := by simp [h7]
        clear h7
        go_wp2_with (first | (go_at_call 13; refine (HFW.out _ HBF.out).mono ?_; rintro e2 w2 ⟨rfl, hb2⟩; obtain ⟨k2b, k2s⟩ := hkeep.out w2 hb2) | (go_at_call 14; refine (HRT.out _ k2b).mono ?_; rintro e3 w3 ⟨rfl, hb3⟩; have hb23 := hb2.trans (hb3.mono hb2.size); obtain ⟨k3b, k3s⟩ := hkeep.out w3 hb23; have hs0 := k3s.2 0 (by simp); have hs1 := k3s.2 1 (by simp); have hs2 := k3s.2 2 (by simp); have hs3 := k3s.2 3 (by simp); have hs4 := k3s.2 4 (by simp); have hs5 := k3s.2 5 (by simp); have hs6 := k3s.2 6 (by simp); have hs7 := k3s.2 7 (by simp); have hs8 := k3s.2 8 (by simp); have hs9 := k3s.2 9 (by simp); have hs10 := k3s.2 10 (by simp); have hs11 := k3s.2 11 (by simp); have hs12 := k3s.2 12 (by simp); simp only [List.getElem?_cons_succ, List.getElem?_cons_zero] at hs0 hs1 hs2 hs3 hs4 hs5 hs6 hs7 hs8 hs9 hs10 hs11 hs12) | (go_at_call 15; refine ((HKE2.out w3 hb23).1).mono ?_; rintro e4 w4 ⟨nn, rfl, hn0, hn1, hb4⟩; have hb24 := hb23.trans (hb4.mono hb23.size); obtain ⟨k4b, k4s⟩ := hkeep.out w4 hb24; have hnn := hnm.out nn hn0 hn1; subst hnn; clear hn0 hn1 hs0 hs1 hs2 hs3 hs4 hs5 hs6 hs7 hs8 hs9 hs10 hs11 hs12; have is0 := k4s.2 0 (by simp); have is1 := k4s.2 1 (by simp); have is2 := k4s.2 2 (by simp); have is3 := k4s.2 3 (by simp); have is4 := k4s.2 4 (by simp); have is5 := k4s.2 5 (by simp); have is6 := k4s.2 6 (by simp); have is7 := k4s.2 7 (by simp); have is8 := k4s.2 8 (by simp); have is9 := k4s.2 9 (by simp); have is10 := k4s.2 10 (by simp); have is11 := k4s.2 11 (by simp); have is12 := k4s.2 12 (by simp); simp only [List.getElem?_cons_succ, List.getElem?_cons_zero] at is0 is1 is2 is3 is4 is5 is6 is7 is8 is9 is10 is11 is12) | (go_at_call 16; refine ((HKE2.out w4 hb24).2).mono ?_; rintro e5 w5 ⟨rfl, hb5⟩; have k5b := k4b.trans (hb5.mono k4b.size)) | (go_at_call 10; refine (HAW.out _ k5b).mono ?_; rintro e6 w6 ⟨rfl, hb6⟩))
        go_ret
        exact ⟨rfl, k5b.trans (hb6.mono k5b.size)⟩
      have hw7 : (wh != 7) = true := by simpa using h7
      by_cases h8 : wh = 8
      · have hw8 : (wh != 8) = false := by simp [h8]
        clear h7 h8
        go_wp2_with (first | (go_at_call 13; refine (HFW.out _ HBF.out).mono ?_; rintro e2 w2 ⟨rfl, hb2⟩; obtain ⟨k2b, k2s⟩ := hkeep.out w2 hb2) | (go_at_call 14; refine (HRT.out _ k2b).mono ?_; rintro e3 w3 ⟨rfl, hb3⟩; have hb23 := hb2.trans (hb3.mono hb2.size); obtain ⟨k3b, k3s⟩ := hkeep.out w3 hb23; have hs0 := k3s.2 0 (by simp); have hs1 := k3s.2 1 (by simp); have hs2 := k3s.2 2 (by simp); have hs3 := k3s.2 3 (by simp); have hs4 := k3s.2 4 (by simp); have hs5 := k3s.2 5 (by simp); have hs6 := k3s.2 6 (by simp); have hs7 := k3s.2 7 (by simp); have hs8 := k3s.2 8 (by simp); have hs9 := k3s.2 9 (by simp); have hs10 := k3s.2 10 (by simp); have hs11 := k3s.2 11 (by simp); have hs12 := k3s.2 12 (by simp); simp only [List.getElem?_cons_succ, List.getElem?_cons_zero] at hs0 hs1 hs2 hs3 hs4 hs5 hs6 hs7 hs8 hs9 hs10 hs11 hs12) | (go_at_call 15; refine ((HKE2.out w3 hb23).1).mono ?_; rintro e4 w4 ⟨nn, rfl, hn0, hn1, hb4⟩; have hb24 := hb23.trans (hb4.mono hb23.size); obtain ⟨k4b, k4s⟩ := hkeep.out w4 hb24; have hnn := hnm.out nn hn0 hn1; subst hnn; clear hn0 hn1 hs0 hs1 hs2 hs3 hs4 hs5 hs6 hs7 hs8 hs9 hs10 hs11 hs12; have is0 := k4s.2 0 (by simp); have is1 := k4s.2 1 (by simp); have is2 := k4s.2 2 (by simp); have is3 := k4s.2 3 (by simp); have is4 := k4s.2 4 (by simp); have is5 := k4s.2 5 (by simp); have is6 := k4s.2 6 (by simp); have is7 := k4s.2 7 (by simp); have is8 := k4s.2 8 (by simp); have is9 := k4s.2 9 (by simp); have is10 := k4s.2 10 (by simp); have is11 := k4s.2 11 (by simp); have is12 := k4s.2 12 (by simp); simp only [List.getElem?_cons_succ, List.getElem?_cons_zero] at is0 is1 is2 is3 is4 is5 is6 is7 is8 is9 is10 is11 is12) | (go_at_call 16; refine ((HKE2.out w4 hb24).2).mono ?_; rintro e5 w5 ⟨rfl, hb5⟩; have k5b := k4b.trans (hb5.mono k4b.size)) | (go_at_call 10; refine (HAW.out _ k5b).mono ?_; rintro e6 w6 ⟨rfl, hb6⟩))
        go_ret
        exact ⟨rfl, k5b.trans (hb6.mono k5b.size)⟩
      have hw8 : (wh != 8) = true := by simpa using h8
      by_cases h9 : wh = 9
      · have hw9 : (wh != 9) = false := by simp [h9]
        clear h7 h8 h9
        go_wp2_with (first | (go_at_call 13; refine (HFW.out _ HBF.out).mono ?_; rintro e2 w2 ⟨rfl, hb2⟩; obtain ⟨k2b, k2s⟩ := hkeep.out w2 hb2) | (go_at_call 14; refine (HRT.out _ k2b).mono ?_; rintro e3 w3 ⟨rfl, hb3⟩; have hb23 := hb2.trans (hb3.mono hb2.size); obtain ⟨k3b, k3s⟩ := hkeep.out w3 hb23; have hs0 := k3s.2 0 (by simp); have hs1 := k3s.2 1 (by simp); have hs2 := k3s.2 2 (by simp); have hs3 := k3s.2 3 (by simp); have hs4 := k3s.2 4 (by simp); have hs5 := k3s.2 5 (by simp); have hs6 := k3s.2 6 (by simp); have hs7 := k3s.2 7 (by simp); have hs8 := k3s.2 8 (by simp); have hs9 := k3s.2 9 (by simp); have hs10 := k3s.2 10 (by simp); have hs11 := k3s.2 11 (by simp); have hs12 := k3s.2 12 (by simp); simp only [List.getElem?_cons_succ, List.getElem?_cons_zero] at hs0 hs1 hs2 hs3 hs4 hs5 hs6 hs7 hs8 hs9 hs10 hs11 hs12) | (go_at_call 15; refine ((HKE2.out w3 hb23).1).mono ?_; rintro e4 w4 ⟨nn, rfl, hn0, hn1, hb4⟩; have hb24 := hb23.trans (hb4.mono hb23.size); obtain ⟨k4b, k4s⟩ := hkeep.out w4 hb24; have hnn := hnm.out nn hn0 hn1; subst hnn; clear hn0 hn1 hs0 hs1 hs2 hs3 hs4 hs5 hs6 hs7 hs8 hs9 hs10 hs11 hs12; have is0 := k4s.2 0 (by simp); have is1 := k4s.2 1 (by simp); have is2 := k4s.2 2 (by simp); have is3 := k4s.2 3 (by simp); have is4 := k4s.2 4 (by simp); have is5 := k4s.2 5 (by simp); have is6 := k4s.2 6 (by simp); have is7 := k4s.2 7 (by simp); have is8 := k4s.2 8 (by simp); have is9 := k4s.2 9 (by simp); have is10 := k4s.2 10 (by simp); have is11 := k4s.2 11 (by simp); have is12 := k4s.2 12 (by simp); simp only [List.getElem?_cons_succ, List.getElem?_cons_zero] at is0 is1 is2 is3 is4 is5 is6 is7 is8 is9 is10 is11 is12) | (go_at_call 16; refine ((HKE2.out w4 hb24).2).mono ?_; rintro e5 w5 ⟨rfl, hb5⟩; have k5b := k4b.trans (hb5.mono k4b.size)) | (go_at_call 10; refine (HAW.out _ k5b).mono ?_; rintro e6 w6 ⟨rfl, hb6⟩))
        go_ret
        exact ⟨rfl, k5b.trans (hb6.mono k5b.size)⟩
      have hw9 : (wh != 9) = true := by simpa using h9
      clear h7 h8 h9 HKE2 hnm
      go_wp2_with (first | (go_at_call 13; refine (HFW.out _ HBF.out).mono ?_; rintro e2 w2 ⟨rfl, hb2⟩; obtain ⟨k2b, k2s⟩ := hkeep.out w2 hb2) | (go_at_call 14; refine (HRT.out _ k2b).mono ?_; rintro e3 w3 ⟨rfl, hb3⟩; have hb23 := hb2.trans (hb3.mono hb2.size); obtain ⟨k3b, k3s⟩ := hkeep.out w3 hb23; have hs0 := k3s.2 0 (by simp); have hs1 := k3s.2 1 (by simp); have hs2 := k3s.2 2 (by simp); have hs3 := k3s.2 3 (by simp); have hs4 := k3s.2 4 (by simp); have hs5 := k3s.2 5 (by simp); have hs6 := k3s.2 6 (by simp); have hs7 := k3s.2 7 (by simp); have hs8 := k3s.2 8 (by simp); have hs9 := k3s.2 9 (by simp); have hs10 := k3s.2 10 (by simp); have hs11 := k3s.2 11 (by simp); have hs12 := k3s.2 12 (by simp); simp only [List.getElem?_cons_succ, List.getElem?_cons_zero] at hs0 hs1 hs2 hs3 hs4 hs5 hs6 hs7 hs8 hs9 hs10 hs11 hs12) | (go_at_call 10; refine (HAW.out _ k3b).mono ?_; rintro e6 w6 ⟨rfl, hb6⟩))
      go_ret
      exact ⟨rfl, k3b.trans (hb6.mono k3b.size)⟩
  · have e0 : (er != 0) = true := by simpa using her
    clear her ho HKE
    go_wp2_with (go_at_call 10; refine (HAW.out _ HBF.out).mono ?_; rintro e2 w2 ⟨rfl, hb2⟩)
    go_ret
    exact ⟨rfl, HBF.out.trans (hb2.mono HBF.out.size)⟩
end Go.Proofs.Ytblhpiebheommaa
