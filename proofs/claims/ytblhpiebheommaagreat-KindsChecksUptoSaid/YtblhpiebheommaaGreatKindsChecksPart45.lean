/- The walk of clewref10.FewBlock. -/
import Derived.Test.YtblhpiebheommaaGreatKindsChecksPart4
import Derived.Test.YtblhpiebheommaaGreatKindsChecksPart33
import Derived.Test.YtblhpiebheommaaGreatRightR
import Derived.Test.YtblhpiebheommaaGreatKindsChecksPart3
import Derived.Test.YtblhpiebheommaaGreatKindsChecksPart10
import Derived.Test.YtblhpiebheommaaGreatKindsChecksPart12
import Derived.Deep.RegionHeld
import Derived.StillTailTactics
namespace Go.Proofs.YtblhpiebheommaaGreat
open Go.RowKit Go.Sort

def FewBC (l : List St) : Prop := ∀ (F : Nat → Prop) (w : World) (v : Value) (m : Int), Inn F w → -3000000 ≤ m → m ≤ 1000000 → Sts F w l v →
    Calls Tryz.prog 34 #[v, .int .i64 m] w (Gives w (.int .i64 (St.fews l m)))

set_option maxRecDepth 100000 in
set_option maxHeartbeats 1000000 in
theorem fewB_calls : ∀ l : List St, FewBC l := by
  refine blocks_ind fun l ih => ?_
  intro F w v m hF hm0 hm1 hr
  obtain ⟨a, cap, rfl⟩ := hr.shape
  obtain ⟨_, hl, hc, ha⟩ := hr.opn
  go_enter Tryz.func34, Tryz.ntmps34
  go_wp2
  go_loopw [1, 11] (fun t i wr => ∃ (k : Nat) (q : Int), k ≤ l.length ∧ i = .int .i64 k ∧ t = .int .i64 q ∧ -3000000 ≤ q ∧ q ≤ 1000000 ∧ Hid (St.fews l m = St.fews (l.drop k) q) ∧ Below w.heap.size w wr) (fun _ i _ => l.length - (intOf i).toNat)
  case atStart => exact ⟨0, m, Nat.zero_le _, rfl, rfl, by omega, by omega, by rw [List.drop_zero]; exact rfl, Below.refl _ _⟩
  case round =>
    obtain ⟨k, q, hk, rfl, rfl, hq0, hq1, hq, hB⟩ := hrel
    by_cases hlt : k < l.length
    · obtain ⟨b, off, rfl, hFb, hel⟩ := ha (by omega)
      obtain ⟨kd', n', s', a', m', cap', a2, m2, cap2, a3, m3, cap3, hx, g0, g1, g2, g3, g4, g5⟩ := hel wr (hB.block b (hF b hFb)) k hlt
      have hI := hF.below hB
      clear ha hel
      have HD := Lib.hid (St.fews_drop l k hlt q)
      obtain ⟨ihb, ihe⟩ := ih _ (List.getElem_mem hlt)
      obtain ⟨_, _, _, _, _, _, hxa, hxb, hxe⟩ := (hx.below hF hB (Nat.le_refl _)).parts
      obtain ⟨rfl, hal, hac, haa⟩ := hxa.opn
      clear ih hx hr
      obtain ⟨wo, rfl⟩ : ∃ wo : World, wo = wr := ⟨_, rfl⟩
      go_wp2
      go_loopw [1, 20] (fun t i w2 => ∃ (j : Nat) (p : Int), j ≤ (l[k]).args.length ∧ i = .int .i64 j ∧ t = .int .i64 p ∧ -3000001 ≤ p ∧ p ≤ 1000000 ∧ Hid (Ex.fews (l[k]).args (q - 1) = Ex.fews ((l[k]).args.drop j) p) ∧ Below (wo.heap.size + 1) (wo.alloc (.cells #[.int .i64 kd', .int .i64 n', .string s', .slice a' (l[k]).args.length cap', .slice a2 m2 cap2, .slice a3 m3 cap3] 60)) w2) (fun _ i _ => (l[k]).args.length - (intOf i).toNat)
      case atStart => exact ⟨0, q - 1, Nat.zero_le _, rfl, rfl, by omega, by omega, by rw [List.drop_zero]; exact rfl, Below.refl _ _⟩
      case round =>
        obtain ⟨j, p, hj, rfl, rfl, hp0, hp1, hp, hB0⟩ := hrel
        have hB2 := below_of_alloc hB0
        by_cases hlt2 : j < (l[k]).args.length
        · obtain ⟨b2, off2, rfl, hFb2, hel2⟩ := haa (by omega)
          obtain ⟨kd2, o2, nn2, s2, a2', m2', cap2', hx2, q0, q1, q2, q3, q4⟩ := hel2 wr (hB2.block b2 (hI b2 hFb2)) j hlt2
          clear haa hel2
          have HD2 := Lib.hid (Ex.fews_drop (l[k]).args j hlt2 p)
          have hI2 := hI.below hB2
          by_cases hneg : p < 0
          · have hfin : Hid (St.fews l m = p) := by
              show St.fews l m = p
              have h1 : Ex.fews (l[k]).args (q - 1) = p := by rw [hp.out, HD2.out, if_pos hneg]
              rw [hq.out, HD.out, h1, if_pos hneg]
            clear hq HD hp HD2 ihb ihe hxb hxe hx2
            go_wp2
            go_ret
            exact ⟨ret_int hfin.out.symm, (hB.trans (hB2.mono hB.size)).alloc (Nat.le_trans hB.size hB2.size) _⟩
          · have hfs := Ex.few_size (l[k]).args[j] p (by omega)
            have hr1 := hfs.1.1
            have hr2 := hfs.1.2
            have hnx : Hid (Ex.fews (l[k]).args (q - 1) = Ex.fews ((l[k]).args.drop (j + 1)) ((l[k]).args[j].few p)) := by
              show Ex.fews (l[k]).args (q - 1) = _
              rw [hp.out, HD2.out, if_neg hneg]
            have HC := Lib.hid (fun o => few_calls (l[k]).args[j] F (wr.alloc o) _ p (hI2.alloc _) (by omega) (by omega) ((hx2.below hI hB2 (Nat.le_refl _)).alloc hI2 o))
            have HB0 := Lib.hid hB0
            clear hp HD2 hfs hx2 ihb ihe hxb hxe hB0
            go_wp2_with (go_at_call 32; refine (HC.out _).mono ?_; rintro e w' ⟨rfl, hb⟩)
            go_roundw
            case rel => exact ⟨j + 1, _, by omega, by go_num, rfl, by omega, by omega, hnx, below_on1 HB0.out (by simp) hb⟩
            case measure => simp [intOf]; omega
        · have : j = (l[k]).args.length := by omega
          subst this
          have hpe : Ex.fews (l[k]).args (q - 1) = p := by rw [hp.out, List.drop_length]; rfl
          clear haa hp
          by_cases hneg : p < 0
          · have hfin : Hid (St.fews l m = p) := by
              show St.fews l m = p
              rw [hq.out, HD.out, hpe, if_pos hneg]
            clear hq HD hpe ihb ihe hxb hxe
            go_wp2
            go_ret
            exact ⟨ret_int hfin.out.symm, hB.trans (hB2.mono hB.size)⟩
          have hI2 := hI.below hB2
          have ht1 := St.fews_total (l[k]).body p (by omega)
          have hnx : Hid (St.fews l m = St.fews (l.drop (k + 1)) (St.fews (l[k]).els (St.fews (l[k]).body p))) := by
            show St.fews l m = _
            rw [hq.out, HD.out, hpe, if_neg hneg]
          clear hpe hq HD
          generalize hA : St.fews (l[k]).body p = A at ht1 hnx
          have ht2 : -(2 * p + 3) ≤ St.fews (l[k]).els A ∧ St.fews (l[k]).els A ≤ p := by
            by_cases hAn : A < 0
            · have := St.fews_neg (l[k]).els A hAn; omega
            · have := St.fews_total (l[k]).els A (by omega); omega
          have hcb : ∀ (p1 : Regrown), Calls Tryz.prog 34 #[.slice a2 m2 cap2, .int .i64 p] (grow (redrawn wr p1.d) p1.os) fun e w'' => e = .returned (.int .i64 A) ∧ ∃ p : Regrown, w'' = grow (redrawn wr p.d) p.os :=
            fun p1 => regrown_gives (fun w' hb => by
              have := ihb F w' _ p (hI2.below hb) (by omega) (by omega) ((hxb.below hI hB2 (Nat.le_refl _)).below hI2 hb (Nat.le_refl _))
              rwa [hA] at this) p1
          have hce : ∀ (p1 : Regrown), Calls Tryz.prog 34 #[.slice a3 m3 cap3, .int .i64 A] (grow (redrawn wr p1.d) p1.os) fun e w'' => e = .returned (.int .i64 (St.fews (l[k]).els A)) ∧ ∃ p : Regrown, w'' = grow (redrawn wr p.d) p.os :=
            fun p1 => regrown_gives (fun w' hb => ihe F w' _ A (hI2.below hb) (by omega) (by omega) ((hxe.below hI hB2 (Nat.le_refl _)).below hI2 hb (Nat.le_refl _))) p1
          have hq4 := fun d os => cell_regrown (w := wr) (a := ⟨wo.heap.size, 4, none⟩) (v := .slice a2 m2 cap2) (cell_kept hB0 (by go_simp)) d os
          have hq5 := fun d os => cell_regrown (w := wr) (a := ⟨wo.heap.size, 5, none⟩) (v := .slice a3 m3 cap3) (cell_kept hB0 (by go_simp)) d os
          generalize hE : St.fews (l[k]).els A = E at ht2 hnx hce
          have HCb := Lib.hid hcb
          have HCe := Lib.hid hce
          have HB := Lib.hid (hB.trans (hB2.mono hB.size))
          clear hA hE hcb hce hxb hxe ihb ihe hB0 hB2 hB
          go_wp2
          refine wp_region_quiet_below (by kernel_rfl) (by kernel_rfl) ?_
          repeat (go_big_quiet_step (first | with_reducible exact HCb.out _ | with_reducible exact HCe.out _))
          refine wpQuiet_nil ?_
          intro w' hw'
          have hb := below_of_regrown hw'
          clear hw' HCb HCe hq4 hq5
          go_wp2
          go_roundw
          case rel => exact ⟨k + 1, _, by omega, by go_num, rfl, by omega, by omega, hnx, below_on HB.out (Nat.le_refl _) hb⟩
          case measure => simp [intOf]; omega
    · have : k = l.length := by omega
      subst this
      have hfin : Hid (St.fews l m = q) := by
        show St.fews l m = q
        rw [hq.out, List.drop_length]; rfl
      clear hq
      go_wp2
      go_ret
      exact ⟨ret_int hfin.out.symm, hB⟩

end Go.Proofs.YtblhpiebheommaaGreat
/- The walks of clewref16's light and when. Printed by gen-light.py. -/
namespace Go.Proofs.YtblhpiebheommaaGreat
open Go.RowKit Go.Sort

/-- Few statements, and those of a source. -/
def LightB (l : List St) : Prop := 0 ≤ St.fews l 200 ∧ RightB l
/-- A condition may be so. -/
def WhenB (l : List Ex) : Prop := l = [] ∨ ∃ e, l = [e] ∧ 0 ≤ e.few 200 ∧ RightE e ∧ e.kind ≠ 2 ∧ e.kind ≠ 13

set_option maxRecDepth 100000 in
set_option maxHeartbeats 1000000 in
theorem light_calls (l : List St) (F : Nat → Prop) (w : World) (v : Value) (hF : Inn F w) (hr : Sts F w l v) : Calls Tryz.prog 10 #[v] w (Gives w (.bool (dec (LightB l)))) := by
  have HFW := Lib.hid (fun (W : World) (hW : Below w.heap.size w W) => fewB_calls l F W v 200 (hF.below hW) (by omega) (by omega) (Sts.below hr hF hW (Nat.le_refl _)))
  have HRT := Lib.hid (fun (W : World) (hW : Below w.heap.size w W) => rightBlockR_calls l F W v (hF.below hW) (Sts.below hr hF hW (Nat.le_refl _)))
  obtain ⟨a, cap, rfl⟩ := hr.shape
  clear hr
  by_cases hx : 0 ≤ St.fews l 200
  · have hfin : Hid (dec (LightB l) = dec (RightB l)) := dec_congr ⟨fun h => h.2, fun h => ⟨hx, h⟩⟩
    generalize St.fews l 200 = x at HFW hx
    have hxd : decide (x ≥ 0) = true := by simpa using hx
    clear hx
    go_enter Tryz.func10, Tryz.ntmps10
    go_wp2_with (first | (go_at_call 34; refine (HFW.out _ (Below.refl _ _)).mono ?_; rintro e1 w1 ⟨rfl, hb1⟩) | (go_at_call 35; refine (HRT.out _ hb1).mono ?_; rintro e2 w2 ⟨rfl, hb2⟩))
    go_ret
    exact ⟨ret_bool hfin.out.symm, hb1.trans (hb2.mono hb1.size)⟩
  · have hfin : Hid (dec (LightB l) = false) := dec_false fun h => hx h.1
    generalize St.fews l 200 = x at HFW hx
    have hxd : decide (x ≥ 0) = false := by simpa using hx
    clear hx
    go_enter Tryz.func10, Tryz.ntmps10
    go_wp2_with (go_at_call 34; refine (HFW.out _ (Below.refl _ _)).mono ?_; rintro e1 w1 ⟨rfl, hb1⟩)
    go_ret
    exact ⟨ret_bool hfin.out.symm, hb1⟩

set_option maxRecDepth 100000 in
set_option maxHeartbeats 2000000 in
theorem whenR_calls (l : List Ex) (F : Nat → Prop) (w : World) (v : Value) (hF : Inn F w) (hr : Exs F w l v) : Calls Tryz.prog 9 #[v] w (Gives w (.bool (dec (WhenB l)))) := by
  obtain ⟨a, cap, rfl⟩ := hr.shape
  obtain ⟨_, hl, hc, ha⟩ := hr.opn
  by_cases h0 : l = []
  · subst h0
    have hfin : Hid (dec (WhenB []) = true) := dec_true (.inl rfl)
    clear hr ha
    go_enter Tryz.func9, Tryz.ntmps9
    go_wp2
    go_ret
    exact ⟨ret_bool hfin.out.symm, Below.refl _ _⟩
  have hpos : 0 < l.length := List.length_pos_iff.2 h0
  have e0 : ((l.length : Int) == 0) = false := by simp; omega
  by_cases h1 : l.length = 1
  rotate_left
  · have hfin : Hid (dec (WhenB l) = false) := dec_false fun h => h.elim h0 fun ⟨e, he, _⟩ => h1 (by rw [he]; rfl)
    have e1 : ((l.length : Int) == 1) = false := by simp; omega
    clear hr ha h1 h0
    go_enter Tryz.func9, Tryz.ntmps9
    go_wp2
    go_ret
    exact ⟨ret_bool hfin.out.symm, Below.refl _ _⟩
  have e1 : ((l.length : Int) == 1) = true := by simp; omega
  obtain ⟨b, off, rfl, hFb, hel⟩ := ha hpos
  obtain ⟨x, hx⟩ : ∃ x, l = [x] := List.length_eq_one_iff.1 h1
  obtain ⟨ke, oe, ne, se, ae, me, ce, hxe, g0, g1, g2, g3, g4⟩ := hel w rfl 0 hpos
  have hx0 : l[0] = x := by simp [hx]
  rw [hx0] at hxe
  have hk : x.kind = ke := hxe.parts.1
  simp only [Nat.zero_mul, Nat.add_zero] at g0 g1 g2 g3 g4
  have hrd : Hid (∀ W, Below w.heap.size w W → W.cell? ⟨b, off, none⟩ = some (.int .i64 ke) ∧ W.cell? ⟨b, off + 1, none⟩ = some (.int .i64 oe) ∧ W.cell? ⟨b, off + 2, none⟩ = some (.int .i64 ne) ∧ W.cell? ⟨b, off + 3, none⟩ = some (.string se) ∧ W.cell? ⟨b, off + 4, none⟩ = some (.slice ae me ce)) := fun W hW => by
    have hbl := fun j => World.cell?_of_block (w := w) (w' := W) (a := ⟨b, j, none⟩) (hW.block b (hF b hFb))
    exact ⟨(hbl _).trans g0, (hbl _).trans g1, (hbl _).trans g2, (hbl _).trans g3, (hbl _).trans g4⟩
  have HFW := Lib.hid (fun (W : World) (hW : Below w.heap.size w W) => few_calls x F W _ 200 (hF.below hW) (by omega) (by omega) (hxe.below hF hW (Nat.le_refl _)))
  have HRT := Lib.hid (fun (W : World) (hW : Below w.heap.size w W) => rightRef_calls x F W _ (hF.below hW) (hxe.below hF hW (Nat.le_refl _)))
  have hw : Hid (dec (WhenB l) = dec (0 ≤ x.few 200 ∧ RightE x ∧ ke ≠ 2 ∧ ke ≠ 13)) := dec_congr ⟨fun h => h.elim (fun h => absurd h h0) fun ⟨e, he, h⟩ => by rw [hx] at he; cases he; rw [hk] at h; exact h, fun h => .inr ⟨x, hx, by rw [hk]; exact h⟩⟩
  have hll : (0 : Int) < (l.length : Int) := by omega
  clear hr ha h1 h0 hel hxe hx hx0 hk hpos hl hc
  generalize l.length = len at e0 e1 hll
  generalize dec (WhenB l) = r at hw ⊢
  by_cases hf : 0 ≤ x.few 200
  rotate_left
  · have hfin : Hid (r = false) := by show _ = _; rw [hw.out]; exact dec_false fun h => hf h.1
    have hfd : decide (x.few 200 ≥ 0) = false := by simpa using hf
    generalize x.few 200 = xf at HFW hfd
    clear hf
    go_enter Tryz.func9, Tryz.ntmps9
    go_wp2_with (go_at_call 32; refine (HFW.out _ (Below.refl _ _)).mono ?_; rintro e1 w1 ⟨rfl, hb1⟩; obtain ⟨g0', g1', g2', g3', g4'⟩ := hrd.out w1 hb1)
    go_ret
    exact ⟨ret_bool hfin.out.symm, hb1⟩
  have hfd : decide (x.few 200 ≥ 0) = true := by simpa using hf
  by_cases hR : RightE x
  rotate_left
  · have hfin : Hid (r = false) := by show _ = _; rw [hw.out]; exact dec_false fun h => hR h.2.1
    rw [dec_false hR] at HRT
    generalize x.few 200 = xf at HFW hfd
    clear hf hR
    go_enter Tryz.func9, Tryz.ntmps9
    go_wp2_with (first | (go_at_call 32; refine (HFW.out _ (Below.refl _ _)).mono ?_; rintro e1 w1 ⟨rfl, hb1⟩; obtain ⟨g0', g1', g2', g3', g4'⟩ := hrd.out w1 hb1) | (go_at_call 33; refine (HRT.out _ hb1).mono ?_; rintro e2 w2 ⟨rfl, hb2⟩; have hb12 := hb1.trans (hb2.mono hb1.size); obtain ⟨g0'', -⟩ := hrd.out w2 hb12))
    go_ret
    exact ⟨ret_bool hfin.out.symm, hb12⟩
  rw [dec_true hR] at HRT
  by_cases h2 : ke = 2
  · have hfin : Hid (r = false) := by show _ = _; rw [hw.out]; exact dec_false fun h => h.2.2.1 h2
    have d2 : (ke != 2) = false := by simp [h2]
    generalize x.few 200 = xf at HFW hfd
    clear hf hR h2
    go_enter Tryz.func9, Tryz.ntmps9
    go_wp2_with (first | (go_at_call 32; refine (HFW.out _ (Below.refl _ _)).mono ?_; rintro e1 w1 ⟨rfl, hb1⟩; obtain ⟨g0', g1', g2', g3', g4'⟩ := hrd.out w1 hb1) | (go_at_call 33; refine (HRT.out _ hb1).mono ?_; rintro e2 w2 ⟨rfl, hb2⟩; have hb12 := hb1.trans (hb2.mono hb1.size); obtain ⟨g0'', -⟩ := hrd.out w2 hb12))
    go_ret
    exact ⟨ret_bool hfin.out.symm, hb12⟩
  have d2 : (ke != 2) = true := by simpa using h2
  have hfin : Hid (r = (ke != 13)) := by
    show _ = _
    rw [hw.out]
    by_cases h13 : ke = 13
    · rw [dec_false fun h => h.2.2.2 h13]; simp [h13]
    · rw [dec_true ⟨hf, hR, h2, h13⟩]; simp [h13]
  generalize x.few 200 = xf at HFW hfd
  clear hf hR h2
  go_enter Tryz.func9, Tryz.ntmps9
  go_wp2_with (first | (go_at_call 32; refine (HFW.out _ (Below.refl _ _)).mono ?_; rintro e1 w1 ⟨rfl, hb1⟩; obtain ⟨g0', g1', g2', g3', g4'⟩ := hrd.out w1 hb1) | (go_at_call 33; refine (HRT.out _ hb1).mono ?_; rintro e2 w2 ⟨rfl, hb2⟩; have hb12 := hb1.trans (hb2.mono hb1.size); obtain ⟨g0'', -⟩ := hrd.out w2 hb12))
  go_ret
  exact ⟨ret_bool hfin.out.symm, hb12⟩
end Go.Proofs.YtblhpiebheommaaGreat
/- The walk of clewref16.Light. Printed by gen-light2.py. -/
namespace Go.Proofs.YtblhpiebheommaaGreat
open Go.RowKit Go.Sort

def SrcD.parts (s : SrcD) : Nat := s.objects.length + s.verbs.length + s.rules.length + s.funcs.length + s.daemons.length
/-- Few parts, whose conditions and statements are a source's. -/
def LightS (s : SrcD) : Prop := s.parts ≤ 60 ∧ (∀ o ∈ s.objects, ∀ x ∈ o.exits, WhenB x.cond) ∧ (∀ r ∈ s.rules, WhenB r.cond ∧ LightB r.body) ∧ ∀ f ∈ s.funcs ++ s.daemons, LightB f.body ∧ f.params.length ≤ 8

theorem Tryz.infoFunc : (Tryz.prog.info? 51).map (fun i => (i.zero, i.size, i.bytes)) = some (some (.agg #[.string ⟨#[]⟩, .slice none 0 0, .slice none 0 0]), 3, 64) := by kernel_rfl
/-- The cells of functions in a row. -/
def FRow (F : Nat → Prop) (w : World) (l : List FuncD) (ns : List Value) : Prop := ns.length = l.length * 3 ∧ ∀ i (hi : i < l.length), ∃ p1 q1 p2 q2, ns[i * 3]? = some (.string l[i].name) ∧ ns[i * 3 + 1]? = some (.slice p1 l[i].params.length q1) ∧ ns[i * 3 + 2]? = some (.slice p2 l[i].body.length q2) ∧ Sts F w l[i].body (.slice p2 l[i].body.length q2)
theorem FRow.append {F : Nat → Prop} {w : World} {l l' : List FuncD} {ns ns' : List Value} (h : FRow F w l ns) (h' : FRow F w l' ns') : FRow F w (l ++ l') (ns ++ ns') := by
  refine ⟨by rw [List.length_append, List.length_append, h.1, h'.1, Nat.add_mul], fun i hi => ?_⟩
  rw [List.length_append] at hi
  by_cases hlt : i < l.length
  · obtain ⟨p1, q1, p2, q2, e0, e1, e2, e3⟩ := h.2 i hlt
    rw [List.getElem_append_left hlt]
    have hl := h.1
    exact ⟨p1, q1, p2, q2, by rw [List.getElem?_append_left (by omega)]; exact e0, by rw [List.getElem?_append_left (by omega)]; exact e1, by rw [List.getElem?_append_left (by omega)]; exact e2, e3⟩
  · obtain ⟨p1, q1, p2, q2, e0, e1, e2, e3⟩ := h'.2 (i - l.length) (by omega)
    have hl := h.1
    have hm : i * 3 = l.length * 3 + (i - l.length) * 3 := by rw [← Nat.add_mul]; congr 1; omega
    rw [List.getElem_append_right (by omega)]
    refine ⟨p1, q1, p2, q2, ?_, ?_, ?_, e3⟩
    · rw [List.getElem?_append_right (by omega), show i * 3 - ns.length = (i - l.length) * 3 by omega]; exact e0
    · rw [List.getElem?_append_right (by omega), show i * 3 + 1 - ns.length = (i - l.length) * 3 + 1 by omega]; exact e1
    · rw [List.getElem?_append_right (by omega), show i * 3 + 2 - ns.length = (i - l.length) * 3 + 2 by omega]; exact e2

/-- Functions behind a row of one's own. -/
theorem own_funcs {F : Nat → Prop} {w W : World} {l : List FuncD} {lv : Value} (hr : RdL Holds.fnc 3 F w l lv) (hF : Inn F w) (hW : Below w.heap.size w W) {v : Value} {n lo : Nat} {olds : List Value} (hown : W.ownsRow lo 51 3 v n olds) (hv : v ≠ .slice none 0 0) (hlo : lo ≤ W.heap.size) (hn : n + l.length ≤ 1000000) (ty : TypeId) :
    ∃ v' w' ns, (Builtin.append_ #[27, 27] ty #[v, lv]).run Tryz.prog W = .ok v' w' ∧ w'.ownsRow lo 51 3 v' (n + l.length) (olds ++ ns) ∧ v' ≠ .slice none 0 0 ∧ Below lo W w' ∧ FRow F w l ns := by
  obtain ⟨i0, hi, hz0, hz1, hz2⟩ := info_parts Tryz.infoFunc
  obtain ⟨c, ⟨a, cap, rfl, hlc, hcm, hel⟩, hrow⟩ := hr
  have hlow : ∀ g, v.ownBlock = some g → lo ≤ g := fun g hg => (ownsRow_in hown g hg).1
  have hrw : FRow F w l ((List.range (l.length * 3)).map fun j => c (j / 3) (j % 3)) := by
    refine ⟨by simp, fun i hi' => ?_⟩
    obtain ⟨-, v1, v2, he, h1, h2⟩ := hrow i hi'
    obtain ⟨p1, q1, rfl⟩ := h1.shape
    obtain ⟨p2, q2, rfl⟩ := h2.shape
    have he' : c i 0 = .string l[i].name ∧ c i 1 = .slice p1 l[i].params.length q1 ∧ c i 2 = .slice p2 l[i].body.length q2 := by
      simpa [rowCells, List.range_succ] using he
    refine ⟨p1, q1, p2, q2, ?_, ?_, ?_, h2⟩
    · rw [List.getElem?_map, List.getElem?_range (by omega)]
      simp only [Option.map_some, Option.some.injEq]
      rw [show i * 3 / 3 = i by omega, show i * 3 % 3 = 0 by omega]; exact he'.1
    · rw [List.getElem?_map, List.getElem?_range (by omega)]
      simp only [Option.map_some, Option.some.injEq]
      rw [show (i * 3 + 1) / 3 = i by omega, show (i * 3 + 1) % 3 = 1 by omega]; exact he'.2.1
    · rw [List.getElem?_map, List.getElem?_range (by omega)]
      simp only [Option.map_some, Option.some.injEq]
      rw [show (i * 3 + 2) / 3 = i by omega, show (i * 3 + 2) % 3 = 2 by omega]; exact he'.2.2
  by_cases h0 : l.length = 0
  · have hl0 : l = [] := List.eq_nil_of_length_eq_zero h0
    subst hl0
    refine ⟨v, W, [], ?_, by simpa using hown, hv, (Below.refl _ _).mono hlo, ⟨rfl, fun i hi => absurd hi (by simp)⟩⟩
    rcases hown.2 with ⟨e, _⟩ | ⟨g, cp, cur, e, h1, h2, h3, h4, h5, h6⟩
    · exact absurd e hv
    · subst e
      cases a <;> simp [Builtin.append_, run_underlying Tryz.underlying27, sizeOf, typeInfo, hi, Builtin.lenOf, Builtin.firstCells, storeCells, loadCells, loadCellsFrom, h3]
  · obtain ⟨b, off, rfl, hFb, hce⟩ := hel (by omega)
    have hbl := hW.block b (hF b hFb)
    obtain ⟨v', w', hrun, ho, hgr, hiff⟩ := run_append_own (P := Tryz.prog) (w := W) lo 27 ty 51 i0 _ 3 64 Tryz.underlying27 hi hz0 hz1 hz2 rfl (by decide) v n olds hown ⟨b, off, none⟩ l.length cap _ hrw.1 (fun j u hj => by
      rw [List.getElem?_map] at hj
      have hjl : j < l.length * 3 := by
        by_cases h : j < l.length * 3
        · exact h
        · rw [List.getElem?_eq_none (by simpa using h)] at hj; cases hj
      rw [List.getElem?_range hjl] at hj
      simp only [Option.map_some, Option.some.injEq] at hj
      subst hj
      have := hce (j / 3) (by omega) (j % 3) (by omega)
      rw [Addr.add_lit]
      refine (World.cell?_of_block (w := w) (w' := W) (a := ⟨b, off + j, none⟩) hbl).trans ?_
      rw [show off + j = off + j / 3 * 3 + j % 3 by omega]
      exact this) (fun u hu => by
      obtain ⟨j, hj, rfl⟩ := List.mem_map.1 hu
      have hjl : j < l.length * 3 := by simpa using hj
      obtain ⟨-, v1, v2, he, h1, h2⟩ := hrow (j / 3) (by omega)
      obtain ⟨p1, q1, rfl⟩ := h1.shape
      obtain ⟨p2, q2, rfl⟩ := h2.shape
      have he' : c (j / 3) 0 = .string l[j / 3].name ∧ c (j / 3) 1 = .slice p1 l[j / 3].params.length q1 ∧ c (j / 3) 2 = .slice p2 l[j / 3].body.length q2 := by
        simpa [rowCells, List.range_succ] using he
      have h3 : j % 3 = 0 ∨ j % 3 = 1 ∨ j % 3 = 2 := by omega
      rcases h3 with h3 | h3 | h3
      · rw [h3, he'.1]; rfl
      · rw [h3, he'.2.1]; rfl
      · rw [h3, he'.2.2]; rfl) (by unfold maxLen; omega) (by omega) hlo
    refine ⟨v', w', _, hrun, ho, fun e => by have := (hiff.1 e).1; exact hv this, ⟨hgr.os, hgr.tape, hgr.output, hgr.size, fun k hk => hgr.block k (Nat.lt_of_lt_of_le hk hlo) (fun e => by have := hlow k e.symm; omega)⟩, hrw⟩
end Go.Proofs.YtblhpiebheommaaGreat
