/- The walk of tree.SameBlock. -/
import Derived.Test.YtmabeegoapcfpaaGreatDoorQPart8b87d8c5
import Derived.Lib.QuietBelow
import Derived.BigQuiet
namespace Go.Proofs.YtmabeegoapcfpaaGreatDoor
open Go.RowKit Go.Sort
def SameBTC (l l2 : List St) : Prop := ∀ (F : Nat → Prop) (w : World) (v v2 : Value), Inn F w → Sts F w l v → Sts F w l2 v2 →
    Calls Tryz.prog 43 #[v, v2] w (Gives w (.bool (same l l2)))
theorem two_new {B : Nat} {w w' : World} {o o2 : Obj} (hb : Below B ((w.alloc o).alloc o2) w') : w.heap.size < w'.heap.size ∧ w.heap.size + 1 < w'.heap.size := by
  have := hb.size
  simp at this
  omega
theorem St.eta (e : St) : e = .mk e.kind e.num e.name e.args e.body e.els := by obtain ⟨_, _, _, _, _, _⟩ := e; rfl
theorem St.ext' {e f : St} (h1 : e.kind = f.kind) (h2 : e.num = f.num) (h3 : e.name = f.name) (h4 : e.args = f.args) (h5 : e.body = f.body) (h6 : e.els = f.els) : e = f := by
  rw [St.eta e, St.eta f, h1, h2, h3, h4, h5, h6]
set_option maxRecDepth 100000 in
set_option maxHeartbeats 2000000 in
theorem sameBT_calls : ∀ l : List St, ∀ l2, SameBTC l l2 := by
  refine blocks_ind fun l ih => ?_
  intro l2 F w v v2 hF hr hr2
  obtain ⟨a, cap, rfl⟩ := hr.shape
  obtain ⟨_, hl, hc, ha⟩ := hr.opn
  obtain ⟨a2, cap2, rfl⟩ := hr2.shape
  obtain ⟨_, hl2, hc2, ha2⟩ := hr2.opn
  clear hr hr2
  by_cases hlen : l.length = l2.length
  rotate_left
  · have ho1 : ((l.length : Int) != (l2.length : Int)) = true := by simp; omega
    have hfin : Hid (same l l2 = false) := same_ne (by rintro rfl; exact hlen rfl)
    clear hlen ih ha ha2
    go_enter Tryz.func43, Tryz.ntmps43
    go_wp2
    go_ret
    exact ⟨ret_bool hfin.out.symm, Below.refl _ _⟩
  have HL := Lib.hid hlen
  have ho1 : ((l.length : Int) != (l2.length : Int)) = false := by simp; omega
  rw [← hlen] at hl2 ho1 ⊢
  clear hlen
  go_enter Tryz.func43, Tryz.ntmps43
  go_wp2
  go_loopw [16] (fun i wr => ∃ (k : Nat), k ≤ l.length ∧ i = .int .i64 k ∧ Hid (l.take k = l2.take k) ∧ Below w.heap.size w wr) (fun i _ => l.length - (intOf i).toNat)
  case atStart => exact ⟨0, Nat.zero_le _, rfl, by simp [Hid], Below.refl _ _⟩
  case round =>
    obtain ⟨k, hk, rfl, hq, hB⟩ := hrel
    by_cases hlt : k < l.length
    rotate_left
    · have : k = l.length := by omega
      subst this
      have hfin : Hid (same l l2 = true) := by
        have h0 := hq.out
        rw [List.take_length, HL.out, List.take_length] at h0
        subst h0
        exact same_self _
      clear hq ha ha2 ih
      go_wp2
      go_ret
      exact ⟨ret_bool hfin.out.symm, hB⟩
    obtain ⟨b, off, rfl, hFb, hel⟩ := ha (by omega)
    have hlt2 : k < l2.length := by have := HL.out; omega
    obtain ⟨b2, off2, rfl, hFb2, hel2⟩ := ha2 (by omega)
    obtain ⟨kd, n, s, x1, m1, cp1, x2, m2, cp2, x3, m3, cp3, hx, g0, g1, g2, g3, g4, g5⟩ := hel wr (hB.block b (hF b hFb)) k hlt
    obtain ⟨kd', n', s', y1, p1, cq1, y2, p2, cq2, y3, p3, cq3, hy, q0, q1, q2, q3, q4, q5⟩ := hel2 wr (hB.block b2 (hF b2 hFb2)) k hlt2
    clear ha ha2 hel hel2
    have hI := hF.below hB
    have hb1 : b < wr.heap.size := hI b hFb
    have hb2 : b2 < wr.heap.size := hI b2 hFb2
    obtain ⟨ihb, ihe⟩ := ih _ (List.getElem_mem hlt)
    obtain ⟨ek, en, es, _, _, _, hxa, hxb, hxe⟩ := (hx.below hF hB (Nat.le_refl _)).parts
    obtain ⟨fk, fn, fs, _, _, _, hya, hyb, hye⟩ := (hy.below hF hB (Nat.le_refl _)).parts
    obtain ⟨rfl, hal, hac, haa⟩ := hxa.opn
    obtain ⟨rfl, hbl, hbc, hba⟩ := hya.opn
    have hix : (0 : Int) ≤ (k : Int) := by omega
    have hix2 : (k : Int) < (l.length : Int) := by omega
    have hte : l.take (k + 1) = l.take k ++ [l[k]] := List.take_succ_eq_append_getElem hlt
    have hte2 : l2.take (k + 1) = l2.take k ++ [l2[k]] := List.take_succ_eq_append_getElem hlt2
    have HT : Hid (l[k] = l2[k] → l.take (k + 1) = l2.take (k + 1)) := fun h => by rw [hte, hte2, hq.out, h]
    have HN : Hid (l[k] ≠ l2[k] → same l l2 = false) := fun h => same_ne (by rintro rfl; exact h rfl)
    clear ih hx hy hq hte hte2
    by_cases hk1 : kd = kd'
    rotate_left
    · have ho : (kd != kd') = true := by simpa using hk1
      have hfin : Hid (same l l2 = false) := HN.out (fun h => hk1 (by rw [← ek, ← fk, h]))
      clear hk1 ihb ihe hxa hya hxb hyb hxe hye haa hba ek en es fk fn fs HT HN
      go_wp2
      go_ret
      exact ⟨ret_bool hfin.out.symm, (hB.alloc hB.size _).alloc (by simp; have := hB.size; omega) _⟩
    by_cases hn1 : n = n'
    rotate_left
    · have ho0 : (kd != kd') = false := by simpa using hk1
      have ho : (n != n') = true := by simpa using hn1
      have hfin : Hid (same l l2 = false) := HN.out (fun h => hn1 (by rw [← en, ← fn, h]))
      clear hk1 hn1 ihb ihe hxa hya hxb hyb hxe hye haa hba ek en es fk fn fs HT HN
      go_wp2
      go_ret
      exact ⟨ret_bool hfin.out.symm, (hB.alloc hB.size _).alloc (by simp; have := hB.size; omega) _⟩
    by_cases hs1 : s = s'
    rotate_left
    · have ho0 : (kd != kd') = false := by simpa using hk1
      have ho2 : (n != n') = false := by simpa using hn1
      have ho := strne hs1
      have hfin : Hid (same l l2 = false) := HN.out (fun h => hs1 (by rw [← es, ← fs, h]))
      clear hk1 hn1 hs1 ihb ihe hxa hya hxb hyb hxe hye haa hba ek en es fk fn fs HT HN
      go_wp2
      go_ret
      exact ⟨ret_bool hfin.out.symm, (hB.alloc hB.size _).alloc (by simp; have := hB.size; omega) _⟩
    have ho0 : (kd != kd') = false := by simpa using hk1
    have ho2 : (n != n') = false := by simpa using hn1
    have ho4 : (s.toList == s'.toList) = true := by rw [hs1]; exact beq_self_eq_true _
    by_cases hm1 : (l[k]).args.length = (l2[k]).args.length
    rotate_left
    · have ho : (((l[k]).args.length : Int) != ((l2[k]).args.length : Int)) = true := by simp; omega
      have hfin : Hid (same l l2 = false) := HN.out (fun h => hm1 (by rw [h]))
      clear hk1 hn1 hs1 hm1 ihb ihe hxa hya hxb hyb hxe hye haa hba ek en es fk fn fs HT HN
      go_wp2
      go_ret
      exact ⟨ret_bool hfin.out.symm, (hB.alloc hB.size _).alloc (by simp; have := hB.size; omega) _⟩
    have ho5 : (((l[k]).args.length : Int) != ((l2[k]).args.length : Int)) = false := by simp; omega
    have hcb : ∀ o o2, Calls Tryz.prog 43 #[.slice x2 m2 cp2, .slice y2 p2 cq2] ((wr.alloc o).alloc o2) (Gives ((wr.alloc o).alloc o2) (.bool (same (l[k]).body (l2[k]).body))) := fun o o2 =>
      ihb (l2[k]).body F _ _ _ ((hI.alloc _).alloc _) ((hxb.alloc hI _).alloc (hI.alloc _) _) ((hyb.alloc hI _).alloc (hI.alloc _) _)
    have hce : ∀ o o2 w', Below ((wr.alloc o).alloc o2).heap.size ((wr.alloc o).alloc o2) w' → Calls Tryz.prog 43 #[.slice x3 m3 cp3, .slice y3 p3 cq3] w' (Gives w' (.bool (same (l[k]).els (l2[k]).els))) := fun o o2 w' hb =>
      ihe (l2[k]).els F _ _ _ (((hI.alloc _).alloc _).below hb) (((hxe.alloc hI _).alloc (hI.alloc _) _).below ((hI.alloc _).alloc _) hb (Nat.le_refl _)) (((hye.alloc hI _).alloc (hI.alloc _) _).below ((hI.alloc _).alloc _) hb (Nat.le_refl _))
    by_cases hbe : (l[k]).body = (l2[k]).body
    rotate_left
    · rw [same_ne hbe] at hcb
      have hfin : Hid (same l l2 = false) := HN.out (fun h => hbe (by rw [h]))
      have HCb := Lib.hid hcb
      clear hcb hce hk1 hn1 hs1 hm1 hbe ihb ihe hxa hya hxb hyb hxe hye haa hba ek en es fk fn fs HT HN
      go_wp2_with (go_at_call 43; refine (HCb.out _ _).mono ?_; rintro e w' ⟨rfl, hb⟩)
      go_ret
      exact ⟨ret_bool hfin.out.symm, below_on2 hB (Nat.le_refl _) hb⟩
    rw [same_eq hbe] at hcb
    have HCb := Lib.hid hcb
    by_cases hee : (l[k]).els = (l2[k]).els
    rotate_left
    · rw [same_ne hee] at hce
      have hfin : Hid (same l l2 = false) := HN.out (fun h => hee (by rw [h]))
      have HCe := Lib.hid hce
      clear hcb hce hk1 hn1 hs1 hm1 hbe hee ihb ihe hxa hya hxb hyb hxe hye haa hba ek en es fk fn fs HT HN
      go_wp2_with (go_at_call 43; (first | ((with_reducible refine (HCb.out _ _).mono ?_); rintro e w' ⟨rfl, hb⟩; obtain ⟨hcl, hfz⟩ := bcell hb) | ((with_reducible refine (HCe.out _ _ w' hb).mono ?_); rintro e w2 ⟨rfl, hb2⟩; obtain ⟨hcl2, hfz2⟩ := bcell hb2; obtain ⟨hz1, hz2⟩ := two_new hb)))
      go_ret
      exact ⟨ret_bool hfin.out.symm, below_on (below_on2 hB (Nat.le_refl _) hb) (Nat.le_refl _) hb2⟩
    rw [same_eq hee] at hce
    have HCe := Lib.hid hce
    have HM := Lib.hid hm1
    have HX : Hid ((l[k]).args = (l2[k]).args → l[k] = l2[k]) := fun h => St.ext' (by rw [ek, fk, hk1]) (by rw [en, fn, hn1]) (by rw [es, fs, hs1]) h hbe hee
    have HY : Hid ((l[k]).args ≠ (l2[k]).args → l[k] ≠ l2[k]) := fun h h2 => h (by rw [h2])
    clear hcb hce hk1 hn1 hs1 hm1 hbe hee ihb ihe hxb hyb hxe hye ek en es fk fn fs
    obtain ⟨wo, rfl⟩ : ∃ wo : World, wo = wr := ⟨_, rfl⟩
    go_wp2_with (go_at_call 43; (first | ((with_reducible refine (HCb.out _ _).mono ?_); rintro e w' ⟨rfl, hb⟩; obtain ⟨hcl, hfz⟩ := bcell hb) | ((with_reducible refine (HCe.out _ _ w' hb).mono ?_); rintro e w2 ⟨rfl, hb2⟩; obtain ⟨hcl2, hfz2⟩ := bcell hb2; obtain ⟨hz1, hz2⟩ := two_new hb)))
    have hW : Below (wo.heap.size + 2) ((wo.alloc (.cells #[.int .i64 kd, .int .i64 n, .string s, .slice x1 (l[k]).args.length cp1, .slice x2 m2 cp2, .slice x3 m3 cp3] 108)).alloc (.cells #[.int .i64 kd', .int .i64 n', .string s', .slice y1 (l2[k]).args.length cq1, .slice y2 p2 cq2, .slice y3 p3 cq3] 108)) w2 := (hb.mono (by simp)).trans (hb2.mono (by have := hb.size; simp at this; omega))
    have HW := Lib.hid hW
    clear hb hb2 hcl hcl2 hfz hfz2 hz1 hz2 HCb HCe hW g0 g1 g2 g3 g4 g5 q0 q1 q2 q3 q4 q5
    go_loopw [72] (fun i wi => ∃ (j : Nat), j ≤ (l[k]).args.length ∧ i = .int .i64 j ∧ Hid ((l[k]).args.take j = (l2[k]).args.take j) ∧ Below (wo.heap.size + 2) ((wo.alloc (.cells #[.int .i64 kd, .int .i64 n, .string s, .slice x1 (l[k]).args.length cp1, .slice x2 m2 cp2, .slice x3 m3 cp3] 108)).alloc (.cells #[.int .i64 kd', .int .i64 n', .string s', .slice y1 (l2[k]).args.length cq1, .slice y2 p2 cq2, .slice y3 p3 cq3] 108)) wi) (fun i _ => (l[k]).args.length - (intOf i).toNat)
    case atStart => exact ⟨0, Nat.zero_le _, rfl, by simp [Hid], HW.out⟩
    case round =>
      obtain ⟨j, hj, rfl, hqj, hB0⟩ := hrel
      have hBo : Below wo.heap.size wo wr := (((Below.refl _ _).alloc (Nat.le_refl _) _).alloc (by simp) _).trans (hB0.mono (by omega))
      have hbx : wr.cell? ⟨wo.heap.size, 3, none⟩ = some (.slice x1 (l[k]).args.length cp1) := by rw [hB0.cell (by show wo.heap.size < _; omega)]; go_simp
      have hbx2 : wr.cell? ⟨wo.heap.size + 1, 3, none⟩ = some (.slice y1 (l2[k]).args.length cq1) := by rw [hB0.cell (by show wo.heap.size + 1 < _; omega)]; go_simp
      by_cases hltj : j < (l[k]).args.length
      · obtain ⟨c1, of1, rfl, hFc1, hea⟩ := haa (by omega)
        have hltj2 : j < (l2[k]).args.length := by have := HM.out; omega
        obtain ⟨c2, of2, rfl, hFc2, hea2⟩ := hba (by omega)
        obtain ⟨ka, oa, na, sa, aa, ma, cpa, hxj, u0, u1, u2, u3, u4⟩ := hea wr (hBo.block c1 (hI c1 hFc1)) j hltj
        obtain ⟨kb, ob, nb, sb, ab, mb, cpb, hyj, v0, v1, v2, v3, v4⟩ := hea2 wr (hBo.block c2 (hI c2 hFc2)) j hltj2
        clear haa hba hea hea2
        have hI2 := hI.below hBo
        have hcall : ∀ (p : Regrown), Calls Tryz.prog 116 #[.agg #[.int .i64 ka, .int .i64 oa, .int .i64 na, .string sa, .slice aa ma cpa], .agg #[.int .i64 kb, .int .i64 ob, .int .i64 nb, .string sb, .slice ab mb cpb]] (grow (redrawn wr p.d) p.os) fun e w'' => e = .returned (.bool (same (l[k]).args[j] (l2[k]).args[j])) ∧ ∃ p : Regrown, w'' = grow (redrawn wr p.d) p.os :=
          fun p => regrown_gives (fun w' hb => sameT_calls (l[k]).args[j] (l2[k]).args[j] F w' _ _ (hI2.below hb) ((hxj.below hI hBo (Nat.le_refl _)).below hI2 hb (Nat.le_refl _)) ((hyj.below hI hBo (Nat.le_refl _)).below hI2 hb (Nat.le_refl _))) p
        have r0 := fun d os => cell_regrown hbx d os
        have r1 := fun d os => cell_regrown hbx2 d os
        have r2 := fun d os => cell_regrown u0 d os
        have r3 := fun d os => cell_regrown u1 d os
        have r4 := fun d os => cell_regrown u2 d os
        have r5 := fun d os => cell_regrown u3 d os
        have r6 := fun d os => cell_regrown u4 d os
        have r7 := fun d os => cell_regrown v0 d os
        have r8 := fun d os => cell_regrown v1 d os
        have r9 := fun d os => cell_regrown v2 d os
        have r10 := fun d os => cell_regrown v3 d os
        have r11 := fun d os => cell_regrown v4 d os
        have hjx : (0 : Int) ≤ (j : Int) := by omega
        have hjx2 : (j : Int) < ((l[k]).args.length : Int) := by omega
        have hjx3 : (j : Int) < ((l2[k]).args.length : Int) := by omega
        have hte : (l[k]).args.take (j + 1) = (l[k]).args.take j ++ [(l[k]).args[j]] := List.take_succ_eq_append_getElem hltj
        have hte2 : (l2[k]).args.take (j + 1) = (l2[k]).args.take j ++ [(l2[k]).args[j]] := List.take_succ_eq_append_getElem hltj2
        have HB : Hid (Below w.heap.size w wr) := bt hB hBo
        by_cases heq : (l[k]).args[j] = (l2[k]).args[j]
        · rw [same_eq heq] at hcall
          have hnx : Hid ((l[k]).args.take (j + 1) = (l2[k]).args.take (j + 1)) := by show (l[k]).args.take (j + 1) = _; rw [hte, hte2, hqj.out, heq]
          have HC := Lib.hid hcall
          have HB0 := Lib.hid hB0
          clear hcall hxj hyj hte hte2 heq hqj hbx hbx2 u0 u1 u2 u3 u4 v0 v1 v2 v3 v4 hB0 hB hBo
          go_wp2
          refine wp_region_quiet_below (by kernel_rfl) (by kernel_rfl) ?_
          repeat (go_big_quiet_step (with_reducible exact HC.out _))
          refine wpQuiet_nil ?_
          intro w' hw'
          have hb := below_of_regrown hw'
          clear hw' HC r0 r1 r2 r3 r4 r5 r6 r7 r8 r9 r10 r11
          go_wp2
          go_roundw
          case rel => exact ⟨j + 1, by omega, by go_num, hnx, below_on HB0.out (by simp) hb⟩
          case measure => simp [intOf]; omega
        · rw [same_ne heq] at hcall
          have hfin : Hid (same l l2 = false) := HN.out (HY.out (fun h => heq (by simp only [h])))
          have HC := Lib.hid hcall
          clear hcall hxj hyj hte hte2 heq hqj hbx hbx2 u0 u1 u2 u3 u4 v0 v1 v2 v3 v4 hB hBo
          go_wp2
          refine wp_region_quiet_below (by kernel_rfl) (by kernel_rfl) ?_
          repeat (go_big_quiet_step (with_reducible exact HC.out _))
          refine wpQuiet_nil ?_
          intro w' hw'
          have hb := below_of_regrown hw'
          clear hw' HC r0 r1 r2 r3 r4 r5 r6 r7 r8 r9 r10 r11
          go_wp2
          go_ret
          exact ⟨ret_bool hfin.out.symm, below_on HB.out (Nat.le_refl _) hb⟩
      · have : j = (l[k]).args.length := by omega
        subst this
        have hnx : Hid (l.take (k + 1) = l2.take (k + 1)) := HT.out (HX.out (by
          have h0 := hqj.out
          rw [List.take_length, HM.out, List.take_length] at h0
          exact h0))
        clear hqj haa hba hbx hbx2
        go_wp2
        go_roundw
        case rel => exact ⟨k + 1, by omega, by go_num, hnx, bt hB hBo⟩
        case measure => simp [intOf]; omega
end Go.Proofs.YtmabeegoapcfpaaGreatDoor
/- A block whose cells are known (for seats that have no XKinds4). -/
namespace Go.Proofs.YtmabeegoapcfpaaGreatDoor
open Go.RowKit
def BoxAt (w : World) (b : Nat) (cs : List Value) : Prop := b < w.heap.size ∧ ∀ j, j < cs.length → w.cell? ⟨b, j, none⟩ = cs[j]?
theorem BoxAt.below {w w' : World} {b : Nat} {cs : List Value} {B : Nat} (h : BoxAt w b cs) (hb : Below B w w') (hB : b < B) : BoxAt w' b cs :=
  ⟨Nat.lt_of_lt_of_le h.1 hb.size, fun j hj => by rw [hb.cell (p := ⟨b, j, none⟩) hB]; exact h.2 j hj⟩
theorem BoxAt.new (w : World) (cs : List Value) (t : TypeId) : BoxAt (w.alloc (.cells cs.toArray t)) w.heap.size cs := ⟨by simp, fun j hj => by simp [World.cell?_alloc_at, hj]⟩
end Go.Proofs.YtmabeegoapcfpaaGreatDoor
/- A drawn region whose operations are quiet but for the last one, which waits (through others) for all of them: one walk serves every order. Plain law over the model's own orders. -/
namespace Go.Proofs.YtmabeegoapcfpaaGreatDoor
open Go.RowKit Go.Sort
section
variable {P : Program} {ops : Array Oper} {C : World → Prop} {md : Region.Mode}
def Closed (md : Region.Mode) (ops : Array Oper) (listed : Array Bool) : Prop :=
  ∀ j o, ops[j]? = some o → listed.getD j true = true → ∀ e ∈ o.after, Region.binds md e = true → listed.getD e.on false = true
theorem getD_set_mono {l : Array Bool} {i j : Nat} (h : l.getD j false = true) : (l.setIfInBounds i true).getD j false = true := by
  rw [Array.getD_eq_getD_getElem?] at h ⊢
  rw [Array.getElem?_setIfInBounds]
  split
  · rename_i hij
    subst hij
    split
    · rfl
    · rename_i hs
      rw [Array.getElem?_eq_none (by omega)] at h
      cases h
  · exact h
theorem getD_of_set {l : Array Bool} {i j : Nat} (hij : j ≠ i) (h : (l.setIfInBounds i true).getD j true = true) : l.getD j true = true := by
  rw [Array.getD_eq_getD_getElem?] at h ⊢
  rw [Array.getElem?_setIfInBounds, if_neg (Ne.symm hij)] at h
  exact h
theorem getD_of_set2 {l : Array Bool} {i j : Nat} (hij : j ≠ i) (h : (l.setIfInBounds i true).getD j false = true) : l.getD j false = true := by
  rw [Array.getD_eq_getD_getElem?] at h ⊢
  rw [Array.getElem?_setIfInBounds, if_neg (Ne.symm hij)] at h
  exact h
theorem getD_true {l : Array Bool} {j : Nat} (h : l.getD j false = true) : l.getD j true = true := by
  rw [Array.getD_eq_getD_getElem?] at h ⊢
  cases hj : l[j]? with
  | none => rfl
  | some b => rw [hj] at h; exact h
theorem Closed.set {listed : Array Bool} {i : Nat} (h : Closed md ops listed) (hi : i ∈ Region.ready md ops listed) : Closed md ops (listed.setIfInBounds i true) := by
  intro j o ho hl e he hb
  by_cases hji : j = i
  · subst hji
    obtain ⟨_, o', ho', hall⟩ := mem_ready.1 hi
    rw [ho] at ho'
    cases ho'
    exact getD_set_mono (hall e he hb)
  · exact getD_set_mono (h j o ho (getD_of_set hji hl) e he hb)
theorem Closed.start : Closed md ops (Array.replicate ops.size false) := by
  intro j o ho hl
  have hj : j < ops.size := by
    rcases Nat.lt_or_ge j ops.size with h | h
    · exact h
    · rw [Array.getElem?_eq_none h] at ho; cases ho
  simp [Array.getD, hj] at hl
def marks (md : Region.Mode) (m : Array Bool) (l : List Edge) : Array Bool := l.foldl (fun m e => if Region.binds md e then m.setIfInBounds e.on true else m) m
def waits (md : Region.Mode) (ops : Array Oper) : Nat → Array Bool → Bool
  | 0, _ => true
  | k + 1, m => m.getD k false && (match ops[k]? with | some o => waits md ops k (marks md m o.after.toList) | none => false)
theorem marks_listed {listed : Array Bool} : ∀ (l : List Edge) (m : Array Bool), (∀ k, m.getD k false = true → listed.getD k false = true) → (∀ e ∈ l, Region.binds md e = true → listed.getD e.on false = true) →
    ∀ k, (marks md m l).getD k false = true → listed.getD k false = true
  | [], m, hm, _, k, h => hm k h
  | e :: l, m, hm, hl, k, h => by
    refine marks_listed l _ ?_ (fun e he => hl e (List.mem_cons_of_mem _ he)) k h
    intro k hk
    by_cases hb : Region.binds md e = true
    · simp only [hb, if_true] at hk
      by_cases hke : k = e.on
      · subst hke; exact hl e List.mem_cons_self hb
      · exact hm k (getD_of_set2 hke hk)
    · simp only [hb] at hk
      exact hm k hk
theorem waits_all {listed : Array Bool} (hc : Closed md ops listed) : ∀ (k : Nat) (m : Array Bool), waits md ops k m = true → (∀ j, m.getD j false = true → listed.getD j false = true) → ∀ j, j < k → listed.getD j false = true
  | 0, _, _, _, j, hj => absurd hj (by omega)
  | k + 1, m, h, hm, j, hj => by
    unfold waits at h
    rw [Bool.and_eq_true] at h
    obtain ⟨h1, h2⟩ := h
    cases ho : ops[k]? with
    | none => rw [ho] at h2; cases h2
    | some o =>
      rw [ho] at h2
      have hk := hm k h1
      have hk2 : listed.getD k true = true := getD_true hk
      by_cases hjk : j = k
      · subst hjk; exact hk
      · exact waits_all hc k _ h2 (marks_listed _ m hm (fun e he hb => hc k o ho hk2 e (by simpa using he) hb)) j (by omega)
def wpAnyT (P : Program) (md : Region.Mode) (ops : Array Oper) (C : World → Prop) (z : Nat) (Q : Act → Prop) : Nat → Array Bool → Act → Prop
  | 0, listed, a => (∀ j ∈ Region.ready md ops listed, j = z) ∧ z ∈ Region.ready md ops listed ∧ Region.ready md ops (listed.setIfInBounds z true) = [] ∧ Q a
  | f + 1, listed, a => z ∉ Region.ready md ops listed ∧ Region.ready md ops listed ≠ [] ∧ ∀ i ∈ Region.ready md ops listed, qOp P ops C i (wpAnyT P md ops C z Q f (listed.setIfInBounds i true)) a
theorem wpAny_of_T {z : Nat} {o : Oper} {Q : Act → Prop} {Q' : Exit → Act → World → Prop} (ho : ops[z]? = some o) (hQ : ∀ a w, C w → Q a → wpList P ops Q' [o] a w) : ∀ (f : Nat) (listed : Array Bool) (a : Act) (w : World), C w →
    wpAnyT P md ops C z Q f listed a → wpAny P md ops Q' (f + 1) listed a w
  | 0, listed, a, w, hw, h => by
    obtain ⟨h1, h2, h3, h4⟩ := h
    refine ⟨fun h0 => (by rw [h0] at h2; cases h2), fun i hi => ?_⟩
    rw [h1 i hi]
    have h5 := hQ a w hw h4
    unfold wpOp
    rw [ho]
    unfold wpList at h5
    show if _ then _ else _
    split at h5
    · rename_i hwd
      rw [if_pos hwd]
      rcases h5 with h5 | h5
      · left
        exact Oper.wp_mono (fun a' w' h6 => ⟨h3, h6⟩) h5
      · exact Or.inr h5
    · rename_i hwd
      rw [if_neg hwd]
      exact ⟨h3, h5⟩
  | f + 1, listed, a, w, hw, h => ⟨fun h0 => absurd h0 h.2.1, fun i hi => wpOp_of_qOp hw (fun a' w' hw' hk => wpAny_of_T ho hQ f _ a' w' hw' hk) (h.2.2 i hi)⟩
theorem wpAnyT_first {z : Nat} {Q : Act → Prop} {i : Nat} {oi : Oper} {v : Value} (hi : ops[i]? = some oi) (hsel : ∀ (j : Nat) (o : Oper) cs b, ops[j]? = some o → o.op ≠ .select cs b)
    (hz : ∀ listed : Array Bool, Closed md ops listed → z ∈ Region.ready md ops listed → listed.getD i false = true) (hiz : i ≠ z) :
    ∀ (fuel : Nat) (listed : Array Bool) (a : Act), Closed md ops listed →
      (∀ j oj, ops[j]? = some oj → j ≠ i → listed.getD j true = false → (∀ e ∈ oj.after, Region.binds md e = true → e.on ≠ i) → oi.apart ops oj = true) →
      i ∈ Region.ready md ops listed → YieldsIn P ops C oi v a →
      wpAnyT P md ops C z Q fuel (listed.setIfInBounds i true) (a.put oi.dst v) → wpAnyT P md ops C z Q (fuel + 1) listed a := by
  have hzn : ∀ listed : Array Bool, Closed md ops listed → i ∈ Region.ready md ops listed → z ∉ Region.ready md ops listed := fun listed hc hr hzr => by
    have h1 := hz listed hc hzr
    have h0 := (mem_ready.1 hr).1
    rcases Nat.lt_or_ge i listed.size with h' | h'
    · simp [h'] at h0 h1; rw [h0] at h1; cases h1
    · simp [Array.getElem?_eq_none h'] at h1
  intro fuel
  induction fuel with
  | zero =>
    intro listed a hc _ hr hy H
    refine ⟨hzn listed hc hr, fun h => (by rw [h] at hr; cases hr), fun j hj => ?_⟩
    by_cases hji : j = i
    · subst hji; exact hy.qOp hi H
    · have h2 := H.1 j (ready_mono hj hji)
      rw [h2] at hj
      exact absurd hj (hzn listed hc hr)
  | succ fuel ih =>
    intro listed a hc hfree hr hy H
    refine ⟨hzn listed hc hr, fun h => (by rw [h] at hr; cases hr), fun j hj => ?_⟩
    by_cases hji : j = i
    · subst hji; exact hy.qOp hi H
    · have h1 := H.2.2 j (ready_mono hj hji)
      obtain ⟨hjun, oj, hoj, hall⟩ := mem_ready.1 hj
      have hnot : ∀ e ∈ oj.after, Region.binds md e = true → e.on ≠ i := fun e he hb heq => by
        have h1 := hall e he hb
        have h0 := (mem_ready.1 hr).1
        rw [heq] at h1
        rcases Nat.lt_or_ge i listed.size with h' | h'
        · simp [h'] at h0 h1; rw [h0] at h1; cases h1
        · simp [Array.getElem?_eq_none h'] at h1
      have h2 := qOp_put hoj (hfree j oj hoj hji hjun hnot) (fun cs b => hsel i oi cs b hi) (fun cs b => hsel j oj cs b hoj) hy h1
      have hfree' : ∀ k ok, ops[k]? = some ok → k ≠ i → (listed.setIfInBounds j true).getD k true = false →
          (∀ e ∈ ok.after, Region.binds md e = true → e.on ≠ i) → oi.apart ops ok = true := fun k ok hk hki hun hno => by
        refine hfree k ok hk hki ?_ hno
        by_cases hjk : j = k
        · subst hjk; exact hjun
        · rw [getD_set_ne true hjk] at hun; exact hun
      refine qOp_mono (fun a' h3 => ih (listed.setIfInBounds j true) a' (hc.set hj) hfree' (ready_mono hr (Ne.symm hji)) h3.1 ?_) h2
      rw [Array.setIfInBounds_comm _ _ hji]
      exact h3.2
def lexTo (md : Region.Mode) (ops : Array Oper) (z : Nat) : Nat → Nat → Array Bool → Bool
  | 0, _, listed => (Region.ready md ops listed).all (· == z) && (Region.ready md ops listed).contains z && (Region.ready md ops (listed.setIfInBounds z true)).isEmpty
  | f + 1, k, listed => (Region.ready md ops listed).contains k && Region.free md ops listed k && lexTo md ops z f (k + 1) (listed.setIfInBounds k true)
theorem wpAnyT_lex {z : Nat} {Q : Act → Prop} (hs : Region.noSelect ops = true) (hz : ∀ listed : Array Bool, Closed md ops listed → z ∈ Region.ready md ops listed → ∀ i, i < z → listed.getD i false = true) :
    ∀ (l : List Oper) (k : Nat) (listed : Array Bool) (a : Act), Closed md ops listed → (∀ j, j < l.length → l[j]? = ops[k + j]?) → k + l.length ≤ z →
    lexTo md ops z l.length k listed = true → wpQuiet P ops C Q l a → wpAnyT P md ops C z Q l.length listed a
  | [], _, _, _, _, _, _, hB, h => by
    simp only [List.length_nil, lexTo, Bool.and_eq_true, List.all_eq_true, List.isEmpty_iff] at hB
    obtain ⟨⟨h1, h2⟩, h3⟩ := hB
    exact ⟨fun j hj => by simpa using h1 j hj, by simpa using h2, h3, h⟩
  | o :: l, k, listed, a, hc, hl, hk, hB, h => by
    have h0 : ops[k]? = some o := by simpa using (hl 0 (by simp)).symm
    simp only [List.length_cons, lexTo, Bool.and_eq_true] at hB
    obtain ⟨⟨hr, hf⟩, hB'⟩ := hB
    have hst : qOp P ops C k (wpQuiet P ops C Q l) a := by unfold qOp; simp only [h0]; exact h
    obtain ⟨v, hy, hK⟩ := yieldsIn_of_qOp h0 hst
    have hkz : k < z := by simp only [List.length_cons] at hk; omega
    have hr' : k ∈ Region.ready md ops listed := by simpa using hr
    exact wpAnyT_first h0 (Region.noSelect_spec hs) (fun listed hc hzr => hz listed hc hzr k hkz) (by omega) l.length listed a hc (Region.free_spec h0 hf) hr' hy
      (wpAnyT_lex hs hz l (k + 1) _ _ (hc.set hr') (fun j hj => by have := hl (j + 1) (by simp only [List.length_cons]; omega); simpa [Nat.add_assoc, Nat.add_comm 1 j] using this) (by simp only [List.length_cons] at hk; omega) hB' hK)
def lastB (ops : Array Oper) (z : Nat) : Bool :=
  Region.noSelect ops && lexTo .any ops z z 0 (Array.replicate ops.size false) && (match ops[z]? with | some o => waits .any ops z (marks .any (Array.replicate ops.size false) o.after.toList) | none => false)
theorem wp_region_quiet_last {id : Nat} {Q : Exit → Act → World → Prop} {a : Act} {w : World} {l : List Oper} {o : Oper} (z : Nat) (hm : P.follows .mixedOrders = true) (hzl : l.length = z + 1) (ho : l[z]? = some o)
    (hB : lastB l.toArray z = true) (hC : C { w with drawn := w.drawn + 1 })
    (h : wpQuiet P l.toArray C (fun a' => ∀ w', C w' → wpList P l.toArray Q [o] a' w') l.dropLast a) : (Code.region id l.toArray true).wp P Q a w := by
  have hoz : l.toArray[z]? = some o := by simpa using ho
  simp only [lastB, Bool.and_eq_true] at hB
  obtain ⟨⟨hs, hx⟩, hw⟩ := hB
  rw [hoz] at hw
  have hsz : l.toArray.size = z + 1 := by simpa using hzl
  refine wp_region_any hm ?_
  rw [hsz]
  refine wpAny_of_T hoz (Q := fun a' => ∀ w', C w' → wpList P l.toArray Q [o] a' w') (fun a w' hw' h => h w' hw') z _ _ _ hC ?_
  have hdl : l.dropLast.length = z := by simp [hzl]
  have := wpAnyT_lex (C := C) (md := .any) (z := z) hs (fun listed hc hzr i hi => by
    obtain ⟨_, o', ho', hall⟩ := mem_ready.1 hzr
    rw [hoz] at ho'
    cases ho'
    exact waits_all hc z _ hw (marks_listed _ _ (fun k hk => by simp [Array.getD] at hk) (fun e he hb => hall e (by simpa using he) hb)) i hi)
    l.dropLast 0 (Array.replicate l.toArray.size false) a Closed.start (fun j hj => by
      rw [hdl] at hj
      have : j < l.length := by omega
      simp [List.getElem?_dropLast, this]; omega) (by omega) (by rw [hdl]; simpa using hx) h
  rw [hdl] at this
  rw [hsz] at this
  exact this
theorem wpQuiet_mono {Q Q' : Act → Prop} (h : ∀ a, Q a → Q' a) : ∀ (l : List Oper) (a : Act), wpQuiet P ops C Q l a → wpQuiet P ops C Q' l a
  | [], a, hq => h a hq
  | o :: l, a, hq => by
    unfold wpQuiet at hq ⊢
    split at hq
    · rename_i hw; rw [if_pos hw]; exact Oper.quiet_mono (fun a h2 => wpQuiet_mono h l a h2) hq
    · rename_i hw; rw [if_neg hw]; exact wpQuiet_mono h l _ hq
theorem wp_region_quiet_last_below {id : Nat} {Q : Exit → Act → World → Prop} {a : Act} {w : World} {l : List Oper} {o : Oper} (z : Nat) (hm : P.follows .mixedOrders = true) (hzl : l.length = z + 1) (ho : l[z]? = some o)
    (hB : lastB l.toArray z = true)
    (h : wpQuiet P l.toArray (fun w' => ∃ p : Regrown, w' = grow (redrawn w p.d) p.os) (fun a' => ∀ w', Below w.heap.size w w' → wpList P l.toArray Q [o] a' w') l.dropLast a) : (Code.region id l.toArray true).wp P Q a w :=
  wp_region_quiet_last (C := fun w' => ∃ p : Regrown, w' = grow (redrawn w p.d) p.os) z hm hzl ho hB ⟨⟨w.drawn + 1, #[]⟩, by rw [grow_empty]; rfl⟩
    (wpQuiet_mono (fun a' h w' hw' => h w' (below_of_regrown hw')) _ _ h)
end
end Go.Proofs.YtmabeegoapcfpaaGreatDoor
