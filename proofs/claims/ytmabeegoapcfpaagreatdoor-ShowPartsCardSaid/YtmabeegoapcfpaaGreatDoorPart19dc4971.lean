/- The walks of clewref10.sameArgs and clewref10.Same. -/
import Derived.Test.YtmabeegoapcfpaaGreatDoorPart56072ee7
namespace Go.Proofs.YtmabeegoapcfpaaGreatDoor
open Go.RowKit Go.Sort
def SameRC (a b : Ex) : Prop := ∀ (F : Nat → Prop) (w : World) (cs ds : List Value), Inn F w → RdEx F w a cs → RdEx F w b ds →
    Calls Tryz.prog 123 #[.agg cs.toArray, .agg ds.toArray] w (Gives w (.bool (same a b)))
def SameArgsC (l l2 : List Ex) : Prop := ∀ (F : Nat → Prop) (w : World) (v v2 : Value), Inn F w → Exs F w l v → Exs F w l2 v2 →
    Calls Tryz.prog 124 #[v, v2] w (Gives w (.bool (same l l2)))
set_option maxRecDepth 100000 in
set_option maxHeartbeats 1000000 in
theorem sameArgs_of (l : List Ex) (ih : ∀ x ∈ l, ∀ y, SameRC x y) : ∀ l2, SameArgsC l l2 := by
  intro l2 F w v v2 hF hr hr2
  obtain ⟨a, cap, rfl⟩ := hr.shape
  obtain ⟨_, hl, hc, ha⟩ := hr.opn
  obtain ⟨a2, cap2, rfl⟩ := hr2.shape
  obtain ⟨_, hl2, hc2, ha2⟩ := hr2.opn
  by_cases hlen : l.length = l2.length
  rotate_left
  · have ho1 : ((l.length : Int) != (l2.length : Int)) = true := by simp; omega
    have hfin : Hid (same l l2 = false) := same_ne (by rintro rfl; exact hlen rfl)
    clear hlen ih ha ha2
    go_enter Tryz.func124, Tryz.ntmps124
    go_wp2
    go_ret
    exact ⟨ret_bool hfin.out.symm, Below.refl _ _⟩
  have HL := Lib.hid hlen
  have ho1 : ((l.length : Int) != (l2.length : Int)) = false := by simp; omega
  rw [← hlen] at hl2 ho1 ⊢
  clear hlen
  go_enter Tryz.func124, Tryz.ntmps124
  go_wp2
  go_loopw [5] (fun i wr => ∃ (k : Nat), k ≤ l.length ∧ i = .int .i64 k ∧ Hid (l.take k = l2.take k) ∧ Below w.heap.size w wr) (fun i _ => l.length - (intOf i).toNat)
  case atStart => exact ⟨0, Nat.zero_le _, rfl, by simp [Hid], Below.refl _ _⟩
  case round =>
    obtain ⟨k, hk, rfl, hq, hB⟩ := hrel
    by_cases hlt : k < l.length
    · obtain ⟨b, off, rfl, hFb, hel⟩ := ha (by omega)
      have hlt2 : k < l2.length := by have := HL.out; omega
      obtain ⟨b2, off2, rfl, hFb2, hel2⟩ := ha2 (by omega)
      obtain ⟨kd', o', n', s', a', m', cap', hx, g0, g1, g2, g3, g4⟩ := hel wr (hB.block b (hF b hFb)) k hlt
      obtain ⟨kd2, o2, n2, s2, a2', m2, cap2', hx2, q0, q1, q2, q3, q4⟩ := hel2 wr (hB.block b2 (hF b2 hFb2)) k hlt2
      clear ha ha2 hel hel2
      have hI := hF.below hB
      have hcall : ∀ (p : Regrown), Calls Tryz.prog 123 #[.agg #[.int .i64 kd', .int .i64 o', .int .i64 n', .string s', .slice a' m' cap'], .agg #[.int .i64 kd2, .int .i64 o2, .int .i64 n2, .string s2, .slice a2' m2 cap2']] (grow (redrawn wr p.d) p.os) fun e w'' => e = .returned (.bool (same l[k] l2[k])) ∧ ∃ p : Regrown, w'' = grow (redrawn wr p.d) p.os :=
        fun p => regrown_gives (fun w' hb => ih _ (List.getElem_mem hlt) l2[k] F w' _ _ (hI.below hb) ((hx.below hF hB (Nat.le_refl _)).below hI hb (Nat.le_refl _)) ((hx2.below hF hB (Nat.le_refl _)).below hI hb (Nat.le_refl _))) p
      have r2 := fun d os => cell_regrown g0 d os
      have r3 := fun d os => cell_regrown g1 d os
      have r4 := fun d os => cell_regrown g2 d os
      have r5 := fun d os => cell_regrown g3 d os
      have r6 := fun d os => cell_regrown g4 d os
      have r7 := fun d os => cell_regrown q0 d os
      have r8 := fun d os => cell_regrown q1 d os
      have r9 := fun d os => cell_regrown q2 d os
      have r10 := fun d os => cell_regrown q3 d os
      have r11 := fun d os => cell_regrown q4 d os
      have hix : (0 : Int) ≤ (k : Int) := by omega
      have hix2 : (k : Int) < (l.length : Int) := by omega
      have hte : l.take (k + 1) = l.take k ++ [l[k]] := List.take_succ_eq_append_getElem hlt
      have hte2 : l2.take (k + 1) = l2.take k ++ [l2[k]] := List.take_succ_eq_append_getElem hlt2
      by_cases heq : l[k] = l2[k]
      · rw [same_eq heq] at hcall
        have hnx : Hid (l.take (k + 1) = l2.take (k + 1)) := by show l.take (k + 1) = _; rw [hte, hte2, hq.out, heq]
        have HC := Lib.hid hcall
        clear hcall hx hx2 ih hte hte2 heq hq g0 g1 g2 g3 g4 q0 q1 q2 q3 q4 hr hr2
        go_wp2
        refine wp_region_quiet_below (by kernel_rfl) (by kernel_rfl) ?_
        repeat (go_big_quiet_step (with_reducible exact HC.out _))
        refine wpQuiet_nil ?_
        intro w' hw'
        have hb := below_of_regrown hw'
        clear hw' HC r2 r3 r4 r5 r6 r7 r8 r9 r10 r11
        go_wp2
        go_roundw
        case rel => exact ⟨k + 1, by omega, by go_num, hnx, below_on hB (Nat.le_refl _) hb⟩
        case measure => simp [intOf]; omega
      · rw [same_ne heq] at hcall
        have hfin : Hid (same l l2 = false) := same_ne (by rintro rfl; exact heq rfl)
        have HC := Lib.hid hcall
        clear hcall hx hx2 ih hte hte2 heq hq g0 g1 g2 g3 g4 q0 q1 q2 q3 q4 hr hr2
        go_wp2
        refine wp_region_quiet_below (by kernel_rfl) (by kernel_rfl) ?_
        repeat (go_big_quiet_step (with_reducible exact HC.out _))
        refine wpQuiet_nil ?_
        intro w' hw'
        have hb := below_of_regrown hw'
        clear hw' HC r2 r3 r4 r5 r6 r7 r8 r9 r10 r11
        go_wp2
        go_ret
        exact ⟨ret_bool hfin.out.symm, below_on hB (Nat.le_refl _) hb⟩
    · have : k = l.length := by omega
      subst this
      have hfin : Hid (same l l2 = true) := by
        have h0 := hq.out
        rw [List.take_length, HL.out, List.take_length] at h0
        subst h0
        exact same_self _
      clear hq
      go_wp2
      go_ret
      exact ⟨ret_bool hfin.out.symm, hB⟩
set_option maxRecDepth 100000 in
set_option maxHeartbeats 1000000 in
theorem sameR_calls (e : Ex) : ∀ e2, SameRC e e2 := by
  induction e using Ex.ind with
  | h kd o n s args ih =>
  intro e2 F w cs ds hF hr hr2
  have hpa := sameArgs_of args ih
  clear ih
  obtain ⟨kd2, o2, n2, s2, args2⟩ := e2
  obtain ⟨kd', o', n', s', a, m, cap, rfl⟩ := hr.shape
  obtain ⟨rfl, rfl, rfl, rfl, _, _, _, _, hxa⟩ := hr.parts
  obtain ⟨kd2', o2', n2', s2', a2, m2, cap2, rfl⟩ := hr2.shape
  obtain ⟨rfl, rfl, rfl, rfl, _, _, _, _, hxa2⟩ := hr2.parts
  simp only [Ex.kind, Ex.op, Ex.num, Ex.name, Ex.args] at *
  clear hr hr2
  by_cases hk : kd = kd2
  rotate_left
  · have hk1 : (kd != kd2) = true := by simpa using hk
    have hfin : Hid (same (Ex.mk kd o n s args) (Ex.mk kd2 o2 n2 s2 args2) = false) := same_ne (by simp [hk])
    clear hk hpa
    go_enter Tryz.func123, Tryz.ntmps123
    go_wp2
    go_ret
    exact ⟨ret_bool hfin.out.symm, ((Below.refl _ _).alloc (Nat.le_refl _) _).alloc (by simp) _⟩
  subst hk
  have hk1 : (kd != kd) = false := by simp
  by_cases ho : o = o2
  rotate_left
  · have ho1 : (o != o2) = true := by simpa using ho
    have hfin : Hid (same (Ex.mk kd o n s args) (Ex.mk kd o2 n2 s2 args2) = false) := same_ne (by simp [ho])
    clear ho hpa
    go_enter Tryz.func123, Tryz.ntmps123
    go_wp2
    go_ret
    exact ⟨ret_bool hfin.out.symm, ((Below.refl _ _).alloc (Nat.le_refl _) _).alloc (by simp) _⟩
  subst ho
  have ho1 : (o != o) = false := by simp
  by_cases hn : n = n2
  rotate_left
  · have hn1 : (n != n2) = true := by simpa using hn
    have hfin : Hid (same (Ex.mk kd o n s args) (Ex.mk kd o n2 s2 args2) = false) := same_ne (by simp [hn])
    clear hn hpa
    go_enter Tryz.func123, Tryz.ntmps123
    go_wp2
    go_ret
    exact ⟨ret_bool hfin.out.symm, ((Below.refl _ _).alloc (Nat.le_refl _) _).alloc (by simp) _⟩
  subst hn
  have hn1 : (n != n) = false := by simp
  by_cases hs : s = s2
  rotate_left
  · have hs1 := strne hs
    have hfin : Hid (same (Ex.mk kd o n s args) (Ex.mk kd o n s2 args2) = false) := same_ne (by simp [hs])
    clear hs hpa
    go_enter Tryz.func123, Tryz.ntmps123
    go_wp2
    go_ret
    exact ⟨ret_bool hfin.out.symm, ((Below.refl _ _).alloc (Nat.le_refl _) _).alloc (by simp) _⟩
  subst hs
  have hfin : Hid (same (Ex.mk kd o n s args) (Ex.mk kd o n s args2) = same args args2) := by
    show same _ _ = _
    by_cases h : args = args2
    · subst h; rw [same_self, same_self]
    · rw [same_ne h, same_ne (by simp [h])]
  have hcall : ∀ o1 o2, Calls Tryz.prog 124 #[.slice a m cap, .slice a2 m2 cap2] ((w.alloc o1).alloc o2) (Gives ((w.alloc o1).alloc o2) (.bool (same args args2))) := fun o1 o2 =>
    hpa args2 F _ _ _ ((hF.alloc _).alloc _) ((hxa.alloc hF _).alloc (hF.alloc _) _) ((hxa2.alloc hF _).alloc (hF.alloc _) _)
  have HC := Lib.hid hcall
  clear hcall hpa hxa hxa2
  go_enter Tryz.func123, Tryz.ntmps123
  go_wp2_with (go_at_call 124; refine (HC.out _ _).mono ?_; rintro e w' ⟨rfl, hb⟩)
  go_ret
  exact ⟨ret_bool hfin.out.symm, below_on2 (Below.refl _ _) (Nat.le_refl _) hb⟩
theorem sameArgs_calls (l l2 : List Ex) : SameArgsC l l2 := sameArgs_of l (fun x _ => sameR_calls x) l2
end Go.Proofs.YtmabeegoapcfpaaGreatDoor
/- The walk of tree.SameBlock. -/
namespace Go.Proofs.YtmabeegoapcfpaaGreatDoor
open Go.RowKit Go.Sort
def SameBTC (l l2 : List St) : Prop := ∀ (F : Nat → Prop) (w : World) (v v2 : Value), Inn F w → Sts F w l v → Sts F w l2 v2 →
    Calls Tryz.prog 43 #[v, v2] w (Gives w (.bool (same l l2)))
theorem two_new {B : Nat} {w w' : World} {o o2 : Obj} (hb : Below B ((w.alloc o).alloc o2) w') : w.heap.size < w'.heap.size ∧ w.heap.size + 1 < w'.heap.size := by
  have := hb.size
  simp at this
  omega
theorem St.eta (e : St) : e = .mk e.kind e.num e.name e.args e.body e.els := by obtain ⟨_, _, _, _, _, _⟩ := e; rfl
theorem St.ext' {e f : St} (h1 : e.kind = f.kind) (h2 : e.num = f.num) (h3 : e.name = f.name) (h4 : e.args = f.args) (h5 : e.body = f.body) (h6 : e.els = f.els) : e = f := by
  rw [St.eta e, St.eta f, h1, h2, h3, h4, h5, h6]
set_option maxRecDepth 100000 in
set_option maxHeartbeats 2000000 in
theorem sameBT_calls : ∀ l : List St, ∀ l2, SameBTC l l2 := by
  refine blocks_ind fun l ih => ?_
  intro l2 F w v v2 hF hr hr2
  obtain ⟨a, cap, rfl⟩ := hr.shape
  obtain ⟨_, hl, hc, ha⟩ := hr.opn
  obtain ⟨a2, cap2, rfl⟩ := hr2.shape
  obtain ⟨_, hl2, hc2, ha2⟩ := hr2.opn
  clear hr hr2
  by_cases hlen : l.length = l2.length
  rotate_left
  · have ho1 : ((l.length : Int) != (l2.length : Int)) = true := by simp; omega
    have hfin : Hid (same l l2 = false) := same_ne (by rintro rfl; exact hlen rfl)
    clear hlen ih ha ha2
    go_enter Tryz.func43, Tryz.ntmps43
    go_wp2
    go_ret
    exact ⟨ret_bool hfin.out.symm, Below.refl _ _⟩
  have HL := Lib.hid hlen
  have ho1 : ((l.length : Int) != (l2.length : Int)) = false := by simp; omega
  rw [← hlen] at hl2 ho1 ⊢
  clear hlen
  go_enter Tryz.func43, Tryz.ntmps43
  go_wp2
  go_loopw [16] (fun i wr => ∃ (k : Nat), k ≤ l.length ∧ i = .int .i64 k ∧ Hid (l.take k = l2.take k) ∧ Below w.heap.size w wr) (fun i _ => l.length - (intOf i).toNat)
  case atStart => exact ⟨0, Nat.zero_le _, rfl, by simp [Hid], Below.refl _ _⟩
  case round =>
    obtain ⟨k, hk, rfl, hq, hB⟩ := hrel
    by_cases hlt : k < l.length
    rotate_left
    · have : k = l.length := by omega
      subst this
      have hfin : Hid (same l l2 = true) := by
        have h0 := hq.out
        rw [List.take_length, HL.out, List.take_length] at h0
        subst h0
        exact same_self _
      clear hq ha ha2 ih
      go_wp2
      go_ret
      exact ⟨ret_bool hfin.out.symm, hB⟩
    obtain ⟨b, off, rfl, hFb, hel⟩ := ha (by omega)
    have hlt2 : k < l2.length := by have := HL.out; omega
    obtain ⟨b2, off2, rfl, hFb2, hel2⟩ := ha2 (by omega)
    obtain ⟨kd, n, s, x1, m1, cp1, x2, m2, cp2, x3, m3, cp3, hx, g0, g1, g2, g3, g4, g5⟩ := hel wr (hB.block b (hF b hFb)) k hlt
    obtain ⟨kd', n', s', y1, p1, cq1, y2, p2, cq2, y3, p3, cq3, hy, q0, q1, q2, q3, q4, q5⟩ := hel2 wr (hB.block b2 (hF b2 hFb2)) k hlt2
    clear ha ha2 hel hel2
    have hI := hF.below hB
    have hb1 : b < wr.heap.size := hI b hFb
    have hb2 : b2 < wr.heap.size := hI b2 hFb2
    obtain ⟨ihb, ihe⟩ := ih _ (List.getElem_mem hlt)
    obtain ⟨ek, en, es, _, _, _, hxa, hxb, hxe⟩ := (hx.below hF hB (Nat.le_refl _)).parts
    obtain ⟨fk, fn, fs, _, _, _, hya, hyb, hye⟩ := (hy.below hF hB (Nat.le_refl _)).parts
    obtain ⟨rfl, hal, hac, haa⟩ := hxa.opn
    obtain ⟨rfl, hbl, hbc, hba⟩ := hya.opn
    have hix : (0 : Int) ≤ (k : Int) := by omega
    have hix2 : (k : Int) < (l.length : Int) := by omega
    have hte : l.take (k + 1) = l.take k ++ [l[k]] := List.take_succ_eq_append_getElem hlt
    have hte2 : l2.take (k + 1) = l2.take k ++ [l2[k]] := List.take_succ_eq_append_getElem hlt2
    have HT : Hid (l[k] = l2[k] → l.take (k + 1) = l2.take (k + 1)) := fun h => by rw [hte, hte2, hq.out, h]
    have HN : Hid (l[k] ≠ l2[k] → same l l2 = false) := fun h => same_ne (by rintro rfl; exact h rfl)
    clear ih hx hy hq hte hte2
    by_cases hk1 : kd = kd'
    rotate_left
    · have ho : (kd != kd') = true := by simpa using hk1
      have hfin : Hid (same l l2 = false) := HN.out (fun h => hk1 (by rw [← ek, ← fk, h]))
      clear hk1 ihb ihe hxa hya hxb hyb hxe hye haa hba ek en es fk fn fs HT HN
      go_wp2
      go_ret
      exact ⟨ret_bool hfin.out.symm, (hB.alloc hB.size _).alloc (by simp; have := hB.size; omega) _⟩
    by_cases hn1 : n = n'
    rotate_left
    · have ho0 : (kd != kd') = false := by simpa using hk1
      have ho : (n != n') = true := by simpa using hn1
      have hfin : Hid (same l l2 = false) := HN.out (fun h => hn1 (by rw [← en, ← fn, h]))
      clear hk1 hn1 ihb ihe hxa hya hxb hyb hxe hye haa hba ek en es fk fn fs HT HN
      go_wp2
      go_ret
      exact ⟨ret_bool hfin.out.symm, (hB.alloc hB.size _).alloc (by simp; have := hB.size; omega) _⟩
    by_cases hs1 : s = s'
    rotate_left
    · have ho0 : (kd != kd') = false := by simpa using hk1
      have ho2 : (n != n') = false := by simpa using hn1
      have ho := strne hs1
      have hfin : Hid (same l l2 = false) := HN.out (fun h => hs1 (by rw [← es, ← fs, h]))
      clear hk1 hn1 hs1 ihb ihe hxa hya hxb hyb hxe hye haa hba ek en es fk fn fs HT HN
      go_wp2
      go_ret
      exact ⟨ret_bool hfin.out.symm, (hB.alloc hB.size _).alloc (by simp; have := hB.size; omega) _⟩
    have ho0 : (kd != kd') = false := by simpa using hk1
    have ho2 : (n != n') = false := by simpa using hn1
    have ho4 : (s.toList == s'.toList) = true := by rw [hs1]; exact beq_self_eq_true _
    by_cases hm1 : (l[k]).args.length = (l2[k]).args.length
    rotate_left
    · have ho : (((l[k]).args.length : Int) != ((l2[k]).args.length : Int)) = true := by simp; omega
      have hfin : Hid (same l l2 = false) := HN.out (fun h => hm1 (by rw [h]))
      clear hk1 hn1 hs1 hm1 ihb ihe hxa hya hxb hyb hxe hye haa hba ek en es fk fn fs HT HN
      go_wp2
      go_ret
      exact ⟨ret_bool hfin.out.symm, (hB.alloc hB.size _).alloc (by simp; have := hB.size; omega) _⟩
    have ho5 : (((l[k]).args.length : Int) != ((l2[k]).args.length : Int)) = false := by simp; omega
    have hcb : ∀ o o2, Calls Tryz.prog 43 #[.slice x2 m2 cp2, .slice y2 p2 cq2] ((wr.alloc o).alloc o2) (Gives ((wr.alloc o).alloc o2) (.bool (same (l[k]).body (l2[k]).body))) := fun o o2 =>
      ihb (l2[k]).body F _ _ _ ((hI.alloc _).alloc _) ((hxb.alloc hI _).alloc (hI.alloc _) _) ((hyb.alloc hI _).alloc (hI.alloc _) _)
    have hce : ∀ o o2 w', Below ((wr.alloc o).alloc o2).heap.size ((wr.alloc o).alloc o2) w' → Calls Tryz.prog 43 #[.slice x3 m3 cp3, .slice y3 p3 cq3] w' (Gives w' (.bool (same (l[k]).els (l2[k]).els))) := fun o o2 w' hb =>
      ihe (l2[k]).els F _ _ _ (((hI.alloc _).alloc _).below hb) (((hxe.alloc hI _).alloc (hI.alloc _) _).below ((hI.alloc _).alloc _) hb (Nat.le_refl _)) (((hye.alloc hI _).alloc (hI.alloc _) _).below ((hI.alloc _).alloc _) hb (Nat.le_refl _))
    by_cases hbe : (l[k]).body = (l2[k]).body
    rotate_left
    · rw [same_ne hbe] at hcb
      have hfin : Hid (same l l2 = false) := HN.out (fun h => hbe (by rw [h]))
      have HCb := Lib.hid hcb
      clear hcb hce hk1 hn1 hs1 hm1 hbe ihb ihe hxa hya hxb hyb hxe hye haa hba ek en es fk fn fs HT HN
      go_wp2_with (go_at_call 43; refine (HCb.out _ _).mono ?_; rintro e w' ⟨rfl, hb⟩)
      go_ret
      exact ⟨ret_bool hfin.out.symm, below_on2 hB (Nat.le_refl _) hb⟩
    rw [same_eq hbe] at hcb
    have HCb := Lib.hid hcb
    by_cases hee : (l[k]).els = (l2[k]).els
    rotate_left
    · rw [same_ne hee] at hce
      have hfin : Hid (same l l2 = false) := HN.out (fun h => hee (by rw [h]))
      have HCe := Lib.hid hce
      clear hcb hce hk1 hn1 hs1 hm1 hbe hee ihb ihe hxa hya hxb hyb hxe hye haa hba ek en es fk fn fs HT HN
      go_wp2_with (go_at_call 43; (first | ((with_reducible refine (HCb.out _ _).mono ?_); rintro e w' ⟨rfl, hb⟩; obtain ⟨hcl, hfz⟩ := bcell hb) | ((with_reducible refine (HCe.out _ _ w' hb).mono ?_); rintro e w2 ⟨rfl, hb2⟩; obtain ⟨hcl2, hfz2⟩ := bcell hb2; obtain ⟨hz1, hz2⟩ := two_new hb)))
      go_ret
      exact ⟨ret_bool hfin.out.symm, below_on (below_on2 hB (Nat.le_refl _) hb) (Nat.le_refl _) hb2⟩
    rw [same_eq hee] at hce
    have HCe := Lib.hid hce
    have HM := Lib.hid hm1
    have HX : Hid ((l[k]).args = (l2[k]).args → l[k] = l2[k]) := fun h => St.ext' (by rw [ek, fk, hk1]) (by rw [en, fn, hn1]) (by rw [es, fs, hs1]) h hbe hee
    have HY : Hid ((l[k]).args ≠ (l2[k]).args → l[k] ≠ l2[k]) := fun h h2 => h (by rw [h2])
    clear hcb hce hk1 hn1 hs1 hm1 hbe hee ihb ihe hxb hyb hxe hye ek en es fk fn fs
    obtain ⟨wo, rfl⟩ : ∃ wo : World, wo = wr := ⟨_, rfl⟩
    go_wp2_with (go_at_call 43; (first | ((with_reducible refine (HCb.out _ _).mono ?_); rintro e w' ⟨rfl, hb⟩; obtain ⟨hcl, hfz⟩ := bcell hb) | ((with_reducible refine (HCe.out _ _ w' hb).mono ?_); rintro e w2 ⟨rfl, hb2⟩; obtain ⟨hcl2, hfz2⟩ := bcell hb2; obtain ⟨hz1, hz2⟩ := two_new hb)))
    have hW : Below (wo.heap.size + 2) ((wo.alloc (.cells #[.int .i64 kd, .int .i64 n, .string s, .slice x1 (l[k]).args.length cp1, .slice x2 m2 cp2, .slice x3 m3 cp3] 108)).alloc (.cells #[.int .i64 kd', .int .i64 n', .string s', .slice y1 (l2[k]).args.length cq1, .slice y2 p2 cq2, .slice y3 p3 cq3] 108)) w2 := (hb.mono (by simp)).trans (hb2.mono (by have := hb.size; simp at this; omega))
    have HW := Lib.hid hW
    clear hb hb2 hcl hcl2 hfz hfz2 hz1 hz2 HCb HCe hW g0 g1 g2 g3 g4 g5 q0 q1 q2 q3 q4 q5
    go_loopw [72] (fun i wi => ∃ (j : Nat), j ≤ (l[k]).args.length ∧ i = .int .i64 j ∧ Hid ((l[k]).args.take j = (l2[k]).args.take j) ∧ Below (wo.heap.size + 2) ((wo.alloc (.cells #[.int .i64 kd, .int .i64 n, .string s, .slice x1 (l[k]).args.length cp1, .slice x2 m2 cp2, .slice x3 m3 cp3] 108)).alloc (.cells #[.int .i64 kd', .int .i64 n', .string s', .slice y1 (l2[k]).args.length cq1, .slice y2 p2 cq2, .slice y3 p3 cq3] 108)) wi) (fun i _ => (l[k]).args.length - (intOf i).toNat)
    case atStart => exact ⟨0, Nat.zero_le _, rfl, by simp [Hid], HW.out⟩
    case round =>
      obtain ⟨j, hj, rfl, hqj, hB0⟩ := hrel
      have hBo : Below wo.heap.size wo wr := (((Below.refl _ _).alloc (Nat.le_refl _) _).alloc (by simp) _).trans (hB0.mono (by omega))
      have hbx : wr.cell? ⟨wo.heap.size, 3, none⟩ = some (.slice x1 (l[k]).args.length cp1) := by rw [hB0.cell (by show wo.heap.size < _; omega)]; go_simp
      have hbx2 : wr.cell? ⟨wo.heap.size + 1, 3, none⟩ = some (.slice y1 (l2[k]).args.length cq1) := by rw [hB0.cell (by show wo.heap.size + 1 < _; omega)]; go_simp
      by_cases hltj : j < (l[k]).args.length
      · obtain ⟨c1, of1, rfl, hFc1, hea⟩ := haa (by omega)
        have hltj2 : j < (l2[k]).args.length := by have := HM.out; omega
        obtain ⟨c2, of2, rfl, hFc2, hea2⟩ := hba (by omega)
        obtain ⟨ka, oa, na, sa, aa, ma, cpa, hxj, u0, u1, u2, u3, u4⟩ := hea wr (hBo.block c1 (hI c1 hFc1)) j hltj
        obtain ⟨kb, ob, nb, sb, ab, mb, cpb, hyj, v0, v1, v2, v3, v4⟩ := hea2 wr (hBo.block c2 (hI c2 hFc2)) j hltj2
        clear haa hba hea hea2
        have hI2 := hI.below hBo
        have hcall : ∀ (p : Regrown), Calls Tryz.prog 116 #[.agg #[.int .i64 ka, .int .i64 oa, .int .i64 na, .string sa, .slice aa ma cpa], .agg #[.int .i64 kb, .int .i64 ob, .int .i64 nb, .string sb, .slice ab mb cpb]] (grow (redrawn wr p.d) p.os) fun e w'' => e = .returned (.bool (same (l[k]).args[j] (l2[k]).args[j])) ∧ ∃ p : Regrown, w'' = grow (redrawn wr p.d) p.os :=
          fun p => regrown_gives (fun w' hb => sameT_calls (l[k]).args[j] (l2[k]).args[j] F w' _ _ (hI2.below hb) ((hxj.below hI hBo (Nat.le_refl _)).below hI2 hb (Nat.le_refl _)) ((hyj.below hI hBo (Nat.le_refl _)).below hI2 hb (Nat.le_refl _))) p
        have r0 := fun d os => cell_regrown hbx d os
        have r1 := fun d os => cell_regrown hbx2 d os
        have r2 := fun d os => cell_regrown u0 d os
        have r3 := fun d os => cell_regrown u1 d os
        have r4 := fun d os => cell_regrown u2 d os
        have r5 := fun d os => cell_regrown u3 d os
        have r6 := fun d os => cell_regrown u4 d os
        have r7 := fun d os => cell_regrown v0 d os
        have r8 := fun d os => cell_regrown v1 d os
        have r9 := fun d os => cell_regrown v2 d os
        have r10 := fun d os => cell_regrown v3 d os
        have r11 := fun d os => cell_regrown v4 d os
        have hjx : (0 : Int) ≤ (j : Int) := by omega
        have hjx2 : (j : Int) < ((l[k]).args.length : Int) := by omega
        have hjx3 : (j : Int) < ((l2[k]).args.length : Int) := by omega
        have hte : (l[k]).args.take (j + 1) = (l[k]).args.take j ++ [(l[k]).args[j]] := List.take_succ_eq_append_getElem hltj
        have hte2 : (l2[k]).args.take (j + 1) = (l2[k]).args.take j ++ [(l2[k]).args[j]] := List.take_succ_eq_append_getElem hltj2
        have HB : Hid (Below w.heap.size w wr) := bt hB hBo
        by_cases heq : (l[k]).args[j] = (l2[k]).args[j]
        · rw [same_eq heq] at hcall
          have hnx : Hid ((l[k]).args.take (j + 1) = (l2[k]).args.take (j + 1)) := by show (l[k]).args.take (j + 1) = _; rw [hte, hte2, hqj.out, heq]
          have HC := Lib.hid hcall
          have HB0 := Lib.hid hB0
          clear hcall hxj hyj hte hte2 heq hqj hbx hbx2 u0 u1 u2 u3 u4 v0 v1 v2 v3 v4 hB0 hB hBo
          go_wp2
          refine wp_region_quiet_below (by kernel_rfl) (by kernel_rfl) ?_
          repeat (go_big_quiet_step (with_reducible exact HC.out _))
          refine wpQuiet_nil ?_
          intro w' hw'
          have hb := below_of_regrown hw'
          clear hw' HC r0 r1 r2 r3 r4 r5 r6 r7 r8 r9 r10 r11
          go_wp2
          go_roundw
          case rel => exact ⟨j + 1, by omega, by go_num, hnx, below_on HB0.out (by simp) hb⟩
          case measure => simp [intOf]; omega
        · rw [same_ne heq] at hcall
          have hfin : Hid (same l l2 = false) := HN.out (HY.out (fun h => heq (by simp only [h])))
          have HC := Lib.hid hcall
          clear hcall hxj hyj hte hte2 heq hqj hbx hbx2 u0 u1 u2 u3 u4 v0 v1 v2 v3 v4 hB hBo
          go_wp2
          refine wp_region_quiet_below (by kernel_rfl) (by kernel_rfl) ?_
          repeat (go_big_quiet_step (with_reducible exact HC.out _))
          refine wpQuiet_nil ?_
          intro w' hw'
          have hb := below_of_regrown hw'
          clear hw' HC r0 r1 r2 r3 r4 r5 r6 r7 r8 r9 r10 r11
          go_wp2
          go_ret
          exact ⟨ret_bool hfin.out.symm, below_on HB.out (Nat.le_refl _) hb⟩
      · have : j = (l[k]).args.length := by omega
        subst this
        have hnx : Hid (l.take (k + 1) = l2.take (k + 1)) := HT.out (HX.out (by
          have h0 := hqj.out
          rw [List.take_length, HM.out, List.take_length] at h0
          exact h0))
        clear hqj haa hba hbx hbx2
        go_wp2
        go_roundw
        case rel => exact ⟨k + 1, by omega, by go_num, hnx, bt hB hBo⟩
        case measure => simp [intOf]; omega
end Go.Proofs.YtmabeegoapcfpaaGreatDoor
