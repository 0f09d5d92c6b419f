/- The walk of clewref10.SameBlock. -/
import Derived.Test.YtmabeegoapcfpaaGreatDoorQPart92d78415
import Derived.Test.YtmabeegoapcfpaaGreatDoorQPartbeb392f2
import Derived.Deep.DeepCutAuto
namespace Go.Proofs.YtmabeegoapcfpaaGreatDoor
open Go.RowKit Go.Sort
theorem bx_new1 (w : World) (cs : List Value) (t : TypeId) (o : Obj) : Bx ((w.alloc (.cells cs.toArray t)).alloc o).drew w.heap.size cs :=
  bx_of_heap (t := t) (fr := (0, 0)) (by show ((w.heap.push _).push _)[w.heap.size]? = _; rw [Array.getElem?_push, if_neg (by simp), Array.getElem?_push, if_pos rfl])
theorem bx_new2 (w : World) (o : Obj) (cs : List Value) (t : TypeId) : Bx ((w.alloc o).alloc (.cells cs.toArray t)).drew (w.heap.size + 1) cs :=
  bx_of_heap (t := t) (fr := (0, 0)) (by show ((w.heap.push _).push _)[w.heap.size + 1]? = _; rw [Array.getElem?_push, if_pos (by simp)])
theorem new_lt1 (w : World) (o o2 : Obj) : w.heap.size < ((w.alloc o).alloc o2).drew.heap.size := by show _ < ((w.heap.push _).push _).size; simp; omega
theorem new_lt2 (w : World) (o o2 : Obj) : w.heap.size + 1 < ((w.alloc o).alloc o2).drew.heap.size := by show _ < ((w.heap.push _).push _).size; simp
def SameBRC (l l2 : List St) : Prop := ∀ (F : Nat → Prop) (w : World) (v v2 : Value), Inn F w → Sts F w l v → Sts F w l2 v2 →
    Calls Tryz.prog 59 #[v, v2] w (Gives w (.bool (same l l2)))
set_option maxRecDepth 100000 in
set_option maxHeartbeats 2000000 in
theorem sameBR_calls : ∀ l : List St, ∀ l2, SameBRC l l2 := by
  refine blocks_ind fun l ih => ?_
  intro l2 F w v v2 hF hr hr2
  obtain ⟨a, cap, rfl⟩ := hr.shape
  obtain ⟨_, hl, hc, ha⟩ := hr.opn
  obtain ⟨a2, cap2, rfl⟩ := hr2.shape
  obtain ⟨_, hl2, hc2, ha2⟩ := hr2.opn
  clear hr hr2
  by_cases hlen : l.length = l2.length
  rotate_left
  · have ho1 : ((l.length : Int) != (l2.length : Int)) = true := by simp; omega
    have hfin : Hid (same l l2 = false) := same_ne (by rintro rfl; exact hlen rfl)
    clear hlen ih ha ha2
    go_enter Tryz.func59, Tryz.ntmps59
    go_wp2
    go_ret
    exact ⟨ret_bool hfin.out.symm, Below.refl _ _⟩
  have HL := Lib.hid hlen
  have ho1 : ((l.length : Int) != (l2.length : Int)) = false := by simp; omega
  rw [← hlen] at hl2 ho1 ⊢
  clear hlen
  go_enter Tryz.func59, Tryz.ntmps59
  go_wp2
  go_loopw [5] (fun i wr => ∃ (k : Nat), k ≤ l.length ∧ i = .int .i64 k ∧ Hid (l.take k = l2.take k) ∧ Below w.heap.size w wr) (fun i _ => l.length - (intOf i).toNat)
  case atStart => exact ⟨0, Nat.zero_le _, rfl, by simp [Hid], Below.refl _ _⟩
  case round =>
    obtain ⟨k, hk, rfl, hq, hB⟩ := hrel
    by_cases hlt : k < l.length
    rotate_left
    · have : k = l.length := by omega
      subst this
      have hfin : Hid (same l l2 = true) := by
        have h0 := hq.out
        rw [List.take_length, HL.out, List.take_length] at h0
        subst h0
        exact same_self _
      clear hq ha ha2 ih
      go_wp2
      go_ret
      exact ⟨ret_bool hfin.out.symm, hB⟩
    obtain ⟨b, off, rfl, hFb, hel⟩ := ha (by omega)
    have hlt2 : k < l2.length := by have := HL.out; omega
    obtain ⟨b2, off2, rfl, hFb2, hel2⟩ := ha2 (by omega)
    obtain ⟨kd, n, s, x1, m1, cp1, x2, m2, cp2, x3, m3, cp3, hx, g0, g1, g2, g3, g4, g5⟩ := hel wr (hB.block b (hF b hFb)) k hlt
    obtain ⟨kd', n', s', y1, p1, cq1, y2, p2, cq2, y3, p3, cq3, hy, q0, q1, q2, q3, q4, q5⟩ := hel2 wr (hB.block b2 (hF b2 hFb2)) k hlt2
    clear ha ha2 hel hel2
    have hI := hF.below hB
    have hb1 : b < wr.heap.size := hI b hFb
    have hb2 : b2 < wr.heap.size := hI b2 hFb2
    obtain ⟨ihb, ihe⟩ := ih _ (List.getElem_mem hlt)
    obtain ⟨ek, en, es, _, _, _, hxa, hxb, hxe⟩ := (hx.below hF hB (Nat.le_refl _)).parts
    obtain ⟨fk, fn, fs, _, _, _, hya, hyb, hye⟩ := (hy.below hF hB (Nat.le_refl _)).parts
    obtain ⟨rfl, hal, hac, haa⟩ := hxa.opn
    obtain ⟨rfl, hbl, hbc, hba⟩ := hya.opn
    have hix : (0 : Int) ≤ (k : Int) := by omega
    have hix2 : (k : Int) < (l.length : Int) := by omega
    have hte : l.take (k + 1) = l.take k ++ [l[k]] := List.take_succ_eq_append_getElem hlt
    have hte2 : l2.take (k + 1) = l2.take k ++ [l2[k]] := List.take_succ_eq_append_getElem hlt2
    have HT : Hid (l[k] = l2[k] → l.take (k + 1) = l2.take (k + 1)) := fun h => by rw [hte, hte2, hq.out, h]
    have HN : Hid (l[k] ≠ l2[k] → same l l2 = false) := fun h => same_ne (by rintro rfl; exact h rfl)
    clear ih hx hy hq hte hte2
    go_wp2
    go_cut [6, 7] (fun p q w2 => ∃ b1 b2, p = .pointer (some ⟨b1, 0, none⟩) ∧ q = .pointer (some ⟨b2, 0, none⟩) ∧ Below wr.heap.size wr w2 ∧ b1 < w2.heap.size ∧ b2 < w2.heap.size ∧
      Bx w2 b1 [.int .i64 kd, .int .i64 n, .string s, .slice x1 (l[k]).args.length cp1, .slice x2 m2 cp2, .slice x3 m3 cp3] ∧ Bx w2 b2 [.int .i64 kd', .int .i64 n', .string s', .slice y1 (l2[k]).args.length cq1, .slice y2 p2 cq2, .slice y3 p3 cq3])
    case first =>
      go_region
      all_goals
        go_wp2_with fail
        go_meet
        case rel => exact ⟨_, _, rfl, rfl, (((Below.refl _ _).alloc (Nat.le_refl _) _).alloc (by simp) _).drew, by first | exact new_lt1 _ _ _ | exact new_lt2 _ _ _, by first | exact new_lt1 _ _ _ | exact new_lt2 _ _ _, by first | exact bx_new1 _ _ _ _ | exact bx_new2 _ _ _ _, by first | exact bx_new1 _ _ _ _ | exact bx_new2 _ _ _ _⟩
    case rest =>
      obtain ⟨c1, c2, rfl, rfl, hBc, hz1, hz2, hbx, hby⟩ := hcut
      have u0 : wc.cell? ⟨c1, 0, none⟩ = some (.int .i64 kd) := hbx 0 (by simp)
      have u1 : wc.cell? ⟨c1, 1, none⟩ = some (.int .i64 n) := hbx 1 (by simp)
      have u2 : wc.cell? ⟨c1, 2, none⟩ = some (.string s) := hbx 2 (by simp)
      have u3 : wc.cell? ⟨c1, 3, none⟩ = some (.slice x1 (l[k]).args.length cp1) := hbx 3 (by simp)
      have u4 : wc.cell? ⟨c1, 4, none⟩ = some (.slice x2 m2 cp2) := hbx 4 (by simp)
      have u5 : wc.cell? ⟨c1, 5, none⟩ = some (.slice x3 m3 cp3) := hbx 5 (by simp)
      have v0 : wc.cell? ⟨c2, 0, none⟩ = some (.int .i64 kd') := hby 0 (by simp)
      have v1 : wc.cell? ⟨c2, 1, none⟩ = some (.int .i64 n') := hby 1 (by simp)
      have v2 : wc.cell? ⟨c2, 2, none⟩ = some (.string s') := hby 2 (by simp)
      have v3 : wc.cell? ⟨c2, 3, none⟩ = some (.slice y1 (l2[k]).args.length cq1) := hby 3 (by simp)
      have v4 : wc.cell? ⟨c2, 4, none⟩ = some (.slice y2 p2 cq2) := hby 4 (by simp)
      have v5 : wc.cell? ⟨c2, 5, none⟩ = some (.slice y3 p3 cq3) := hby 5 (by simp)
      have hBw : Below w.heap.size w wc := below_on hB (Nat.le_refl _) hBc
      have hIc := hI.below hBc
      have hxa' := hxa.below hI hBc (Nat.le_refl _)
      have hya' := hya.below hI hBc (Nat.le_refl _)
      have hxb' := hxb.below hI hBc (Nat.le_refl _)
      have hyb' := hyb.below hI hBc (Nat.le_refl _)
      have hxe' := hxe.below hI hBc (Nat.le_refl _)
      have hye' := hye.below hI hBc (Nat.le_refl _)
      clear hbx hby g0 g1 g2 g3 g4 g5 q0 q1 q2 q3 q4 q5 hxa hya hxb hyb hxe hye haa hba hBc
      by_cases hk1 : kd = kd'
      rotate_left
      · have ho : (kd != kd') = true := by simpa using hk1
        have hfin : Hid (same l l2 = false) := HN.out (fun h => hk1 (by rw [← ek, ← fk, h]))
        clear hk1 ihb ihe hxa' hya' hxb' hyb' hxe' hye' ek en es fk fn fs HT HN
        go_wp2
        go_ret
        exact ⟨ret_bool hfin.out.symm, hBw⟩
      have ho0 : (kd != kd') = false := by simpa using hk1
      by_cases hn1 : n = n'
      rotate_left
      · have ho : (n != n') = true := by simpa using hn1
        have hfin : Hid (same l l2 = false) := HN.out (fun h => hn1 (by rw [← en, ← fn, h]))
        clear hk1 hn1 ihb ihe hxa' hya' hxb' hyb' hxe' hye' ek en es fk fn fs HT HN
        go_wp2
        go_ret
        exact ⟨ret_bool hfin.out.symm, hBw⟩
      have ho2 : (n != n') = false := by simpa using hn1
      by_cases hs1 : s = s'
      rotate_left
      · have ho := strne hs1
        have hfin : Hid (same l l2 = false) := HN.out (fun h => hs1 (by rw [← es, ← fs, h]))
        clear hk1 hn1 hs1 ihb ihe hxa' hya' hxb' hyb' hxe' hye' ek en es fk fn fs HT HN
        go_wp2
        go_ret
        exact ⟨ret_bool hfin.out.symm, hBw⟩
      have ho4 : (s.toList == s'.toList) = true := by rw [hs1]; exact beq_self_eq_true _
      have hca : Calls Tryz.prog 124 #[.slice x1 (l[k]).args.length cp1, .slice y1 (l2[k]).args.length cq1] wc (Gives wc (.bool (same (l[k]).args (l2[k]).args))) :=
        sameArgs_calls _ _ F wc _ _ hIc hxa' hya'
      have hcb : ∀ w', Below wc.heap.size wc w' → Calls Tryz.prog 59 #[.slice x2 m2 cp2, .slice y2 p2 cq2] w' (Gives w' (.bool (same (l[k]).body (l2[k]).body))) := fun w' hb =>
        ihb (l2[k]).body F _ _ _ (hIc.below hb) (hxb'.below hIc hb (Nat.le_refl _)) (hyb'.below hIc hb (Nat.le_refl _))
      have hce : ∀ w', Below wc.heap.size wc w' → Calls Tryz.prog 59 #[.slice x3 m3 cp3, .slice y3 p3 cq3] w' (Gives w' (.bool (same (l[k]).els (l2[k]).els))) := fun w' hb =>
        ihe (l2[k]).els F _ _ _ (hIc.below hb) (hxe'.below hIc hb (Nat.le_refl _)) (hye'.below hIc hb (Nat.le_refl _))
      by_cases hae : (l[k]).args = (l2[k]).args
      rotate_left
      · rw [same_ne hae] at hca
        have hfin : Hid (same l l2 = false) := HN.out (fun h => hae (by rw [h]))
        have HCa := Lib.hid hca
        clear hca hcb hce hk1 hn1 hs1 hae ihb ihe hxa' hya' hxb' hyb' hxe' hye' ek en es fk fn fs HT HN
        go_wp2_with (go_at_call 124; refine (HCa.out).mono ?_; rintro e w' ⟨rfl, hb⟩)
        go_ret
        exact ⟨ret_bool hfin.out.symm, below_on hBw (Nat.le_refl _) hb⟩
      rw [same_eq hae] at hca
      have HCa := Lib.hid hca
      by_cases hbe : (l[k]).body = (l2[k]).body
      rotate_left
      · rw [same_ne hbe] at hcb
        have hfin : Hid (same l l2 = false) := HN.out (fun h => hbe (by rw [h]))
        have HCb := Lib.hid hcb
        clear hca hcb hce hk1 hn1 hs1 hae hbe ihb ihe hxa' hya' hxb' hyb' hxe' hye' ek en es fk fn fs HT HN
        go_wp2_with (first | (go_at_call 124; refine (HCa.out).mono ?_; rintro e w' ⟨rfl, hb⟩; obtain ⟨hcl, hfz⟩ := bcell hb) | (go_at_call 59; refine (HCb.out _ hb).mono ?_; rintro e w2 ⟨rfl, hb2⟩))
        go_ret
        exact ⟨ret_bool hfin.out.symm, below_on (below_on hBw (Nat.le_refl _) hb) (Nat.le_refl _) hb2⟩
      rw [same_eq hbe] at hcb
      have HCb := Lib.hid hcb
      have hsq : same (l[k]).els (l2[k]).els = true ∨ same (l[k]).els (l2[k]).els = false := by cases same (l[k]).els (l2[k]).els <;> simp
      rcases hsq with hsq | hsq
      all_goals
        rw [hsq] at hce
        have HCe := Lib.hid hce
        clear hce
      · have hnx : Hid (l.take (k + 1) = l2.take (k + 1)) := HT.out (St.ext' (by rw [ek, fk, hk1]) (by rw [en, fn, hn1]) (by rw [es, fs, hs1]) hae hbe (same_iff.1 hsq))
        clear hca hcb hk1 hn1 hs1 hae hbe ihb ihe hxa' hya' hxb' hyb' hxe' hye' ek en es fk fn fs HT HN hsq
        go_wp2_with (first | (go_at_call 124; refine (HCa.out).mono ?_; rintro e w' ⟨rfl, hb⟩; obtain ⟨hcl, hfz⟩ := bcell hb) | (go_at_call 59; (first | ((with_reducible refine (HCb.out _ hb).mono ?_); rintro e w2 ⟨rfl, hb2⟩; obtain ⟨hcl2, hfz2⟩ := bcell hb2; have hz3 := Nat.lt_of_lt_of_le hz1 hb.size; have hz4 := Nat.lt_of_lt_of_le hz2 hb.size) | ((with_reducible refine (HCe.out _ (below_on hb (Nat.le_refl _) hb2)).mono ?_); rintro e w3 ⟨rfl, hb3⟩))))
        go_roundw
        case rel => exact ⟨k + 1, by omega, by go_num, hnx, below_on (below_on (below_on hBw (Nat.le_refl _) hb) (Nat.le_refl _) hb2) (Nat.le_refl _) hb3⟩
        case measure => simp [intOf]; omega
      · have hfin : Hid (same l l2 = false) := HN.out (fun h => by rw [h, same_self] at hsq; cases hsq)
        clear hca hcb hk1 hn1 hs1 hae hbe ihb ihe hxa' hya' hxb' hyb' hxe' hye' ek en es fk fn fs HT HN hsq
        go_wp2_with (first | (go_at_call 124; refine (HCa.out).mono ?_; rintro e w' ⟨rfl, hb⟩; obtain ⟨hcl, hfz⟩ := bcell hb) | (go_at_call 59; (first | ((with_reducible refine (HCb.out _ hb).mono ?_); rintro e w2 ⟨rfl, hb2⟩; obtain ⟨hcl2, hfz2⟩ := bcell hb2; have hz3 := Nat.lt_of_lt_of_le hz1 hb.size; have hz4 := Nat.lt_of_lt_of_le hz2 hb.size) | ((with_reducible refine (HCe.out _ (below_on hb (Nat.le_refl _) hb2)).mono ?_); rintro e w3 ⟨rfl, hb3⟩))))
        go_ret
        exact ⟨ret_bool hfin.out.symm, below_on (below_on (below_on hBw (Nat.le_refl _) hb) (Nat.le_refl _) hb2) (Nat.le_refl _) hb3⟩
end Go.Proofs.YtmabeegoapcfpaaGreatDoor
