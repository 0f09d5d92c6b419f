/- The walk of clewref12.PrintBlock, by what clewref12.Print makes of each statement. Printed by gen-tt3.py. -/
import Derived.Test.YtnbfadgclffgkaaGreatDoorTtL
namespace Go.Proofs.YtnbfadgclffgkaaGreatDoor
open Go.RowKit Go.Sort
theorem clip_castR (D : Int) : (clip D : Int) = min (max D 0) 64 := by unfold clip; omega
def PrSC (s : St) : Prop := ∀ (F : Nat → Prop) (w : World) (cs : List Value) (D : Int), Inn F w → StOk s → (s.pr (clip D)).size ≤ 1000000000000 → RdSt F w s cs →
    Calls Tryz.prog 9 #[.agg cs.toArray, .int .i64 D] w (Gives w (.string (s.pr (clip D))))
def BlkSC (l : List St) : Prop := ∀ (F : Nat → Prop) (w : World) (v : Value) (D : Int), Inn F w → (∀ s ∈ l, StOk s) → (St.blk l (clip D)).size ≤ 1000000000000 → Sts F w l v →
    Calls Tryz.prog 11 #[v, .int .i64 D] w (Gives w (.string (St.blk l (clip D))))
set_option maxRecDepth 100000 in
set_option maxHeartbeats 8000000 in
theorem blkPR_calls (l : List St) (h : ∀ s ∈ l, PrSC s) : BlkSC l := by
  intro F w v D hF hs hsz hr
  obtain ⟨a, cap, rfl⟩ := hr.shape
  obtain ⟨-, hlc, hc, ha⟩ := hr.opn
  have hd := clip_le D
  have hcast := clip_castR D
  obtain ⟨d, hdd⟩ : ∃ d, clip D = d := ⟨_, rfl⟩
  rw [hdd] at hsz hcast hd ⊢
  obtain ⟨ls, hls⟩ : ∃ ls, St.lns l (dn d) = ls := ⟨_, rfl⟩
  have hll : ls.length = l.length := by rw [← hls, St.lns_eq]; simp
  have hli : ∀ i (hi : i < l.length), l[i].ln (dn d) = ls[i]'(by rw [hll]; exact hi) := fun i hi => by
    have h1 : ls[i]? = some (l[i].ln (dn d)) := by rw [← hls, St.lns_eq, List.getElem?_map, List.getElem?_eq_getElem hi]; rfl
    rw [List.getElem?_eq_getElem (by rw [hll]; exact hi)] at h1
    exact (Option.some.inj h1).symm
  have hblk : St.blk l d = ⟨#[123, 10]⟩ ++ linesB (dn d) ls ++ tabsB d ++ ⟨#[125]⟩ := by rw [← hls]; rfl
  obtain ⟨r, hr2⟩ : ∃ r, St.blk l d = r := ⟨_, rfl⟩
  rw [hr2] at hblk hsz ⊢
  have hz := hsz
  rw [hblk] at hz
  simp only [ByteArray.size_append, tabsB_size] at hz
  have HT := Lib.hid (fun W => by exact tabsR_calls d hd W)
  have HSZ : Hid (∀ k : Nat, (⟨#[123, 10]⟩ ++ linesB (dn d) (ls.take k) : ByteArray).size ≤ 1000000000000) := Lib.hid fun k => by
    have h2 := linesB_take_le (dn d) ls k
    simp only [ByteArray.size_append]
    have e : (⟨#[123, 10]⟩ : ByteArray).size = 2 := rfl
    have e2 : (⟨#[125]⟩ : ByteArray).size = 1 := rfl
    omega
  have HP : Hid (∀ (i : Nat) (hi : i < l.length) (cs : List Value), RdSt F w l[i] cs → ∀ W, Below w.heap.size w W → Calls Tryz.prog 9 #[.agg cs.toArray, .int .i64 ((d : Int) + 1)] W (Gives W (.string (tabsB (dn d) ++ ls[i]'(by rw [hll]; exact hi) ++ ⟨#[10]⟩)))) := Lib.hid fun i hi cs hcs W hW => by
    have hstep : linesB (dn d) (ls.take (i + 1)) = linesB (dn d) (ls.take i) ++ (tabsB (dn d) ++ ls[i]'(by rw [hll]; exact hi) ++ ⟨#[10]⟩) := by
      rw [List.take_succ_eq_append_getElem (by rw [hll]; exact hi), linesB_snoc]
    have h3 := HSZ.out (i + 1)
    rw [hstep] at h3
    have h4 := h l[i] (List.getElem_mem hi) F W cs ((d : Int) + 1) (hF.below hW) (hs _ (List.getElem_mem hi)) (by
      rw [clip_dn]; unfold St.pr; rw [hli i hi]; simp only [ByteArray.size_append] at h3 ⊢; omega) (hcs.below hF hW (Nat.le_refl _))
    rw [clip_dn] at h4
    unfold St.pr at h4
    rw [hli i hi] at h4
    exact h4
  have HXL := Lib.hid hll
  have HA := Lib.hid ha
  have HF := Lib.hid hF
  have HR := Lib.hid hblk
  have HC := Lib.hid hcast
  have hd1 : (d : Int) ≤ 64 := by omega
  clear hr ha hF hs hsz hblk hcast h hli hls hz hr2 hdd hd
  go_enter Tryz.func11, Tryz.ntmps11
  go_upto_region 1 with fail
  go_cut [1] (fun v wc => v = .int .i64 (d : Int) ∧ w = wc)
  case first =>
    go_wp2_with fail
    go_meet
    case rel => exact ⟨by rw [HC.out], rfl⟩
  case rest =>
    obtain ⟨rfl, rfl⟩ := hcut
    go_wp2_with fail
    go_loopw [5, 6] (fun v i wr => ∃ k : Nat, k ≤ l.length ∧ i = .int .i64 k ∧ Hid (∃ A, v = .string A ∧ A = ⟨#[123, 10]⟩ ++ linesB (dn d) (ls.take k)) ∧ Below w.heap.size w wr) (fun _ i _ => l.length - (intOf i).toNat)
    case atStart => exact ⟨0, Nat.zero_le _, rfl, Lib.hid ⟨_, rfl, by simp [linesB, app_emp]⟩, Below.refl _ _⟩
    case round =>
      obtain ⟨k, hk, rfl, hA0, hB⟩ := hrel
      obtain ⟨A, rfl, hA⟩ := hA0.out
      have HAA := Lib.hid hA
      have HB := Lib.hid hB
      clear hA hA0
      by_cases hlt : k < l.length
      · have h1 : (k : Int) < (l.length : Int) := by omega
        have hlk : k < ls.length := by rw [HXL.out]; exact hlt
        have hstep : linesB (dn d) (ls.take (k + 1)) = linesB (dn d) (ls.take k) ++ (tabsB (dn d) ++ ls[k] ++ ⟨#[10]⟩) := by
          rw [List.take_succ_eq_append_getElem hlk, linesB_snoc]
        have hnx : A ++ (tabsB (dn d) ++ ls[k] ++ ⟨#[10]⟩) = ⟨#[123, 10]⟩ ++ linesB (dn d) (ls.take (k + 1)) := by rw [HAA.out, hstep, ByteArray.append_assoc]
        have hz := HSZ.out (k + 1)
        rw [← hnx] at hz
        obtain ⟨b, off, rfl, hFb, hel⟩ := HA.out (by omega)
        obtain ⟨kd, n0, s0, a0, m0, cap0, a2, m2, cap2, a3, m3, cap3, hx0, g0, g1, g2, g3, g4, g5⟩ := hel wr (hB.block b (HF.out b hFb)) k hlt
        have hc := HP.out k hlt _ hx0
        obtain ⟨x, hx⟩ : ∃ x, tabsB (dn d) ++ ls[k] ++ ⟨#[10]⟩ = x := ⟨_, rfl⟩
        rw [hx] at hz hnx
        simp only [hx] at hc
        simp only [ByteArray.size_append] at hz
        have hbw : b < wr.heap.size := Nat.lt_of_lt_of_le (HF.out b hFb) hB.size
        have HC2 := Lib.hid (hc wr hB)
        have HN := Lib.hid hnx
        have HBQ := Lib.hid hB
        clear hc hel hx0 hx hFb hnx hstep HAA hB hlk
        go_wp2_with (go_at_call 9; (with_reducible refine (HC2.out).mono ?_); rintro e w1 ⟨rfl, hb⟩)
        go_roundw
        case rel => exact ⟨k + 1, by omega, by go_num, Lib.hid ⟨_, rfl, HN.out⟩, bt HBQ.out hb⟩
        case measure => simp [intOf]; omega
      · have h1 : ¬ (k : Int) < (l.length : Int) := by omega
        have hAz : A.size ≤ 1000000000000 := by rw [HAA.out]; exact HSZ.out k
        have hkl : ls.take k = ls := List.take_of_length_le (by rw [HXL.out]; omega)
        obtain ⟨x, hx⟩ : ∃ x, tabsB d = x := ⟨_, rfl⟩
        have hxz : x.size ≤ 64 := by rw [← hx, tabsB_size]; omega
        have hfin : Hid (A ++ x ++ ⟨#[125]⟩ = r) := Lib.hid (by rw [HAA.out, hkl, ← hx, HR.out])
        have HT2 : Hid (∀ W, Calls Tryz.prog 23 #[.int .i64 (d : Int)] W (Gives W (.string x))) := Lib.hid fun W => by rw [← hx]; exact HT.out W
        clear HAA hkl hx hB
        go_wp2_with (go_at_call 23; (with_reducible refine (HT2.out _).mono ?_); rintro e w1 ⟨rfl, hb⟩)
        go_ret
        exact ⟨ret_str hfin.out, bt HB.out hb⟩
end Go.Proofs.YtnbfadgclffgkaaGreatDoor
