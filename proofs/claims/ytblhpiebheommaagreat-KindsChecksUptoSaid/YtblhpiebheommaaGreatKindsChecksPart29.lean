/- The walks of clewref16's fault, line, verb. Printed by gen-refd.py. -/
import Derived.Test.YtblhpiebheommaaGreatRefC
import Derived.Test.YtblhpiebheommaaGreatKindsChecksPart28
import Derived.Test.YtblhpiebheommaaGreatKindsChecksPart8
namespace Go.Proofs.YtblhpiebheommaaGreat
open Go.RowKit

set_option maxRecDepth 100000 in
set_option maxHeartbeats 1000000 in
theorem fault_calls (p : Int × ByteArray) (a b : Int) (w : World) :
    Calls Tryz.prog 26 #[wrongR p, .int .i64 a, .int .i64 b] w (Gives w (.agg #[.int .i64 p.1, .int .i64 a, .int .i64 b, .string p.2])) := by
  obtain ⟨e, n⟩ := p
  unfold wrongR
  go_enter Tryz.func26, Tryz.ntmps26
  go_wp2
  exact bodyPost_ret (v := .agg #[.int .i64 e, .int .i64 a, .int .i64 b, .string n]) (by simp [results, Tryz.results26, go_sem]; try rfl) rfl ⟨rfl, ((Below.refl _ w).alloc (Nat.le_refl _) _).alloc (by simp) _⟩

/-- How often slots of the kinds have been met. -/
def CntsAre (ks : List Int) (a b c : Nat) : Prop := (a : Int) = cnt 2 ks + cnt 3 ks ∧ (b : Int) = cnt 4 ks ∧ (c : Int) = cnt 5 ks
theorem cnts_step {ks : List Int} {a b c : Nat} (kd : Int) (h : CntsAre ks a b c) : CntsAre (ks ++ [kd]) (a + if kd = 2 ∨ kd = 3 then 1 else 0) (b + if kd = 4 then 1 else 0) (c + if kd = 5 then 1 else 0) := by
  obtain ⟨h1, h2, h3⟩ := h
  unfold CntsAre
  rw [cnt_snoc, cnt_snoc, cnt_snoc, cnt_snoc]
  refine ⟨?_, ?_, ?_⟩
  · by_cases e2 : kd = 2
    · subst e2; simp; omega
    · by_cases e3 : kd = 3
      · subst e3; simp; omega
      · simp [e2, e3]; omega
  · by_cases e : kd = 4 <;> simp [e] <;> omega
  · by_cases e : kd = 5 <;> simp [e] <;> omega

set_option maxRecDepth 100000 in
set_option maxHeartbeats 8000000 in
theorem lineR_calls (name : ByteArray) (l : List SlotD) (F : Nat → Prop) (w : World) (lv : Value) (hF : Inn F w) (hr : RdL Holds.slot 2 F w l lv) :
    Calls Tryz.prog 56 #[.string name, lv] w (Gives w (wrongR (lineW name l))) := by
  have HWD := Lib.hid (fun (l : List ByteArray) (lv : Value) (hr : RdStrs F w l lv) W (hW : Below w.heap.size w W) => wordsR_calls l F W lv (hF.below hW) (RdL.below hr hF hW (Nat.le_refl _)))
  have HFI := Lib.hid fineR_calls
  obtain ⟨a, cap, rfl, hl, hc, ha⟩ := hr.opn
  unfold maxLen at hc
  have HF := Lib.hid hF
  obtain ⟨q, hq⟩ : ∃ q, lineW name l = q := ⟨_, rfl⟩
  rw [hq]
  have HQ := Lib.hid hq
  have hA : Hid (∃ W0, w.alloc (.cells #[.int .i64 0, .string ⟨#[]⟩] 79) = W0 ∧ Below w.heap.size w W0 ∧ WrAt W0 w.heap.size (0, ⟨#[]⟩) ∧ w.heap.size < W0.heap.size) := ⟨_, rfl, (Below.refl _ w).alloc (Nat.le_refl _) _, wr_new _ _ _ _, by simp⟩
  by_cases h0 : l = []
  · have hfin : Hid (q = (2, name)) := by show _ = _; rw [← HQ.out]; unfold lineW; rw [dec_true (.inl h0), if_pos rfl]
    have hl0 : ((l.length : Int) == 0) = true := by rw [h0]; rfl
    clear hr hq hF ha h0
    go_enter Tryz.func56, Tryz.ntmps56
    go_upto_region 1 with fail
    obtain ⟨W0, hW0, hB0, hwr0, hz0⟩ := hA.out
    rw [hW0]
    have HB0 := Lib.hid hB0
    have hE : Hid (∀ W, Below W0.heap.size W0 W → WrAt W w.heap.size (0, ⟨#[]⟩) ∧ Below w.heap.size w W) := fun W hW => ⟨wr_kept hwr0 hz0 hW, hB0.trans (hW.mono hB0.size)⟩
    clear hA hW0 hB0 hz0 hwr0
    obtain ⟨⟨⟨f0, f1⟩, z0, z1⟩, hbt⟩ := hE.out W0 (Below.refl _ _)
    have HBT := Lib.hid hbt
    clear hbt
    go_wp2_with fail
    exact bodyPost_ret (v := wrongR (2, name)) (by simp [results, Tryz.results56, go_sem, wrongR, f0, f1]; try rfl) rfl ⟨by rw [hfin.out], two_set HBT.out (Nat.le_refl _)⟩
  have hpos : 0 < l.length := List.length_pos_iff.2 h0
  have hl0 : ((l.length : Int) == 0) = false := by simp; omega
  obtain ⟨b, off, rfl, hFb, hel⟩ := ha hpos
  have hrd : Hid (∀ W, Below w.heap.size w W → ∀ j (hj : j < l.length), ∃ d5 f5, W.cell? ⟨b, off + j * 2, none⟩ = some (.int .i64 l[j].kind) ∧ W.cell? ⟨b, off + j * 2 + 1, none⟩ = some (.slice d5 l[j].words.length f5) ∧ I64 l[j].kind ∧ RdStrs F w l[j].words (.slice d5 l[j].words.length f5)) := fun W hW j hj => by
    obtain ⟨cs, ⟨hi, v, rfl, hex⟩, -, hcell⟩ := hel w rfl j hj
    obtain ⟨d5, f5, rfl⟩ := hex.shape
    have hbl := hW.block b (HF.out b hFb)
    exact ⟨d5, f5, (World.cell?_of_block (w := w) (a := ⟨b, off + j * 2, none⟩) hbl).trans (by simpa using hcell 0 _ rfl), (World.cell?_of_block (w := w) (a := ⟨b, off + j * 2 + 1, none⟩) hbl).trans (hcell 1 _ rfl), hi, hex⟩
  clear hr hq hF ha hel h0
  go_enter Tryz.func56, Tryz.ntmps56
  go_upto_region 1 with fail
  obtain ⟨W0, hW0, hB0, hwr0, hz0⟩ := hA.out
  rw [hW0]
  have HB0 := Lib.hid hB0
  have hE : Hid (∀ W, Below W0.heap.size W0 W → WrAt W w.heap.size (0, ⟨#[]⟩) ∧ Below w.heap.size w W) := fun W hW => ⟨wr_kept hwr0 hz0 hW, hB0.trans (hW.mono hB0.size)⟩
  clear hA hW0 hB0 hz0 hwr0
  go_wp2_with fail
  go_loopw [5, 6, 7, 8] (fun u5 u6 u7 i wr => ∃ k na nb nc : Nat, k ≤ l.length ∧ u5 = .int .i64 na ∧ u6 = .int .i64 nb ∧ u7 = .int .i64 nc ∧ i = .int .i64 k ∧ Hid (CntsAre ((l.map SlotD.kind).take k) na nb nc) ∧ na ≤ k ∧ nb ≤ k ∧ nc ≤ k ∧ Hid (∀ m (hm : m < l.length), m < k → ¬ (l[m].kind = 1 ∧ l[m].words = [])) ∧ Below W0.heap.size W0 wr) (fun _ _ _ i _ => l.length - (intOf i).toNat)
  case atStart => exact ⟨0, 0, 0, 0, Nat.zero_le _, rfl, rfl, rfl, rfl, by rw [List.take_zero]; exact ⟨rfl, rfl, rfl⟩, Nat.le_refl _, Nat.le_refl _, Nat.le_refl _, fun m hm h => absurd h (by omega), Below.refl _ _⟩
  case round =>
    obtain ⟨k, na, nb, nc, hk, rfl, rfl, rfl, rfl, hcm, hka, hkb, hkc, hno, hB⟩ := hrel
    obtain ⟨⟨⟨f0, f1⟩, z0, z1⟩, hbt⟩ := hE.out wr hB
    by_cases hlt : k < l.length
    · obtain ⟨d5, f5, g0, g1, -, -⟩ := hrd.out wr hbt k hlt
      have htk : (l.map SlotD.kind).take (k + 1) = (l.map SlotD.kind).take k ++ [l[k].kind] := by rw [List.take_succ_eq_append_getElem (by simpa using hlt), List.getElem_map]
      have hno2 : ¬ (l[k].kind = 1 ∧ l[k].words = []) → ∀ m (hm : m < l.length), m < k + 1 → ¬ (l[m].kind = 1 ∧ l[m].words = []) := fun h m hm hmk => by
        by_cases hmk2 : m = k
        · subst hmk2; exact h
        · exact hno.out m hm (by omega)
      have hyes : (l[k].kind = 1 ∧ l[k].words = []) → q = (2, name) := fun h => by
        rw [← HQ.out]; unfold lineW; rw [dec_true (.inr ⟨l[k], List.getElem_mem hlt, h⟩), if_pos rfl]
      have hst := cnts_step l[k].kind hcm.out
      rw [← htk] at hst
      generalize l[k] = x at g0 g1 hno2 hyes hst
      obtain ⟨kd, xw⟩ := x
      have hki : (k : Int) < (l.length : Int) := by omega
      have hki0 : (0 : Int) ≤ (k : Int) := by omega
      have HB := Lib.hid hB
      have HBT := Lib.hid hbt
      have HNO := Lib.hid hno2
      have HYES := Lib.hid hyes
      have HS := Lib.hid hst
      simp only at g0 g1
      clear hno hno2 hyes htk hst hB hbt hcm
      by_cases hk1 : kd = 1
      · subst hk1
        by_cases hw0 : xw = []
        · have e2 : ((xw.length : Int) == 0) = true := by rw [hw0]; rfl
          have hfin := Lib.hid (HYES.out ⟨rfl, hw0⟩)
          clear hw0 HS HNO HYES
          go_wp2_with fail
          exact bodyPost_ret (v := wrongR (2, name)) (by simp [results, Tryz.results56, go_sem, wrongR, f0, f1]; try rfl) rfl ⟨by rw [hfin.out], two_set HBT.out (Nat.le_refl _)⟩
        · have e2 : ((xw.length : Int) == 0) = false := by have := List.length_pos_iff.2 hw0; simp; omega
          have hnx := Lib.hid (HNO.out (fun h => hw0 h.2))
          have HST : Hid (CntsAre ((l.map SlotD.kind).take (k + 1)) na nb nc ∧ True) := ⟨by simpa using HS.out, trivial⟩
          clear hw0 HS HNO HYES
          go_wp2_with fail
          go_roundw
          case rel => exact ⟨k + 1, na, nb, nc, by omega, by first | rfl | go_num, by first | rfl | go_num, by first | rfl | go_num, by go_num, HST.out.1, by omega, by omega, by omega, hnx.out, below_drewN HB.out 0⟩
          case measure => simp [intOf]; omega
      have e1 : (kd == 1) = false := by simpa using hk1
      have hnx := Lib.hid (HNO.out (fun h => hk1 h.1))
      clear HNO HYES
      by_cases hk2 : kd = 2
      · subst hk2
        have HST : Hid (CntsAre ((l.map SlotD.kind).take (k + 1)) (na + 1) nb nc ∧ True) := ⟨by simpa using HS.out, trivial⟩
        clear hk1 HS
        go_wp2_with fail
        go_roundw
        case rel => exact ⟨k + 1, na + 1, nb, nc, by omega, by first | rfl | go_num, by first | rfl | go_num, by first | rfl | go_num, by go_num, HST.out.1, by omega, by omega, by omega, hnx.out, below_drewN HB.out 0⟩
        case measure => simp [intOf]; omega
      by_cases hk3 : kd = 3
      · subst hk3
        have HST : Hid (CntsAre ((l.map SlotD.kind).take (k + 1)) (na + 1) nb nc ∧ True) := ⟨by simpa using HS.out, trivial⟩
        clear hk1 HS
        go_wp2_with fail
        go_roundw
        case rel => exact ⟨k + 1, na + 1, nb, nc, by omega, by first | rfl | go_num, by first | rfl | go_num, by first | rfl | go_num, by go_num, HST.out.1, by omega, by omega, by omega, hnx.out, below_drewN HB.out 0⟩
        case measure => simp [intOf]; omega
      by_cases hk4 : kd = 4
      · subst hk4
        have HST : Hid (CntsAre ((l.map SlotD.kind).take (k + 1)) na (nb + 1) nc ∧ True) := ⟨by simpa using HS.out, trivial⟩
        clear hk1 HS
        go_wp2_with fail
        go_roundw
        case rel => exact ⟨k + 1, na, nb + 1, nc, by omega, by first | rfl | go_num, by first | rfl | go_num, by first | rfl | go_num, by go_num, HST.out.1, by omega, by omega, by omega, hnx.out, below_drewN HB.out 0⟩
        case measure => simp [intOf]; omega
      by_cases hk5 : kd = 5
      · subst hk5
        have HST : Hid (CntsAre ((l.map SlotD.kind).take (k + 1)) na nb (nc + 1) ∧ True) := ⟨by simpa using HS.out, trivial⟩
        clear hk1 HS
        go_wp2_with fail
        go_roundw
        case rel => exact ⟨k + 1, na, nb, nc + 1, by omega, by first | rfl | go_num, by first | rfl | go_num, by first | rfl | go_num, by go_num, HST.out.1, by omega, by omega, by omega, hnx.out, below_drewN HB.out 0⟩
        case measure => simp [intOf]; omega
      have HST : Hid (CntsAre ((l.map SlotD.kind).take (k + 1)) na nb nc ∧ True) := ⟨by simpa [hk2, hk3, hk4, hk5] using HS.out, trivial⟩
      have e2 : (kd == 2) = false := by simpa using hk2
      have e3 : (kd == 3) = false := by simpa using hk3
      have e4 : (kd == 4) = false := by simpa using hk4
      have e5 : (kd == 5) = false := by simpa using hk5
      clear hk1 hk2 hk3 hk4 hk5 HS
      go_wp2_with fail
      go_roundw
      case rel => exact ⟨k + 1, na, nb, nc, by omega, by first | rfl | go_num, by first | rfl | go_num, by first | rfl | go_num, by go_num, HST.out.1, by omega, by omega, by omega, hnx.out, below_drewN HB.out 0⟩
      case measure => simp [intOf]; omega
    · have HQ2 : Hid (q = seqW (slotsW l) (if dec (badL l) = true then (18, name) else fineW)) := by
        show _ = _
        rw [← HQ.out]
        unfold lineW
        rw [dec_false (p := l = [] ∨ ∃ x ∈ l, x.kind = 1 ∧ x.words = []) (fun h => h.elim (fun h => by rw [h] at hpos; simp at hpos) fun ⟨x, hx, hx2⟩ => by
          obtain ⟨m, hm, rfl⟩ := List.getElem_of_mem hx
          exact hno.out m hm (by omega) hx2)]
        rfl
      have hcm2 : CntsAre (l.map SlotD.kind) na nb nc := by
        have := hcm.out
        rw [show k = l.length by omega, List.take_of_length_le (by simp)] at this
        exact this
      have HCM := Lib.hid hcm2
      have HBo := Lib.hid hB
      have hki : decide ((k : Int) < (l.length : Int)) = false := by simpa using hlt
      clear hcm hno hB hcm2 f0 f1 z0 z1 hbt
      go_wp2_with fail
      obtain ⟨wo, rfl⟩ : ∃ wo : World, wo = wr := ⟨_, rfl⟩
      go_loopw [9] (fun i wr => ∃ k2 : Nat, k2 ≤ l.length ∧ i = .int .i64 k2 ∧ Hid (q = seqW (slotsW (l.drop k2)) (if dec (badL l) = true then (18, name) else fineW)) ∧ Below W0.heap.size W0 wr) (fun i _ => l.length - (intOf i).toNat)
      case atStart => exact ⟨0, Nat.zero_le _, rfl, by show _ = _; rw [List.drop_zero]; exact HQ2.out, HBo.out⟩
      case round =>
        clear hki
        obtain ⟨k2, hk2, rfl, hinv, hB⟩ := hrel
        obtain ⟨⟨⟨f0, f1⟩, z0, z1⟩, hbt⟩ := hE.out wr hB
        have HB := Lib.hid hB
        have HBT := Lib.hid hbt
        by_cases hlt2 : k2 < l.length
        · obtain ⟨d5, f5, g0, g1, -, hex⟩ := hrd.out wr hbt k2 hlt2
          have hc := HWD.out _ _ hex wr hbt
          have hdk : seqW (slotsW (l.drop k2)) (if dec (badL l) = true then (18, name) else fineW) = seqW (wordsW l[k2].words) (seqW (slotsW (l.drop (k2 + 1))) (if dec (badL l) = true then (18, name) else fineW)) := by rw [List.drop_eq_getElem_cons hlt2, ← seqW_assoc]; rfl
          have hnx := hinv.out
          rw [hdk] at hnx
          generalize wordsW l[k2].words = p at hc hnx
          have HC := Lib.hid hc
          have HNX := Lib.hid hnx
          clear hdk hnx hc hinv hB hbt f0 f1 z0 z1 hex
          have hki : (k2 : Int) < (l.length : Int) := by omega
          have hki0 : (0 : Int) ≤ (k2 : Int) := by omega
          go_upto_region 21 with (go_at_call 54; refine HC.out.mono ?_; rintro e w1 ⟨rfl, hb1⟩; unfold wrongR)
          have hAb : Hid (∃ wb b7, w1.alloc (.cells #[.int .i64 p.1, .string p.2] 79) = wb ∧ w1.heap.size = b7 ∧ Below W0.heap.size W0 wb ∧ WrAt wb b7 p) := ⟨_, _, rfl, rfl, (HB.out.trans (hb1.mono HB.out.size)).alloc (Nat.le_trans HB.out.size hb1.size) _, wr_new _ _ _ _⟩
          obtain ⟨wb, b7, hwb, hb7, hBw, hwr7⟩ := hAb.out
          rw [hwb]
          simp only [hb7]
          have HBW := Lib.hid hBw
          obtain ⟨⟨⟨f0, f1⟩, z0, z1⟩, hbt⟩ := hE.out wb hBw
          obtain ⟨⟨q0, q1⟩, y0, y1⟩ := hwr7
          have HBT2 := Lib.hid hbt
          clear hAb hwb hb7 hBw hbt hb1 g0 g1
          by_cases hz : p.1 = 0
          · have hp1 : (p.1 != 0) = false := by simpa using hz
            have hnx : Hid (q = seqW (slotsW (l.drop (k2 + 1))) (if dec (badL l) = true then (18, name) else fineW)) := by show _ = _; rw [HNX.out, seqW_fine hz]
            clear hz
            go_wp2_with fail
            go_roundw
            case rel => exact ⟨k2 + 1, by omega, by go_num, hnx.out, HBW.out⟩
            case measure => simp [intOf]; omega
          · have hp1 : (p.1 != 0) = true := by simpa using hz
            have hfin : Hid (q = p) := by show _ = _; rw [HNX.out, seqW_bad hz]
            clear hz
            go_wp2_with fail
            exact bodyPost_ret (v := wrongR p) (by simp [results, Tryz.results56, go_sem, wrongR, f0, f1]; try rfl) rfl ⟨by rw [hfin.out], two_set HBT2.out (Nat.le_refl _)⟩
        · have HQ3 : Hid (q = (if dec (badL l) = true then (18, name) else fineW)) := by show _ = _; rw [hinv.out, List.drop_eq_nil_of_le (by omega)]; rfl
          have hki : decide ((k2 : Int) < (l.length : Int)) = false := by simpa using hlt2
          obtain ⟨d5, f5, g0, -⟩ := hrd.out wr hbt 0 hpos
          have hbad : ((l[0].kind ≠ 1 ∧ l[0].kind ≠ 5) ∨ 2 < na ∨ 1 < nb ∨ 1 < nc) ↔ badL l := by
            obtain ⟨e1, e2, e3⟩ := HCM.out
            have hh : (∀ x ∈ l.head?, x.kind ≠ 1 ∧ x.kind ≠ 5) ↔ (l[0].kind ≠ 1 ∧ l[0].kind ≠ 5) := by
              cases l with
              | nil => exact absurd hpos (by simp)
              | cons y r => simp
            unfold badL
            rw [hh, ← e1, ← e2, ← e3]
            omega
          have hf1 : Hid (((l[0].kind ≠ 1 ∧ l[0].kind ≠ 5) ∨ 2 < na ∨ 1 < nb ∨ 1 < nc) → q = (18, name)) := fun h => by rw [HQ3.out, dec_true (hbad.1 h), if_pos rfl]
          have hf2 : Hid (¬ ((l[0].kind ≠ 1 ∧ l[0].kind ≠ 5) ∨ 2 < na ∨ 1 < nb ∨ 1 < nc) → q = fineW) := fun h => by rw [HQ3.out, dec_false (fun hb => h (hbad.2 hb))]; rfl
          simp only [Nat.zero_mul, Nat.add_zero] at g0
          generalize l[0].kind = kd at g0 hf1 hf2 hbad
          clear hbad hinv hB hbt
          by_cases hk1 : kd = 1
          · subst hk1
            by_cases h : 2 < na
            · have hd0 : decide ((na : Int) > 2) = true := by simp; omega
              have hfin := Lib.hid (hf1.out (.inr (.inl h)))
              clear hf1 hf2
              go_wp2_with fail
              exact bodyPost_ret (v := wrongR (18, name)) (by simp [results, Tryz.results56, go_sem, wrongR, f0, f1]; try rfl) rfl ⟨by rw [hfin.out], two_set HBT.out (Nat.le_refl _)⟩
            have hd0 : decide ((na : Int) > 2) = false := by simp; omega
            have hn0 := Lib.hid h
            clear h
            by_cases h : 1 < nb
            · have hd1 : decide ((nb : Int) > 1) = true := by simp; omega
              have hfin := Lib.hid (hf1.out (.inr (.inr (.inl h))))
              clear hf1 hf2
              go_wp2_with fail
              exact bodyPost_ret (v := wrongR (18, name)) (by simp [results, Tryz.results56, go_sem, wrongR, f0, f1]; try rfl) rfl ⟨by rw [hfin.out], two_set HBT.out (Nat.le_refl _)⟩
            have hd1 : decide ((nb : Int) > 1) = false := by simp; omega
            have hn1 := Lib.hid h
            clear h
            by_cases h : 1 < nc
            · have hd2 : decide ((nc : Int) > 1) = true := by simp; omega
              have hfin := Lib.hid (hf1.out (.inr (.inr (.inr h))))
              clear hf1 hf2
              go_wp2_with fail
              exact bodyPost_ret (v := wrongR (18, name)) (by simp [results, Tryz.results56, go_sem, wrongR, f0, f1]; try rfl) rfl ⟨by rw [hfin.out], two_set HBT.out (Nat.le_refl _)⟩
            have hd2 : decide ((nc : Int) > 1) = false := by simp; omega
            have hn2 := Lib.hid h
            clear h
            have hfin := Lib.hid (hf2.out (by rintro (⟨h1, h2⟩ | h | h | h); (first | exact h1 rfl | exact h2 rfl); exact hn0.out h; exact hn1.out h; exact hn2.out h))
            clear hf1 hf2
            go_wp2_with (go_at_call 52; refine (HFI.out _).mono ?_; rintro e w2 ⟨rfl, hb2⟩; obtain ⟨⟨⟨f0', f1'⟩, z0', z1'⟩, hbw⟩ := hE.out w2 (HB.out.trans (hb2.mono HB.out.size)); unfold wrongR fineW)
            exact bodyPost_ret (v := wrongR fineW) (by simp [results, Tryz.results56, go_sem, wrongR, fineW, f0', f1']; try rfl) rfl ⟨by rw [hfin.out], two_set hbw (Nat.le_refl _)⟩
          · have e1 : (kd != 1) = true := by simpa using hk1
            by_cases hk5 : kd = 5
            · subst hk5
              by_cases h : 2 < na
              · have hd0 : decide ((na : Int) > 2) = true := by simp; omega
                have hfin := Lib.hid (hf1.out (.inr (.inl h)))
                clear hf1 hf2
                go_wp2_with fail
                exact bodyPost_ret (v := wrongR (18, name)) (by simp [results, Tryz.results56, go_sem, wrongR, f0, f1]; try rfl) rfl ⟨by rw [hfin.out], two_set HBT.out (Nat.le_refl _)⟩
              have hd0 : decide ((na : Int) > 2) = false := by simp; omega
              have hn0 := Lib.hid h
              clear h
              by_cases h : 1 < nb
              · have hd1 : decide ((nb : Int) > 1) = true := by simp; omega
                have hfin := Lib.hid (hf1.out (.inr (.inr (.inl h))))
                clear hf1 hf2
                go_wp2_with fail
                exact bodyPost_ret (v := wrongR (18, name)) (by simp [results, Tryz.results56, go_sem, wrongR, f0, f1]; try rfl) rfl ⟨by rw [hfin.out], two_set HBT.out (Nat.le_refl _)⟩
              have hd1 : decide ((nb : Int) > 1) = false := by simp; omega
              have hn1 := Lib.hid h
              clear h
              by_cases h : 1 < nc
              · have hd2 : decide ((nc : Int) > 1) = true := by simp; omega
                have hfin := Lib.hid (hf1.out (.inr (.inr (.inr h))))
                clear hf1 hf2
                go_wp2_with fail
                exact bodyPost_ret (v := wrongR (18, name)) (by simp [results, Tryz.results56, go_sem, wrongR, f0, f1]; try rfl) rfl ⟨by rw [hfin.out], two_set HBT.out (Nat.le_refl _)⟩
              have hd2 : decide ((nc : Int) > 1) = false := by simp; omega
              have hn2 := Lib.hid h
              clear h
              have hfin := Lib.hid (hf2.out (by rintro (⟨h1, h2⟩ | h | h | h); (first | exact h1 rfl | exact h2 rfl); exact hn0.out h; exact hn1.out h; exact hn2.out h))
              clear hf1 hf2
              go_wp2_with (go_at_call 52; refine (HFI.out _).mono ?_; rintro e w2 ⟨rfl, hb2⟩; obtain ⟨⟨⟨f0', f1'⟩, z0', z1'⟩, hbw⟩ := hE.out w2 (HB.out.trans (hb2.mono HB.out.size)); unfold wrongR fineW)
              exact bodyPost_ret (v := wrongR fineW) (by simp [results, Tryz.results56, go_sem, wrongR, fineW, f0', f1']; try rfl) rfl ⟨by rw [hfin.out], two_set hbw (Nat.le_refl _)⟩
            · have e5 : (kd != 5) = true := by simpa using hk5
              have hfin := Lib.hid (hf1.out (.inl ⟨hk1, hk5⟩))
              clear hk1 hk5 hf1 hf2
              go_wp2_with fail
              exact bodyPost_ret (v := wrongR (18, name)) (by simp [results, Tryz.results56, go_sem, wrongR, f0, f1]; try rfl) rfl ⟨by rw [hfin.out], two_set HBT.out (Nat.le_refl _)⟩


set_option maxRecDepth 100000 in
set_option maxHeartbeats 8000000 in
theorem verbR_calls (o : VerbD) (F : Nat → Prop) (w : World) (ss : List Value) (hF : Inn F w) (h1 : Holds.verb.R F w o ss) :
    Calls Tryz.prog 28 #[.agg ss.toArray] w (Gives w (wrongR (verbW o))) := by
  have HLI := Lib.hid (fun (name : ByteArray) (l : List SlotD) (lv : Value) (hr : RdL Holds.slot 2 F w l lv) (W : World) (hW : Below w.heap.size w W) => lineR_calls name l F W lv (hF.below hW) (RdL.below hr hF hW (Nat.le_refl _)))
  have HFI := Lib.hid fineR_calls
  obtain ⟨-, v2, rfl, k2⟩ := h1
  obtain ⟨a2, c2, rfl, hl, hc, ha⟩ := k2.opn
  unfold maxLen at hc
  have HF := Lib.hid hF
  obtain ⟨q, hq⟩ : ∃ q, verbW o = q := ⟨_, rfl⟩
  rw [hq]
  have HQ := Lib.hid hq
  by_cases h0 : o.lines = []
  · have hfin : Hid (q = (2, o.name)) := by show _ = _; rw [← HQ.out]; unfold verbW; rw [if_pos h0]
    have hl0 : ((o.lines.length : Int) == 0) = true := by rw [h0]; rfl
    clear k2 hq hF ha h0
    go_enter Tryz.func28, Tryz.ntmps28
    go_wp2_with fail
    exact bodyPost_ret (v := wrongR (2, o.name)) (by simp [results, Tryz.results28, go_sem, wrongR]; try rfl) rfl ⟨by rw [hfin.out], ((Below.refl _ w).alloc (Nat.le_refl _) _).alloc (by simp) _⟩
  have hpos : 0 < o.lines.length := List.length_pos_iff.2 h0
  have hl0 : ((o.lines.length : Int) == 0) = false := by simp; omega
  obtain ⟨ob, off, rfl, hFb, hel⟩ := ha hpos
  have HQ1 : Hid (q = linesW o.name o.lines) := by show _ = _; rw [← HQ.out]; unfold verbW; rw [if_neg h0]
  have hrd : Hid (∀ W, Below w.heap.size w W → ∀ j (hj : j < o.lines.length), ∃ d5 f5, W.cell? ⟨ob, off + j, none⟩ = some (.slice d5 o.lines[j].length f5) ∧ RdL Holds.slot 2 F w o.lines[j] (.slice d5 o.lines[j].length f5)) := fun W hW j hj => by
    obtain ⟨cs, ⟨v, rfl, hex⟩, -, hcell⟩ := hel w rfl j hj
    obtain ⟨d5, f5, rfl⟩ := hex.shape
    have hbl := hW.block ob (HF.out ob hFb)
    exact ⟨d5, f5, (World.cell?_of_block (w := w) (a := ⟨ob, off + j, none⟩) hbl).trans (by simpa using hcell 0 _ rfl), hex⟩
  have hA : Hid (∃ W0, ((w.alloc (.cells #[.string o.name, .bool o.isMeta, .slice (some ⟨ob, off, none⟩) o.lines.length c2] 86)).alloc (.cells #[.int .i64 0, .string ⟨#[]⟩] 79)) = W0 ∧ Below w.heap.size w W0 ∧ W0.heap.size = w.heap.size + 1 + 1 ∧ BoxAt W0 w.heap.size [.string o.name, .bool o.isMeta, .slice (some ⟨ob, off, none⟩) o.lines.length c2] ∧ WrAt W0 (w.heap.size + 1) (0, ⟨#[]⟩)) := by
    refine ⟨_, rfl, ((Below.refl _ w).alloc (Nat.le_refl _) _).alloc (by simp) _, by simp, ?_, ?_⟩
    · exact (BoxAt.new w [.string o.name, .bool o.isMeta, .slice (some ⟨ob, off, none⟩) o.lines.length c2] 86).below ((Below.refl _ _).alloc (Nat.le_refl _) _) (by simp)
    · have := wr_new (w.alloc (.cells #[.string o.name, .bool o.isMeta, .slice (some ⟨ob, off, none⟩) o.lines.length c2] 86)) 0 ⟨#[]⟩ 79
      rw [show (w.alloc (.cells #[.string o.name, .bool o.isMeta, .slice (some ⟨ob, off, none⟩) o.lines.length c2] 86)).heap.size = w.heap.size + 1 by simp] at this
      exact this
  clear k2 hq hF ha h0 hel HQ
  go_enter Tryz.func28, Tryz.ntmps28
  go_upto_region 1 with fail
  obtain ⟨W0, hW0, hB0, hz0, hsb, hwr0⟩ := hA.out
  rw [hW0]
  have HB0 := Lib.hid hB0
  have HZ0 := Lib.hid hz0
  have hE : Hid (∀ W, Below W0.heap.size W0 W → BoxAt W w.heap.size [.string o.name, .bool o.isMeta, .slice (some ⟨ob, off, none⟩) o.lines.length c2] ∧ WrAt W (w.heap.size + 1) (0, ⟨#[]⟩) ∧ Below w.heap.size w W) := fun W hW => ⟨hsb.below hW (by omega), wr_kept hwr0 (by omega) hW, hB0.trans (hW.mono hB0.size)⟩
  clear hA hW0 hB0 hz0 hsb hwr0
  obtain ⟨hbx, -, -⟩ := hE.out W0 (Below.refl _ _)
  have x2 := hbx.2 2 (by simp)
  simp only [List.getElem?_cons_succ, List.getElem?_cons_zero] at x2
  clear hbx
  go_wp2_with fail
  go_loopw [3] (fun i wr => ∃ k : Nat, k ≤ o.lines.length ∧ i = .int .i64 k ∧ Hid (q = linesW o.name (o.lines.drop k)) ∧ Below W0.heap.size W0 wr) (fun i _ => o.lines.length - (intOf i).toNat)
  case atStart => exact ⟨0, Nat.zero_le _, rfl, by show _ = _; rw [List.drop_zero]; exact HQ1.out, Below.refl _ _⟩
  case round =>
    clear x2
    obtain ⟨k, hk, rfl, hinv, hB⟩ := hrel
    obtain ⟨hbx, hwr, hbt⟩ := hE.out wr hB
    have x0 := hbx.2 0 (by simp)
    have x2 := hbx.2 2 (by simp)
    simp only [List.getElem?_cons_succ, List.getElem?_cons_zero] at x0 x2
    have HB := Lib.hid hB
    have HBT := Lib.hid hbt
    by_cases hlt : k < o.lines.length
    · obtain ⟨d5, f5, g0, hex⟩ := hrd.out wr hbt k hlt
      have hc := fun W hW => HLI.out o.name _ _ hex W (hbt.trans (Below.mono hW hbt.size))
      have hdk : linesW o.name (o.lines.drop k) = seqW (lineW o.name o.lines[k]) (linesW o.name (o.lines.drop (k + 1))) := by rw [List.drop_eq_getElem_cons hlt]; rfl
      have hnx := hinv.out
      rw [hdk] at hnx
      generalize lineW o.name o.lines[k] = p at hc hnx
      have HCL := Lib.hid hc
      have HNX := Lib.hid hnx
      have x0a := alloc_cell x0
      have x2a := alloc_cell x2
      have g0a := alloc_cell g0
      have hki : (k : Int) < (o.lines.length : Int) := by omega
      have hki0 : (0 : Int) ≤ (k : Int) := by omega
      clear hdk hnx hc hinv hB hbt hwr hbx hex
      go_upto_region 6 with fail
      obtain ⟨wo, rfl⟩ : ∃ wo : World, wo = wr := ⟨_, rfl⟩
      go_cut [4] (fun v wc => Hid (∃ b9, v = .pointer (some ⟨b9, 0, none⟩) ∧ WrAt wc b9 p ∧ Below W0.heap.size W0 wc))
      case first =>
        go_region_with (first | (go_at_call 56; (with_reducible refine (HCL.out _ (Below.refl _ wo).drew).mono ?_); rintro e w3 ⟨rfl, hb3⟩; have hbq := (Below.refl wo.heap.size wo).drew.trans hb3; unfold wrongR) | (go_at_call 56; (with_reducible refine (HCL.out _ (((Below.refl _ wo).alloc (Nat.le_refl _) _).drew)).mono ?_); rintro e w3 ⟨rfl, hb3⟩; have hbq := (Below.refl (wo.alloc (.cells #[.int .i64 0, .string ⟨#[]⟩] 79)).heap.size (wo.alloc (.cells #[.int .i64 0, .string ⟨#[]⟩] 79))).drew.trans hb3; obtain ⟨⟨f0', f1'⟩, z0', z1'⟩ := wr_kept (wr_new wo 0 ⟨#[]⟩ 79) (by simp) hbq; unfold wrongR))
        all_goals (go_wp2_with fail; go_meet; first | exact ⟨_, rfl, wr_new _ _ _ _, HB.out.trans ((hbq.alloc hbq.size _).mono HB.out.size)⟩ | exact ⟨_, rfl, wr_set (p0 := (0, ⟨#[]⟩)) p ⟨⟨f0', f1'⟩, z0', z1'⟩, HB.out.trans ((two_set (((Below.refl wo.heap.size wo).alloc (Nat.le_refl _) _).trans (hbq.mono (by simp))) (Nat.le_refl _)).mono HB.out.size)⟩)
      case rest =>
        obtain ⟨b9, rfl, hw9, hbc⟩ := hcut.out
        obtain ⟨⟨q0, q1⟩, y0, y1⟩ := hw9
        have HBC := Lib.hid hbc
        obtain ⟨-, ⟨⟨f0, f1⟩, z0, z1⟩, hbt⟩ := hE.out wc hbc
        have HBT2 := Lib.hid hbt
        clear hcut hbc hbt x0 x2 x0a x2a g0 g0a HCL
        by_cases hz : p.1 = 0
        · have hp1 : (p.1 != 0) = false := by simpa using hz
          have hnx : Hid (q = linesW o.name (o.lines.drop (k + 1))) := by show _ = _; rw [HNX.out, seqW_fine hz]
          clear hz
          go_wp2_with fail
          go_roundw
          case rel => exact ⟨k + 1, by omega, by go_num, hnx.out, HBC.out⟩
          case measure => simp [intOf]; omega
        · have hp1 : (p.1 != 0) = true := by simpa using hz
          have hfin : Hid (q = p) := by show _ = _; rw [HNX.out, seqW_bad hz]
          clear hz
          go_wp2_with fail
          exact bodyPost_ret (v := wrongR p) (by simp [results, Tryz.results28, go_sem, wrongR, f0, f1]; try rfl) rfl ⟨by rw [hfin.out], two_set HBT2.out (by omega)⟩
    · have hfin : Hid (q = fineW) := by show _ = _; rw [hinv.out, List.drop_eq_nil_of_le (by omega)]; rfl
      have hki : decide ((k : Int) < (o.lines.length : Int)) = false := by simpa using hlt
      clear hinv hB hbt hbx hwr
      go_wp2_with (go_at_call 52; refine (HFI.out _).mono ?_; rintro e w2 ⟨rfl, hb2⟩; obtain ⟨-, ⟨⟨f0, f1⟩, z0, z1⟩, hbw⟩ := hE.out w2 (HB.out.trans (hb2.mono HB.out.size)); unfold wrongR fineW)
      exact bodyPost_ret (v := wrongR fineW) (by simp [results, Tryz.results28, go_sem, wrongR, fineW, f0, f1]; try rfl) rfl ⟨by rw [hfin.out], two_set hbw (by omega)⟩
end Go.Proofs.YtblhpiebheommaaGreat
/- The walk of tree.stmtHas, and of the function that RightBlock asks names by. -/
namespace Go.Proofs.YtblhpiebheommaaGreat
open Go.RowKit Go.Sort

/-- What a kind of statements has. -/
structure Parts where
  named : Bool
  body : Bool
  other : Bool
  least : Nat
  most : Nat
  is : Bool

def partsOf (k : Int) : Parts :=
  if k = 1 then ⟨false, false, false, 1, 8, true⟩
  else if k = 2 ∨ k = 3 ∨ k = 5 ∨ k = 6 ∨ k = 17 ∨ k = 23 then ⟨true, false, false, 1, 1, true⟩
  else if k = 4 then ⟨true, false, false, 2, 2, true⟩
  else if k = 7 then ⟨false, false, false, 2, 2, true⟩
  else if k = 8 ∨ k = 12 ∨ k = 16 ∨ k = 20 ∨ k = 22 ∨ k = 19 then ⟨false, false, false, 1, 1, true⟩
  else if k = 9 then ⟨false, true, true, 1, 1, true⟩
  else if k = 10 then ⟨false, true, false, 1, 1, true⟩
  else if k = 11 then ⟨true, true, false, 1, 1, true⟩
  else if k = 18 then ⟨true, false, false, 0, 0, true⟩
  else if k = 13 ∨ k = 14 ∨ k = 15 ∨ k = 21 then ⟨false, false, false, 0, 0, true⟩
  else ⟨false, false, false, 0, 0, false⟩

def PartsV (h : Parts) : Value := .tuple #[.agg #[.bool h.named, .bool h.body, .bool h.other, .int .i64 h.least, .int .i64 h.most], .bool h.is]

theorem skind_cases (k : Int) : k = 1 ∨ k = 2 ∨ k = 3 ∨ k = 4 ∨ k = 5 ∨ k = 6 ∨ k = 7 ∨ k = 8 ∨ k = 9 ∨ k = 10 ∨ k = 11 ∨ k = 12 ∨ k = 13 ∨ k = 14 ∨ k = 15 ∨ k = 16 ∨ k = 17 ∨ k = 18 ∨ k = 19 ∨ k = 20 ∨ k = 21 ∨ k = 22 ∨ k = 23 ∨ k < 1 ∨ 23 < k := by omega


/-- What RightBlock asks of a statement's name and number. -/
def NameOk (named : Bool) (k n : Int) (s : ByteArray) : Prop := if named = true then k ≠ 23 ∧ n = 0 ∧ IsNm s else s = ByteArray.empty ∧ n = 0


end Go.Proofs.YtblhpiebheommaaGreat
