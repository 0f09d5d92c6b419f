/- The walk of clewref16's function. Printed by gen-reff.py. -/
import Derived.Test.YtblhpiebheommaaGreatRefE
namespace Go.Proofs.YtblhpiebheommaaGreat
open Go.RowKit

theorem RdL.take {α : Type} {R : Holds α} {sz : Nat} {F : Nat → Prop} {w : World} {l : List α} {a : Option Addr} {n cap : Nat} (h : RdL R sz F w l (.slice a n cap)) (k : Nat) (hk : k ≤ l.length) : RdL R sz F w (l.take k) (.slice a k cap) := by
  obtain ⟨c, ⟨a', cap', e, h1, h2, h3⟩, h4⟩ := h
  cases e
  have hl : (l.take k).length = k := by rw [List.length_take]; omega
  refine ⟨c, ?_, fun i hi => by rw [List.getElem_take]; exact h4 i (by omega)⟩
  rw [hl]
  refine ⟨a, cap, rfl, by omega, h2, fun h0 => ?_⟩
  obtain ⟨b, off, rfl, hb, hc⟩ := h3 (by omega)
  exact ⟨b, off, rfl, hb, fun i hi => hc i (by omega)⟩

set_option maxRecDepth 100000 in
set_option maxHeartbeats 8000000 in
theorem functionR_calls (t : List NameD) (s : SrcD) (o : FuncD) (F : Nat → Prop) (w : World) (tv : Value) (ss rs : List Value) (hF : Inn F w) (htab : TabOk t s.funcs s.objects.length) (h0 : RdNames F w t tv) (h1 : Holds.src.R F w s ss) (h2 : Holds.fnc.R F w o rs) (hlone : St.lones o.body) (hsz : St.sizes o.body ≤ 1000000) (hpar : o.params.length ≤ 1000) :
    Calls Tryz.prog 30 #[tv, .agg ss.toArray, .agg rs.toArray] w (Gives w (wrongR (funcW t s.funcs o))) := by
  obtain ⟨-, v1, v2, rfl, k1, k2⟩ := h2
  have HBL := Lib.hid (fun (W : World) (hW : Below w.heap.size w W) => rBlock_calls t s htab o.body o.params 8 0 F W tv v1 v2 ss (hF.below hW) hlone hsz (RdL.below h0 hF hW (Nat.le_refl _)) (Holds.below _ h1 hF hW (Nat.le_refl _)) (RdL.below k1 hF hW (Nat.le_refl _)) (Sts.below k2 hF hW (Nat.le_refl _)) (by omega) (by omega) (by omega))
  have HFD := Lib.hid (fun (n : ByteArray) (W : World) (hW : Below w.heap.size w W) => findR_calls t n F W tv (hF.below hW) (RdL.below h0 hF hW (Nat.le_refl _)))
  obtain ⟨a0, c0, rfl⟩ := h0.shape
  obtain ⟨a5, c5, a6, c6, a7, c7, a8, c8, a9, c9, a10, c10, a11, c11, a12, c12, rfl, g5, g6, g7, g8, g9, g10, g11, g12⟩ := src_shape h1
  obtain ⟨p1, q1, rfl⟩ := k1.shape
  obtain ⟨p2, q2, rfl⟩ := k2.shape
  have HHS := Lib.hid (fun (n : ByteArray) (k : Nat) (hk : k ≤ o.params.length) (W : World) (hW : Below w.heap.size w W) => hasR_calls (o.params.take k) n F W _ (RdL.below (RdL.take k1 k hk) hF hW (Nat.le_refl _)))
  have HF := Lib.hid hF
  have K1 := Lib.hid k1
  obtain ⟨q, hq⟩ : ∃ q, funcW t s.funcs o = q := ⟨_, rfl⟩
  rw [hq]
  have HQ : Hid (q = seqW (paramsW t [] o.params) (St.kWs t s.funcs 8 o.params 0 o.body)) := hq.symm
  obtain ⟨W1, hW1⟩ : ∃ W1, w.alloc (.cells #[.string s.title, .string s.author, .string s.start, .int .i64 s.release, .int .i64 s.most, .slice a5 s.flags.length c5, .slice a6 s.props.length c6, .slice a7 s.globals.length c7, .slice a8 s.objects.length c8, .slice a9 s.verbs.length c9, .slice a10 s.rules.length c10, .slice a11 s.funcs.length c11, .slice a12 s.daemons.length c12] 29) = W1 := ⟨_, rfl⟩
  have hs1 : W1.heap.size = w.heap.size + 1 := by rw [← hW1]; simp
  have hb1 : Below w.heap.size w W1 := by rw [← hW1]; exact (Below.refl _ _).alloc (Nat.le_refl _) _
  have hx1 : BoxAt W1 w.heap.size [.string s.title, .string s.author, .string s.start, .int .i64 s.release, .int .i64 s.most, .slice a5 s.flags.length c5, .slice a6 s.props.length c6, .slice a7 s.globals.length c7, .slice a8 s.objects.length c8, .slice a9 s.verbs.length c9, .slice a10 s.rules.length c10, .slice a11 s.funcs.length c11, .slice a12 s.daemons.length c12] := by rw [← hW1]; exact BoxAt.new _ _ _
  obtain ⟨W2, hW2⟩ : ∃ W2, W1.alloc (.cells #[.string o.name, .slice p1 o.params.length q1, .slice p2 o.body.length q2] 51) = W2 := ⟨_, rfl⟩
  have hs2 : W2.heap.size = w.heap.size + 1 + 1 := by rw [← hW2]; simp; exact hs1
  have hb2 : Below W1.heap.size W1 W2 := by rw [← hW2]; exact (Below.refl _ _).alloc (Nat.le_refl _) _
  have hx2 : BoxAt W2 W1.heap.size [.string o.name, .slice p1 o.params.length q1, .slice p2 o.body.length q2] := by rw [← hW2]; exact BoxAt.new _ _ _
  rw [hs1] at hx2
  obtain ⟨W3, hW3⟩ : ∃ W3, W2.alloc (.cells #[.int .i64 0, .string ⟨#[]⟩] 79) = W3 := ⟨_, rfl⟩
  have hs3 : W3.heap.size = w.heap.size + 1 + 1 + 1 := by rw [← hW3]; simp; exact hs2
  have hb3 : Below W2.heap.size W2 W3 := by rw [← hW3]; exact (Below.refl _ _).alloc (Nat.le_refl _) _
  have hx3 : WrAt W3 W2.heap.size (0, ⟨#[]⟩) := by rw [← hW3]; exact wr_new _ _ _ _
  rw [hs2] at hx3
  have hE : Hid (∀ W, Below W3.heap.size W3 W → BoxAt W (w.heap.size) [.string s.title, .string s.author, .string s.start, .int .i64 s.release, .int .i64 s.most, .slice a5 s.flags.length c5, .slice a6 s.props.length c6, .slice a7 s.globals.length c7, .slice a8 s.objects.length c8, .slice a9 s.verbs.length c9, .slice a10 s.rules.length c10, .slice a11 s.funcs.length c11, .slice a12 s.daemons.length c12] ∧ BoxAt W (w.heap.size + 1) [.string o.name, .slice p1 o.params.length q1, .slice p2 o.body.length q2] ∧ WrAt W (w.heap.size + 1 + 1) (0, ⟨#[]⟩) ∧ Below w.heap.size w W) := fun W h4 => ⟨hx1.below (hb2.trans ((hb3.trans (h4.mono hb3.size)).mono hb2.size)) (by omega), hx2.below (hb3.trans (h4.mono hb3.size)) (by omega), wr_kept hx3 (by omega) h4, (hb1.trans ((hb2.trans ((hb3.trans (h4.mono hb3.size)).mono hb2.size)).mono hb1.size))⟩
  have HZ0 := Lib.hid hs3
  have HW1 := Lib.hid hW1
  have HW2 := Lib.hid hW2
  have HW3 := Lib.hid hW3
  clear hW1 hs1 hb1 hx1 hW2 hs2 hb2 hx2 hW3 hs3 hb3 hx3
  clear h0 h1 hq hF htab g5 g6 g7 g8 g9 g10 g11 g12 k1 k2 hlone hsz
  go_enter Tryz.func30, Tryz.ntmps30
  go_upto_region 1 with fail
  rw [HW1.out, HW2.out, HW3.out]
  obtain ⟨-, hbo, -, -⟩ := hE.out W3 (Below.refl _ _)
  have y1 := hbo.2 1 (by simp)
  simp only [List.getElem?_cons_succ, List.getElem?_cons_zero] at y1
  clear hbo
  obtain ⟨_, _, he9, hl9, hc9, h9⟩ := (K1.out).opn
  cases he9
  unfold maxLen at hc9
  go_wp2_with fail
  go_loopw [7] (fun i wr => ∃ k : Nat, k ≤ o.params.length ∧ i = .int .i64 k ∧ Hid (q = seqW (paramsW t (o.params.take k) (o.params.drop k)) (St.kWs t s.funcs 8 o.params 0 o.body)) ∧ Below W3.heap.size W3 wr) (fun i _ => o.params.length - (intOf i).toNat)
  case atStart => exact ⟨0, Nat.zero_le _, rfl, by show _ = _; rw [List.drop_zero, List.take_zero]; exact HQ.out, Below.refl _ _⟩
  case round =>
    clear y1
    obtain ⟨k, hk, rfl, hinv, hB⟩ := hrel
    obtain ⟨hbx, hbo, ⟨⟨f0, f1⟩, z0, z1⟩, hbt⟩ := hE.out wr hB
    have HB := Lib.hid hB
    have HBT := Lib.hid hbt
    by_cases hlt : k < o.params.length
    · obtain ⟨pb, po, rfl, hFpb, hel9⟩ := h9 (by omega)
      obtain ⟨cs9, ⟨hxs, rfl⟩, -, hcell9⟩ := hel9 wr (hbt.block pb (HF.out pb hFpb)) k hlt
      have g0 := hcell9 0 _ rfl
      simp only [Nat.add_zero, Nat.mul_one] at g0
      have hdk : paramsW t (o.params.take k) (o.params.drop k) = seqW (parW t (o.params.take k) o.params[k]) (paramsW t (o.params.take (k + 1)) (o.params.drop (k + 1))) := by
        rw [List.drop_eq_getElem_cons hlt, List.take_succ_eq_append_getElem hlt]; rfl
      have hq1 := hinv.out
      rw [hdk, seqW_assoc] at hq1
      unfold parW at hq1
      generalize o.params[k] = x at g0 hq1 hxs
      have hN := isNameR_calls x wr hxs
      have hKy := keyR_calls x wr hxs
      have hFd := HFD.out x wr hbt
      have hHs := HHS.out x k (by omega)
      have y1 := hbo.2 1 (by simp)
      simp only [List.getElem?_cons_succ, List.getElem?_cons_zero] at y1
      have hki : (k : Int) < (o.params.length : Int) := by omega
      have hki0 : (0 : Int) ≤ (k : Int) := by omega
      have hkic : (k : Int) ≤ (q1 : Int) := by omega
      have HQ2 := Lib.hid hq1
      clear hel9 h9 hcell9 hdk hinv hq1 hbx hbo hbt hB
      by_cases hn : IsName x
      rotate_left
      · rw [dec_false hn] at hN
        have HN := Lib.hid hN
        have hfin : Hid (q = (9, x)) := by show _ = _; rw [HQ2.out, dec_false (fun h => hn h.1), if_neg (by decide)]; exact seqW_bad (show ¬ ((9 : Int) = 0) by decide)
        clear hN hKy hFd hHs hn hxs
        go_wp2_with (go_at_call 18; refine HN.out.mono ?_; rintro e w1 ⟨rfl, rfl⟩)
        exact bodyPost_ret (v := wrongR (9, x)) (by simp [results, Tryz.results30, go_sem, wrongR, f0, f1]; try rfl) rfl ⟨by rw [hfin.out], two_set HBT.out (by omega)⟩
      rw [dec_true hn] at hN
      by_cases hk9 : IsKey x
      · rw [dec_true hk9] at hKy
        have HN := Lib.hid hN
        have HK := Lib.hid hKy
        have hfin : Hid (q = (9, x)) := by show _ = _; rw [HQ2.out, dec_false (fun h => h.2 hk9), if_neg (by decide)]; exact seqW_bad (show ¬ ((9 : Int) = 0) by decide)
        clear hN hKy hFd hHs hn hxs hk9
        go_wp2_with (first | (go_at_call 18; refine HN.out.mono ?_; rintro e w1 ⟨rfl, rfl⟩) | (go_at_call 19; refine HK.out.mono ?_; rintro e w1 ⟨rfl, rfl⟩))
        exact bodyPost_ret (v := wrongR (9, x)) (by simp [results, Tryz.results30, go_sem, wrongR, f0, f1]; try rfl) rfl ⟨by rw [hfin.out], two_set HBT.out (by omega)⟩
      rw [dec_false hk9] at hKy
      have HN := Lib.hid hN
      have HK := Lib.hid hKy
      have HQ3 : Hid (q = seqW (if dec ((findN t x).isSome = true ∨ x ∈ o.params.take k) = true then (10, x) else fineW) (seqW (paramsW t (o.params.take (k + 1)) (o.params.drop (k + 1))) (St.kWs t s.funcs 8 o.params 0 o.body))) := by show _ = _; rw [HQ2.out, dec_true (p := IsName x ∧ ¬ IsKey x) ⟨hn, hk9⟩, if_pos rfl]
      clear hN hKy hn hk9 hxs HQ2
      have hkp : Hid (∀ w3, Below wr.heap.size wr w3 → BoxAt w3 (w.heap.size + 1) [.string o.name, .slice (some ⟨pb, po, none⟩) o.params.length q1, .slice p2 o.body.length q2] ∧ WrAt w3 (w.heap.size + 1 + 1) (0, ⟨#[]⟩) ∧ Below w.heap.size w w3) := fun w3 h3 => (hE.out w3 (HB.out.trans (h3.mono HB.out.size))).2
      cases hf : findN t x with
      | some y =>
        rw [hf] at hFd
        have hfin : Hid (q = (10, x)) := by show _ = _; rw [HQ3.out, dec_true (.inl (by rw [hf]; rfl)), if_pos rfl]; exact seqW_bad (show ¬ ((10 : Int) = 0) by decide)
        have HFD2 := Lib.hid (found_some hFd)
        clear hFd hHs hf HQ3 f0 f1 z0 z1
        go_upto_region 8 with (first | (go_at_call 18; refine HN.out.mono ?_; rintro e w1 ⟨rfl, rfl⟩) | (go_at_call 19; refine HK.out.mono ?_; rintro e w1 ⟨rfl, rfl⟩) | (go_at_call 17; refine HFD2.out.mono ?_; rintro e w2 ⟨rfl, hb2⟩))
        have hAb : Hid (∃ wb, w2.alloc (.cells #[.string y.name, .int .i64 y.kind, .int .i64 y.num] 63) = wb ∧ Below wr.heap.size wr wb) := ⟨_, rfl, hb2.alloc hb2.size _⟩
        obtain ⟨wb, hwb, hbb⟩ := hAb.out
        rw [hwb]
        obtain ⟨-, ⟨⟨f0, f1⟩, z0, z1⟩, hbt⟩ := hkp.out wb hbb
        have HBT2 := Lib.hid hbt
        clear hAb hwb hbb hbt hb2 y1 g0
        go_wp2_with fail
        exact bodyPost_ret (v := wrongR (10, x)) (by simp [results, Tryz.results30, go_sem, wrongR, f0, f1]; try rfl) rfl ⟨by rw [hfin.out], two_set HBT2.out (by omega)⟩
      | none =>
        rw [hf] at hFd
        have HFD2 := Lib.hid (found_none hFd)
        clear hFd f0 f1 z0 z1
        by_cases hm : x ∈ o.params.take k
        · have hfin : Hid (q = (10, x)) := by show _ = _; rw [HQ3.out, dec_true (.inr hm), if_pos rfl]; exact seqW_bad (show ¬ ((10 : Int) = 0) by decide)
          rw [dec_true hm] at hHs
          have HH := Lib.hid hHs
          clear hHs hf HQ3 hm
          go_upto_region 8 with (first | (go_at_call 18; refine HN.out.mono ?_; rintro e w1 ⟨rfl, rfl⟩) | (go_at_call 19; refine HK.out.mono ?_; rintro e w1 ⟨rfl, rfl⟩) | (go_at_call 17; refine HFD2.out.mono ?_; rintro e w2 ⟨rfl, hb2⟩))
          have hAb : Hid (∃ wb, w2.alloc (.cells #[.string ⟨#[]⟩, .int .i64 0, .int .i64 0] 63) = wb ∧ Below wr.heap.size wr wb) := ⟨_, rfl, hb2.alloc hb2.size _⟩
          obtain ⟨wb, hwb, hbb⟩ := hAb.out
          rw [hwb]
          obtain ⟨hbo2, ⟨⟨f0, f1⟩, z0, z1⟩, hbt⟩ := hkp.out wb hbb
          have HBT2 := Lib.hid hbt
          have v1 := hbo2.2 1 (by simp)
          simp only [List.getElem?_cons_succ, List.getElem?_cons_zero] at v1
          have HH2 := Lib.hid (HH.out wb hbt)
          clear hAb hwb hbb hbt hb2 y1 g0 hbo2 HH
          go_wp2_with (go_at_call 58; refine HH2.out.mono ?_; rintro e w5 ⟨rfl, rfl⟩)
          exact bodyPost_ret (v := wrongR (10, x)) (by simp [results, Tryz.results30, go_sem, wrongR, f0, f1]; try rfl) rfl ⟨by rw [hfin.out], two_set HBT2.out (by omega)⟩
        · have hnx : Hid (q = seqW (paramsW t (o.params.take (k + 1)) (o.params.drop (k + 1))) (St.kWs t s.funcs 8 o.params 0 o.body)) := by show _ = _; rw [HQ3.out, dec_false (fun h => h.elim (fun h => by rw [hf] at h; exact absurd h (by simp)) hm), if_neg (by decide)]; exact seqW_fine rfl
          rw [dec_false hm] at hHs
          have HH := Lib.hid hHs
          clear hHs hf HQ3 hm
          go_upto_region 8 with (first | (go_at_call 18; refine HN.out.mono ?_; rintro e w1 ⟨rfl, rfl⟩) | (go_at_call 19; refine HK.out.mono ?_; rintro e w1 ⟨rfl, rfl⟩) | (go_at_call 17; refine HFD2.out.mono ?_; rintro e w2 ⟨rfl, hb2⟩))
          have hAb : Hid (∃ wb, w2.alloc (.cells #[.string ⟨#[]⟩, .int .i64 0, .int .i64 0] 63) = wb ∧ Below wr.heap.size wr wb) := ⟨_, rfl, hb2.alloc hb2.size _⟩
          obtain ⟨wb, hwb, hbb⟩ := hAb.out
          rw [hwb]
          obtain ⟨hbo2, -, hbt⟩ := hkp.out wb hbb
          have HBB := Lib.hid hbb
          have v1 := hbo2.2 1 (by simp)
          simp only [List.getElem?_cons_succ, List.getElem?_cons_zero] at v1
          have HH2 := Lib.hid (HH.out wb hbt)
          clear hAb hwb hbb hbt hb2 y1 g0 hbo2 HH
          go_wp2_with (go_at_call 58; refine HH2.out.mono ?_; rintro e w5 ⟨rfl, rfl⟩)
          go_roundw
          case rel => exact ⟨k + 1, by omega, by go_num, hnx.out, HB.out.trans (HBB.out.mono HB.out.size)⟩
          case measure => simp [intOf]; omega
    · have hq1 := hinv.out
      rw [List.drop_eq_nil_of_le (by omega)] at hq1
      have hq2 : q = St.kWs t s.funcs 8 o.params 0 o.body := by rw [hq1]; exact seqW_fine rfl
      have hc := HBL.out wr hbt
      have y1 := hbo.2 1 (by simp)
      have y2 := hbo.2 2 (by simp)
      simp only [List.getElem?_cons_succ, List.getElem?_cons_zero] at y1 y2
      have x0 := hbx.2 0 (by simp)
      have x1 := hbx.2 1 (by simp)
      have x2 := hbx.2 2 (by simp)
      have x3 := hbx.2 3 (by simp)
      have x4 := hbx.2 4 (by simp)
      have x5 := hbx.2 5 (by simp)
      have x6 := hbx.2 6 (by simp)
      have x7 := hbx.2 7 (by simp)
      have x8 := hbx.2 8 (by simp)
      have x9 := hbx.2 9 (by simp)
      have x10 := hbx.2 10 (by simp)
      have x11 := hbx.2 11 (by simp)
      have x12 := hbx.2 12 (by simp)
      simp only [List.getElem?_cons_succ, List.getElem?_cons_zero] at x0 x1 x2 x3 x4 x5 x6 x7 x8 x9 x10 x11 x12
      have hki : decide ((k : Int) < (o.params.length : Int)) = false := by simpa using hlt
      generalize St.kWs t s.funcs 8 o.params 0 o.body = p at hc hq2
      have HC := Lib.hid hc
      have hfin := Lib.hid hq2
      have hkp : Hid (∀ w3, Below wr.heap.size wr w3 → WrAt w3 (w.heap.size + 1 + 1) (0, ⟨#[]⟩) ∧ Below w.heap.size w w3) := fun w3 h3 => (hE.out w3 (HB.out.trans (h3.mono HB.out.size))).2.2
      clear hinv hq1 hq2 hc hbx hbo hbt hB h9 f0 f1 z0 z1
      go_wp2_with (go_at_call 31; refine HC.out.mono ?_; rintro e w3 ⟨rfl, hb3⟩; obtain ⟨⟨⟨f0, f1⟩, z0, z1⟩, hbw⟩ := hkp.out w3 hb3; unfold wrongR)
      exact bodyPost_ret (v := wrongR p) (by simp [results, Tryz.results30, go_sem, wrongR, f0, f1]; try rfl) rfl ⟨by rw [hfin.out], two_set hbw (by omega)⟩
end Go.Proofs.YtblhpiebheommaaGreat
