/- The walks of clewref16's rule and function. Printed by gen-refe.py. -/
import Derived.Test.YtblhpiebheommaaGreatKindsChecksPart29
import Derived.Test.YtblhpiebheommaaGreatKindsChecksPart33
import Derived.Test.YtblhpiebheommaaGreatKinds35
namespace Go.Proofs.YtblhpiebheommaaGreat
open Go.RowKit

set_option maxRecDepth 100000 in
set_option maxHeartbeats 8000000 in
theorem ruleR_calls (t : List NameD) (s : SrcD) (o : RuleD) (F : Nat → Prop) (w : World) (tv : Value) (ss rs : List Value) (hF : Inn F w) (htab : TabOk t s.funcs s.objects.length) (h0 : RdNames F w t tv) (h1 : Holds.src.R F w s ss) (h2 : Holds.rule.R F w o rs) (hone : o.cond.length ≤ 1) (hlone : St.lones o.body) (hsz : St.sizes o.body ≤ 1000000) :
    Calls Tryz.prog 29 #[tv, .agg ss.toArray, .agg rs.toArray] w (Gives w (wrongR (ruleW t s.funcs o))) := by
  have HOF := Lib.hid (fun (kind : Int) (n : ByteArray) (W : World) (hW : Below w.heap.size w W) => ofW_calls t kind n F W tv (hF.below hW) (RdL.below h0 hF hW (Nat.le_refl _)))
  have HEX := Lib.hid (fun (e : Ex) (es : List Value) (hrx : RdEx F w e es) (W : World) (hW : Below w.heap.size w W) => kexprR_calls t s htab e [] F W tv (.slice none 0 0) ss es (hF.below hW) (RdL.below h0 hF hW (Nat.le_refl _)) (Holds.below _ h1 hF hW (Nat.le_refl _)) (RdL.nil _ _ _ _ _ _ (Nat.zero_le _)) (hrx.below hF hW (Nat.le_refl _)))
  obtain ⟨-, -, -, -, v4, v5, rfl, k4, k5⟩ := h2
  have HBL := Lib.hid (fun (W : World) (hW : Below w.heap.size w W) => rBlock_calls t s htab o.body [] 7 0 F W tv (.slice none 0 0) v5 ss (hF.below hW) hlone hsz (RdL.below h0 hF hW (Nat.le_refl _)) (Holds.below _ h1 hF hW (Nat.le_refl _)) (RdL.nil _ _ _ _ _ _ (Nat.zero_le _)) (Sts.below k5 hF hW (Nat.le_refl _)) (by omega) (by omega) (by simp))
  obtain ⟨a0, c0, rfl⟩ := h0.shape
  obtain ⟨a5, c5, a6, c6, a7, c7, a8, c8, a9, c9, a10, c10, a11, c11, a12, c12, rfl, g5, g6, g7, g8, g9, g10, g11, g12⟩ := src_shape h1
  obtain ⟨p4, q4, rfl⟩ := k4.shape
  obtain ⟨p5, q5, rfl⟩ := k5.shape
  have HF := Lib.hid hF
  have HONE := Lib.hid hone
  have K4 := Lib.hid k4
  obtain ⟨q, hq⟩ : ∃ q, ruleW t s.funcs o = q := ⟨_, rfl⟩
  rw [hq]
  have HQ : Hid (q = seqW (ofW t 5 o.verb) (seqW (if o.noun = ⟨#[]⟩ then fineW else ofW t 4 o.noun) (seqW (if o.second = ⟨#[]⟩ then fineW else ofW t 4 o.second) (seqW (Ex.kWs t s.funcs [] o.cond) (St.kWs t s.funcs 7 [] 0 o.body))))) := by
    show _ = _
    rw [← hq]
    unfold ruleW neW neW neW
    rw [seqW_assoc, seqW_assoc, seqW_fine (a := fineW) rfl]
  have hcl5 := clean_kWsS t s.funcs 7 o.body [] 0
  have HCL5 := Lib.hid hcl5
  obtain ⟨W1, hW1⟩ : ∃ W1, w.alloc (.cells #[.string s.title, .string s.author, .string s.start, .int .i64 s.release, .int .i64 s.most, .slice a5 s.flags.length c5, .slice a6 s.props.length c6, .slice a7 s.globals.length c7, .slice a8 s.objects.length c8, .slice a9 s.verbs.length c9, .slice a10 s.rules.length c10, .slice a11 s.funcs.length c11, .slice a12 s.daemons.length c12] 29) = W1 := ⟨_, rfl⟩
  have hs1 : W1.heap.size = w.heap.size + 1 := by rw [← hW1]; simp
  have hb1 : Below w.heap.size w W1 := by rw [← hW1]; exact (Below.refl _ _).alloc (Nat.le_refl _) _
  have hx1 : BoxAt W1 w.heap.size [.string s.title, .string s.author, .string s.start, .int .i64 s.release, .int .i64 s.most, .slice a5 s.flags.length c5, .slice a6 s.props.length c6, .slice a7 s.globals.length c7, .slice a8 s.objects.length c8, .slice a9 s.verbs.length c9, .slice a10 s.rules.length c10, .slice a11 s.funcs.length c11, .slice a12 s.daemons.length c12] := by rw [← hW1]; exact BoxAt.new _ _ _
  obtain ⟨W2, hW2⟩ : ∃ W2, W1.alloc (.cells #[.string o.verb, .int .i64 o.phase, .string o.noun, .string o.second, .slice p4 o.cond.length q4, .slice p5 o.body.length q5] 48) = W2 := ⟨_, rfl⟩
  have hs2 : W2.heap.size = w.heap.size + 1 + 1 := by rw [← hW2]; simp; exact hs1
  have hb2 : Below W1.heap.size W1 W2 := by rw [← hW2]; exact (Below.refl _ _).alloc (Nat.le_refl _) _
  have hx2 : BoxAt W2 W1.heap.size [.string o.verb, .int .i64 o.phase, .string o.noun, .string o.second, .slice p4 o.cond.length q4, .slice p5 o.body.length q5] := by rw [← hW2]; exact BoxAt.new _ _ _
  rw [hs1] at hx2
  obtain ⟨W3, hW3⟩ : ∃ W3, W2.alloc (.cells #[.int .i64 0, .string ⟨#[]⟩] 79) = W3 := ⟨_, rfl⟩
  have hs3 : W3.heap.size = w.heap.size + 1 + 1 + 1 := by rw [← hW3]; simp; exact hs2
  have hb3 : Below W2.heap.size W2 W3 := by rw [← hW3]; exact (Below.refl _ _).alloc (Nat.le_refl _) _
  have hx3 : WrAt W3 W2.heap.size (0, ⟨#[]⟩) := by rw [← hW3]; exact wr_new _ _ _ _
  rw [hs2] at hx3
  have hE : Hid (∀ W, Below W3.heap.size W3 W → BoxAt W (w.heap.size) [.string s.title, .string s.author, .string s.start, .int .i64 s.release, .int .i64 s.most, .slice a5 s.flags.length c5, .slice a6 s.props.length c6, .slice a7 s.globals.length c7, .slice a8 s.objects.length c8, .slice a9 s.verbs.length c9, .slice a10 s.rules.length c10, .slice a11 s.funcs.length c11, .slice a12 s.daemons.length c12] ∧ BoxAt W (w.heap.size + 1) [.string o.verb, .int .i64 o.phase, .string o.noun, .string o.second, .slice p4 o.cond.length q4, .slice p5 o.body.length q5] ∧ WrAt W (w.heap.size + 1 + 1) (0, ⟨#[]⟩) ∧ Below w.heap.size w W) := fun W h4 => ⟨hx1.below (hb2.trans ((hb3.trans (h4.mono hb3.size)).mono hb2.size)) (by omega), hx2.below (hb3.trans (h4.mono hb3.size)) (by omega), wr_kept hx3 (by omega) h4, (hb1.trans ((hb2.trans ((hb3.trans (h4.mono hb3.size)).mono hb2.size)).mono hb1.size))⟩
  have HZ0 := Lib.hid hs3
  have HW1 := Lib.hid hW1
  have HW2 := Lib.hid hW2
  have HW3 := Lib.hid hW3
  clear hW1 hs1 hb1 hx1 hW2 hs2 hb2 hx2 hW3 hs3 hb3 hx3
  clear h0 h1 hq hF htab g5 g6 g7 g8 g9 g10 g11 g12 hone k4 k5 hlone hsz hcl5
  go_enter Tryz.func29, Tryz.ntmps29
  go_upto_region 1 with fail
  rw [HW1.out, HW2.out, HW3.out]
  obtain ⟨-, hbo, -, hbt⟩ := hE.out W3 (Below.refl _ _)
  have HC0 := Lib.hid (HOF.out 5 o.verb W3 hbt)
  have y0 := hbo.2 0 (by simp)
  simp only [List.getElem?_cons_zero] at y0
  clear hbo hbt
  go_upto_region 2 with (go_at_call 50; refine HC0.out.mono ?_; rintro e w1 ⟨rfl, hb1⟩; unfold wrongR)
  have hc0 := clean_of t 5 o.verb
  generalize ofW t 5 o.verb = p0 at HQ hc0
  have HCL0 := Lib.hid hc0
  have hAb : Hid (∃ wb b8, w1.alloc (.cells #[.int .i64 p0.1, .string p0.2] 79) = wb ∧ w1.heap.size = b8 ∧ Below b8 w1 wb ∧ b8 < wb.heap.size ∧ WrAt wb b8 p0) := ⟨_, _, rfl, rfl, (Below.refl _ _).alloc (Nat.le_refl _) _, by simp, wr_new _ _ _ _⟩
  obtain ⟨wb, b8, hwb, hb8, hBw, hz8, hwr8⟩ := hAb.out
  rw [hwb]
  simp only [hb8]
  have hALL : Hid (∀ W, Below b8 w1 W → BoxAt W w.heap.size [.string s.title, .string s.author, .string s.start, .int .i64 s.release, .int .i64 s.most, .slice a5 s.flags.length c5, .slice a6 s.props.length c6, .slice a7 s.globals.length c7, .slice a8 s.objects.length c8, .slice a9 s.verbs.length c9, .slice a10 s.rules.length c10, .slice a11 s.funcs.length c11, .slice a12 s.daemons.length c12] ∧ BoxAt W (w.heap.size + 1) [.string o.verb, .int .i64 o.phase, .string o.noun, .string o.second, .slice p4 o.cond.length q4, .slice p5 o.body.length q5] ∧ WrAt W (w.heap.size + 1 + 1) (0, ⟨#[]⟩) ∧ Below w.heap.size w W) := fun W hW => hE.out W (hb1.trans (hW.mono (by have := hb1.size; omega)))
  have hLE : Hid (w.heap.size + 1 + 1 + 1 ≤ b8) := by show _ ≤ _; have h1 := hb1.size; have h3 := HZ0.out; omega
  have hcut : Hid (StgAt w1 b8 q (seqW (if o.noun = ⟨#[]⟩ then fineW else ofW t 4 o.noun) (seqW (if o.second = ⟨#[]⟩ then fineW else ofW t 4 o.second) (seqW (Ex.kWs t s.funcs [] o.cond) (St.kWs t s.funcs 7 [] 0 o.body)))) wb) := ⟨p0, HQ.out, HCL0.out, hwr8, hBw, hz8⟩
  obtain ⟨wc, rfl⟩ : ∃ x : World, x = wb := ⟨_, rfl⟩
  clear hAb hwb hb8 hb1 hBw hz8 hwr8 HQ HC0 HCL0 y0 hc0
  obtain ⟨p, hq, hcl, hwr, hB, hz8⟩ := hcut.out
  have HQ := Lib.hid hq
  have HCL := Lib.hid hcl
  have HWR := Lib.hid hwr
  have HB := Lib.hid hB
  have HZ := Lib.hid hz8
  obtain ⟨⟨q0, q1⟩, z0, z1⟩ := hwr
  obtain ⟨hbx, hbo, -, hbt⟩ := hALL.out wc hB
  have HBT := Lib.hid hbt
  have hkp : Hid (∀ w3, Below wc.heap.size wc w3 → WrAt w3 b8 p) := fun w3 h3 => wr_kept HWR.out HZ.out h3
  have y2 := hbo.2 2 (by simp)
  simp only [List.getElem?_cons_succ, List.getElem?_cons_zero] at y2
  clear hcut hq hcl hB hz8 hbt hbx hbo
  go_upto_region 2 with fail
  obtain ⟨wX, rfl⟩ : ∃ x : World, x = wc := ⟨_, rfl⟩
  go_cut [19] (fun v wc => Hid (∃ b : Bool, v = .bool b ∧ (b = true → q = seqW (ofW t 4 o.noun) (seqW (if o.second = ⟨#[]⟩ then fineW else ofW t 4 o.second) (seqW (Ex.kWs t s.funcs [] o.cond) (St.kWs t s.funcs 7 [] 0 o.body)))) ∧ (b = false → q = seqW p (seqW (if o.second = ⟨#[]⟩ then fineW else ofW t 4 o.second) (seqW (Ex.kWs t s.funcs [] o.cond) (St.kWs t s.funcs 7 [] 0 o.body)))) ∧ wc = wX))
  case first =>
    by_cases hz : p.1 = 0
    · have hp1 : (p.1 == 0) = true := by simpa using hz
      have hnx : Hid (q = seqW (if o.noun = ⟨#[]⟩ then fineW else ofW t 4 o.noun) (seqW (if o.second = ⟨#[]⟩ then fineW else ofW t 4 o.second) (seqW (Ex.kWs t s.funcs [] o.cond) (St.kWs t s.funcs 7 [] 0 o.body)))) := by show _ = _; rw [HQ.out, seqW_fine hz]
      have hz2 : Hid (p = fineW) := HCL.out hz
      clear hz
      by_cases hn : o.noun = ⟨#[]⟩
      · have hr : Hid (q = seqW p (seqW (if o.second = ⟨#[]⟩ then fineW else ofW t 4 o.second) (seqW (Ex.kWs t s.funcs [] o.cond) (St.kWs t s.funcs 7 [] 0 o.body)))) := by show _ = _; rw [hnx.out, if_pos hn, hz2.out]
        have hev : Hid (o.noun.toList.isEmpty = true) := by show _ = _; rw [emp_str]; exact decide_eq_true hn
        clear hn
        go_wp2_with fail
        go_meet
        exact ⟨false, by rw [hev.out]; rfl, fun h => absurd h (by decide), fun _ => hr.out, rfl⟩
      · have hr : Hid (q = seqW (ofW t 4 o.noun) (seqW (if o.second = ⟨#[]⟩ then fineW else ofW t 4 o.second) (seqW (Ex.kWs t s.funcs [] o.cond) (St.kWs t s.funcs 7 [] 0 o.body)))) := by show _ = _; rw [hnx.out, if_neg hn]
        have hev : Hid (o.noun.toList.isEmpty = false) := by show _ = _; rw [emp_str]; exact decide_eq_false hn
        clear hn
        go_wp2_with fail
        go_meet
        exact ⟨true, by rw [hev.out]; rfl, fun _ => hr.out, fun h => absurd h (by decide), rfl⟩
    · have hp1 : (p.1 == 0) = false := by simpa using hz
      have hr : Hid (q = seqW p (seqW (if o.second = ⟨#[]⟩ then fineW else ofW t 4 o.second) (seqW (Ex.kWs t s.funcs [] o.cond) (St.kWs t s.funcs 7 [] 0 o.body)))) := by show _ = _; rw [HQ.out, seqW_bad hz, seqW_bad hz]
      clear hz
      go_wp2_with fail
      go_meet
      exact ⟨false, rfl, fun h => absurd h (by decide), fun _ => hr.out, rfl⟩
  case rest =>
    obtain ⟨b, rfl, hbt1, hbf1, rfl⟩ := hcut.out
    have HBT1 := Lib.hid hbt1
    have HBF1 := Lib.hid hbf1
    have hc := HOF.out 4 o.noun _ HBT.out
    have hcn := clean_of t 4 o.noun
    generalize ofW t 4 o.noun = p' at hc hcn HBT1
    have HC := Lib.hid hc
    have HCN := Lib.hid hcn
    clear hcut hbt1 hbf1 hc hcn
    go_upto_if 19 with fail
    go_cut [] (fun wc => Hid (StgAt w1 b8 q (seqW (if o.second = ⟨#[]⟩ then fineW else ofW t 4 o.second) (seqW (Ex.kWs t s.funcs [] o.cond) (St.kWs t s.funcs 7 [] 0 o.body))) wc))
    case first =>
      cases b
      · have hr := Lib.hid (HBF1.out rfl)
        go_wp2_with fail
        go_meet
        exact ⟨p, hr.out, HCL.out, HWR.out, HB.out, HZ.out⟩
      · have hr := Lib.hid (HBT1.out rfl)
        go_wp2_with (go_at_call 50; refine (HC.out).mono ?_; rintro e w3 ⟨rfl, hb3⟩; obtain ⟨⟨f0', f1'⟩, s0, s1⟩ := hkp.out w3 hb3; unfold wrongR)
        go_meet
        exact stg_put hr.out HCN.out HWR.out HB.out HZ.out hb3
    case rest =>
      clear q0 q1 z0 z1 y2 HQ HCL HWR HB HZ HBT hkp HC HCN HBT1 HBF1
      obtain ⟨p, hq, hcl, hwr, hB, hz8⟩ := hcut.out
      have HQ := Lib.hid hq
      have HCL := Lib.hid hcl
      have HWR := Lib.hid hwr
      have HB := Lib.hid hB
      have HZ := Lib.hid hz8
      obtain ⟨⟨q0, q1⟩, z0, z1⟩ := hwr
      obtain ⟨hbx, hbo, -, hbt⟩ := hALL.out wc hB
      have HBT := Lib.hid hbt
      have hkp : Hid (∀ w3, Below wc.heap.size wc w3 → WrAt w3 b8 p) := fun w3 h3 => wr_kept HWR.out HZ.out h3
      have y3 := hbo.2 3 (by simp)
      simp only [List.getElem?_cons_succ, List.getElem?_cons_zero] at y3
      clear hcut hq hcl hB hz8 hbt hbx hbo
      go_upto_region 4 with fail
      obtain ⟨wX, rfl⟩ : ∃ x : World, x = wc := ⟨_, rfl⟩
      go_cut [31] (fun v wc => Hid (∃ b : Bool, v = .bool b ∧ (b = true → q = seqW (ofW t 4 o.second) (seqW (Ex.kWs t s.funcs [] o.cond) (St.kWs t s.funcs 7 [] 0 o.body))) ∧ (b = false → q = seqW p (seqW (Ex.kWs t s.funcs [] o.cond) (St.kWs t s.funcs 7 [] 0 o.body))) ∧ wc = wX))
      case first =>
        by_cases hz : p.1 = 0
        · have hp1 : (p.1 == 0) = true := by simpa using hz
          have hnx : Hid (q = seqW (if o.second = ⟨#[]⟩ then fineW else ofW t 4 o.second) (seqW (Ex.kWs t s.funcs [] o.cond) (St.kWs t s.funcs 7 [] 0 o.body))) := by show _ = _; rw [HQ.out, seqW_fine hz]
          have hz2 : Hid (p = fineW) := HCL.out hz
          clear hz
          by_cases hn : o.second = ⟨#[]⟩
          · have hr : Hid (q = seqW p (seqW (Ex.kWs t s.funcs [] o.cond) (St.kWs t s.funcs 7 [] 0 o.body))) := by show _ = _; rw [hnx.out, if_pos hn, hz2.out]
            have hev : Hid (o.second.toList.isEmpty = true) := by show _ = _; rw [emp_str]; exact decide_eq_true hn
            clear hn
            go_wp2_with fail
            go_meet
            exact ⟨false, by rw [hev.out]; rfl, fun h => absurd h (by decide), fun _ => hr.out, rfl⟩
          · have hr : Hid (q = seqW (ofW t 4 o.second) (seqW (Ex.kWs t s.funcs [] o.cond) (St.kWs t s.funcs 7 [] 0 o.body))) := by show _ = _; rw [hnx.out, if_neg hn]
            have hev : Hid (o.second.toList.isEmpty = false) := by show _ = _; rw [emp_str]; exact decide_eq_false hn
            clear hn
            go_wp2_with fail
            go_meet
            exact ⟨true, by rw [hev.out]; rfl, fun _ => hr.out, fun h => absurd h (by decide), rfl⟩
        · have hp1 : (p.1 == 0) = false := by simpa using hz
          have hr : Hid (q = seqW p (seqW (Ex.kWs t s.funcs [] o.cond) (St.kWs t s.funcs 7 [] 0 o.body))) := by show _ = _; rw [HQ.out, seqW_bad hz, seqW_bad hz]
          clear hz
          go_wp2_with fail
          go_meet
          exact ⟨false, rfl, fun h => absurd h (by decide), fun _ => hr.out, rfl⟩
      case rest =>
        obtain ⟨b, rfl, hbt1, hbf1, rfl⟩ := hcut.out
        have HBT1 := Lib.hid hbt1
        have HBF1 := Lib.hid hbf1
        have hc := HOF.out 4 o.second _ HBT.out
        have hcn := clean_of t 4 o.second
        generalize ofW t 4 o.second = p' at hc hcn HBT1
        have HC := Lib.hid hc
        have HCN := Lib.hid hcn
        clear hcut hbt1 hbf1 hc hcn
        go_upto_if 31 with fail
        go_cut [] (fun wc => Hid (StgAt w1 b8 q (seqW (Ex.kWs t s.funcs [] o.cond) (St.kWs t s.funcs 7 [] 0 o.body)) wc))
        case first =>
          cases b
          · have hr := Lib.hid (HBF1.out rfl)
            go_wp2_with fail
            go_meet
            exact ⟨p, hr.out, HCL.out, HWR.out, HB.out, HZ.out⟩
          · have hr := Lib.hid (HBT1.out rfl)
            go_wp2_with (go_at_call 50; refine (HC.out).mono ?_; rintro e w3 ⟨rfl, hb3⟩; obtain ⟨⟨f0', f1'⟩, s0, s1⟩ := hkp.out w3 hb3; unfold wrongR)
            go_meet
            exact stg_put hr.out HCN.out HWR.out HB.out HZ.out hb3
        case rest =>
          clear q0 q1 z0 z1 y3 HQ HCL HWR HB HZ HBT hkp HC HCN HBT1 HBF1
          obtain ⟨p, hq, hcl, hwr, hB, hz8⟩ := hcut.out
          have HQ := Lib.hid hq
          have HCL := Lib.hid hcl
          have HWR := Lib.hid hwr
          have HB := Lib.hid hB
          have HZ := Lib.hid hz8
          obtain ⟨⟨q0, q1⟩, z0, z1⟩ := hwr
          obtain ⟨hbx, hbo, -, hbt⟩ := hALL.out wc hB
          have HBT := Lib.hid hbt
          have hkp : Hid (∀ w3, Below wc.heap.size wc w3 → WrAt w3 b8 p) := fun w3 h3 => wr_kept HWR.out HZ.out h3
          have y4 := hbo.2 4 (by simp)
          simp only [List.getElem?_cons_succ, List.getElem?_cons_zero] at y4
          have x0 := hbx.2 0 (by simp)
          have x1 := hbx.2 1 (by simp)
          have x2 := hbx.2 2 (by simp)
          have x3 := hbx.2 3 (by simp)
          have x4 := hbx.2 4 (by simp)
          have x5 := hbx.2 5 (by simp)
          have x6 := hbx.2 6 (by simp)
          have x7 := hbx.2 7 (by simp)
          have x8 := hbx.2 8 (by simp)
          have x9 := hbx.2 9 (by simp)
          have x10 := hbx.2 10 (by simp)
          have x11 := hbx.2 11 (by simp)
          have x12 := hbx.2 12 (by simp)
          simp only [List.getElem?_cons_succ, List.getElem?_cons_zero] at x0 x1 x2 x3 x4 x5 x6 x7 x8 x9 x10 x11 x12
          have hbtx := hbt
          clear hcut hq hcl hB hz8 hbt hbx hbo
          obtain ⟨wX, rfl⟩ : ∃ x : World, x = wc := ⟨_, rfl⟩
          obtain ⟨_, hcl4, hcc4, hca⟩ := (K4.out).opn
          have hcd : o.cond = [] ∨ ∃ e, o.cond = [e] := by
            cases hcx : o.cond with
            | nil => exact .inl rfl
            | cons e r =>
              cases r with
              | nil => exact .inr ⟨e, rfl⟩
              | cons e2 r2 => have := HONE.out; rw [hcx] at this; exact absurd this (by simp)
          go_upto_region 6 with fail
          go_cut [44] (fun v wc => Hid (∃ b : Bool, v = .bool b ∧ (b = true → p = fineW ∧ o.cond ≠ []) ∧ (b = false → q = seqW p (St.kWs t s.funcs 7 [] 0 o.body)) ∧ wc = wX))
          case first =>
            by_cases hz : p.1 = 0
            · have hp1 : (p.1 == 0) = true := by simpa using hz
              have hz2 : Hid (p = fineW) := HCL.out hz
              by_cases hn : o.cond = []
              · have hr : Hid (q = seqW p (St.kWs t s.funcs 7 [] 0 o.body)) := by show _ = _; rw [HQ.out, seqW_fine hz, hn, hz2.out]; rfl
                have hl0 : Hid (decide (0 < o.cond.length) = false) := by show _ = _; rw [hn]; rfl
                clear hn hz hcd hca hbtx
                go_wp2_with fail
                go_meet
                exact ⟨false, by rw [hl0.out], fun h => absurd h (by decide), fun _ => hr.out, rfl⟩
              · have hl0 : Hid (decide (0 < o.cond.length) = true) := decide_eq_true (List.length_pos_iff.2 hn)
                have HN := Lib.hid hn
                clear hn hz hcd hca hbtx
                go_wp2_with fail
                go_meet
                exact ⟨true, by rw [hl0.out], fun _ => ⟨hz2.out, HN.out⟩, fun h => absurd h (by decide), rfl⟩
            · have hp1 : (p.1 == 0) = false := by simpa using hz
              have hr : Hid (q = seqW p (St.kWs t s.funcs 7 [] 0 o.body)) := by show _ = _; rw [HQ.out, seqW_bad hz, seqW_bad hz]
              clear hz hcd hca hbtx
              go_wp2_with fail
              go_meet
              exact ⟨false, rfl, fun h => absurd h (by decide), fun _ => hr.out, rfl⟩
          case rest =>
            obtain ⟨b, rfl, hbt1, hbf1, rfl⟩ := hcut.out
            obtain ⟨wX, rfl⟩ : ∃ x : World, x = wc := ⟨_, rfl⟩
            have HBT1 := Lib.hid hbt1
            have HBF1 := Lib.hid hbf1
            clear hcut hbt1 hbf1
            go_upto_if 44 with fail
            go_cut [] (fun wc => Hid (StgAt w1 b8 q (St.kWs t s.funcs 7 [] 0 o.body) wc))
            case first =>
              cases b
              · clear hcd hca hbtx
                have hr := Lib.hid (HBF1.out rfl)
                go_wp2_with fail
                go_meet
                exact ⟨p, hr.out, HCL.out, HWR.out, HB.out, HZ.out⟩
              · obtain ⟨hpf, hne⟩ := HBT1.out rfl
                rcases hcd with hcd | ⟨ex, hcd⟩
                · exact absurd hcd hne
                have hq9 := HQ.out
                rw [hpf, seqW_fine rfl] at hq9
                obtain ⟨oc, hoc⟩ : ∃ oc, o.cond = oc := ⟨_, rfl⟩
                rw [hoc] at hcd hca hq9 y4
                subst hcd
                obtain ⟨cb, coff, rfl, hFcb, hcel⟩ := hca (by simp)
                obtain ⟨ke, oe, ne, se, ae, me, ce, hxe, f0, f1, f2, f3, f4⟩ := hcel wX (hbtx.block cb (HF.out cb hFcb)) 0 (by simp)
                have hcall := fun W (hW : Below wX.heap.size wX W) => HEX.out ex _ hxe W (hbtx.trans (hW.mono hbtx.size))
                have hke : Ex.kWs t s.funcs [] [ex] = ex.kW t s.funcs [] := seqW_idR (clean_kW _ _ _ ex)
                rw [hke] at hq9
                have hcx := clean_kW t s.funcs [] ex
                generalize ex.kW t s.funcs [] = p6 at hcall hq9 hcx
                have HQ9 := Lib.hid hq9
                have HCX := Lib.hid hcx
                have HCL2 := Lib.hid hcall
                simp only [Nat.zero_mul, Nat.add_zero, List.length_singleton] at f0 f1 f2 f3 f4 y4
                clear hke hcel hca hxe hq9 hcx hcall hpf hne hoc hbtx
                go_upto_region 7 with fail
                go_region_with (go_at_call 57; (with_reducible refine (HCL2.out _ (Below.refl _ wX).drew).mono ?_); rintro e w3 ⟨rfl, hb3⟩; have hbq := (Below.refl wX.heap.size wX).drew.trans hb3; obtain ⟨⟨f0', f1'⟩, s0, s1⟩ := hkp.out w3 hbq; unfold wrongR)
                all_goals (go_wp2_with fail; go_meet; exact stg_put HQ9.out HCX.out HWR.out HB.out HZ.out hbq)
            case rest =>
              clear q0 q1 z0 z1 y4 x0 x1 x2 x3 x4 x5 x6 x7 x8 x9 x10 x11 x12 HQ HCL HWR HB HZ HBT hkp HBT1 HBF1 hcd hca hbtx
              obtain ⟨p, hq, hcl, hwr, hB, hz8⟩ := hcut.out
              have HQ := Lib.hid hq
              have HCL := Lib.hid hcl
              have HWR := Lib.hid hwr
              have HB := Lib.hid hB
              have HZ := Lib.hid hz8
              obtain ⟨⟨q0, q1⟩, z0, z1⟩ := hwr
              obtain ⟨hbx, hbo, -, hbt⟩ := hALL.out wc hB
              have HBT := Lib.hid hbt
              have hkp : Hid (∀ w3, Below wc.heap.size wc w3 → WrAt w3 b8 p) := fun w3 h3 => wr_kept HWR.out HZ.out h3
              have y5 := hbo.2 5 (by simp)
              simp only [List.getElem?_cons_succ, List.getElem?_cons_zero] at y5
              have x0 := hbx.2 0 (by simp)
              have x1 := hbx.2 1 (by simp)
              have x2 := hbx.2 2 (by simp)
              have x3 := hbx.2 3 (by simp)
              have x4 := hbx.2 4 (by simp)
              have x5 := hbx.2 5 (by simp)
              have x6 := hbx.2 6 (by simp)
              have x7 := hbx.2 7 (by simp)
              have x8 := hbx.2 8 (by simp)
              have x9 := hbx.2 9 (by simp)
              have x10 := hbx.2 10 (by simp)
              have x11 := hbx.2 11 (by simp)
              have x12 := hbx.2 12 (by simp)
              simp only [List.getElem?_cons_succ, List.getElem?_cons_zero] at x0 x1 x2 x3 x4 x5 x6 x7 x8 x9 x10 x11 x12
              clear hcut hq hcl hB hz8 hbt hbx hbo
              go_upto_if 54 with fail
              have hc := HBL.out wc HBT.out
              generalize St.kWs t s.funcs 7 [] 0 o.body = p' at hc HCL5 HQ
              have HC := Lib.hid hc
              clear hc
              go_cut [] (fun wc => Hid (StgAt w1 b8 q fineW wc))
              case first =>
                by_cases hz : p.1 = 0
                · have hp1 : (p.1 == 0) = true := by simpa using hz
                  have hnx : Hid (q = seqW p' fineW) := by show _ = _; rw [HQ.out, seqW_fine hz]; exact (seqW_idR HCL5.out).symm
                  clear hz
                  go_wp2_with (go_at_call 31; refine (HC.out).mono ?_; rintro e w3 ⟨rfl, hb3⟩; obtain ⟨⟨f0', f1'⟩, s0, s1⟩ := hkp.out w3 hb3; unfold wrongR)
                  go_meet
                  exact stg_put hnx.out HCL5.out HWR.out HB.out HZ.out hb3
                · have hp1 : (p.1 == 0) = false := by simpa using hz
                  have hnx : Hid (q = seqW p fineW) := by show _ = _; rw [HQ.out, seqW_bad hz, seqW_bad hz]
                  clear hz
                  go_wp2_with fail
                  go_meet
                  exact ⟨p, hnx.out, HCL.out, HWR.out, HB.out, HZ.out⟩
              case rest =>
                clear q0 q1 z0 z1 y5 x0 x1 x2 x3 x4 x5 x6 x7 x8 x9 x10 x11 x12 HQ HCL HWR HB HZ HBT hkp HC
                obtain ⟨p, hq, hcl, hwr, hB, hz8⟩ := hcut.out
                obtain ⟨⟨q0, q1⟩, z0, z1⟩ := hwr
                obtain ⟨-, -, ⟨⟨f0, f1⟩, s0, s1⟩, hbt⟩ := hALL.out wc hB
                have hfin : Hid (q = p) := by show _ = _; rw [hq]; exact seqW_idR hcl
                have HBT := Lib.hid hbt
                clear hcut hq hcl hB hz8 hbt
                go_wp2_with fail
                exact bodyPost_ret (v := wrongR p) (by simp [results, Tryz.results29, go_sem, wrongR, f0, f1]; try rfl) rfl ⟨by rw [hfin.out], two_set HBT.out (by omega)⟩
end Go.Proofs.YtblhpiebheommaaGreat
