/- The walk of clewref16.expr. Printed by gen-kinds22.py. -/
import Derived.Test.YtblhpiebheommaaGreatKindsChecksPart9
import Derived.Test.YtblhpiebheommaaGreatKindsChecksPart10
import Derived.StillTailTactics
import Derived.BigQuiet
import Derived.Deep.QuietTactic
namespace Go.Proofs.YtblhpiebheommaaGreat
open Go.RowKit

theorem wr_set {w : World} {B : Nat} {p0 : Int × ByteArray} (p : Int × ByteArray) (h : WrAt w B p0) : WrAt ((w.setCell ⟨B, 0, none⟩ (.int .i64 p.1)).setCell ⟨B, 1, none⟩ (.string p.2)) B p := by
  obtain ⟨⟨f0, f1⟩, z0, z1⟩ := h
  refine ⟨⟨?_, ?_⟩, by simpa using z0, by simpa using z1⟩
  · rw [cell_oth _ _ _ _ (by intro e; cases e)]
    exact World.cell?_setCell_same' _ _ _ (by rw [f0]; rfl)
  · exact World.cell?_setCell_same' _ _ _ (by rw [cell_oth _ _ _ _ (by intro e; cases e), f1]; rfl)

def Clean (p : Int × ByteArray) : Prop := p.1 = 0 → p = fineW
theorem clean_of (t : List NameD) (kd : Int) (n : ByteArray) : Clean (ofW t kd n) := fun h => by
  unfold ofW at h ⊢
  split
  · rfl
  · rename_i hne; rw [if_neg hne] at h; exact absurd h hne
theorem clean_either (t : List NameD) (l : List ByteArray) (ks : List Int) (n : ByteArray) : Clean (eitherW t l ks n) := fun h => by
  unfold eitherW at h ⊢
  split
  · rfl
  · rename_i hne
    rw [if_neg hne] at h
    cases hf : findN t n with
    | none => rw [hf] at h; simp at h
    | some x =>
      rw [hf] at h
      simp only at h ⊢
      split
      · rfl
      · rename_i h2; rw [if_neg h2] at h; simp at h

theorem clean_seq {a b : Int × ByteArray} (_ha : Clean a) (hb : Clean b) : Clean (seqW a b) := fun h => by
  by_cases h0 : a.1 = 0
  · rw [seqW_fine h0] at h ⊢; exact hb h
  · rw [seqW_bad h0] at h; exact absurd h h0
theorem clean_own (t : List NameD) (fs : List FuncD) (l : List ByteArray) (k : Int) (n : ByteArray) (m : Nat) : Clean (ownEx t fs l k n m) := by
  unfold ownEx
  split
  · exact clean_either _ _ _ _
  · split
    · exact clean_of _ _ _
    · split
      · exact clean_of _ _ _
      · split
        · unfold callW
          split
          · split
            · exact fun _ => rfl
            · exact fun h => absurd h (show ¬ ((7 : Int) = 0) by decide)
          · rename_i hne; exact fun h => absurd h hne
        · exact fun _ => rfl
theorem clean_kWs {t : List NameD} {fs : List FuncD} {l : List ByteArray} : ∀ es : List Ex, (∀ e ∈ es, Clean (e.kW t fs l)) → Clean (Ex.kWs t fs l es)
  | [], _ => fun _ => rfl
  | e :: es, h => clean_seq (h e (by simp)) (clean_kWs es fun x hx => h x (by simp [hx]))
theorem clean_kW (t : List NameD) (fs : List FuncD) (l : List ByteArray) : ∀ e : Ex, Clean (e.kW t fs l) := by
  refine Ex.ind ?_
  intro k o n s args ih
  exact clean_seq (clean_own _ _ _ _ _ _) (clean_kWs args ih)

def KExRC (t : List NameD) (s : SrcD) (e : Ex) : Prop := ∀ (l : List ByteArray) (F : Nat → Prop) (w : World) (tv lv : Value) (ss es : List Value), Inn F w → RdNames F w t tv → Holds.src.R F w s ss → RdStrs F w l lv → RdEx F w e es →
  Calls Tryz.prog 57 #[tv, .agg ss.toArray, lv, .agg es.toArray] w (Gives w (wrongR (e.kW t s.funcs l)))

set_option maxRecDepth 100000 in
set_option maxHeartbeats 8000000 in
theorem kexprR_calls (t : List NameD) (s : SrcD) (htab : TabOk t s.funcs s.objects.length) : ∀ e, KExRC t s e := by
  refine Ex.ind ?_
  intro k o n st args ih l F w tv lv ss es hF h0 h1 h2 hr
  obtain ⟨i1, i2, i3, hss, v, c, rfl, hsl, hrow⟩ := hr
  have hargs : Exs F w args v := ⟨c, hsl, hrow⟩
  obtain ⟨a, cap, rfl⟩ := hargs.shape
  have HO := fun kd (W : World) (hW : Below w.heap.size w W) => ofW_calls t kd st F W tv (hF.below hW) (RdL.below h0 hF hW (Nat.le_refl _))
  have HO2 := fun kd (W : World) (hW : Below w.heap.size w W) => ofR_calls t kd st F W tv (hF.below hW) (RdL.below h0 hF hW (Nat.le_refl _))
  have HE := fun (W : World) (hW : Below w.heap.size w W) => eitherR_calls t l true st F W tv lv (hF.below hW) (RdL.below h0 hF hW (Nat.le_refl _)) (RdL.below h2 hF hW (Nat.le_refl _))
  obtain ⟨a0, c0, rfl⟩ := h0.shape
  obtain ⟨a2, c2, rfl⟩ := h2.shape
  have H1 := Lib.hid h1
  obtain ⟨a5, c5, a6, c6, a7, c7, a8, c8, a9, c9, a10, c10, a11, c11, a12, c12, rfl, -, -, -, -, -, -, g11, -⟩ := src_shape h1
  have hkw : Hid ((Ex.mk k o n st args).kW t s.funcs l = seqW (ownEx t s.funcs l k st args.length) (Ex.kWs t s.funcs l args)) := rfl
  generalize (Ex.mk k o n st args).kW t s.funcs l = r at hkw ⊢
  have hB0 : Below w.heap.size w (((w.alloc (.cells #[.string s.title, .string s.author, .string s.start, .int .i64 s.release, .int .i64 s.most, .slice a5 s.flags.length c5, .slice a6 s.props.length c6, .slice a7 s.globals.length c7, .slice a8 s.objects.length c8, .slice a9 s.verbs.length c9, .slice a10 s.rules.length c10, .slice a11 s.funcs.length c11, .slice a12 s.daemons.length c12] 29)).alloc (.cells #[.int .i64 k, .int .i64 o, .int .i64 n, .string st, .slice a args.length cap] 54)).alloc (.cells #[.int .i64 0, .string ⟨#[]⟩] 79)) := (((Below.refl _ w).alloc (Nat.le_refl _) _).alloc (by simp) _).alloc (by simp <;> omega) _
  have hA : Hid (∃ W0, (((w.alloc (.cells #[.string s.title, .string s.author, .string s.start, .int .i64 s.release, .int .i64 s.most, .slice a5 s.flags.length c5, .slice a6 s.props.length c6, .slice a7 s.globals.length c7, .slice a8 s.objects.length c8, .slice a9 s.verbs.length c9, .slice a10 s.rules.length c10, .slice a11 s.funcs.length c11, .slice a12 s.daemons.length c12] 29)).alloc (.cells #[.int .i64 k, .int .i64 o, .int .i64 n, .string st, .slice a args.length cap] 54)).alloc (.cells #[.int .i64 0, .string ⟨#[]⟩] 79)) = W0 ∧ Below w.heap.size w W0 ∧ W0.heap.size = w.heap.size + 3 ∧ BoxAt W0 w.heap.size [.string s.title, .string s.author, .string s.start, .int .i64 s.release, .int .i64 s.most, .slice a5 s.flags.length c5, .slice a6 s.props.length c6, .slice a7 s.globals.length c7, .slice a8 s.objects.length c8, .slice a9 s.verbs.length c9, .slice a10 s.rules.length c10, .slice a11 s.funcs.length c11, .slice a12 s.daemons.length c12] ∧ BoxAt W0 (w.heap.size + 1) [.int .i64 k, .int .i64 o, .int .i64 n, .string st, .slice a args.length cap] ∧ WrAt W0 (w.heap.size + 1 + 1) (0, ⟨#[]⟩)) := by
    refine ⟨_, rfl, hB0, by simp, ?_, ?_, ?_⟩
    · exact (BoxAt.new w [.string s.title, .string s.author, .string s.start, .int .i64 s.release, .int .i64 s.most, .slice a5 s.flags.length c5, .slice a6 s.props.length c6, .slice a7 s.globals.length c7, .slice a8 s.objects.length c8, .slice a9 s.verbs.length c9, .slice a10 s.rules.length c10, .slice a11 s.funcs.length c11, .slice a12 s.daemons.length c12] 29).below (((Below.refl _ _).alloc (Nat.le_refl _) _).alloc (by simp) _) (by simp)
    · have := (BoxAt.new (w.alloc (.cells #[.string s.title, .string s.author, .string s.start, .int .i64 s.release, .int .i64 s.most, .slice a5 s.flags.length c5, .slice a6 s.props.length c6, .slice a7 s.globals.length c7, .slice a8 s.objects.length c8, .slice a9 s.verbs.length c9, .slice a10 s.rules.length c10, .slice a11 s.funcs.length c11, .slice a12 s.daemons.length c12] 29)) [.int .i64 k, .int .i64 o, .int .i64 n, .string st, .slice a args.length cap] 54).below ((Below.refl _ _).alloc (Nat.le_refl _) (.cells #[.int .i64 0, .string ⟨#[]⟩] 79)) (by simp)
      rw [show (w.alloc (.cells #[.string s.title, .string s.author, .string s.start, .int .i64 s.release, .int .i64 s.most, .slice a5 s.flags.length c5, .slice a6 s.props.length c6, .slice a7 s.globals.length c7, .slice a8 s.objects.length c8, .slice a9 s.verbs.length c9, .slice a10 s.rules.length c10, .slice a11 s.funcs.length c11, .slice a12 s.daemons.length c12] 29)).heap.size = w.heap.size + 1 by simp] at this
      exact this
    · have := wr_new ((w.alloc (.cells #[.string s.title, .string s.author, .string s.start, .int .i64 s.release, .int .i64 s.most, .slice a5 s.flags.length c5, .slice a6 s.props.length c6, .slice a7 s.globals.length c7, .slice a8 s.objects.length c8, .slice a9 s.verbs.length c9, .slice a10 s.rules.length c10, .slice a11 s.funcs.length c11, .slice a12 s.daemons.length c12] 29)).alloc (.cells #[.int .i64 k, .int .i64 o, .int .i64 n, .string st, .slice a args.length cap] 54)) 0 ⟨#[]⟩ 79
      rw [show ((w.alloc (.cells #[.string s.title, .string s.author, .string s.start, .int .i64 s.release, .int .i64 s.most, .slice a5 s.flags.length c5, .slice a6 s.props.length c6, .slice a7 s.globals.length c7, .slice a8 s.objects.length c8, .slice a9 s.verbs.length c9, .slice a10 s.rules.length c10, .slice a11 s.funcs.length c11, .slice a12 s.daemons.length c12] 29)).alloc (.cells #[.int .i64 k, .int .i64 o, .int .i64 n, .string st, .slice a args.length cap] 54)).heap.size = w.heap.size + 1 + 1 by simp] at this
      exact this
  have HFI := Lib.hid fineR_calls
  clear hB0
  go_enter Tryz.func57, Tryz.ntmps57
  go_upto_region 1 with fail
  obtain ⟨W0, hW0, hB0, hz0, hsb, heb, hwr0⟩ := hA.out
  rw [hW0]
  clear hA hW0
  go_upto_region 2 with (go_at_call 52; refine (HFI.out _).mono ?_; rintro e w1 ⟨rfl, hb1⟩; unfold wrongR fineW)
  have hAb : Hid (∃ wb b9, w1.alloc (.cells #[.int .i64 0, .string ⟨#[]⟩] 79) = wb ∧ w1.heap.size = b9 ∧ Below W0.heap.size W0 wb ∧ W0.heap.size ≤ b9 ∧ b9 < wb.heap.size ∧ WrAt wb b9 (0, ⟨#[]⟩)) := ⟨_, _, rfl, rfl, hb1.alloc hb1.size _, hb1.size, by simp, wr_new _ _ _ _⟩
  obtain ⟨wb, b9, hwb, hb9, hBw, hz1, hz2, hwr⟩ := hAb.out
  rw [hwb]
  simp only [hb9]
  have HBw := Lib.hid hBw
  clear hAb hwb hb9 hb1
  have heb2 := heb.below hBw heb.1
  have hsb2 := hsb.below hBw hsb.1
  have d0 := heb2.2 0 (by simp)
  have d3 := heb2.2 3 (by simp)
  have d4 := heb2.2 4 (by simp)
  have d11 := hsb2.2 11 (by simp)
  simp only [List.getElem?_cons_succ, List.getElem?_cons_zero] at d0 d3 d4 d11
  go_upto_block 0 with fail
  have hBb : Below w.heap.size w wb := hB0.trans (hBw.mono hB0.size)
  obtain ⟨fa, fcap, hfe, hfl, hfc, hfa⟩ := g11.opn
  cases hfe
  unfold maxLen at hfc
  have HEB := Lib.hid heb
  have HSB := Lib.hid hsb
  have HWR0 := Lib.hid hwr0
  have HB0 := Lib.hid hB0
  clear heb hsb hwr0 hB0 heb2 hsb2 g11
  have hst : Hid (∀ w3, Below wb.heap.size wb w3 → WrAt w3 b9 (0, ⟨#[]⟩) ∧ Below W0.heap.size W0 w3) := fun w3 hb3 => ⟨wr_kept hwr hz2 hb3, HBw.out.trans (hb3.mono HBw.out.size)⟩
  go_cut [] (fun wc => Hid (∃ p, ownEx t s.funcs l k st args.length = p ∧ Clean p ∧ WrAt wc b9 p ∧ Below W0.heap.size W0 wc))
  case first =>
    clear hargs hrow hsl ih h1 h2 h0
    by_cases h3 : k = 3
    · subst h3
      have how : Hid (ownEx t s.funcs l 3 st args.length = eitherW t l [3, 4] st) := rfl
      have hcl := Lib.hid (clean_either t l [3, 4] st)
      have hcc := HE wb hBb
      rw [show eitherW t l (ksOf true) st = eitherW t l [3, 4] st from rfl] at hcc
      generalize eitherW t l [3, 4] st = p at how hcl hcc
      have HC := Lib.hid hcc
      clear hcc HO HO2 HE
      go_wp2_with (go_at_call 78; refine (HC.out).mono ?_; rintro e w3 ⟨rfl, hb3⟩; obtain ⟨⟨⟨f0, f1⟩, z0, z1⟩, hbw⟩ := hst.out w3 hb3; unfold wrongR)
      go_meet
      exact ⟨p, how.out, hcl.out, wr_set (p0 := (0, ⟨#[]⟩)) p ⟨⟨f0, f1⟩, z0, z1⟩, two_set hbw hz1⟩
    have e3 : (k == 3) = false := by simpa using h3
    by_cases h7 : k = 7
    · subst h7
      have how : Hid (ownEx t s.funcs l 7 st args.length = ofW t 1 st) := rfl
      have hcl := Lib.hid (clean_of t 1 st)
      have hcc := HO 1 wb hBb
      rw [show ofW t 1 st = ofW t 1 st from rfl] at hcc
      generalize ofW t 1 st = p at how hcl hcc
      have HC := Lib.hid hcc
      clear hcc HO HO2 HE
      go_wp2_with (go_at_call 50; refine (HC.out).mono ?_; rintro e w3 ⟨rfl, hb3⟩; obtain ⟨⟨⟨f0, f1⟩, z0, z1⟩, hbw⟩ := hst.out w3 hb3; unfold wrongR)
      go_meet
      exact ⟨p, how.out, hcl.out, wr_set (p0 := (0, ⟨#[]⟩)) p ⟨⟨f0, f1⟩, z0, z1⟩, two_set hbw hz1⟩
    have e7 : (k == 7) = false := by simpa using h7
    by_cases h8 : k = 8
    · subst h8
      have how : Hid (ownEx t s.funcs l 8 st args.length = ofW t 2 st) := rfl
      have hcl := Lib.hid (clean_of t 2 st)
      have hcc := HO 2 wb hBb
      rw [show ofW t 2 st = ofW t 2 st from rfl] at hcc
      generalize ofW t 2 st = p at how hcl hcc
      have HC := Lib.hid hcc
      clear hcc HO HO2 HE
      go_wp2_with (go_at_call 50; refine (HC.out).mono ?_; rintro e w3 ⟨rfl, hb3⟩; obtain ⟨⟨⟨f0, f1⟩, z0, z1⟩, hbw⟩ := hst.out w3 hb3; unfold wrongR)
      go_meet
      exact ⟨p, how.out, hcl.out, wr_set (p0 := (0, ⟨#[]⟩)) p ⟨⟨f0, f1⟩, z0, z1⟩, two_set hbw hz1⟩
    have e8 : (k == 8) = false := by simpa using h8
    by_cases h9 : k = 9
    · subst h9
      have how : Hid (ownEx t s.funcs l 9 st args.length = callW t s.funcs st args.length) := rfl
      have hcc := HO 6 wb hBb
      have hc2 := fun W hW => HO2 6 W hW
      unfold callW at how
      unfold ofW at hcc
      obtain ⟨z, er, hze⟩ : ∃ z er, ofN t 6 st = (z, er) := ⟨_, _, rfl⟩
      rw [hze] at hcc hc2 how
      simp only at hcc hc2 how
      clear HO HO2 HE
      have hst2 : Hid (∀ (w3 w4 : World) (p : Int × ByteArray), Below wb.heap.size wb w3 → Below ((w3.setCell ⟨b9, 0, none⟩ (.int .i64 p.1)).setCell ⟨b9, 1, none⟩ (.string p.2)).heap.size ((w3.setCell ⟨b9, 0, none⟩ (.int .i64 p.1)).setCell ⟨b9, 1, none⟩ (.string p.2)) w4 → WrAt w4 b9 p ∧ Below W0.heap.size W0 w4 ∧ Below w.heap.size w w4) := fun w3 w4 p hb3 hb4 => by
        obtain ⟨hw3, hbw⟩ := hst.out w3 hb3
        have hws := wr_set p hw3
        have hbs : Below W0.heap.size W0 ((w3.setCell ⟨b9, 0, none⟩ (.int .i64 p.1)).setCell ⟨b9, 1, none⟩ (.string p.2)) := two_set hbw hz1
        have hb34 := hbs.trans (hb4.mono hbs.size)
        exact ⟨wr_kept hws (by have := hb3.size; simp [World.setCell]; omega) hb4, hb34, HB0.out.trans (hb34.mono HB0.out.size)⟩
      have hst3 : Hid (∀ (w3 : World) (p : Int × ByteArray), Below wb.heap.size wb w3 → Below w.heap.size w ((w3.setCell ⟨b9, 0, none⟩ (.int .i64 p.1)).setCell ⟨b9, 1, none⟩ (.string p.2))) := fun w3 p hb3 => HB0.out.trans ((two_set (hst.out w3 hb3).2 hz1).mono HB0.out.size)
      by_cases hez : er = 0
      · subst hez
        rw [if_pos rfl] at hcc how
        obtain ⟨x, hxm, hxk, hxz⟩ := ofN_ok hze
        obtain ⟨hx0, hx1⟩ := (htab x hxm).1 hxk
        rw [hxz] at hx0 hx1
        obtain ⟨j, rfl⟩ : ∃ j : Nat, z = (j : Int) := ⟨z.toNat, by omega⟩
        have hj : j < s.funcs.length := by omega
        obtain ⟨fb, foff, rfl, hFfb, hfel⟩ := hfa (by omega)
        have hpm : Hid (∀ W, Below w.heap.size w W → ∃ pa pc, W.cell? ⟨fb, foff + j * 3 + 1, none⟩ = some (.slice pa s.funcs[j].params.length pc)) := fun W hW => by
          obtain ⟨cs, ⟨-, v1, v2, rfl, hps, -⟩, -, hcell⟩ := hfel W (hW.block fb (hF fb hFfb)) j hj
          have q1 := hcell 1 _ rfl
          obtain ⟨pa, pc, rfl⟩ := hps.shape
          exact ⟨pa, pc, q1⟩
        have hge : (s.funcs.map (fun f => f.params.length))[(j : Int).toNat]?.getD args.length = s.funcs[j].params.length := by simp [hj]
        rw [hge] at how
        generalize s.funcs[j].params.length = pl at how hpm
        have HC := Lib.hid hcc
        have HC2 := Lib.hid hc2
        have hj2 : (j : Int) < (s.funcs.length : Int) := by omega
        have hj3 : (0 : Int) ≤ (j : Int) := by omega
        have hge0 : decide ((j : Int) ≥ 0) = true := by simp
        have hlt0 : decide ((j : Int) < (s.funcs.length : Int)) = true := by simpa using hj
        clear hcc hc2 hfa hfel hze hxm hxk hxz hge
        have hrd : Hid (∀ W, Below W0.heap.size W0 W → W.cell? ⟨w.heap.size, 11, none⟩ = some (.slice (some ⟨fb, foff, none⟩) s.funcs.length c11) ∧ W.cell? ⟨w.heap.size + 1, 4, none⟩ = some (.slice a args.length cap) ∧ W.cell? ⟨w.heap.size + 1, 3, none⟩ = some (.string st)) := fun W hW => ⟨(HSB.out.below hW (by omega)).2 11 (by simp), (HEB.out.below hW (by omega)).2 4 (by simp), (HEB.out.below hW (by omega)).2 3 (by simp)⟩
        by_cases hpl : pl = args.length
        · have hq : Hid (ownEx t s.funcs l 9 st args.length = fineW) := by show _ = _; rw [how.out, if_pos hpl]
          subst hpl
          clear how
          go_upto_region 12 with (first | (go_at_call 50; refine (HC.out).mono ?_; rintro e w3 ⟨rfl, hb3⟩; obtain ⟨⟨⟨f0, f1⟩, z0, z1⟩, hbw⟩ := hst.out w3 hb3; obtain ⟨-, -, r3'⟩ := hrd.out ((w3.setCell ⟨b9, 0, none⟩ (.int .i64 0)).setCell ⟨b9, 1, none⟩ (.string ⟨#[]⟩)) (two_set hbw hz1); unfold wrongR fineW) | (go_at_call 51; refine (HC2.out _ (hst3.out w3 fineW hb3)).mono ?_; rintro e w4 ⟨rfl, hb4⟩))
          obtain ⟨hw4, hb4w, hb4ww⟩ := hst2.out w3 w4 fineW hb3 hb4
          obtain ⟨r11, r4, r3⟩ := hrd.out w4 hb4w
          obtain ⟨pa, pc, rp⟩ := hpm.out w4 hb4ww
          have HW4 := Lib.hid hw4
          obtain ⟨⟨f0', f1'⟩, z0', z1'⟩ := hw4
          unfold fineW at f0' f1'
          have hne : (((args.length : Nat) : Int) != ((args.length : Nat) : Int)) = false := by simp
          clear hb4 f0 f1 z0 z1
          go_quiet (fail)
          go_wp2_with fail
          go_meet
          exact ⟨fineW, hq.out, fun _ => rfl, wr_kept HW4.out (Nat.lt_of_lt_of_le hz2 (by have := hb3.size; omega)) (below_drewN (Below.refl _ _) _), below_drewN hb4w _⟩
        · have hq : Hid (ownEx t s.funcs l 9 st args.length = (7, st)) := by show _ = _; rw [how.out, if_neg hpl]
          have hne : (((pl : Nat) : Int) != ((args.length : Nat) : Int)) = true := by simp; omega
          clear how hpl
          go_upto_region 12 with (first | (go_at_call 50; refine (HC.out).mono ?_; rintro e w3 ⟨rfl, hb3⟩; obtain ⟨⟨⟨f0, f1⟩, z0, z1⟩, hbw⟩ := hst.out w3 hb3; obtain ⟨-, -, r3'⟩ := hrd.out ((w3.setCell ⟨b9, 0, none⟩ (.int .i64 0)).setCell ⟨b9, 1, none⟩ (.string ⟨#[]⟩)) (two_set hbw hz1); unfold wrongR fineW) | (go_at_call 51; refine (HC2.out _ (hst3.out w3 fineW hb3)).mono ?_; rintro e w4 ⟨rfl, hb4⟩))
          obtain ⟨hw4, hb4w, hb4ww⟩ := hst2.out w3 w4 fineW hb3 hb4
          obtain ⟨r11, r4, r3⟩ := hrd.out w4 hb4w
          obtain ⟨pa, pc, rp⟩ := hpm.out w4 hb4ww
          have HW4 := Lib.hid hw4
          have hl9 : b9 < w4.heap.size := by have h1 := hb3.size; have h2 := hb4.size; simp [World.setCell] at h2; omega
          obtain ⟨⟨f0', f1'⟩, z0', z1'⟩ := hw4
          unfold fineW at f0' f1'
          clear hb4 f0 f1 z0 z1
          go_quiet (fail)
          go_wp2_with fail
          go_meet
          exact ⟨(7, st), hq.out, fun h => absurd h (show ¬ ((7 : Int) = 0) by decide), wr_set (7, st) (wr_kept HW4.out hl9 (below_drewN (Below.refl _ _) _)), two_set (below_drewN hb4w _) hz1⟩
      · rw [if_neg hez] at hcc how
        have HC := Lib.hid hcc
        have HC2 := Lib.hid hc2
        have hne : (er == 0) = false := by simpa using hez
        have HEZ := Lib.hid hez
        have hrd : Hid (∀ W, Below W0.heap.size W0 W → W.cell? ⟨w.heap.size + 1, 3, none⟩ = some (.string st)) := fun W hW => (HEB.out.below hW (by omega)).2 3 (by simp)
        clear hcc hc2 hfa hze hez
        go_upto_region 12 with (first | (go_at_call 50; refine (HC.out).mono ?_; rintro e w3 ⟨rfl, hb3⟩; obtain ⟨⟨⟨f0, f1⟩, z0, z1⟩, hbw⟩ := hst.out w3 hb3; have r3' := hrd.out ((w3.setCell ⟨b9, 0, none⟩ (.int .i64 er)).setCell ⟨b9, 1, none⟩ (.string st)) (two_set hbw hz1); unfold wrongR) | (go_at_call 51; refine (HC2.out _ (hst3.out w3 (er, st) hb3)).mono ?_; rintro e w4 ⟨rfl, hb4⟩))
        obtain ⟨hw4, hb4w, hb4ww⟩ := hst2.out w3 w4 (er, st) hb3 hb4
        have HW4 := Lib.hid hw4
        have hl9 : b9 < w4.heap.size := by have h1 := hb3.size; have h2 := hb4.size; simp [World.setCell] at h2; omega
        obtain ⟨⟨f0', f1'⟩, z0', z1'⟩ := hw4
        simp only at f0' f1'
        clear hb4 f0 f1 z0 z1
        go_quiet (fail)
        go_wp2_with fail
        go_meet
        exact ⟨(er, st), how.out, fun h => absurd h HEZ.out, wr_kept HW4.out hl9 (below_drewN (Below.refl _ _) _), below_drewN hb4w _⟩
    have e9 : (k == 9) = false := by simpa using h9
    have hq : Hid (ownEx t s.funcs l k st args.length = fineW) := by
      show _ = _
      unfold ownEx
      rw [if_neg h3, if_neg h7, if_neg h8, if_neg h9]
    clear h3 h7 h8 h9
    go_wp2_with fail
    go_meet
    exact ⟨fineW, hq.out, fun _ => rfl, hwr, HBw.out⟩
  case rest =>
    obtain ⟨p0, hown, hcl0, hwp, hBc⟩ := hcut.out
    rw [hown] at hkw
    obtain ⟨_, hal, hac, haa⟩ := hargs.opn
    have HIH := Lib.hid (fun (x : Ex) (hx : x ∈ args) (W : World) (es : List Value) (hW : Below w.heap.size w W) (hrx : RdEx F W x es) => ih x hx l F W _ _ _ es (hF.below hW) (RdL.below h0 hF hW (Nat.le_refl _)) (Holds.below _ H1.out hF hW (Nat.le_refl _)) (RdL.below h2 hF hW (Nat.le_refl _)) hrx)
    have HWP : Hid (WrAt wc b9 p0) := hwp
    have HBC := Lib.hid hBc
    have hzc : b9 < wc.heap.size := World.block_lt_of_cell? wc ⟨b9, 0, none⟩ hwp.1.1
    have hrd : Hid (∀ W, Below W0.heap.size W0 W → W.cell? ⟨w.heap.size + 1, 4, none⟩ = some (.slice a args.length cap) ∧ BoxAt W w.heap.size [.string s.title, .string s.author, .string s.start, .int .i64 s.release, .int .i64 s.most, .slice a5 s.flags.length c5, .slice a6 s.props.length c6, .slice a7 s.globals.length c7, .slice a8 s.objects.length c8, .slice a9 s.verbs.length c9, .slice a10 s.rules.length c10, .slice a11 s.funcs.length c11, .slice a12 s.daemons.length c12]) := fun W hW => ⟨(HEB.out.below hW (by omega)).2 4 (by simp), HSB.out.below hW (by omega)⟩
    clear hargs hrow hsl ih h1 h2 h0 HO HO2 HE hfa hst hwp hown hcut d0 d3 d4 d11
    go_wp2_with fail
    go_loopw [12] (fun i wr => ∃ kk : Nat, kk ≤ args.length ∧ i = .int .i64 kk ∧ Hid (∃ p, WrAt wr b9 p ∧ Clean p ∧ r = seqW p (Ex.kWs t s.funcs l (args.drop kk)) ∧ Below W0.heap.size W0 wr ∧ b9 < wr.heap.size)) (fun i _ => args.length - (intOf i).toNat)
    case atStart => exact ⟨0, Nat.zero_le _, rfl, p0, HWP.out, hcl0, by rw [List.drop_zero]; exact hkw.out, HBC.out, hzc⟩
    case round =>
      obtain ⟨kk, hk, rfl, hinv⟩ := hrel
      obtain ⟨p, hwp, hclp, hrp, hBr, hzr⟩ := hinv.out
      clear hinv
      obtain ⟨r4, hbx⟩ := hrd.out wr hBr
      have HWq : Hid (WrAt wr b9 p) := hwp
      obtain ⟨⟨f0, f1⟩, z0, z1⟩ := hwp
      have HBr := Lib.hid hBr
      have hBw1 : Below w.heap.size w wr := HB0.out.trans (hBr.mono HB0.out.size)
      by_cases hlt : kk < args.length
      · by_cases hp : p.1 = 0
        · obtain ⟨b, off, rfl, hFb, hel⟩ := haa (by omega)
          obtain ⟨ke, oe, ne, se, ae, me, ce, hxe, q0, q1, q2, q3, q4⟩ := hel wr (hBw1.block b (hF b hFb)) kk hlt
          have hcall := fun W (hW : Below wr.heap.size wr W) => HIH.out args[kk] (List.getElem_mem hlt) W _ (hBw1.trans (hW.mono hBw1.size)) (hxe.below hF (hBw1.trans (hW.mono hBw1.size)) (Nat.le_refl _))
          have hdk : Ex.kWs t s.funcs l (args.drop kk) = seqW (args[kk].kW t s.funcs l) (Ex.kWs t s.funcs l (args.drop (kk + 1))) := by rw [List.drop_eq_getElem_cons hlt]; rfl
          rw [hdk, seqW_fine hp] at hrp
          have hclx : Clean (args[kk].kW t s.funcs l) := clean_kW t s.funcs l _
          generalize args[kk].kW t s.funcs l = p2 at hrp hcall hclx
          have HCL := Lib.hid hcall
          have HRP := Lib.hid hrp
          have hp1 : (p.1 == 0) = true := by simpa using hp
          have x0 := hbx.2 0 (by simp)
          have x1 := hbx.2 1 (by simp)
          have x2 := hbx.2 2 (by simp)
          have x3 := hbx.2 3 (by simp)
          have x4 := hbx.2 4 (by simp)
          have x5 := hbx.2 5 (by simp)
          have x6 := hbx.2 6 (by simp)
          have x7 := hbx.2 7 (by simp)
          have x8 := hbx.2 8 (by simp)
          have x9 := hbx.2 9 (by simp)
          have x10 := hbx.2 10 (by simp)
          have x11 := hbx.2 11 (by simp)
          have x12 := hbx.2 12 (by simp)
          simp only [List.getElem?_cons_succ, List.getElem?_cons_zero] at x0 x1 x2 x3 x4 x5 x6 x7 x8 x9 x10 x11 x12
          have hki : (kk : Int) < (args.length : Int) := by omega
          have hki0 : (0 : Int) ≤ (kk : Int) := by omega
          clear hel haa hxe hcall hrp hdk hbx hp hkw HIH
          go_wp2_with fail
          go_still_tail 8, (by kernel_rfl)
          change wpList _ _ _ _ _ wr.drew
          go_wp2_with (go_at_call 57; refine (HCL.out _ (Below.refl _ wr).drew).mono ?_; rintro e w3 ⟨rfl, hb3⟩; obtain ⟨⟨f0', f1'⟩, z0', z1'⟩ := wr_kept HWq.out hzr ((Below.refl wr.heap.size wr).drew.trans hb3); unfold wrongR)
          go_roundw
          case rel =>
            have hb4 : Below wr.heap.size wr w3 := (Below.refl wr.heap.size wr).drew.trans hb3
            exact ⟨kk + 1, by omega, by go_num, p2, wr_set (p0 := p) p2 ⟨⟨f0', f1'⟩, z0', z1'⟩, hclx, HRP.out, two_set (HBr.out.trans (hb4.mono HBr.out.size)) hz1, by have := hb4.size; simp [World.setCell]; omega⟩
          case measure => simp [intOf]; omega
        · have hp1 : (p.1 == 0) = false := by simpa using hp
          have hfin : Hid (r = p) := by show _ = _; rw [hrp, seqW_bad hp]
          obtain ⟨⟨h0', h1'⟩, y0, y1⟩ := wr_kept HWR0.out (by omega) hBr
          have hki : decide ((kk : Int) < (args.length : Int)) = true := by simpa using hlt
          clear haa hrp hp hkw HIH hbx
          go_wp2_with fail
          exact bodyPost_ret (v := wrongR p) (by simp [results, Tryz.results57, go_sem, wrongR, h0', h1']; try rfl) rfl ⟨by rw [hfin.out], two_set hBw1 (by omega)⟩
      · have hfin : Hid (r = p) := by
          show _ = _
          rw [hrp, List.drop_eq_nil_of_le (by omega)]
          by_cases hp : p.1 = 0
          · rw [seqW_fine hp, hclp hp]; rfl
          · rw [seqW_bad hp]
        obtain ⟨⟨h0', h1'⟩, y0, y1⟩ := wr_kept HWR0.out (by omega) hBr
        have hki : decide ((kk : Int) < (args.length : Int)) = false := by simpa using hlt
        clear haa hrp hkw HIH hbx
        go_wp2_with fail
        exact bodyPost_ret (v := wrongR p) (by simp [results, Tryz.results57, go_sem, wrongR, h0', h1']; try rfl) rfl ⟨by rw [hfin.out], two_set hBw1 (by omega)⟩
end Go.Proofs.YtblhpiebheommaaGreat
