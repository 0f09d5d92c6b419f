/- The walk of clewref16's exits. Printed by gen-refb.py. -/
import Derived.Test.YtblhpiebheommaaGreatRefA
import Derived.Test.YtblhpiebheommaaGreatKinds29
import Derived.Test.YtblhpiebheommaaGreatKinds25
import Derived.Test.YtblhpiebheommaaGreatKinds28
namespace Go.Proofs.YtblhpiebheommaaGreat
open Go.RowKit

theorem seqW_idR {p : Int × ByteArray} (h : Clean p) : seqW p fineW = p := by
  by_cases h0 : p.1 = 0
  · rw [seqW_fine h0]; exact (h h0).symm
  · rw [seqW_bad h0]

set_option maxRecDepth 100000 in
set_option maxHeartbeats 8000000 in
theorem exitsR_calls (t : List NameD) (s : SrcD) (l : List ExitD) (F : Nat → Prop) (w : World) (tv lv : Value) (ss : List Value) (hF : Inn F w) (htab : TabOk t s.funcs s.objects.length) (h0 : RdNames F w t tv) (h1 : Holds.src.R F w s ss) (hr : RdL Holds.exit 4 F w l lv) (hone : ∀ x ∈ l, x.cond.length ≤ 1) :
    Calls Tryz.prog 55 #[tv, .agg ss.toArray, lv] w (Gives w (wrongR (exitsW t s.funcs s.objects [] l))) := by
  have HRM := Lib.hid (fun (n : ByteArray) (W : World) (hW : Below w.heap.size w W) => roomR_calls t s n F W tv ss (hF.below hW) htab (RdL.below h0 hF hW (Nat.le_refl _)) (Holds.below _ h1 hF hW (Nat.le_refl _)))
  have HEX := Lib.hid (fun (e : Ex) (es : List Value) (hrx : RdEx F w e es) (W : World) (hW : Below w.heap.size w W) => kexprR_calls t s htab e [] F W tv (.slice none 0 0) ss es (hF.below hW) (RdL.below h0 hF hW (Nat.le_refl _)) (Holds.below _ h1 hF hW (Nat.le_refl _)) (RdL.nil _ _ _ _ _ _ (Nat.zero_le _)) (hrx.below hF hW (Nat.le_refl _)))
  obtain ⟨a0, c0, rfl⟩ := h0.shape
  obtain ⟨a5, c5, a6, c6, a7, c7, a8, c8, a9, c9, a10, c10, a11, c11, a12, c12, rfl, g5, g6, g7, g8, g9, g10, g11, g12⟩ := src_shape h1
  obtain ⟨la, lc, rfl, hll, hlc, hla⟩ := hr.opn
  unfold maxLen at hlc
  have HF := Lib.hid hF
  have HFI := Lib.hid fineR_calls
  have HONE := Lib.hid hone
  obtain ⟨q, hq⟩ : ∃ q, exitsW t s.funcs s.objects [] l = q := ⟨_, rfl⟩
  rw [hq]
  have HQ := Lib.hid hq
  have hA : Hid (∃ W0, ((w.alloc (.cells #[.string s.title, .string s.author, .string s.start, .int .i64 s.release, .int .i64 s.most, .slice a5 s.flags.length c5, .slice a6 s.props.length c6, .slice a7 s.globals.length c7, .slice a8 s.objects.length c8, .slice a9 s.verbs.length c9, .slice a10 s.rules.length c10, .slice a11 s.funcs.length c11, .slice a12 s.daemons.length c12] 29)).alloc (.cells #[.int .i64 0, .string ⟨#[]⟩] 79)) = W0 ∧ Below w.heap.size w W0 ∧ W0.heap.size = w.heap.size + 1 + 1 ∧ BoxAt W0 w.heap.size [.string s.title, .string s.author, .string s.start, .int .i64 s.release, .int .i64 s.most, .slice a5 s.flags.length c5, .slice a6 s.props.length c6, .slice a7 s.globals.length c7, .slice a8 s.objects.length c8, .slice a9 s.verbs.length c9, .slice a10 s.rules.length c10, .slice a11 s.funcs.length c11, .slice a12 s.daemons.length c12] ∧ WrAt W0 (w.heap.size + 1) (0, ⟨#[]⟩)) := by
    refine ⟨_, rfl, ((Below.refl _ w).alloc (Nat.le_refl _) _).alloc (by simp) _, by simp, ?_, ?_⟩
    · exact (BoxAt.new w [.string s.title, .string s.author, .string s.start, .int .i64 s.release, .int .i64 s.most, .slice a5 s.flags.length c5, .slice a6 s.props.length c6, .slice a7 s.globals.length c7, .slice a8 s.objects.length c8, .slice a9 s.verbs.length c9, .slice a10 s.rules.length c10, .slice a11 s.funcs.length c11, .slice a12 s.daemons.length c12] 29).below ((Below.refl _ _).alloc (Nat.le_refl _) _) (by simp)
    · have := wr_new (w.alloc (.cells #[.string s.title, .string s.author, .string s.start, .int .i64 s.release, .int .i64 s.most, .slice a5 s.flags.length c5, .slice a6 s.props.length c6, .slice a7 s.globals.length c7, .slice a8 s.objects.length c8, .slice a9 s.verbs.length c9, .slice a10 s.rules.length c10, .slice a11 s.funcs.length c11, .slice a12 s.daemons.length c12] 29)) 0 ⟨#[]⟩ 79
      rw [show (w.alloc (.cells #[.string s.title, .string s.author, .string s.start, .int .i64 s.release, .int .i64 s.most, .slice a5 s.flags.length c5, .slice a6 s.props.length c6, .slice a7 s.globals.length c7, .slice a8 s.objects.length c8, .slice a9 s.verbs.length c9, .slice a10 s.rules.length c10, .slice a11 s.funcs.length c11, .slice a12 s.daemons.length c12] 29)).heap.size = w.heap.size + 1 by simp] at this
      exact this
  clear h0 h1 hr hF htab hq hone g5 g6 g7 g8 g9 g10 g11 g12
  go_enter Tryz.func55, Tryz.ntmps55
  go_upto_region 1 with fail
  obtain ⟨W0, hW0, hB0, hz0, hsb, hwr0⟩ := hA.out
  rw [hW0]
  have HB0 := Lib.hid hB0
  have HZ0 := Lib.hid hz0
  have hE : Hid (∀ W, Below W0.heap.size W0 W → BoxAt W w.heap.size [.string s.title, .string s.author, .string s.start, .int .i64 s.release, .int .i64 s.most, .slice a5 s.flags.length c5, .slice a6 s.props.length c6, .slice a7 s.globals.length c7, .slice a8 s.objects.length c8, .slice a9 s.verbs.length c9, .slice a10 s.rules.length c10, .slice a11 s.funcs.length c11, .slice a12 s.daemons.length c12] ∧ WrAt W (w.heap.size + 1) (0, ⟨#[]⟩) ∧ Below w.heap.size w W) := fun W hW => ⟨hsb.below hW (by omega), wr_kept hwr0 (by omega) hW, hB0.trans (hW.mono hB0.size)⟩
  clear hA hW0 hB0 hz0 hsb hwr0
  go_wp2_with fail
  go_loopw [7] (fun i wr => ∃ k : Nat, k ≤ l.length ∧ i = .int .i64 k ∧ Hid (q = exitsW t s.funcs s.objects (l.take k) (l.drop k)) ∧ Below W0.heap.size W0 wr) (fun i _ => l.length - (intOf i).toNat)
  case atStart => exact ⟨0, Nat.zero_le _, rfl, by show _ = _; rw [List.drop_zero, List.take_zero]; exact HQ.out.symm, Below.refl _ _⟩
  case round =>
    obtain ⟨k, hk, rfl, hinv, hB⟩ := hrel
    by_cases hlt : k < l.length
    · obtain ⟨b, off, rfl, hFb, hel⟩ := hla (by omega)
      have hrd : Hid (∀ W, Below w.heap.size w W → ∀ j (hj : j < l.length), ∃ xa xc, (∀ m (u : Value), ([.int .i64 l[j].dir, .string l[j].to, .string l[j].els, .slice xa l[j].cond.length xc] : List Value)[m]? = some u → W.cell? ⟨b, off + j * 4 + m, none⟩ = some u) ∧ Exs F w l[j].cond (.slice xa l[j].cond.length xc)) := fun W hW j hj => by
        obtain ⟨cs9, ⟨-, -, -, v, rfl, hex⟩, -, hcell9⟩ := hel w rfl j hj
        obtain ⟨xa, xc, rfl⟩ := hex.shape
        exact ⟨xa, xc, fun m u hm => (World.cell?_of_block (w := w) (a := ⟨b, off + j * 4 + m, none⟩) (hW.block b (HF.out b hFb))).trans (hcell9 m u hm), hex⟩
      obtain ⟨xa, xc, hx, hex⟩ := hrd.out w (Below.refl _ _) k hlt
      have hxk : Hid (∀ W, Below w.heap.size w W → ∀ m (u : Value), ([.int .i64 l[k].dir, .string l[k].to, .string l[k].els, .slice xa l[k].cond.length xc] : List Value)[m]? = some u → W.cell? ⟨b, off + k * 4 + m, none⟩ = some u) := fun W hW m u hm => (World.cell?_of_block (w := w) (a := ⟨b, off + k * 4 + m, none⟩) (hW.block b (HF.out b hFb))).trans (hx m u hm)
      have hc1 : l[k].cond.length ≤ 1 := HONE.out _ (List.getElem_mem hlt)
      have hdk : exitsW t s.funcs s.objects (l.take k) (l.drop k) = seqW (if dec (∃ y ∈ l.take k, y.dir = l[k].dir) = true then (10, l[k].to) else fineW) (seqW (roomW t s.objects l[k].to) (seqW (Ex.kWs t s.funcs [] l[k].cond) (exitsW t s.funcs s.objects (l.take (k + 1)) (l.drop (k + 1))))) := by
        rw [List.drop_eq_getElem_cons hlt, List.take_succ_eq_append_getElem hlt]; rfl
      have hq1 := hinv.out
      rw [hdk] at hq1
      clear hel hla hdk hinv hx
      generalize hxe : l[k] = x at hxk hex hq1 hc1
      have HXE := Lib.hid hxe
      have HQ1 := Lib.hid hq1
      have HB := Lib.hid hB
      have hki : (k : Int) < (l.length : Int) := by omega
      have hki0 : (0 : Int) ≤ (k : Int) := by omega
      clear hq1 hB hxe
      go_wp2_with fail
      obtain ⟨wo, rfl⟩ : ∃ wo : World, wo = wr := ⟨_, rfl⟩
      go_loopw [8] (fun i wr => ∃ j : Nat, j ≤ k ∧ i = .int .i64 j ∧ Hid (∀ m (hm : m < l.length), m < j → l[m].dir ≠ x.dir) ∧ Below W0.heap.size W0 wr) (fun i _ => k - (intOf i).toNat)
      case atStart => exact ⟨0, Nat.zero_le _, rfl, fun m hm h => absurd h (by omega), HB.out⟩
      case round =>
        obtain ⟨j, hj, rfl, hinv, hB⟩ := hrel
        obtain ⟨hbx, hwr, hbt⟩ := hE.out wr hB
        have g0 := hxk.out wr hbt 0 _ rfl
        have g1 := hxk.out wr hbt 1 _ rfl
        have g3 := hxk.out wr hbt 3 _ rfl
        simp only [Nat.add_zero] at g0
        have HBj := Lib.hid hB
        have HBT := Lib.hid hbt
        by_cases hlt4 : j < k
        · obtain ⟨ya, yc, hy, -⟩ := hrd.out wr hbt j (by omega)
          have e0 := hy 0 _ rfl
          simp only [Nat.add_zero] at e0
          have hjl : j < l.length := by omega
          have HNE : Hid (∀ d, l[j].dir = d → (d ≠ x.dir → ∀ m (hm : m < l.length), m < j + 1 → l[m].dir ≠ x.dir) ∧ (d = x.dir → ∃ y ∈ l.take k, y.dir = x.dir)) := fun d hd => ⟨fun hne m hm h => by
            by_cases hmj : m = j
            · subst hmj; rw [hd]; exact hne
            · exact hinv.out m hm (by omega), fun he => ⟨l[j], by rw [List.mem_take_iff_getElem]; exact ⟨j, by omega, rfl⟩, by rw [hd]; exact he⟩⟩
          obtain ⟨yd, hyd⟩ : ∃ yd, l[j].dir = yd := ⟨_, rfl⟩
          obtain ⟨hne1, hne2⟩ := HNE.out yd hyd
          rw [hyd] at e0
          have hji : (j : Int) < (k : Int) := by omega
          have hji0 : (0 : Int) ≤ (j : Int) := by omega
          have hjll : (j : Int) < (l.length : Int) := by omega
          obtain ⟨⟨h0', h1'⟩, z0, z1⟩ := hwr
          clear hy HNE hyd hB hbt hinv hbx
          by_cases hdd : yd = x.dir
          · have HT : Hid (q = (10, x.to)) := by show _ = _; rw [HQ1.out, dec_true (hne2 hdd), if_pos rfl]; exact seqW_bad (show ¬ ((10 : Int) = 0) by decide)
            have hdb : (yd == x.dir) = true := by simpa using hdd
            clear hne1 hne2 hdd
            go_upto_region 7 with fail
            go_quiet (fail)
            go_wp2_with fail
            exact bodyPost_ret (v := wrongR (10, x.to)) (by simp [results, Tryz.results55, go_sem, wrongR, h0', h1']; try rfl) rfl ⟨by rw [HT.out], two_set (below_drewN HBT.out _) (by omega)⟩
          · have hnx := Lib.hid (hne1 hdd)
            have hdb : (yd == x.dir) = false := by simpa using hdd
            clear hne1 hne2 hdd
            go_upto_region 7 with fail
            go_quiet (fail)
            go_wp2_with fail
            go_roundw
            case rel => exact ⟨j + 1, by omega, by go_num, hnx.out, below_drewN HBj.out _⟩
            case measure => simp [intOf]; omega
        · have HQ2 : Hid (q = seqW (roomW t s.objects x.to) (seqW (Ex.kWs t s.funcs [] x.cond) (exitsW t s.funcs s.objects (l.take (k + 1)) (l.drop (k + 1))))) := by
            show _ = _
            rw [HQ1.out, dec_false (p := ∃ y ∈ l.take k, y.dir = x.dir) (fun ⟨y, hy, he⟩ => by
              obtain ⟨m, hm, rfl⟩ := List.mem_take_iff_getElem.1 hy
              exact hinv.out m (by omega) (by omega) he)]
            exact seqW_fine rfl
          have hji : decide ((j : Int) < (k : Int)) = false := by simpa using hlt4
          have hrm := fun W (hW : Below wr.heap.size wr W) => HRM.out x.to W (hbt.trans (hW.mono hbt.size))
          generalize roomW t s.objects x.to = p5 at HQ2 hrm
          have HCL := Lib.hid hrm
          have x0 := hbx.2 0 (by simp)
          have x1 := hbx.2 1 (by simp)
          have x2 := hbx.2 2 (by simp)
          have x3 := hbx.2 3 (by simp)
          have x4 := hbx.2 4 (by simp)
          have x5 := hbx.2 5 (by simp)
          have x6 := hbx.2 6 (by simp)
          have x7 := hbx.2 7 (by simp)
          have x8 := hbx.2 8 (by simp)
          have x9 := hbx.2 9 (by simp)
          have x10 := hbx.2 10 (by simp)
          have x11 := hbx.2 11 (by simp)
          have x12 := hbx.2 12 (by simp)
          simp only [List.getElem?_cons_succ, List.getElem?_cons_zero] at x0 x1 x2 x3 x4 x5 x6 x7 x8 x9 x10 x11 x12
          have g0a := alloc_cell g0
          have g1a := alloc_cell g1
          have g3a := alloc_cell g3
          have x0a := alloc_cell x0
          have x1a := alloc_cell x1
          have x2a := alloc_cell x2
          have x3a := alloc_cell x3
          have x4a := alloc_cell x4
          have x5a := alloc_cell x5
          have x6a := alloc_cell x6
          have x7a := alloc_cell x7
          have x8a := alloc_cell x8
          have x9a := alloc_cell x9
          have x10a := alloc_cell x10
          have x11a := alloc_cell x11
          have x12a := alloc_cell x12
          clear hinv hbx hwr hbt hB hrm
          go_upto_region 9 with fail
          go_cut [9] (fun v wc => Hid (∃ b9, v = .pointer (some ⟨b9, 0, none⟩) ∧ WrAt wc b9 p5 ∧ Below wr.heap.size wr wc ∧ b9 < wc.heap.size ∧ wr.heap.size ≤ b9))
          case first =>
            go_region_with (first | (go_at_call 25; (with_reducible refine (HCL.out _ (Below.refl _ wr).drew).mono ?_); rintro e w3 ⟨rfl, hb3⟩; have hbq := (Below.refl wr.heap.size wr).drew.trans hb3; unfold wrongR) | (go_at_call 25; (with_reducible refine (HCL.out _ (((Below.refl _ wr).alloc (Nat.le_refl _) _).drew)).mono ?_); rintro e w3 ⟨rfl, hb3⟩; have hbq := (Below.refl (wr.alloc (.cells #[.int .i64 0, .string ⟨#[]⟩] 79)).heap.size (wr.alloc (.cells #[.int .i64 0, .string ⟨#[]⟩] 79))).drew.trans hb3; obtain ⟨⟨f0', f1'⟩, z0', z1'⟩ := wr_kept (wr_new wr 0 ⟨#[]⟩ 79) (by simp) hbq; unfold wrongR))
            all_goals (go_wp2_with fail; go_meet; first | exact ⟨_, rfl, wr_new _ _ _ _, hbq.alloc hbq.size _, by simp, hbq.size⟩ | exact ⟨_, rfl, wr_set (p0 := (0, ⟨#[]⟩)) p5 ⟨⟨f0', f1'⟩, z0', z1'⟩, two_set (((Below.refl wr.heap.size wr).alloc (Nat.le_refl _) _).trans (hbq.mono (by simp))) (Nat.le_refl _), by have := hbq.size; simp at this; simp [World.setCell]; omega, Nat.le_refl _⟩)
          case rest =>
            obtain ⟨b9, rfl, hw9, hbc, hz9, hz9b⟩ := hcut.out
            have HW9 := Lib.hid hw9
            have hbc0 := HBj.out.trans (hbc.mono HBj.out.size)
            have HBC := Lib.hid hbc0
            obtain ⟨hbx, hwr, hbt⟩ := hE.out wc hbc0
            have HBT2 := Lib.hid hbt
            obtain ⟨⟨h0', h1'⟩, u0, u1⟩ := hwr
            obtain ⟨⟨q0, q1⟩, y0, y1⟩ := hw9
            have HZ9 := Lib.hid (And.intro hz9 (show W0.heap.size ≤ b9 from Nat.le_trans HBj.out.size hz9b))
            clear g0 g1 g3 g0a g1a g3a x0a x1a x2a x3a x4a x5a x6a x7a x8a x9a x10a x11a x12a x0 x1 x2 x3 x4 x5 x6 x7 x8 x9 x10 x11 x12 HCL hcut hbc hbc0 hz9 hz9b
            have g0 := hxk.out wc hbt 0 _ rfl
            have g1 := hxk.out wc hbt 1 _ rfl
            have g3 := hxk.out wc hbt 3 _ rfl
            simp only [Nat.add_zero] at g0
            by_cases hz5 : p5.1 = 0
            rotate_left
            · have hp1 : (p5.1 == 0) = false := by simpa using hz5
              have hp2 : (p5.1 != 0) = true := by simpa using hz5
              have hfin : Hid (q = p5) := by show _ = _; rw [HQ2.out, seqW_bad hz5]
              clear hz5 hbx hbt
              go_wp2_with fail
              exact bodyPost_ret (v := wrongR p5) (by simp [results, Tryz.results55, go_sem, wrongR, h0', h1']; try rfl) rfl ⟨by rw [hfin.out], two_set HBT2.out (by omega)⟩
            have hp1 : (p5.1 == 0) = true := by simpa using hz5
            have hp2 : (p5.1 != 0) = false := by simpa using hz5
            have HQ3 : Hid (q = seqW (Ex.kWs t s.funcs [] x.cond) (exitsW t s.funcs s.objects (l.take (k + 1)) (l.drop (k + 1)))) := by show _ = _; rw [HQ2.out, seqW_fine hz5]
            clear hz5 HQ2
            obtain ⟨xd, xt, xe, xcond⟩ := x
            cases xcond with
            | nil =>
              have hcl0 : decide (((([] : List Ex).length : Nat) : Int) > 0) = false := rfl
              have hnx : Hid (q = exitsW t s.funcs s.objects (l.take (k + 1)) (l.drop (k + 1))) := by show _ = _; rw [HQ3.out]; exact seqW_fine rfl
              clear hbx hbt
              simp only at g3 hcl0
              go_wp2_with fail
              go_roundw
              case rel => exact ⟨k + 1, by omega, by go_num, hnx.out, HBC.out⟩
              case measure => simp [intOf]; omega
            | cons e r =>
              cases r with
              | cons e2 r2 => exact absurd hc1 (by simp)
              | nil =>
                obtain ⟨ca, hcl, hcc, hca⟩ := hex.opn
                obtain ⟨cb, coff, rfl, hFcb, hcel⟩ := hca (by simp)
                obtain ⟨ke, oe, ne, se, ae, me, ce, hxe, f0, f1, f2, f3, f4⟩ := hcel wc (hbt.block cb (HF.out cb hFcb)) 0 (by simp)
                have hcall := fun W (hW : Below wc.heap.size wc W) => HEX.out e _ hxe W (hbt.trans (hW.mono hbt.size))
                have hke : Ex.kWs t s.funcs [] [e] = e.kW t s.funcs [] := seqW_idR (clean_kW _ _ _ e)
                have hq3 : q = seqW (Ex.kWs t s.funcs [] [e]) (exitsW t s.funcs s.objects (l.take (k + 1)) (l.drop (k + 1))) := HQ3.out
                rw [hke] at hq3
                clear hke HQ3 hcel hca hex hxe hcc ca hxk hrd
                generalize e.kW t s.funcs [] = p6 at hcall hq3
                have HQ4 := Lib.hid hq3
                have HCL2 := Lib.hid hcall
                have HW9 : Hid (WrAt wc b9 p5) := ⟨⟨q0, q1⟩, y0, y1⟩
                have x0 := hbx.2 0 (by simp)
                have x1 := hbx.2 1 (by simp)
                have x2 := hbx.2 2 (by simp)
                have x3 := hbx.2 3 (by simp)
                have x4 := hbx.2 4 (by simp)
                have x5 := hbx.2 5 (by simp)
                have x6 := hbx.2 6 (by simp)
                have x7 := hbx.2 7 (by simp)
                have x8 := hbx.2 8 (by simp)
                have x9 := hbx.2 9 (by simp)
                have x10 := hbx.2 10 (by simp)
                have x11 := hbx.2 11 (by simp)
                have x12 := hbx.2 12 (by simp)
                simp only [List.getElem?_cons_succ, List.getElem?_cons_zero] at x0 x1 x2 x3 x4 x5 x6 x7 x8 x9 x10 x11 x12
                clear hq3 hcall hbx hbt HXE HONE hc1
                have hcl1 : decide ((([e] : List Ex).length : Int) > 0) = true := rfl
                simp only [Nat.zero_mul, Nat.add_zero, List.length_singleton] at f0 f1 f2 f3 f4 g3 hcl1
                go_upto_region 11 with fail
                obtain ⟨wd, rfl⟩ : ∃ x : World, x = wc := ⟨_, rfl⟩
                go_cut [] (fun wc => Hid (WrAt wc b9 p6 ∧ Below W0.heap.size W0 wc))
                case first =>
                  have hkp : Hid (∀ w3, Below wd.heap.size wd w3 → WrAt w3 b9 p5) := fun w3 h3 => wr_kept HW9.out HZ9.out.1 h3
                  go_region_with (go_at_call 57; (with_reducible refine (HCL2.out _ (Below.refl _ wd).drew).mono ?_); rintro e w3 ⟨rfl, hb3⟩; have hbq := (Below.refl wd.heap.size wd).drew.trans hb3; obtain ⟨⟨f0', f1'⟩, s0, s1⟩ := hkp.out w3 hbq; unfold wrongR)
                  all_goals (go_wp2_with fail; go_meet; exact ⟨wr_set (p0 := p5) p6 ⟨⟨f0', f1'⟩, s0, s1⟩, two_set (HBC.out.trans (hbq.mono HBC.out.size)) HZ9.out.2⟩)
                case rest =>
                  clear q0 q1 y0 y1 h0' h1' u0 u1 x0 x1 x2 x3 x4 x5 x6 x7 x8 x9 x10 x11 x12 f0 f1 f2 f3 f4 g0 g1 g3 HCL2 HW9
                  obtain ⟨hw9, hbc⟩ := hcut.out
                  obtain ⟨⟨q0, q1⟩, y0, y1⟩ := hw9
                  have HBC2 := Lib.hid hbc
                  obtain ⟨-, hwr, hbt⟩ := hE.out wc hbc
                  obtain ⟨⟨h0', h1'⟩, u0, u1⟩ := hwr
                  have HBT3 := Lib.hid hbt
                  clear hcut hbc hbt
                  by_cases hz6 : p6.1 = 0
                  · have hp61 : (p6.1 != 0) = false := by simpa using hz6
                    have hnx : Hid (q = exitsW t s.funcs s.objects (l.take (k + 1)) (l.drop (k + 1))) := by show _ = _; rw [HQ4.out, seqW_fine hz6]
                    clear hz6
                    go_wp2_with fail
                    go_roundw
                    case rel => exact ⟨k + 1, by omega, by go_num, hnx.out, HBC2.out⟩
                    case measure => simp [intOf]; omega
                  · have hp61 : (p6.1 != 0) = true := by simpa using hz6
                    have hfin : Hid (q = p6) := by show _ = _; rw [HQ4.out, seqW_bad hz6]
                    clear hz6
                    go_wp2_with fail
                    exact bodyPost_ret (v := wrongR p6) (by simp [results, Tryz.results55, go_sem, wrongR, h0', h1']; try rfl) rfl ⟨by rw [hfin.out], two_set HBT3.out (by omega)⟩
    · have hfin : Hid (q = fineW) := by show _ = _; rw [hinv.out, List.drop_eq_nil_of_le (by omega)]; rfl
      have HB := Lib.hid hB
      clear hinv hB hla
      go_wp2_with (go_at_call 52; refine (HFI.out _).mono ?_; rintro e w2 ⟨rfl, hb2⟩; obtain ⟨-, ⟨⟨f0, f1⟩, z0, z1⟩, hbw⟩ := hE.out w2 (HB.out.trans (hb2.mono HB.out.size)); unfold wrongR fineW)
      exact bodyPost_ret (v := wrongR fineW) (by simp [results, Tryz.results55, go_sem, wrongR, fineW, f0, f1]; try rfl) rfl ⟨by rw [hfin.out], two_set hbw (by omega)⟩
end Go.Proofs.YtblhpiebheommaaGreat
/- One more step round changes nothing: an object that is in itself is so within as many steps as there are objects. No program in sight. -/
namespace Go.Proofs.YtblhpiebheommaaGreat

theorem pigeon : ∀ (n : Nat) (g : Nat → Nat), (∀ m, m ≤ n → g m < n) → ∃ a b, a < b ∧ b ≤ n ∧ g a = g b
  | 0, g, h => absurd (h 0 (Nat.le_refl 0)) (Nat.not_lt_zero _)
  | n + 1, g, h => by
    by_cases hx : ∃ a, a ≤ n ∧ g a = g (n + 1)
    · obtain ⟨a, h1, h2⟩ := hx
      exact ⟨a, n + 1, by omega, Nat.le_refl _, h2⟩
    · have hne : ∀ a, a ≤ n → g a ≠ g (n + 1) := fun a ha he => hx ⟨a, ha, he⟩
      have hv := h (n + 1) (Nat.le_refl _)
      obtain ⟨a, b, h1, h2, h3⟩ := pigeon n (fun m => if g m = n then g (n + 1) else g m) (fun m hm => by
        have h4 := h m (by omega)
        have h5 := hne m hm
        show (if g m = n then g (n + 1) else g m) < n
        split
        · rename_i he; omega
        · omega)
      have h3 : (if g a = n then g (n + 1) else g a) = if g b = n then g (n + 1) else g b := h3
      refine ⟨a, b, h1, by omega, ?_⟩
      have ha := hne a (by omega)
      have hb := hne b (by omega)
      split at h3
      · split at h3
        · omega
        · omega
      · split at h3
        · omega
        · exact h3

/-- Where so many steps lead. -/
def walkN (f : Nat → Option Nat) (i : Nat) : Nat → Option Nat
  | 0 => some i
  | m + 1 => (walkN f i m).bind f
theorem walkN_add (f : Nat → Option Nat) (i : Nat) {a b : Nat} (h : walkN f i a = walkN f i b) : ∀ k, walkN f i (a + k) = walkN f i (b + k)
  | 0 => h
  | k + 1 => by show (walkN f i (a + k)).bind f = (walkN f i (b + k)).bind f; rw [walkN_add f i h k]
theorem walkN_some (f : Nat → Option Nat) (i : Nat) {m k : Nat} (hk : k ≤ m) {v : Nat} (h : walkN f i m = some v) : ∃ u, walkN f i k = some u := by
  induction m generalizing v with
  | zero => exact ⟨i, by rw [show k = 0 by omega]; rfl⟩
  | succ m ih =>
    by_cases hkm : k = m + 1
    · subst hkm; exact ⟨v, h⟩
    · have h : (walkN f i m).bind f = some v := h
      obtain ⟨u, hu, _⟩ := Option.bind_eq_some_iff.1 h
      exact ih (by omega) hu
theorem no_later (f : Nat → Option Nat) (n i : Nat) (hi : i < n) (hf : ∀ a b, f a = some b → b < n) (hno : ∀ m, 1 ≤ m → m ≤ n → walkN f i m ≠ some i) : walkN f i (n + 1) ≠ some i := by
  intro h
  have hs : ∀ m, m ≤ n → ∃ u, walkN f i m = some u := fun m hm => walkN_some f i (by omega) h
  have hlt : ∀ m, m ≤ n → (walkN f i m).getD 0 < n := fun m hm => by
    obtain ⟨u, hu⟩ := hs m hm
    rw [hu]
    cases m with
    | zero => have : some i = some u := hu; cases this; exact hi
    | succ m =>
      have hu : (walkN f i m).bind f = some u := hu
      obtain ⟨z, _, hz⟩ := Option.bind_eq_some_iff.1 hu
      exact hf z u hz
  obtain ⟨a, b, h1, h2, h3⟩ := pigeon n (fun m => (walkN f i m).getD 0) hlt
  have he : walkN f i a = walkN f i b := by
    obtain ⟨u, hu⟩ := hs a (by omega)
    obtain ⟨v, hv⟩ := hs b h2
    have h3 : (walkN f i a).getD 0 = (walkN f i b).getD 0 := h3
    rw [hu, hv] at h3 ⊢
    simpa using h3
  have h4 := walkN_add f i he (n + 1 - b)
  rw [show b + (n + 1 - b) = n + 1 by omega, h] at h4
  exact hno (a + (n + 1 - b)) (by omega) (by omega) h4

theorem roundN_walk (t : List NameD) (os : List ObjD) (i : Nat) : ∀ (k m : Nat) (a : Nat), walkN (stepN t os) i m = some a → (roundN t os i k a = true ↔ ∃ j, 1 ≤ j ∧ j ≤ k ∧ walkN (stepN t os) i (m + j) = some i ∧ ∀ j', 1 ≤ j' → j' < j → walkN (stepN t os) i (m + j') ≠ some i)
  | 0, m, a, h => ⟨(fun h => absurd h (by simp [roundN])), (fun ⟨j, h1, h2, _⟩ => by omega)⟩
  | k + 1, m, a, h => by
    unfold roundN
    have hnext : walkN (stepN t os) i (m + 1) = stepN t os a := by show (walkN (stepN t os) i m).bind _ = _; rw [h]; rfl
    cases hs : stepN t os a with
    | none =>
      refine ⟨fun h => by simp at h, fun ⟨j, h1, h2, h3, _⟩ => ?_⟩
      rw [hs] at hnext
      obtain ⟨u, hu⟩ := walkN_some (stepN t os) i (k := m + 1) (by omega) h3
      rw [hnext] at hu; cases hu
    | some b =>
      rw [hs] at hnext
      by_cases hb : b = i
      · subst hb
        simp only [if_true, true_iff]
        exact ⟨1, Nat.le_refl _, by omega, hnext, fun j' h1 h2 => by omega⟩
      · show (if b = i then true else roundN t os i k b) = true ↔ _
        rw [if_neg hb]
        rw [roundN_walk t os i k (m + 1) b hnext]
        constructor
        · rintro ⟨j, h1, h2, h3, h4⟩
          refine ⟨j + 1, by omega, by omega, by rw [show m + (j + 1) = m + 1 + j by omega]; exact h3, fun j' g1 g2 => ?_⟩
          by_cases g3 : j' = 1
          · subst g3; rw [hnext]; simpa using hb
          · have := h4 (j' - 1) (by omega) (by omega)
            rwa [show m + 1 + (j' - 1) = m + j' by omega] at this
        · rintro ⟨j, h1, h2, h3, h4⟩
          by_cases g3 : j = 1
          · subst g3; rw [hnext] at h3; exact absurd (Option.some.inj h3) hb
          · refine ⟨j - 1, by omega, by omega, by rw [show m + 1 + (j - 1) = m + j by omega]; exact h3, fun j' g1 g2 => ?_⟩
            have := h4 (j' + 1) (by omega) (by omega)
            rwa [show m + (j' + 1) = m + 1 + j' by omega] at this

/-- One step more than there are objects. -/
theorem roundN_more (t : List NameD) (os : List ObjD) (i : Nat) (hi : i < os.length) (hf : ∀ a b, stepN t os a = some b → b < os.length) : roundN t os i (os.length + 1) i = roundN t os i os.length i := by
  have h0 : walkN (stepN t os) i 0 = some i := rfl
  have h1 := roundN_walk t os i os.length 0 i h0
  have h2 := roundN_walk t os i (os.length + 1) 0 i h0
  have h3 : roundN t os i os.length i = true ↔ roundN t os i (os.length + 1) i = true := by
    rw [h1, h2]
    constructor
    · rintro ⟨j, g1, g2, g3, g4⟩; exact ⟨j, g1, by omega, g3, g4⟩
    · rintro ⟨j, g1, g2, g3, g4⟩
      by_cases g5 : j = os.length + 1
      · subst g5
        rw [Nat.zero_add] at g3
        refine absurd g3 (no_later (stepN t os) os.length i hi hf fun m q1 q2 => ?_)
        have := g4 m q1 (by omega)
        rwa [Nat.zero_add] at this
      · exact ⟨j, g1, by omega, g3, g4⟩
  cases hx : roundN t os i os.length i <;> cases hy : roundN t os i (os.length + 1) i <;> simp_all
end Go.Proofs.YtblhpiebheommaaGreat
