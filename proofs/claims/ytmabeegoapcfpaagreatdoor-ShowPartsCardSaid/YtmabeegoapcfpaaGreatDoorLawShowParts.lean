/- The law ShowParts, walked: it returns true at any source, any text and any number in memory. Printed by gen-show19.py. -/
import Derived.Test.YtmabeegoapcfpaaGreatDoorPartsQ
import Derived.Test.YtmabeegoapcfpaaGreatDoorShowE
import Derived.Test.YtmabeegoapcfpaaGreatDoorRrS
import Derived.Test.YtmabeegoapcfpaaGreatDoorSosS
import Derived.Test.YtmabeegoapcfpaaGreatDoorFew14
import Derived.Deep.DeepCutAuto
import Derived.BigRegion
namespace Go.Proofs.YtmabeegoapcfpaaGreatDoor
open Go.RowKit Go.Sort
theorem Tryz.infoPair : (Tryz.prog.info? 35).map (fun i => (i.zero, i.size, i.bytes)) = some (some (.agg #[.string ⟨#[]⟩, .int .i64 0]), 2, 24) := by kernel_rfl
theorem Tryz.infoStr : (Tryz.prog.info? 9).map (fun i => (i.zero, i.size, i.bytes)) = some (some (.string ⟨#[]⟩), 1, 16) := by kernel_rfl
set_option maxRecDepth 100000 in
set_option maxHeartbeats 20000000 in
theorem showParts_calls (F : Nat → Prop) (w : World) (x : SrcD) (cs : List Value) (nm : ByteArray) (n : Int) (hF : Inn F w) (hm : MX w) (hx : Holds.src.R F w x cs) (hs0 : nm.size ≤ maxLen) (hn : I64 n) :
    Calls Tryz.prog 6 #[.agg cs.toArray, .string nm, .int .i64 n] w (Gives w (.bool true)) := by
  have hx2 := hx
  obtain ⟨da5, fa5, da6, fa6, da7, fa7, da8, fa8, da9, fa9, da10, fa10, da11, fa11, da12, fa12, rfl, ka5, ka6, ka7, ka8, ka9, ka10, ka11, ka12⟩ := src_shape hx2
  clear ka6 ka8 ka9 ka10 ka11 ka12
  obtain ⟨W1, hW1⟩ : ∃ W1, w.alloc (.cells #[.string x.title, .string x.author, .string x.start, .int .i64 x.release, .int .i64 x.most, .slice da5 x.flags.length fa5, .slice da6 x.props.length fa6, .slice da7 x.globals.length fa7, .slice da8 x.objects.length fa8, .slice da9 x.verbs.length fa9, .slice da10 x.rules.length fa10, .slice da11 x.funcs.length fa11, .slice da12 x.daemons.length fa12] 29) = W1 := ⟨_, rfl⟩
  have hs1 : W1.heap.size = w.heap.size + 1 := by rw [← hW1]; simp
  have hb1 : Below w.heap.size w W1 := by rw [← hW1]; exact (Below.refl _ _).alloc (Nat.le_refl _) _
  have hbx1 : BoxAt W1 w.heap.size [.string x.title, .string x.author, .string x.start, .int .i64 x.release, .int .i64 x.most, .slice da5 x.flags.length fa5, .slice da6 x.props.length fa6, .slice da7 x.globals.length fa7, .slice da8 x.objects.length fa8, .slice da9 x.verbs.length fa9, .slice da10 x.rules.length fa10, .slice da11 x.funcs.length fa11, .slice da12 x.daemons.length fa12] := by rw [← hW1]; exact BoxAt.new _ _ _
  have hE : Hid (∀ W, Below W1.heap.size W1 W → BoxAt W (w.heap.size) [.string x.title, .string x.author, .string x.start, .int .i64 x.release, .int .i64 x.most, .slice da5 x.flags.length fa5, .slice da6 x.props.length fa6, .slice da7 x.globals.length fa7, .slice da8 x.objects.length fa8, .slice da9 x.verbs.length fa9, .slice da10 x.rules.length fa10, .slice da11 x.funcs.length fa11, .slice da12 x.daemons.length fa12] ∧ w.heap.size < W.heap.size ∧ Below w.heap.size w W) := fun W h2 => ⟨hbx1.below h2 (by omega), by have := h2.size; omega, (bt hb1 h2)⟩
  have HZ0 := Lib.hid hs1
  have HW1 := Lib.hid hW1
  clear hW1 hs1 hb1 hbx1
  have HFX := Lib.hid (fun (W : World) (hW : Below w.heap.size w W) => few14_calls F W x _ (hF.below hW) (Holds.below Holds.src hx hF hW (Nat.le_refl _)))
  have hq := fun (W : World) (hW : Below w.heap.size w W) => rrRight_calls F W x _ (hF.below hW) (Holds.below Holds.src hx hF hW (Nat.le_refl _))
  have HAW := Lib.hid (fun (W : World) (hW : Below w.heap.size w W) => awake14_calls W (hm.below hW (Nat.le_refl _)))
  obtain ⟨sm, hsm⟩ : ∃ b, dec (SrcR x) = b := ⟨_, rfl⟩
  simp only [hsm] at hq
  have HQ := Lib.hid hq
  have HSM := Lib.hid hsm
  clear hsm hq
  go_enter Tryz.func6, Tryz.ntmps6
  go_upto_region 1 with fail
  rw [HW1.out]
  obtain ⟨hq1, hq4, hqt⟩ := hE.out W1 (Below.refl _ _)
  have HB : Below W1.heap.size W1 W1 := Below.refl _ _
  have y0 := hq1.2 0 (by simp); have y1 := hq1.2 1 (by simp); have y2 := hq1.2 2 (by simp); have y3 := hq1.2 3 (by simp); have y4 := hq1.2 4 (by simp); have y5 := hq1.2 5 (by simp); have y6 := hq1.2 6 (by simp); have y7 := hq1.2 7 (by simp); have y8 := hq1.2 8 (by simp); have y9 := hq1.2 9 (by simp); have y10 := hq1.2 10 (by simp); have y11 := hq1.2 11 (by simp); have y12 := hq1.2 12 (by simp); simp only [cqs, cqz] at y0 y1 y2 y3 y4 y5 y6 y7 y8 y9 y10 y11 y12
  go_wp2_with (go_at_call 7; (with_reducible refine (HFX.out _ hqt).mono ?_))
  rintro e w3 ⟨q, rfl, hb3⟩
  have HB := bt HB hb3; obtain ⟨hq1, hq4, hqt⟩ := hE.out _ HB; clear y0 y1 y2 y3 y4 y5 y6 y7 y8 y9 y10 y11 y12; have y0 := hq1.2 0 (by simp); have y1 := hq1.2 1 (by simp); have y2 := hq1.2 2 (by simp); have y3 := hq1.2 3 (by simp); have y4 := hq1.2 4 (by simp); have y5 := hq1.2 5 (by simp); have y6 := hq1.2 6 (by simp); have y7 := hq1.2 7 (by simp); have y8 := hq1.2 8 (by simp); have y9 := hq1.2 9 (by simp); have y10 := hq1.2 10 (by simp); have y11 := hq1.2 11 (by simp); have y12 := hq1.2 12 (by simp); simp only [cqs, cqz] at y0 y1 y2 y3 y4 y5 y6 y7 y8 y9 y10 y11 y12
  cases q
  · go_wp2_with (go_at_call 8; (with_reducible refine (HAW.out _ hqt).mono ?_); rintro e w5 ⟨rfl, hb5⟩)
    go_ret
    exact ⟨rfl, bt hqt hb5⟩
  go_wp2_with (go_at_call 10; (with_reducible refine (HQ.out _ hqt).mono ?_))
  rintro e w4 ⟨rfl, hb4⟩
  have HB := bt HB hb4; obtain ⟨hq1, hq4, hqt⟩ := hE.out _ HB; clear y0 y1 y2 y3 y4 y5 y6 y7 y8 y9 y10 y11 y12; have y0 := hq1.2 0 (by simp); have y1 := hq1.2 1 (by simp); have y2 := hq1.2 2 (by simp); have y3 := hq1.2 3 (by simp); have y4 := hq1.2 4 (by simp); have y5 := hq1.2 5 (by simp); have y6 := hq1.2 6 (by simp); have y7 := hq1.2 7 (by simp); have y8 := hq1.2 8 (by simp); have y9 := hq1.2 9 (by simp); have y10 := hq1.2 10 (by simp); have y11 := hq1.2 11 (by simp); have y12 := hq1.2 12 (by simp); simp only [cqs, cqz] at y0 y1 y2 y3 y4 y5 y6 y7 y8 y9 y10 y11 y12
  cases sm
  · go_wp2_with (go_at_call 8; (with_reducible refine (HAW.out _ hqt).mono ?_); rintro e w5 ⟨rfl, hb5⟩)
    go_ret
    exact ⟨rfl, bt hqt hb5⟩
  by_cases hl : (40 : Int) < (nm.size : Int)
  · go_wp2_with (go_at_call 8; (with_reducible refine (HAW.out _ hqt).mono ?_); rintro e w5 ⟨rfl, hb5⟩)
    go_ret
    exact ⟨rfl, bt hqt hb5⟩
  have hR : SrcR x := by
    by_cases h : SrcR x
    · exact h
    · have := HSM.out; rw [dec_false h] at this; cases this
  have HL5 : Hid (x.flags.length ≤ 16) := Lib.hid (by have := hR.2.2.2.2.2.1.1; omega)
  have HL7 : Hid (x.globals.length ≤ 64) := Lib.hid (by have := hR.2.2.2.2.2.2.2.1.1; omega)
  have HRR := Lib.hid hR
  clear hR
  go_upto_region 3 with fail
  go_cut [7, 8] (fun p q wc => Hid (∃ A B, p = .pointer (some ⟨A, 0, none⟩) ∧ q = .pointer (some ⟨B, 0, none⟩) ∧ A ≠ B ∧ w4.heap.size ≤ A ∧ w4.heap.size ≤ B ∧ BoxU wc A [.string x.title, .string x.author, .string x.start, .int .i64 x.release, .int .i64 x.most, .slice da5 x.flags.length fa5, .slice da6 x.props.length fa6, .slice da7 x.globals.length fa7, .slice da8 x.objects.length fa8, .slice da9 x.verbs.length fa9, .slice da10 x.rules.length fa10, .slice da11 x.funcs.length fa11, .slice da12 x.daemons.length fa12] ∧ BoxU wc B [.string x.title, .string x.author, .string x.start, .int .i64 x.release, .int .i64 x.most, .slice da5 x.flags.length fa5, .slice da6 x.props.length fa6, .slice da7 x.globals.length fa7, .slice da8 x.objects.length fa8, .slice da9 x.verbs.length fa9, .slice da10 x.rules.length fa10, .slice da11 x.funcs.length fa11, .slice da12 x.daemons.length fa12] ∧ Below w4.heap.size w4 wc))
  case first =>
    go_region
    all_goals (go_wp2_with fail; go_meet)
    · obtain ⟨t1, t2, t3⟩ := boxes_two w4 [.string x.title, .string x.author, .string x.start, .int .i64 x.release, .int .i64 x.most, .slice da5 x.flags.length fa5, .slice da6 x.props.length fa6, .slice da7 x.globals.length fa7, .slice da8 x.objects.length fa8, .slice da9 x.verbs.length fa9, .slice da10 x.rules.length fa10, .slice da11 x.funcs.length fa11, .slice da12 x.daemons.length fa12] 29
      exact Lib.hid ⟨_, _, rfl, rfl, by omega, by omega, by omega, t1, t2, t3⟩
    · obtain ⟨t1, t2, t3⟩ := boxes_two w4 [.string x.title, .string x.author, .string x.start, .int .i64 x.release, .int .i64 x.most, .slice da5 x.flags.length fa5, .slice da6 x.props.length fa6, .slice da7 x.globals.length fa7, .slice da8 x.objects.length fa8, .slice da9 x.verbs.length fa9, .slice da10 x.rules.length fa10, .slice da11 x.funcs.length fa11, .slice da12 x.daemons.length fa12] 29
      exact Lib.hid ⟨_, _, rfl, rfl, by omega, by omega, by omega, t2, t1, t3⟩
  case rest =>
    obtain ⟨A, B, rfl, rfl, hAB, hA, hB2, hbA, hbB, hbc⟩ := hcut.out
    clear hcut
    obtain ⟨wp, hwp⟩ : ∃ W : World, W = wc := ⟨_, rfl⟩
    subst hwp
    have hBc := hbB.1
    have hHB4 := HB
    have HB := bt HB hbc; obtain ⟨hq1, hq4, hqt⟩ := hE.out _ HB; clear y0 y1 y2 y3 y4 y5 y6 y7 y8 y9 y10 y11 y12; have y0 := hq1.2 0 (by simp); have y1 := hq1.2 1 (by simp); have y2 := hq1.2 2 (by simp); have y3 := hq1.2 3 (by simp); have y4 := hq1.2 4 (by simp); have y5 := hq1.2 5 (by simp); have y6 := hq1.2 6 (by simp); have y7 := hq1.2 7 (by simp); have y8 := hq1.2 8 (by simp); have y9 := hq1.2 9 (by simp); have y10 := hq1.2 10 (by simp); have y11 := hq1.2 11 (by simp); have y12 := hq1.2 12 (by simp); simp only [cqs, cqz] at y0 y1 y2 y3 y4 y5 y6 y7 y8 y9 y10 y11 y12
    go_upto_region 4 with fail
    have hc5 := ka5.below hF hqt (Nat.le_refl _)
    obtain ⟨ns5, -, hn5, ho5, hr5, hp5⟩ := RdL.news (by decide) hc5 (str_one _ _)
    have z5 : ∀ o, (wp.alloc o).cell? ⟨w.heap.size, 5, none⟩ = some (.slice da5 x.flags.length fa5) := fun o => (((Below.refl _ wp).alloc (Nat.le_refl _) o).cell (p := ⟨w.heap.size, 5, none⟩) hq4).trans y5
    obtain ⟨i0, hi, hz0, hz1, hz2⟩ := info_parts Tryz.infoStr
    go_cut [] (fun wd => Hid (∃ a5 c5, BoxU wd A [.string x.title, .string x.author, .string x.start, .int .i64 x.release, .int .i64 x.most, .slice a5 (x.flags.length + 1) c5, .slice da6 x.props.length fa6, .slice da7 x.globals.length fa7, .slice da8 x.objects.length fa8, .slice da9 x.verbs.length fa9, .slice da10 x.rules.length fa10, .slice da11 x.funcs.length fa11, .slice da12 x.daemons.length fa12] ∧ BoxU wd B [.string x.title, .string x.author, .string x.start, .int .i64 x.release, .int .i64 x.most, .slice da5 x.flags.length fa5, .slice da6 x.props.length fa6, .slice da7 x.globals.length fa7, .slice da8 x.objects.length fa8, .slice da9 x.verbs.length fa9, .slice da10 x.rules.length fa10, .slice da11 x.funcs.length fa11, .slice da12 x.daemons.length fa12] ∧ OwnR Holds.str 9 1 wp.heap.size wd (x.flags ++ [nm]) (.slice a5 (x.flags.length + 1) c5) ∧ Below w4.heap.size w4 wd ∧ wp.heap.size ≤ wd.heap.size))
    case first =>
      have hN0 : (wp.alloc (.cells #[] 9)).ownsRow wp.heap.size 9 1 (.slice (some ⟨wp.heap.size, 0, none⟩) 0 0) 0 [] := World.ownsRow_lit wp #[] 0 (Nat.le_refl _) (by unfold maxLen; omega) rfl
      have hp5' : 0 < x.flags.length → ∃ p, da5 = some p ∧ ∀ j u, ns5[j]? = some u → (wp.alloc (.cells #[] 9)).cell? (p.add j) = some u := fun h0 => by
        obtain ⟨p, e, hpb, hpc⟩ := hp5 h0
        exact ⟨p, e, hpc _ (((Below.refl _ wp).alloc (Nat.le_refl _) _).block _ (Nat.lt_of_lt_of_le (hF _ hpb) hqt.size))⟩
      have hL := HL5.out
      have hARM : ∀ (v1 : Value) (w1 : World) (v2 : Value) (w2 : World), w1.ownsRow wp.heap.size 9 1 v1 x.flags.length ns5 → (wp.alloc (.cells #[] 9)).grownBy w1 (some wp.heap.size) → w2.ownsRow wp.heap.size 9 1 v2 (x.flags.length + 1) (ns5 ++ [.string nm]) →
          (w1.alloc (.cells #[.string nm] 9)).grownBy w2 v1.ownBlock → (v2.ownBlock = v1.ownBlock ∨ v2.ownBlock = some (w1.alloc (.cells #[.string nm] 9)).heap.size) →
          ∃ a2 c2, v2 = .slice a2 (x.flags.length + 1) c2 ∧ Below wp.heap.size wp w2 ∧ OwnR Holds.str 9 1 wp.heap.size w2 (x.flags ++ [nm]) (.slice a2 (x.flags.length + 1) c2) ∧ BoxU w2 A [.string x.title, .string x.author, .string x.start, .int .i64 x.release, .int .i64 x.most, .slice da5 x.flags.length fa5, .slice da6 x.props.length fa6, .slice da7 x.globals.length fa7, .slice da8 x.objects.length fa8, .slice da9 x.verbs.length fa9, .slice da10 x.rules.length fa10, .slice da11 x.funcs.length fa11, .slice da12 x.daemons.length fa12] ∧ w2.cell? ⟨A, 5, none⟩ = some (.slice da5 x.flags.length fa5) ∧ w2.frozen? ⟨A, 5, none⟩ = false := by
        intro v1 w1 v2 w2 hown1 hgrow1 hown2 hgrow2 hat2
        obtain ⟨a2, c2, rfl⟩ := ownsRow_shape hown2
        obtain ⟨hbw, HO2⟩ := own_two (R := Holds.str) (x := nm) (cs := [.string nm]) hown1 hgrow1 hown2 hgrow2 hat2 rfl (fun _ => hr5) (fun _ => ⟨hs0, rfl⟩)
        have hu2 := hbA.below hbw hbA.1.1
        exact ⟨a2, c2, rfl, hbw, HO2, hu2, hu2.1.2 5 (by simp), hu2.2 5⟩
      have HARM := Lib.hid hARM
      clear hARM
      go_wp2_with (first
        | (at_builtin; refine wpList_append_own_opt rfl (.tmp 25) (.tmp 27) 22 rfl wp.heap.size 9 i0 _ 1 16 Tryz.underlying22 hi hz0 hz1 hz2 rfl (by decide) _ 0 [] rfl hN0 da5 x.flags.length fa5 ns5 rfl hn5 hp5' ho5 (by unfold maxLen; omega) (by omega) (by simp) ?_; rw [List.nil_append, Nat.zero_add]; intro v1 w1 hown1 hgrow1 _; obtain ⟨a1, c1, rfl⟩ := ownsRow_shape hown1)
        | (at_builtin; refine wpList_append_own_opt rfl (.tmp 28) (.tmp 30) 22 rfl wp.heap.size 9 i0 _ 1 16 Tryz.underlying22 hi hz0 hz1 hz2 rfl (by decide) _ x.flags.length ns5 rfl (hown1.alloc _) (some ⟨w1.heap.size, 0, none⟩) 1 1 [.string nm] rfl rfl (fun _ => ⟨_, rfl, cell_one_new _ _ _⟩) (by simp [Value.oneCell']) (by unfold maxLen; omega) (by omega) (by have := hgrow1.size; simp at this ⊢; omega) ?_; intro v2 w2 hown2 hgrow2 hat2; obtain ⟨a2, c2, rfl, hbw, HO2, hu2, hcA, hfA⟩ := HARM.out _ _ _ _ hown1 hgrow1 hown2 hgrow2 hat2; clear hown1 hown2 hgrow1 hgrow2 hat2))
      go_meet
      case rel =>
        exact Lib.hid ⟨a2, c2, hu2.set 5 _ (by simp), (hbB.below hbw hbB.1.1).far hAB, HO2.aside hbA.1.1, ((bt hbc hbw).setCell hA _), by simpa using hbw.size⟩
    case rest =>
      obtain ⟨a5, c5, hbA, hbB, HO5, hbd, hzd⟩ := hcut.out
      clear hcut
      obtain ⟨wd, hwd⟩ : ∃ W : World, W = wc := ⟨_, rfl⟩
      subst hwd
      have HB := bt hHB4 hbd; obtain ⟨hq1, hq4, hqt⟩ := hE.out _ HB; clear y0 y1 y2 y3 y4 y5 y6 y7 y8 y9 y10 y11 y12; have y0 := hq1.2 0 (by simp); have y1 := hq1.2 1 (by simp); have y2 := hq1.2 2 (by simp); have y3 := hq1.2 3 (by simp); have y4 := hq1.2 4 (by simp); have y5 := hq1.2 5 (by simp); have y6 := hq1.2 6 (by simp); have y7 := hq1.2 7 (by simp); have y8 := hq1.2 8 (by simp); have y9 := hq1.2 9 (by simp); have y10 := hq1.2 10 (by simp); have y11 := hq1.2 11 (by simp); have y12 := hq1.2 12 (by simp); simp only [cqs, cqz] at y0 y1 y2 y3 y4 y5 y6 y7 y8 y9 y10 y11 y12
      go_upto_region 5 with fail
      have hc7 := ka7.below hF hqt (Nat.le_refl _)
      obtain ⟨ns7, -, hn7, ho7, hr7, hp7⟩ := RdL.news (by decide) hc7 (pair_one _ _)
      have z7 : ∀ o, (wd.alloc o).cell? ⟨w.heap.size, 7, none⟩ = some (.slice da7 x.globals.length fa7) := fun o => (((Below.refl _ wd).alloc (Nat.le_refl _) o).cell (p := ⟨w.heap.size, 7, none⟩) hq4).trans y7
      obtain ⟨i0, hi, hz0, hz1, hz2⟩ := info_parts Tryz.infoPair
      go_cut [] (fun we => Hid (∃ a7 c7, BoxU we A [.string x.title, .string x.author, .string x.start, .int .i64 x.release, .int .i64 x.most, .slice a5 (x.flags.length + 1) c5, .slice da6 x.props.length fa6, .slice da7 x.globals.length fa7, .slice da8 x.objects.length fa8, .slice da9 x.verbs.length fa9, .slice da10 x.rules.length fa10, .slice da11 x.funcs.length fa11, .slice da12 x.daemons.length fa12] ∧ BoxU we B [.string x.title, .string x.author, .string x.start, .int .i64 x.release, .int .i64 x.most, .slice da5 x.flags.length fa5, .slice da6 x.props.length fa6, .slice a7 (x.globals.length + 1) c7, .slice da8 x.objects.length fa8, .slice da9 x.verbs.length fa9, .slice da10 x.rules.length fa10, .slice da11 x.funcs.length fa11, .slice da12 x.daemons.length fa12] ∧ OwnR Holds.str 9 1 wp.heap.size we (x.flags ++ [nm]) (.slice a5 (x.flags.length + 1) c5) ∧ OwnR Holds.pair 35 2 wd.heap.size we (x.globals ++ [⟨{ data := #[122, 101, 98, 114, 97] }, n⟩]) (.slice a7 (x.globals.length + 1) c7) ∧ Below w4.heap.size w4 we))
      case first =>
        have hN0 : (wd.alloc (.cells #[] 35)).ownsRow wd.heap.size 35 2 (.slice (some ⟨wd.heap.size, 0, none⟩) 0 0) 0 [] := World.ownsRow_lit wd #[] 0 (Nat.le_refl _) (by unfold maxLen; omega) rfl
        have hp7' : 0 < x.globals.length → ∃ p, da7 = some p ∧ ∀ j u, ns7[j]? = some u → (wd.alloc (.cells #[] 35)).cell? (p.add j) = some u := fun h0 => by
          obtain ⟨p, e, hpb, hpc⟩ := hp7 h0
          exact ⟨p, e, hpc _ (((Below.refl _ wd).alloc (Nat.le_refl _) _).block _ (Nat.lt_of_lt_of_le (hF _ hpb) hqt.size))⟩
        have hL := HL7.out
        have hARM : ∀ (v1 : Value) (w1 : World) (v2 : Value) (w2 : World), w1.ownsRow wd.heap.size 35 2 v1 x.globals.length ns7 → (wd.alloc (.cells #[] 35)).grownBy w1 (some wd.heap.size) → w2.ownsRow wd.heap.size 35 2 v2 (x.globals.length + 1) (ns7 ++ [.string { data := #[122, 101, 98, 114, 97] }, .int .i64 n]) →
            (w1.alloc (.cells #[.string { data := #[122, 101, 98, 114, 97] }, .int .i64 n] 35)).grownBy w2 v1.ownBlock → (v2.ownBlock = v1.ownBlock ∨ v2.ownBlock = some (w1.alloc (.cells #[.string { data := #[122, 101, 98, 114, 97] }, .int .i64 n] 35)).heap.size) →
            ∃ a2 c2, v2 = .slice a2 (x.globals.length + 1) c2 ∧ Below wd.heap.size wd w2 ∧ OwnR Holds.pair 35 2 wd.heap.size w2 (x.globals ++ [⟨{ data := #[122, 101, 98, 114, 97] }, n⟩]) (.slice a2 (x.globals.length + 1) c2) ∧ BoxU w2 B [.string x.title, .string x.author, .string x.start, .int .i64 x.release, .int .i64 x.most, .slice da5 x.flags.length fa5, .slice da6 x.props.length fa6, .slice da7 x.globals.length fa7, .slice da8 x.objects.length fa8, .slice da9 x.verbs.length fa9, .slice da10 x.rules.length fa10, .slice da11 x.funcs.length fa11, .slice da12 x.daemons.length fa12] ∧ w2.cell? ⟨B, 7, none⟩ = some (.slice da7 x.globals.length fa7) ∧ w2.frozen? ⟨B, 7, none⟩ = false := by
          intro v1 w1 v2 w2 hown1 hgrow1 hown2 hgrow2 hat2
          obtain ⟨a2, c2, rfl⟩ := ownsRow_shape hown2
          obtain ⟨hbw, HO2⟩ := own_two (R := Holds.pair) (x := ⟨{ data := #[122, 101, 98, 114, 97] }, n⟩) (cs := [.string { data := #[122, 101, 98, 114, 97] }, .int .i64 n]) hown1 hgrow1 hown2 hgrow2 hat2 rfl (fun _ => hr7) (fun _ => ⟨by show (5 : Nat) ≤ 2 ^ 63 - 1; decide, hn, rfl⟩)
          have hu2 := hbB.below hbw hbB.1.1
          exact ⟨a2, c2, rfl, hbw, HO2, hu2, hu2.1.2 7 (by simp), hu2.2 7⟩
        have HARM := Lib.hid hARM
        clear hARM
        go_wp2_with (first
          | (at_builtin; refine wpList_append_own_opt rfl (.tmp 33) (.tmp 35) 23 rfl wd.heap.size 35 i0 _ 2 24 Tryz.underlying23 hi hz0 hz1 hz2 rfl (by decide) _ 0 [] rfl hN0 da7 x.globals.length fa7 ns7 rfl hn7 hp7' ho7 (by unfold maxLen; omega) (by omega) (by simp) ?_; rw [List.nil_append, Nat.zero_add]; intro v1 w1 hown1 hgrow1 _; obtain ⟨a1, c1, rfl⟩ := ownsRow_shape hown1)
          | (at_builtin; refine wpList_append_own_opt rfl (.tmp 36) (.tmp 39) 23 rfl wd.heap.size 35 i0 _ 2 24 Tryz.underlying23 hi hz0 hz1 hz2 rfl (by decide) _ x.globals.length ns7 rfl (hown1.alloc _) (some ⟨w1.heap.size, 0, none⟩) 1 1 [.string { data := #[122, 101, 98, 114, 97] }, .int .i64 n] rfl rfl (fun _ => ⟨_, rfl, cells_two _ _ _ _⟩) (by simp [Value.oneCell']) (by unfold maxLen; omega) (by omega) (by have := hgrow1.size; simp at this ⊢; omega) ?_; intro v2 w2 hown2 hgrow2 hat2; obtain ⟨a2, c2, rfl, hbw, HO2, hu2, hcB, hfB⟩ := HARM.out _ _ _ _ hown1 hgrow1 hown2 hgrow2 hat2; clear hown1 hown2 hgrow1 hgrow2 hat2))
        go_meet
        case rel =>
          exact Lib.hid ⟨a2, c2, (hbA.below hbw hbA.1.1).far (fun e => hAB e.symm), hu2.set 7 _ (by simp), (HO5.below hbw).aside hBc.1, HO2.aside hbB.1.1, ((bt hbd hbw).setCell hB2 _)⟩
      case rest =>
        obtain ⟨a7, c7, hbA, hbB, HO5, HO7, hbe⟩ := hcut.out
        clear hcut
        obtain ⟨we, hwe⟩ : ∃ W : World, W = wc := ⟨_, rfl⟩
        subst hwe
        have HB := bt hHB4 hbe; obtain ⟨hq1, hq4, hqt⟩ := hE.out _ HB; clear y0 y1 y2 y3 y4 y5 y6 y7 y8 y9 y10 y11 y12
        have hin : Inn (fun b => F b ∨ NewB w4.heap.size we.heap.size b) we := fun b hb => hb.elim (fun h => Nat.lt_of_lt_of_le (hF b h) hqt.size) (fun h => h.2)
        have hXe : Holds.src.R F we x [.string x.title, .string x.author, .string x.start, .int .i64 x.release, .int .i64 x.most, .slice da5 x.flags.length fa5, .slice da6 x.props.length fa6, .slice da7 x.globals.length fa7, .slice da8 x.objects.length fa8, .slice da9 x.verbs.length fa9, .slice da10 x.rules.length fa10, .slice da11 x.funcs.length fa11, .slice da12 x.daemons.length fa12] := (Holds.below Holds.src hx hF hqt (Nat.le_refl _))
        have hwp : w4.heap.size ≤ wp.heap.size := hbc.size
        have hA' := src_flags hXe (G := fun b => F b ∨ NewB w4.heap.size we.heap.size b) (fun _ => Or.inl) (HO5.rdl.keep (fun _ _ => rfl) (fun b hb => Or.inr ⟨by have := hb.1; omega, hb.2⟩))
        have hB' := src_globals hXe (G := fun b => F b ∨ NewB w4.heap.size we.heap.size b) (fun _ => Or.inl) (HO7.rdl.keep (fun _ _ => rfl) (fun b hb => Or.inr ⟨by have := hb.1; omega, hb.2⟩))
        have hX' := Holds.src.keep (F := F) (G := fun b => F b ∨ NewB w4.heap.size we.heap.size b) (w := we) (fun _ _ => rfl) (fun _ => Or.inl) hXe
        have hmE : MX we := hm.below hqt (Nat.le_refl _)
        have ZR := zebra_right (n := n) HRR.out
        have nA : ({ x with flags := x.flags ++ [nm] } : SrcD) ≠ x := fun e => by have := congrArg (fun s : SrcD => s.flags.length) e; simp at this
        have nB : ({ x with globals := x.globals ++ [⟨{ data := #[122, 101, 98, 114, 97] }, n⟩] } : SrcD) ≠ x := fun e => by have := congrArg (fun s : SrcD => s.globals.length) e; simp at this
        have h1 := fun (W : World) (hW : Below we.heap.size we W) => sameS_calls _ W _ x _ _ (hin.below hW) (Holds.below Holds.src hA' hin hW (Nat.le_refl _)) (Holds.below Holds.src hX' hin hW (Nat.le_refl _))
        have h2 := fun (W : World) (hW : Below we.heap.size we W) => sameS_calls _ W _ x _ _ (hin.below hW) (Holds.below Holds.src hB' hin hW (Nat.le_refl _)) (Holds.below Holds.src hX' hin hW (Nat.le_refl _))
        have h3 := fun (W : World) (hW : Below we.heap.size we W) => rightS_calls _ W _ _ (hin.below hW) (hmE.below hW (Nat.le_refl _)) (Holds.below Holds.src hA' hin hW (Nat.le_refl _))
        have h4 := fun (W : World) (hW : Below we.heap.size we W) => rrRight_calls _ W _ _ (hin.below hW) (Holds.below Holds.src hA' hin hW (Nat.le_refl _))
        have h5 := fun (W : World) (hW : Below we.heap.size we W) => rightS_calls _ W _ _ (hin.below hW) (hmE.below hW (Nat.le_refl _)) (Holds.below Holds.src hB' hin hW (Nat.le_refl _))
        have h6 := fun (W : World) (hW : Below we.heap.size we W) => HAW.out W (bt hqt hW)
        simp only [same_ne nA] at h1
        simp only [same_ne nB] at h2
        obtain ⟨rb, hrb⟩ : ∃ b, dec (SrcR { x with flags := x.flags ++ [nm] }) = b := ⟨_, rfl⟩
        simp only [hrb] at h3 h4
        obtain ⟨rz, hrz⟩ : ∃ b, dec (SrcR { x with globals := x.globals ++ [⟨{ data := #[122, 101, 98, 114, 97] }, n⟩] }) = b := ⟨_, rfl⟩
        simp only [hrz] at h5
        have H1 := Lib.hid h1; have H2 := Lib.hid h2; have H3 := Lib.hid h3; have H4 := Lib.hid h4; have H5 := Lib.hid h5; have H6 := Lib.hid h6
        have HZ : Hid ((rz = true ∧ x.globals.length < 64 ∧ -32767 ≤ n ∧ n ≤ 32767) ∨ (rz = false ∧ ¬ (x.globals.length < 64 ∧ -32767 ≤ n ∧ n ≤ 32767))) := by
          by_cases hz : x.globals.length < 64 ∧ -32767 ≤ n ∧ n ≤ 32767
          · exact Or.inl ⟨by rw [← hrz, dec_true (ZR.2 hz)], hz⟩
          · exact Or.inr ⟨by rw [← hrz, dec_false (fun h => hz (ZR.1 h))], hz⟩
        have HE2 : Hid (∀ W, Below we.heap.size we W → BoxAt W w.heap.size [.string x.title, .string x.author, .string x.start, .int .i64 x.release, .int .i64 x.most, .slice da5 x.flags.length fa5, .slice da6 x.props.length fa6, .slice da7 x.globals.length fa7, .slice da8 x.objects.length fa8, .slice da9 x.verbs.length fa9, .slice da10 x.rules.length fa10, .slice da11 x.funcs.length fa11, .slice da12 x.daemons.length fa12] ∧ BoxAt W A [.string x.title, .string x.author, .string x.start, .int .i64 x.release, .int .i64 x.most, .slice a5 (x.flags.length + 1) c5, .slice da6 x.props.length fa6, .slice da7 x.globals.length fa7, .slice da8 x.objects.length fa8, .slice da9 x.verbs.length fa9, .slice da10 x.rules.length fa10, .slice da11 x.funcs.length fa11, .slice da12 x.daemons.length fa12] ∧ BoxAt W B [.string x.title, .string x.author, .string x.start, .int .i64 x.release, .int .i64 x.most, .slice da5 x.flags.length fa5, .slice da6 x.props.length fa6, .slice a7 (x.globals.length + 1) c7, .slice da8 x.objects.length fa8, .slice da9 x.verbs.length fa9, .slice da10 x.rules.length fa10, .slice da11 x.funcs.length fa11, .slice da12 x.daemons.length fa12] ∧ Below w.heap.size w W) := Lib.hid fun W hW => ⟨hq1.below hW hq1.1, hbA.1.below hW hbA.1.1, hbB.1.below hW hbB.1.1, bt hqt hW⟩
        clear h1 h2 h3 h4 h5 h6 hrb hrz ZR nA nB hA' hB' hX' hXe hin HO5 HO7 hbA hbB hbe hbd hbc hBc hwp hzd hAB hA hB2 hq1 hmE
        obtain ⟨x1, x2, x3, hqt⟩ := HE2.out we (Below.refl _ _)
        have y0 := x1.2 0 (by simp); have y1 := x1.2 1 (by simp); have y2 := x1.2 2 (by simp); have y3 := x1.2 3 (by simp); have y4 := x1.2 4 (by simp); have y5 := x1.2 5 (by simp); have y6 := x1.2 6 (by simp); have y7 := x1.2 7 (by simp); have y8 := x1.2 8 (by simp); have y9 := x1.2 9 (by simp); have y10 := x1.2 10 (by simp); have y11 := x1.2 11 (by simp); have y12 := x1.2 12 (by simp); simp only [cqs, cqz] at y0 y1 y2 y3 y4 y5 y6 y7 y8 y9 y10 y11 y12
        have a0 := x2.2 0 (by simp); have a1 := x2.2 1 (by simp); have a2 := x2.2 2 (by simp); have a3 := x2.2 3 (by simp); have a4 := x2.2 4 (by simp); have a5 := x2.2 5 (by simp); have a6 := x2.2 6 (by simp); have a7 := x2.2 7 (by simp); have a8 := x2.2 8 (by simp); have a9 := x2.2 9 (by simp); have a10 := x2.2 10 (by simp); have a11 := x2.2 11 (by simp); have a12 := x2.2 12 (by simp); simp only [cqs, cqz] at a0 a1 a2 a3 a4 a5 a6 a7 a8 a9 a10 a11 a12
        have b0 := x3.2 0 (by simp); have b1 := x3.2 1 (by simp); have b2 := x3.2 2 (by simp); have b3 := x3.2 3 (by simp); have b4 := x3.2 4 (by simp); have b5 := x3.2 5 (by simp); have b6 := x3.2 6 (by simp); have b7 := x3.2 7 (by simp); have b8 := x3.2 8 (by simp); have b9 := x3.2 9 (by simp); have b10 := x3.2 10 (by simp); have b11 := x3.2 11 (by simp); have b12 := x3.2 12 (by simp); simp only [cqs, cqz] at b0 b1 b2 b3 b4 b5 b6 b7 b8 b9 b10 b11 b12
        have K {f : FuncId} {args : Array Value} {u : Value} (h : ∀ w', Below we.heap.size we w' → Calls Tryz.prog f args w' (Gives w' u)) (p : Regrown) : Calls Tryz.prog f args (grow (redrawn we p.d) p.os) fun e w3 => e = .returned u ∧ ∃ p : Regrown, w3 = grow (redrawn we p.d) p.os := regrown_gives (fun w3 hb => h w3 hb) p
        have G1 := Lib.hid (K H1.out); have G2 := Lib.hid (K H2.out); have G3 := Lib.hid (K H3.out); have G4 := Lib.hid (K H4.out)
        clear K
        have c0 := fun d os => cell_regrown y0 d os; have d0 := fun d os => cell_regrown a0 d os; have e0 := fun d os => cell_regrown b0 d os; have c1 := fun d os => cell_regrown y1 d os; have d1 := fun d os => cell_regrown a1 d os; have e1 := fun d os => cell_regrown b1 d os; have c2 := fun d os => cell_regrown y2 d os; have d2 := fun d os => cell_regrown a2 d os; have e2 := fun d os => cell_regrown b2 d os; have c3 := fun d os => cell_regrown y3 d os; have d3 := fun d os => cell_regrown a3 d os; have e3 := fun d os => cell_regrown b3 d os; have c4 := fun d os => cell_regrown y4 d os; have d4 := fun d os => cell_regrown a4 d os; have e4 := fun d os => cell_regrown b4 d os; have c5 := fun d os => cell_regrown y5 d os; have d5 := fun d os => cell_regrown a5 d os; have e5 := fun d os => cell_regrown b5 d os; have c6 := fun d os => cell_regrown y6 d os; have d6 := fun d os => cell_regrown a6 d os; have e6 := fun d os => cell_regrown b6 d os; have c7 := fun d os => cell_regrown y7 d os; have d7 := fun d os => cell_regrown a7 d os; have e7 := fun d os => cell_regrown b7 d os; have c8 := fun d os => cell_regrown y8 d os; have d8 := fun d os => cell_regrown a8 d os; have e8 := fun d os => cell_regrown b8 d os; have c9 := fun d os => cell_regrown y9 d os; have d9 := fun d os => cell_regrown a9 d os; have e9 := fun d os => cell_regrown b9 d os; have c10 := fun d os => cell_regrown y10 d os; have d10 := fun d os => cell_regrown a10 d os; have e10 := fun d os => cell_regrown b10 d os; have c11 := fun d os => cell_regrown y11 d os; have d11 := fun d os => cell_regrown a11 d os; have e11 := fun d os => cell_regrown b11 d os; have c12 := fun d os => cell_regrown y12 d os; have d12 := fun d os => cell_regrown a12 d os; have e12 := fun d os => cell_regrown b12 d os
        go_upto_region 6 with fail
        refine wp_region_quiet_below (by kernel_rfl) (by kernel_rfl) ?_
        repeat (go_big_quiet_step (first | with_reducible exact G1.out _ | with_reducible exact G2.out _ | with_reducible exact G3.out _ | with_reducible exact G4.out _))
        refine wpQuiet_nil ?_
        intro w6 hw6
        have hb6 := below_of_regrown hw6
        clear hw6 G1 G2 G3 G4 c0 d0 e0 y0 a0 b0 c1 d1 e1 y1 a1 b1 c2 d2 e2 y2 a2 b2 c3 d3 e3 y3 a3 b3 c4 d4 e4 y4 a4 b4 c5 d5 e5 y5 a5 b5 c6 d6 e6 y6 a6 b6 c7 d7 e7 y7 a7 b7 c8 d8 e8 y8 a8 b8 c9 d9 e9 y9 a9 b9 c10 d10 e10 y10 a10 b10 c11 d11 e11 y11 a11 b11 c12 d12 e12 y12 a12 b12
        obtain ⟨x1, -, x3, hqt⟩ := HE2.out w6 hb6
        have y0 := x1.2 0 (by simp); have y1 := x1.2 1 (by simp); have y2 := x1.2 2 (by simp); have y3 := x1.2 3 (by simp); have y4 := x1.2 4 (by simp); have y5 := x1.2 5 (by simp); have y6 := x1.2 6 (by simp); have y7 := x1.2 7 (by simp); have y8 := x1.2 8 (by simp); have y9 := x1.2 9 (by simp); have y10 := x1.2 10 (by simp); have y11 := x1.2 11 (by simp); have y12 := x1.2 12 (by simp); simp only [cqs, cqz] at y0 y1 y2 y3 y4 y5 y6 y7 y8 y9 y10 y11 y12
        have b0 := x3.2 0 (by simp); have b1 := x3.2 1 (by simp); have b2 := x3.2 2 (by simp); have b3 := x3.2 3 (by simp); have b4 := x3.2 4 (by simp); have b5 := x3.2 5 (by simp); have b6 := x3.2 6 (by simp); have b7 := x3.2 7 (by simp); have b8 := x3.2 8 (by simp); have b9 := x3.2 9 (by simp); have b10 := x3.2 10 (by simp); have b11 := x3.2 11 (by simp); have b12 := x3.2 12 (by simp); simp only [cqs, cqz] at b0 b1 b2 b3 b4 b5 b6 b7 b8 b9 b10 b11 b12
        have K {f : FuncId} {args : Array Value} {u : Value} (h : ∀ w', Below w6.heap.size w6 w' → Calls Tryz.prog f args w' (Gives w' u)) (p : Regrown) : Calls Tryz.prog f args (grow (redrawn w6 p.d) p.os) fun e w3 => e = .returned u ∧ ∃ p : Regrown, w3 = grow (redrawn w6 p.d) p.os := regrown_gives (fun w3 hb => h w3 hb) p
        have G5 := Lib.hid (K (fun W hW => H5.out W (bt hb6 hW))); have G6 := Lib.hid (K (fun W hW => H6.out W (bt hb6 hW)))
        clear K
        have c0 := fun d os => cell_regrown y0 d os; have e0 := fun d os => cell_regrown b0 d os; have c1 := fun d os => cell_regrown y1 d os; have e1 := fun d os => cell_regrown b1 d os; have c2 := fun d os => cell_regrown y2 d os; have e2 := fun d os => cell_regrown b2 d os; have c3 := fun d os => cell_regrown y3 d os; have e3 := fun d os => cell_regrown b3 d os; have c4 := fun d os => cell_regrown y4 d os; have e4 := fun d os => cell_regrown b4 d os; have c5 := fun d os => cell_regrown y5 d os; have e5 := fun d os => cell_regrown b5 d os; have c6 := fun d os => cell_regrown y6 d os; have e6 := fun d os => cell_regrown b6 d os; have c7 := fun d os => cell_regrown y7 d os; have e7 := fun d os => cell_regrown b7 d os; have c8 := fun d os => cell_regrown y8 d os; have e8 := fun d os => cell_regrown b8 d os; have c9 := fun d os => cell_regrown y9 d os; have e9 := fun d os => cell_regrown b9 d os; have c10 := fun d os => cell_regrown y10 d os; have e10 := fun d os => cell_regrown b10 d os; have c11 := fun d os => cell_regrown y11 d os; have e11 := fun d os => cell_regrown b11 d os; have c12 := fun d os => cell_regrown y12 d os; have e12 := fun d os => cell_regrown b12 d os
        clear y0 b0 y1 b1 y2 b2 y3 b3 y4 b4 y5 b5 y6 b6 y7 b7 y8 b8 y9 b9 y10 b10 y11 b11 y12 b12
        have HQT := Lib.hid hqt
        go_upto_region 8 with fail
        rcases HZ.out with ⟨rfl, z1, z2, z3⟩ | ⟨rfl, hz⟩
        · have z1 : (x.globals.length : Int) < 64 := by omega
          refine wp_region_quiet_below (by kernel_rfl) (by kernel_rfl) ?_
          repeat (go_big_quiet_step (first | with_reducible exact G5.out _ | with_reducible exact G6.out _))
          refine wpQuiet_nil ?_
          intro w7 hw7
          have hb7 := below_of_regrown hw7
          clear hw7
          go_wp2_with fail
          go_ret
          exact ⟨rfl, bt HQT.out hb7⟩
        · have hz := Lib.hid hz
          by_cases z1 : (x.globals.length : Int) < 64
          · by_cases z2 : -32767 ≤ n
            · by_cases z3 : n ≤ 32767
              · exact absurd ⟨by omega, z2, z3⟩ hz.out
              · refine wp_region_quiet_below (by kernel_rfl) (by kernel_rfl) ?_
                repeat (go_big_quiet_step (first | with_reducible exact G5.out _ | with_reducible exact G6.out _))
                refine wpQuiet_nil ?_
                intro w7 hw7
                have hb7 := below_of_regrown hw7
                clear hw7
                go_wp2_with fail
                go_ret
                exact ⟨rfl, bt HQT.out hb7⟩
            · refine wp_region_quiet_below (by kernel_rfl) (by kernel_rfl) ?_
              repeat (go_big_quiet_step (first | with_reducible exact G5.out _ | with_reducible exact G6.out _))
              refine wpQuiet_nil ?_
              intro w7 hw7
              have hb7 := below_of_regrown hw7
              clear hw7
              go_wp2_with fail
              go_ret
              exact ⟨rfl, bt HQT.out hb7⟩
          · refine wp_region_quiet_below (by kernel_rfl) (by kernel_rfl) ?_
            repeat (go_big_quiet_step (first | with_reducible exact G5.out _ | with_reducible exact G6.out _))
            refine wpQuiet_nil ?_
            intro w7 hw7
            have hb7 := below_of_regrown hw7
            clear hw7
            go_wp2_with fail
            go_ret
            exact ⟨rfl, bt HQT.out hb7⟩
end Go.Proofs.YtmabeegoapcfpaaGreatDoor
