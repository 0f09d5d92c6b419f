/- clewref14.Source at any source that is right. Printed by gen-sh9.py. -/
import Derived.Test.YtdeecfkipknkbaaGreatDoorShU
import Derived.Test.YtdeecfkipknkbaaGreatDoorShV
namespace Go.Proofs.YtdeecfkipknkbaaGreatDoor
set_option maxRecDepth 100000
set_option maxHeartbeats 40000000
open Go.RowKit Go.Sort
theorem srcShowR_calls (F : Nat → Prop) (w : World) (x : SrcD) (cs : List Value) (hF : Inn F w) (hr : SrcR x) (hsz : (srcB x).size ≤ 1000000000000) (hx : Holds.src.R F w x cs) :
 Calls Tryz.prog 11 #[.agg cs.toArray] w (Gives w (.string (srcB x))) := by
 obtain ⟨x_title, x_author, x_start, x_release, x_most, x_flags, x_props, x_globals, x_objects, x_verbs, x_rules, x_funcs, x_daemons⟩ := x
 obtain ⟨-, -, -, -, -, va5, va6, va7, va8, va9, va10, va11, va12, rfl, ka5, ka6, ka7, ka8, ka9, ka10, ka11, ka12⟩ := hx
 simp only at ka5 ka6 ka7 ka8 ka9 ka10 ka11 ka12
 have hhz := headS_sz hr
 have hfz := flagsS_sz hr.2.2.2.2.2.1
 obtain ⟨hrt, hra, hrs, hrrl, hrrm, hr5, hr6, hr7, hr8, hr9, hr10, hr11, hr12⟩ := hr
 simp only at hrt hra hrs hrrl hrrm hr5 hr6 hr7 hr8 hr9 hr10 hr11 hr12
 obtain ⟨da5, fa5, rfl⟩ := ka5.shape
 obtain ⟨da6, fa6, rfl⟩ := ka6.shape
 obtain ⟨da7, fa7, rfl⟩ := ka7.shape
 obtain ⟨da8, fa8, rfl⟩ := ka8.shape
 obtain ⟨da9, fa9, rfl⟩ := ka9.shape
 obtain ⟨da10, fa10, rfl⟩ := ka10.shape
 obtain ⟨da11, fa11, rfl⟩ := ka11.shape
 obtain ⟨da12, fa12, rfl⟩ := ka12.shape
 have hQ1 := fun (W : World) => quoteR_calls x_title W (by have := hrt.1; omega)
 have hQ2 := fun (W : World) => quoteR_calls x_author W (by have := hra.1; omega)
 have hN1 := fun (W : World) => Same0.gv (textR_calls (x_release.natAbs + 1) x_release (by omega) (num_i64 hrrl) W)
 have hN2 := fun (W : World) => Same0.gv (textR_calls (x_most.natAbs + 1) x_most (by omega) (num_i64 hrrm) W)
 have hzf := names_sz comma (by decide) (m := 16) (by have := hr5.1; omega) hr5.2
 have hJN := fun (W : World) (hW : Below w.heap.size w W) => join_calls x_flags F W _ comma (hF.below hW) (ka5.below hF hW (Nat.le_refl _)) (by have := hr5.1; omega) (by omega)
 have hz1 := quote_sz hrt
 have hz2 := quote_sz hra
 have hz3 := isName_size hrs
 have hz4 := numB_sz x_release (num_i64 hrrl)
 have hz5 := numB_sz x_most (num_i64 hrrm)
 have e0 : srcB ⟨x_title, x_author, x_start, x_release, x_most, x_flags, x_props, x_globals, x_objects, x_verbs, x_rules, x_funcs, x_daemons⟩ = (⟨#[115, 116, 111, 114, 121, 32]⟩ ++ quoteB x_title ++ ⟨#[32, 98, 121, 32]⟩ ++ quoteB x_author ++ ⟨#[32, 114, 101, 108, 101, 97, 115, 101, 32]⟩ ++ numB x_release ++ ⟨#[32, 109, 97, 120, 32]⟩ ++ numB x_most ++ ⟨#[32, 115, 116, 97, 114, 116, 32]⟩ ++ x_start ++ ⟨#[59, 10]⟩) ++ flagsS ⟨x_title, x_author, x_start, x_release, x_most, x_flags, x_props, x_globals, x_objects, x_verbs, x_rules, x_funcs, x_daemons⟩ ++ catB (x_props.map propS) ++ catB (x_globals.map globS) ++ catB (x_objects.map objB) ++ catB (x_verbs.map verbB) ++ catB (x_rules.map ruleT) ++ catB (x_funcs.map funB) ++ catB (x_daemons.map daeB) := rfl
 rw [e0] at hsz ⊢
 obtain ⟨q1, hq1⟩ : ∃ q, quoteB x_title = q := ⟨_, rfl⟩
 obtain ⟨q2, hq2⟩ : ∃ q, quoteB x_author = q := ⟨_, rfl⟩
 obtain ⟨n1, hn1⟩ : ∃ q, numB x_release = q := ⟨_, rfl⟩
 obtain ⟨n2, hn2⟩ : ∃ q, numB x_most = q := ⟨_, rfl⟩
 obtain ⟨qf, hqf⟩ : ∃ q, sepB comma x_flags = q := ⟨_, rfl⟩
 obtain ⟨E, hEe⟩ : ∃ q, flagsS ⟨x_title, x_author, x_start, x_release, x_most, x_flags, x_props, x_globals, x_objects, x_verbs, x_rules, x_funcs, x_daemons⟩ = q := ⟨_, rfl⟩
 obtain ⟨pl, hpl⟩ : ∃ q, x_props.map propS = q := ⟨_, rfl⟩
 obtain ⟨gl, hgl⟩ : ∃ q, x_globals.map globS = q := ⟨_, rfl⟩
 obtain ⟨ol, hol⟩ : ∃ q, x_objects.map objB = q := ⟨_, rfl⟩
 obtain ⟨vl, hvl⟩ : ∃ q, x_verbs.map verbB = q := ⟨_, rfl⟩
 obtain ⟨rl, hrl⟩ : ∃ q, x_rules.map ruleT = q := ⟨_, rfl⟩
 obtain ⟨fl, hfl⟩ : ∃ q, x_funcs.map funB = q := ⟨_, rfl⟩
 obtain ⟨dl, hdl⟩ : ∃ q, x_daemons.map daeB = q := ⟨_, rfl⟩
 have hEt : Hid (x_flags ≠ [] → E = ⟨#[102, 108, 97, 103, 32]⟩ ++ qf ++ ⟨#[59, 10]⟩) := fun h => by rw [← hEe, ← hqf]; unfold flagsS; rw [if_neg h]
 have hEf : Hid (x_flags = [] → E = ⟨#[]⟩) := fun h => by rw [← hEe]; unfold flagsS; rw [if_pos h]
 rw [hq1, hq2, hn1, hn2, hEe, hpl, hgl, hol, hvl, hrl, hfl, hdl] at hsz ⊢
 rw [hEe] at hfz
 rw [hq1] at hz1; rw [hq2] at hz2; rw [hn1] at hz4; rw [hn2] at hz5; rw [hqf] at hzf
 simp only [hq1] at hQ1; simp only [hq2] at hQ2; simp only [hn1] at hN1; simp only [hn2] at hN2; simp only [hqf] at hJN
 obtain ⟨A1, hA1⟩ : ∃ B, (⟨#[115, 116, 111, 114, 121, 32]⟩ ++ q1 ++ ⟨#[32, 98, 121, 32]⟩ ++ q2 ++ ⟨#[32, 114, 101, 108, 101, 97, 115, 101, 32]⟩ ++ n1 ++ ⟨#[32, 109, 97, 120, 32]⟩ ++ n2 ++ ⟨#[32, 115, 116, 97, 114, 116, 32]⟩ ++ x_start ++ ⟨#[59, 10]⟩) = B := ⟨_, rfl⟩
 obtain ⟨A2, hA2⟩ : ∃ B, A1 ++ E = B := ⟨_, rfl⟩
 obtain ⟨A3, hA3⟩ : ∃ B, A2 ++ catB pl = B := ⟨_, rfl⟩
 obtain ⟨A4, hA4⟩ : ∃ B, A3 ++ catB gl = B := ⟨_, rfl⟩
 obtain ⟨A5, hA5⟩ : ∃ B, A4 ++ catB ol = B := ⟨_, rfl⟩
 obtain ⟨A6, hA6⟩ : ∃ B, A5 ++ catB vl = B := ⟨_, rfl⟩
 obtain ⟨A7, hA7⟩ : ∃ B, A6 ++ catB rl = B := ⟨_, rfl⟩
 obtain ⟨A8, hA8⟩ : ∃ B, A7 ++ catB fl = B := ⟨_, rfl⟩
 obtain ⟨A9, hA9⟩ : ∃ B, A8 ++ catB dl = B := ⟨_, rfl⟩
 rw [hA1, hA2, hA3, hA4, hA5, hA6, hA7, hA8, hA9] at hsz ⊢
 have s2 : A2.size = A1.size + E.size := by rw [← hA2, ByteArray.size_append]
 have s3 : A3.size = A2.size + (catB pl).size := by rw [← hA3, ByteArray.size_append]
 have s4 : A4.size = A3.size + (catB gl).size := by rw [← hA4, ByteArray.size_append]
 have s5 : A5.size = A4.size + (catB ol).size := by rw [← hA5, ByteArray.size_append]
 have s6 : A6.size = A5.size + (catB vl).size := by rw [← hA6, ByteArray.size_append]
 have s7 : A7.size = A6.size + (catB rl).size := by rw [← hA7, ByteArray.size_append]
 have s8 : A8.size = A7.size + (catB fl).size := by rw [← hA8, ByteArray.size_append]
 have s9 : A9.size = A8.size + (catB dl).size := by rw [← hA9, ByteArray.size_append]
 have z1a : A1.size ≤ 1000000000000 := by omega
 have z2a : A2.size ≤ 1000000000000 := by omega
 have z3a : A3.size ≤ 1000000000000 := by omega
 have z4a : A4.size ≤ 1000000000000 := by omega
 have z5a : A5.size ≤ 1000000000000 := by omega
 have z6a : A6.size ≤ 1000000000000 := by omega
 have z7a : A7.size ≤ 1000000000000 := by omega
 have z8a : A8.size ≤ 1000000000000 := by omega
 have z9a : A9.size ≤ 1000000000000 := by omega
 obtain ⟨W1, hW1⟩ : ∃ W, w.alloc (.cells #[.string x_title, .string x_author, .string x_start, .int .i64 x_release, .int .i64 x_most, .slice da5 x_flags.length fa5, .slice da6 x_props.length fa6, .slice da7 x_globals.length fa7, .slice da8 x_objects.length fa8, .slice da9 x_verbs.length fa9, .slice da10 x_rules.length fa10, .slice da11 x_funcs.length fa11, .slice da12 x_daemons.length fa12] 29) = W := ⟨_, rfl⟩
 have hb1 := ba' hW1
 have hbx1 := bn' hW1
 have hE : Hid (∀ W, Below W1.heap.size W1 W → BoxAt W w.heap.size [.string x_title, .string x_author, .string x_start, .int .i64 x_release, .int .i64 x_most, .slice da5 x_flags.length fa5, .slice da6 x_props.length fa6, .slice da7 x_globals.length fa7, .slice da8 x_objects.length fa8, .slice da9 x_verbs.length fa9, .slice da10 x_rules.length fa10, .slice da11 x_funcs.length fa11, .slice da12 x_daemons.length fa12] ∧ Below w.heap.size w W) := fun W hW => ⟨hbx1.below hW hbx1.1, bt hb1 hW⟩
 have HW1 := Lib.hid hW1
 have hlpl : pl.length = x_props.length := by rw [← hpl]; simp
 have HIpl : Hid (∀ i (hi : i < x_props.length), pl[i]? = some (propS x_props[i])) := fun i hi => by rw [← hpl, List.getElem?_map, List.getElem?_eq_getElem hi]; rfl
 obtain ⟨_, _, he, hl6, hc6, h6o⟩ := ka6.opn
 cases he
 unfold maxLen at hc6
 have hmpl : x_props.length ≤ 16 := by have := hr6.1; omega
 have hlgl : gl.length = x_globals.length := by rw [← hgl]; simp
 have HIgl : Hid (∀ i (hi : i < x_globals.length), gl[i]? = some (globS x_globals[i])) := fun i hi => by rw [← hgl, List.getElem?_map, List.getElem?_eq_getElem hi]; rfl
 obtain ⟨_, _, he, hl7, hc7, h7o⟩ := ka7.opn
 cases he
 unfold maxLen at hc7
 have hmgl : x_globals.length ≤ 64 := by have := hr7.1; omega
 have hlol : ol.length = x_objects.length := by rw [← hol]; simp
 have HIol : Hid (∀ i (hi : i < x_objects.length), ol[i]? = some (objB x_objects[i])) := fun i hi => by rw [← hol, List.getElem?_map, List.getElem?_eq_getElem hi]; rfl
 obtain ⟨_, _, he, hl8, hc8, h8o⟩ := ka8.opn
 cases he
 unfold maxLen at hc8
 have hmol : x_objects.length ≤ 126 := by have := hr8.1; omega
 have hlvl : vl.length = x_verbs.length := by rw [← hvl]; simp
 have HIvl : Hid (∀ i (hi : i < x_verbs.length), vl[i]? = some (verbB x_verbs[i])) := fun i hi => by rw [← hvl, List.getElem?_map, List.getElem?_eq_getElem hi]; rfl
 obtain ⟨_, _, he, hl9, hc9, h9o⟩ := ka9.opn
 cases he
 unfold maxLen at hc9
 have hmvl : x_verbs.length ≤ 64 := by have := hr9.1; omega
 have hlrl : rl.length = x_rules.length := by rw [← hrl]; simp
 have HIrl : Hid (∀ i (hi : i < x_rules.length), rl[i]? = some (ruleT x_rules[i])) := fun i hi => by rw [← hrl, List.getElem?_map, List.getElem?_eq_getElem hi]; rfl
 obtain ⟨_, _, he, hl10, hc10, h10o⟩ := ka10.opn
 cases he
 unfold maxLen at hc10
 have hmrl : x_rules.length ≤ 512 := by have := hr10.1; omega
 have hlfl : fl.length = x_funcs.length := by rw [← hfl]; simp
 have HIfl : Hid (∀ i (hi : i < x_funcs.length), fl[i]? = some (funB x_funcs[i])) := fun i hi => by rw [← hfl, List.getElem?_map, List.getElem?_eq_getElem hi]; rfl
 obtain ⟨_, _, he, hl11, hc11, h11o⟩ := ka11.opn
 cases he
 unfold maxLen at hc11
 have hmfl : x_funcs.length ≤ 64 := by have := hr11.1; omega
 have hldl : dl.length = x_daemons.length := by rw [← hdl]; simp
 have HIdl : Hid (∀ i (hi : i < x_daemons.length), dl[i]? = some (daeB x_daemons[i])) := fun i hi => by rw [← hdl, List.getElem?_map, List.getElem?_eq_getElem hi]; rfl
 obtain ⟨_, _, he, hl12, hc12, h12o⟩ := ka12.opn
 cases he
 unfold maxLen at hc12
 have hmdl : x_daemons.length ≤ 16 := by have := hr12.1; omega
 have hlf : x_flags.length ≤ 16 := by have := hr5.1; omega
 have HQ1 := Lib.hid hQ1; have HQ2 := Lib.hid hQ2; have HN1 := Lib.hid hN1; have HN2 := Lib.hid hN2; have HJN := Lib.hid hJN
 have H6 := Lib.hid h6o; have HR6 := Lib.hid hr6; have H7 := Lib.hid h7o; have HR7 := Lib.hid hr7; have H8 := Lib.hid h8o; have HR8 := Lib.hid hr8; have H9 := Lib.hid h9o; have HR9 := Lib.hid hr9; have H10 := Lib.hid h10o; have HR10 := Lib.hid hr10; have H11 := Lib.hid h11o; have HR11 := Lib.hid hr11; have H12 := Lib.hid h12o; have HR12 := Lib.hid hr12
 have HLpl := Lib.hid hlpl; have HLgl := Lib.hid hlgl; have HLol := Lib.hid hlol; have HLvl := Lib.hid hlvl; have HLrl := Lib.hid hlrl; have HLfl := Lib.hid hlfl; have HLdl := Lib.hid hldl
 have HA1 := Lib.hid hA1; have HA2 := Lib.hid hA2; have HA3 := Lib.hid hA3; have HA4 := Lib.hid hA4; have HA5 := Lib.hid hA5; have HA6 := Lib.hid hA6; have HA7 := Lib.hid hA7; have HA8 := Lib.hid hA8; have HA9 := Lib.hid hA9
 have HZ3 := Lib.hid s3; have HZ4 := Lib.hid s4; have HZ5 := Lib.hid s5; have HZ6 := Lib.hid s6; have HZ7 := Lib.hid s7; have HZ8 := Lib.hid s8; have HZ9 := Lib.hid s9
 have HF := Lib.hid hF; have HZZ := Lib.hid hsz
 clear hW1 hb1 hbx1 hQ1 hQ2 hN1 hN2 hJN hF hrt hra hrs hrrl hrrm hr5 hr6 hr7 hr8 hr9 hr10 hr11 hr12 ka5 ka6 ka7 ka8 ka9 ka10 ka11 ka12 h6o h7o h8o h9o h10o h11o h12o hq1 hq2 hn1 hn2 hqf hEe hpl hlpl hgl hlgl hol hlol hvl hlvl hrl hlrl hfl hlfl hdl hldl hA1 hA2 hA3 hA4 hA5 hA6 hA7 hA8 hA9 s2 s3 s4 s5 s6 s7 s8 s9 e0 hsz hhz
 go_enter Tryz.func11, Tryz.ntmps11
 go_upto_region 1 with fail
 rw [HW1.out]
 obtain ⟨hq, hqt⟩ := hE.out W1 (Below.refl _ _)
 obtain ⟨h0, h1, h2, h3, h4, h5, h6, h7, h8, h9, h10, h11, h12⟩ := p12' hq.2
 clear hq
 go_cut [3] (fun v wc => v = .string A1 ∧ Hid (Below W1.heap.size W1 wc))
 case first =>
  have K := @rg' Tryz.prog W1
  have HK1 := Lib.hid (K (fun W (_ : Below W1.heap.size W1 W) => HQ1.out W))
  have HK2 := Lib.hid (K (fun W (_ : Below W1.heap.size W1 W) => HQ2.out W))
  have HK3 := Lib.hid (K (fun W (_ : Below W1.heap.size W1 W) => HN1.out W))
  have HK4 := Lib.hid (K (fun W (_ : Below W1.heap.size W1 W) => HN2.out W))
  clear K
  have zh0 := fun d os => cell_regrown h0 d os
  have zh1 := fun d os => cell_regrown h1 d os
  have zh2 := fun d os => cell_regrown h2 d os
  have zh3 := fun d os => cell_regrown h3 d os
  have zh4 := fun d os => cell_regrown h4 d os
  refine wp_region_quiet_below (by kernel_rfl) (by kernel_rfl) ?_
  repeat (go_big_quiet_step (first | with_reducible exact HK1.out _ | with_reducible exact HK2.out _ | with_reducible exact HK3.out _ | with_reducible exact HK4.out _))
  refine wpQuiet_nil ?_
  intro wq hwq
  have hbq := below_of_regrown hwq
  clear hwq
  go_wp2_with fail
  go_meet
  exact ⟨by rw [HA1.out], hbq⟩
 case rest =>
  obtain ⟨rfl, hB0⟩ := hcut
  have hB := hB0.out
  clear hB0 hqt h0 h1 h2 h3 h4 h5 h6 h7 h8 h9 h10 h11 h12 HQ1 HQ2 HN1 HN2 HA1
  obtain ⟨hq, hqt⟩ := hE.out wc (hB)
  obtain ⟨h0, h1, h2, h3, h4, h5, h6, h7, h8, h9, h10, h11, h12⟩ := p12' hq.2
  clear hq
  go_upto_region 2 with fail
  obtain ⟨wY, hwY⟩ : ∃ x : World, x = wc := ⟨_, rfl⟩
  rw [← hwY] at hB hqt h0 h1 h2 h3 h4 h5 h6 h7 h8 h9 h10 h11 h12 ⊢
  clear hwY
  go_cut [38] (fun v wd => Hid (∃ t : Bool, v = .bool t ∧ (t = true → E = ⟨#[102, 108, 97, 103, 32]⟩ ++ qf ++ ⟨#[59, 10]⟩) ∧ (t = false → E = ⟨#[]⟩) ∧ wY = wd))
  case first =>
   by_cases hn : x_flags = []
   · have hf := Lib.hid (hEf.out hn)
     have HN := Lib.hid hn
     clear hn
     go_wp2_with fail
     go_meet
     exact ⟨false, congrArg Value.bool (decide_eq_false (by rw [HN.out]; decide)), fun h => (by cases h), fun _ => hf.out, rfl⟩
   have hf := Lib.hid (hEt.out hn)
   have HN := Lib.hid hn
   clear hn
   go_wp2_with fail
   go_meet
   exact ⟨true, congrArg Value.bool (decide_eq_true (List.length_pos_iff.2 HN.out)), fun _ => hf.out, fun h => (by cases h), rfl⟩
  case rest =>
   obtain ⟨t, rfl, hbt, hbf, rfl⟩ := hcut.out
   have HBT := Lib.hid hbt; have HBF := Lib.hid hbf
   clear hcut hbt hbf hEt hEf
   go_upto_if 38 with fail
   go_cut [3] (fun v wc => v = .string A2 ∧ Hid (Below W1.heap.size W1 wc))
   case first =>
    cases t
    · have hf := Lib.hid (HBF.out rfl)
      go_wp2_with fail
      go_meet
      exact ⟨by rw [← HA2.out, hf.out, app_emp], hB⟩
    have hf := Lib.hid (HBT.out rfl)
    go_wp2_with (go_at_call 51; (with_reducible refine (HJN.out _ hqt).mono ?_); rintro e w4 ⟨rfl, hb4⟩)
    go_meet
    exact ⟨by rw [← HA2.out, hf.out]; simp only [ByteArray.append_assoc], bt hB hb4⟩
   case rest =>
    obtain ⟨rfl, hB0⟩ := hcut
    have hB := hB0.out
    clear hB0 hqt h0 h1 h2 h3 h4 h5 h6 h7 h8 h9 h10 h11 h12 HBT HBF HA2 HJN
    obtain ⟨hq, hqt⟩ := hE.out wc (hB)
    obtain ⟨h0, h1, h2, h3, h4, h5, h6, h7, h8, h9, h10, h11, h12⟩ := p12' hq.2
    clear hq
    go_wp2_with fail
    go_loopw [3, 4] (fun v i wr => ∃ k : Nat, k ≤ x_props.length ∧ i = .int .i64 k ∧ Hid (∃ B, v = .string B ∧ B = (A2 ++ catB (pl.take k))) ∧ Hid (Below W1.heap.size W1 wr)) (fun _ i _ => x_props.length - (intOf i).toNat)
    case atStart => exact ⟨0, Nat.zero_le _, rfl, Lib.hid ⟨_, rfl, by simp [catB, app_emp]⟩, hB⟩
    case round =>
     clear hqt h0 h1 h2 h3 h4 h5 h6 h7 h8 h9 h10 h11 h12 hB
     obtain ⟨k, hk, rfl, hA0, hB0⟩ := hrel
     obtain ⟨B, rfl, hBe⟩ := hA0.out
     have hB := hB0.out
     have HBE := Lib.hid hBe
     have hkz := catB_take_le pl k
     have hBz : B.size ≤ 1000000000000 := by rw [hBe, ByteArray.size_append]; have := HZ3.out; omega
     clear hA0 hB0 hBe
     obtain ⟨hq, hqt⟩ := hE.out wr (hB)
     obtain ⟨h0, h1, h2, h3, h4, h5, h6, h7, h8, h9, h10, h11, h12⟩ := p12' hq.2
     clear hq
     by_cases hlt : k < x_props.length
     · obtain ⟨bb, off, rfl, hFb, hel⟩ := H6.out (by omega)
       obtain ⟨cs, hx, -, hcell⟩ := hel wr (hqt.block bb (HF.out bb hFb)) k hlt
       have hpr := HR6.out.2 _ (List.getElem_mem hlt)
       have hpi := HIpl.out k hlt
       obtain ⟨p, hpe⟩ : ∃ p, x_props[k] = p := ⟨_, rfl⟩
       rw [hpe] at hx hpr hpi
       obtain ⟨pn, pm⟩ := p
       have hx2 := hx
       obtain ⟨-, hpm, rfl⟩ := hx2
       simp only at hpm
       simp only at hpr hcell hx
       have g0 := hcell 0 _ rfl
       have g1 := hcell 1 _ rfl
       simp only [Nat.add_zero] at g0
       have hbw : bb < wr.heap.size := Nat.lt_of_lt_of_le (HF.out bb hFb) hqt.size
       have hki : (k : Int) < (x_props.length : Int) := by omega
       have hki0 : (0 : Int) ≤ (k : Int) := by omega
       have hlk : k < pl.length := by rw [HLpl.out]; exact hlt
       have hkz2 := catB_take_le pl (k + 1)
       have hnx0 : B ++ propS ⟨pn, pm⟩ = (A2 ++ catB (pl.take (k + 1))) := by
        rw [catB_step pl k hlk, show pl[k] = propS ⟨pn, pm⟩ from by rw [List.getElem?_eq_getElem hlk] at hpi; exact Option.some.inj hpi, HBE.out, ByteArray.append_assoc]
       have hxz : B.size + (propS ⟨pn, pm⟩).size ≤ 1000000000000 := by
        rw [← ByteArray.size_append, hnx0]
        have h1 := HZ3.out
        rw [ByteArray.size_append]
        omega
       have HQT := Lib.hid hqt
       have HBW := Lib.hid hB
       have hps : pn.size ≤ 24 := isName_size hpr.1
       have hnb := numB_le hpm
       have hval := fun (W : World) (_ : Below wr.heap.size wr W) => Same0.gv (textR_calls (pm.natAbs + 1) pm (by omega) hpm W)
       have hnx1 : B ++ (⟨#[112, 114, 111, 112, 32]⟩ ++ (pn ++ ⟨#[32, 61, 32]⟩ ++ numB pm ++ ⟨#[59, 10]⟩)) = (A2 ++ catB (pl.take (k + 1))) := hnx0
       obtain ⟨z, hzz⟩ : ∃ z, numB pm = z := ⟨_, rfl⟩
       simp only [hzz] at hval hnx1 hnb
       have HNX := Lib.hid hnx1
       have HV := Lib.hid hval
       clear hpr hval hzz hnx1 hpm
       clear hel hcell hpi hpe hFb hlk hnx0 hkz hkz2 hxz HBE hB hx
       go_upto_region 7 with fail
       have K := @rg' Tryz.prog wr
       have HKV := Lib.hid (K HV.out)
       clear K
       have zh6 := fun d os => cell_regrown h6 d os
       have zg0 := fun d os => cell_regrown g0 d os
       have zg1 := fun d os => cell_regrown g1 d os
       refine wp_region_quiet_below (by kernel_rfl) (by kernel_rfl) ?_
       repeat (go_big_quiet_step (first | with_reducible exact HKV.out _))
       refine wpQuiet_nil ?_
       intro wq hwq
       have hbq := below_of_regrown hwq
       clear hwq
       go_wp2_with fail
       go_roundw
       case rel => exact ⟨k + 1, by omega, by go_num, Lib.hid ⟨_, rfl, by rw [← HNX.out]; simp only [ByteArray.append_assoc]⟩, Lib.hid (bt HBW.out hbq)⟩
       case measure => simp [intOf]; omega
     have : k = x_props.length := by omega
     subst this
     have hki : decide ((x_props.length : Int) < (x_props.length : Int)) = false := by simp
     obtain rfl : A3 = B := by rw [HBE.out, List.take_of_length_le (by rw [HLpl.out]; exact Nat.le_refl _), HA3.out]
     clear hkz HBE HR6 HIpl H6
     go_wp2_with fail
     go_loopw [3, 5] (fun v i wr => ∃ k : Nat, k ≤ x_globals.length ∧ i = .int .i64 k ∧ Hid (∃ B, v = .string B ∧ B = (A3 ++ catB (gl.take k))) ∧ Hid (Below W1.heap.size W1 wr)) (fun _ i _ => x_globals.length - (intOf i).toNat)
     case atStart => exact ⟨0, Nat.zero_le _, rfl, Lib.hid ⟨_, rfl, by simp [catB, app_emp]⟩, hB⟩
     case round =>
      clear hqt h0 h1 h2 h3 h4 h5 h6 h7 h8 h9 h10 h11 h12 hB
      obtain ⟨k, hk, rfl, hA0, hB0⟩ := hrel
      obtain ⟨B, rfl, hBe⟩ := hA0.out
      have hB := hB0.out
      have HBE := Lib.hid hBe
      have hkz := catB_take_le gl k
      have hBz : B.size ≤ 1000000000000 := by rw [hBe, ByteArray.size_append]; have := HZ4.out; omega
      clear hA0 hB0 hBe
      obtain ⟨hq, hqt⟩ := hE.out wr (hB)
      obtain ⟨h0, h1, h2, h3, h4, h5, h6, h7, h8, h9, h10, h11, h12⟩ := p12' hq.2
      clear hq
      by_cases hlt : k < x_globals.length
      · obtain ⟨bb, off, rfl, hFb, hel⟩ := H7.out (by omega)
        obtain ⟨cs, hx, -, hcell⟩ := hel wr (hqt.block bb (HF.out bb hFb)) k hlt
        have hpr := HR7.out.2 _ (List.getElem_mem hlt)
        have hpi := HIgl.out k hlt
        obtain ⟨p, hpe⟩ : ∃ p, x_globals[k] = p := ⟨_, rfl⟩
        rw [hpe] at hx hpr hpi
        obtain ⟨pn, pm⟩ := p
        have hx2 := hx
        obtain ⟨-, hpm, rfl⟩ := hx2
        simp only at hpm
        simp only at hpr hcell hx
        have g0 := hcell 0 _ rfl
        have g1 := hcell 1 _ rfl
        simp only [Nat.add_zero] at g0
        have hbw : bb < wr.heap.size := Nat.lt_of_lt_of_le (HF.out bb hFb) hqt.size
        have hki : (k : Int) < (x_globals.length : Int) := by omega
        have hki0 : (0 : Int) ≤ (k : Int) := by omega
        have hlk : k < gl.length := by rw [HLgl.out]; exact hlt
        have hkz2 := catB_take_le gl (k + 1)
        have hnx0 : B ++ globS ⟨pn, pm⟩ = (A3 ++ catB (gl.take (k + 1))) := by
         rw [catB_step gl k hlk, show gl[k] = globS ⟨pn, pm⟩ from by rw [List.getElem?_eq_getElem hlk] at hpi; exact Option.some.inj hpi, HBE.out, ByteArray.append_assoc]
        have hxz : B.size + (globS ⟨pn, pm⟩).size ≤ 1000000000000 := by
         rw [← ByteArray.size_append, hnx0]
         have h1 := HZ4.out
         rw [ByteArray.size_append]
         omega
        have HQT := Lib.hid hqt
        have HBW := Lib.hid hB
        have hps : pn.size ≤ 24 := isName_size hpr.1
        have hnb := numB_le hpm
        have hval := fun (W : World) (_ : Below wr.heap.size wr W) => Same0.gv (textR_calls (pm.natAbs + 1) pm (by omega) hpm W)
        have hnx1 : B ++ (⟨#[103, 108, 111, 98, 97, 108, 32]⟩ ++ (pn ++ ⟨#[32, 61, 32]⟩ ++ numB pm ++ ⟨#[59, 10]⟩)) = (A3 ++ catB (gl.take (k + 1))) := hnx0
        obtain ⟨z, hzz⟩ : ∃ z, numB pm = z := ⟨_, rfl⟩
        simp only [hzz] at hval hnx1 hnb
        have HNX := Lib.hid hnx1
        have HV := Lib.hid hval
        clear hpr hval hzz hnx1 hpm
        clear hel hcell hpi hpe hFb hlk hnx0 hkz hkz2 hxz HBE hB hx
        go_upto_region 11 with fail
        have K := @rg' Tryz.prog wr
        have HKV := Lib.hid (K HV.out)
        clear K
        have zh7 := fun d os => cell_regrown h7 d os
        have zg0 := fun d os => cell_regrown g0 d os
        have zg1 := fun d os => cell_regrown g1 d os
        refine wp_region_quiet_below (by kernel_rfl) (by kernel_rfl) ?_
        repeat (go_big_quiet_step (first | with_reducible exact HKV.out _))
        refine wpQuiet_nil ?_
        intro wq hwq
        have hbq := below_of_regrown hwq
        clear hwq
        go_wp2_with fail
        go_roundw
        case rel => exact ⟨k + 1, by omega, by go_num, Lib.hid ⟨_, rfl, by rw [← HNX.out]; simp only [ByteArray.append_assoc]⟩, Lib.hid (bt HBW.out hbq)⟩
        case measure => simp [intOf]; omega
      have : k = x_globals.length := by omega
      subst this
      have hki : decide ((x_globals.length : Int) < (x_globals.length : Int)) = false := by simp
      obtain rfl : A4 = B := by rw [HBE.out, List.take_of_length_le (by rw [HLgl.out]; exact Nat.le_refl _), HA4.out]
      clear hkz HBE HR7 HIgl H7
      go_wp2_with fail
      go_loopw [3, 6] (fun v i wr => ∃ k : Nat, k ≤ x_objects.length ∧ i = .int .i64 k ∧ Hid (∃ B, v = .string B ∧ B = (A4 ++ catB (ol.take k))) ∧ Hid (Below W1.heap.size W1 wr)) (fun _ i _ => x_objects.length - (intOf i).toNat)
      case atStart => exact ⟨0, Nat.zero_le _, rfl, Lib.hid ⟨_, rfl, by simp [catB, app_emp]⟩, hB⟩
      case round =>
       clear hqt h0 h1 h2 h3 h4 h5 h6 h7 h8 h9 h10 h11 h12 hB
       obtain ⟨k, hk, rfl, hA0, hB0⟩ := hrel
       obtain ⟨B, rfl, hBe⟩ := hA0.out
       have hB := hB0.out
       have HBE := Lib.hid hBe
       have hkz := catB_take_le ol k
       have hBz : B.size ≤ 1000000000000 := by rw [hBe, ByteArray.size_append]; have := HZ5.out; omega
       clear hA0 hB0 hBe
       obtain ⟨hq, hqt⟩ := hE.out wr (hB)
       obtain ⟨h0, h1, h2, h3, h4, h5, h6, h7, h8, h9, h10, h11, h12⟩ := p12' hq.2
       clear hq
       by_cases hlt : k < x_objects.length
       · obtain ⟨bb, off, rfl, hFb, hel⟩ := H8.out (by omega)
         obtain ⟨cs, hx, -, hcell⟩ := hel wr (hqt.block bb (HF.out bb hFb)) k hlt
         have hpr := HR8.out.2 _ (List.getElem_mem hlt)
         have hpi := HIol.out k hlt
         obtain ⟨p, hpe⟩ : ∃ p, x_objects[k] = p := ⟨_, rfl⟩
         rw [hpe] at hx hpr hpi
         obtain ⟨o_name, o_title, o_inn, o_text, o_room, o_words, o_adjs, o_flags, o_props, o_exits⟩ := p
         have hx2 := hx
         obtain ⟨-, -, -, -, ve5, ve6, ve7, ve8, ve9, rfl, ke5, ke6, ke7, ke8, ke9⟩ := hx2
         simp only at ke5 ke6 ke7 ke8 ke9
         obtain ⟨de5, fe5, rfl⟩ := ke5.shape
         obtain ⟨de6, fe6, rfl⟩ := ke6.shape
         obtain ⟨de7, fe7, rfl⟩ := ke7.shape
         obtain ⟨de8, fe8, rfl⟩ := ke8.shape
         obtain ⟨de9, fe9, rfl⟩ := ke9.shape
         simp only at hpr hcell hx
         have g0 := hcell 0 _ rfl
         have g1 := hcell 1 _ rfl
         have g2 := hcell 2 _ rfl
         have g3 := hcell 3 _ rfl
         have g4 := hcell 4 _ rfl
         have g5 := hcell 5 _ rfl
         have g6 := hcell 6 _ rfl
         have g7 := hcell 7 _ rfl
         have g8 := hcell 8 _ rfl
         have g9 := hcell 9 _ rfl
         simp only [Nat.add_zero] at g0
         have hbw : bb < wr.heap.size := Nat.lt_of_lt_of_le (HF.out bb hFb) hqt.size
         have hki : (k : Int) < (x_objects.length : Int) := by omega
         have hki0 : (0 : Int) ≤ (k : Int) := by omega
         have hlk : k < ol.length := by rw [HLol.out]; exact hlt
         have hkz2 := catB_take_le ol (k + 1)
         have hnx0 : B ++ objB ⟨o_name, o_title, o_inn, o_text, o_room, o_words, o_adjs, o_flags, o_props, o_exits⟩ = (A4 ++ catB (ol.take (k + 1))) := by
          rw [catB_step ol k hlk, show ol[k] = objB ⟨o_name, o_title, o_inn, o_text, o_room, o_words, o_adjs, o_flags, o_props, o_exits⟩ from by rw [List.getElem?_eq_getElem hlk] at hpi; exact Option.some.inj hpi, HBE.out, ByteArray.append_assoc]
         have hxz : B.size + (objB ⟨o_name, o_title, o_inn, o_text, o_room, o_words, o_adjs, o_flags, o_props, o_exits⟩).size ≤ 1000000000000 := by
          rw [← ByteArray.size_append, hnx0]
          have h1 := HZ5.out
          rw [ByteArray.size_append]
          omega
         have HQT := Lib.hid hqt
         have HBW := Lib.hid hB
         have hval := fun (W : World) (hW : Below wr.heap.size wr W) => showObj_calls F W ⟨o_name, o_title, o_inn, o_text, o_room, o_words, o_adjs, o_flags, o_props, o_exits⟩ [.string o_name, .string o_title, .string o_inn, .string o_text, .bool o_room, .slice de5 o_words.length fe5, .slice de6 o_adjs.length fe6, .slice de7 o_flags.length fe7, .slice de8 o_props.length fe8, .slice de9 o_exits.length fe9] (HF.out.below (bt HQT.out hW)) hpr (by omega) (Holds.below Holds.obj hx HF.out (bt HQT.out hW) (Nat.le_refl _))
         have HNX := Lib.hid hnx0
         obtain ⟨z, hzz⟩ : ∃ z, objB ⟨o_name, o_title, o_inn, o_text, o_room, o_words, o_adjs, o_flags, o_props, o_exits⟩ = z := ⟨_, rfl⟩
         simp only [hzz] at hval HNX hxz
         have hzb : z.size ≤ 1000000000000 := by omega
         have HV := Lib.hid hval
         clear hpr hval hzz ke5 ke6 ke7 ke8 ke9
         clear hel hcell hpi hpe hFb hlk hnx0 hkz hkz2 hxz HBE hB hx
         go_wp2_with (go_at_call 52; (with_reducible refine (HV.out _ (Below.refl _ _)).mono ?_); rintro e w4 ⟨rfl, hb4⟩)
         go_roundw
         case rel => exact ⟨k + 1, by omega, by go_num, Lib.hid ⟨_, rfl, HNX.out⟩, Lib.hid (bt HBW.out hb4)⟩
         case measure => simp [intOf]; omega
       have : k = x_objects.length := by omega
       subst this
       have hki : decide ((x_objects.length : Int) < (x_objects.length : Int)) = false := by simp
       obtain rfl : A5 = B := by rw [HBE.out, List.take_of_length_le (by rw [HLol.out]; exact Nat.le_refl _), HA5.out]
       clear hkz HBE HR8 HIol H8
       go_wp2_with fail
       go_loopw [3, 7] (fun v i wr => ∃ k : Nat, k ≤ x_verbs.length ∧ i = .int .i64 k ∧ Hid (∃ B, v = .string B ∧ B = (A5 ++ catB (vl.take k))) ∧ Hid (Below W1.heap.size W1 wr)) (fun _ i _ => x_verbs.length - (intOf i).toNat)
       case atStart => exact ⟨0, Nat.zero_le _, rfl, Lib.hid ⟨_, rfl, by simp [catB, app_emp]⟩, hB⟩
       case round =>
        clear hqt h0 h1 h2 h3 h4 h5 h6 h7 h8 h9 h10 h11 h12 hB
        obtain ⟨k, hk, rfl, hA0, hB0⟩ := hrel
        obtain ⟨B, rfl, hBe⟩ := hA0.out
        have hB := hB0.out
        have HBE := Lib.hid hBe
        have hkz := catB_take_le vl k
        have hBz : B.size ≤ 1000000000000 := by rw [hBe, ByteArray.size_append]; have := HZ6.out; omega
        clear hA0 hB0 hBe
        obtain ⟨hq, hqt⟩ := hE.out wr (hB)
        obtain ⟨h0, h1, h2, h3, h4, h5, h6, h7, h8, h9, h10, h11, h12⟩ := p12' hq.2
        clear hq
        by_cases hlt : k < x_verbs.length
        · obtain ⟨bb, off, rfl, hFb, hel⟩ := H9.out (by omega)
          obtain ⟨cs, hx, -, hcell⟩ := hel wr (hqt.block bb (HF.out bb hFb)) k hlt
          have hpr := HR9.out.2 _ (List.getElem_mem hlt)
          have hpi := HIvl.out k hlt
          obtain ⟨p, hpe⟩ : ∃ p, x_verbs[k] = p := ⟨_, rfl⟩
          rw [hpe] at hx hpr hpi
          obtain ⟨v_name, v_meta, v_lines⟩ := p
          have hx2 := hx
          obtain ⟨-, ve2, rfl, ke2⟩ := hx2
          simp only at ke2
          obtain ⟨de2, fe2, rfl⟩ := ke2.shape
          simp only at hpr hcell hx
          have g0 := hcell 0 _ rfl
          have g1 := hcell 1 _ rfl
          have g2 := hcell 2 _ rfl
          simp only [Nat.add_zero] at g0
          have hbw : bb < wr.heap.size := Nat.lt_of_lt_of_le (HF.out bb hFb) hqt.size
          have hki : (k : Int) < (x_verbs.length : Int) := by omega
          have hki0 : (0 : Int) ≤ (k : Int) := by omega
          have hlk : k < vl.length := by rw [HLvl.out]; exact hlt
          have hkz2 := catB_take_le vl (k + 1)
          have hnx0 : B ++ verbB ⟨v_name, v_meta, v_lines⟩ = (A5 ++ catB (vl.take (k + 1))) := by
           rw [catB_step vl k hlk, show vl[k] = verbB ⟨v_name, v_meta, v_lines⟩ from by rw [List.getElem?_eq_getElem hlk] at hpi; exact Option.some.inj hpi, HBE.out, ByteArray.append_assoc]
          have hxz : B.size + (verbB ⟨v_name, v_meta, v_lines⟩).size ≤ 1000000000000 := by
           rw [← ByteArray.size_append, hnx0]
           have h1 := HZ6.out
           rw [ByteArray.size_append]
           omega
          have HQT := Lib.hid hqt
          have HBW := Lib.hid hB
          have hval := fun (W : World) (hW : Below wr.heap.size wr W) => showVerb_calls F W ⟨v_name, v_meta, v_lines⟩ [.string v_name, .bool v_meta, .slice de2 v_lines.length fe2] (HF.out.below (bt HQT.out hW)) hpr (Holds.below Holds.verb hx HF.out (bt HQT.out hW) (Nat.le_refl _))
          have HNX := Lib.hid hnx0
          obtain ⟨z, hzz⟩ : ∃ z, verbB ⟨v_name, v_meta, v_lines⟩ = z := ⟨_, rfl⟩
          simp only [hzz] at hval HNX hxz
          have hzb : z.size ≤ 1000000000000 := by omega
          have HV := Lib.hid hval
          clear hpr hval hzz ke2
          clear hel hcell hpi hpe hFb hlk hnx0 hkz hkz2 hxz HBE hB hx
          go_wp2_with (go_at_call 53; (with_reducible refine (HV.out _ (Below.refl _ _)).mono ?_); rintro e w4 ⟨rfl, hb4⟩)
          go_roundw
          case rel => exact ⟨k + 1, by omega, by go_num, Lib.hid ⟨_, rfl, HNX.out⟩, Lib.hid (bt HBW.out hb4)⟩
          case measure => simp [intOf]; omega
        have : k = x_verbs.length := by omega
        subst this
        have hki : decide ((x_verbs.length : Int) < (x_verbs.length : Int)) = false := by simp
        obtain rfl : A6 = B := by rw [HBE.out, List.take_of_length_le (by rw [HLvl.out]; exact Nat.le_refl _), HA6.out]
        clear hkz HBE HR9 HIvl H9
        go_wp2_with fail
        go_loopw [3, 8] (fun v i wr => ∃ k : Nat, k ≤ x_rules.length ∧ i = .int .i64 k ∧ Hid (∃ B, v = .string B ∧ B = (A6 ++ catB (rl.take k))) ∧ Hid (Below W1.heap.size W1 wr)) (fun _ i _ => x_rules.length - (intOf i).toNat)
        case atStart => exact ⟨0, Nat.zero_le _, rfl, Lib.hid ⟨_, rfl, by simp [catB, app_emp]⟩, hB⟩
        case round =>
         clear hqt h0 h1 h2 h3 h4 h5 h6 h7 h8 h9 h10 h11 h12 hB
         obtain ⟨k, hk, rfl, hA0, hB0⟩ := hrel
         obtain ⟨B, rfl, hBe⟩ := hA0.out
         have hB := hB0.out
         have HBE := Lib.hid hBe
         have hkz := catB_take_le rl k
         have hBz : B.size ≤ 1000000000000 := by rw [hBe, ByteArray.size_append]; have := HZ7.out; omega
         clear hA0 hB0 hBe
         obtain ⟨hq, hqt⟩ := hE.out wr (hB)
         obtain ⟨h0, h1, h2, h3, h4, h5, h6, h7, h8, h9, h10, h11, h12⟩ := p12' hq.2
         clear hq
         by_cases hlt : k < x_rules.length
         · obtain ⟨bb, off, rfl, hFb, hel⟩ := H10.out (by omega)
           obtain ⟨cs, hx, -, hcell⟩ := hel wr (hqt.block bb (HF.out bb hFb)) k hlt
           have hpr := HR10.out.2 _ (List.getElem_mem hlt)
           have hpi := HIrl.out k hlt
           obtain ⟨p, hpe⟩ : ∃ p, x_rules[k] = p := ⟨_, rfl⟩
           rw [hpe] at hx hpr hpi
           obtain ⟨q_verb, q_phase, q_noun, q_second, q_cond, q_body⟩ := p
           have hx2 := hx
           obtain ⟨-, -, -, -, ve4, ve5, rfl, ke4, ke5⟩ := hx2
           simp only at ke4 ke5
           obtain ⟨de4, fe4, rfl⟩ := ke4.shape
           obtain ⟨de5, fe5, rfl⟩ := ke5.shape
           simp only at hpr hcell hx
           have g0 := hcell 0 _ rfl
           have g1 := hcell 1 _ rfl
           have g2 := hcell 2 _ rfl
           have g3 := hcell 3 _ rfl
           have g4 := hcell 4 _ rfl
           have g5 := hcell 5 _ rfl
           simp only [Nat.add_zero] at g0
           have hbw : bb < wr.heap.size := Nat.lt_of_lt_of_le (HF.out bb hFb) hqt.size
           have hki : (k : Int) < (x_rules.length : Int) := by omega
           have hki0 : (0 : Int) ≤ (k : Int) := by omega
           have hlk : k < rl.length := by rw [HLrl.out]; exact hlt
           have hkz2 := catB_take_le rl (k + 1)
           have hnx0 : B ++ ruleT ⟨q_verb, q_phase, q_noun, q_second, q_cond, q_body⟩ = (A6 ++ catB (rl.take (k + 1))) := by
            rw [catB_step rl k hlk, show rl[k] = ruleT ⟨q_verb, q_phase, q_noun, q_second, q_cond, q_body⟩ from by rw [List.getElem?_eq_getElem hlk] at hpi; exact Option.some.inj hpi, HBE.out, ByteArray.append_assoc]
           have hxz : B.size + (ruleT ⟨q_verb, q_phase, q_noun, q_second, q_cond, q_body⟩).size ≤ 1000000000000 := by
            rw [← ByteArray.size_append, hnx0]
            have h1 := HZ7.out
            rw [ByteArray.size_append]
            omega
           have HQT := Lib.hid hqt
           have HBW := Lib.hid hB
           have hval := fun (W : World) (hW : Below wr.heap.size wr W) => showRule_calls F W ⟨q_verb, q_phase, q_noun, q_second, q_cond, q_body⟩ [.string q_verb, .int .i64 q_phase, .string q_noun, .string q_second, .slice de4 q_cond.length fe4, .slice de5 q_body.length fe5] (HF.out.below (bt HQT.out hW)) hpr (by omega) (Holds.below Holds.rule hx HF.out (bt HQT.out hW) (Nat.le_refl _))
           have HNX := Lib.hid hnx0
           obtain ⟨z, hzz⟩ : ∃ z, ruleT ⟨q_verb, q_phase, q_noun, q_second, q_cond, q_body⟩ = z := ⟨_, rfl⟩
           simp only [hzz] at hval HNX hxz
           have hzb : z.size ≤ 1000000000000 := by omega
           have HV := Lib.hid hval
           clear hpr hval hzz ke4 ke5
           clear hel hcell hpi hpe hFb hlk hnx0 hkz hkz2 hxz HBE hB hx
           go_wp2_with (go_at_call 54; (with_reducible refine (HV.out _ (Below.refl _ _)).mono ?_); rintro e w4 ⟨rfl, hb4⟩)
           go_roundw
           case rel => exact ⟨k + 1, by omega, by go_num, Lib.hid ⟨_, rfl, HNX.out⟩, Lib.hid (bt HBW.out hb4)⟩
           case measure => simp [intOf]; omega
         have : k = x_rules.length := by omega
         subst this
         have hki : decide ((x_rules.length : Int) < (x_rules.length : Int)) = false := by simp
         obtain rfl : A7 = B := by rw [HBE.out, List.take_of_length_le (by rw [HLrl.out]; exact Nat.le_refl _), HA7.out]
         clear hkz HBE HR10 HIrl H10
         go_wp2_with fail
         go_loopw [3, 9] (fun v i wr => ∃ k : Nat, k ≤ x_funcs.length ∧ i = .int .i64 k ∧ Hid (∃ B, v = .string B ∧ B = (A7 ++ catB (fl.take k))) ∧ Hid (Below W1.heap.size W1 wr)) (fun _ i _ => x_funcs.length - (intOf i).toNat)
         case atStart => exact ⟨0, Nat.zero_le _, rfl, Lib.hid ⟨_, rfl, by simp [catB, app_emp]⟩, hB⟩
         case round =>
          clear hqt h0 h1 h2 h3 h4 h5 h6 h7 h8 h9 h10 h11 h12 hB
          obtain ⟨k, hk, rfl, hA0, hB0⟩ := hrel
          obtain ⟨B, rfl, hBe⟩ := hA0.out
          have hB := hB0.out
          have HBE := Lib.hid hBe
          have hkz := catB_take_le fl k
          have hBz : B.size ≤ 1000000000000 := by rw [hBe, ByteArray.size_append]; have := HZ8.out; omega
          clear hA0 hB0 hBe
          obtain ⟨hq, hqt⟩ := hE.out wr (hB)
          obtain ⟨h0, h1, h2, h3, h4, h5, h6, h7, h8, h9, h10, h11, h12⟩ := p12' hq.2
          clear hq
          by_cases hlt : k < x_funcs.length
          · obtain ⟨bb, off, rfl, hFb, hel⟩ := H11.out (by omega)
            obtain ⟨cs, hx, -, hcell⟩ := hel wr (hqt.block bb (HF.out bb hFb)) k hlt
            have hpr := HR11.out.2 _ (List.getElem_mem hlt)
            have hpi := HIfl.out k hlt
            obtain ⟨p, hpe⟩ : ∃ p, x_funcs[k] = p := ⟨_, rfl⟩
            rw [hpe] at hx hpr hpi
            obtain ⟨f_name, f_params, f_body⟩ := p
            have hx2 := hx
            obtain ⟨-, ve1, ve2, rfl, ke1, ke2⟩ := hx2
            simp only at ke1 ke2
            obtain ⟨de1, fe1, rfl⟩ := ke1.shape
            obtain ⟨de2, fe2, rfl⟩ := ke2.shape
            simp only at hpr hcell hx
            have g0 := hcell 0 _ rfl
            have g1 := hcell 1 _ rfl
            have g2 := hcell 2 _ rfl
            simp only [Nat.add_zero] at g0
            have hbw : bb < wr.heap.size := Nat.lt_of_lt_of_le (HF.out bb hFb) hqt.size
            have hki : (k : Int) < (x_funcs.length : Int) := by omega
            have hki0 : (0 : Int) ≤ (k : Int) := by omega
            have hlk : k < fl.length := by rw [HLfl.out]; exact hlt
            have hkz2 := catB_take_le fl (k + 1)
            have hnx0 : B ++ funB ⟨f_name, f_params, f_body⟩ = (A7 ++ catB (fl.take (k + 1))) := by
             rw [catB_step fl k hlk, show fl[k] = funB ⟨f_name, f_params, f_body⟩ from by rw [List.getElem?_eq_getElem hlk] at hpi; exact Option.some.inj hpi, HBE.out, ByteArray.append_assoc]
            have hxz : B.size + (funB ⟨f_name, f_params, f_body⟩).size ≤ 1000000000000 := by
             rw [← ByteArray.size_append, hnx0]
             have h1 := HZ8.out
             rw [ByteArray.size_append]
             omega
            have HQT := Lib.hid hqt
            have HBW := Lib.hid hB
            obtain ⟨hrn, hrp, hrb⟩ := hpr
            dsimp only at hrn hrp hrb
            have hnx1 : B ++ (⟨#[102, 117, 110, 99, 32]⟩ ++ f_name ++ ⟨#[40]⟩ ++ sepB comma f_params ++ ⟨#[41, 32]⟩ ++ St.blk f_body 0 ++ ⟨#[10]⟩) = (A7 ++ catB (fl.take (k + 1))) := hnx0
            simp only [funB, ByteArray.size_append] at hxz
            have hbzz : (St.blk f_body 0).size ≤ 1000000000000 := by omega
            have hbz2 : B.size + (St.blk f_body 0).size ≤ 1000000000000 := by omega
            have hzp := names_sz comma (by decide) (m := 8) (by have := hrp.1; omega) hrp.2
            have hRP := fun (W : World) (hW : Below wr.heap.size wr W) => join_calls f_params F W _ comma (HF.out.below (bt HQT.out hW)) (ke1.below HF.out (bt HQT.out hW) (Nat.le_refl _)) (by have := hrp.1; omega) (by omega)
            have hBK := fun (W : World) (hW : Below wr.heap.size wr W) => blkAllR_calls f_body F W _ (0 : Int) (HF.out.below (bt HQT.out hW)) (rightB_ok hrb) (by show (St.blk f_body 0).size ≤ _; exact hbzz) (ke2.below HF.out (bt HQT.out hW) (Nat.le_refl _))
            have hc0 : clip (0 : Int) = 0 := rfl
            simp only [hc0] at hBK
            have hzv := isName_size hrn
            obtain ⟨pz, hpz⟩ : ∃ z, sepB comma f_params = z := ⟨_, rfl⟩
            simp only [hpz] at hRP hzp hnx1
            obtain ⟨bz, hbz⟩ : ∃ z, St.blk f_body 0 = z := ⟨_, rfl⟩
            simp only [hbz] at hBK hbzz hbz2 hnx1
            have HNX := Lib.hid hnx1; have HBK := Lib.hid hBK; have HRP := Lib.hid hRP
            clear ke1 ke2 hnx1 hBK hbz hrn hrp hrb hc0 hRP hpz
            clear hel hcell hpi hpe hFb hlk hnx0 hkz hkz2 hxz HBE hB hx
            go_upto_region 27 with fail
            have K := @rg' Tryz.prog wr
            have HK1 := Lib.hid (K HRP.out)
            have HK4 := Lib.hid (K HBK.out)
            clear K
            have zh11 := fun d os => cell_regrown h11 d os
            have zg0 := fun d os => cell_regrown g0 d os
            have zg1 := fun d os => cell_regrown g1 d os
            have zg2 := fun d os => cell_regrown g2 d os
            refine wp_region_quiet_below (by kernel_rfl) (by kernel_rfl) ?_
            repeat (go_big_quiet_step (first | with_reducible exact HK1.out _ | with_reducible exact HK4.out _))
            refine wpQuiet_nil ?_
            intro wq hwq
            have hbq := below_of_regrown hwq
            clear hwq
            go_wp2_with fail
            go_roundw
            case rel => exact ⟨k + 1, by omega, by go_num, Lib.hid ⟨_, rfl, by rw [← HNX.out]; simp only [ByteArray.append_assoc]⟩, Lib.hid (bt HBW.out hbq)⟩
            case measure => simp [intOf]; omega
          have : k = x_funcs.length := by omega
          subst this
          have hki : decide ((x_funcs.length : Int) < (x_funcs.length : Int)) = false := by simp
          obtain rfl : A8 = B := by rw [HBE.out, List.take_of_length_le (by rw [HLfl.out]; exact Nat.le_refl _), HA8.out]
          clear hkz HBE HR11 HIfl H11
          go_wp2_with fail
          go_loopw [3, 10] (fun v i wr => ∃ k : Nat, k ≤ x_daemons.length ∧ i = .int .i64 k ∧ Hid (∃ B, v = .string B ∧ B = (A8 ++ catB (dl.take k))) ∧ Hid (Below W1.heap.size W1 wr)) (fun _ i _ => x_daemons.length - (intOf i).toNat)
          case atStart => exact ⟨0, Nat.zero_le _, rfl, Lib.hid ⟨_, rfl, by simp [catB, app_emp]⟩, hB⟩
          case round =>
           clear hqt h0 h1 h2 h3 h4 h5 h6 h7 h8 h9 h10 h11 h12 hB
           obtain ⟨k, hk, rfl, hA0, hB0⟩ := hrel
           obtain ⟨B, rfl, hBe⟩ := hA0.out
           have hB := hB0.out
           have HBE := Lib.hid hBe
           have hkz := catB_take_le dl k
           have hBz : B.size ≤ 1000000000000 := by rw [hBe, ByteArray.size_append]; have := HZ9.out; omega
           clear hA0 hB0 hBe
           obtain ⟨hq, hqt⟩ := hE.out wr (hB)
           obtain ⟨h0, h1, h2, h3, h4, h5, h6, h7, h8, h9, h10, h11, h12⟩ := p12' hq.2
           clear hq
           by_cases hlt : k < x_daemons.length
           · obtain ⟨bb, off, rfl, hFb, hel⟩ := H12.out (by omega)
             obtain ⟨cs, hx, -, hcell⟩ := hel wr (hqt.block bb (HF.out bb hFb)) k hlt
             have hpr := HR12.out.2 _ (List.getElem_mem hlt)
             have hpi := HIdl.out k hlt
             obtain ⟨p, hpe⟩ : ∃ p, x_daemons[k] = p := ⟨_, rfl⟩
             rw [hpe] at hx hpr hpi
             obtain ⟨f_name, f_params, f_body⟩ := p
             have hx2 := hx
             obtain ⟨-, ve1, ve2, rfl, ke1, ke2⟩ := hx2
             simp only at ke1 ke2
             obtain ⟨de1, fe1, rfl⟩ := ke1.shape
             obtain ⟨de2, fe2, rfl⟩ := ke2.shape
             simp only at hpr hcell hx
             have g0 := hcell 0 _ rfl
             have g1 := hcell 1 _ rfl
             have g2 := hcell 2 _ rfl
             simp only [Nat.add_zero] at g0
             have hbw : bb < wr.heap.size := Nat.lt_of_lt_of_le (HF.out bb hFb) hqt.size
             have hki : (k : Int) < (x_daemons.length : Int) := by omega
             have hki0 : (0 : Int) ≤ (k : Int) := by omega
             have hlk : k < dl.length := by rw [HLdl.out]; exact hlt
             have hkz2 := catB_take_le dl (k + 1)
             have hnx0 : B ++ daeB ⟨f_name, f_params, f_body⟩ = (A8 ++ catB (dl.take (k + 1))) := by
              rw [catB_step dl k hlk, show dl[k] = daeB ⟨f_name, f_params, f_body⟩ from by rw [List.getElem?_eq_getElem hlk] at hpi; exact Option.some.inj hpi, HBE.out, ByteArray.append_assoc]
             have hxz : B.size + (daeB ⟨f_name, f_params, f_body⟩).size ≤ 1000000000000 := by
              rw [← ByteArray.size_append, hnx0]
              have h1 := HZ9.out
              rw [ByteArray.size_append]
              omega
             have HQT := Lib.hid hqt
             have HBW := Lib.hid hB
             rw [dae_iff] at hpr
             obtain ⟨hrn, hrp, hrb⟩ := hpr
             dsimp only at hrn hrp hrb
             have hnx1 : B ++ (⟨#[100, 97, 101, 109, 111, 110, 32]⟩ ++ f_name ++ ⟨#[32]⟩ ++ St.blk f_body 0 ++ ⟨#[10]⟩) = (A8 ++ catB (dl.take (k + 1))) := hnx0
             simp only [daeB, ByteArray.size_append] at hxz
             have hbzz : (St.blk f_body 0).size ≤ 1000000000000 := by omega
             have hbz2 : B.size + (St.blk f_body 0).size ≤ 1000000000000 := by omega
             have hBK := fun (W : World) (hW : Below wr.heap.size wr W) => blkAllR_calls f_body F W _ (0 : Int) (HF.out.below (bt HQT.out hW)) (rightB_ok hrb) (by show (St.blk f_body 0).size ≤ _; exact hbzz) (ke2.below HF.out (bt HQT.out hW) (Nat.le_refl _))
             have hc0 : clip (0 : Int) = 0 := rfl
             simp only [hc0] at hBK
             have hzv := isName_size hrn
             obtain ⟨bz, hbz⟩ : ∃ z, St.blk f_body 0 = z := ⟨_, rfl⟩
             simp only [hbz] at hBK hbzz hbz2 hnx1
             have HNX := Lib.hid hnx1; have HBK := Lib.hid hBK
             clear ke1 ke2 hnx1 hBK hbz hrn hrp hrb hc0
             clear hel hcell hpi hpe hFb hlk hnx0 hkz hkz2 hxz HBE hB hx
             go_upto_region 31 with fail
             have K := @rg' Tryz.prog wr
             have HK4 := Lib.hid (K HBK.out)
             clear K
             have zh12 := fun d os => cell_regrown h12 d os
             have zg0 := fun d os => cell_regrown g0 d os
             have zg1 := fun d os => cell_regrown g1 d os
             have zg2 := fun d os => cell_regrown g2 d os
             refine wp_region_quiet_below (by kernel_rfl) (by kernel_rfl) ?_
             repeat (go_big_quiet_step (first | with_reducible exact HK4.out _))
             refine wpQuiet_nil ?_
             intro wq hwq
             have hbq := below_of_regrown hwq
             clear hwq
             go_wp2_with fail
             go_roundw
             case rel => exact ⟨k + 1, by omega, by go_num, Lib.hid ⟨_, rfl, by rw [← HNX.out]; simp only [ByteArray.append_assoc]⟩, Lib.hid (bt HBW.out hbq)⟩
             case measure => simp [intOf]; omega
           have : k = x_daemons.length := by omega
           subst this
           have hki : decide ((x_daemons.length : Int) < (x_daemons.length : Int)) = false := by simp
           obtain rfl : A9 = B := by rw [HBE.out, List.take_of_length_le (by rw [HLdl.out]; exact Nat.le_refl _), HA9.out]
           clear hkz HBE HR12 HIdl H12
           go_wp2_with fail
           go_ret
           exact ⟨rfl, hqt⟩
end Go.Proofs.YtdeecfkipknkbaaGreatDoor
