/- show.Source at any source that is right. Printed by gen-sh8.py. -/
import Derived.Test.YtdeecfkipknkbaaGreatDoorShO
import Derived.Test.YtdeecfkipknkbaaGreatDoorPart88a0c298
import Derived.Test.YtdeecfkipknkbaaGreatDoorTtO
namespace Go.Proofs.YtdeecfkipknkbaaGreatDoor
set_option maxRecDepth 100000
set_option maxHeartbeats 40000000
open Go.RowKit Go.Sort
theorem toArr_eq (x : ByteArray) : (⟨x.data.toList.toArray⟩ : ByteArray) = x := by simp
theorem StA.str {w W : World} {b : Nat} {bx : List (Nat × List Value × TypeId)} {A : ByteArray} (h : StA w b bx A W) : Calls Tryz.prog 48 #[.pointer (some ⟨b, 0, none⟩)] W fun e w' => e = .returned (.string A) ∧ Below b W w' := by
 have h2 := h.1.str
 rw [toArr_eq] at h2
 exact h2
theorem StA.bd {w W : World} {b : Nat} {bx : List (Nat × List Value × TypeId)} {A : ByteArray} (h : StA w b bx A W) : BdH b A.data.toList W := h.1
theorem srcShow_calls (F : Nat → Prop) (w : World) (x : SrcD) (cs : List Value) (hF : Inn F w) (ht : TB w) (ha : TA w) (hr : SrcR x) (hsz : (srcB x).size ≤ 1000000000000) (hx : Holds.src.R F w x cs) :
 Calls Tryz.prog 10 #[.agg cs.toArray] w (Gives w (.string (srcB x))) := by
 obtain ⟨x_title, x_author, x_start, x_release, x_most, x_flags, x_props, x_globals, x_objects, x_verbs, x_rules, x_funcs, x_daemons⟩ := x
 obtain ⟨-, -, -, -, -, va5, va6, va7, va8, va9, va10, va11, va12, rfl, ka5, ka6, ka7, ka8, ka9, ka10, ka11, ka12⟩ := hx
 simp only at ka5 ka6 ka7 ka8 ka9 ka10 ka11 ka12
 have hhz := headS_sz hr
 have hfz := flagsS_sz hr.2.2.2.2.2.1
 obtain ⟨hrt, hra, hrs, hrrl, hrrm, hr5, hr6, hr7, hr8, hr9, hr10, hr11, hr12⟩ := hr
 simp only at hrt hra hrs hrrl hrrm hr5 hr6 hr7 hr8 hr9 hr10 hr11 hr12
 obtain ⟨da5, fa5, rfl⟩ := ka5.shape
 obtain ⟨da6, fa6, rfl⟩ := ka6.shape
 obtain ⟨da7, fa7, rfl⟩ := ka7.shape
 obtain ⟨da8, fa8, rfl⟩ := ka8.shape
 obtain ⟨da9, fa9, rfl⟩ := ka9.shape
 obtain ⟨da10, fa10, rfl⟩ := ka10.shape
 obtain ⟨da11, fa11, rfl⟩ := ka11.shape
 obtain ⟨da12, fa12, rfl⟩ := ka12.shape
 have hQ1 := fun (W : World) => quoteT_calls x_title W (by have := hrt.1; omega)
 have hQ2 := fun (W : World) => quoteT_calls x_author W (by have := hra.1; omega)
 have hN1 := fun (W : World) (hW : Below w.heap.size w W) => numT_calls x_release (num_i64 hrrl) W (ht.below hW (Nat.le_refl _))
 have hN2 := fun (W : World) (hW : Below w.heap.size w W) => numT_calls x_most (num_i64 hrrm) W (ht.below hW (Nat.le_refl _))
 have hRW := fun (W : World) (hW : Below w.heap.size w W) => rowNames F W x_flags comma _ (hF.below hW) (ka5.below hF hW (Nat.le_refl _)) (by have := hr5.1; omega) hr5.2 (by decide)
 have hz1 := quote_sz hrt
 have hz2 := quote_sz hra
 have hz3 := isName_size hrs
 have hz4 := numB_sz x_release (num_i64 hrrl)
 have hz5 := numB_sz x_most (num_i64 hrrm)
 have hzf := names_sz comma (by decide) (m := 16) (by have := hr5.1; omega) hr5.2
 have e0 : srcB ⟨x_title, x_author, x_start, x_release, x_most, x_flags, x_props, x_globals, x_objects, x_verbs, x_rules, x_funcs, x_daemons⟩ = (⟨#[115, 116, 111, 114, 121, 32]⟩ ++ quoteB x_title ++ ⟨#[32, 98, 121, 32]⟩ ++ quoteB x_author ++ ⟨#[32, 114, 101, 108, 101, 97, 115, 101, 32]⟩ ++ numB x_release ++ ⟨#[32, 109, 97, 120, 32]⟩ ++ numB x_most ++ ⟨#[32, 115, 116, 97, 114, 116, 32]⟩ ++ x_start ++ ⟨#[59, 10]⟩) ++ flagsS ⟨x_title, x_author, x_start, x_release, x_most, x_flags, x_props, x_globals, x_objects, x_verbs, x_rules, x_funcs, x_daemons⟩ ++ catB (x_props.map propS) ++ catB (x_globals.map globS) ++ catB (x_objects.map objB) ++ catB (x_verbs.map verbB) ++ catB (x_rules.map ruleT) ++ catB (x_funcs.map funB) ++ catB (x_daemons.map daeB) := rfl
 rw [e0] at hsz ⊢
 obtain ⟨q1, hq1⟩ : ∃ q, quoteB x_title = q := ⟨_, rfl⟩
 obtain ⟨q2, hq2⟩ : ∃ q, quoteB x_author = q := ⟨_, rfl⟩
 obtain ⟨n1, hn1⟩ : ∃ q, numB x_release = q := ⟨_, rfl⟩
 obtain ⟨n2, hn2⟩ : ∃ q, numB x_most = q := ⟨_, rfl⟩
 obtain ⟨qf, hqf⟩ : ∃ q, sepB comma x_flags = q := ⟨_, rfl⟩
 obtain ⟨E, hE⟩ : ∃ q, flagsS ⟨x_title, x_author, x_start, x_release, x_most, x_flags, x_props, x_globals, x_objects, x_verbs, x_rules, x_funcs, x_daemons⟩ = q := ⟨_, rfl⟩
 obtain ⟨pl, hpl⟩ : ∃ q, x_props.map propS = q := ⟨_, rfl⟩
 obtain ⟨gl, hgl⟩ : ∃ q, x_globals.map globS = q := ⟨_, rfl⟩
 obtain ⟨ol, hol⟩ : ∃ q, x_objects.map objB = q := ⟨_, rfl⟩
 obtain ⟨vl, hvl⟩ : ∃ q, x_verbs.map verbB = q := ⟨_, rfl⟩
 obtain ⟨rl, hrl⟩ : ∃ q, x_rules.map ruleT = q := ⟨_, rfl⟩
 obtain ⟨fl, hfl⟩ : ∃ q, x_funcs.map funB = q := ⟨_, rfl⟩
 obtain ⟨dl, hdl⟩ : ∃ q, x_daemons.map daeB = q := ⟨_, rfl⟩
 have hEt : Hid (x_flags ≠ [] → E = (⟨#[102, 108, 97, 103, 32]⟩ ++ qf ++ ⟨#[59, 10]⟩)) := fun h => by rw [← hE, ← hqf]; unfold flagsS; rw [if_neg h]
 have hEf : Hid (x_flags = [] → E = ⟨#[]⟩) := fun h => by rw [← hE]; unfold flagsS; rw [if_pos h]
 rw [hq1, hq2, hn1, hn2, hE, hpl, hgl, hol, hvl, hrl, hfl, hdl] at hsz ⊢
 rw [hE] at hfz
 rw [hq1] at hz1; rw [hq2] at hz2; rw [hn1] at hz4; rw [hn2] at hz5; rw [hqf] at hzf
 simp only [hq1] at hQ1; simp only [hq2] at hQ2; simp only [hn1] at hN1; simp only [hn2] at hN2; simp only [hqf] at hRW
 obtain ⟨A1, hA1⟩ : ∃ B, (⟨#[115, 116, 111, 114, 121, 32]⟩ ++ q1 ++ ⟨#[32, 98, 121, 32]⟩ ++ q2 ++ ⟨#[32, 114, 101, 108, 101, 97, 115, 101, 32]⟩ ++ n1 ++ ⟨#[32, 109, 97, 120, 32]⟩ ++ n2 ++ ⟨#[32, 115, 116, 97, 114, 116, 32]⟩ ++ x_start ++ ⟨#[59, 10]⟩) = B := ⟨_, rfl⟩
 obtain ⟨A2, hA2⟩ : ∃ B, A1 ++ E = B := ⟨_, rfl⟩
 obtain ⟨A3, hA3⟩ : ∃ B, A2 ++ catB pl = B := ⟨_, rfl⟩
 obtain ⟨A4, hA4⟩ : ∃ B, A3 ++ catB gl = B := ⟨_, rfl⟩
 obtain ⟨A5, hA5⟩ : ∃ B, A4 ++ catB ol = B := ⟨_, rfl⟩
 obtain ⟨A6, hA6⟩ : ∃ B, A5 ++ catB vl = B := ⟨_, rfl⟩
 obtain ⟨A7, hA7⟩ : ∃ B, A6 ++ catB rl = B := ⟨_, rfl⟩
 obtain ⟨A8, hA8⟩ : ∃ B, A7 ++ catB fl = B := ⟨_, rfl⟩
 obtain ⟨A9, hA9⟩ : ∃ B, A8 ++ catB dl = B := ⟨_, rfl⟩
 rw [hA1, hA2, hA3, hA4, hA5, hA6, hA7, hA8, hA9] at hsz ⊢
 have s2 : A2.size = A1.size + E.size := by rw [← hA2, ByteArray.size_append]
 have s3 : A3.size = A2.size + (catB pl).size := by rw [← hA3, ByteArray.size_append]
 have s4 : A4.size = A3.size + (catB gl).size := by rw [← hA4, ByteArray.size_append]
 have s5 : A5.size = A4.size + (catB ol).size := by rw [← hA5, ByteArray.size_append]
 have s6 : A6.size = A5.size + (catB vl).size := by rw [← hA6, ByteArray.size_append]
 have s7 : A7.size = A6.size + (catB rl).size := by rw [← hA7, ByteArray.size_append]
 have s8 : A8.size = A7.size + (catB fl).size := by rw [← hA8, ByteArray.size_append]
 have s9 : A9.size = A8.size + (catB dl).size := by rw [← hA9, ByteArray.size_append]
 have z1a : A1.size ≤ 1000000000000 := by omega
 have z2a : A2.size ≤ 1000000000000 := by omega
 have z3a : A3.size ≤ 1000000000000 := by omega
 have z4a : A4.size ≤ 1000000000000 := by omega
 have z5a : A5.size ≤ 1000000000000 := by omega
 have z6a : A6.size ≤ 1000000000000 := by omega
 have z7a : A7.size ≤ 1000000000000 := by omega
 have z8a : A8.size ≤ 1000000000000 := by omega
 have z9a : A9.size ≤ 1000000000000 := by omega
 have hmf : ∀ (fn : Fn) (first cap : Array Value) (w : World), (Instr.makeFunc fn first cap).run Tryz.prog w = .ok (.func fn first cap) w := fun _ _ _ _ => rfl
 obtain ⟨W1, hW1⟩ : ∃ W, w.alloc (.cells #[.string x_title, .string x_author, .string x_start, .int .i64 x_release, .int .i64 x_most, .slice da5 x_flags.length fa5, .slice da6 x_props.length fa6, .slice da7 x_globals.length fa7, .slice da8 x_objects.length fa8, .slice da9 x_verbs.length fa9, .slice da10 x_rules.length fa10, .slice da11 x_funcs.length fa11, .slice da12 x_daemons.length fa12] 29) = W := ⟨_, rfl⟩
 obtain ⟨W2, hW2⟩ : ∃ W, W1.alloc (.cells #[.pointer none, .slice none 0 0] 76) = W := ⟨_, rfl⟩
 have hs1 := bs' hW1
 have hbw1 := ba' hW1
 have hbw2 := ba' hW2
 have HBW : Hid (Below w.heap.size w W2) := bt hbw1 hbw2
 have HS0 : Hid (StA W2 (w.heap.size + 1) [(w.heap.size, [.string x_title, .string x_author, .string x_start, .int .i64 x_release, .int .i64 x_most, .slice da5 x_flags.length fa5, .slice da6 x_props.length fa6, .slice da7 x_globals.length fa7, .slice da8 x_objects.length fa8, .slice da9 x_verbs.length fa9, .slice da10 x_rules.length fa10, .slice da11 x_funcs.length fa11, .slice da12 x_daemons.length fa12], 29)] ⟨#[]⟩ W2) := by
  have h1 := BdH.new W1
  rw [hW2, hs1] at h1
  refine ⟨h1, fun t ht => ?_, Kept.refl _ _ _⟩
  rw [List.mem_singleton.1 ht]
  have h2 := BoxT.new w [.string x_title, .string x_author, .string x_start, .int .i64 x_release, .int .i64 x_most, .slice da5 x_flags.length fa5, .slice da6 x_props.length fa6, .slice da7 x_globals.length fa7, .slice da8 x_objects.length fa8, .slice da9 x_verbs.length fa9, .slice da10 x_rules.length fa10, .slice da11 x_funcs.length fa11, .slice da12 x_daemons.length fa12] 29
  rw [hW1] at h2
  exact ⟨h2.below hbw2, by simp, (show (29 : Nat) ≠ 5 by decide)⟩
 have HKW : Hid (∀ A bx W, StA W2 (w.heap.size + 1) bx A W → Below w.heap.size w W) := fun A bx W h => HBW.out.trans (h.kept.mono (by omega))
 have HW1 := Lib.hid hW1
 have HW2 := Lib.hid hW2
 have c6 : (⟨#[59, 10]⟩ : ByteArray).size = 2 := rfl
 have HT1 : Hid (∀ W, StA W2 (w.heap.size + 1) [(w.heap.size, [.string x_title, .string x_author, .string x_start, .int .i64 x_release, .int .i64 x_most, .slice da5 x_flags.length fa5, .slice da6 x_props.length fa6, .slice da7 x_globals.length fa7, .slice da8 x_objects.length fa8, .slice da9 x_verbs.length fa9, .slice da10 x_rules.length fa10, .slice da11 x_funcs.length fa11, .slice da12 x_daemons.length fa12], 29)] ⟨#[]⟩ W → Calls Tryz.prog 37 #[.pointer (some ⟨w.heap.size + 1, 0, none⟩), .string (⟨#[115, 116, 111, 114, 121, 32]⟩ ++ q1 ++ ⟨#[32, 98, 121, 32]⟩ ++ q2 ++ ⟨#[32, 114, 101, 108, 101, 97, 115, 101, 32]⟩ ++ n1 ++ ⟨#[32, 109, 97, 120, 32]⟩ ++ n2 ++ ⟨#[32, 115, 116, 97, 114, 116, 32]⟩ ++ x_start ++ ⟨#[59, 10]⟩)] W fun e w' => e = .returned (.tuple #[.int .i64 ((⟨#[115, 116, 111, 114, 121, 32]⟩ ++ q1 ++ ⟨#[32, 98, 121, 32]⟩ ++ q2 ++ ⟨#[32, 114, 101, 108, 101, 97, 115, 101, 32]⟩ ++ n1 ++ ⟨#[32, 109, 97, 120, 32]⟩ ++ n2 ++ ⟨#[32, 115, 116, 97, 114, 116, 32]⟩ ++ x_start ++ ⟨#[59, 10]⟩) : ByteArray).size, .nilIface]) ∧ StA W2 (w.heap.size + 1) [(w.heap.size, [.string x_title, .string x_author, .string x_start, .int .i64 x_release, .int .i64 x_most, .slice da5 x_flags.length fa5, .slice da6 x_props.length fa6, .slice da7 x_globals.length fa7, .slice da8 x_objects.length fa8, .slice da9 x_verbs.length fa9, .slice da10 x_rules.length fa10, .slice da11 x_funcs.length fa11, .slice da12 x_daemons.length fa12], 29)] A1 w') := fun W h => by
  have h2 := h.text (⟨#[115, 116, 111, 114, 121, 32]⟩ ++ q1 ++ ⟨#[32, 98, 121, 32]⟩ ++ q2 ++ ⟨#[32, 114, 101, 108, 101, 97, 115, 101, 32]⟩ ++ n1 ++ ⟨#[32, 109, 97, 120, 32]⟩ ++ n2 ++ ⟨#[32, 115, 116, 97, 114, 116, 32]⟩ ++ x_start ++ ⟨#[59, 10]⟩) (by
   rw [hA1]
   show 0 + _ ≤ _
   omega)
  rw [emp_app] at h2
  rw [← hA1]
  exact h2
 have HTF : Hid (∀ W, StA W2 (w.heap.size + 1) [(w.heap.size, [.string x_title, .string x_author, .string x_start, .int .i64 x_release, .int .i64 x_most, .slice da5 x_flags.length fa5, .slice da6 x_props.length fa6, .slice da7 x_globals.length fa7, .slice da8 x_objects.length fa8, .slice da9 x_verbs.length fa9, .slice da10 x_rules.length fa10, .slice da11 x_funcs.length fa11, .slice da12 x_daemons.length fa12], 29)] A1 W → Calls Tryz.prog 37 #[.pointer (some ⟨w.heap.size + 1, 0, none⟩), .string (⟨#[102, 108, 97, 103, 32]⟩ ++ qf ++ ⟨#[59, 10]⟩)] W fun e w' => e = .returned (.tuple #[.int .i64 ((⟨#[102, 108, 97, 103, 32]⟩ ++ qf ++ ⟨#[59, 10]⟩) : ByteArray).size, .nilIface]) ∧ StA W2 (w.heap.size + 1) [(w.heap.size, [.string x_title, .string x_author, .string x_start, .int .i64 x_release, .int .i64 x_most, .slice da5 x_flags.length fa5, .slice da6 x_props.length fa6, .slice da7 x_globals.length fa7, .slice da8 x_objects.length fa8, .slice da9 x_verbs.length fa9, .slice da10 x_rules.length fa10, .slice da11 x_funcs.length fa11, .slice da12 x_daemons.length fa12], 29)] (A1 ++ (⟨#[102, 108, 97, 103, 32]⟩ ++ qf ++ ⟨#[59, 10]⟩)) w') := fun W h => h.text _ (by
  have c1 : (⟨#[102, 108, 97, 103, 32]⟩ : ByteArray).size = 5 := rfl
  simp only [ByteArray.size_append, c1, c6]
  omega)
 have hlpl : pl.length = x_props.length := by rw [← hpl]; simp
 have HIpl : Hid (∀ i (hi : i < x_props.length), pl[i]? = some (propS x_props[i])) := fun i hi => by rw [← hpl, List.getElem?_map, List.getElem?_eq_getElem hi]; rfl
 obtain ⟨_, _, he, hl6, hc6, h6o⟩ := ka6.opn
 cases he
 unfold maxLen at hc6
 have hmpl : x_props.length ≤ 16 := by have := hr6.1; omega
 have hlgl : gl.length = x_globals.length := by rw [← hgl]; simp
 have HIgl : Hid (∀ i (hi : i < x_globals.length), gl[i]? = some (globS x_globals[i])) := fun i hi => by rw [← hgl, List.getElem?_map, List.getElem?_eq_getElem hi]; rfl
 obtain ⟨_, _, he, hl7, hc7, h7o⟩ := ka7.opn
 cases he
 unfold maxLen at hc7
 have hmgl : x_globals.length ≤ 64 := by have := hr7.1; omega
 have hlol : ol.length = x_objects.length := by rw [← hol]; simp
 have HIol : Hid (∀ i (hi : i < x_objects.length), ol[i]? = some (objB x_objects[i])) := fun i hi => by rw [← hol, List.getElem?_map, List.getElem?_eq_getElem hi]; rfl
 obtain ⟨_, _, he, hl8, hc8, h8o⟩ := ka8.opn
 cases he
 unfold maxLen at hc8
 have hmol : x_objects.length ≤ 126 := by have := hr8.1; omega
 have hlvl : vl.length = x_verbs.length := by rw [← hvl]; simp
 have HIvl : Hid (∀ i (hi : i < x_verbs.length), vl[i]? = some (verbB x_verbs[i])) := fun i hi => by rw [← hvl, List.getElem?_map, List.getElem?_eq_getElem hi]; rfl
 obtain ⟨_, _, he, hl9, hc9, h9o⟩ := ka9.opn
 cases he
 unfold maxLen at hc9
 have hmvl : x_verbs.length ≤ 64 := by have := hr9.1; omega
 have hlrl : rl.length = x_rules.length := by rw [← hrl]; simp
 have HIrl : Hid (∀ i (hi : i < x_rules.length), rl[i]? = some (ruleT x_rules[i])) := fun i hi => by rw [← hrl, List.getElem?_map, List.getElem?_eq_getElem hi]; rfl
 obtain ⟨_, _, he, hl10, hc10, h10o⟩ := ka10.opn
 cases he
 unfold maxLen at hc10
 have hmrl : x_rules.length ≤ 512 := by have := hr10.1; omega
 have hlfl : fl.length = x_funcs.length := by rw [← hfl]; simp
 have HIfl : Hid (∀ i (hi : i < x_funcs.length), fl[i]? = some (funB x_funcs[i])) := fun i hi => by rw [← hfl, List.getElem?_map, List.getElem?_eq_getElem hi]; rfl
 obtain ⟨_, _, he, hl11, hc11, h11o⟩ := ka11.opn
 cases he
 unfold maxLen at hc11
 have hmfl : x_funcs.length ≤ 64 := by have := hr11.1; omega
 have hldl : dl.length = x_daemons.length := by rw [← hdl]; simp
 have HIdl : Hid (∀ i (hi : i < x_daemons.length), dl[i]? = some (daeB x_daemons[i])) := fun i hi => by rw [← hdl, List.getElem?_map, List.getElem?_eq_getElem hi]; rfl
 obtain ⟨_, _, he, hl12, hc12, h12o⟩ := ka12.opn
 cases he
 unfold maxLen at hc12
 have hmdl : x_daemons.length ≤ 16 := by have := hr12.1; omega
 obtain ⟨_, _, he, hl5, hc5, h5o⟩ := ka5.opn
 cases he
 unfold maxLen at hc5
 have hlf : x_flags.length ≤ 16 := by have := hr5.1; omega
 have HQ1 := Lib.hid hQ1; have HQ2 := Lib.hid hQ2; have HN1 := Lib.hid hN1; have HN2 := Lib.hid hN2; have HRW := Lib.hid hRW
 have H6 := Lib.hid h6o; have HR6 := Lib.hid hr6; have H7 := Lib.hid h7o; have HR7 := Lib.hid hr7; have H8 := Lib.hid h8o; have HR8 := Lib.hid hr8; have H9 := Lib.hid h9o; have HR9 := Lib.hid hr9; have H10 := Lib.hid h10o; have HR10 := Lib.hid hr10; have H11 := Lib.hid h11o; have HR11 := Lib.hid hr11; have H12 := Lib.hid h12o; have HR12 := Lib.hid hr12
 have HLpl := Lib.hid hlpl; have HLgl := Lib.hid hlgl; have HLol := Lib.hid hlol; have HLvl := Lib.hid hlvl; have HLrl := Lib.hid hlrl; have HLfl := Lib.hid hlfl; have HLdl := Lib.hid hldl
 have HA2 := Lib.hid hA2; have HA3 := Lib.hid hA3; have HA4 := Lib.hid hA4; have HA5 := Lib.hid hA5; have HA6 := Lib.hid hA6; have HA7 := Lib.hid hA7; have HA8 := Lib.hid hA8; have HA9 := Lib.hid hA9
 have HZ3 := Lib.hid s3; have HZ4 := Lib.hid s4; have HZ5 := Lib.hid s5; have HZ6 := Lib.hid s6; have HZ7 := Lib.hid s7; have HZ8 := Lib.hid s8; have HZ9 := Lib.hid s9
 have HF := Lib.hid hF; have HTB := Lib.hid ht; have HTA := Lib.hid ha; have HZZ := Lib.hid hsz; have HZA := Lib.hid (And.intro hz1 (And.intro hz2 (And.intro hz3 (And.intro hz4 hz5))))
 have hS := HS0.out
 clear HS0 hW1 hW2 hbw1 hbw2 hs1 hQ1 hQ2 hN1 hN2 hRW hF ht ha hrt hra hrs hrrl hrrm hr5 hr6 hr7 hr8 hr9 hr10 hr11 hr12 ka5 ka6 ka7 ka8 ka9 ka10 ka11 ka12 h5o h6o h7o h8o h9o h10o h11o h12o hq1 hq2 hn1 hn2 hqf hE hpl hlpl hgl hlgl hol hlol hvl hlvl hrl hlrl hfl hlfl hdl hldl hA1 hA2 hA3 hA4 hA5 hA6 hA7 hA8 hA9 s2 s3 s4 s5 s6 s7 s8 s9 e0 c6 hsz hhz
 go_enter Tryz.func10, Tryz.ntmps10
 go_upto_region 2 with fail
 rw [HW1.out, HW2.out]
 have q := fun j => hS.cell w.heap.size [.string x_title, .string x_author, .string x_start, .int .i64 x_release, .int .i64 x_most, .slice da5 x_flags.length fa5, .slice da6 x_props.length fa6, .slice da7 x_globals.length fa7, .slice da8 x_objects.length fa8, .slice da9 x_verbs.length fa9, .slice da10 x_rules.length fa10, .slice da11 x_funcs.length fa11, .slice da12 x_daemons.length fa12] 29 (by simp) j
 have g0 := q 0
 have g1 := q 1
 have g2 := q 2
 have g3 := q 3
 have g4 := q 4
 have g5 := q 5
 have g6 := q 6
 have g7 := q 7
 have g8 := q 8
 have g9 := q 9
 have g10 := q 10
 have g11 := q 11
 have g12 := q 12
 simp only [cqs, cqz] at g0 g1 g2 g3 g4 g5 g6 g7 g8 g9 g10 g11 g12
 clear q
 have K := @rg' Tryz.prog W2
 have HK1 := Lib.hid (K (fun W (_ : Below W2.heap.size W2 W) => HQ1.out W))
 have HK2 := Lib.hid (K (fun W (_ : Below W2.heap.size W2 W) => HQ2.out W))
 have HK3 := Lib.hid (K (fun W (hW : Below W2.heap.size W2 W) => HN1.out W (bt HBW.out hW)))
 have HK4 := Lib.hid (K (fun W (hW : Below W2.heap.size W2 W) => HN2.out W (bt HBW.out hW)))
 clear K
 have zg0 := fun d os => cell_regrown g0 d os
 have zg1 := fun d os => cell_regrown g1 d os
 have zg2 := fun d os => cell_regrown g2 d os
 have zg3 := fun d os => cell_regrown g3 d os
 have zg4 := fun d os => cell_regrown g4 d os
 refine wp_region_quiet_last_below 24 (by kernel_rfl) rfl rfl (by kernel_rfl) ?_
 simp only [List.dropLast]
 repeat (go_big_quiet_step (first | with_reducible exact HK1.out _ | with_reducible exact HK2.out _ | with_reducible exact HK3.out _ | with_reducible exact HK4.out _))
 refine wpQuiet_nil ?_
 intro wq hbq
 clear zg0 zg1 zg2 zg3 zg4 HK1 HK2 HK3 HK4
 have zz := HZA.out
 have hS2 := hS.below hbq
 clear g0 g1 g2 g3 g4 g5 g6 g7 g8 g9 g10 g11 g12 hS hbq
 have hS := hS2
 clear hS2
 have q := fun j => hS.cell w.heap.size [.string x_title, .string x_author, .string x_start, .int .i64 x_release, .int .i64 x_most, .slice da5 x_flags.length fa5, .slice da6 x_props.length fa6, .slice da7 x_globals.length fa7, .slice da8 x_objects.length fa8, .slice da9 x_verbs.length fa9, .slice da10 x_rules.length fa10, .slice da11 x_funcs.length fa11, .slice da12 x_daemons.length fa12] 29 (by simp) j
 have g0 := q 0
 have g1 := q 1
 have g2 := q 2
 have g3 := q 3
 have g4 := q 4
 have g5 := q 5
 have g6 := q 6
 have g7 := q 7
 have g8 := q 8
 have g9 := q 9
 have g10 := q 10
 have g11 := q 11
 have g12 := q 12
 simp only [cqs, cqz] at g0 g1 g2 g3 g4 g5 g6 g7 g8 g9 g10 g11 g12
 clear q
 clear zz
 go_upto_region 3 with (go_at_call 37; (with_reducible refine (HT1.out _ hS).mono ?_); rintro e w4 ⟨rfl, hS2⟩; clear g0 g1 g2 g3 g4 g5 g6 g7 g8 g9 g10 g11 g12 hS; have hS := hS2; clear hS2; have q := fun j => hS.cell w.heap.size [.string x_title, .string x_author, .string x_start, .int .i64 x_release, .int .i64 x_most, .slice da5 x_flags.length fa5, .slice da6 x_props.length fa6, .slice da7 x_globals.length fa7, .slice da8 x_objects.length fa8, .slice da9 x_verbs.length fa9, .slice da10 x_rules.length fa10, .slice da11 x_funcs.length fa11, .slice da12 x_daemons.length fa12] 29 (by simp) j; have g0 := q 0; have g1 := q 1; have g2 := q 2; have g3 := q 3; have g4 := q 4; have g5 := q 5; have g6 := q 6; have g7 := q 7; have g8 := q 8; have g9 := q 9; have g10 := q 10; have g11 := q 11; have g12 := q 12; simp only [cqs, cqz] at g0 g1 g2 g3 g4 g5 g6 g7 g8 g9 g10 g11 g12; clear q)
 obtain ⟨wY, hwY⟩ : ∃ x : World, x = w4 := ⟨_, rfl⟩
 rw [← hwY] at hS g0 g1 g2 g3 g4 g5 g6 g7 g8 g9 g10 g11 g12 ⊢
 clear hwY HQ1 HQ2 HN1 HN2 HT1 HZA
 go_cut [46] (fun v wc => Hid (∃ t : Bool, v = .bool t ∧ (t = true → E = (⟨#[102, 108, 97, 103, 32]⟩ ++ qf ++ ⟨#[59, 10]⟩)) ∧ (t = false → E = ⟨#[]⟩) ∧ wY = wc))
 case first =>
  by_cases hn : x_flags = []
  · have hf := Lib.hid (hEf.out hn)
    have HN := Lib.hid hn
    clear hn
    go_wp2_with fail
    go_meet
    exact ⟨false, congrArg Value.bool (decide_eq_false (by rw [HN.out]; decide)), fun h => (by cases h), fun _ => hf.out, rfl⟩
  have hf := Lib.hid (hEt.out hn)
  have HN := Lib.hid hn
  clear hn
  go_wp2_with fail
  go_meet
  exact ⟨true, congrArg Value.bool (decide_eq_true (List.length_pos_iff.2 HN.out)), fun _ => hf.out, fun h => (by cases h), rfl⟩
 case rest =>
  obtain ⟨t, rfl, hbt, hbf, rfl⟩ := hcut.out
  have HBT := Lib.hid hbt; have HBF := Lib.hid hbf
  clear hcut hbt hbf hEt hEf
  go_upto_if 46 with fail
  go_cut [] (fun wc => Hid (StA W2 (w.heap.size + 1) [(w.heap.size, [.string x_title, .string x_author, .string x_start, .int .i64 x_release, .int .i64 x_most, .slice da5 x_flags.length fa5, .slice da6 x_props.length fa6, .slice da7 x_globals.length fa7, .slice da8 x_objects.length fa8, .slice da9 x_verbs.length fa9, .slice da10 x_rules.length fa10, .slice da11 x_funcs.length fa11, .slice da12 x_daemons.length fa12], 29)] A2 wc))
  case first =>
   cases t
   · have hf := Lib.hid (HBF.out rfl)
     go_wp2_with fail
     go_meet
     exact hS.same (by rw [← HA2.out, hf.out, app_emp])
   have hf := Lib.hid (HBT.out rfl)
   have hqt := HKW.out _ _ _ hS
   go_wp2_with (first | (go_at_call 40; (with_reducible refine (HRW.out _ hqt).mono ?_); rintro e w4 ⟨rfl, hb4⟩; have hS4 := hS.below hb4; clear hb4) | (go_at_call 37; (with_reducible refine (HTF.out _ hS4).mono ?_); rintro e w5 ⟨rfl, hS2⟩))
   go_meet
   exact hS2.same (by rw [← HA2.out, hf.out])
  case rest =>
   clear g0 g1 g2 g3 g4 g5 g6 g7 g8 g9 g10 g11 g12 hS
   have hS := hcut.out
   clear hcut HBT HBF HA2 HTF HRW
   have q := fun j => hS.cell w.heap.size [.string x_title, .string x_author, .string x_start, .int .i64 x_release, .int .i64 x_most, .slice da5 x_flags.length fa5, .slice da6 x_props.length fa6, .slice da7 x_globals.length fa7, .slice da8 x_objects.length fa8, .slice da9 x_verbs.length fa9, .slice da10 x_rules.length fa10, .slice da11 x_funcs.length fa11, .slice da12 x_daemons.length fa12] 29 (by simp) j
   have g0 := q 0
   have g1 := q 1
   have g2 := q 2
   have g3 := q 3
   have g4 := q 4
   have g5 := q 5
   have g6 := q 6
   have g7 := q 7
   have g8 := q 8
   have g9 := q 9
   have g10 := q 10
   have g11 := q 11
   have g12 := q 12
   simp only [cqs, cqz] at g0 g1 g2 g3 g4 g5 g6 g7 g8 g9 g10 g11 g12
   clear q
   go_wp2_with fail
   go_loopw [56] (fun i wr => ∃ k : Nat, k ≤ x_props.length ∧ i = .int .i64 k ∧ Hid (StA W2 (w.heap.size + 1) [(w.heap.size, [.string x_title, .string x_author, .string x_start, .int .i64 x_release, .int .i64 x_most, .slice da5 x_flags.length fa5, .slice da6 x_props.length fa6, .slice da7 x_globals.length fa7, .slice da8 x_objects.length fa8, .slice da9 x_verbs.length fa9, .slice da10 x_rules.length fa10, .slice da11 x_funcs.length fa11, .slice da12 x_daemons.length fa12], 29)] (A2 ++ catB (pl.take k)) wr)) (fun i _ => x_props.length - (intOf i).toNat)
   case atStart => exact ⟨0, Nat.zero_le _, rfl, hS.same (by simp [catB, app_emp])⟩
   case round =>
    clear g0 g1 g2 g3 g4 g5 g6 g7 g8 g9 g10 g11 g12 hS
    obtain ⟨k, hk, rfl, hS⟩ := hrel
    have hS := hS.out
    have hkz := catB_take_le pl k
    by_cases hlt : k < x_props.length
    · have hqt := HKW.out _ _ _ hS
      obtain ⟨bb, off, rfl, hFb, hel⟩ := H6.out (by omega)
      obtain ⟨cs, hx, -, hcell⟩ := hel wr (hqt.block bb (HF.out bb hFb)) k hlt
      have hpr := HR6.out.2 _ (List.getElem_mem hlt)
      have hpi := HIpl.out k hlt
      obtain ⟨p, hpe⟩ : ∃ p, x_props[k] = p := ⟨_, rfl⟩
      rw [hpe] at hx hpr hpi
      obtain ⟨pn, pm⟩ := p
      have hx2 := hx
      obtain ⟨-, -, rfl⟩ := hx2
      simp only at hpr hcell hx
      have q0' := hcell 0 _ rfl
      have q1' := hcell 1 _ rfl
      simp only [Nat.add_zero] at q0'
      have hki : (k : Int) < (x_props.length : Int) := by omega
      have hki0 : (0 : Int) ≤ (k : Int) := by omega
      obtain ⟨we, hwe⟩ : ∃ we, wr.alloc (.cells #[.string pn, .int .i64 pm] 84) = we := ⟨_, rfl⟩
      have hSe := hS.add [.string pn, .int .i64 pm] 84 (by decide)
      rw [hwe] at hSe
      have hbe := ba' hwe
      have hb9 := bt hqt hbe
      have HB9 := Lib.hid hb9
      have hlk : k < pl.length := by rw [HLpl.out]; exact hlt
      have hkz2 := catB_take_le pl (k + 1)
      have hnx0 : (A2 ++ catB (pl.take k)) ++ propS ⟨pn, pm⟩ = (A2 ++ catB (pl.take (k + 1))) := by
       rw [catB_step pl k hlk, show pl[k] = propS ⟨pn, pm⟩ from by rw [List.getElem?_eq_getElem hlk] at hpi; exact Option.some.inj hpi, ByteArray.append_assoc]
      have hxz : ((A2 ++ catB (pl.take k)) ++ propS ⟨pn, pm⟩).size ≤ 1000000000000 := by
       rw [hnx0]
       have h1 := HZ3.out
       rw [ByteArray.size_append]
       omega
      have hvs := valueB_sz hpr
      have hval := fun (W : World) (hW : Below we.heap.size we W) => value_calls F W ⟨pn, pm⟩ _ (HTB.out.below (bt HB9.out hW) (Nat.le_refl _)) (by have h : pn.size ≤ 24 := isName_size hpr.1; show pn.size ≤ _; omega) (Holds.below Holds.pair hx HF.out (bt HB9.out hW) (Nat.le_refl _))
      have HNX : Hid ((A2 ++ catB (pl.take k)) ++ (⟨#[112, 114, 111, 112, 32]⟩ ++ valueB ⟨pn, pm⟩) = (A2 ++ catB (pl.take (k + 1)))) := hnx0
      obtain ⟨z, hzz⟩ : ∃ z, valueB ⟨pn, pm⟩ = z := ⟨_, rfl⟩
      simp only [hzz] at hval hvs HNX
      have HT9 : Hid (∀ W, StA W2 (w.heap.size + 1) ((wr.heap.size, [.string pn, .int .i64 pm], 84) :: [(w.heap.size, [.string x_title, .string x_author, .string x_start, .int .i64 x_release, .int .i64 x_most, .slice da5 x_flags.length fa5, .slice (some ⟨bb, off, none⟩) x_props.length fa6, .slice da7 x_globals.length fa7, .slice da8 x_objects.length fa8, .slice da9 x_verbs.length fa9, .slice da10 x_rules.length fa10, .slice da11 x_funcs.length fa11, .slice da12 x_daemons.length fa12], 29)]) (A2 ++ catB (pl.take k)) W → Calls Tryz.prog 37 #[.pointer (some ⟨w.heap.size + 1, 0, none⟩), .string (⟨#[112, 114, 111, 112, 32]⟩ ++ z)] W fun e w' => e = .returned (.tuple #[.int .i64 ((⟨#[112, 114, 111, 112, 32]⟩ ++ z) : ByteArray).size, .nilIface]) ∧ StA W2 (w.heap.size + 1) ((wr.heap.size, [.string pn, .int .i64 pm], 84) :: [(w.heap.size, [.string x_title, .string x_author, .string x_start, .int .i64 x_release, .int .i64 x_most, .slice da5 x_flags.length fa5, .slice (some ⟨bb, off, none⟩) x_props.length fa6, .slice da7 x_globals.length fa7, .slice da8 x_objects.length fa8, .slice da9 x_verbs.length fa9, .slice da10 x_rules.length fa10, .slice da11 x_funcs.length fa11, .slice da12 x_daemons.length fa12], 29)]) ((A2 ++ catB (pl.take k)) ++ (⟨#[112, 114, 111, 112, 32]⟩ ++ z)) w') := fun W h => h.text _ (by
       have e : (⟨#[112, 114, 111, 112, 32]⟩ : ByteArray).size = 5 := rfl
       have := HZ3.out
       simp only [ByteArray.size_append, e]
       omega)
      have HV := Lib.hid hval
      clear hval hzz
      have q := fun j => hS.cell w.heap.size [.string x_title, .string x_author, .string x_start, .int .i64 x_release, .int .i64 x_most, .slice da5 x_flags.length fa5, .slice (some ⟨bb, off, none⟩) x_props.length fa6, .slice da7 x_globals.length fa7, .slice da8 x_objects.length fa8, .slice da9 x_verbs.length fa9, .slice da10 x_rules.length fa10, .slice da11 x_funcs.length fa11, .slice da12 x_daemons.length fa12] 29 (by simp) j
      have g0 := q 0
      have g1 := q 1
      have g2 := q 2
      have g3 := q 3
      have g4 := q 4
      have g5 := q 5
      have g6 := q 6
      have g7 := q 7
      have g8 := q 8
      have g9 := q 9
      have g10 := q 10
      have g11 := q 11
      have g12 := q 12
      simp only [cqs, cqz] at g0 g1 g2 g3 g4 g5 g6 g7 g8 g9 g10 g11 g12
      clear q
      have HSE := Lib.hid hSe
      have HWE := Lib.hid hwe
      clear  hel hcell hx hpr hpi hpe hqt hFb hwe hSe hbe hb9 hlk hkz hkz2 hxz hnx0
      go_upto_region 8 with fail
      rw [HWE.out]
      clear q0' q1' g0 g1 g2 g3 g4 g5 g6 g7 g8 g9 g10 g11 g12 hS
      have hS := HSE.out
      have q := fun j => hS.cell wr.heap.size [.string pn, .int .i64 pm] 84 (by simp) j
      have q0' := q 0
      have q1' := q 1
      simp only [cqs, cqz] at q0' q1'
      clear q
      go_wp2_with (first | (go_at_call 42; (with_reducible refine (HV.out _ (Below.refl _ _)).mono ?_); rintro e w5 ⟨rfl, hb5⟩; have hS5 := hS.below hb5; clear hb5) | (go_at_call 37; (with_reducible refine (HT9.out _ hS5).mono ?_); rintro e w6 ⟨rfl, hS6⟩))
      go_roundw
      case rel => exact ⟨k + 1, by omega, by go_num, (hS6.same HNX.out).sub (fun t ht => List.mem_cons_of_mem _ ht)⟩
      case measure => simp [intOf]; omega
    have : k = x_props.length := by omega
    subst this
    have hki : decide ((x_props.length : Int) < (x_props.length : Int)) = false := by simp
    have hS2 := hS.same (show (A2 ++ catB (pl.take x_props.length)) = A3 by rw [List.take_of_length_le (by rw [HLpl.out]; exact Nat.le_refl _), HA3.out])
    clear hS hkz HR6 HIpl H6
    have hS := hS2
    clear hS2
    have q := fun j => hS.cell w.heap.size [.string x_title, .string x_author, .string x_start, .int .i64 x_release, .int .i64 x_most, .slice da5 x_flags.length fa5, .slice da6 x_props.length fa6, .slice da7 x_globals.length fa7, .slice da8 x_objects.length fa8, .slice da9 x_verbs.length fa9, .slice da10 x_rules.length fa10, .slice da11 x_funcs.length fa11, .slice da12 x_daemons.length fa12] 29 (by simp) j
    have g0 := q 0
    have g1 := q 1
    have g2 := q 2
    have g3 := q 3
    have g4 := q 4
    have g5 := q 5
    have g6 := q 6
    have g7 := q 7
    have g8 := q 8
    have g9 := q 9
    have g10 := q 10
    have g11 := q 11
    have g12 := q 12
    simp only [cqs, cqz] at g0 g1 g2 g3 g4 g5 g6 g7 g8 g9 g10 g11 g12
    clear q
    go_wp2_with fail
    go_loopw [68] (fun i wr => ∃ k : Nat, k ≤ x_globals.length ∧ i = .int .i64 k ∧ Hid (StA W2 (w.heap.size + 1) [(w.heap.size, [.string x_title, .string x_author, .string x_start, .int .i64 x_release, .int .i64 x_most, .slice da5 x_flags.length fa5, .slice da6 x_props.length fa6, .slice da7 x_globals.length fa7, .slice da8 x_objects.length fa8, .slice da9 x_verbs.length fa9, .slice da10 x_rules.length fa10, .slice da11 x_funcs.length fa11, .slice da12 x_daemons.length fa12], 29)] (A3 ++ catB (gl.take k)) wr)) (fun i _ => x_globals.length - (intOf i).toNat)
    case atStart => exact ⟨0, Nat.zero_le _, rfl, hS.same (by simp [catB, app_emp])⟩
    case round =>
     clear g0 g1 g2 g3 g4 g5 g6 g7 g8 g9 g10 g11 g12 hS
     obtain ⟨k, hk, rfl, hS⟩ := hrel
     have hS := hS.out
     have hkz := catB_take_le gl k
     by_cases hlt : k < x_globals.length
     · have hqt := HKW.out _ _ _ hS
       obtain ⟨bb, off, rfl, hFb, hel⟩ := H7.out (by omega)
       obtain ⟨cs, hx, -, hcell⟩ := hel wr (hqt.block bb (HF.out bb hFb)) k hlt
       have hpr := HR7.out.2 _ (List.getElem_mem hlt)
       have hpi := HIgl.out k hlt
       obtain ⟨p, hpe⟩ : ∃ p, x_globals[k] = p := ⟨_, rfl⟩
       rw [hpe] at hx hpr hpi
       obtain ⟨pn, pm⟩ := p
       have hx2 := hx
       obtain ⟨-, -, rfl⟩ := hx2
       simp only at hpr hcell hx
       have q0' := hcell 0 _ rfl
       have q1' := hcell 1 _ rfl
       simp only [Nat.add_zero] at q0'
       have hki : (k : Int) < (x_globals.length : Int) := by omega
       have hki0 : (0 : Int) ≤ (k : Int) := by omega
       obtain ⟨we, hwe⟩ : ∃ we, wr.alloc (.cells #[.string pn, .int .i64 pm] 84) = we := ⟨_, rfl⟩
       have hSe := hS.add [.string pn, .int .i64 pm] 84 (by decide)
       rw [hwe] at hSe
       have hbe := ba' hwe
       have hb9 := bt hqt hbe
       have HB9 := Lib.hid hb9
       have hlk : k < gl.length := by rw [HLgl.out]; exact hlt
       have hkz2 := catB_take_le gl (k + 1)
       have hnx0 : (A3 ++ catB (gl.take k)) ++ globS ⟨pn, pm⟩ = (A3 ++ catB (gl.take (k + 1))) := by
        rw [catB_step gl k hlk, show gl[k] = globS ⟨pn, pm⟩ from by rw [List.getElem?_eq_getElem hlk] at hpi; exact Option.some.inj hpi, ByteArray.append_assoc]
       have hxz : ((A3 ++ catB (gl.take k)) ++ globS ⟨pn, pm⟩).size ≤ 1000000000000 := by
        rw [hnx0]
        have h1 := HZ4.out
        rw [ByteArray.size_append]
        omega
       have hvs := valueB_sz hpr
       have hval := fun (W : World) (hW : Below we.heap.size we W) => value_calls F W ⟨pn, pm⟩ _ (HTB.out.below (bt HB9.out hW) (Nat.le_refl _)) (by have h : pn.size ≤ 24 := isName_size hpr.1; show pn.size ≤ _; omega) (Holds.below Holds.pair hx HF.out (bt HB9.out hW) (Nat.le_refl _))
       have HNX : Hid ((A3 ++ catB (gl.take k)) ++ (⟨#[103, 108, 111, 98, 97, 108, 32]⟩ ++ valueB ⟨pn, pm⟩) = (A3 ++ catB (gl.take (k + 1)))) := hnx0
       obtain ⟨z, hzz⟩ : ∃ z, valueB ⟨pn, pm⟩ = z := ⟨_, rfl⟩
       simp only [hzz] at hval hvs HNX
       have HT9 : Hid (∀ W, StA W2 (w.heap.size + 1) ((wr.heap.size, [.string pn, .int .i64 pm], 84) :: [(w.heap.size, [.string x_title, .string x_author, .string x_start, .int .i64 x_release, .int .i64 x_most, .slice da5 x_flags.length fa5, .slice da6 x_props.length fa6, .slice (some ⟨bb, off, none⟩) x_globals.length fa7, .slice da8 x_objects.length fa8, .slice da9 x_verbs.length fa9, .slice da10 x_rules.length fa10, .slice da11 x_funcs.length fa11, .slice da12 x_daemons.length fa12], 29)]) (A3 ++ catB (gl.take k)) W → Calls Tryz.prog 37 #[.pointer (some ⟨w.heap.size + 1, 0, none⟩), .string (⟨#[103, 108, 111, 98, 97, 108, 32]⟩ ++ z)] W fun e w' => e = .returned (.tuple #[.int .i64 ((⟨#[103, 108, 111, 98, 97, 108, 32]⟩ ++ z) : ByteArray).size, .nilIface]) ∧ StA W2 (w.heap.size + 1) ((wr.heap.size, [.string pn, .int .i64 pm], 84) :: [(w.heap.size, [.string x_title, .string x_author, .string x_start, .int .i64 x_release, .int .i64 x_most, .slice da5 x_flags.length fa5, .slice da6 x_props.length fa6, .slice (some ⟨bb, off, none⟩) x_globals.length fa7, .slice da8 x_objects.length fa8, .slice da9 x_verbs.length fa9, .slice da10 x_rules.length fa10, .slice da11 x_funcs.length fa11, .slice da12 x_daemons.length fa12], 29)]) ((A3 ++ catB (gl.take k)) ++ (⟨#[103, 108, 111, 98, 97, 108, 32]⟩ ++ z)) w') := fun W h => h.text _ (by
        have e : (⟨#[103, 108, 111, 98, 97, 108, 32]⟩ : ByteArray).size = 7 := rfl
        have := HZ4.out
        simp only [ByteArray.size_append, e]
        omega)
       have HV := Lib.hid hval
       clear hval hzz
       have q := fun j => hS.cell w.heap.size [.string x_title, .string x_author, .string x_start, .int .i64 x_release, .int .i64 x_most, .slice da5 x_flags.length fa5, .slice da6 x_props.length fa6, .slice (some ⟨bb, off, none⟩) x_globals.length fa7, .slice da8 x_objects.length fa8, .slice da9 x_verbs.length fa9, .slice da10 x_rules.length fa10, .slice da11 x_funcs.length fa11, .slice da12 x_daemons.length fa12] 29 (by simp) j
       have g0 := q 0
       have g1 := q 1
       have g2 := q 2
       have g3 := q 3
       have g4 := q 4
       have g5 := q 5
       have g6 := q 6
       have g7 := q 7
       have g8 := q 8
       have g9 := q 9
       have g10 := q 10
       have g11 := q 11
       have g12 := q 12
       simp only [cqs, cqz] at g0 g1 g2 g3 g4 g5 g6 g7 g8 g9 g10 g11 g12
       clear q
       have HSE := Lib.hid hSe
       have HWE := Lib.hid hwe
       clear  hel hcell hx hpr hpi hpe hqt hFb hwe hSe hbe hb9 hlk hkz hkz2 hxz hnx0
       go_upto_region 13 with fail
       rw [HWE.out]
       clear q0' q1' g0 g1 g2 g3 g4 g5 g6 g7 g8 g9 g10 g11 g12 hS
       have hS := HSE.out
       have q := fun j => hS.cell wr.heap.size [.string pn, .int .i64 pm] 84 (by simp) j
       have q0' := q 0
       have q1' := q 1
       simp only [cqs, cqz] at q0' q1'
       clear q
       go_wp2_with (first | (go_at_call 42; (with_reducible refine (HV.out _ (Below.refl _ _)).mono ?_); rintro e w5 ⟨rfl, hb5⟩; have hS5 := hS.below hb5; clear hb5) | (go_at_call 37; (with_reducible refine (HT9.out _ hS5).mono ?_); rintro e w6 ⟨rfl, hS6⟩))
       go_roundw
       case rel => exact ⟨k + 1, by omega, by go_num, (hS6.same HNX.out).sub (fun t ht => List.mem_cons_of_mem _ ht)⟩
       case measure => simp [intOf]; omega
     have : k = x_globals.length := by omega
     subst this
     have hki : decide ((x_globals.length : Int) < (x_globals.length : Int)) = false := by simp
     have hS2 := hS.same (show (A3 ++ catB (gl.take x_globals.length)) = A4 by rw [List.take_of_length_le (by rw [HLgl.out]; exact Nat.le_refl _), HA4.out])
     clear hS hkz HR7 HIgl H7
     have hS := hS2
     clear hS2
     have q := fun j => hS.cell w.heap.size [.string x_title, .string x_author, .string x_start, .int .i64 x_release, .int .i64 x_most, .slice da5 x_flags.length fa5, .slice da6 x_props.length fa6, .slice da7 x_globals.length fa7, .slice da8 x_objects.length fa8, .slice da9 x_verbs.length fa9, .slice da10 x_rules.length fa10, .slice da11 x_funcs.length fa11, .slice da12 x_daemons.length fa12] 29 (by simp) j
     have g0 := q 0
     have g1 := q 1
     have g2 := q 2
     have g3 := q 3
     have g4 := q 4
     have g5 := q 5
     have g6 := q 6
     have g7 := q 7
     have g8 := q 8
     have g9 := q 9
     have g10 := q 10
     have g11 := q 11
     have g12 := q 12
     simp only [cqs, cqz] at g0 g1 g2 g3 g4 g5 g6 g7 g8 g9 g10 g11 g12
     clear q
     go_wp2_with fail
     go_loopw [80] (fun i wr => ∃ k : Nat, k ≤ x_objects.length ∧ i = .int .i64 k ∧ Hid (StA W2 (w.heap.size + 1) [(w.heap.size, [.string x_title, .string x_author, .string x_start, .int .i64 x_release, .int .i64 x_most, .slice da5 x_flags.length fa5, .slice da6 x_props.length fa6, .slice da7 x_globals.length fa7, .slice da8 x_objects.length fa8, .slice da9 x_verbs.length fa9, .slice da10 x_rules.length fa10, .slice da11 x_funcs.length fa11, .slice da12 x_daemons.length fa12], 29)] (A4 ++ catB (ol.take k)) wr)) (fun i _ => x_objects.length - (intOf i).toNat)
     case atStart => exact ⟨0, Nat.zero_le _, rfl, hS.same (by simp [catB, app_emp])⟩
     case round =>
      clear g0 g1 g2 g3 g4 g5 g6 g7 g8 g9 g10 g11 g12 hS
      obtain ⟨k, hk, rfl, hS⟩ := hrel
      have hS := hS.out
      have hkz := catB_take_le ol k
      by_cases hlt : k < x_objects.length
      · have hqt := HKW.out _ _ _ hS
        obtain ⟨bb, off, rfl, hFb, hel⟩ := H8.out (by omega)
        obtain ⟨cs, hx, -, hcell⟩ := hel wr (hqt.block bb (HF.out bb hFb)) k hlt
        have hpr := HR8.out.2 _ (List.getElem_mem hlt)
        have hpi := HIol.out k hlt
        obtain ⟨p, hpe⟩ : ∃ p, x_objects[k] = p := ⟨_, rfl⟩
        rw [hpe] at hx hpr hpi
        obtain ⟨o_name, o_title, o_inn, o_text, o_room, o_words, o_adjs, o_flags, o_props, o_exits⟩ := p
        have hx2 := hx
        obtain ⟨-, -, -, -, ve5, ve6, ve7, ve8, ve9, rfl, ke5, ke6, ke7, ke8, ke9⟩ := hx2
        simp only at ke5 ke6 ke7 ke8 ke9
        obtain ⟨de5, fe5, rfl⟩ := ke5.shape
        obtain ⟨de6, fe6, rfl⟩ := ke6.shape
        obtain ⟨de7, fe7, rfl⟩ := ke7.shape
        obtain ⟨de8, fe8, rfl⟩ := ke8.shape
        obtain ⟨de9, fe9, rfl⟩ := ke9.shape
        simp only at hpr hcell hx
        have q0' := hcell 0 _ rfl
        have q1' := hcell 1 _ rfl
        have q2' := hcell 2 _ rfl
        have q3' := hcell 3 _ rfl
        have q4' := hcell 4 _ rfl
        have q5' := hcell 5 _ rfl
        have q6' := hcell 6 _ rfl
        have q7' := hcell 7 _ rfl
        have q8' := hcell 8 _ rfl
        have q9' := hcell 9 _ rfl
        simp only [Nat.add_zero] at q0'
        have hki : (k : Int) < (x_objects.length : Int) := by omega
        have hki0 : (0 : Int) ≤ (k : Int) := by omega
        obtain ⟨we, hwe⟩ : ∃ we, wr.alloc (.cells #[.string o_name, .string o_title, .string o_inn, .string o_text, .bool o_room, .slice de5 o_words.length fe5, .slice de6 o_adjs.length fe6, .slice de7 o_flags.length fe7, .slice de8 o_props.length fe8, .slice de9 o_exits.length fe9] 63) = we := ⟨_, rfl⟩
        have hSe := hS.add [.string o_name, .string o_title, .string o_inn, .string o_text, .bool o_room, .slice de5 o_words.length fe5, .slice de6 o_adjs.length fe6, .slice de7 o_flags.length fe7, .slice de8 o_props.length fe8, .slice de9 o_exits.length fe9] 63 (by decide)
        rw [hwe] at hSe
        have hbe := ba' hwe
        have hb9 := bt hqt hbe
        have HB9 := Lib.hid hb9
        have hlk : k < ol.length := by rw [HLol.out]; exact hlt
        have hkz2 := catB_take_le ol (k + 1)
        have hnx0 : (A4 ++ catB (ol.take k)) ++ objB ⟨o_name, o_title, o_inn, o_text, o_room, o_words, o_adjs, o_flags, o_props, o_exits⟩ = (A4 ++ catB (ol.take (k + 1))) := by
         rw [catB_step ol k hlk, show ol[k] = objB ⟨o_name, o_title, o_inn, o_text, o_room, o_words, o_adjs, o_flags, o_props, o_exits⟩ from by rw [List.getElem?_eq_getElem hlk] at hpi; exact Option.some.inj hpi, ByteArray.append_assoc]
        have hxz : ((A4 ++ catB (ol.take k)) ++ objB ⟨o_name, o_title, o_inn, o_text, o_room, o_words, o_adjs, o_flags, o_props, o_exits⟩).size ≤ 1000000000000 := by
         rw [hnx0]
         have h1 := HZ5.out
         rw [ByteArray.size_append]
         omega
        have HC : Hid (Calls Tryz.prog 43 #[.pointer (some ⟨w.heap.size + 1, 0, none⟩), .agg #[.string o_name, .string o_title, .string o_inn, .string o_text, .bool o_room, .slice de5 o_words.length fe5, .slice de6 o_adjs.length fe6, .slice de7 o_flags.length fe7, .slice de8 o_props.length fe8, .slice de9 o_exits.length fe9]] we fun e w' => e = .returned (.tuple #[]) ∧ Wrote (w.heap.size + 1) ((A4 ++ catB (ol.take k)) ++ objB ⟨o_name, o_title, o_inn, o_text, o_room, o_words, o_adjs, o_flags, o_props, o_exits⟩).data.toList we w') :=
         putObj_sh F w we ⟨o_name, o_title, o_inn, o_text, o_room, o_words, o_adjs, o_flags, o_props, o_exits⟩ [.string o_name, .string o_title, .string o_inn, .string o_text, .bool o_room, .slice de5 o_words.length fe5, .slice de6 o_adjs.length fe6, .slice de7 o_flags.length fe7, .slice de8 o_props.length fe8, .slice de9 o_exits.length fe9] (w.heap.size + 1) (A4 ++ catB (ol.take k)) HF.out HTB.out HTA.out HB9.out (by omega) hSe.bd hpr (by rw [ByteArray.size_append] at hxz; exact hxz) hx
        have HNX := Lib.hid hnx0
        clear ke5 ke6 ke7 ke8 ke9
        have q := fun j => hS.cell w.heap.size [.string x_title, .string x_author, .string x_start, .int .i64 x_release, .int .i64 x_most, .slice da5 x_flags.length fa5, .slice da6 x_props.length fa6, .slice da7 x_globals.length fa7, .slice (some ⟨bb, off, none⟩) x_objects.length fa8, .slice da9 x_verbs.length fa9, .slice da10 x_rules.length fa10, .slice da11 x_funcs.length fa11, .slice da12 x_daemons.length fa12] 29 (by simp) j
        have g0 := q 0
        have g1 := q 1
        have g2 := q 2
        have g3 := q 3
        have g4 := q 4
        have g5 := q 5
        have g6 := q 6
        have g7 := q 7
        have g8 := q 8
        have g9 := q 9
        have g10 := q 10
        have g11 := q 11
        have g12 := q 12
        simp only [cqs, cqz] at g0 g1 g2 g3 g4 g5 g6 g7 g8 g9 g10 g11 g12
        clear q
        have HSE := Lib.hid hSe
        have HWE := Lib.hid hwe
        clear  hel hcell hx hpr hpi hpe hqt hFb hwe hSe hbe hb9 hlk hkz hkz2 hxz hnx0
        go_upto_region 18 with fail
        rw [HWE.out]
        clear q0' q1' q2' q3' q4' q5' q6' q7' q8' q9' g0 g1 g2 g3 g4 g5 g6 g7 g8 g9 g10 g11 g12 hS
        have hS := HSE.out
        have q := fun j => hS.cell wr.heap.size [.string o_name, .string o_title, .string o_inn, .string o_text, .bool o_room, .slice de5 o_words.length fe5, .slice de6 o_adjs.length fe6, .slice de7 o_flags.length fe7, .slice de8 o_props.length fe8, .slice de9 o_exits.length fe9] 63 (by simp) j
        have q0' := q 0
        have q1' := q 1
        have q2' := q 2
        have q3' := q 3
        have q4' := q 4
        have q5' := q 5
        have q6' := q 6
        have q7' := q 7
        have q8' := q 8
        have q9' := q 9
        simp only [cqs, cqz] at q0' q1' q2' q3' q4' q5' q6' q7' q8' q9'
        clear q
        go_wp2_with (go_at_call 43; (with_reducible refine HC.out.mono ?_); rintro e w5 ⟨rfl, hw5⟩)
        have hS6 := hS.wrote hw5
        go_roundw
        case rel => exact ⟨k + 1, by omega, by go_num, (hS6.same HNX.out).sub (fun t ht => List.mem_cons_of_mem _ ht)⟩
        case measure => simp [intOf]; omega
      have : k = x_objects.length := by omega
      subst this
      have hki : decide ((x_objects.length : Int) < (x_objects.length : Int)) = false := by simp
      have hS2 := hS.same (show (A4 ++ catB (ol.take x_objects.length)) = A5 by rw [List.take_of_length_le (by rw [HLol.out]; exact Nat.le_refl _), HA5.out])
      clear hS hkz HR8 HIol H8
      have hS := hS2
      clear hS2
      have q := fun j => hS.cell w.heap.size [.string x_title, .string x_author, .string x_start, .int .i64 x_release, .int .i64 x_most, .slice da5 x_flags.length fa5, .slice da6 x_props.length fa6, .slice da7 x_globals.length fa7, .slice da8 x_objects.length fa8, .slice da9 x_verbs.length fa9, .slice da10 x_rules.length fa10, .slice da11 x_funcs.length fa11, .slice da12 x_daemons.length fa12] 29 (by simp) j
      have g0 := q 0
      have g1 := q 1
      have g2 := q 2
      have g3 := q 3
      have g4 := q 4
      have g5 := q 5
      have g6 := q 6
      have g7 := q 7
      have g8 := q 8
      have g9 := q 9
      have g10 := q 10
      have g11 := q 11
      have g12 := q 12
      simp only [cqs, cqz] at g0 g1 g2 g3 g4 g5 g6 g7 g8 g9 g10 g11 g12
      clear q
      go_wp2_with fail
      go_loopw [90] (fun i wr => ∃ k : Nat, k ≤ x_verbs.length ∧ i = .int .i64 k ∧ Hid (StA W2 (w.heap.size + 1) [(w.heap.size, [.string x_title, .string x_author, .string x_start, .int .i64 x_release, .int .i64 x_most, .slice da5 x_flags.length fa5, .slice da6 x_props.length fa6, .slice da7 x_globals.length fa7, .slice da8 x_objects.length fa8, .slice da9 x_verbs.length fa9, .slice da10 x_rules.length fa10, .slice da11 x_funcs.length fa11, .slice da12 x_daemons.length fa12], 29)] (A5 ++ catB (vl.take k)) wr)) (fun i _ => x_verbs.length - (intOf i).toNat)
      case atStart => exact ⟨0, Nat.zero_le _, rfl, hS.same (by simp [catB, app_emp])⟩
      case round =>
       clear g0 g1 g2 g3 g4 g5 g6 g7 g8 g9 g10 g11 g12 hS
       obtain ⟨k, hk, rfl, hS⟩ := hrel
       have hS := hS.out
       have hkz := catB_take_le vl k
       by_cases hlt : k < x_verbs.length
       · have hqt := HKW.out _ _ _ hS
         obtain ⟨bb, off, rfl, hFb, hel⟩ := H9.out (by omega)
         obtain ⟨cs, hx, -, hcell⟩ := hel wr (hqt.block bb (HF.out bb hFb)) k hlt
         have hpr := HR9.out.2 _ (List.getElem_mem hlt)
         have hpi := HIvl.out k hlt
         obtain ⟨p, hpe⟩ : ∃ p, x_verbs[k] = p := ⟨_, rfl⟩
         rw [hpe] at hx hpr hpi
         obtain ⟨v_name, v_meta, v_lines⟩ := p
         have hx2 := hx
         obtain ⟨-, ve2, rfl, ke2⟩ := hx2
         simp only at ke2
         obtain ⟨de2, fe2, rfl⟩ := ke2.shape
         simp only at hpr hcell hx
         have q0' := hcell 0 _ rfl
         have q1' := hcell 1 _ rfl
         have q2' := hcell 2 _ rfl
         simp only [Nat.add_zero] at q0'
         have hki : (k : Int) < (x_verbs.length : Int) := by omega
         have hki0 : (0 : Int) ≤ (k : Int) := by omega
         obtain ⟨we, hwe⟩ : ∃ we, wr.alloc (.cells #[.string v_name, .bool v_meta, .slice de2 v_lines.length fe2] 67) = we := ⟨_, rfl⟩
         have hSe := hS.add [.string v_name, .bool v_meta, .slice de2 v_lines.length fe2] 67 (by decide)
         rw [hwe] at hSe
         have hbe := ba' hwe
         have hb9 := bt hqt hbe
         have HB9 := Lib.hid hb9
         have hlk : k < vl.length := by rw [HLvl.out]; exact hlt
         have hkz2 := catB_take_le vl (k + 1)
         have hnx0 : (A5 ++ catB (vl.take k)) ++ verbB ⟨v_name, v_meta, v_lines⟩ = (A5 ++ catB (vl.take (k + 1))) := by
          rw [catB_step vl k hlk, show vl[k] = verbB ⟨v_name, v_meta, v_lines⟩ from by rw [List.getElem?_eq_getElem hlk] at hpi; exact Option.some.inj hpi, ByteArray.append_assoc]
         have hxz : ((A5 ++ catB (vl.take k)) ++ verbB ⟨v_name, v_meta, v_lines⟩).size ≤ 1000000000000 := by
          rw [hnx0]
          have h1 := HZ6.out
          rw [ByteArray.size_append]
          omega
         have hln := fun (W : World) (hW : Below w.heap.size w W) => lines_sh F W ⟨v_name, v_meta, v_lines⟩ [.string v_name, .bool v_meta, .slice de2 v_lines.length fe2] (HF.out.below hW) hpr (Holds.below Holds.verb hx HF.out hW (Nat.le_refl _))
         have hnz : v_name.size ≤ 24 := isName_size hpr.1
         have hlz := linesV_sz hpr
         have hnx1 : (A5 ++ catB (vl.take k)) ++ (⟨#[118, 101, 114, 98, 32]⟩ ++ v_name) ++ (if v_meta = true then ⟨#[32, 109, 101, 116, 97]⟩ else ⟨#[]⟩) ++ (⟨#[32, 61, 32]⟩ ++ linesV ⟨v_name, v_meta, v_lines⟩ ++ ⟨#[59, 10]⟩) = (A5 ++ catB (vl.take (k + 1))) := by
          rw [← hnx0]; simp only [verbB, ByteArray.append_assoc]
         obtain ⟨lz, hll⟩ : ∃ z, linesV ⟨v_name, v_meta, v_lines⟩ = z := ⟨_, rfl⟩
         obtain ⟨mz, hmz⟩ : ∃ z : ByteArray, (if v_meta = true then ⟨#[32, 109, 101, 116, 97]⟩ else ⟨#[]⟩) = z := ⟨_, rfl⟩
         have hmzz : mz.size ≤ 5 := by rw [← hmz]; split <;> decide
         rw [hll, hmz] at hnx1
         rw [hll] at hlz
         simp only [hll] at hln
         have hak : (A5 ++ catB (vl.take k)).size ≤ 1000000000000 := by rw [ByteArray.size_append] at hxz; omega
         obtain ⟨Ak, hAk⟩ : ∃ B, (A5 ++ catB (vl.take k)) = B := ⟨_, rfl⟩
         rw [hAk] at hS hSe hnx1 hak
         obtain ⟨B1, hB1⟩ : ∃ B, Ak ++ (⟨#[118, 101, 114, 98, 32]⟩ ++ v_name) = B := ⟨_, rfl⟩
         obtain ⟨B2, hB2⟩ : ∃ B, B1 ++ mz = B := ⟨_, rfl⟩
         rw [hB1, hB2] at hnx1
         have e1 : (⟨#[118, 101, 114, 98, 32]⟩ : ByteArray).size = 5 := rfl
         have e2 : (⟨#[32, 61, 32]⟩ : ByteArray).size = 3 := rfl
         have e3 : (⟨#[59, 10]⟩ : ByteArray).size = 2 := rfl
         have e4 : (⟨#[32, 109, 101, 116, 97]⟩ : ByteArray).size = 5 := rfl
         have b1z : B1.size ≤ 1000000000100 := by rw [← hB1]; simp only [ByteArray.size_append, e1]; omega
         have b2z : B2.size ≤ 1000000000200 := by rw [← hB2]; simp only [ByteArray.size_append]; omega
         have HT9 : Hid (∀ W, StA W2 (w.heap.size + 1) ((wr.heap.size, [.string v_name, .bool v_meta, .slice de2 v_lines.length fe2], 67) :: [(w.heap.size, [.string x_title, .string x_author, .string x_start, .int .i64 x_release, .int .i64 x_most, .slice da5 x_flags.length fa5, .slice da6 x_props.length fa6, .slice da7 x_globals.length fa7, .slice da8 x_objects.length fa8, .slice (some ⟨bb, off, none⟩) x_verbs.length fa9, .slice da10 x_rules.length fa10, .slice da11 x_funcs.length fa11, .slice da12 x_daemons.length fa12], 29)]) Ak W → Calls Tryz.prog 37 #[.pointer (some ⟨w.heap.size + 1, 0, none⟩), .string (⟨#[118, 101, 114, 98, 32]⟩ ++ v_name)] W fun e w' => e = .returned (.tuple #[.int .i64 ((⟨#[118, 101, 114, 98, 32]⟩ ++ v_name) : ByteArray).size, .nilIface]) ∧ StA W2 (w.heap.size + 1) ((wr.heap.size, [.string v_name, .bool v_meta, .slice de2 v_lines.length fe2], 67) :: [(w.heap.size, [.string x_title, .string x_author, .string x_start, .int .i64 x_release, .int .i64 x_most, .slice da5 x_flags.length fa5, .slice da6 x_props.length fa6, .slice da7 x_globals.length fa7, .slice da8 x_objects.length fa8, .slice (some ⟨bb, off, none⟩) x_verbs.length fa9, .slice da10 x_rules.length fa10, .slice da11 x_funcs.length fa11, .slice da12 x_daemons.length fa12], 29)]) B1 w') := fun W h => by rw [← hB1]; exact h.text _ (by simp only [ByteArray.size_append, e1]; omega)
         have HTM : Hid (∀ W, StA W2 (w.heap.size + 1) ((wr.heap.size, [.string v_name, .bool v_meta, .slice de2 v_lines.length fe2], 67) :: [(w.heap.size, [.string x_title, .string x_author, .string x_start, .int .i64 x_release, .int .i64 x_most, .slice da5 x_flags.length fa5, .slice da6 x_props.length fa6, .slice da7 x_globals.length fa7, .slice da8 x_objects.length fa8, .slice (some ⟨bb, off, none⟩) x_verbs.length fa9, .slice da10 x_rules.length fa10, .slice da11 x_funcs.length fa11, .slice da12 x_daemons.length fa12], 29)]) B1 W → Calls Tryz.prog 37 #[.pointer (some ⟨w.heap.size + 1, 0, none⟩), .string ⟨#[32, 109, 101, 116, 97]⟩] W fun e w' => e = .returned (.tuple #[.int .i64 (⟨#[32, 109, 101, 116, 97]⟩ : ByteArray).size, .nilIface]) ∧ StA W2 (w.heap.size + 1) ((wr.heap.size, [.string v_name, .bool v_meta, .slice de2 v_lines.length fe2], 67) :: [(w.heap.size, [.string x_title, .string x_author, .string x_start, .int .i64 x_release, .int .i64 x_most, .slice da5 x_flags.length fa5, .slice da6 x_props.length fa6, .slice da7 x_globals.length fa7, .slice da8 x_objects.length fa8, .slice (some ⟨bb, off, none⟩) x_verbs.length fa9, .slice da10 x_rules.length fa10, .slice da11 x_funcs.length fa11, .slice da12 x_daemons.length fa12], 29)]) (B1 ++ ⟨#[32, 109, 101, 116, 97]⟩) w') := fun W h => h.text _ (by rw [e4]; omega)
         have HT3 : Hid (∀ W, StA W2 (w.heap.size + 1) ((wr.heap.size, [.string v_name, .bool v_meta, .slice de2 v_lines.length fe2], 67) :: [(w.heap.size, [.string x_title, .string x_author, .string x_start, .int .i64 x_release, .int .i64 x_most, .slice da5 x_flags.length fa5, .slice da6 x_props.length fa6, .slice da7 x_globals.length fa7, .slice da8 x_objects.length fa8, .slice (some ⟨bb, off, none⟩) x_verbs.length fa9, .slice da10 x_rules.length fa10, .slice da11 x_funcs.length fa11, .slice da12 x_daemons.length fa12], 29)]) B2 W → Calls Tryz.prog 37 #[.pointer (some ⟨w.heap.size + 1, 0, none⟩), .string (⟨#[32, 61, 32]⟩ ++ lz ++ ⟨#[59, 10]⟩)] W fun e w' => e = .returned (.tuple #[.int .i64 ((⟨#[32, 61, 32]⟩ ++ lz ++ ⟨#[59, 10]⟩) : ByteArray).size, .nilIface]) ∧ StA W2 (w.heap.size + 1) ((wr.heap.size, [.string v_name, .bool v_meta, .slice de2 v_lines.length fe2], 67) :: [(w.heap.size, [.string x_title, .string x_author, .string x_start, .int .i64 x_release, .int .i64 x_most, .slice da5 x_flags.length fa5, .slice da6 x_props.length fa6, .slice da7 x_globals.length fa7, .slice da8 x_objects.length fa8, .slice (some ⟨bb, off, none⟩) x_verbs.length fa9, .slice da10 x_rules.length fa10, .slice da11 x_funcs.length fa11, .slice da12 x_daemons.length fa12], 29)]) (B2 ++ (⟨#[32, 61, 32]⟩ ++ lz ++ ⟨#[59, 10]⟩)) w') := fun W h => h.text _ (by simp only [ByteArray.size_append, e2, e3]; omega)
         have HNX := Lib.hid hnx1; have HLN := Lib.hid hln; have HMZ := Lib.hid hmz; have HB2 := Lib.hid hB2
         clear ke2 hln hnx1 hll hmz hAk hB1 hB2 e1 e2 e3 e4
         have q := fun j => hS.cell w.heap.size [.string x_title, .string x_author, .string x_start, .int .i64 x_release, .int .i64 x_most, .slice da5 x_flags.length fa5, .slice da6 x_props.length fa6, .slice da7 x_globals.length fa7, .slice da8 x_objects.length fa8, .slice (some ⟨bb, off, none⟩) x_verbs.length fa9, .slice da10 x_rules.length fa10, .slice da11 x_funcs.length fa11, .slice da12 x_daemons.length fa12] 29 (by simp) j
         have g0 := q 0
         have g1 := q 1
         have g2 := q 2
         have g3 := q 3
         have g4 := q 4
         have g5 := q 5
         have g6 := q 6
         have g7 := q 7
         have g8 := q 8
         have g9 := q 9
         have g10 := q 10
         have g11 := q 11
         have g12 := q 12
         simp only [cqs, cqz] at g0 g1 g2 g3 g4 g5 g6 g7 g8 g9 g10 g11 g12
         clear q
         have HSE := Lib.hid hSe
         have HWE := Lib.hid hwe
         clear  hel hcell hx hpr hpi hpe hqt hFb hwe hSe hbe hb9 hlk hkz hkz2 hxz hnx0
         go_upto_region 23 with fail
         rw [HWE.out]
         clear q0' q1' q2' g0 g1 g2 g3 g4 g5 g6 g7 g8 g9 g10 g11 g12 hS
         have hS := HSE.out
         have q := fun j => hS.cell wr.heap.size [.string v_name, .bool v_meta, .slice de2 v_lines.length fe2] 67 (by simp) j
         have q0' := q 0
         have q1' := q 1
         have q2' := q 2
         simp only [cqs, cqz] at q0' q1' q2'
         clear q
         go_upto_if 99 with (go_at_call 37; (with_reducible refine (HT9.out _ hS).mono ?_); rintro e w4 ⟨rfl, hS2⟩; clear q0' q1' q2' hS; have hS := hS2; clear hS2; have q := fun j => hS.cell wr.heap.size [.string v_name, .bool v_meta, .slice de2 v_lines.length fe2] 67 (by simp) j; have q0' := q 0; have q1' := q 1; have q2' := q 2; simp only [cqs, cqz] at q0' q1' q2'; clear q)
         go_cut [] (fun wc => Hid (StA W2 (w.heap.size + 1) ((wr.heap.size, [.string v_name, .bool v_meta, .slice de2 v_lines.length fe2], 67) :: [(w.heap.size, [.string x_title, .string x_author, .string x_start, .int .i64 x_release, .int .i64 x_most, .slice da5 x_flags.length fa5, .slice da6 x_props.length fa6, .slice da7 x_globals.length fa7, .slice da8 x_objects.length fa8, .slice (some ⟨bb, off, none⟩) x_verbs.length fa9, .slice da10 x_rules.length fa10, .slice da11 x_funcs.length fa11, .slice da12 x_daemons.length fa12], 29)]) B2 wc))
         case first =>
          cases v_meta
          · have hk2 : Hid (mz = ⟨#[]⟩) := Lib.hid (by have h := HMZ.out; simp only [Bool.false_eq_true, if_false] at h; exact h.symm)
            go_wp2_with fail
            go_meet
            exact hS.same (by rw [← HB2.out, hk2.out, app_emp])
          have hk2 : Hid (mz = ⟨#[32, 109, 101, 116, 97]⟩) := Lib.hid (by have h := HMZ.out; simp only [if_true] at h; exact h.symm)
          go_wp2_with (go_at_call 37; (with_reducible refine (HTM.out _ hS).mono ?_); rintro e w5 ⟨rfl, hS2⟩)
          go_meet
          exact hS2.same (by rw [← HB2.out, hk2.out])
         case rest =>
          clear q0' q1' q2' hS
          have hS := hcut.out
          clear hcut HB2 HMZ
          have q := fun j => hS.cell wr.heap.size [.string v_name, .bool v_meta, .slice de2 v_lines.length fe2] 67 (by simp) j
          have q0' := q 0
          have q1' := q 1
          have q2' := q 2
          simp only [cqs, cqz] at q0' q1' q2'
          clear q
          have hqt := HKW.out _ _ _ hS
          go_wp2_with (first | (go_at_call 44; (with_reducible refine (HLN.out _ hqt).mono ?_); rintro e w5 ⟨rfl, hb5⟩; have hS5 := hS.below hb5; clear hb5) | (go_at_call 37; (with_reducible refine (HT3.out _ hS5).mono ?_); rintro e w6 ⟨rfl, hS6⟩))
          go_roundw
          case rel => exact ⟨k + 1, by omega, by go_num, (hS6.same HNX.out).sub (fun t ht => List.mem_cons_of_mem _ ht)⟩
          case measure => simp [intOf]; omega
       have : k = x_verbs.length := by omega
       subst this
       have hki : decide ((x_verbs.length : Int) < (x_verbs.length : Int)) = false := by simp
       have hS2 := hS.same (show (A5 ++ catB (vl.take x_verbs.length)) = A6 by rw [List.take_of_length_le (by rw [HLvl.out]; exact Nat.le_refl _), HA6.out])
       clear hS hkz HR9 HIvl H9
       have hS := hS2
       clear hS2
       have q := fun j => hS.cell w.heap.size [.string x_title, .string x_author, .string x_start, .int .i64 x_release, .int .i64 x_most, .slice da5 x_flags.length fa5, .slice da6 x_props.length fa6, .slice da7 x_globals.length fa7, .slice da8 x_objects.length fa8, .slice da9 x_verbs.length fa9, .slice da10 x_rules.length fa10, .slice da11 x_funcs.length fa11, .slice da12 x_daemons.length fa12] 29 (by simp) j
       have g0 := q 0
       have g1 := q 1
       have g2 := q 2
       have g3 := q 3
       have g4 := q 4
       have g5 := q 5
       have g6 := q 6
       have g7 := q 7
       have g8 := q 8
       have g9 := q 9
       have g10 := q 10
       have g11 := q 11
       have g12 := q 12
       simp only [cqs, cqz] at g0 g1 g2 g3 g4 g5 g6 g7 g8 g9 g10 g11 g12
       clear q
       go_wp2_with fail
       go_loopw [110] (fun i wr => ∃ k : Nat, k ≤ x_rules.length ∧ i = .int .i64 k ∧ Hid (StA W2 (w.heap.size + 1) [(w.heap.size, [.string x_title, .string x_author, .string x_start, .int .i64 x_release, .int .i64 x_most, .slice da5 x_flags.length fa5, .slice da6 x_props.length fa6, .slice da7 x_globals.length fa7, .slice da8 x_objects.length fa8, .slice da9 x_verbs.length fa9, .slice da10 x_rules.length fa10, .slice da11 x_funcs.length fa11, .slice da12 x_daemons.length fa12], 29)] (A6 ++ catB (rl.take k)) wr)) (fun i _ => x_rules.length - (intOf i).toNat)
       case atStart => exact ⟨0, Nat.zero_le _, rfl, hS.same (by simp [catB, app_emp])⟩
       case round =>
        clear g0 g1 g2 g3 g4 g5 g6 g7 g8 g9 g10 g11 g12 hS
        obtain ⟨k, hk, rfl, hS⟩ := hrel
        have hS := hS.out
        have hkz := catB_take_le rl k
        by_cases hlt : k < x_rules.length
        · have hqt := HKW.out _ _ _ hS
          obtain ⟨bb, off, rfl, hFb, hel⟩ := H10.out (by omega)
          obtain ⟨cs, hx, -, hcell⟩ := hel wr (hqt.block bb (HF.out bb hFb)) k hlt
          have hpr := HR10.out.2 _ (List.getElem_mem hlt)
          have hpi := HIrl.out k hlt
          obtain ⟨p, hpe⟩ : ∃ p, x_rules[k] = p := ⟨_, rfl⟩
          rw [hpe] at hx hpr hpi
          obtain ⟨q_verb, q_phase, q_noun, q_second, q_cond, q_body⟩ := p
          have hx2 := hx
          obtain ⟨-, -, -, -, ve4, ve5, rfl, ke4, ke5⟩ := hx2
          simp only at ke4 ke5
          obtain ⟨de4, fe4, rfl⟩ := ke4.shape
          obtain ⟨de5, fe5, rfl⟩ := ke5.shape
          simp only at hpr hcell hx
          have q0' := hcell 0 _ rfl
          have q1' := hcell 1 _ rfl
          have q2' := hcell 2 _ rfl
          have q3' := hcell 3 _ rfl
          have q4' := hcell 4 _ rfl
          have q5' := hcell 5 _ rfl
          simp only [Nat.add_zero] at q0'
          have hki : (k : Int) < (x_rules.length : Int) := by omega
          have hki0 : (0 : Int) ≤ (k : Int) := by omega
          obtain ⟨we, hwe⟩ : ∃ we, wr.alloc (.cells #[.string q_verb, .int .i64 q_phase, .string q_noun, .string q_second, .slice de4 q_cond.length fe4, .slice de5 q_body.length fe5] 70) = we := ⟨_, rfl⟩
          have hSe := hS.add [.string q_verb, .int .i64 q_phase, .string q_noun, .string q_second, .slice de4 q_cond.length fe4, .slice de5 q_body.length fe5] 70 (by decide)
          rw [hwe] at hSe
          have hbe := ba' hwe
          have hb9 := bt hqt hbe
          have HB9 := Lib.hid hb9
          have hlk : k < rl.length := by rw [HLrl.out]; exact hlt
          have hkz2 := catB_take_le rl (k + 1)
          have hnx0 : (A6 ++ catB (rl.take k)) ++ ruleT ⟨q_verb, q_phase, q_noun, q_second, q_cond, q_body⟩ = (A6 ++ catB (rl.take (k + 1))) := by
           rw [catB_step rl k hlk, show rl[k] = ruleT ⟨q_verb, q_phase, q_noun, q_second, q_cond, q_body⟩ from by rw [List.getElem?_eq_getElem hlk] at hpi; exact Option.some.inj hpi, ByteArray.append_assoc]
          have hxz : ((A6 ++ catB (rl.take k)) ++ ruleT ⟨q_verb, q_phase, q_noun, q_second, q_cond, q_body⟩).size ≤ 1000000000000 := by
           rw [hnx0]
           have h1 := HZ7.out
           rw [ByteArray.size_append]
           omega
          obtain ⟨hrv, hp1, hp3, hrn, hrs, hrc, hrb⟩ := hpr
          dsimp only at hrv hp1 hp3 hrn hrs hrc hrb
          have hzn := maybe_sz hrn
          have hzs := maybe_sz hrs
          have hnx1 : (A6 ++ catB (rl.take k)) ++ (phaseB q_phase ++ q_verb ++ whichB q_noun q_second ++ condB q_cond ++ ⟨#[32]⟩ ++ St.blk q_body 0 ++ ⟨#[10]⟩) = (A6 ++ catB (rl.take (k + 1))) := hnx0
          rw [ByteArray.size_append] at hxz
          have hak : (A6 ++ catB (rl.take k)).size ≤ 1000000000000 := by omega
          simp only [ruleT, ByteArray.size_append] at hxz
          have hczz : (condB q_cond).size ≤ 1000000000000 := by omega
          have hbzz : (St.blk q_body 0).size ≤ 1000000000000 := by omega
          have hPH := fun (W : World) (_ : Below we.heap.size we W) => phase_calls q_phase W
          have hWH := fun (W : World) (hW : Below we.heap.size we W) => which_calls F W ⟨q_verb, q_phase, q_noun, q_second, q_cond, q_body⟩ [.string q_verb, .int .i64 q_phase, .string q_noun, .string q_second, .slice de4 q_cond.length fe4, .slice de5 q_body.length fe5] (Holds.below Holds.rule hx HF.out (bt HB9.out hW) (Nat.le_refl _)) (by show q_noun.size ≤ _; omega) (by show q_second.size ≤ _; omega)
          dsimp only at hWH
          have hCN := fun (W : World) (hW : Below we.heap.size we W) => cond_calls q_cond F W _ (HF.out.below (bt HB9.out hW)) (HTB.out.below (bt HB9.out hW) (Nat.le_refl _)) (by have := hrc.1; omega) (fun e he => right_src (hrc.2 e he)) hczz (ke4.below HF.out (bt HB9.out hW) (Nat.le_refl _))
          have hBK := fun (W : World) (hW : Below we.heap.size we W) => blkAllT_calls q_body F W _ (0 : Int) (HF.out.below (bt HB9.out hW)) (HTB.out.below (bt HB9.out hW) (Nat.le_refl _)) (rightB_ok hrb) (by show (St.blk q_body 0).size ≤ _; exact hbzz) (ke5.below HF.out (bt HB9.out hW) (Nat.le_refl _))
          have hc0 : clip (0 : Int) = 0 := rfl
          simp only [hc0] at hBK
          have hzv := isName_size hrv
          have hzp := phaseB_size q_phase
          have hzw := whichB_size q_noun q_second
          obtain ⟨pz, hpz⟩ : ∃ z, phaseB q_phase = z := ⟨_, rfl⟩
          obtain ⟨wz, hwz⟩ : ∃ z, whichB q_noun q_second = z := ⟨_, rfl⟩
          obtain ⟨cz, hcz⟩ : ∃ z, condB q_cond = z := ⟨_, rfl⟩
          obtain ⟨bz, hbz⟩ : ∃ z, St.blk q_body 0 = z := ⟨_, rfl⟩
          simp only [hpz] at hPH hzp hnx1; simp only [hwz] at hWH hzw hnx1; simp only [hcz] at hCN hczz hnx1; simp only [hbz] at hBK hbzz hnx1
          obtain ⟨Ak, hAk⟩ : ∃ B, (A6 ++ catB (rl.take k)) = B := ⟨_, rfl⟩
          rw [hAk] at hS hSe hnx1 hak
          have HT9 : Hid (∀ W, StA W2 (w.heap.size + 1) ((wr.heap.size, [.string q_verb, .int .i64 q_phase, .string q_noun, .string q_second, .slice de4 q_cond.length fe4, .slice de5 q_body.length fe5], 70) :: [(w.heap.size, [.string x_title, .string x_author, .string x_start, .int .i64 x_release, .int .i64 x_most, .slice da5 x_flags.length fa5, .slice da6 x_props.length fa6, .slice da7 x_globals.length fa7, .slice da8 x_objects.length fa8, .slice da9 x_verbs.length fa9, .slice (some ⟨bb, off, none⟩) x_rules.length fa10, .slice da11 x_funcs.length fa11, .slice da12 x_daemons.length fa12], 29)]) Ak W → Calls Tryz.prog 37 #[.pointer (some ⟨w.heap.size + 1, 0, none⟩), .string (pz ++ q_verb ++ wz ++ cz ++ ⟨#[32]⟩ ++ bz ++ ⟨#[10]⟩)] W fun e w' => e = .returned (.tuple #[.int .i64 ((pz ++ q_verb ++ wz ++ cz ++ ⟨#[32]⟩ ++ bz ++ ⟨#[10]⟩) : ByteArray).size, .nilIface]) ∧ StA W2 (w.heap.size + 1) ((wr.heap.size, [.string q_verb, .int .i64 q_phase, .string q_noun, .string q_second, .slice de4 q_cond.length fe4, .slice de5 q_body.length fe5], 70) :: [(w.heap.size, [.string x_title, .string x_author, .string x_start, .int .i64 x_release, .int .i64 x_most, .slice da5 x_flags.length fa5, .slice da6 x_props.length fa6, .slice da7 x_globals.length fa7, .slice da8 x_objects.length fa8, .slice da9 x_verbs.length fa9, .slice (some ⟨bb, off, none⟩) x_rules.length fa10, .slice da11 x_funcs.length fa11, .slice da12 x_daemons.length fa12], 29)]) (Ak ++ (pz ++ q_verb ++ wz ++ cz ++ ⟨#[32]⟩ ++ bz ++ ⟨#[10]⟩)) w') := fun W h => h.text _ (by
           have e1 : (⟨#[32]⟩ : ByteArray).size = 1 := rfl
           have e2 : (⟨#[10]⟩ : ByteArray).size = 1 := rfl
           simp only [ByteArray.size_append, e1, e2]
           omega)
          have HNX := Lib.hid hnx1; have HPH := Lib.hid hPH; have HWH := Lib.hid hWH; have HCN := Lib.hid hCN; have HBK := Lib.hid hBK
          clear ke4 ke5 hnx1 hPH hWH hCN hBK hpz hwz hcz hbz hAk hp1 hp3 hrn hrs hrc hrb hrv hc0
          have q := fun j => hS.cell w.heap.size [.string x_title, .string x_author, .string x_start, .int .i64 x_release, .int .i64 x_most, .slice da5 x_flags.length fa5, .slice da6 x_props.length fa6, .slice da7 x_globals.length fa7, .slice da8 x_objects.length fa8, .slice da9 x_verbs.length fa9, .slice (some ⟨bb, off, none⟩) x_rules.length fa10, .slice da11 x_funcs.length fa11, .slice da12 x_daemons.length fa12] 29 (by simp) j
          have g0 := q 0
          have g1 := q 1
          have g2 := q 2
          have g3 := q 3
          have g4 := q 4
          have g5 := q 5
          have g6 := q 6
          have g7 := q 7
          have g8 := q 8
          have g9 := q 9
          have g10 := q 10
          have g11 := q 11
          have g12 := q 12
          simp only [cqs, cqz] at g0 g1 g2 g3 g4 g5 g6 g7 g8 g9 g10 g11 g12
          clear q
          have HSE := Lib.hid hSe
          have HWE := Lib.hid hwe
          clear hel hcell hx hpi hpe hqt hFb hwe hSe hbe hb9 hlk hkz hkz2 hxz hnx0
          go_upto_region 31 with fail
          rw [HWE.out]
          clear q0' q1' q2' q3' q4' q5' g0 g1 g2 g3 g4 g5 g6 g7 g8 g9 g10 g11 g12 hS
          have hS := HSE.out
          have q := fun j => hS.cell wr.heap.size [.string q_verb, .int .i64 q_phase, .string q_noun, .string q_second, .slice de4 q_cond.length fe4, .slice de5 q_body.length fe5] 70 (by simp) j
          have q0' := q 0
          have q1' := q 1
          have q2' := q 2
          have q3' := q 3
          have q4' := q 4
          have q5' := q 5
          simp only [cqs, cqz] at q0' q1' q2' q3' q4' q5'
          clear q
          have K := @rg' Tryz.prog we
          have HK1 := Lib.hid (K HPH.out)
          have HK2 := Lib.hid (K HWH.out)
          have HK3 := Lib.hid (K HCN.out)
          have HK4 := Lib.hid (K HBK.out)
          clear K
          have zq0' := fun d os => cell_regrown q0' d os
          have zq1' := fun d os => cell_regrown q1' d os
          have zq2' := fun d os => cell_regrown q2' d os
          have zq3' := fun d os => cell_regrown q3' d os
          have zq4' := fun d os => cell_regrown q4' d os
          have zq5' := fun d os => cell_regrown q5' d os
          refine wp_region_quiet_last_below 19 (by kernel_rfl) rfl rfl (by kernel_rfl) ?_
          simp only [List.dropLast]
          repeat (go_big_quiet_step (first | with_reducible exact HK1.out _ | with_reducible exact HK2.out _ | with_reducible exact HK3.out _ | with_reducible exact HK4.out _))
          refine wpQuiet_nil ?_
          intro wq hbq
          clear zq0' zq1' zq2' zq3' zq4' zq5' HK1 HK2 HK3 HK4
          have hS5 := hS.below hbq
          clear q0' q1' q2' q3' q4' q5' hS
          go_wp2_with (go_at_call 37; (with_reducible refine (HT9.out _ hS5).mono ?_); rintro e w6 ⟨rfl, hS6⟩)
          go_roundw
          case rel => exact ⟨k + 1, by omega, by go_num, (hS6.same HNX.out).sub (fun t ht => List.mem_cons_of_mem _ ht)⟩
          case measure => simp [intOf]; omega
        have : k = x_rules.length := by omega
        subst this
        have hki : decide ((x_rules.length : Int) < (x_rules.length : Int)) = false := by simp
        have hS2 := hS.same (show (A6 ++ catB (rl.take x_rules.length)) = A7 by rw [List.take_of_length_le (by rw [HLrl.out]; exact Nat.le_refl _), HA7.out])
        clear hS hkz HR10 HIrl H10
        have hS := hS2
        clear hS2
        have q := fun j => hS.cell w.heap.size [.string x_title, .string x_author, .string x_start, .int .i64 x_release, .int .i64 x_most, .slice da5 x_flags.length fa5, .slice da6 x_props.length fa6, .slice da7 x_globals.length fa7, .slice da8 x_objects.length fa8, .slice da9 x_verbs.length fa9, .slice da10 x_rules.length fa10, .slice da11 x_funcs.length fa11, .slice da12 x_daemons.length fa12] 29 (by simp) j
        have g0 := q 0
        have g1 := q 1
        have g2 := q 2
        have g3 := q 3
        have g4 := q 4
        have g5 := q 5
        have g6 := q 6
        have g7 := q 7
        have g8 := q 8
        have g9 := q 9
        have g10 := q 10
        have g11 := q 11
        have g12 := q 12
        simp only [cqs, cqz] at g0 g1 g2 g3 g4 g5 g6 g7 g8 g9 g10 g11 g12
        clear q
        go_wp2_with fail
        go_loopw [138] (fun i wr => ∃ k : Nat, k ≤ x_funcs.length ∧ i = .int .i64 k ∧ Hid (StA W2 (w.heap.size + 1) [(w.heap.size, [.string x_title, .string x_author, .string x_start, .int .i64 x_release, .int .i64 x_most, .slice da5 x_flags.length fa5, .slice da6 x_props.length fa6, .slice da7 x_globals.length fa7, .slice da8 x_objects.length fa8, .slice da9 x_verbs.length fa9, .slice da10 x_rules.length fa10, .slice da11 x_funcs.length fa11, .slice da12 x_daemons.length fa12], 29)] (A7 ++ catB (fl.take k)) wr)) (fun i _ => x_funcs.length - (intOf i).toNat)
        case atStart => exact ⟨0, Nat.zero_le _, rfl, hS.same (by simp [catB, app_emp])⟩
        case round =>
         clear g0 g1 g2 g3 g4 g5 g6 g7 g8 g9 g10 g11 g12 hS
         obtain ⟨k, hk, rfl, hS⟩ := hrel
         have hS := hS.out
         have hkz := catB_take_le fl k
         by_cases hlt : k < x_funcs.length
         · have hqt := HKW.out _ _ _ hS
           obtain ⟨bb, off, rfl, hFb, hel⟩ := H11.out (by omega)
           obtain ⟨cs, hx, -, hcell⟩ := hel wr (hqt.block bb (HF.out bb hFb)) k hlt
           have hpr := HR11.out.2 _ (List.getElem_mem hlt)
           have hpi := HIfl.out k hlt
           obtain ⟨p, hpe⟩ : ∃ p, x_funcs[k] = p := ⟨_, rfl⟩
           rw [hpe] at hx hpr hpi
           obtain ⟨f_name, f_params, f_body⟩ := p
           have hx2 := hx
           obtain ⟨-, ve1, ve2, rfl, ke1, ke2⟩ := hx2
           simp only at ke1 ke2
           obtain ⟨de1, fe1, rfl⟩ := ke1.shape
           obtain ⟨de2, fe2, rfl⟩ := ke2.shape
           simp only at hpr hcell hx
           have q0' := hcell 0 _ rfl
           have q1' := hcell 1 _ rfl
           have q2' := hcell 2 _ rfl
           simp only [Nat.add_zero] at q0'
           have hki : (k : Int) < (x_funcs.length : Int) := by omega
           have hki0 : (0 : Int) ≤ (k : Int) := by omega
           obtain ⟨we, hwe⟩ : ∃ we, wr.alloc (.cells #[.string f_name, .slice de1 f_params.length fe1, .slice de2 f_body.length fe2] 91) = we := ⟨_, rfl⟩
           have hSe := hS.add [.string f_name, .slice de1 f_params.length fe1, .slice de2 f_body.length fe2] 91 (by decide)
           rw [hwe] at hSe
           have hbe := ba' hwe
           have hb9 := bt hqt hbe
           have HB9 := Lib.hid hb9
           have hlk : k < fl.length := by rw [HLfl.out]; exact hlt
           have hkz2 := catB_take_le fl (k + 1)
           have hnx0 : (A7 ++ catB (fl.take k)) ++ funB ⟨f_name, f_params, f_body⟩ = (A7 ++ catB (fl.take (k + 1))) := by
            rw [catB_step fl k hlk, show fl[k] = funB ⟨f_name, f_params, f_body⟩ from by rw [List.getElem?_eq_getElem hlk] at hpi; exact Option.some.inj hpi, ByteArray.append_assoc]
           have hxz : ((A7 ++ catB (fl.take k)) ++ funB ⟨f_name, f_params, f_body⟩).size ≤ 1000000000000 := by
            rw [hnx0]
            have h1 := HZ8.out
            rw [ByteArray.size_append]
            omega
           obtain ⟨hrn, hrp, hrb⟩ := hpr
           dsimp only at hrn hrp hrb
           have hnx1 : (A7 ++ catB (fl.take k)) ++ (⟨#[102, 117, 110, 99, 32]⟩ ++ f_name ++ ⟨#[40]⟩ ++ sepB comma f_params ++ ⟨#[41, 32]⟩ ++ St.blk f_body 0 ++ ⟨#[10]⟩) = (A7 ++ catB (fl.take (k + 1))) := hnx0
           rw [ByteArray.size_append] at hxz
           have hak : (A7 ++ catB (fl.take k)).size ≤ 1000000000000 := by omega
           simp only [funB, ByteArray.size_append] at hxz
           have hbzz : (St.blk f_body 0).size ≤ 1000000000000 := by omega
           have hRP := fun (W : World) (hW : Below we.heap.size we W) => rowNames F W f_params comma _ (HF.out.below (bt HB9.out hW)) (ke1.below HF.out (bt HB9.out hW) (Nat.le_refl _)) (by have := hrp.1; omega) hrp.2 (by decide)
           have hzp := names_sz comma (by decide) (m := 8) (by have := hrp.1; omega) hrp.2
           have hBK := fun (W : World) (hW : Below we.heap.size we W) => blkAllT_calls f_body F W _ (0 : Int) (HF.out.below (bt HB9.out hW)) (HTB.out.below (bt HB9.out hW) (Nat.le_refl _)) (rightB_ok hrb) (by show (St.blk f_body 0).size ≤ _; exact hbzz) (ke2.below HF.out (bt HB9.out hW) (Nat.le_refl _))
           have hc0 : clip (0 : Int) = 0 := rfl
           simp only [hc0] at hBK
           have hzv := isName_size hrn
           obtain ⟨pz, hpz⟩ : ∃ z, sepB comma f_params = z := ⟨_, rfl⟩
           simp only [hpz] at hRP hzp hnx1
           obtain ⟨bz, hbz⟩ : ∃ z, St.blk f_body 0 = z := ⟨_, rfl⟩
           simp only [hbz] at hBK hbzz hnx1
           obtain ⟨Ak, hAk⟩ : ∃ B, (A7 ++ catB (fl.take k)) = B := ⟨_, rfl⟩
           rw [hAk] at hS hSe hnx1 hak
           have HT9 : Hid (∀ W, StA W2 (w.heap.size + 1) ((wr.heap.size, [.string f_name, .slice de1 f_params.length fe1, .slice de2 f_body.length fe2], 91) :: [(w.heap.size, [.string x_title, .string x_author, .string x_start, .int .i64 x_release, .int .i64 x_most, .slice da5 x_flags.length fa5, .slice da6 x_props.length fa6, .slice da7 x_globals.length fa7, .slice da8 x_objects.length fa8, .slice da9 x_verbs.length fa9, .slice da10 x_rules.length fa10, .slice (some ⟨bb, off, none⟩) x_funcs.length fa11, .slice da12 x_daemons.length fa12], 29)]) Ak W → Calls Tryz.prog 37 #[.pointer (some ⟨w.heap.size + 1, 0, none⟩), .string (⟨#[102, 117, 110, 99, 32]⟩ ++ f_name ++ ⟨#[40]⟩ ++ pz ++ ⟨#[41, 32]⟩ ++ bz ++ ⟨#[10]⟩)] W fun e w' => e = .returned (.tuple #[.int .i64 ((⟨#[102, 117, 110, 99, 32]⟩ ++ f_name ++ ⟨#[40]⟩ ++ pz ++ ⟨#[41, 32]⟩ ++ bz ++ ⟨#[10]⟩) : ByteArray).size, .nilIface]) ∧ StA W2 (w.heap.size + 1) ((wr.heap.size, [.string f_name, .slice de1 f_params.length fe1, .slice de2 f_body.length fe2], 91) :: [(w.heap.size, [.string x_title, .string x_author, .string x_start, .int .i64 x_release, .int .i64 x_most, .slice da5 x_flags.length fa5, .slice da6 x_props.length fa6, .slice da7 x_globals.length fa7, .slice da8 x_objects.length fa8, .slice da9 x_verbs.length fa9, .slice da10 x_rules.length fa10, .slice (some ⟨bb, off, none⟩) x_funcs.length fa11, .slice da12 x_daemons.length fa12], 29)]) (Ak ++ (⟨#[102, 117, 110, 99, 32]⟩ ++ f_name ++ ⟨#[40]⟩ ++ pz ++ ⟨#[41, 32]⟩ ++ bz ++ ⟨#[10]⟩)) w') := fun W h => h.text _ (by
            have e1 : (⟨#[102, 117, 110, 99, 32]⟩ : ByteArray).size = 5 := rfl
            have e2 : (⟨#[10]⟩ : ByteArray).size = 1 := rfl
            have e3 : (⟨#[40]⟩ : ByteArray).size = 1 := rfl
            have e4 : (⟨#[41, 32]⟩ : ByteArray).size = 2 := rfl
            simp only [ByteArray.size_append, e1, e2, e3, e4]
            omega)
           have HNX := Lib.hid hnx1; have HBK := Lib.hid hBK; have HRP := Lib.hid hRP
           clear ke1 ke2 hnx1 hBK hbz hAk hrn hrp hrb hc0 hRP hpz
           have q := fun j => hS.cell w.heap.size [.string x_title, .string x_author, .string x_start, .int .i64 x_release, .int .i64 x_most, .slice da5 x_flags.length fa5, .slice da6 x_props.length fa6, .slice da7 x_globals.length fa7, .slice da8 x_objects.length fa8, .slice da9 x_verbs.length fa9, .slice da10 x_rules.length fa10, .slice (some ⟨bb, off, none⟩) x_funcs.length fa11, .slice da12 x_daemons.length fa12] 29 (by simp) j
           have g0 := q 0
           have g1 := q 1
           have g2 := q 2
           have g3 := q 3
           have g4 := q 4
           have g5 := q 5
           have g6 := q 6
           have g7 := q 7
           have g8 := q 8
           have g9 := q 9
           have g10 := q 10
           have g11 := q 11
           have g12 := q 12
           simp only [cqs, cqz] at g0 g1 g2 g3 g4 g5 g6 g7 g8 g9 g10 g11 g12
           clear q
           have HSE := Lib.hid hSe
           have HWE := Lib.hid hwe
           clear hel hcell hx hpi hpe hqt hFb hwe hSe hbe hb9 hlk hkz hkz2 hxz hnx0
           go_upto_region 36 with fail
           rw [HWE.out]
           clear q0' q1' q2' g0 g1 g2 g3 g4 g5 g6 g7 g8 g9 g10 g11 g12 hS
           have hS := HSE.out
           have q := fun j => hS.cell wr.heap.size [.string f_name, .slice de1 f_params.length fe1, .slice de2 f_body.length fe2] 91 (by simp) j
           have q0' := q 0
           have q1' := q 1
           have q2' := q 2
           simp only [cqs, cqz] at q0' q1' q2'
           clear q
           have K := @rg' Tryz.prog we
           have HK1 := Lib.hid (K HRP.out)
           have HK4 := Lib.hid (K HBK.out)
           clear K
           have zq0' := fun d os => cell_regrown q0' d os
           have zq1' := fun d os => cell_regrown q1' d os
           have zq2' := fun d os => cell_regrown q2' d os
           refine wp_region_quiet_last_below 14 (by kernel_rfl) rfl rfl (by kernel_rfl) ?_
           simp only [List.dropLast]
           repeat (go_big_quiet_step (first | with_reducible exact HK1.out _ | with_reducible exact HK4.out _))
           refine wpQuiet_nil ?_
           intro wq hbq
           clear zq0' zq1' zq2' HK1 HK4
           have hS5 := hS.below hbq
           clear q0' q1' q2' hS
           go_wp2_with (go_at_call 37; (with_reducible refine (HT9.out _ hS5).mono ?_); rintro e w6 ⟨rfl, hS6⟩)
           go_roundw
           case rel => exact ⟨k + 1, by omega, by go_num, (hS6.same HNX.out).sub (fun t ht => List.mem_cons_of_mem _ ht)⟩
           case measure => simp [intOf]; omega
         have : k = x_funcs.length := by omega
         subst this
         have hki : decide ((x_funcs.length : Int) < (x_funcs.length : Int)) = false := by simp
         have hS2 := hS.same (show (A7 ++ catB (fl.take x_funcs.length)) = A8 by rw [List.take_of_length_le (by rw [HLfl.out]; exact Nat.le_refl _), HA8.out])
         clear hS hkz HR11 HIfl H11
         have hS := hS2
         clear hS2
         have q := fun j => hS.cell w.heap.size [.string x_title, .string x_author, .string x_start, .int .i64 x_release, .int .i64 x_most, .slice da5 x_flags.length fa5, .slice da6 x_props.length fa6, .slice da7 x_globals.length fa7, .slice da8 x_objects.length fa8, .slice da9 x_verbs.length fa9, .slice da10 x_rules.length fa10, .slice da11 x_funcs.length fa11, .slice da12 x_daemons.length fa12] 29 (by simp) j
         have g0 := q 0
         have g1 := q 1
         have g2 := q 2
         have g3 := q 3
         have g4 := q 4
         have g5 := q 5
         have g6 := q 6
         have g7 := q 7
         have g8 := q 8
         have g9 := q 9
         have g10 := q 10
         have g11 := q 11
         have g12 := q 12
         simp only [cqs, cqz] at g0 g1 g2 g3 g4 g5 g6 g7 g8 g9 g10 g11 g12
         clear q
         go_wp2_with fail
         go_loopw [161] (fun i wr => ∃ k : Nat, k ≤ x_daemons.length ∧ i = .int .i64 k ∧ Hid (StA W2 (w.heap.size + 1) [(w.heap.size, [.string x_title, .string x_author, .string x_start, .int .i64 x_release, .int .i64 x_most, .slice da5 x_flags.length fa5, .slice da6 x_props.length fa6, .slice da7 x_globals.length fa7, .slice da8 x_objects.length fa8, .slice da9 x_verbs.length fa9, .slice da10 x_rules.length fa10, .slice da11 x_funcs.length fa11, .slice da12 x_daemons.length fa12], 29)] (A8 ++ catB (dl.take k)) wr)) (fun i _ => x_daemons.length - (intOf i).toNat)
         case atStart => exact ⟨0, Nat.zero_le _, rfl, hS.same (by simp [catB, app_emp])⟩
         case round =>
          clear g0 g1 g2 g3 g4 g5 g6 g7 g8 g9 g10 g11 g12 hS
          obtain ⟨k, hk, rfl, hS⟩ := hrel
          have hS := hS.out
          have hkz := catB_take_le dl k
          by_cases hlt : k < x_daemons.length
          · have hqt := HKW.out _ _ _ hS
            obtain ⟨bb, off, rfl, hFb, hel⟩ := H12.out (by omega)
            obtain ⟨cs, hx, -, hcell⟩ := hel wr (hqt.block bb (HF.out bb hFb)) k hlt
            have hpr := HR12.out.2 _ (List.getElem_mem hlt)
            have hpi := HIdl.out k hlt
            obtain ⟨p, hpe⟩ : ∃ p, x_daemons[k] = p := ⟨_, rfl⟩
            rw [hpe] at hx hpr hpi
            obtain ⟨f_name, f_params, f_body⟩ := p
            have hx2 := hx
            obtain ⟨-, ve1, ve2, rfl, ke1, ke2⟩ := hx2
            simp only at ke1 ke2
            obtain ⟨de1, fe1, rfl⟩ := ke1.shape
            obtain ⟨de2, fe2, rfl⟩ := ke2.shape
            simp only at hpr hcell hx
            have q0' := hcell 0 _ rfl
            have q1' := hcell 1 _ rfl
            have q2' := hcell 2 _ rfl
            simp only [Nat.add_zero] at q0'
            have hki : (k : Int) < (x_daemons.length : Int) := by omega
            have hki0 : (0 : Int) ≤ (k : Int) := by omega
            obtain ⟨we, hwe⟩ : ∃ we, wr.alloc (.cells #[.string f_name, .slice de1 f_params.length fe1, .slice de2 f_body.length fe2] 91) = we := ⟨_, rfl⟩
            have hSe := hS.add [.string f_name, .slice de1 f_params.length fe1, .slice de2 f_body.length fe2] 91 (by decide)
            rw [hwe] at hSe
            have hbe := ba' hwe
            have hb9 := bt hqt hbe
            have HB9 := Lib.hid hb9
            have hlk : k < dl.length := by rw [HLdl.out]; exact hlt
            have hkz2 := catB_take_le dl (k + 1)
            have hnx0 : (A8 ++ catB (dl.take k)) ++ daeB ⟨f_name, f_params, f_body⟩ = (A8 ++ catB (dl.take (k + 1))) := by
             rw [catB_step dl k hlk, show dl[k] = daeB ⟨f_name, f_params, f_body⟩ from by rw [List.getElem?_eq_getElem hlk] at hpi; exact Option.some.inj hpi, ByteArray.append_assoc]
            have hxz : ((A8 ++ catB (dl.take k)) ++ daeB ⟨f_name, f_params, f_body⟩).size ≤ 1000000000000 := by
             rw [hnx0]
             have h1 := HZ9.out
             rw [ByteArray.size_append]
             omega
            rw [dae_iff] at hpr
            obtain ⟨hrn, hrp, hrb⟩ := hpr
            dsimp only at hrn hrp hrb
            have hnx1 : (A8 ++ catB (dl.take k)) ++ (⟨#[100, 97, 101, 109, 111, 110, 32]⟩ ++ f_name ++ ⟨#[32]⟩ ++ St.blk f_body 0 ++ ⟨#[10]⟩) = (A8 ++ catB (dl.take (k + 1))) := hnx0
            rw [ByteArray.size_append] at hxz
            have hak : (A8 ++ catB (dl.take k)).size ≤ 1000000000000 := by omega
            simp only [daeB, ByteArray.size_append] at hxz
            have hbzz : (St.blk f_body 0).size ≤ 1000000000000 := by omega
            have hBK := fun (W : World) (hW : Below we.heap.size we W) => blkAllT_calls f_body F W _ (0 : Int) (HF.out.below (bt HB9.out hW)) (HTB.out.below (bt HB9.out hW) (Nat.le_refl _)) (rightB_ok hrb) (by show (St.blk f_body 0).size ≤ _; exact hbzz) (ke2.below HF.out (bt HB9.out hW) (Nat.le_refl _))
            have hc0 : clip (0 : Int) = 0 := rfl
            simp only [hc0] at hBK
            have hzv := isName_size hrn
            obtain ⟨bz, hbz⟩ : ∃ z, St.blk f_body 0 = z := ⟨_, rfl⟩
            simp only [hbz] at hBK hbzz hnx1
            obtain ⟨Ak, hAk⟩ : ∃ B, (A8 ++ catB (dl.take k)) = B := ⟨_, rfl⟩
            rw [hAk] at hS hSe hnx1 hak
            have HT9 : Hid (∀ W, StA W2 (w.heap.size + 1) ((wr.heap.size, [.string f_name, .slice de1 f_params.length fe1, .slice de2 f_body.length fe2], 91) :: [(w.heap.size, [.string x_title, .string x_author, .string x_start, .int .i64 x_release, .int .i64 x_most, .slice da5 x_flags.length fa5, .slice da6 x_props.length fa6, .slice da7 x_globals.length fa7, .slice da8 x_objects.length fa8, .slice da9 x_verbs.length fa9, .slice da10 x_rules.length fa10, .slice da11 x_funcs.length fa11, .slice (some ⟨bb, off, none⟩) x_daemons.length fa12], 29)]) Ak W → Calls Tryz.prog 37 #[.pointer (some ⟨w.heap.size + 1, 0, none⟩), .string (⟨#[100, 97, 101, 109, 111, 110, 32]⟩ ++ f_name ++ ⟨#[32]⟩ ++ bz ++ ⟨#[10]⟩)] W fun e w' => e = .returned (.tuple #[.int .i64 ((⟨#[100, 97, 101, 109, 111, 110, 32]⟩ ++ f_name ++ ⟨#[32]⟩ ++ bz ++ ⟨#[10]⟩) : ByteArray).size, .nilIface]) ∧ StA W2 (w.heap.size + 1) ((wr.heap.size, [.string f_name, .slice de1 f_params.length fe1, .slice de2 f_body.length fe2], 91) :: [(w.heap.size, [.string x_title, .string x_author, .string x_start, .int .i64 x_release, .int .i64 x_most, .slice da5 x_flags.length fa5, .slice da6 x_props.length fa6, .slice da7 x_globals.length fa7, .slice da8 x_objects.length fa8, .slice da9 x_verbs.length fa9, .slice da10 x_rules.length fa10, .slice da11 x_funcs.length fa11, .slice (some ⟨bb, off, none⟩) x_daemons.length fa12], 29)]) (Ak ++ (⟨#[100, 97, 101, 109, 111, 110, 32]⟩ ++ f_name ++ ⟨#[32]⟩ ++ bz ++ ⟨#[10]⟩)) w') := fun W h => h.text _ (by
             have e1 : (⟨#[100, 97, 101, 109, 111, 110, 32]⟩ : ByteArray).size = 7 := rfl
             have e2 : (⟨#[10]⟩ : ByteArray).size = 1 := rfl
             have e3 : (⟨#[32]⟩ : ByteArray).size = 1 := rfl
             simp only [ByteArray.size_append, e1, e2, e3]
             omega)
            have HNX := Lib.hid hnx1; have HBK := Lib.hid hBK
            clear ke1 ke2 hnx1 hBK hbz hAk hrn hrp hrb hc0
            have q := fun j => hS.cell w.heap.size [.string x_title, .string x_author, .string x_start, .int .i64 x_release, .int .i64 x_most, .slice da5 x_flags.length fa5, .slice da6 x_props.length fa6, .slice da7 x_globals.length fa7, .slice da8 x_objects.length fa8, .slice da9 x_verbs.length fa9, .slice da10 x_rules.length fa10, .slice da11 x_funcs.length fa11, .slice (some ⟨bb, off, none⟩) x_daemons.length fa12] 29 (by simp) j
            have g0 := q 0
            have g1 := q 1
            have g2 := q 2
            have g3 := q 3
            have g4 := q 4
            have g5 := q 5
            have g6 := q 6
            have g7 := q 7
            have g8 := q 8
            have g9 := q 9
            have g10 := q 10
            have g11 := q 11
            have g12 := q 12
            simp only [cqs, cqz] at g0 g1 g2 g3 g4 g5 g6 g7 g8 g9 g10 g11 g12
            clear q
            have HSE := Lib.hid hSe
            have HWE := Lib.hid hwe
            clear hel hcell hx hpi hpe hqt hFb hwe hSe hbe hb9 hlk hkz hkz2 hxz hnx0
            go_upto_region 41 with fail
            rw [HWE.out]
            clear q0' q1' q2' g0 g1 g2 g3 g4 g5 g6 g7 g8 g9 g10 g11 g12 hS
            have hS := HSE.out
            have q := fun j => hS.cell wr.heap.size [.string f_name, .slice de1 f_params.length fe1, .slice de2 f_body.length fe2] 91 (by simp) j
            have q0' := q 0
            have q1' := q 1
            have q2' := q 2
            simp only [cqs, cqz] at q0' q1' q2'
            clear q
            have K := @rg' Tryz.prog we
            have HK4 := Lib.hid (K HBK.out)
            clear K
            have zq0' := fun d os => cell_regrown q0' d os
            have zq1' := fun d os => cell_regrown q1' d os
            have zq2' := fun d os => cell_regrown q2' d os
            refine wp_region_quiet_last_below 9 (by kernel_rfl) rfl rfl (by kernel_rfl) ?_
            simp only [List.dropLast]
            repeat (go_big_quiet_step (first | with_reducible exact HK4.out _))
            refine wpQuiet_nil ?_
            intro wq hbq
            clear zq0' zq1' zq2' HK4
            have hS5 := hS.below hbq
            clear q0' q1' q2' hS
            go_wp2_with (go_at_call 37; (with_reducible refine (HT9.out _ hS5).mono ?_); rintro e w6 ⟨rfl, hS6⟩)
            go_roundw
            case rel => exact ⟨k + 1, by omega, by go_num, (hS6.same HNX.out).sub (fun t ht => List.mem_cons_of_mem _ ht)⟩
            case measure => simp [intOf]; omega
          have : k = x_daemons.length := by omega
          subst this
          have hki : decide ((x_daemons.length : Int) < (x_daemons.length : Int)) = false := by simp
          have hS2 := hS.same (show (A8 ++ catB (dl.take x_daemons.length)) = A9 by rw [List.take_of_length_le (by rw [HLdl.out]; exact Nat.le_refl _), HA9.out])
          clear hS hkz HR12 HIdl H12
          have hS := hS2
          clear hS2
          have q := fun j => hS.cell w.heap.size [.string x_title, .string x_author, .string x_start, .int .i64 x_release, .int .i64 x_most, .slice da5 x_flags.length fa5, .slice da6 x_props.length fa6, .slice da7 x_globals.length fa7, .slice da8 x_objects.length fa8, .slice da9 x_verbs.length fa9, .slice da10 x_rules.length fa10, .slice da11 x_funcs.length fa11, .slice da12 x_daemons.length fa12] 29 (by simp) j
          have g0 := q 0
          have g1 := q 1
          have g2 := q 2
          have g3 := q 3
          have g4 := q 4
          have g5 := q 5
          have g6 := q 6
          have g7 := q 7
          have g8 := q 8
          have g9 := q 9
          have g10 := q 10
          have g11 := q 11
          have g12 := q 12
          simp only [cqs, cqz] at g0 g1 g2 g3 g4 g5 g6 g7 g8 g9 g10 g11 g12
          clear q
          have HKB := Lib.hid (HKW.out _ _ _ hS)
          go_wp2_with (go_at_call 48; (with_reducible refine (StA.str hS).mono ?_); rintro e w7 ⟨rfl, hb7⟩)
          go_ret
          exact ⟨rfl, HKB.out.trans (hb7.mono (by omega))⟩
end Go.Proofs.YtdeecfkipknkbaaGreatDoor
