/- clewref14.showObject at any object that is right. Printed by gen-sh6.py. -/
import Derived.Test.YtdeecfkipknkbaaGreatDoorShT
namespace Go.Proofs.YtdeecfkipknkbaaGreatDoor
set_option maxRecDepth 100000
set_option maxHeartbeats 20000000
open Go.RowKit Go.Sort
def DirAt (w : World) (bk : Nat) : Prop := bk < w.heap.size ∧ ∀ j, j < 13 → w.cell? ⟨bk, j, none⟩ = some (.string (dirs13.getD j ⟨#[]⟩))
theorem DirAt.below {w w' : World} {b : Nat} (h : DirAt w b) (hb : Below w.heap.size w w') : DirAt w' b := ⟨Nat.lt_of_lt_of_le h.1 hb.size, fun j hj => (hb.cell (p := ⟨b, j, none⟩) h.1).trans (h.2 j hj)⟩
theorem dirsR_at (w : World) : Calls Tryz.prog 122 #[] w (fun e w' => ∃ bk, e = .returned (.slice (some ⟨bk, 0, none⟩) 13 13) ∧ DirAt w' bk ∧ Below w.heap.size w w') :=
 (dirsR_calls w).mono (fun _ _ ⟨bk, h1, h2, _, h4, h5⟩ => ⟨bk, h1, ⟨h4, h5⟩, h2⟩)
theorem itemB_len (word what : ByteArray) (h : what ≠ ⟨#[]⟩) : itemB word what = ⟨#[9]⟩ ++ word ++ what ++ ⟨#[59, 10]⟩ := by unfold itemB emB; rw [if_neg h]
theorem itemB_nil (word : ByteArray) : itemB word ⟨#[]⟩ = ⟨#[]⟩ := by unfold itemB emB; rw [if_pos rfl]
theorem size_ne {x : ByteArray} (h : 0 < x.size) : x ≠ ⟨#[]⟩ := fun e => by rw [e] at h; exact absurd h (by decide)
theorem sepB_pos (sep : ByteArray) {l : List ByteArray} (hl : l ≠ []) (h : ∀ x ∈ l, 0 < x.size) : 0 < (sepB sep l).size := by
 cases l with
 | nil => exact absurd rfl hl
 | cons x l =>
  have := h x (by simp)
  simp only [sepB, ByteArray.size_append]
  omega
theorem quoteB_pos (s : ByteArray) : 0 < (quoteB s).size := by
 show 0 < (quoteL s.data.toList).toArray.size
 simp [quoteL]
theorem quotedB_pos (sep : ByteArray) {l : List ByteArray} (hl : l ≠ []) : 0 < (quotedB sep l).size := by
 unfold quotedB
 refine sepB_pos sep (by simpa using hl) (fun x hx => ?_)
 obtain ⟨y, -, rfl⟩ := List.mem_map.1 hx
 exact quoteB_pos y
theorem showObj_calls (F : Nat → Prop) (w : World) (x : ObjD) (cs : List Value) (hF : Inn F w) (hr : ObjR x) (hsz : (objB x).size ≤ 1000000000000) (hx : Holds.obj.R F w x cs) :
 Calls Tryz.prog 52 #[.agg cs.toArray] w (Gives w (.string (objB x))) := by
 obtain ⟨x_name, x_title, x_inn, x_text, x_room, x_words, x_adjs, x_flags, x_props, x_exits⟩ := x
 obtain ⟨-, -, -, -, va5, va6, va7, va8, va9, rfl, ka5, ka6, ka7, ka8, ka9⟩ := hx
 obtain ⟨-, -, hrw, hra, hrn, hrt, hrx, hri, hrf, hrp, hre⟩ := hr
 simp only at ka5 ka6 ka7 ka8 ka9 hrw hra hrn hrt hrx hri hrf hrp hre
 obtain ⟨da5, fa5, rfl⟩ := ka5.shape
 obtain ⟨da6, fa6, rfl⟩ := ka6.shape
 obtain ⟨da7, fa7, rfl⟩ := ka7.shape
 obtain ⟨da8, fa8, rfl⟩ := ka8.shape
 obtain ⟨da9, fa9, rfl⟩ := ka9.shape
 have hQ5 := fun (W : World) (hW : Below w.heap.size w W) => quoted_calls F W x_words comma _ (hF.below hW) (ka5.below hF hW (Nat.le_refl _)) (by have := hrw.1; omega) hrw.2 (by decide)
 have hQ6 := fun (W : World) (hW : Below w.heap.size w W) => quoted_calls F W x_adjs comma _ (hF.below hW) (ka6.below hF hW (Nat.le_refl _)) (by have := hra.1; omega) hra.2 (by decide)
 have hz7 := names_sz comma (by decide) (m := 16) (by have := hrf.1; omega) hrf.2
 have hQ7 := fun (W : World) (hW : Below w.heap.size w W) => join_calls x_flags F W _ comma (hF.below hW) (ka7.below hF hW (Nat.le_refl _)) (by have := hrf.1; omega) (by omega)
 have hQ1 := fun (W : World) => quoteR_calls x_title W (by have := hrt.1; omega)
 have hQX := fun (W : World) => quoteR_calls x_text W (by have := hrx.1; omega)
 have hz := hsz
 simp only [objB, ByteArray.size_append] at hz
 have hzn := isName_size hrn
 have hzi := maybe_sz hri
 have hz1 := quote_sz hrt
 have hzx := quote_sz hrx
 have hz5 := quotedB_sz comma (by decide) (m := 8) (by have := hrw.1; omega) hrw.2
 have hz6 := quotedB_sz comma (by decide) (m := 8) (by have := hra.1; omega) hra.2
 have hE5t : x_words ≠ [] → itemB ⟨#[119, 111, 114, 100, 115, 32]⟩ (quotedB comma x_words) = ⟨#[9]⟩ ++ ⟨#[119, 111, 114, 100, 115, 32]⟩ ++ quotedB comma x_words ++ ⟨#[59, 10]⟩ := fun h => itemB_len _ _ (size_ne (quotedB_pos comma h))
 have hE6t : x_adjs ≠ [] → itemB ⟨#[97, 100, 106, 115, 32]⟩ (quotedB comma x_adjs) = ⟨#[9]⟩ ++ ⟨#[97, 100, 106, 115, 32]⟩ ++ quotedB comma x_adjs ++ ⟨#[59, 10]⟩ := fun h => itemB_len _ _ (size_ne (quotedB_pos comma h))
 have hE7t : x_flags ≠ [] → itemB ⟨#[105, 115, 32]⟩ (sepB comma x_flags) = ⟨#[9]⟩ ++ ⟨#[105, 115, 32]⟩ ++ sepB comma x_flags ++ ⟨#[59, 10]⟩ := fun h => itemB_len _ _ (size_ne (sepB_pos comma h (fun y hy => (hrf.2 y hy).1.1)))
 have hE5f : x_words = [] → itemB ⟨#[119, 111, 114, 100, 115, 32]⟩ (quotedB comma x_words) = ⟨#[]⟩ := fun h => by rw [h]; exact itemB_nil _
 have hE6f : x_adjs = [] → itemB ⟨#[97, 100, 106, 115, 32]⟩ (quotedB comma x_adjs) = ⟨#[]⟩ := fun h => by rw [h]; exact itemB_nil _
 have hE7f : x_flags = [] → itemB ⟨#[105, 115, 32]⟩ (sepB comma x_flags) = ⟨#[]⟩ := fun h => by rw [h]; exact itemB_nil _
 have e0 : objB ⟨x_name, x_title, x_inn, x_text, x_room, x_words, x_adjs, x_flags, x_props, x_exits⟩ = ((if x_room = true then ⟨#[114, 111, 111, 109, 32]⟩ else ⟨#[116, 104, 105, 110, 103, 32]⟩) ++ x_name ++ ⟨#[32]⟩ ++ quoteB x_title) ++ emB x_inn (⟨#[32, 105, 110, 32]⟩ ++ x_inn) ++ ⟨#[32, 123, 10]⟩ ++ emB x_text (⟨#[9, 116, 101, 120, 116, 32]⟩ ++ quoteB x_text ++ ⟨#[59, 10]⟩) ++ itemB ⟨#[119, 111, 114, 100, 115, 32]⟩ (quotedB comma x_words) ++ itemB ⟨#[97, 100, 106, 115, 32]⟩ (quotedB comma x_adjs) ++ itemB ⟨#[105, 115, 32]⟩ (sepB comma x_flags) ++ catB (x_props.map fun p => ⟨#[9]⟩ ++ valueB p) ++ catB (x_exits.map exitB) ++ ⟨#[125, 10]⟩ := rfl
 rw [e0]
 obtain ⟨kB, hkB⟩ : ∃ kB : ByteArray, (if x_room = true then ⟨#[114, 111, 111, 109, 32]⟩ else ⟨#[116, 104, 105, 110, 103, 32]⟩) = kB := ⟨_, rfl⟩
 obtain ⟨q1, hq1⟩ : ∃ q1, quoteB x_title = q1 := ⟨_, rfl⟩
 obtain ⟨E2, hE2⟩ : ∃ E, emB x_inn (⟨#[32, 105, 110, 32]⟩ ++ x_inn) = E := ⟨_, rfl⟩
 obtain ⟨E4, hE4⟩ : ∃ E, emB x_text (⟨#[9, 116, 101, 120, 116, 32]⟩ ++ quoteB x_text ++ ⟨#[59, 10]⟩) = E := ⟨_, rfl⟩
 obtain ⟨E5, hE5⟩ : ∃ q, itemB ⟨#[119, 111, 114, 100, 115, 32]⟩ (quotedB comma x_words) = q := ⟨_, rfl⟩
 obtain ⟨E6, hE6⟩ : ∃ q, itemB ⟨#[97, 100, 106, 115, 32]⟩ (quotedB comma x_adjs) = q := ⟨_, rfl⟩
 obtain ⟨E7, hE7⟩ : ∃ q, itemB ⟨#[105, 115, 32]⟩ (sepB comma x_flags) = q := ⟨_, rfl⟩
 obtain ⟨q5, hq5⟩ : ∃ q, quotedB comma x_words = q := ⟨_, rfl⟩
 obtain ⟨q6, hq6⟩ : ∃ q, quotedB comma x_adjs = q := ⟨_, rfl⟩
 obtain ⟨q7, hq7⟩ : ∃ q, sepB comma x_flags = q := ⟨_, rfl⟩
 obtain ⟨qx, hqx⟩ : ∃ q, quoteB x_text = q := ⟨_, rfl⟩
 obtain ⟨ps, hps⟩ : ∃ ps, x_props.map (fun p => ⟨#[9]⟩ ++ valueB p) = ps := ⟨_, rfl⟩
 obtain ⟨es, hes⟩ : ∃ es, x_exits.map exitB = es := ⟨_, rfl⟩
 rw [hkB, hq1, hE2, hE4, hE5, hE6, hE7, hps, hes] at hz ⊢
 rw [hE5] at hE5t hE5f; rw [hE6] at hE6t hE6f; rw [hE7] at hE7t hE7f
 rw [hq5] at hE5t hz5; rw [hq6] at hE6t hz6; rw [hq7] at hE7t hz7
 simp only [hq5] at hQ5; simp only [hq6] at hQ6; simp only [hq7] at hQ7; simp only [hq1] at hQ1
 rw [hq1] at hz1
 have hEt2 : Hid (x_inn ≠ ⟨#[]⟩ → E2 = ⟨#[32, 105, 110, 32]⟩ ++ x_inn) := fun h => by rw [← hE2]; unfold emB; rw [if_neg h]
 have hEf2 : Hid (x_inn = ⟨#[]⟩ → E2 = ⟨#[]⟩) := fun h => by rw [← hE2]; unfold emB; rw [if_pos h]
 have hEt4 : Hid (x_text ≠ ⟨#[]⟩ → E4 = ⟨#[9, 116, 101, 120, 116, 32]⟩ ++ qx ++ ⟨#[59, 10]⟩) := fun h => by rw [← hE4, ← hqx]; unfold emB; rw [if_neg h]
 have hEf4 : Hid (x_text = ⟨#[]⟩ → E4 = ⟨#[]⟩) := fun h => by rw [← hE4]; unfold emB; rw [if_pos h]
 rw [hqx] at hzx
 simp only [hqx] at hQX
 obtain ⟨A1, hA1⟩ : ∃ B, (kB ++ x_name ++ ⟨#[32]⟩ ++ q1) = B := ⟨_, rfl⟩
 obtain ⟨A2, hA2⟩ : ∃ B, A1 ++ E2 = B := ⟨_, rfl⟩
 obtain ⟨A3, hA3⟩ : ∃ B, A2 ++ ⟨#[32, 123, 10]⟩ = B := ⟨_, rfl⟩
 obtain ⟨A4, hA4⟩ : ∃ B, A3 ++ E4 = B := ⟨_, rfl⟩
 obtain ⟨A5, hA5⟩ : ∃ B, A4 ++ E5 = B := ⟨_, rfl⟩
 obtain ⟨A6, hA6⟩ : ∃ B, A5 ++ E6 = B := ⟨_, rfl⟩
 obtain ⟨A7, hA7⟩ : ∃ B, A6 ++ E7 = B := ⟨_, rfl⟩
 obtain ⟨A8, hA8⟩ : ∃ B, A7 ++ catB ps = B := ⟨_, rfl⟩
 obtain ⟨A9, hA9⟩ : ∃ B, A8 ++ catB es = B := ⟨_, rfl⟩
 rw [hA1, hA2, hA3, hA4, hA5, hA6, hA7, hA8, hA9]
 obtain ⟨r, hr2⟩ : ∃ r, A9 ++ ⟨#[125, 10]⟩ = r := ⟨_, rfl⟩
 rw [hr2]
 have z3 : (⟨#[32, 123, 10]⟩ : ByteArray).size = 3 := rfl
 have z10 : (⟨#[125, 10]⟩ : ByteArray).size = 2 := rfl
 have z32 : (⟨#[32]⟩ : ByteArray).size = 1 := rfl
 have s1 : A1.size = kB.size + x_name.size + 1 + q1.size := by rw [← hA1]; simp only [ByteArray.size_append, z32]
 have s2 : A2.size = A1.size + E2.size := by rw [← hA2, ByteArray.size_append]
 have s3 : A3.size = A2.size + 3 := by rw [← hA3, ByteArray.size_append, z3]
 have s4 : A4.size = A3.size + E4.size := by rw [← hA4, ByteArray.size_append]
 have s5 : A5.size = A4.size + E5.size := by rw [← hA5, ByteArray.size_append]
 have s6 : A6.size = A5.size + E6.size := by rw [← hA6, ByteArray.size_append]
 have s7 : A7.size = A6.size + E7.size := by rw [← hA7, ByteArray.size_append]
 have s8 : A8.size = A7.size + (catB ps).size := by rw [← hA8, ByteArray.size_append]
 have s9 : A9.size = A8.size + (catB es).size := by rw [← hA9, ByteArray.size_append]
 have hkz : kB.size ≤ 6 := by rw [← hkB]; split <;> decide
 obtain ⟨W1, hW1⟩ : ∃ W, w.alloc (.cells #[.string x_name, .string x_title, .string x_inn, .string x_text, .bool x_room, .slice da5 x_words.length fa5, .slice da6 x_adjs.length fa6, .slice da7 x_flags.length fa7, .slice da8 x_props.length fa8, .slice da9 x_exits.length fa9] 63) = W := ⟨_, rfl⟩
 have hb1 := ba' hW1
 have hbx1 := bn' hW1
 have hE : Hid (∀ W, Below W1.heap.size W1 W → BoxAt W w.heap.size [.string x_name, .string x_title, .string x_inn, .string x_text, .bool x_room, .slice da5 x_words.length fa5, .slice da6 x_adjs.length fa6, .slice da7 x_flags.length fa7, .slice da8 x_props.length fa8, .slice da9 x_exits.length fa9] ∧ Below w.heap.size w W) := fun W hW => ⟨hbx1.below hW hbx1.1, bt hb1 hW⟩
 have HW1 := Lib.hid hW1
 have hpl : ps.length = x_props.length := by rw [← hps]; simp
 have hel : es.length = x_exits.length := by rw [← hes]; simp
 have HPI : Hid (∀ i (hi : i < x_props.length), ps[i]? = some (⟨#[9]⟩ ++ valueB x_props[i])) := fun i hi => by rw [← hps, List.getElem?_map, List.getElem?_eq_getElem hi]; rfl
 have HEI : Hid (∀ i (hi : i < x_exits.length), es[i]? = some (exitB x_exits[i])) := fun i hi => by rw [← hes, List.getElem?_map, List.getElem?_eq_getElem hi]; rfl
 obtain ⟨_, _, he, hl8, hc8, h8o⟩ := ka8.opn
 cases he
 obtain ⟨_, _, he, hl9, hc9, h9o⟩ := ka9.opn
 cases he
 unfold maxLen at hc8 hc9
 have HQ5 := Lib.hid hQ5; have HQ6 := Lib.hid hQ6; have HQ7 := Lib.hid hQ7; have HQ1 := Lib.hid hQ1; have HQX := Lib.hid hQX
 have H8 := Lib.hid h8o; have H9 := Lib.hid h9o; have HF := Lib.hid hF
 have HRP := Lib.hid hrp; have HRE := Lib.hid hre; have HKB := Lib.hid hkB; have HPL := Lib.hid hpl; have HEL := Lib.hid hel
 have HA1 := Lib.hid hA1; have HA2 := Lib.hid hA2; have HA3 := Lib.hid hA3; have HA4 := Lib.hid hA4; have HA5 := Lib.hid hA5; have HA6 := Lib.hid hA6; have HA7 := Lib.hid hA7; have HA8 := Lib.hid hA8; have HA9 := Lib.hid hA9
 have HZ8 := Lib.hid s8; have HZ9 := Lib.hid s9; have HR := Lib.hid hr2
 have HE5t := Lib.hid hE5t; have HE6t := Lib.hid hE6t; have HE7t := Lib.hid hE7t; have HE5f := Lib.hid hE5f; have HE6f := Lib.hid hE6f; have HE7f := Lib.hid hE7f
 have hz9 : A9.size ≤ 1000000000000 := by omega
 have hza1 : A1.size ≤ 1000000000000 := by omega
 have hza2 : A2.size ≤ 1000000000000 := by omega
 have hza3 : A3.size ≤ 1000000000000 := by omega
 have hza4 : A4.size ≤ 1000000000000 := by omega
 have hza5 : A5.size ≤ 1000000000000 := by omega
 have hza6 : A6.size ≤ 1000000000000 := by omega
 have hz7a : A7.size ≤ 1000000000000 := by omega
 have hz8a : A8.size ≤ 1000000000000 := by omega
 have hlp : x_props.length ≤ 16 := by have := hrp.1; omega
 have hlx : x_exits.length ≤ 12 := by have := hre.1; omega
 clear hW1 hb1 hbx1 hQ5 hQ6 hQ7 hQ1 hQX h8o h9o hF ka5 ka6 ka7 ka8 ka9 hrw hra hrn hrt hrx hri hrf hrp hre hz hsz e0 hkB hq1 hE2 hE4 hE5 hE6 hE7 hq5 hq6 hq7 hps hes hqx hA1 hA2 hA3 hA4 hA5 hA6 hA7 hA8 hA9 hr2 s1 s2 s3 s4 s5 s6 s7 s8 s9 hpl hel z3 z10 z32 hE5t hE6t hE7t hE5f hE6f hE7f
 go_enter Tryz.func52, Tryz.ntmps52
 go_upto_region 1 with fail
 rw [HW1.out]
 obtain ⟨hq, hqt⟩ := hE.out W1 (Below.refl _ _)
 obtain ⟨h0, h1, h2, h3, h4, h5, h6, h7, h8, h9⟩ := p9' hq.2
 clear hq
 go_upto_if 8 with fail
 go_cut [3] (fun v wc => v = .string kB ∧ W1 = wc)
 case first =>
  cases x_room
  · have hk := HKB.out
    simp only [Bool.false_eq_true, if_false] at hk
    go_wp2_with fail
    go_meet
    exact ⟨by rw [← hk], rfl⟩
  have hk := HKB.out
  simp only [if_true] at hk
  go_wp2_with fail
  go_meet
  exact ⟨by rw [← hk], rfl⟩
 case rest =>
  obtain ⟨rfl, rfl⟩ := hcut
  clear HKB
  go_upto_region 4 with fail
  go_cut [3] (fun v wc => v = .string A1 ∧ Hid (Below W1.heap.size W1 wc))
  case first =>
   have K := @rg' Tryz.prog W1
   have HKQ := Lib.hid (K (fun W (_ : Below W1.heap.size W1 W) => HQ1.out W))
   clear K
   have zh0 := fun d os => cell_regrown h0 d os
   have zh1 := fun d os => cell_regrown h1 d os
   refine wp_region_quiet_below (by kernel_rfl) (by kernel_rfl) ?_
   repeat (go_big_quiet_step (with_reducible exact HKQ.out _))
   refine wpQuiet_nil ?_
   intro wq hwq
   have hbq := below_of_regrown hwq
   clear hwq
   go_wp2_with fail
   go_meet
   exact ⟨by rw [HA1.out], hbq⟩
  case rest =>
   obtain ⟨rfl, hB0⟩ := hcut
   have hB := hB0.out
   clear hB0 hqt h0 h1 h2 h3 h4 h5 h6 h7 h8 h9
   obtain ⟨hq, hqt⟩ := hE.out wc (hB)
   obtain ⟨h0, h1, h2, h3, h4, h5, h6, h7, h8, h9⟩ := p9' hq.2
   clear hq
   go_upto_region 5 with fail
   obtain ⟨wY, hwY⟩ : ∃ x : World, x = wc := ⟨_, rfl⟩
   rw [← hwY] at hB hqt h0 h1 h2 h3 h4 h5 h6 h7 h8 h9 ⊢
   clear hwY
   go_cut [20] (fun v wd => Hid (∃ t : Bool, v = .bool t ∧ (t = true → E2 = ⟨#[32, 105, 110, 32]⟩ ++ x_inn) ∧ (t = false → E2 = ⟨#[]⟩) ∧ wY = wd))
   case first =>
    by_cases hn : x_inn = ⟨#[]⟩
    · have hev : x_inn.toList.isEmpty = true := emp_t hn
      have hf := Lib.hid (hEf2.out hn)
      clear hn
      go_wp2_with fail
      go_meet
      exact ⟨false, rfl, fun h => (by cases h), fun _ => hf.out, rfl⟩
    have hev : x_inn.toList.isEmpty = false := emp_f hn
    have hf := Lib.hid (hEt2.out hn)
    clear hn
    go_wp2_with fail
    go_meet
    exact ⟨true, rfl, fun _ => hf.out, fun h => (by cases h), rfl⟩
   case rest =>
    obtain ⟨t, rfl, hbt, hbf, rfl⟩ := hcut.out
    have HBT := Lib.hid hbt; have HBF := Lib.hid hbf
    clear hcut hbt hbf hEt2 hEf2
    go_upto_if 20 with fail
    go_cut [3] (fun v wc => v = .string A2 ∧ Hid (Below W1.heap.size W1 wc))
    case first =>
     cases t
     · have hf := Lib.hid (HBF.out rfl)
       go_wp2_with fail
       go_meet
       exact ⟨by rw [← HA2.out, hf.out, app_emp], hB⟩
     have hf := Lib.hid (HBT.out rfl)
     go_wp2_with fail
     go_meet
     exact ⟨by rw [← HA2.out, hf.out]; simp only [ByteArray.append_assoc], hB⟩
    case rest =>
     clear HBT HBF HA2
     obtain ⟨rfl, hB0⟩ := hcut
     have hB := hB0.out
     clear hB0 hqt h0 h1 h2 h3 h4 h5 h6 h7 h8 h9
     obtain ⟨hq, hqt⟩ := hE.out wc (hB)
     obtain ⟨h0, h1, h2, h3, h4, h5, h6, h7, h8, h9⟩ := p9' hq.2
     clear hq
     go_upto_region 8 with fail
     rw [HA3.out]
     clear HA3
     obtain ⟨wY, hwY⟩ : ∃ x : World, x = wc := ⟨_, rfl⟩
     rw [← hwY] at hB hqt h0 h1 h2 h3 h4 h5 h6 h7 h8 h9 ⊢
     clear hwY
     go_cut [30] (fun v wd => Hid (∃ t : Bool, v = .bool t ∧ (t = true → E4 = ⟨#[9, 116, 101, 120, 116, 32]⟩ ++ qx ++ ⟨#[59, 10]⟩) ∧ (t = false → E4 = ⟨#[]⟩) ∧ wY = wd))
     case first =>
      by_cases hn : x_text = ⟨#[]⟩
      · have hev : x_text.toList.isEmpty = true := emp_t hn
        have hf := Lib.hid (hEf4.out hn)
        clear hn
        go_wp2_with fail
        go_meet
        exact ⟨false, rfl, fun h => (by cases h), fun _ => hf.out, rfl⟩
      have hev : x_text.toList.isEmpty = false := emp_f hn
      have hf := Lib.hid (hEt4.out hn)
      clear hn
      go_wp2_with fail
      go_meet
      exact ⟨true, rfl, fun _ => hf.out, fun h => (by cases h), rfl⟩
     case rest =>
      obtain ⟨t, rfl, hbt, hbf, rfl⟩ := hcut.out
      have HBT := Lib.hid hbt; have HBF := Lib.hid hbf
      clear hcut hbt hbf hEt4 hEf4
      go_upto_if 30 with fail
      go_cut [3] (fun v wc => v = .string A4 ∧ Hid (Below W1.heap.size W1 wc))
      case first =>
       cases t
       · have hf := Lib.hid (HBF.out rfl)
         go_wp2_with fail
         go_meet
         exact ⟨by rw [← HA4.out, hf.out, app_emp], hB⟩
       have hf := Lib.hid (HBT.out rfl)
       go_wp2_with (go_at_call 49; (with_reducible refine (HQX.out _).mono ?_); rintro e w4 ⟨rfl, hb4⟩)
       go_meet
       exact ⟨by rw [← HA4.out, hf.out]; simp only [ByteArray.append_assoc], bt hB hb4⟩
      case rest =>
       clear HBT HBF HA4
       obtain ⟨rfl, hB0⟩ := hcut
       have hB := hB0.out
       clear hB0 hqt h0 h1 h2 h3 h4 h5 h6 h7 h8 h9
       obtain ⟨hq, hqt⟩ := hE.out wc (hB)
       obtain ⟨h0, h1, h2, h3, h4, h5, h6, h7, h8, h9⟩ := p9' hq.2
       clear hq
       go_upto_region 10 with fail
       obtain ⟨wY, hwY⟩ : ∃ x : World, x = wc := ⟨_, rfl⟩
       rw [← hwY] at hB hqt h0 h1 h2 h3 h4 h5 h6 h7 h8 h9 ⊢
       clear hwY
       go_cut [41] (fun v wd => Hid (∃ t : Bool, v = .bool t ∧ (t = true → E5 = ⟨#[9]⟩ ++ ⟨#[119, 111, 114, 100, 115, 32]⟩ ++ q5 ++ ⟨#[59, 10]⟩) ∧ (t = false → E5 = ⟨#[]⟩) ∧ wY = wd))
       case first =>
        by_cases hn : x_words = []
        · have hf := Lib.hid (HE5f.out hn)
          have HN := Lib.hid hn
          clear hn
          go_wp2_with fail
          go_meet
          exact ⟨false, congrArg Value.bool (decide_eq_false (by rw [HN.out]; decide)), fun h => (by cases h), fun _ => hf.out, rfl⟩
        have hf := Lib.hid (HE5t.out hn)
        have HN := Lib.hid hn
        clear hn
        go_wp2_with fail
        go_meet
        exact ⟨true, congrArg Value.bool (decide_eq_true (List.length_pos_iff.2 HN.out)), fun _ => hf.out, fun h => (by cases h), rfl⟩
       case rest =>
        obtain ⟨t, rfl, hbt, hbf, rfl⟩ := hcut.out
        have HBT := Lib.hid hbt; have HBF := Lib.hid hbf
        clear hcut hbt hbf HE5t HE5f
        go_upto_if 41 with fail
        go_cut [3] (fun v wc => v = .string A5 ∧ Hid (Below W1.heap.size W1 wc))
        case first =>
         cases t
         · have hf := Lib.hid (HBF.out rfl)
           go_wp2_with fail
           go_meet
           exact ⟨by rw [← HA5.out, hf.out, app_emp], hB⟩
         have hf := Lib.hid (HBT.out rfl)
         go_wp2_with (go_at_call 121; (with_reducible refine (HQ5.out _ hqt).mono ?_); rintro e w4 ⟨rfl, hb4⟩)
         go_meet
         exact ⟨by rw [← HA5.out, hf.out]; rw [show (⟨#[9, 119, 111, 114, 100, 115, 32]⟩ : ByteArray) = ⟨#[9]⟩ ++ ⟨#[119, 111, 114, 100, 115, 32]⟩ from rfl]; simp only [ByteArray.append_assoc], bt hB hb4⟩
        case rest =>
         clear HBT HBF HA5
         obtain ⟨rfl, hB0⟩ := hcut
         have hB := hB0.out
         clear hB0 hqt h0 h1 h2 h3 h4 h5 h6 h7 h8 h9
         obtain ⟨hq, hqt⟩ := hE.out wc (hB)
         obtain ⟨h0, h1, h2, h3, h4, h5, h6, h7, h8, h9⟩ := p9' hq.2
         clear hq
         go_upto_region 12 with fail
         obtain ⟨wY, hwY⟩ : ∃ x : World, x = wc := ⟨_, rfl⟩
         rw [← hwY] at hB hqt h0 h1 h2 h3 h4 h5 h6 h7 h8 h9 ⊢
         clear hwY
         go_cut [52] (fun v wd => Hid (∃ t : Bool, v = .bool t ∧ (t = true → E6 = ⟨#[9]⟩ ++ ⟨#[97, 100, 106, 115, 32]⟩ ++ q6 ++ ⟨#[59, 10]⟩) ∧ (t = false → E6 = ⟨#[]⟩) ∧ wY = wd))
         case first =>
          by_cases hn : x_adjs = []
          · have hf := Lib.hid (HE6f.out hn)
            have HN := Lib.hid hn
            clear hn
            go_wp2_with fail
            go_meet
            exact ⟨false, congrArg Value.bool (decide_eq_false (by rw [HN.out]; decide)), fun h => (by cases h), fun _ => hf.out, rfl⟩
          have hf := Lib.hid (HE6t.out hn)
          have HN := Lib.hid hn
          clear hn
          go_wp2_with fail
          go_meet
          exact ⟨true, congrArg Value.bool (decide_eq_true (List.length_pos_iff.2 HN.out)), fun _ => hf.out, fun h => (by cases h), rfl⟩
         case rest =>
          obtain ⟨t, rfl, hbt, hbf, rfl⟩ := hcut.out
          have HBT := Lib.hid hbt; have HBF := Lib.hid hbf
          clear hcut hbt hbf HE6t HE6f
          go_upto_if 52 with fail
          go_cut [3] (fun v wc => v = .string A6 ∧ Hid (Below W1.heap.size W1 wc))
          case first =>
           cases t
           · have hf := Lib.hid (HBF.out rfl)
             go_wp2_with fail
             go_meet
             exact ⟨by rw [← HA6.out, hf.out, app_emp], hB⟩
           have hf := Lib.hid (HBT.out rfl)
           go_wp2_with (go_at_call 121; (with_reducible refine (HQ6.out _ hqt).mono ?_); rintro e w4 ⟨rfl, hb4⟩)
           go_meet
           exact ⟨by rw [← HA6.out, hf.out]; rw [show (⟨#[9, 97, 100, 106, 115, 32]⟩ : ByteArray) = ⟨#[9]⟩ ++ ⟨#[97, 100, 106, 115, 32]⟩ from rfl]; simp only [ByteArray.append_assoc], bt hB hb4⟩
          case rest =>
           clear HBT HBF HA6
           obtain ⟨rfl, hB0⟩ := hcut
           have hB := hB0.out
           clear hB0 hqt h0 h1 h2 h3 h4 h5 h6 h7 h8 h9
           obtain ⟨hq, hqt⟩ := hE.out wc (hB)
           obtain ⟨h0, h1, h2, h3, h4, h5, h6, h7, h8, h9⟩ := p9' hq.2
           clear hq
           go_upto_region 14 with fail
           obtain ⟨wY, hwY⟩ : ∃ x : World, x = wc := ⟨_, rfl⟩
           rw [← hwY] at hB hqt h0 h1 h2 h3 h4 h5 h6 h7 h8 h9 ⊢
           clear hwY
           go_cut [63] (fun v wd => Hid (∃ t : Bool, v = .bool t ∧ (t = true → E7 = ⟨#[9]⟩ ++ ⟨#[105, 115, 32]⟩ ++ q7 ++ ⟨#[59, 10]⟩) ∧ (t = false → E7 = ⟨#[]⟩) ∧ wY = wd))
           case first =>
            by_cases hn : x_flags = []
            · have hf := Lib.hid (HE7f.out hn)
              have HN := Lib.hid hn
              clear hn
              go_wp2_with fail
              go_meet
              exact ⟨false, congrArg Value.bool (decide_eq_false (by rw [HN.out]; decide)), fun h => (by cases h), fun _ => hf.out, rfl⟩
            have hf := Lib.hid (HE7t.out hn)
            have HN := Lib.hid hn
            clear hn
            go_wp2_with fail
            go_meet
            exact ⟨true, congrArg Value.bool (decide_eq_true (List.length_pos_iff.2 HN.out)), fun _ => hf.out, fun h => (by cases h), rfl⟩
           case rest =>
            obtain ⟨t, rfl, hbt, hbf, rfl⟩ := hcut.out
            have HBT := Lib.hid hbt; have HBF := Lib.hid hbf
            clear hcut hbt hbf HE7t HE7f
            go_upto_if 63 with fail
            go_cut [3] (fun v wc => v = .string A7 ∧ Hid (Below W1.heap.size W1 wc))
            case first =>
             cases t
             · have hf := Lib.hid (HBF.out rfl)
               go_wp2_with fail
               go_meet
               exact ⟨by rw [← HA7.out, hf.out, app_emp], hB⟩
             have hf := Lib.hid (HBT.out rfl)
             go_wp2_with (go_at_call 51; (with_reducible refine (HQ7.out _ hqt).mono ?_); rintro e w4 ⟨rfl, hb4⟩)
             go_meet
             exact ⟨by rw [← HA7.out, hf.out]; rw [show (⟨#[9, 105, 115, 32]⟩ : ByteArray) = ⟨#[9]⟩ ++ ⟨#[105, 115, 32]⟩ from rfl]; simp only [ByteArray.append_assoc], bt hB hb4⟩
            case rest =>
             clear HBT HBF HA7
             obtain ⟨rfl, hB0⟩ := hcut
             have hB := hB0.out
             clear hB0 hqt h0 h1 h2 h3 h4 h5 h6 h7 h8 h9 HQ5 HQ6 HQ7 HQ1 HQX
             obtain ⟨hq, hqt⟩ := hE.out wc (hB)
             obtain ⟨h0, h1, h2, h3, h4, h5, h6, h7, h8, h9⟩ := p9' hq.2
             clear hq
             go_wp2_with fail
             go_loopw [3, 4] (fun v i wr => ∃ k : Nat, k ≤ x_props.length ∧ i = .int .i64 k ∧ Hid (∃ B, v = .string B ∧ B = (A7 ++ catB (ps.take k))) ∧ Hid (Below W1.heap.size W1 wr)) (fun _ i _ => x_props.length - (intOf i).toNat)
             case atStart => exact ⟨0, Nat.zero_le _, rfl, Lib.hid ⟨_, rfl, by simp [catB, app_emp]⟩, hB⟩
             case round =>
              clear hqt h0 h1 h2 h3 h4 h5 h6 h7 h8 h9 hB
              obtain ⟨k, hk, rfl, hA0, hB0⟩ := hrel
              obtain ⟨B, rfl, hBe⟩ := hA0.out
              have hB := hB0.out
              have HBE := Lib.hid hBe
              have hkz := catB_take_le ps k
              have hBz : B.size ≤ 1000000000000 := by rw [hBe, ByteArray.size_append]; have := HZ8.out; omega
              clear hA0 hB0 hBe
              obtain ⟨hq, hqt⟩ := hE.out wr (hB)
              obtain ⟨h0, h1, h2, h3, h4, h5, h6, h7, h8, h9⟩ := p9' hq.2
              clear hq
              by_cases hlt : k < x_props.length
              · obtain ⟨bb, off, rfl, hFb, hel⟩ := H8.out (by omega)
                obtain ⟨cs, hx, -, hcell⟩ := hel wr (hqt.block bb (HF.out bb hFb)) k hlt
                have hpr := HRP.out.2 _ (List.getElem_mem hlt)
                have hpi := HPI.out k hlt
                obtain ⟨p, hpe⟩ : ∃ p, x_props[k] = p := ⟨_, rfl⟩
                rw [hpe] at hx hpr hpi
                obtain ⟨pn, pm⟩ := p
                obtain ⟨-, hpm, rfl⟩ := hx
                simp only at hpr hcell hpm
                have g0 := hcell 0 _ rfl
                have g1 := hcell 1 _ rfl
                simp only [Nat.add_zero] at g0
                have hbw : bb < wr.heap.size := Nat.lt_of_lt_of_le (HF.out bb hFb) hqt.size
                have hki : (k : Int) < (x_props.length : Int) := by omega
                have hki0 : (0 : Int) ≤ (k : Int) := by omega
                have hvs := valueB_sz hpr
                have hps : pn.size ≤ 24 := isName_size hpr.1
                have hnb := numB_le hpm
                have hval := fun (W : World) (_ : Below wr.heap.size wr W) => Same0.gv (textR_calls (pm.natAbs + 1) pm (by omega) hpm W)
                have hlk : k < ps.length := by rw [HPL.out]; exact hlt
                have hnx0 : B ++ (⟨#[9]⟩ ++ (pn ++ ⟨#[32, 61, 32]⟩ ++ numB pm ++ ⟨#[59, 10]⟩)) = (A7 ++ catB (ps.take (k + 1))) := by
                 rw [catB_step ps k hlk, show ps[k] = ⟨#[9]⟩ ++ valueB ⟨pn, pm⟩ from by rw [List.getElem?_eq_getElem hlk] at hpi; exact Option.some.inj hpi, HBE.out, ByteArray.append_assoc]
                 rfl
                obtain ⟨z, hzz⟩ : ∃ z, numB pm = z := ⟨_, rfl⟩
                simp only [hzz] at hval hnx0 hnb
                have HNX := Lib.hid hnx0
                have HV := Lib.hid hval
                have HBW := Lib.hid hB
                clear hel hcell hpr hpi hpe hpm hFb hval hzz hlk hnx0 hkz HBE hB
                go_upto_region 19 with fail
                have K := @rg' Tryz.prog wr
                have HKV := Lib.hid (K HV.out)
                clear K
                have zh8 := fun d os => cell_regrown h8 d os
                have zg0 := fun d os => cell_regrown g0 d os
                have zg1 := fun d os => cell_regrown g1 d os
                refine wp_region_quiet_below (by kernel_rfl) (by kernel_rfl) ?_
                repeat (go_big_quiet_step (with_reducible exact HKV.out _))
                refine wpQuiet_nil ?_
                intro wq hwq
                have hbq := below_of_regrown hwq
                clear hwq
                go_wp2_with fail
                go_roundw
                case rel => exact ⟨k + 1, by omega, by go_num, Lib.hid ⟨_, rfl, by rw [← HNX.out]; simp only [ByteArray.append_assoc]⟩, Lib.hid (bt HBW.out hbq)⟩
                case measure => simp [intOf]; omega
              have : k = x_props.length := by omega
              subst this
              have hki : decide ((x_props.length : Int) < (x_props.length : Int)) = false := by simp
              obtain rfl : B = A8 := by rw [HBE.out, List.take_of_length_le (by rw [HPL.out]; exact Nat.le_refl _), HA8.out]
              clear hkz HBE HRP HPI
              go_wp2_with fail
              go_loopw [3, 5] (fun v i wr => ∃ k : Nat, k ≤ x_exits.length ∧ i = .int .i64 k ∧ Hid (∃ Bk, v = .string Bk ∧ Bk = (B ++ catB (es.take k))) ∧ Hid (Below W1.heap.size W1 wr)) (fun _ i _ => x_exits.length - (intOf i).toNat)
              case atStart => exact ⟨0, Nat.zero_le _, rfl, Lib.hid ⟨_, rfl, by simp [catB, app_emp]⟩, hB⟩
              case round =>
               clear hqt h0 h1 h2 h3 h4 h5 h6 h7 h8 h9 hB
               obtain ⟨k, hk, rfl, hA0, hB0⟩ := hrel
               obtain ⟨Bk, rfl, hBe⟩ := hA0.out
               have hB := hB0.out
               have HBE := Lib.hid hBe
               have hkz := catB_take_le es k
               have hBz : Bk.size ≤ 1000000000000 := by rw [hBe, ByteArray.size_append]; have := HZ9.out; omega
               clear hA0 hB0 hBe
               obtain ⟨hq, hqt⟩ := hE.out wr (hB)
               obtain ⟨h0, h1, h2, h3, h4, h5, h6, h7, h8, h9⟩ := p9' hq.2
               clear hq
               by_cases hlt : k < x_exits.length
               · obtain ⟨bb, off, rfl, hFb, hel⟩ := H9.out (by omega)
                 obtain ⟨cs, hx, -, hcell⟩ := hel wr (hqt.block bb (HF.out bb hFb)) k hlt
                 have hpr := HRE.out.2 _ (List.getElem_mem hlt)
                 have hpi := HEI.out k hlt
                 obtain ⟨p, hpe⟩ : ∃ p, x_exits[k] = p := ⟨_, rfl⟩
                 rw [hpe] at hx hpr hpi
                 obtain ⟨ed, eto, eels, x_cond⟩ := p
                 obtain ⟨-, -, -, ve, rfl, hcd⟩ := hx
                 simp only at hpr hcell hcd
                 obtain ⟨ea, ec, rfl⟩ := hcd.shape
                 obtain ⟨hd1, hd2, hto, htx, hwn⟩ := hpr
                 dsimp only at hd1 hd2 hto htx hwn
                 obtain ⟨j, rfl⟩ : ∃ j : Nat, ed = (j : Int) := ⟨ed.toNat, by omega⟩
                 have q0 := hcell 0 _ rfl
                 have q1' := hcell 1 _ rfl
                 have q2' := hcell 2 _ rfl
                 have q3' := hcell 3 _ rfl
                 simp only [Nat.add_zero] at q0
                 have hki : (k : Int) < (x_exits.length : Int) := by omega
                 have hki0 : (0 : Int) ≤ (k : Int) := by omega
                 have hbw : bb < wr.heap.size := Nat.lt_of_lt_of_le (HF.out bb hFb) hqt.size
                 obtain ⟨we, hwe⟩ : ∃ we, wr.alloc (.cells #[.int .i64 (j : Int), .string eto, .string eels, .slice ea x_cond.length ec] 121) = we := ⟨_, rfl⟩
                 have hbe := ba' hwe
                 have hbxe := bn' hwe
                 have hb9 := bt hqt hbe
                 have hX : Hid (∀ W, Below we.heap.size we W → BoxAt W wr.heap.size [.int .i64 (j : Int), .string eto, .string eels, .slice ea x_cond.length ec] ∧ Below w.heap.size w W) := fun W hW => ⟨hbxe.below hW hbxe.1, bt hb9 hW⟩
                 have hlk : k < es.length := by rw [HEL.out]; exact hlt
                 have hnx0 : (B ++ catB (es.take k)) ++ exitB ⟨(j : Int), eto, eels, x_cond⟩ = (B ++ catB (es.take (k + 1))) := by
                  rw [catB_step es k hlk, show es[k] = exitB ⟨(j : Int), eto, eels, x_cond⟩ from by rw [List.getElem?_eq_getElem hlk] at hpi; exact Option.some.inj hpi, ByteArray.append_assoc]
                 have hxz := congrArg ByteArray.size hnx0
                 have hkz2 := catB_take_le es (k + 1)
                 simp only [exitB, ByteArray.size_append] at hxz
                 have hcz : (condB x_cond).size ≤ 1000000000000 := by have := HZ9.out; omega
                 have hcnd := fun (W : World) (hW : Below we.heap.size we W) => condR_calls x_cond F W _ (HF.out.below (bt hb9 hW)) (by have := hwn.1; omega) (fun e he => right_src (hwn.2 e he)) (fun e he hk => by
                  have h := hwn.2 e he
                  rcases hk with h2 | h2 | h2
                  · exact h.1 h2
                  · exact h.2.1 h2
                  have h3 := src_kind (right_src h); omega) hcz (hcd.below HF.out (bt hb9 hW) (Nat.le_refl _))
                 have hqe := fun (W : World) => quoteR_calls eels W (by have := htx.1; omega)
                 have hqz := quote_sz htx
                 have hnt := isName_size hto
                 have hdz := dirB_sz (j : Int)
                 have hdj : dirs13.getD j ⟨#[]⟩ = dirB (j : Int) := by
                  have h1 : ((j : Int) - 1).toNat = j - 1 := by omega
                  unfold dirB
                  rw [h1]
                  obtain ⟨j', rfl⟩ : ∃ j', j = j' + 1 := ⟨j - 1, by omega⟩
                  rfl
                 have hnx1 : Bk ++ (⟨#[9, 101, 120, 105, 116, 32]⟩ ++ dirB (j : Int) ++ ⟨#[32, 116, 111, 32]⟩ ++ eto ++ condB x_cond) ++ emB eels (⟨#[32, 101, 108, 115, 101, 32]⟩ ++ quoteB eels) ++ ⟨#[59, 10]⟩ = (B ++ catB (es.take (k + 1))) := by
                  rw [← hnx0, HBE.out]; simp only [exitB, ByteArray.append_assoc]
                 have hz3 : Bk.size + (6 + (dirB (j : Int)).size + 4 + eto.size + (condB x_cond).size) ≤ 1000000000000 := by
                  have h5 := HZ9.out
                  have h6 := congrArg ByteArray.size HBE.out
                  have e1 : (⟨#[9, 101, 120, 105, 116, 32]⟩ : ByteArray).size = 6 := rfl
                  have e2 : (⟨#[32, 116, 111, 32]⟩ : ByteArray).size = 4 := rfl
                  rw [ByteArray.size_append] at h6
                  omega
                 obtain ⟨dz, hdd⟩ : ∃ z, dirB (j : Int) = z := ⟨_, rfl⟩
                 obtain ⟨cz, hcc2⟩ : ∃ z, condB x_cond = z := ⟨_, rfl⟩
                 obtain ⟨qe, hqq⟩ : ∃ z, quoteB eels = z := ⟨_, rfl⟩
                 obtain ⟨E, hEe⟩ : ∃ z, emB eels (⟨#[32, 101, 108, 115, 101, 32]⟩ ++ quoteB eels) = z := ⟨_, rfl⟩
                 have hEz : E.size ≤ 2060 := by
                  have h := emB_sz eels (⟨#[32, 101, 108, 115, 101, 32]⟩ ++ quoteB eels)
                  have e : (⟨#[32, 101, 108, 115, 101, 32]⟩ : ByteArray).size = 6 := rfl
                  rw [hEe, ByteArray.size_append] at h
                  omega
                 have hEt : Hid (eels ≠ ⟨#[]⟩ → E = ⟨#[32, 101, 108, 115, 101, 32]⟩ ++ qe) := fun h => by rw [← hEe, ← hqq]; unfold emB; rw [if_neg h]
                 have hEf : Hid (eels = ⟨#[]⟩ → E = ⟨#[]⟩) := fun h => by rw [← hEe]; unfold emB; rw [if_pos h]
                 rw [hEe, hdd, hcc2] at hnx1
                 rw [hqq] at hqz
                 rw [hdd] at hdz hdj
                 rw [hcc2] at hcz
                 rw [hdd, hcc2] at hz3
                 simp only [hcc2] at hcnd; simp only [hqq] at hqe
                 obtain ⟨B1, hB1⟩ : ∃ B, (Bk ++ ⟨#[9, 101, 120, 105, 116, 32]⟩ ++ dz ++ ⟨#[32, 116, 111, 32]⟩ ++ eto ++ cz) = B := ⟨_, rfl⟩
                 obtain ⟨B2, hB2⟩ : ∃ B, B1 ++ E = B := ⟨_, rfl⟩
                 have hnx2 : B2 ++ ⟨#[59, 10]⟩ = (B ++ catB (es.take (k + 1))) := by
                  rw [← hnx1, ← hB2, ← hB1]; simp only [ByteArray.append_assoc]
                 have v1 : B1.size ≤ 1000000000000 := by
                  have e1 : (⟨#[9, 101, 120, 105, 116, 32]⟩ : ByteArray).size = 6 := rfl
                  have e2 : (⟨#[32, 116, 111, 32]⟩ : ByteArray).size = 4 := rfl
                  rw [← hB1]; simp only [ByteArray.size_append]; omega
                 have v2 : B2.size ≤ 1000000003000 := by rw [← hB2, ByteArray.size_append]; omega
                 have HDJ : Hid (∀ W bk, DirAt W bk → W.cell? ⟨bk, j, none⟩ = some (.string dz)) := fun W bk h => by rw [h.2 j (by omega), hdj]
                 have HC := Lib.hid hcnd; have HQE := Lib.hid hqe
                 have HWE := Lib.hid hwe; have HNX := Lib.hid hnx2; have HB1 := Lib.hid hB1; have HB2 := Lib.hid hB2
                 have HBW := Lib.hid (bt hB hbe)
                 have hj13 : (j : Int) < 13 := by omega
                 have hj0 : (0 : Int) ≤ (j : Int) := by omega
                 clear hel hcell hpi hpe hFb hbe hbxe hb9 hcnd hqe hlk hkz hkz2 hxz hnx0 hnx1 hnx2 hcd hd1 hd2 hto htx hwn hEe hdd hcc2 hqq hB1 hB2 HBE hB hdj hwe
                 go_upto_region 24 with fail
                 rw [HWE.out]
                 clear q0 q1' q2' q3' hqt h0 h1 h2 h3 h4 h5 h6 h7 h8 h9
                 obtain ⟨hx9, hxb⟩ := hX.out we (Below.refl _ _)
                 obtain ⟨q0, q1', q2', q3'⟩ := p3' hx9.2
                 clear hx9
                 go_cut [3] (fun v wc => v = .string B1 ∧ Hid (Below we.heap.size we wc))
                 case first =>
                  have hsk : Hid (∀ W, Below we.heap.size we W → W.cell? ⟨wr.heap.size, 0, none⟩ = some (.int .i64 (j : Int)) ∧ W.cell? ⟨wr.heap.size, 1, none⟩ = some (.string eto) ∧ W.cell? ⟨wr.heap.size, 3, none⟩ = some (.slice ea x_cond.length ec)) := fun W hW => by
                   obtain ⟨hx9, -⟩ := hX.out W hW
                   have q0 := hx9.2 0 (by simp); have q1' := hx9.2 1 (by simp); have q3' := hx9.2 3 (by simp)
                   simp only [cqs, cqz] at q0 q1' q3'
                   exact ⟨q0, q1', q3'⟩
                  have HC2 : Hid (∀ W, Below we.heap.size we W → Calls Tryz.prog 123 #[.slice ea x_cond.length ec] W (Gives W (.string cz))) := HC.out
                  have z1 : (⟨#[9, 101, 120, 105, 116, 32]⟩ : ByteArray).size = 6 := rfl
                  have z2 : (⟨#[32, 116, 111, 32]⟩ : ByteArray).size = 4 := rfl
                  have nA : ¬ 9223372036854775807 < Bk.size + 6 := by omega
                  have nB : ¬ 9223372036854775807 < Bk.size + 6 + dz.size := by omega
                  have nC : ¬ 9223372036854775807 < Bk.size + 6 + dz.size + 4 := by omega
                  have nD : ¬ 9223372036854775807 < Bk.size + 6 + dz.size + 4 + eto.size := by omega
                  have nE : ¬ 9223372036854775807 < Bk.size + 6 + dz.size + 4 + eto.size + cz.size := by omega
                  clear q0 q1' q2' q3' hxb
                  refine wp_region_held_drew (S := fun W => Below we.heap.size we W) (by kernel_rfl) (Below.refl _ _).drew (fun hHeld => ?_)
                  have h0 : Below we.heap.size we we.drew := (Below.refl _ _).drew
                  refine wpAnyH_take (i := 0) (v := .string Bk) rfl (by kernel_rfl) (by kernel_rfl) (by kernel_rfl) (fun _ _ _ h => h) (Or.inl ⟨by rfl, ?_⟩) (by assumption) ?_
                  · intro W hW
                    go_simp
                  simp only [Act.put]
                  refine wpAnyH_take (i := 1) (v := .string (Bk ++ ⟨#[9, 101, 120, 105, 116, 32]⟩)) rfl (by kernel_rfl) (by kernel_rfl) (by kernel_rfl) (fun _ _ _ h => h) (Or.inl ⟨by rfl, ?_⟩) (by assumption) ?_
                  · intro W hW
                    go_simp
                  simp only [Act.put]
                  refine wpAnyH_take (i := 3) (v := .pointer (some ⟨wr.heap.size, 0, none⟩)) rfl (by kernel_rfl) (by kernel_rfl) (by kernel_rfl) (fun _ _ _ h => h) (Or.inl ⟨by rfl, ?_⟩) (by assumption) ?_
                  · intro W hW
                    go_simp
                  simp only [Act.put]
                  refine wpAnyH_take (i := 4) (v := .int .i64 (j : Int)) rfl (by kernel_rfl) (by kernel_rfl) (by kernel_rfl) (fun _ _ _ h => h) (Or.inl ⟨by rfl, ?_⟩) (by assumption) ?_
                  · intro W hW
                    obtain ⟨q0, q1', q3'⟩ := hsk.out W hW
                    go_simp
                  simp only [Act.put]
                  refine wpAnyH_take (i := 9) (v := .pointer (some ⟨wr.heap.size, 1, none⟩)) rfl (by kernel_rfl) (by kernel_rfl) (by kernel_rfl) (fun _ _ _ h => h) (Or.inl ⟨by rfl, ?_⟩) (by assumption) ?_
                  · intro W hW
                    go_simp
                  simp only [Act.put]
                  refine wpAnyH_take (i := 10) (v := .string eto) rfl (by kernel_rfl) (by kernel_rfl) (by kernel_rfl) (fun _ _ _ h => h) (Or.inl ⟨by rfl, ?_⟩) (by assumption) ?_
                  · intro W hW
                    obtain ⟨q0, q1', q3'⟩ := hsk.out W hW
                    go_simp
                  simp only [Act.put]
                  refine wpAnyH_take (i := 12) (v := .pointer (some ⟨wr.heap.size, 3, none⟩)) rfl (by kernel_rfl) (by kernel_rfl) (by kernel_rfl) (fun _ _ _ h => h) (Or.inl ⟨by rfl, ?_⟩) (by assumption) ?_
                  · intro W hW
                    go_simp
                  simp only [Act.put]
                  refine wpAnyH_take (i := 13) (v := .slice ea x_cond.length ec) rfl (by kernel_rfl) (by kernel_rfl) (by kernel_rfl) (fun _ _ _ h => h) (Or.inl ⟨by rfl, ?_⟩) (by assumption) ?_
                  · intro W hW
                    obtain ⟨q0, q1', q3'⟩ := hsk.out W hW
                    go_simp
                  simp only [Act.put]
                  refine wpAnyH_ready (rs := [2]) (by kernel_rfl) (by simp) ?_
                  refine AllReadyH.cons rfl (fun K hK => ?_) (AllReadyH.nil)
                  · go_simp
                    refine (dirsR_at (we.drew)).mono ?_
                    rintro e v1 ⟨bk, rfl, hbox, hbv1⟩
                    have Hv1 := bt h0 hbv1
                    have hbx_v1 := hbox
                    refine hK.out _ _ Hv1 (fun hHeld => ?_)
                    clear hK K
                    refine wpAnyH_take (i := 5) (v := .pointer (some ⟨bk, j, none⟩)) rfl (by kernel_rfl) (by kernel_rfl) (by kernel_rfl) (fun _ _ _ h => h) (Or.inl ⟨by rfl, ?_⟩) (by assumption) ?_
                    · intro W hW
                      go_simp
                    simp only [Act.put]
                    refine wpAnyH_ready (rs := [6, 14]) (by kernel_rfl) (by simp) ?_
                    refine AllReadyH.cons rfl (fun K hK => ?_) (AllReadyH.cons rfl (fun K hK => ?_) (AllReadyH.nil))
                    · have hcl := HDJ.out _ _ (by assumption)
                      go_simp
                      refine hK.out _ _ Hv1 (fun hHeld => ?_)
                      clear hK K
                      refine wpAnyH_take (i := 7) (v := .string (Bk ++ ⟨#[9, 101, 120, 105, 116, 32]⟩ ++ dz)) rfl (by kernel_rfl) (by kernel_rfl) (by kernel_rfl) (fun _ _ _ h => h) (Or.inl ⟨by rfl, ?_⟩) (by assumption) ?_
                      · intro W hW
                        go_simp
                      simp only [Act.put]
                      refine wpAnyH_take (i := 8) (v := .string (Bk ++ ⟨#[9, 101, 120, 105, 116, 32]⟩ ++ dz ++ ⟨#[32, 116, 111, 32]⟩)) rfl (by kernel_rfl) (by kernel_rfl) (by kernel_rfl) (fun _ _ _ h => h) (Or.inl ⟨by rfl, ?_⟩) (by assumption) ?_
                      · intro W hW
                        go_simp
                      simp only [Act.put]
                      refine wpAnyH_take (i := 11) (v := .string (Bk ++ ⟨#[9, 101, 120, 105, 116, 32]⟩ ++ dz ++ ⟨#[32, 116, 111, 32]⟩ ++ eto)) rfl (by kernel_rfl) (by kernel_rfl) (by kernel_rfl) (fun _ _ _ h => h) (Or.inl ⟨by rfl, ?_⟩) (by assumption) ?_
                      · intro W hW
                        go_simp
                      simp only [Act.put]
                      refine wpAnyH_ready (rs := [14]) (by kernel_rfl) (by simp) ?_
                      refine AllReadyH.cons rfl (fun K hK => ?_) (AllReadyH.nil)
                      · go_simp
                        refine (HC2.out _ Hv1).mono ?_
                        rintro e v2 ⟨rfl, hbv2⟩
                        have Hv2 := bt Hv1 hbv2
                        have hbx_v2 := DirAt.below hbx_v1 hbv2
                        refine hK.out _ _ Hv2 (fun hHeld => ?_)
                        clear hK K
                        refine wpAnyH_take (i := 15) (v := .string (Bk ++ ⟨#[9, 101, 120, 105, 116, 32]⟩ ++ dz ++ ⟨#[32, 116, 111, 32]⟩ ++ eto ++ cz)) rfl (by kernel_rfl) (by kernel_rfl) (by kernel_rfl) (fun _ _ _ h => h) (Or.inl ⟨by rfl, ?_⟩) (by assumption) ?_
                        · intro W hW
                          go_simp
                        simp only [Act.put]
                        refine wpAnyH_take (i := 16) (v := .string (Bk ++ ⟨#[9, 101, 120, 105, 116, 32]⟩ ++ dz ++ ⟨#[32, 116, 111, 32]⟩ ++ eto ++ cz)) rfl (by kernel_rfl) (by kernel_rfl) (by kernel_rfl) (fun _ _ _ h => h) (Or.inl ⟨by rfl, ?_⟩) (by assumption) ?_
                        · intro W hW
                          go_simp
                        simp only [Act.put]
                        refine wpAnyH_done (by kernel_rfl) ?_ _
                        go_simp
                        go_wp2_with fail
                        go_meet
                        exact ⟨by rw [HB1.out], Hv2⟩
                    go_simp
                    refine (HC2.out _ Hv1).mono ?_
                    rintro e v3 ⟨rfl, hbv3⟩
                    have Hv3 := bt Hv1 hbv3
                    have hbx_v3 := DirAt.below hbx_v1 hbv3
                    refine hK.out _ _ Hv3 (fun hHeld => ?_)
                    clear hK K
                    refine wpAnyH_ready (rs := [6]) (by kernel_rfl) (by simp) ?_
                    refine AllReadyH.cons rfl (fun K hK => ?_) (AllReadyH.nil)
                    · have hcl := HDJ.out _ _ (by assumption)
                      go_simp
                      refine hK.out _ _ Hv3 (fun hHeld => ?_)
                      clear hK K
                      refine wpAnyH_take (i := 7) (v := .string (Bk ++ ⟨#[9, 101, 120, 105, 116, 32]⟩ ++ dz)) rfl (by kernel_rfl) (by kernel_rfl) (by kernel_rfl) (fun _ _ _ h => h) (Or.inl ⟨by rfl, ?_⟩) (by assumption) ?_
                      · intro W hW
                        go_simp
                      simp only [Act.put]
                      refine wpAnyH_take (i := 8) (v := .string (Bk ++ ⟨#[9, 101, 120, 105, 116, 32]⟩ ++ dz ++ ⟨#[32, 116, 111, 32]⟩)) rfl (by kernel_rfl) (by kernel_rfl) (by kernel_rfl) (fun _ _ _ h => h) (Or.inl ⟨by rfl, ?_⟩) (by assumption) ?_
                      · intro W hW
                        go_simp
                      simp only [Act.put]
                      refine wpAnyH_take (i := 11) (v := .string (Bk ++ ⟨#[9, 101, 120, 105, 116, 32]⟩ ++ dz ++ ⟨#[32, 116, 111, 32]⟩ ++ eto)) rfl (by kernel_rfl) (by kernel_rfl) (by kernel_rfl) (fun _ _ _ h => h) (Or.inl ⟨by rfl, ?_⟩) (by assumption) ?_
                      · intro W hW
                        go_simp
                      simp only [Act.put]
                      refine wpAnyH_take (i := 15) (v := .string (Bk ++ ⟨#[9, 101, 120, 105, 116, 32]⟩ ++ dz ++ ⟨#[32, 116, 111, 32]⟩ ++ eto ++ cz)) rfl (by kernel_rfl) (by kernel_rfl) (by kernel_rfl) (fun _ _ _ h => h) (Or.inl ⟨by rfl, ?_⟩) (by assumption) ?_
                      · intro W hW
                        go_simp
                      simp only [Act.put]
                      refine wpAnyH_take (i := 16) (v := .string (Bk ++ ⟨#[9, 101, 120, 105, 116, 32]⟩ ++ dz ++ ⟨#[32, 116, 111, 32]⟩ ++ eto ++ cz)) rfl (by kernel_rfl) (by kernel_rfl) (by kernel_rfl) (fun _ _ _ h => h) (Or.inl ⟨by rfl, ?_⟩) (by assumption) ?_
                      · intro W hW
                        go_simp
                      simp only [Act.put]
                      refine wpAnyH_done (by kernel_rfl) ?_ _
                      go_simp
                      go_wp2_with fail
                      go_meet
                      exact ⟨by rw [HB1.out], Hv3⟩
                 case rest =>
                  obtain ⟨rfl, hB0⟩ := hcut
                  have hB := hB0.out
                  clear hB0 HB1 q0 q1' q2' q3' hxb HDJ HC
                  obtain ⟨hx9, hxb⟩ := hX.out wc (hB)
                  obtain ⟨q0, q1', q2', q3'⟩ := p3' hx9.2
                  clear hx9
                  go_upto_region 25 with fail
                  obtain ⟨wY, hwY⟩ : ∃ x : World, x = wc := ⟨_, rfl⟩
                  rw [← hwY] at hB hxb q0 q1' q2' q3' ⊢
                  clear hwY
                  go_cut [127] (fun v wc => Hid (∃ t : Bool, v = .bool t ∧ (t = true → E = ⟨#[32, 101, 108, 115, 101, 32]⟩ ++ qe) ∧ (t = false → E = ⟨#[]⟩) ∧ wY = wc))
                  case first =>
                   by_cases hn : eels = ⟨#[]⟩
                   · have hev : eels.toList.isEmpty = true := emp_t hn
                     have hf := Lib.hid (hEf.out hn)
                     clear hn
                     go_wp2_with fail
                     go_meet
                     exact ⟨false, rfl, fun h => (by cases h), fun _ => hf.out, rfl⟩
                   have hev : eels.toList.isEmpty = false := emp_f hn
                   have hf := Lib.hid (hEt.out hn)
                   clear hn
                   go_wp2_with fail
                   go_meet
                   exact ⟨true, rfl, fun _ => hf.out, fun h => (by cases h), rfl⟩
                  case rest =>
                   obtain ⟨t, rfl, hbt, hbf, rfl⟩ := hcut.out
                   have HBT := Lib.hid hbt; have HBF := Lib.hid hbf
                   clear hcut hbt hbf hEt hEf
                   go_upto_if 127 with fail
                   go_cut [3] (fun v wc => v = .string B2 ∧ Hid (Below we.heap.size we wc))
                   case first =>
                    cases t
                    · have hf := Lib.hid (HBF.out rfl)
                      go_wp2_with fail
                      go_meet
                      exact ⟨by rw [← HB2.out, hf.out, app_emp], hB⟩
                    have hf := Lib.hid (HBT.out rfl)
                    go_wp2_with (go_at_call 49; (with_reducible refine (HQE.out _).mono ?_); rintro e w4 ⟨rfl, hb4⟩)
                    go_meet
                    exact ⟨by rw [← HB2.out, hf.out]; simp only [ByteArray.append_assoc], bt hB hb4⟩
                   case rest =>
                    obtain ⟨rfl, hB0⟩ := hcut
                    have HBQ := Lib.hid hB0.out
                    clear hB0 HBT HBF HB2 q0 q1' q2' q3' hxb hB HQE
                    go_wp2_with fail
                    go_roundw
                    case rel => exact ⟨k + 1, by omega, by go_num, Lib.hid ⟨_, rfl, HNX.out⟩, Lib.hid (bt HBW.out HBQ.out)⟩
                    case measure => simp [intOf]; omega
               have : k = x_exits.length := by omega
               subst this
               have hki : decide ((x_exits.length : Int) < (x_exits.length : Int)) = false := by simp
               have hfin : Hid (Bk = A9) := Lib.hid (by rw [HBE.out, List.take_of_length_le (by rw [HEL.out]; exact Nat.le_refl _), HA9.out])
               have HQT := Lib.hid hqt
               clear hkz HBE HRE HEI hB hqt
               go_wp2_with fail
               go_ret
               exact ⟨ret_str (by rw [hfin.out, HR.out]), HQT.out⟩
end Go.Proofs.YtdeecfkipknkbaaGreatDoor
