/- clewref14.showRule and showVerb. Printed by gen-sh7.py. -/
import Derived.Test.YtdeecfkipknkbaaGreatDoorShT
namespace Go.Proofs.YtdeecfkipknkbaaGreatDoor
set_option maxRecDepth 100000
set_option maxHeartbeats 16000000
open Go.RowKit Go.Sort
theorem showRule_calls (F : Nat → Prop) (w : World) (x : RuleD) (cs : List Value) (hF : Inn F w) (hr : RuleR x) (hsz : (ruleT x).size ≤ 1000000000000) (hx : Holds.rule.R F w x cs) :
 Calls Tryz.prog 54 #[.agg cs.toArray] w (Gives w (.string (ruleT x))) := by
 obtain ⟨x_verb, x_phase, x_noun, x_second, x_cond, x_body⟩ := x
 obtain ⟨-, -, -, -, v4, v5, rfl, ka4, ka5⟩ := hx
 obtain ⟨hrv, hp1, hp3, hrn, hrs, hrc, hrb⟩ := hr
 simp only at ka4 ka5 hrv hp1 hp3 hrn hrs hrc hrb
 obtain ⟨d4, f4, rfl⟩ := ka4.shape
 obtain ⟨d5, f5, rfl⟩ := ka5.shape
 obtain ⟨j, rfl⟩ : ∃ j : Nat, x_phase = (j : Int) := ⟨x_phase.toNat, by omega⟩
 have hz := hsz
 simp only [ruleT, ByteArray.size_append] at hz
 have hCD := fun (W : World) (hW : Below w.heap.size w W) => condR_calls x_cond F W _ (hF.below hW) (by have := hrc.1; omega) (fun e he => right_src (hrc.2 e he)) (fun e he hk => by
  have h := hrc.2 e he
  rcases hk with h2 | h2 | h2
  · exact h.1 h2
  · exact h.2.1 h2
  have h3 := src_kind (right_src h); omega) (by omega) (ka4.below hF hW (Nat.le_refl _))
 have hPB := fun (W : World) (hW : Below w.heap.size w W) => blkAllR_calls x_body F W _ (0 : Int) (hF.below hW) (rightB_ok hrb) (by show (St.blk x_body 0).size ≤ _; omega) (ka5.below hF hW (Nat.le_refl _))
 have hc0 : clip (0 : Int) = 0 := rfl
 simp only [hc0] at hPB
 have hzv := isName_size hrv
 have hzn := maybe_sz hrn
 have hzs := maybe_sz hrs
 have hzw := whichW_sz hrn hrs
 have hzp := phaseW_sz (j : Int)
 have e0 : ruleT ⟨x_verb, (j : Int), x_noun, x_second, x_cond, x_body⟩ = phaseW (j : Int) ++ x_verb ++ whichW x_noun x_second ++ condB x_cond ++ ⟨#[32]⟩ ++ St.blk x_body 0 ++ ⟨#[10]⟩ := rfl
 rw [e0]
 obtain ⟨pz, hpz⟩ : ∃ z, phaseW (j : Int) = z := ⟨_, rfl⟩
 obtain ⟨E2, hE2⟩ : ∃ z, whichW x_noun x_second = z := ⟨_, rfl⟩
 obtain ⟨cz, hcz⟩ : ∃ z, condB x_cond = z := ⟨_, rfl⟩
 obtain ⟨bz, hbz⟩ : ∃ z, St.blk x_body 0 = z := ⟨_, rfl⟩
 obtain ⟨k2, hk2⟩ : ∃ z, (if x_noun = ⟨#[]⟩ then (⟨#[97, 110, 121]⟩ : ByteArray) else x_noun) = z := ⟨_, rfl⟩
 have hkz : k2.size ≤ 24 := by rw [← hk2]; split; decide; omega
 have HK2t : Hid (x_noun = ⟨#[]⟩ → k2 = ⟨#[97, 110, 121]⟩) := fun h => by rw [← hk2, if_pos h]
 have HK2f : Hid (x_noun ≠ ⟨#[]⟩ → k2 = x_noun) := fun h => by rw [← hk2, if_neg h]
 have HWs : Hid (x_second ≠ ⟨#[]⟩ → E2 = ⟨#[40]⟩ ++ k2 ++ ⟨#[44, 32]⟩ ++ x_second ++ ⟨#[41]⟩) := fun h => by rw [← hE2, ← hk2]; unfold whichW; rw [if_neg h]
 have HWn : Hid (x_second = ⟨#[]⟩ → x_noun ≠ ⟨#[]⟩ → E2 = ⟨#[40]⟩ ++ k2 ++ ⟨#[41]⟩) := fun h h2 => by rw [← hE2, ← hk2]; unfold whichW; rw [if_pos h, if_neg h2, if_neg h2]
 have HW0 : Hid (x_second = ⟨#[]⟩ → x_noun = ⟨#[]⟩ → E2 = ⟨#[]⟩) := fun h h2 => by rw [← hE2]; unfold whichW; rw [if_pos h, if_pos h2]
 have HOP : Hid (∀ (bk : Nat) (W : World), BoxAt W bk [.string ⟨#[]⟩, .string ⟨#[98, 101, 102, 111, 114, 101, 32]⟩, .string ⟨#[111, 110, 32]⟩, .string ⟨#[97, 102, 116, 101, 114, 32]⟩] → W.cell? ⟨bk, j, none⟩ = some (.string pz)) := fun bk W hb => by
  have hj : j = 1 ∨ j = 2 ∨ j = 3 := by omega
  rw [← hpz]
  rcases hj with rfl | rfl | rfl
  · exact hb.2 1 (by simp)
  · exact hb.2 2 (by simp)
  exact hb.2 3 (by simp)
 rw [hpz] at hzp; rw [hE2] at hzw
 rw [hpz, hE2, hcz, hbz] at hz ⊢
 simp only [hcz] at hCD; simp only [hbz] at hPB
 obtain ⟨A1, hA1⟩ : ∃ z, pz ++ x_verb = z := ⟨_, rfl⟩
 obtain ⟨A2, hA2⟩ : ∃ z, A1 ++ E2 = z := ⟨_, rfl⟩
 rw [hA1, hA2]
 obtain ⟨r, hr2⟩ : ∃ r, A2 ++ cz ++ ⟨#[32]⟩ ++ bz ++ ⟨#[10]⟩ = r := ⟨_, rfl⟩
 rw [hr2]
 have s1 : A1.size ≤ 40 := by rw [← hA1, ByteArray.size_append]; omega
 have s2 : A2.size ≤ 100 := by rw [← hA2, ByteArray.size_append]; omega
 have hczz : cz.size ≤ 1000000000000 := by omega
 have hbzz : bz.size ≤ 1000000000000 := by omega
 obtain ⟨W1, hW1⟩ : ∃ W, w.alloc (.cells #[.string x_verb, .int .i64 (j : Int), .string x_noun, .string x_second, .slice d4 x_cond.length f4, .slice d5 x_body.length f5] 70) = W := ⟨_, rfl⟩
 have hb1 := ba' hW1
 have hbx1 := bn' hW1
 have hE : Hid (∀ W, Below W1.heap.size W1 W → BoxAt W w.heap.size [.string x_verb, .int .i64 (j : Int), .string x_noun, .string x_second, .slice d4 x_cond.length f4, .slice d5 x_body.length f5] ∧ Below w.heap.size w W) := fun W hW => ⟨hbx1.below hW hbx1.1, bt hb1 hW⟩
 have HW1 := Lib.hid hW1
 have HCD := Lib.hid hCD; have HPB := Lib.hid hPB; have HA1 := Lib.hid hA1; have HA2 := Lib.hid hA2; have HR := Lib.hid hr2
 have hj1 : (j : Int) < 4 := by omega
 have hj2 : (0 : Int) ≤ (j : Int) := by omega
 clear hW1 hb1 hbx1 hCD hPB ka4 ka5 hrv hp1 hp3 hrn hrs hrc hrb hz hsz e0 hpz hE2 hcz hbz hk2 hA1 hA2 hr2 hF hzw hc0
 go_enter Tryz.func54, Tryz.ntmps54
 go_upto_region 1 with fail
 rw [HW1.out]
 go_cut [3] (fun v wc => v = .string A1 ∧ Hid (Below W1.heap.size W1 wc))
 case first =>
  have hsk : Hid (∀ W, Below W1.heap.size W1 W → W.cell? ⟨w.heap.size, 1, none⟩ = some (.int .i64 (j : Int)) ∧ W.cell? ⟨w.heap.size, 0, none⟩ = some (.string x_verb)) := fun W hW => by
   obtain ⟨hq, -⟩ := hE.out W hW
   have y0 := hq.2 0 (by simp); have y1 := hq.2 1 (by simp)
   simp only [cqs, cqz] at y0 y1
   exact ⟨y1, y0⟩
  have nA : ¬ 9223372036854775807 < pz.size + x_verb.size := by omega
  refine wp_region_held_drew (S := fun W => Below W1.heap.size W1 W) (by kernel_rfl) (Below.refl _ _).drew (fun hHeld => ?_)
  have h0 : Below W1.heap.size W1 W1.drew := (Below.refl _ _).drew
  refine wpAnyH_take (i := 1) (v := .pointer (some ⟨w.heap.size, 1, none⟩)) rfl (by kernel_rfl) (by kernel_rfl) (by kernel_rfl) (fun _ _ _ h => h) (Or.inl ⟨by rfl, ?_⟩) (by assumption) ?_
  · intro W hW
    go_simp
  simp only [Act.put]
  refine wpAnyH_take (i := 2) (v := .int .i64 (j : Int)) rfl (by kernel_rfl) (by kernel_rfl) (by kernel_rfl) (fun _ _ _ h => h) (Or.inl ⟨by rfl, ?_⟩) (by assumption) ?_
  · intro W hW
    obtain ⟨k1, k0⟩ := hsk.out W hW
    go_simp
  simp only [Act.put]
  refine wpAnyH_take (i := 5) (v := .pointer (some ⟨w.heap.size, 0, none⟩)) rfl (by kernel_rfl) (by kernel_rfl) (by kernel_rfl) (fun _ _ _ h => h) (Or.inl ⟨by rfl, ?_⟩) (by assumption) ?_
  · intro W hW
    go_simp
  simp only [Act.put]
  refine wpAnyH_take (i := 6) (v := .string x_verb) rfl (by kernel_rfl) (by kernel_rfl) (by kernel_rfl) (fun _ _ _ h => h) (Or.inl ⟨by rfl, ?_⟩) (by assumption) ?_
  · intro W hW
    obtain ⟨k1, k0⟩ := hsk.out W hW
    go_simp
  simp only [Act.put]
  refine wpAnyH_ready (rs := [0]) (by kernel_rfl) (by simp) ?_
  refine AllReadyH.cons rfl (fun K hK => ?_) (AllReadyH.nil)
  · go_simp
    obtain ⟨v1, hvv1⟩ : ∃ X, (W1.alloc (.cells #[.string ⟨#[]⟩, .string ⟨#[98, 101, 102, 111, 114, 101, 32]⟩, .string ⟨#[111, 110, 32]⟩, .string ⟨#[97, 102, 116, 101, 114, 32]⟩] 9)).drew = X := ⟨_, rfl⟩
    rw [hvv1]
    have Hv1 : Below W1.heap.size W1 v1 := by rw [← hvv1]; exact ((Below.refl _ _).alloc (Nat.le_refl _) _).drew
    have hbx_v1 : BoxAt v1 (W1.heap.size) [.string ⟨#[]⟩, .string ⟨#[98, 101, 102, 111, 114, 101, 32]⟩, .string ⟨#[111, 110, 32]⟩, .string ⟨#[97, 102, 116, 101, 114, 32]⟩] := by rw [← hvv1]; exact box_drew (BoxAt.new _ _ _)
    refine hK.out _ _ Hv1 (fun hHeld => ?_)
    clear hK K hvv1
    refine wpAnyH_take (i := 3) (v := .pointer (some ⟨W1.heap.size, j, none⟩)) rfl (by kernel_rfl) (by kernel_rfl) (by kernel_rfl) (fun _ _ _ h => h) (Or.inl ⟨by rfl, ?_⟩) (by assumption) ?_
    · intro W hW
      go_simp
    simp only [Act.put]
    refine wpAnyH_ready (rs := [4]) (by kernel_rfl) (by simp) ?_
    refine AllReadyH.cons rfl (fun K hK => ?_) (AllReadyH.nil)
    · have hcl := HOP.out _ _ (by assumption : BoxAt (v1) _ _)
      go_simp
      refine hK.out _ _ Hv1 (fun hHeld => ?_)
      clear hK K
      refine wpAnyH_take (i := 7) (v := .string (pz ++ x_verb)) rfl (by kernel_rfl) (by kernel_rfl) (by kernel_rfl) (fun _ _ _ h => h) (Or.inl ⟨by rfl, ?_⟩) (by assumption) ?_
      · intro W hW
        go_simp
      simp only [Act.put]
      refine wpAnyH_take (i := 8) (v := .string (pz ++ x_verb)) rfl (by kernel_rfl) (by kernel_rfl) (by kernel_rfl) (fun _ _ _ h => h) (Or.inl ⟨by rfl, ?_⟩) (by assumption) ?_
      · intro W hW
        go_simp
      simp only [Act.put]
      refine wpAnyH_done (by kernel_rfl) ?_ _
      go_simp
      go_wp2_with fail
      go_meet
      exact ⟨by rw [HA1.out], Hv1⟩
 case rest =>
  obtain ⟨rfl, hB0⟩ := hcut
  have hB := hB0.out
  clear hB0 HA1 HOP
  obtain ⟨hq, hqt⟩ := hE.out wc (hB)
  obtain ⟨y0, y1, y2, y3, y4, y5⟩ := p5' hq.2
  clear hq
  go_upto_region 3 with fail
  obtain ⟨wY, hwY⟩ : ∃ x : World, x = wc := ⟨_, rfl⟩
  rw [← hwY] at hB hqt y0 y1 y2 y3 y4 y5 ⊢
  clear hwY
  go_cut [16] (fun v wd => Hid (∃ t : Bool, v = .bool t ∧ (t = true → x_noun = ⟨#[]⟩) ∧ (t = false → x_noun ≠ ⟨#[]⟩) ∧ wY = wd))
  case first =>
   by_cases hn : x_noun = ⟨#[]⟩
   · have hev : x_noun.toList.isEmpty = true := emp_t hn
     have hf := Lib.hid hn
     clear hn
     go_wp2_with fail
     go_meet
     exact ⟨true, rfl, fun _ => hf.out, fun h => (by cases h), rfl⟩
   have hev : x_noun.toList.isEmpty = false := emp_f hn
   have hf := Lib.hid hn
   clear hn
   go_wp2_with fail
   go_meet
   exact ⟨false, rfl, fun h => (by cases h), fun _ => hf.out, rfl⟩
  case rest =>
   obtain ⟨t, rfl, hbt, hbf, rfl⟩ := hcut.out
   have HBT := Lib.hid hbt; have HBF := Lib.hid hbf
   clear hcut hbt hbf
   go_upto_if 16 with fail
   go_cut [4] (fun v wd => v = .string k2 ∧ wY = wd)
   case first =>
    cases t
    · have hf := Lib.hid (HK2f.out (HBF.out rfl))
      go_wp2_with fail
      go_meet
      exact ⟨by rw [hf.out], rfl⟩
    have hf := Lib.hid (HK2t.out (HBT.out rfl))
    go_wp2_with fail
    go_meet
    exact ⟨by rw [hf.out], rfl⟩
   case rest =>
    obtain ⟨rfl, rfl⟩ := hcut
    clear HBT HBF HK2t HK2f
    go_upto_region 5 with fail
    go_cut [19] (fun v wd => Hid (∃ t : Bool, v = .bool t ∧ (t = true → x_second ≠ ⟨#[]⟩) ∧ (t = false → x_second = ⟨#[]⟩) ∧ wY = wd))
    case first =>
     by_cases hn : x_second = ⟨#[]⟩
     · have hev : x_second.toList.isEmpty = true := emp_t hn
       have hf := Lib.hid hn
       clear hn
       go_wp2_with fail
       go_meet
       exact ⟨false, rfl, fun h => (by cases h), fun _ => hf.out, rfl⟩
     have hev : x_second.toList.isEmpty = false := emp_f hn
     have hf := Lib.hid hn
     clear hn
     go_wp2_with fail
     go_meet
     exact ⟨true, rfl, fun _ => hf.out, fun h => (by cases h), rfl⟩
    case rest =>
     obtain ⟨t, rfl, hbt, hbf, rfl⟩ := hcut.out
     have HBT := Lib.hid hbt; have HBF := Lib.hid hbf
     clear hcut hbt hbf
     go_upto_if 19 with fail
     go_cut [3] (fun v wd => v = .string A2 ∧ wY = wd)
     case first =>
      cases t
      · by_cases hn : x_noun = ⟨#[]⟩
        · have hev : x_noun.toList.isEmpty = true := emp_t hn
          have hf := Lib.hid (HW0.out (HBF.out rfl) hn)
          clear hn
          go_wp2_with fail
          go_meet
          exact ⟨by rw [← HA2.out, hf.out, app_emp], rfl⟩
        have hev : x_noun.toList.isEmpty = false := emp_f hn
        have hf := Lib.hid (HWn.out (HBF.out rfl) hn)
        clear hn
        go_wp2_with fail
        go_meet
        exact ⟨by rw [← HA2.out, hf.out]; simp only [ByteArray.append_assoc], rfl⟩
      have hf := Lib.hid (HWs.out (HBT.out rfl))
      go_wp2_with fail
      go_meet
      exact ⟨by rw [← HA2.out, hf.out]; simp only [ByteArray.append_assoc], rfl⟩
     case rest =>
      obtain ⟨rfl, rfl⟩ := hcut
      clear HBT HBF HW0 HWn HWs HA2
      go_upto_region 9 with fail
      have K := @rg' Tryz.prog wY
      have HB1 := Lib.hid hB
      have HKC := Lib.hid (K (fun W hW => HCD.out W (bt hqt hW)))
      have HKB := Lib.hid (K (fun W hW => HPB.out W (bt hqt hW)))
      clear K
      have z4 := fun d os => cell_regrown y4 d os
      have z5 := fun d os => cell_regrown y5 d os
      refine wp_region_quiet_below (by kernel_rfl) (by kernel_rfl) ?_
      repeat (go_big_quiet_step (first | with_reducible exact HKC.out _ | with_reducible exact HKB.out _))
      refine wpQuiet_nil ?_
      intro wq hwq
      have hbq := below_of_regrown hwq
      clear hwq
      go_wp2_with fail
      go_ret
      exact ⟨ret_str HR.out, bt hqt hbq⟩
/-! A verb. -/
def slotsB (l : List SlotD) : ByteArray := catB (l.map fun s => ⟨#[32]⟩ ++ slotB s)
theorem sepTail_cat (sep : ByteArray) : ∀ l : List ByteArray, sepTail sep l = catB (l.map fun x => sep ++ x)
 | [] => rfl
 | x :: l => by simp only [sepTail, List.map_cons, catB, sepTail_cat sep l]
theorem slotsB_eq {l : List SlotD} (h : 0 < l.length) : slotsB l = ⟨#[32]⟩ ++ lineB l := by
 cases l with
 | nil => simp at h
 | cons x r =>
  simp only [slotsB, lineB, List.map_cons, catB, sepB, sepTail_cat, List.map_map, ByteArray.append_assoc]
  rfl
def linesL : List (List SlotD) → List ByteArray
 | [] => []
 | l :: r => slotsB l :: r.map fun l => ⟨#[32, 124]⟩ ++ slotsB l
theorem linesL_eq (ls : List (List SlotD)) (h : ∀ l ∈ ls, 0 < l.length) (h0 : 0 < ls.length) : (⟨#[32, 61]⟩ : ByteArray) ++ catB (linesL ls) = ⟨#[32, 61, 32]⟩ ++ sepB ⟨#[32, 124, 32]⟩ (ls.map lineB) := by
 cases ls with
 | nil => simp at h0
 | cons l r =>
  have h1 := slotsB_eq (h l (by simp))
  have h2 : ∀ r : List (List SlotD), (∀ l ∈ r, 0 < l.length) → catB (r.map fun l => ⟨#[32, 124]⟩ ++ slotsB l) = catB ((r.map lineB).map fun x => ⟨#[32, 124, 32]⟩ ++ x) := by
   intro r
   induction r with
   | nil => intro _; rfl
   | cons y r ih =>
    intro hr
    have e := slotsB_eq (hr y (by simp))
    simp only [List.map_cons, catB, e, ih (fun l hl => hr l (by simp [hl]))]
    rw [show (⟨#[32, 124, 32]⟩ : ByteArray) = ⟨#[32, 124]⟩ ++ ⟨#[32]⟩ from rfl]
    simp only [ByteArray.append_assoc]
  simp only [linesL, List.map_cons, catB, sepB, sepTail_cat, h1, h2 r (fun l hl => h l (by simp [hl]))]
  rw [show (⟨#[32, 61, 32]⟩ : ByteArray) = ⟨#[32, 61]⟩ ++ ⟨#[32]⟩ from rfl]
  simp only [ByteArray.append_assoc]
theorem linesL_len (ls : List (List SlotD)) : (linesL ls).length = ls.length := by cases ls <;> simp [linesL]
theorem linesL_at (ls : List (List SlotD)) (k : Nat) (hk : k < ls.length) : (linesL ls)[k]? = some ((if 0 < k then ⟨#[32, 124]⟩ else ⟨#[]⟩) ++ slotsB ls[k]) := by
 cases ls with
 | nil => simp at hk
 | cons l r =>
  cases k with
  | zero => simp [linesL, emp_app]
  | succ k =>
   have hk' : k < r.length := by simpa using hk
   simp only [linesL, List.getElem?_cons_succ, List.getElem?_map, List.getElem?_eq_getElem hk', Option.map_some, List.getElem_cons_succ]
   rw [if_pos (Nat.succ_pos k)]
theorem showVerb_calls (F : Nat → Prop) (w : World) (x : VerbD) (cs : List Value) (hF : Inn F w) (hr : VerbR x) (hx : Holds.verb.R F w x cs) :
 Calls Tryz.prog 53 #[.agg cs.toArray] w (Gives w (.string (verbB x))) := by
 have hsz := verbB_sz hr
 obtain ⟨x_name, x_meta, x_lines⟩ := x
 obtain ⟨-, v2, rfl, ka2⟩ := hx
 obtain ⟨hrn, hl0, hl8, hrl⟩ := hr
 simp only at ka2 hrn hl0 hl8 hrl
 obtain ⟨d2, f2, rfl⟩ := ka2.shape
 have hzn := isName_size hrn
 have e0 : verbB ⟨x_name, x_meta, x_lines⟩ = ⟨#[118, 101, 114, 98, 32]⟩ ++ x_name ++ (if x_meta = true then ⟨#[32, 109, 101, 116, 97]⟩ else ⟨#[]⟩) ++ ⟨#[32, 61]⟩ ++ catB (linesL x_lines) ++ ⟨#[59, 10]⟩ := by
  have h := linesL_eq x_lines (fun l hl => (hrl l hl).1) hl0
  show ⟨#[118, 101, 114, 98, 32]⟩ ++ x_name ++ (if x_meta = true then ⟨#[32, 109, 101, 116, 97]⟩ else ⟨#[]⟩) ++ ⟨#[32, 61, 32]⟩ ++ sepB ⟨#[32, 124, 32]⟩ (x_lines.map lineB) ++ ⟨#[59, 10]⟩ = _
  exact (show ∀ A B C D E G : ByteArray, C ++ D = E ++ G → A ++ E ++ G ++ B = A ++ C ++ D ++ B from fun A B C D E G h => by rw [ByteArray.append_assoc (a := A) (b := E), ← h, ← ByteArray.append_assoc]) _ _ _ _ _ _ h
 rw [e0] at hsz ⊢
 obtain ⟨mz, hmz⟩ : ∃ z : ByteArray, (if x_meta = true then ⟨#[32, 109, 101, 116, 97]⟩ else ⟨#[]⟩) = z := ⟨_, rfl⟩
 have hmzz : mz.size ≤ 5 := by rw [← hmz]; split <;> decide
 obtain ⟨vs, hvs⟩ : ∃ z, linesL x_lines = z := ⟨_, rfl⟩
 have HVI : Hid (∀ k (hk : k < x_lines.length), vs[k]? = some ((if 0 < k then ⟨#[32, 124]⟩ else ⟨#[]⟩) ++ slotsB x_lines[k])) := fun k hk => by rw [← hvs]; exact linesL_at _ _ hk
 have hvl : vs.length = x_lines.length := by rw [← hvs]; exact linesL_len _
 rw [hmz, hvs] at hsz ⊢
 obtain ⟨A2, hA2⟩ : ∃ z, ⟨#[118, 101, 114, 98, 32]⟩ ++ x_name ++ mz = z := ⟨_, rfl⟩
 obtain ⟨A3, hA3⟩ : ∃ z, A2 ++ ⟨#[32, 61]⟩ = z := ⟨_, rfl⟩
 rw [hA2, hA3] at hsz ⊢
 obtain ⟨r, hr2⟩ : ∃ r, A3 ++ catB vs ++ ⟨#[59, 10]⟩ = r := ⟨_, rfl⟩
 rw [hr2]
 have hz3 : A3.size + (catB vs).size ≤ 600000 := by
  rw [← hr2] at *
  simp only [ByteArray.size_append] at hsz
  omega
 have hz2 : A2.size ≤ 600000 := by
  have h := congrArg ByteArray.size hA3
  rw [ByteArray.size_append] at h
  omega
 obtain ⟨W1, hW1⟩ : ∃ W, w.alloc (.cells #[.string x_name, .bool x_meta, .slice d2 x_lines.length f2] 67) = W := ⟨_, rfl⟩
 obtain ⟨W2, hW2⟩ : ∃ W, W1.alloc (.cells #[.string ⟨#[]⟩, .string ⟨#[]⟩, .string ⟨#[110, 111, 117, 110]⟩, .string ⟨#[109, 97, 110, 121]⟩, .string ⟨#[110, 117, 109, 98, 101, 114]⟩, .string ⟨#[100, 105, 114]⟩] 9) = W := ⟨_, rfl⟩
 have hs1 := bs' hW1
 have hb1 := ba' hW1
 have hb12 := ba' hW2
 have hbx1 : BoxAt W2 w.heap.size [.string x_name, .bool x_meta, .slice d2 x_lines.length f2] := by
  have h := bn' hW1
  exact h.below hb12 h.1
 have hbx2 : BoxAt W2 (w.heap.size + 1) [.string ⟨#[]⟩, .string ⟨#[]⟩, .string ⟨#[110, 111, 117, 110]⟩, .string ⟨#[109, 97, 110, 121]⟩, .string ⟨#[110, 117, 109, 98, 101, 114]⟩, .string ⟨#[100, 105, 114]⟩] := by rw [← hW2, ← hs1]; exact BoxAt.new _ _ _
 have hb2 : Below w.heap.size w W2 := bt hb1 hb12
 have hE : Hid (∀ W, Below W2.heap.size W2 W → BoxAt W w.heap.size [.string x_name, .bool x_meta, .slice d2 x_lines.length f2] ∧ Below w.heap.size w W) := fun W hW => ⟨hbx1.below hW hbx1.1, bt hb2 hW⟩
 have hKN : Hid (∀ W, Below W2.heap.size W2 W → BoxAt W (w.heap.size + 1) [.string ⟨#[]⟩, .string ⟨#[]⟩, .string ⟨#[110, 111, 117, 110]⟩, .string ⟨#[109, 97, 110, 121]⟩, .string ⟨#[110, 117, 109, 98, 101, 114]⟩, .string ⟨#[100, 105, 114]⟩]) := fun W hW => hbx2.below hW hbx2.1
 obtain ⟨_, _, he, hlc, hc2, h2o⟩ := ka2.opn
 cases he
 unfold maxLen at hc2
 have HW1 := Lib.hid hW1; have HW2 := Lib.hid hW2; have HF := Lib.hid hF; have HRL := Lib.hid hrl; have H2 := Lib.hid h2o; have HVL := Lib.hid hvl
 have HMZ := Lib.hid hmz; have HA2 := Lib.hid hA2; have HA3 := Lib.hid hA3; have HR := Lib.hid hr2
 have hl8' : x_lines.length ≤ 8 := by omega
 have HS1 := Lib.hid hs1
 clear hW1 hW2 hb1 hb12 hb2 hbx1 hbx2 ka2 hrn hrl h2o hvl hmz hvs hA2 hA3 hr2 hF hsz e0 hl8 hs1
 go_enter Tryz.func53, Tryz.ntmps53
 go_upto_region 2 with fail
 rw [HW1.out, HW2.out]
 obtain ⟨hq, hqt⟩ := hE.out W2 (Below.refl _ _)
 obtain ⟨y0, y1, y2⟩ := p2' hq.2
 clear hq
 go_upto_if 13 with fail
 go_cut [4] (fun v wc => v = .string A2 ∧ W2 = wc)
 case first =>
  cases x_meta
  · have hk := HMZ.out
    simp only [Bool.false_eq_true, if_false] at hk
    go_wp2_with fail
    go_meet
    exact ⟨by rw [← HA2.out, ← hk, app_emp], rfl⟩
  have hk := HMZ.out
  simp only [if_true] at hk
  go_wp2_with fail
  go_meet
  exact ⟨by rw [← HA2.out, ← hk], rfl⟩
 case rest =>
  obtain ⟨rfl, rfl⟩ := hcut
  clear HMZ HA2
  go_wp2_with fail
  rw [HA3.out]
  go_loopw [4, 5] (fun v i wr => ∃ k : Nat, k ≤ x_lines.length ∧ i = .int .i64 k ∧ Hid (∃ B, v = .string B ∧ B = A3 ++ catB (vs.take k)) ∧ Hid (Below W2.heap.size W2 wr)) (fun _ i _ => x_lines.length - (intOf i).toNat)
  case atStart => exact ⟨0, Nat.zero_le _, rfl, Lib.hid ⟨_, rfl, by simp [catB, app_emp]⟩, Below.refl _ _⟩
  case round =>
   clear hqt y0 y1 y2
   obtain ⟨k, hk, rfl, hA0, hB0⟩ := hrel
   obtain ⟨B, rfl, hBe⟩ := hA0.out
   have hB := hB0.out
   have HBE := Lib.hid hBe
   have hkz := catB_take_le vs k
   have hBz : B.size ≤ 600000 := by rw [hBe, ByteArray.size_append]; omega
   clear hA0 hB0 hBe
   obtain ⟨hq, hqt⟩ := hE.out wr (hB)
   obtain ⟨y0, y1, y2⟩ := p2' hq.2
   clear hq
   by_cases hlt : k < x_lines.length
   · obtain ⟨bb, off, rfl, hFb, hel⟩ := H2.out (by omega)
     have hbF := HF.out bb hFb
     have hlr := HRL.out _ (List.getElem_mem hlt)
     have hvi := HVI.out k hlt
     obtain ⟨csl, hxl, -, hcll⟩ := hel w rfl k hlt
     obtain ⟨sl, hsle⟩ : ∃ p, x_lines[k] = p := ⟨_, rfl⟩
     rw [hsle] at hxl hlr hvi
     obtain ⟨vl, rfl, hvl⟩ := hxl
     obtain ⟨la, lc, rfl, hlc2, hmc2, hlo⟩ := hvl.opn
     unfold maxLen at hmc2
     have gl := hcll 0 _ rfl
     simp only [Nat.add_zero, Nat.mul_one] at gl
     have HGL : Hid (∀ W, Below w.heap.size w W → W.cell? ⟨bb, off + k, none⟩ = some (.slice la sl.length lc)) := fun W hW => (hW.cell (p := ⟨bb, off + k, none⟩) hbF).trans gl
     have hlk : k < vs.length := by rw [HVL.out]; exact hlt
     have hki : (k : Int) < (x_lines.length : Int) := by omega
     have hki0 : (0 : Int) ≤ (k : Int) := by omega
     obtain ⟨E, hEe⟩ : ∃ z : ByteArray, (if 0 < k then ⟨#[32, 124]⟩ else ⟨#[]⟩) = z := ⟨_, rfl⟩
     have hEz : E.size ≤ 2 := by rw [← hEe]; split <;> decide
     have hEt : Hid (0 < k → E = ⟨#[32, 124]⟩) := fun h => by rw [← hEe, if_pos h]
     have hEf : Hid (¬ 0 < k → E = ⟨#[]⟩) := fun h => by rw [← hEe, if_neg h]
     rw [hEe] at hvi
     have hnx0 : B ++ E ++ slotsB sl = A3 ++ catB (vs.take (k + 1)) := by
      rw [catB_step vs k hlk, show vs[k] = E ++ slotsB sl from by rw [List.getElem?_eq_getElem hlk] at hvi; exact Option.some.inj hvi, HBE.out]
      simp only [ByteArray.append_assoc]
     have hkz2 := catB_take_le vs (k + 1)
     obtain ⟨xs, hxs⟩ : ∃ z, sl.map (fun s => ⟨#[32]⟩ ++ slotB s) = z := ⟨_, rfl⟩
     have hslx : slotsB sl = catB xs := by rw [← hxs]; rfl
     have hxl2 : xs.length = sl.length := by rw [← hxs]; simp
     have HXI : Hid (∀ i (hi : i < sl.length), xs[i]? = some (⟨#[32]⟩ ++ slotB sl[i])) := fun i hi => by rw [← hxs, List.getElem?_map, List.getElem?_eq_getElem hi]; rfl
     rw [hslx] at hnx0
     obtain ⟨B1, hB1⟩ : ∃ z, B ++ E = z := ⟨_, rfl⟩
     rw [hB1] at hnx0
     have hz4 : B1.size + (catB xs).size ≤ 600000 := by
      have h := congrArg ByteArray.size hnx0
      simp only [ByteArray.size_append] at h
      omega
     have HNX := Lib.hid hnx0; have HB1 := Lib.hid hB1; have HXL2 := Lib.hid hxl2; have HLR := Lib.hid hlr; have HLO := Lib.hid hlo
     have hl3 : sl.length ≤ 8 := by have := hlr.2.1; omega
     have HBW := Lib.hid hB
     clear hel hcll gl hlk hvi hEe hnx0 hkz hkz2 hxs hslx hxl2 hB1 hlr hlo hvl HBE hsle hFb
     obtain ⟨wY, hwY⟩ : ∃ x : World, x = wr := ⟨_, rfl⟩
     rw [← hwY] at hB hqt y0 y1 y2 HBW ⊢
     clear hwY
     go_upto_region 9 with fail
     go_cut [26] (fun v wd => Hid (∃ t : Bool, v = .bool t ∧ (t = true → E = ⟨#[32, 124]⟩) ∧ (t = false → E = ⟨#[]⟩) ∧ wY = wd))
     case first =>
      by_cases hn : 0 < k
      · have hf := Lib.hid (hEt.out hn)
        have HN := Lib.hid hn
        clear hn
        go_wp2_with fail
        go_meet
        exact ⟨true, congrArg Value.bool (decide_eq_true HN.out), fun _ => hf.out, fun h => (by cases h), rfl⟩
      have hf := Lib.hid (hEf.out hn)
      have HN := Lib.hid hn
      clear hn
      go_wp2_with fail
      go_meet
      exact ⟨false, congrArg Value.bool (decide_eq_false HN.out), fun h => (by cases h), fun _ => hf.out, rfl⟩
     case rest =>
      obtain ⟨t, rfl, hbt, hbf, rfl⟩ := hcut.out
      have HBT := Lib.hid hbt; have HBF := Lib.hid hbf
      clear hcut hbt hbf hEt hEf
      go_upto_if 26 with fail
      go_cut [4] (fun v wc => v = .string B1 ∧ wY = wc)
      case first =>
       cases t
       · have hf := Lib.hid (HBF.out rfl)
         go_wp2_with fail
         go_meet
         exact ⟨by rw [← HB1.out, hf.out, app_emp], rfl⟩
       have hf := Lib.hid (HBT.out rfl)
       go_wp2_with fail
       go_meet
       exact ⟨by rw [← HB1.out, hf.out], rfl⟩
      case rest =>
       obtain ⟨rfl, rfl⟩ := hcut
       clear HBT HBF HB1
       go_wp2_with fail
       obtain ⟨wo, rfl⟩ : ∃ wo : World, wo = wY := ⟨_, rfl⟩
       go_loopw [4, 6] (fun v i wr => ∃ m : Nat, m ≤ sl.length ∧ i = .int .i64 m ∧ Hid (∃ Bk, v = .string Bk ∧ Bk = B1 ++ catB (xs.take m)) ∧ Hid (Below wo.heap.size wo wr)) (fun _ i _ => sl.length - (intOf i).toNat)
       case atStart => exact ⟨0, Nat.zero_le _, rfl, Lib.hid ⟨_, rfl, by simp [catB, app_emp]⟩, Below.refl _ _⟩
       case round =>
        clear hB hqt y0 y1 y2
        obtain ⟨m, hm, rfl, hA0, hB0⟩ := hrel
        obtain ⟨Bk, rfl, hBe⟩ := hA0.out
        have hB := bt HBW.out hB0.out
        have HB0 := Lib.hid hB0.out
        have HBE := Lib.hid hBe
        have hkz := catB_take_le xs m
        have hBkz : Bk.size ≤ 600000 := by rw [hBe, ByteArray.size_append]; omega
        clear hA0 hB0 hBe
        obtain ⟨hq, hqt⟩ := hE.out wr (hB)
        obtain ⟨y0, y1, y2⟩ := p2' hq.2
        clear hq
        have gl := HGL.out wr hqt
        have hbbw : bb < wr.heap.size := Nat.lt_of_lt_of_le hbF hqt.size
        by_cases hmt : m < sl.length
        · obtain ⟨b3, off3, rfl, hFb3, hel3⟩ := HLO.out (by omega)
          have hbF3 := HF.out b3 hFb3
          obtain ⟨cs3, hx3, -, hcell⟩ := hel3 wr (hqt.block b3 hbF3) m hmt
          have hsr := HLR.out.2.2 _ (List.getElem_mem hmt)
          have hxi := HXI.out m hmt
          obtain ⟨s, hse⟩ : ∃ p, sl[m] = p := ⟨_, rfl⟩
          rw [hse] at hx3 hsr hxi
          obtain ⟨sk, sw⟩ := s
          obtain ⟨-, vw, rfl, hvw⟩ := hx3
          simp only at hcell hvw
          obtain ⟨sa, sc, rfl⟩ := hvw.shape
          have q0 := hcell 0 _ rfl
          have q1' := hcell 1 _ rfl
          simp only [Nat.add_zero] at q0
          have hmi : (m : Int) < (sl.length : Int) := by omega
          have hmi0 : (0 : Int) ≤ (m : Int) := by omega
          have hb3w : b3 < wr.heap.size := Nat.lt_of_lt_of_le hbF3 hqt.size
          obtain ⟨hk1, hk5, hkw, hwm, hwt⟩ := hsr
          simp only at hk1 hk5 hkw hwm hwt
          obtain ⟨we, hwe⟩ : ∃ we, wr.alloc (.cells #[.int .i64 sk, .slice sa sw.length sc] 125) = we := ⟨_, rfl⟩
          have hbe := ba' hwe
          have hbxe := bn' hwe
          have hb9 := bt hqt hbe
          have hqd := quoted_calls F we sw ⟨#[32, 47, 32]⟩ _ (HF.out.below hb9) (hvw.below HF.out hb9 (Nat.le_refl _)) (by have := hwm; omega) hwt (by decide)
          have hqz := quotedB_sz ⟨#[32, 47, 32]⟩ (by decide) (m := 4) (by have := hwm; omega) hwt
          have hsl : ∀ k' : Int, k' ≠ 2 → k' ≠ 3 → k' ≠ 4 → k' ≠ 5 → slotB ⟨k', sw⟩ = quotedB ⟨#[32, 47, 32]⟩ sw := fun k' a b c d => by
           unfold slotB
           rw [if_neg a, if_neg b, if_neg c, if_neg d]
          have h1s := hsl 1 (by decide) (by decide) (by decide) (by decide)
          obtain ⟨qz, hqq⟩ : ∃ z, quotedB ⟨#[32, 47, 32]⟩ sw = z := ⟨_, rfl⟩
          rw [hqq] at hqd hqz h1s
          have hlk : m < xs.length := by rw [HXL2.out]; exact hmt
          have hnx1 : Bk ++ (⟨#[32]⟩ ++ slotB ⟨sk, sw⟩) = B1 ++ catB (xs.take (m + 1)) := by
           rw [catB_step xs m hlk, show xs[m] = ⟨#[32]⟩ ++ slotB ⟨sk, sw⟩ from by rw [List.getElem?_eq_getElem hlk] at hxi; exact Option.some.inj hxi, HBE.out]
           simp only [ByteArray.append_assoc]
          have hkn := hKN.out we (bt hB hbe)
          have kn2 := hkn.2 2 (by simp); have kn3 := hkn.2 3 (by simp); have kn4 := hkn.2 4 (by simp); have kn5 := hkn.2 5 (by simp)
          simp only [cqs, cqz] at kn2 kn3 kn4 kn5
          have hknlt := hkn.1
          have HNX1 := Lib.hid hnx1; have HQD := Lib.hid hqd; have H1S := Lib.hid h1s; have HWE := Lib.hid hwe; have HBE9 := Lib.hid (bt HB0.out hbe)
          have hkk : sk = 1 ∨ sk = 2 ∨ sk = 3 ∨ sk = 4 ∨ sk = 5 := by omega
          have r0 := hbxe.2 0 (by simp); have r1 := hbxe.2 1 (by simp)
          simp only [cqs, cqz] at r0 r1
          clear hel3 hcell hxi hse hFb3 hbe hb9 hqd hqq hsl h1s hlk hnx1 hkz HBE hvw hkw hwm hwt hk1 hk5 hbxe hkn hwe hB
          go_upto_region 15 with fail
          rw [HWE.out]
          clear q0 q1' y0 y1 y2 gl
          go_upto_if 49 with fail
          rcases hkk with rfl | rfl | rfl | rfl | rfl
          · have hfin : Hid (Bk ++ ⟨#[32]⟩ ++ qz = B1 ++ catB (xs.take (m + 1))) := Lib.hid (by rw [← HNX1.out, H1S.out]; simp only [ByteArray.append_assoc])
            clear HNX1 H1S r0 kn2 kn3 kn4 kn5
            go_wp2_with (go_at_call 121; (with_reducible refine HQD.out.mono ?_); rintro e w4 ⟨rfl, hb4⟩)
            go_roundw
            case rel => exact ⟨m + 1, by omega, by go_num, Lib.hid ⟨_, rfl, hfin.out⟩, Lib.hid (bt HBE9.out hb4)⟩
            case measure => simp [intOf]; omega
          · have hfin : Hid (Bk ++ ⟨#[32]⟩ ++ ⟨#[110, 111, 117, 110]⟩ = B1 ++ catB (xs.take (m + 1))) := Lib.hid (by rw [← HNX1.out, ByteArray.append_assoc]; rfl)
            clear HNX1 H1S r1 HQD
            go_wp2_with fail
            go_roundw
            case rel => exact ⟨m + 1, by omega, by go_num, Lib.hid ⟨_, rfl, hfin.out⟩, HBE9⟩
            case measure => simp [intOf]; omega
          · have hfin : Hid (Bk ++ ⟨#[32]⟩ ++ ⟨#[109, 97, 110, 121]⟩ = B1 ++ catB (xs.take (m + 1))) := Lib.hid (by rw [← HNX1.out, ByteArray.append_assoc]; rfl)
            clear HNX1 H1S r1 HQD
            go_wp2_with fail
            go_roundw
            case rel => exact ⟨m + 1, by omega, by go_num, Lib.hid ⟨_, rfl, hfin.out⟩, HBE9⟩
            case measure => simp [intOf]; omega
          · have hfin : Hid (Bk ++ ⟨#[32]⟩ ++ ⟨#[110, 117, 109, 98, 101, 114]⟩ = B1 ++ catB (xs.take (m + 1))) := Lib.hid (by rw [← HNX1.out, ByteArray.append_assoc]; rfl)
            clear HNX1 H1S r1 HQD
            go_wp2_with fail
            go_roundw
            case rel => exact ⟨m + 1, by omega, by go_num, Lib.hid ⟨_, rfl, hfin.out⟩, HBE9⟩
            case measure => simp [intOf]; omega
          have hfin : Hid (Bk ++ ⟨#[32]⟩ ++ ⟨#[100, 105, 114]⟩ = B1 ++ catB (xs.take (m + 1))) := Lib.hid (by rw [← HNX1.out, ByteArray.append_assoc]; rfl)
          clear HNX1 H1S r1 HQD
          go_wp2_with fail
          go_roundw
          case rel => exact ⟨m + 1, by omega, by go_num, Lib.hid ⟨_, rfl, hfin.out⟩, HBE9⟩
          case measure => simp [intOf]; omega
        have : m = sl.length := by omega
        subst this
        have hki2 : decide ((sl.length : Int) < (sl.length : Int)) = false := by simp
        have hfin : Hid (Bk = A3 ++ catB (vs.take (k + 1))) := Lib.hid (by rw [HBE.out, List.take_of_length_le (by rw [HXL2.out]; exact Nat.le_refl _), HNX.out])
        have HBL := Lib.hid hB
        clear hkz HBE hB
        go_wp2_with fail
        go_roundw
        case rel => exact ⟨k + 1, by omega, by go_num, Lib.hid ⟨_, rfl, hfin.out⟩, Lib.hid HBL.out⟩
        case measure => simp [intOf]; omega
   have : k = x_lines.length := by omega
   subst this
   have hki : decide ((x_lines.length : Int) < (x_lines.length : Int)) = false := by simp
   have hfin : Hid (B ++ ⟨#[59, 10]⟩ = r) := Lib.hid (by rw [HBE.out, List.take_of_length_le (by rw [HVL.out]; exact Nat.le_refl _), HR.out])
   have HQT := Lib.hid hqt
   clear hkz HBE hB hqt
   go_wp2_with fail
   go_ret
   exact ⟨ret_str hfin.out, HQT.out⟩
end Go.Proofs.YtdeecfkipknkbaaGreatDoor
