/- The walks of clewref09's sign and number. Printed by gen-lex3.py. -/
import Derived.Test.YtnbfadgclffgkaaGreatDoorLexQ
namespace Go.Proofs.YtnbfadgclffgkaaGreatDoor
open Go.RowKit Go.Sort
theorem two_list (s : ByteArray) (i : Nat) (h : i + 1 < s.size) : (s.extract i (i + 2)).toList = [s[i], s[i + 1]] := by
  rw [extract_two s i h, ByteArray.toList_eq]
theorem signC_of (s : ByteArray) (i : Nat) (h : i < s.size) (c : UInt8) (hc : s[i] = c) : signC s i = if i + 1 < s.size ∧ byteAt s (i + 1) = 61 ∧ (c = 61 ∨ c = 33 ∨ c = 60 ∨ c = 62) then 2 else if c ∈ ones then 1 else 0 := by
  unfold signC
  rw [byteAt_lt h, hc]
set_option maxRecDepth 20000 in
set_option maxHeartbeats 4000000 in
theorem sign9_calls (s : ByteArray) (i : Nat) (w : World) (hi : i < s.size) (hs : s.size ≤ 100000) : Calls Tryz.prog 58 #[.string s, .int .i64 i] w (Gives w (.int .i64 (signC s i))) := by
  obtain ⟨c, hc⟩ : ∃ c, s[i] = c := ⟨_, rfl⟩
  have hsc := signC_of s i hi c hc
  generalize signC s i = t at hsc ⊢
  have hii : (i : Int) < (s.size : Int) := by omega
  have hi0 : (0 : Int) ≤ (i : Int) := by omega
  have hcn : ((s[i]).toNat : Int) = (c.toNat : Int) := by rw [hc]
  by_cases hl2 : i + 1 < s.size
  · have hl2i : (i : Int) + 1 < (s.size : Int) := by omega
    have hl2j : (i : Int) + 2 ≤ (s.size : Int) := by omega
    obtain ⟨d, hd⟩ : ∃ d, s[i + 1] = d := ⟨_, rfl⟩
    rw [byteAt_lt hl2, hd] at hsc
    by_cases h61 : d = 61
    · subst h61
      by_cases c61 : c = 61
      · subst c61
        have hl := two_list s i hl2
        rw [hc, hd] at hl
        obtain rfl : t = 2 := by rw [hsc, if_pos]; exact ⟨hl2, rfl, by decide⟩
        clear hsc hc hd hcn
        go_enter Tryz.func58, Tryz.ntmps58
        go_wp2
        go_ret
        exact ⟨rfl, Below.refl _ _⟩
      by_cases c33 : c = 33
      · subst c33
        have hl := two_list s i hl2
        rw [hc, hd] at hl
        obtain rfl : t = 2 := by rw [hsc, if_pos]; exact ⟨hl2, rfl, by decide⟩
        clear hsc hc hd hcn
        go_enter Tryz.func58, Tryz.ntmps58
        go_wp2
        go_ret
        exact ⟨rfl, Below.refl _ _⟩
      by_cases c60 : c = 60
      · subst c60
        have hl := two_list s i hl2
        rw [hc, hd] at hl
        obtain rfl : t = 2 := by rw [hsc, if_pos]; exact ⟨hl2, rfl, by decide⟩
        clear hsc hc hd hcn
        go_enter Tryz.func58, Tryz.ntmps58
        go_wp2
        go_ret
        exact ⟨rfl, Below.refl _ _⟩
      by_cases c62 : c = 62
      · subst c62
        have hl := two_list s i hl2
        rw [hc, hd] at hl
        obtain rfl : t = 2 := by rw [hsc, if_pos]; exact ⟨hl2, rfl, by decide⟩
        clear hsc hc hd hcn
        go_enter Tryz.func58, Tryz.ntmps58
        go_wp2
        go_ret
        exact ⟨rfl, Below.refl _ _⟩
      rw [if_neg (by rintro ⟨-, -, h | h | h | h⟩ <;> contradiction)] at hsc
      have q61 : ((s.extract i (i + 2)).toList == [61, 61]) = false := by rw [two_list s i hl2, hc, hd]; simp [c61]
      have p61 : ¬ (s.extract i (i + 2)).toList = [61, 61] := by rw [two_list s i hl2, hc, hd]; simp [c61]
      have q33 : ((s.extract i (i + 2)).toList == [33, 61]) = false := by rw [two_list s i hl2, hc, hd]; simp [c33]
      have p33 : ¬ (s.extract i (i + 2)).toList = [33, 61] := by rw [two_list s i hl2, hc, hd]; simp [c33]
      have q60 : ((s.extract i (i + 2)).toList == [60, 61]) = false := by rw [two_list s i hl2, hc, hd]; simp [c60]
      have p60 : ¬ (s.extract i (i + 2)).toList = [60, 61] := by rw [two_list s i hl2, hc, hd]; simp [c60]
      have q62 : ((s.extract i (i + 2)).toList == [62, 61]) = false := by rw [two_list s i hl2, hc, hd]; simp [c62]
      have p62 : ¬ (s.extract i (i + 2)).toList = [62, 61] := by rw [two_list s i hl2, hc, hd]; simp [c62]
      have HSC := Lib.hid hsc
      clear hd hsc
      go_enter Tryz.func58, Tryz.ntmps58
      go_wp2
      go_loopw [7] (fun j wr => ∃ k : Nat, k ≤ 16 ∧ j = .int .i64 k ∧ Hid (∀ m : Nat, m < k → ones.getD m 0 ≠ c) ∧ Below w.heap.size w wr) (fun j _ => 16 - (intOf j).toNat)
      case atStart => exact ⟨0, Nat.zero_le _, rfl, fun m h => absurd h (by omega), Below.refl _ _⟩
      case round =>
        obtain ⟨k, hk, rfl, hq, hB⟩ := hrel
        by_cases hlt : k < 16
        · have hmem : Hid (ones.getD k 0 ∈ ones) := by
            show _ ∈ _
            rw [List.getD_eq_getElem?_getD, List.getElem?_eq_getElem (show k < ones.length from hlt)]
            exact List.getElem_mem _
          have hstep : Hid (ones.getD k 0 ≠ c → ∀ m : Nat, m < k + 1 → ones.getD m 0 ≠ c) := fun he m h => by
            by_cases hmk : m = k
            · subst hmk; exact he
            · exact hq.out m (by omega)
          have h16 : k = 0 ∨ k = 1 ∨ k = 2 ∨ k = 3 ∨ k = 4 ∨ k = 5 ∨ k = 6 ∨ k = 7 ∨ k = 8 ∨ k = 9 ∨ k = 10 ∨ k = 11 ∨ k = 12 ∨ k = 13 ∨ k = 14 ∨ k = 15 := by omega
          clear hq hk hlt
          rcases h16 with rfl | rfl | rfl | rfl | rfl | rfl | rfl | rfl | rfl | rfl | rfl | rfl | rfl | rfl | rfl | rfl
          · by_cases he : (40 : UInt8) = c
            · obtain rfl : t = 1 := by
                rw [HSC.out, if_pos]
                rw [← he]
                exact hmem.out
              have e1 : (((((⟨#[40, 41, 123, 125, 44, 59, 46, 124, 47, 43, 45, 42, 37, 61, 60, 62]⟩ : ByteArray)[0]'(by decide)).toNat : Nat) : Int) == ((s[i]).toNat : Int)) = true := by rw [hcn, ← he]; rfl
              clear he hcn hc hmem hstep HSC
              go_upto_region 10 with fail
              refine wp_region_quiet_below (by kernel_rfl) (by kernel_rfl) ?_
              repeat (go_big_quiet_step (fail))
              refine wpQuiet_nil ?_
              intro w6 hw6
              have hb6 := below_of_regrown hw6
              clear hw6
              go_wp2
              go_ret
              exact ⟨rfl, bt hB hb6⟩
            · have hnx : Hid (∀ m : Nat, m < 0 + 1 → ones.getD m 0 ≠ c) := hstep.out he
              have e0 : (c.toNat : Int) ≠ 40 := fun h => he (UInt8.toNat_inj.1 (by show 40 = c.toNat; omega))
              have e1 : (((((⟨#[40, 41, 123, 125, 44, 59, 46, 124, 47, 43, 45, 42, 37, 61, 60, 62]⟩ : ByteArray)[0]'(by decide)).toNat : Nat) : Int) == ((s[i]).toNat : Int)) = false := by
                show ((40 : Int) == ((s[i]).toNat : Int)) = false
                rw [hcn]; simp; omega
              clear he e0 hmem hstep
              go_upto_region 10 with fail
              refine wp_region_quiet_below (by kernel_rfl) (by kernel_rfl) ?_
              repeat (go_big_quiet_step (fail))
              refine wpQuiet_nil ?_
              intro w6 hw6
              have hb6 := below_of_regrown hw6
              clear hw6
              go_wp2
              go_roundw
              case rel => exact ⟨1, by omega, rfl, hnx, bt hB hb6⟩
              case measure => simp [intOf]
          · by_cases he : (41 : UInt8) = c
            · obtain rfl : t = 1 := by
                rw [HSC.out, if_pos]
                rw [← he]
                exact hmem.out
              have e1 : (((((⟨#[40, 41, 123, 125, 44, 59, 46, 124, 47, 43, 45, 42, 37, 61, 60, 62]⟩ : ByteArray)[1]'(by decide)).toNat : Nat) : Int) == ((s[i]).toNat : Int)) = true := by rw [hcn, ← he]; rfl
              clear he hcn hc hmem hstep HSC
              go_upto_region 10 with fail
              refine wp_region_quiet_below (by kernel_rfl) (by kernel_rfl) ?_
              repeat (go_big_quiet_step (fail))
              refine wpQuiet_nil ?_
              intro w6 hw6
              have hb6 := below_of_regrown hw6
              clear hw6
              go_wp2
              go_ret
              exact ⟨rfl, bt hB hb6⟩
            · have hnx : Hid (∀ m : Nat, m < 1 + 1 → ones.getD m 0 ≠ c) := hstep.out he
              have e0 : (c.toNat : Int) ≠ 41 := fun h => he (UInt8.toNat_inj.1 (by show 41 = c.toNat; omega))
              have e1 : (((((⟨#[40, 41, 123, 125, 44, 59, 46, 124, 47, 43, 45, 42, 37, 61, 60, 62]⟩ : ByteArray)[1]'(by decide)).toNat : Nat) : Int) == ((s[i]).toNat : Int)) = false := by
                show ((41 : Int) == ((s[i]).toNat : Int)) = false
                rw [hcn]; simp; omega
              clear he e0 hmem hstep
              go_upto_region 10 with fail
              refine wp_region_quiet_below (by kernel_rfl) (by kernel_rfl) ?_
              repeat (go_big_quiet_step (fail))
              refine wpQuiet_nil ?_
              intro w6 hw6
              have hb6 := below_of_regrown hw6
              clear hw6
              go_wp2
              go_roundw
              case rel => exact ⟨2, by omega, rfl, hnx, bt hB hb6⟩
              case measure => simp [intOf]
          · by_cases he : (123 : UInt8) = c
            · obtain rfl : t = 1 := by
                rw [HSC.out, if_pos]
                rw [← he]
                exact hmem.out
              have e1 : (((((⟨#[40, 41, 123, 125, 44, 59, 46, 124, 47, 43, 45, 42, 37, 61, 60, 62]⟩ : ByteArray)[2]'(by decide)).toNat : Nat) : Int) == ((s[i]).toNat : Int)) = true := by rw [hcn, ← he]; rfl
              clear he hcn hc hmem hstep HSC
              go_upto_region 10 with fail
              refine wp_region_quiet_below (by kernel_rfl) (by kernel_rfl) ?_
              repeat (go_big_quiet_step (fail))
              refine wpQuiet_nil ?_
              intro w6 hw6
              have hb6 := below_of_regrown hw6
              clear hw6
              go_wp2
              go_ret
              exact ⟨rfl, bt hB hb6⟩
            · have hnx : Hid (∀ m : Nat, m < 2 + 1 → ones.getD m 0 ≠ c) := hstep.out he
              have e0 : (c.toNat : Int) ≠ 123 := fun h => he (UInt8.toNat_inj.1 (by show 123 = c.toNat; omega))
              have e1 : (((((⟨#[40, 41, 123, 125, 44, 59, 46, 124, 47, 43, 45, 42, 37, 61, 60, 62]⟩ : ByteArray)[2]'(by decide)).toNat : Nat) : Int) == ((s[i]).toNat : Int)) = false := by
                show ((123 : Int) == ((s[i]).toNat : Int)) = false
                rw [hcn]; simp; omega
              clear he e0 hmem hstep
              go_upto_region 10 with fail
              refine wp_region_quiet_below (by kernel_rfl) (by kernel_rfl) ?_
              repeat (go_big_quiet_step (fail))
              refine wpQuiet_nil ?_
              intro w6 hw6
              have hb6 := below_of_regrown hw6
              clear hw6
              go_wp2
              go_roundw
              case rel => exact ⟨3, by omega, rfl, hnx, bt hB hb6⟩
              case measure => simp [intOf]
          · by_cases he : (125 : UInt8) = c
            · obtain rfl : t = 1 := by
                rw [HSC.out, if_pos]
                rw [← he]
                exact hmem.out
              have e1 : (((((⟨#[40, 41, 123, 125, 44, 59, 46, 124, 47, 43, 45, 42, 37, 61, 60, 62]⟩ : ByteArray)[3]'(by decide)).toNat : Nat) : Int) == ((s[i]).toNat : Int)) = true := by rw [hcn, ← he]; rfl
              clear he hcn hc hmem hstep HSC
              go_upto_region 10 with fail
              refine wp_region_quiet_below (by kernel_rfl) (by kernel_rfl) ?_
              repeat (go_big_quiet_step (fail))
              refine wpQuiet_nil ?_
              intro w6 hw6
              have hb6 := below_of_regrown hw6
              clear hw6
              go_wp2
              go_ret
              exact ⟨rfl, bt hB hb6⟩
            · have hnx : Hid (∀ m : Nat, m < 3 + 1 → ones.getD m 0 ≠ c) := hstep.out he
              have e0 : (c.toNat : Int) ≠ 125 := fun h => he (UInt8.toNat_inj.1 (by show 125 = c.toNat; omega))
              have e1 : (((((⟨#[40, 41, 123, 125, 44, 59, 46, 124, 47, 43, 45, 42, 37, 61, 60, 62]⟩ : ByteArray)[3]'(by decide)).toNat : Nat) : Int) == ((s[i]).toNat : Int)) = false := by
                show ((125 : Int) == ((s[i]).toNat : Int)) = false
                rw [hcn]; simp; omega
              clear he e0 hmem hstep
              go_upto_region 10 with fail
              refine wp_region_quiet_below (by kernel_rfl) (by kernel_rfl) ?_
              repeat (go_big_quiet_step (fail))
              refine wpQuiet_nil ?_
              intro w6 hw6
              have hb6 := below_of_regrown hw6
              clear hw6
              go_wp2
              go_roundw
              case rel => exact ⟨4, by omega, rfl, hnx, bt hB hb6⟩
              case measure => simp [intOf]
          · by_cases he : (44 : UInt8) = c
            · obtain rfl : t = 1 := by
                rw [HSC.out, if_pos]
                rw [← he]
                exact hmem.out
              have e1 : (((((⟨#[40, 41, 123, 125, 44, 59, 46, 124, 47, 43, 45, 42, 37, 61, 60, 62]⟩ : ByteArray)[4]'(by decide)).toNat : Nat) : Int) == ((s[i]).toNat : Int)) = true := by rw [hcn, ← he]; rfl
              clear he hcn hc hmem hstep HSC
              go_upto_region 10 with fail
              refine wp_region_quiet_below (by kernel_rfl) (by kernel_rfl) ?_
              repeat (go_big_quiet_step (fail))
              refine wpQuiet_nil ?_
              intro w6 hw6
              have hb6 := below_of_regrown hw6
              clear hw6
              go_wp2
              go_ret
              exact ⟨rfl, bt hB hb6⟩
            · have hnx : Hid (∀ m : Nat, m < 4 + 1 → ones.getD m 0 ≠ c) := hstep.out he
              have e0 : (c.toNat : Int) ≠ 44 := fun h => he (UInt8.toNat_inj.1 (by show 44 = c.toNat; omega))
              have e1 : (((((⟨#[40, 41, 123, 125, 44, 59, 46, 124, 47, 43, 45, 42, 37, 61, 60, 62]⟩ : ByteArray)[4]'(by decide)).toNat : Nat) : Int) == ((s[i]).toNat : Int)) = false := by
                show ((44 : Int) == ((s[i]).toNat : Int)) = false
                rw [hcn]; simp; omega
              clear he e0 hmem hstep
              go_upto_region 10 with fail
              refine wp_region_quiet_below (by kernel_rfl) (by kernel_rfl) ?_
              repeat (go_big_quiet_step (fail))
              refine wpQuiet_nil ?_
              intro w6 hw6
              have hb6 := below_of_regrown hw6
              clear hw6
              go_wp2
              go_roundw
              case rel => exact ⟨5, by omega, rfl, hnx, bt hB hb6⟩
              case measure => simp [intOf]
          · by_cases he : (59 : UInt8) = c
            · obtain rfl : t = 1 := by
                rw [HSC.out, if_pos]
                rw [← he]
                exact hmem.out
              have e1 : (((((⟨#[40, 41, 123, 125, 44, 59, 46, 124, 47, 43, 45, 42, 37, 61, 60, 62]⟩ : ByteArray)[5]'(by decide)).toNat : Nat) : Int) == ((s[i]).toNat : Int)) = true := by rw [hcn, ← he]; rfl
              clear he hcn hc hmem hstep HSC
              go_upto_region 10 with fail
              refine wp_region_quiet_below (by kernel_rfl) (by kernel_rfl) ?_
              repeat (go_big_quiet_step (fail))
              refine wpQuiet_nil ?_
              intro w6 hw6
              have hb6 := below_of_regrown hw6
              clear hw6
              go_wp2
              go_ret
              exact ⟨rfl, bt hB hb6⟩
            · have hnx : Hid (∀ m : Nat, m < 5 + 1 → ones.getD m 0 ≠ c) := hstep.out he
              have e0 : (c.toNat : Int) ≠ 59 := fun h => he (UInt8.toNat_inj.1 (by show 59 = c.toNat; omega))
              have e1 : (((((⟨#[40, 41, 123, 125, 44, 59, 46, 124, 47, 43, 45, 42, 37, 61, 60, 62]⟩ : ByteArray)[5]'(by decide)).toNat : Nat) : Int) == ((s[i]).toNat : Int)) = false := by
                show ((59 : Int) == ((s[i]).toNat : Int)) = false
                rw [hcn]; simp; omega
              clear he e0 hmem hstep
              go_upto_region 10 with fail
              refine wp_region_quiet_below (by kernel_rfl) (by kernel_rfl) ?_
              repeat (go_big_quiet_step (fail))
              refine wpQuiet_nil ?_
              intro w6 hw6
              have hb6 := below_of_regrown hw6
              clear hw6
              go_wp2
              go_roundw
              case rel => exact ⟨6, by omega, rfl, hnx, bt hB hb6⟩
              case measure => simp [intOf]
          · by_cases he : (46 : UInt8) = c
            · obtain rfl : t = 1 := by
                rw [HSC.out, if_pos]
                rw [← he]
                exact hmem.out
              have e1 : (((((⟨#[40, 41, 123, 125, 44, 59, 46, 124, 47, 43, 45, 42, 37, 61, 60, 62]⟩ : ByteArray)[6]'(by decide)).toNat : Nat) : Int) == ((s[i]).toNat : Int)) = true := by rw [hcn, ← he]; rfl
              clear he hcn hc hmem hstep HSC
              go_upto_region 10 with fail
              refine wp_region_quiet_below (by kernel_rfl) (by kernel_rfl) ?_
              repeat (go_big_quiet_step (fail))
              refine wpQuiet_nil ?_
              intro w6 hw6
              have hb6 := below_of_regrown hw6
              clear hw6
              go_wp2
              go_ret
              exact ⟨rfl, bt hB hb6⟩
            · have hnx : Hid (∀ m : Nat, m < 6 + 1 → ones.getD m 0 ≠ c) := hstep.out he
              have e0 : (c.toNat : Int) ≠ 46 := fun h => he (UInt8.toNat_inj.1 (by show 46 = c.toNat; omega))
              have e1 : (((((⟨#[40, 41, 123, 125, 44, 59, 46, 124, 47, 43, 45, 42, 37, 61, 60, 62]⟩ : ByteArray)[6]'(by decide)).toNat : Nat) : Int) == ((s[i]).toNat : Int)) = false := by
                show ((46 : Int) == ((s[i]).toNat : Int)) = false
                rw [hcn]; simp; omega
              clear he e0 hmem hstep
              go_upto_region 10 with fail
              refine wp_region_quiet_below (by kernel_rfl) (by kernel_rfl) ?_
              repeat (go_big_quiet_step (fail))
              refine wpQuiet_nil ?_
              intro w6 hw6
              have hb6 := below_of_regrown hw6
              clear hw6
              go_wp2
              go_roundw
              case rel => exact ⟨7, by omega, rfl, hnx, bt hB hb6⟩
              case measure => simp [intOf]
          · by_cases he : (124 : UInt8) = c
            · obtain rfl : t = 1 := by
                rw [HSC.out, if_pos]
                rw [← he]
                exact hmem.out
              have e1 : (((((⟨#[40, 41, 123, 125, 44, 59, 46, 124, 47, 43, 45, 42, 37, 61, 60, 62]⟩ : ByteArray)[7]'(by decide)).toNat : Nat) : Int) == ((s[i]).toNat : Int)) = true := by rw [hcn, ← he]; rfl
              clear he hcn hc hmem hstep HSC
              go_upto_region 10 with fail
              refine wp_region_quiet_below (by kernel_rfl) (by kernel_rfl) ?_
              repeat (go_big_quiet_step (fail))
              refine wpQuiet_nil ?_
              intro w6 hw6
              have hb6 := below_of_regrown hw6
              clear hw6
              go_wp2
              go_ret
              exact ⟨rfl, bt hB hb6⟩
            · have hnx : Hid (∀ m : Nat, m < 7 + 1 → ones.getD m 0 ≠ c) := hstep.out he
              have e0 : (c.toNat : Int) ≠ 124 := fun h => he (UInt8.toNat_inj.1 (by show 124 = c.toNat; omega))
              have e1 : (((((⟨#[40, 41, 123, 125, 44, 59, 46, 124, 47, 43, 45, 42, 37, 61, 60, 62]⟩ : ByteArray)[7]'(by decide)).toNat : Nat) : Int) == ((s[i]).toNat : Int)) = false := by
                show ((124 : Int) == ((s[i]).toNat : Int)) = false
                rw [hcn]; simp; omega
              clear he e0 hmem hstep
              go_upto_region 10 with fail
              refine wp_region_quiet_below (by kernel_rfl) (by kernel_rfl) ?_
              repeat (go_big_quiet_step (fail))
              refine wpQuiet_nil ?_
              intro w6 hw6
              have hb6 := below_of_regrown hw6
              clear hw6
              go_wp2
              go_roundw
              case rel => exact ⟨8, by omega, rfl, hnx, bt hB hb6⟩
              case measure => simp [intOf]
          · by_cases he : (47 : UInt8) = c
            · obtain rfl : t = 1 := by
                rw [HSC.out, if_pos]
                rw [← he]
                exact hmem.out
              have e1 : (((((⟨#[40, 41, 123, 125, 44, 59, 46, 124, 47, 43, 45, 42, 37, 61, 60, 62]⟩ : ByteArray)[8]'(by decide)).toNat : Nat) : Int) == ((s[i]).toNat : Int)) = true := by rw [hcn, ← he]; rfl
              clear he hcn hc hmem hstep HSC
              go_upto_region 10 with fail
              refine wp_region_quiet_below (by kernel_rfl) (by kernel_rfl) ?_
              repeat (go_big_quiet_step (fail))
              refine wpQuiet_nil ?_
              intro w6 hw6
              have hb6 := below_of_regrown hw6
              clear hw6
              go_wp2
              go_ret
              exact ⟨rfl, bt hB hb6⟩
            · have hnx : Hid (∀ m : Nat, m < 8 + 1 → ones.getD m 0 ≠ c) := hstep.out he
              have e0 : (c.toNat : Int) ≠ 47 := fun h => he (UInt8.toNat_inj.1 (by show 47 = c.toNat; omega))
              have e1 : (((((⟨#[40, 41, 123, 125, 44, 59, 46, 124, 47, 43, 45, 42, 37, 61, 60, 62]⟩ : ByteArray)[8]'(by decide)).toNat : Nat) : Int) == ((s[i]).toNat : Int)) = false := by
                show ((47 : Int) == ((s[i]).toNat : Int)) = false
                rw [hcn]; simp; omega
              clear he e0 hmem hstep
              go_upto_region 10 with fail
              refine wp_region_quiet_below (by kernel_rfl) (by kernel_rfl) ?_
              repeat (go_big_quiet_step (fail))
              refine wpQuiet_nil ?_
              intro w6 hw6
              have hb6 := below_of_regrown hw6
              clear hw6
              go_wp2
              go_roundw
              case rel => exact ⟨9, by omega, rfl, hnx, bt hB hb6⟩
              case measure => simp [intOf]
          · by_cases he : (43 : UInt8) = c
            · obtain rfl : t = 1 := by
                rw [HSC.out, if_pos]
                rw [← he]
                exact hmem.out
              have e1 : (((((⟨#[40, 41, 123, 125, 44, 59, 46, 124, 47, 43, 45, 42, 37, 61, 60, 62]⟩ : ByteArray)[9]'(by decide)).toNat : Nat) : Int) == ((s[i]).toNat : Int)) = true := by rw [hcn, ← he]; rfl
              clear he hcn hc hmem hstep HSC
              go_upto_region 10 with fail
              refine wp_region_quiet_below (by kernel_rfl) (by kernel_rfl) ?_
              repeat (go_big_quiet_step (fail))
              refine wpQuiet_nil ?_
              intro w6 hw6
              have hb6 := below_of_regrown hw6
              clear hw6
              go_wp2
              go_ret
              exact ⟨rfl, bt hB hb6⟩
            · have hnx : Hid (∀ m : Nat, m < 9 + 1 → ones.getD m 0 ≠ c) := hstep.out he
              have e0 : (c.toNat : Int) ≠ 43 := fun h => he (UInt8.toNat_inj.1 (by show 43 = c.toNat; omega))
              have e1 : (((((⟨#[40, 41, 123, 125, 44, 59, 46, 124, 47, 43, 45, 42, 37, 61, 60, 62]⟩ : ByteArray)[9]'(by decide)).toNat : Nat) : Int) == ((s[i]).toNat : Int)) = false := by
                show ((43 : Int) == ((s[i]).toNat : Int)) = false
                rw [hcn]; simp; omega
              clear he e0 hmem hstep
              go_upto_region 10 with fail
              refine wp_region_quiet_below (by kernel_rfl) (by kernel_rfl) ?_
              repeat (go_big_quiet_step (fail))
              refine wpQuiet_nil ?_
              intro w6 hw6
              have hb6 := below_of_regrown hw6
              clear hw6
              go_wp2
              go_roundw
              case rel => exact ⟨10, by omega, rfl, hnx, bt hB hb6⟩
              case measure => simp [intOf]
          · by_cases he : (45 : UInt8) = c
            · obtain rfl : t = 1 := by
                rw [HSC.out, if_pos]
                rw [← he]
                exact hmem.out
              have e1 : (((((⟨#[40, 41, 123, 125, 44, 59, 46, 124, 47, 43, 45, 42, 37, 61, 60, 62]⟩ : ByteArray)[10]'(by decide)).toNat : Nat) : Int) == ((s[i]).toNat : Int)) = true := by rw [hcn, ← he]; rfl
              clear he hcn hc hmem hstep HSC
              go_upto_region 10 with fail
              refine wp_region_quiet_below (by kernel_rfl) (by kernel_rfl) ?_
              repeat (go_big_quiet_step (fail))
              refine wpQuiet_nil ?_
              intro w6 hw6
              have hb6 := below_of_regrown hw6
              clear hw6
              go_wp2
              go_ret
              exact ⟨rfl, bt hB hb6⟩
            · have hnx : Hid (∀ m : Nat, m < 10 + 1 → ones.getD m 0 ≠ c) := hstep.out he
              have e0 : (c.toNat : Int) ≠ 45 := fun h => he (UInt8.toNat_inj.1 (by show 45 = c.toNat; omega))
              have e1 : (((((⟨#[40, 41, 123, 125, 44, 59, 46, 124, 47, 43, 45, 42, 37, 61, 60, 62]⟩ : ByteArray)[10]'(by decide)).toNat : Nat) : Int) == ((s[i]).toNat : Int)) = false := by
                show ((45 : Int) == ((s[i]).toNat : Int)) = false
                rw [hcn]; simp; omega
              clear he e0 hmem hstep
              go_upto_region 10 with fail
              refine wp_region_quiet_below (by kernel_rfl) (by kernel_rfl) ?_
              repeat (go_big_quiet_step (fail))
              refine wpQuiet_nil ?_
              intro w6 hw6
              have hb6 := below_of_regrown hw6
              clear hw6
              go_wp2
              go_roundw
              case rel => exact ⟨11, by omega, rfl, hnx, bt hB hb6⟩
              case measure => simp [intOf]
          · by_cases he : (42 : UInt8) = c
            · obtain rfl : t = 1 := by
                rw [HSC.out, if_pos]
                rw [← he]
                exact hmem.out
              have e1 : (((((⟨#[40, 41, 123, 125, 44, 59, 46, 124, 47, 43, 45, 42, 37, 61, 60, 62]⟩ : ByteArray)[11]'(by decide)).toNat : Nat) : Int) == ((s[i]).toNat : Int)) = true := by rw [hcn, ← he]; rfl
              clear he hcn hc hmem hstep HSC
              go_upto_region 10 with fail
              refine wp_region_quiet_below (by kernel_rfl) (by kernel_rfl) ?_
              repeat (go_big_quiet_step (fail))
              refine wpQuiet_nil ?_
              intro w6 hw6
              have hb6 := below_of_regrown hw6
              clear hw6
              go_wp2
              go_ret
              exact ⟨rfl, bt hB hb6⟩
            · have hnx : Hid (∀ m : Nat, m < 11 + 1 → ones.getD m 0 ≠ c) := hstep.out he
              have e0 : (c.toNat : Int) ≠ 42 := fun h => he (UInt8.toNat_inj.1 (by show 42 = c.toNat; omega))
              have e1 : (((((⟨#[40, 41, 123, 125, 44, 59, 46, 124, 47, 43, 45, 42, 37, 61, 60, 62]⟩ : ByteArray)[11]'(by decide)).toNat : Nat) : Int) == ((s[i]).toNat : Int)) = false := by
                show ((42 : Int) == ((s[i]).toNat : Int)) = false
                rw [hcn]; simp; omega
              clear he e0 hmem hstep
              go_upto_region 10 with fail
              refine wp_region_quiet_below (by kernel_rfl) (by kernel_rfl) ?_
              repeat (go_big_quiet_step (fail))
              refine wpQuiet_nil ?_
              intro w6 hw6
              have hb6 := below_of_regrown hw6
              clear hw6
              go_wp2
              go_roundw
              case rel => exact ⟨12, by omega, rfl, hnx, bt hB hb6⟩
              case measure => simp [intOf]
          · by_cases he : (37 : UInt8) = c
            · obtain rfl : t = 1 := by
                rw [HSC.out, if_pos]
                rw [← he]
                exact hmem.out
              have e1 : (((((⟨#[40, 41, 123, 125, 44, 59, 46, 124, 47, 43, 45, 42, 37, 61, 60, 62]⟩ : ByteArray)[12]'(by decide)).toNat : Nat) : Int) == ((s[i]).toNat : Int)) = true := by rw [hcn, ← he]; rfl
              clear he hcn hc hmem hstep HSC
              go_upto_region 10 with fail
              refine wp_region_quiet_below (by kernel_rfl) (by kernel_rfl) ?_
              repeat (go_big_quiet_step (fail))
              refine wpQuiet_nil ?_
              intro w6 hw6
              have hb6 := below_of_regrown hw6
              clear hw6
              go_wp2
              go_ret
              exact ⟨rfl, bt hB hb6⟩
            · have hnx : Hid (∀ m : Nat, m < 12 + 1 → ones.getD m 0 ≠ c) := hstep.out he
              have e0 : (c.toNat : Int) ≠ 37 := fun h => he (UInt8.toNat_inj.1 (by show 37 = c.toNat; omega))
              have e1 : (((((⟨#[40, 41, 123, 125, 44, 59, 46, 124, 47, 43, 45, 42, 37, 61, 60, 62]⟩ : ByteArray)[12]'(by decide)).toNat : Nat) : Int) == ((s[i]).toNat : Int)) = false := by
                show ((37 : Int) == ((s[i]).toNat : Int)) = false
                rw [hcn]; simp; omega
              clear he e0 hmem hstep
              go_upto_region 10 with fail
              refine wp_region_quiet_below (by kernel_rfl) (by kernel_rfl) ?_
              repeat (go_big_quiet_step (fail))
              refine wpQuiet_nil ?_
              intro w6 hw6
              have hb6 := below_of_regrown hw6
              clear hw6
              go_wp2
              go_roundw
              case rel => exact ⟨13, by omega, rfl, hnx, bt hB hb6⟩
              case measure => simp [intOf]
          · by_cases he : (61 : UInt8) = c
            · obtain rfl : t = 1 := by
                rw [HSC.out, if_pos]
                rw [← he]
                exact hmem.out
              have e1 : (((((⟨#[40, 41, 123, 125, 44, 59, 46, 124, 47, 43, 45, 42, 37, 61, 60, 62]⟩ : ByteArray)[13]'(by decide)).toNat : Nat) : Int) == ((s[i]).toNat : Int)) = true := by rw [hcn, ← he]; rfl
              clear he hcn hc hmem hstep HSC
              go_upto_region 10 with fail
              refine wp_region_quiet_below (by kernel_rfl) (by kernel_rfl) ?_
              repeat (go_big_quiet_step (fail))
              refine wpQuiet_nil ?_
              intro w6 hw6
              have hb6 := below_of_regrown hw6
              clear hw6
              go_wp2
              go_ret
              exact ⟨rfl, bt hB hb6⟩
            · have hnx : Hid (∀ m : Nat, m < 13 + 1 → ones.getD m 0 ≠ c) := hstep.out he
              have e0 : (c.toNat : Int) ≠ 61 := fun h => he (UInt8.toNat_inj.1 (by show 61 = c.toNat; omega))
              have e1 : (((((⟨#[40, 41, 123, 125, 44, 59, 46, 124, 47, 43, 45, 42, 37, 61, 60, 62]⟩ : ByteArray)[13]'(by decide)).toNat : Nat) : Int) == ((s[i]).toNat : Int)) = false := by
                show ((61 : Int) == ((s[i]).toNat : Int)) = false
                rw [hcn]; simp; omega
              clear he e0 hmem hstep
              go_upto_region 10 with fail
              refine wp_region_quiet_below (by kernel_rfl) (by kernel_rfl) ?_
              repeat (go_big_quiet_step (fail))
              refine wpQuiet_nil ?_
              intro w6 hw6
              have hb6 := below_of_regrown hw6
              clear hw6
              go_wp2
              go_roundw
              case rel => exact ⟨14, by omega, rfl, hnx, bt hB hb6⟩
              case measure => simp [intOf]
          · by_cases he : (60 : UInt8) = c
            · obtain rfl : t = 1 := by
                rw [HSC.out, if_pos]
                rw [← he]
                exact hmem.out
              have e1 : (((((⟨#[40, 41, 123, 125, 44, 59, 46, 124, 47, 43, 45, 42, 37, 61, 60, 62]⟩ : ByteArray)[14]'(by decide)).toNat : Nat) : Int) == ((s[i]).toNat : Int)) = true := by rw [hcn, ← he]; rfl
              clear he hcn hc hmem hstep HSC
              go_upto_region 10 with fail
              refine wp_region_quiet_below (by kernel_rfl) (by kernel_rfl) ?_
              repeat (go_big_quiet_step (fail))
              refine wpQuiet_nil ?_
              intro w6 hw6
              have hb6 := below_of_regrown hw6
              clear hw6
              go_wp2
              go_ret
              exact ⟨rfl, bt hB hb6⟩
            · have hnx : Hid (∀ m : Nat, m < 14 + 1 → ones.getD m 0 ≠ c) := hstep.out he
              have e0 : (c.toNat : Int) ≠ 60 := fun h => he (UInt8.toNat_inj.1 (by show 60 = c.toNat; omega))
              have e1 : (((((⟨#[40, 41, 123, 125, 44, 59, 46, 124, 47, 43, 45, 42, 37, 61, 60, 62]⟩ : ByteArray)[14]'(by decide)).toNat : Nat) : Int) == ((s[i]).toNat : Int)) = false := by
                show ((60 : Int) == ((s[i]).toNat : Int)) = false
                rw [hcn]; simp; omega
              clear he e0 hmem hstep
              go_upto_region 10 with fail
              refine wp_region_quiet_below (by kernel_rfl) (by kernel_rfl) ?_
              repeat (go_big_quiet_step (fail))
              refine wpQuiet_nil ?_
              intro w6 hw6
              have hb6 := below_of_regrown hw6
              clear hw6
              go_wp2
              go_roundw
              case rel => exact ⟨15, by omega, rfl, hnx, bt hB hb6⟩
              case measure => simp [intOf]
          · by_cases he : (62 : UInt8) = c
            · obtain rfl : t = 1 := by
                rw [HSC.out, if_pos]
                rw [← he]
                exact hmem.out
              have e1 : (((((⟨#[40, 41, 123, 125, 44, 59, 46, 124, 47, 43, 45, 42, 37, 61, 60, 62]⟩ : ByteArray)[15]'(by decide)).toNat : Nat) : Int) == ((s[i]).toNat : Int)) = true := by rw [hcn, ← he]; rfl
              clear he hcn hc hmem hstep HSC
              go_upto_region 10 with fail
              refine wp_region_quiet_below (by kernel_rfl) (by kernel_rfl) ?_
              repeat (go_big_quiet_step (fail))
              refine wpQuiet_nil ?_
              intro w6 hw6
              have hb6 := below_of_regrown hw6
              clear hw6
              go_wp2
              go_ret
              exact ⟨rfl, bt hB hb6⟩
            · have hnx : Hid (∀ m : Nat, m < 15 + 1 → ones.getD m 0 ≠ c) := hstep.out he
              have e0 : (c.toNat : Int) ≠ 62 := fun h => he (UInt8.toNat_inj.1 (by show 62 = c.toNat; omega))
              have e1 : (((((⟨#[40, 41, 123, 125, 44, 59, 46, 124, 47, 43, 45, 42, 37, 61, 60, 62]⟩ : ByteArray)[15]'(by decide)).toNat : Nat) : Int) == ((s[i]).toNat : Int)) = false := by
                show ((62 : Int) == ((s[i]).toNat : Int)) = false
                rw [hcn]; simp; omega
              clear he e0 hmem hstep
              go_upto_region 10 with fail
              refine wp_region_quiet_below (by kernel_rfl) (by kernel_rfl) ?_
              repeat (go_big_quiet_step (fail))
              refine wpQuiet_nil ?_
              intro w6 hw6
              have hb6 := below_of_regrown hw6
              clear hw6
              go_wp2
              go_roundw
              case rel => exact ⟨16, by omega, rfl, hnx, bt hB hb6⟩
              case measure => simp [intOf]
        · obtain rfl : k = 16 := by omega
          obtain rfl : t = 0 := by
            rw [HSC.out, if_neg]
            intro hm
            obtain ⟨m, hm1, hm2⟩ := List.getElem_of_mem hm
            have hm3 : m < 16 := hm1
            refine hq.out m hm3 ?_
            rw [List.getD_eq_getElem?_getD, List.getElem?_eq_getElem hm1]
            exact hm2
          clear hq HSC
          go_wp2
          go_ret
          exact ⟨rfl, hB⟩
    · rw [if_neg (by rintro ⟨-, h, -⟩; exact h61 h)] at hsc
      have q61 : ((s.extract i (i + 2)).toList == [61, 61]) = false := by rw [two_list s i hl2, hc, hd]; simp [h61]
      have p61 : ¬ (s.extract i (i + 2)).toList = [61, 61] := by rw [two_list s i hl2, hc, hd]; simp [h61]
      have q33 : ((s.extract i (i + 2)).toList == [33, 61]) = false := by rw [two_list s i hl2, hc, hd]; simp [h61]
      have p33 : ¬ (s.extract i (i + 2)).toList = [33, 61] := by rw [two_list s i hl2, hc, hd]; simp [h61]
      have q60 : ((s.extract i (i + 2)).toList == [60, 61]) = false := by rw [two_list s i hl2, hc, hd]; simp [h61]
      have p60 : ¬ (s.extract i (i + 2)).toList = [60, 61] := by rw [two_list s i hl2, hc, hd]; simp [h61]
      have q62 : ((s.extract i (i + 2)).toList == [62, 61]) = false := by rw [two_list s i hl2, hc, hd]; simp [h61]
      have p62 : ¬ (s.extract i (i + 2)).toList = [62, 61] := by rw [two_list s i hl2, hc, hd]; simp [h61]
      have HSC := Lib.hid hsc
      clear hd hsc
      go_enter Tryz.func58, Tryz.ntmps58
      go_wp2
      go_loopw [7] (fun j wr => ∃ k : Nat, k ≤ 16 ∧ j = .int .i64 k ∧ Hid (∀ m : Nat, m < k → ones.getD m 0 ≠ c) ∧ Below w.heap.size w wr) (fun j _ => 16 - (intOf j).toNat)
      case atStart => exact ⟨0, Nat.zero_le _, rfl, fun m h => absurd h (by omega), Below.refl _ _⟩
      case round =>
        obtain ⟨k, hk, rfl, hq, hB⟩ := hrel
        by_cases hlt : k < 16
        · have hmem : Hid (ones.getD k 0 ∈ ones) := by
            show _ ∈ _
            rw [List.getD_eq_getElem?_getD, List.getElem?_eq_getElem (show k < ones.length from hlt)]
            exact List.getElem_mem _
          have hstep : Hid (ones.getD k 0 ≠ c → ∀ m : Nat, m < k + 1 → ones.getD m 0 ≠ c) := fun he m h => by
            by_cases hmk : m = k
            · subst hmk; exact he
            · exact hq.out m (by omega)
          have h16 : k = 0 ∨ k = 1 ∨ k = 2 ∨ k = 3 ∨ k = 4 ∨ k = 5 ∨ k = 6 ∨ k = 7 ∨ k = 8 ∨ k = 9 ∨ k = 10 ∨ k = 11 ∨ k = 12 ∨ k = 13 ∨ k = 14 ∨ k = 15 := by omega
          clear hq hk hlt
          rcases h16 with rfl | rfl | rfl | rfl | rfl | rfl | rfl | rfl | rfl | rfl | rfl | rfl | rfl | rfl | rfl | rfl
          · by_cases he : (40 : UInt8) = c
            · obtain rfl : t = 1 := by
                rw [HSC.out, if_pos]
                rw [← he]
                exact hmem.out
              have e1 : (((((⟨#[40, 41, 123, 125, 44, 59, 46, 124, 47, 43, 45, 42, 37, 61, 60, 62]⟩ : ByteArray)[0]'(by decide)).toNat : Nat) : Int) == ((s[i]).toNat : Int)) = true := by rw [hcn, ← he]; rfl
              clear he hcn hc hmem hstep HSC
              go_upto_region 10 with fail
              refine wp_region_quiet_below (by kernel_rfl) (by kernel_rfl) ?_
              repeat (go_big_quiet_step (fail))
              refine wpQuiet_nil ?_
              intro w6 hw6
              have hb6 := below_of_regrown hw6
              clear hw6
              go_wp2
              go_ret
              exact ⟨rfl, bt hB hb6⟩
            · have hnx : Hid (∀ m : Nat, m < 0 + 1 → ones.getD m 0 ≠ c) := hstep.out he
              have e0 : (c.toNat : Int) ≠ 40 := fun h => he (UInt8.toNat_inj.1 (by show 40 = c.toNat; omega))
              have e1 : (((((⟨#[40, 41, 123, 125, 44, 59, 46, 124, 47, 43, 45, 42, 37, 61, 60, 62]⟩ : ByteArray)[0]'(by decide)).toNat : Nat) : Int) == ((s[i]).toNat : Int)) = false := by
                show ((40 : Int) == ((s[i]).toNat : Int)) = false
                rw [hcn]; simp; omega
              clear he e0 hmem hstep
              go_upto_region 10 with fail
              refine wp_region_quiet_below (by kernel_rfl) (by kernel_rfl) ?_
              repeat (go_big_quiet_step (fail))
              refine wpQuiet_nil ?_
              intro w6 hw6
              have hb6 := below_of_regrown hw6
              clear hw6
              go_wp2
              go_roundw
              case rel => exact ⟨1, by omega, rfl, hnx, bt hB hb6⟩
              case measure => simp [intOf]
          · by_cases he : (41 : UInt8) = c
            · obtain rfl : t = 1 := by
                rw [HSC.out, if_pos]
                rw [← he]
                exact hmem.out
              have e1 : (((((⟨#[40, 41, 123, 125, 44, 59, 46, 124, 47, 43, 45, 42, 37, 61, 60, 62]⟩ : ByteArray)[1]'(by decide)).toNat : Nat) : Int) == ((s[i]).toNat : Int)) = true := by rw [hcn, ← he]; rfl
              clear he hcn hc hmem hstep HSC
              go_upto_region 10 with fail
              refine wp_region_quiet_below (by kernel_rfl) (by kernel_rfl) ?_
              repeat (go_big_quiet_step (fail))
              refine wpQuiet_nil ?_
              intro w6 hw6
              have hb6 := below_of_regrown hw6
              clear hw6
              go_wp2
              go_ret
              exact ⟨rfl, bt hB hb6⟩
            · have hnx : Hid (∀ m : Nat, m < 1 + 1 → ones.getD m 0 ≠ c) := hstep.out he
              have e0 : (c.toNat : Int) ≠ 41 := fun h => he (UInt8.toNat_inj.1 (by show 41 = c.toNat; omega))
              have e1 : (((((⟨#[40, 41, 123, 125, 44, 59, 46, 124, 47, 43, 45, 42, 37, 61, 60, 62]⟩ : ByteArray)[1]'(by decide)).toNat : Nat) : Int) == ((s[i]).toNat : Int)) = false := by
                show ((41 : Int) == ((s[i]).toNat : Int)) = false
                rw [hcn]; simp; omega
              clear he e0 hmem hstep
              go_upto_region 10 with fail
              refine wp_region_quiet_below (by kernel_rfl) (by kernel_rfl) ?_
              repeat (go_big_quiet_step (fail))
              refine wpQuiet_nil ?_
              intro w6 hw6
              have hb6 := below_of_regrown hw6
              clear hw6
              go_wp2
              go_roundw
              case rel => exact ⟨2, by omega, rfl, hnx, bt hB hb6⟩
              case measure => simp [intOf]
          · by_cases he : (123 : UInt8) = c
            · obtain rfl : t = 1 := by
                rw [HSC.out, if_pos]
                rw [← he]
                exact hmem.out
              have e1 : (((((⟨#[40, 41, 123, 125, 44, 59, 46, 124, 47, 43, 45, 42, 37, 61, 60, 62]⟩ : ByteArray)[2]'(by decide)).toNat : Nat) : Int) == ((s[i]).toNat : Int)) = true := by rw [hcn, ← he]; rfl
              clear he hcn hc hmem hstep HSC
              go_upto_region 10 with fail
              refine wp_region_quiet_below (by kernel_rfl) (by kernel_rfl) ?_
              repeat (go_big_quiet_step (fail))
              refine wpQuiet_nil ?_
              intro w6 hw6
              have hb6 := below_of_regrown hw6
              clear hw6
              go_wp2
              go_ret
              exact ⟨rfl, bt hB hb6⟩
            · have hnx : Hid (∀ m : Nat, m < 2 + 1 → ones.getD m 0 ≠ c) := hstep.out he
              have e0 : (c.toNat : Int) ≠ 123 := fun h => he (UInt8.toNat_inj.1 (by show 123 = c.toNat; omega))
              have e1 : (((((⟨#[40, 41, 123, 125, 44, 59, 46, 124, 47, 43, 45, 42, 37, 61, 60, 62]⟩ : ByteArray)[2]'(by decide)).toNat : Nat) : Int) == ((s[i]).toNat : Int)) = false := by
                show ((123 : Int) == ((s[i]).toNat : Int)) = false
                rw [hcn]; simp; omega
              clear he e0 hmem hstep
              go_upto_region 10 with fail
              refine wp_region_quiet_below (by kernel_rfl) (by kernel_rfl) ?_
              repeat (go_big_quiet_step (fail))
              refine wpQuiet_nil ?_
              intro w6 hw6
              have hb6 := below_of_regrown hw6
              clear hw6
              go_wp2
              go_roundw
              case rel => exact ⟨3, by omega, rfl, hnx, bt hB hb6⟩
              case measure => simp [intOf]
          · by_cases he : (125 : UInt8) = c
            · obtain rfl : t = 1 := by
                rw [HSC.out, if_pos]
                rw [← he]
                exact hmem.out
              have e1 : (((((⟨#[40, 41, 123, 125, 44, 59, 46, 124, 47, 43, 45, 42, 37, 61, 60, 62]⟩ : ByteArray)[3]'(by decide)).toNat : Nat) : Int) == ((s[i]).toNat : Int)) = true := by rw [hcn, ← he]; rfl
              clear he hcn hc hmem hstep HSC
              go_upto_region 10 with fail
              refine wp_region_quiet_below (by kernel_rfl) (by kernel_rfl) ?_
              repeat (go_big_quiet_step (fail))
              refine wpQuiet_nil ?_
              intro w6 hw6
              have hb6 := below_of_regrown hw6
              clear hw6
              go_wp2
              go_ret
              exact ⟨rfl, bt hB hb6⟩
            · have hnx : Hid (∀ m : Nat, m < 3 + 1 → ones.getD m 0 ≠ c) := hstep.out he
              have e0 : (c.toNat : Int) ≠ 125 := fun h => he (UInt8.toNat_inj.1 (by show 125 = c.toNat; omega))
              have e1 : (((((⟨#[40, 41, 123, 125, 44, 59, 46, 124, 47, 43, 45, 42, 37, 61, 60, 62]⟩ : ByteArray)[3]'(by decide)).toNat : Nat) : Int) == ((s[i]).toNat : Int)) = false := by
                show ((125 : Int) == ((s[i]).toNat : Int)) = false
                rw [hcn]; simp; omega
              clear he e0 hmem hstep
              go_upto_region 10 with fail
              refine wp_region_quiet_below (by kernel_rfl) (by kernel_rfl) ?_
              repeat (go_big_quiet_step (fail))
              refine wpQuiet_nil ?_
              intro w6 hw6
              have hb6 := below_of_regrown hw6
              clear hw6
              go_wp2
              go_roundw
              case rel => exact ⟨4, by omega, rfl, hnx, bt hB hb6⟩
              case measure => simp [intOf]
          · by_cases he : (44 : UInt8) = c
            · obtain rfl : t = 1 := by
                rw [HSC.out, if_pos]
                rw [← he]
                exact hmem.out
              have e1 : (((((⟨#[40, 41, 123, 125, 44, 59, 46, 124, 47, 43, 45, 42, 37, 61, 60, 62]⟩ : ByteArray)[4]'(by decide)).toNat : Nat) : Int) == ((s[i]).toNat : Int)) = true := by rw [hcn, ← he]; rfl
              clear he hcn hc hmem hstep HSC
              go_upto_region 10 with fail
              refine wp_region_quiet_below (by kernel_rfl) (by kernel_rfl) ?_
              repeat (go_big_quiet_step (fail))
              refine wpQuiet_nil ?_
              intro w6 hw6
              have hb6 := below_of_regrown hw6
              clear hw6
              go_wp2
              go_ret
              exact ⟨rfl, bt hB hb6⟩
            · have hnx : Hid (∀ m : Nat, m < 4 + 1 → ones.getD m 0 ≠ c) := hstep.out he
              have e0 : (c.toNat : Int) ≠ 44 := fun h => he (UInt8.toNat_inj.1 (by show 44 = c.toNat; omega))
              have e1 : (((((⟨#[40, 41, 123, 125, 44, 59, 46, 124, 47, 43, 45, 42, 37, 61, 60, 62]⟩ : ByteArray)[4]'(by decide)).toNat : Nat) : Int) == ((s[i]).toNat : Int)) = false := by
                show ((44 : Int) == ((s[i]).toNat : Int)) = false
                rw [hcn]; simp; omega
              clear he e0 hmem hstep
              go_upto_region 10 with fail
              refine wp_region_quiet_below (by kernel_rfl) (by kernel_rfl) ?_
              repeat (go_big_quiet_step (fail))
              refine wpQuiet_nil ?_
              intro w6 hw6
              have hb6 := below_of_regrown hw6
              clear hw6
              go_wp2
              go_roundw
              case rel => exact ⟨5, by omega, rfl, hnx, bt hB hb6⟩
              case measure => simp [intOf]
          · by_cases he : (59 : UInt8) = c
            · obtain rfl : t = 1 := by
                rw [HSC.out, if_pos]
                rw [← he]
                exact hmem.out
              have e1 : (((((⟨#[40, 41, 123, 125, 44, 59, 46, 124, 47, 43, 45, 42, 37, 61, 60, 62]⟩ : ByteArray)[5]'(by decide)).toNat : Nat) : Int) == ((s[i]).toNat : Int)) = true := by rw [hcn, ← he]; rfl
              clear he hcn hc hmem hstep HSC
              go_upto_region 10 with fail
              refine wp_region_quiet_below (by kernel_rfl) (by kernel_rfl) ?_
              repeat (go_big_quiet_step (fail))
              refine wpQuiet_nil ?_
              intro w6 hw6
              have hb6 := below_of_regrown hw6
              clear hw6
              go_wp2
              go_ret
              exact ⟨rfl, bt hB hb6⟩
            · have hnx : Hid (∀ m : Nat, m < 5 + 1 → ones.getD m 0 ≠ c) := hstep.out he
              have e0 : (c.toNat : Int) ≠ 59 := fun h => he (UInt8.toNat_inj.1 (by show 59 = c.toNat; omega))
              have e1 : (((((⟨#[40, 41, 123, 125, 44, 59, 46, 124, 47, 43, 45, 42, 37, 61, 60, 62]⟩ : ByteArray)[5]'(by decide)).toNat : Nat) : Int) == ((s[i]).toNat : Int)) = false := by
                show ((59 : Int) == ((s[i]).toNat : Int)) = false
                rw [hcn]; simp; omega
              clear he e0 hmem hstep
              go_upto_region 10 with fail
              refine wp_region_quiet_below (by kernel_rfl) (by kernel_rfl) ?_
              repeat (go_big_quiet_step (fail))
              refine wpQuiet_nil ?_
              intro w6 hw6
              have hb6 := below_of_regrown hw6
              clear hw6
              go_wp2
              go_roundw
              case rel => exact ⟨6, by omega, rfl, hnx, bt hB hb6⟩
              case measure => simp [intOf]
          · by_cases he : (46 : UInt8) = c
            · obtain rfl : t = 1 := by
                rw [HSC.out, if_pos]
                rw [← he]
                exact hmem.out
              have e1 : (((((⟨#[40, 41, 123, 125, 44, 59, 46, 124, 47, 43, 45, 42, 37, 61, 60, 62]⟩ : ByteArray)[6]'(by decide)).toNat : Nat) : Int) == ((s[i]).toNat : Int)) = true := by rw [hcn, ← he]; rfl
              clear he hcn hc hmem hstep HSC
              go_upto_region 10 with fail
              refine wp_region_quiet_below (by kernel_rfl) (by kernel_rfl) ?_
              repeat (go_big_quiet_step (fail))
              refine wpQuiet_nil ?_
              intro w6 hw6
              have hb6 := below_of_regrown hw6
              clear hw6
              go_wp2
              go_ret
              exact ⟨rfl, bt hB hb6⟩
            · have hnx : Hid (∀ m : Nat, m < 6 + 1 → ones.getD m 0 ≠ c) := hstep.out he
              have e0 : (c.toNat : Int) ≠ 46 := fun h => he (UInt8.toNat_inj.1 (by show 46 = c.toNat; omega))
              have e1 : (((((⟨#[40, 41, 123, 125, 44, 59, 46, 124, 47, 43, 45, 42, 37, 61, 60, 62]⟩ : ByteArray)[6]'(by decide)).toNat : Nat) : Int) == ((s[i]).toNat : Int)) = false := by
                show ((46 : Int) == ((s[i]).toNat : Int)) = false
                rw [hcn]; simp; omega
              clear he e0 hmem hstep
              go_upto_region 10 with fail
              refine wp_region_quiet_below (by kernel_rfl) (by kernel_rfl) ?_
              repeat (go_big_quiet_step (fail))
              refine wpQuiet_nil ?_
              intro w6 hw6
              have hb6 := below_of_regrown hw6
              clear hw6
              go_wp2
              go_roundw
              case rel => exact ⟨7, by omega, rfl, hnx, bt hB hb6⟩
              case measure => simp [intOf]
          · by_cases he : (124 : UInt8) = c
            · obtain rfl : t = 1 := by
                rw [HSC.out, if_pos]
                rw [← he]
                exact hmem.out
              have e1 : (((((⟨#[40, 41, 123, 125, 44, 59, 46, 124, 47, 43, 45, 42, 37, 61, 60, 62]⟩ : ByteArray)[7]'(by decide)).toNat : Nat) : Int) == ((s[i]).toNat : Int)) = true := by rw [hcn, ← he]; rfl
              clear he hcn hc hmem hstep HSC
              go_upto_region 10 with fail
              refine wp_region_quiet_below (by kernel_rfl) (by kernel_rfl) ?_
              repeat (go_big_quiet_step (fail))
              refine wpQuiet_nil ?_
              intro w6 hw6
              have hb6 := below_of_regrown hw6
              clear hw6
              go_wp2
              go_ret
              exact ⟨rfl, bt hB hb6⟩
            · have hnx : Hid (∀ m : Nat, m < 7 + 1 → ones.getD m 0 ≠ c) := hstep.out he
              have e0 : (c.toNat : Int) ≠ 124 := fun h => he (UInt8.toNat_inj.1 (by show 124 = c.toNat; omega))
              have e1 : (((((⟨#[40, 41, 123, 125, 44, 59, 46, 124, 47, 43, 45, 42, 37, 61, 60, 62]⟩ : ByteArray)[7]'(by decide)).toNat : Nat) : Int) == ((s[i]).toNat : Int)) = false := by
                show ((124 : Int) == ((s[i]).toNat : Int)) = false
                rw [hcn]; simp; omega
              clear he e0 hmem hstep
              go_upto_region 10 with fail
              refine wp_region_quiet_below (by kernel_rfl) (by kernel_rfl) ?_
              repeat (go_big_quiet_step (fail))
              refine wpQuiet_nil ?_
              intro w6 hw6
              have hb6 := below_of_regrown hw6
              clear hw6
              go_wp2
              go_roundw
              case rel => exact ⟨8, by omega, rfl, hnx, bt hB hb6⟩
              case measure => simp [intOf]
          · by_cases he : (47 : UInt8) = c
            · obtain rfl : t = 1 := by
                rw [HSC.out, if_pos]
                rw [← he]
                exact hmem.out
              have e1 : (((((⟨#[40, 41, 123, 125, 44, 59, 46, 124, 47, 43, 45, 42, 37, 61, 60, 62]⟩ : ByteArray)[8]'(by decide)).toNat : Nat) : Int) == ((s[i]).toNat : Int)) = true := by rw [hcn, ← he]; rfl
              clear he hcn hc hmem hstep HSC
              go_upto_region 10 with fail
              refine wp_region_quiet_below (by kernel_rfl) (by kernel_rfl) ?_
              repeat (go_big_quiet_step (fail))
              refine wpQuiet_nil ?_
              intro w6 hw6
              have hb6 := below_of_regrown hw6
              clear hw6
              go_wp2
              go_ret
              exact ⟨rfl, bt hB hb6⟩
            · have hnx : Hid (∀ m : Nat, m < 8 + 1 → ones.getD m 0 ≠ c) := hstep.out he
              have e0 : (c.toNat : Int) ≠ 47 := fun h => he (UInt8.toNat_inj.1 (by show 47 = c.toNat; omega))
              have e1 : (((((⟨#[40, 41, 123, 125, 44, 59, 46, 124, 47, 43, 45, 42, 37, 61, 60, 62]⟩ : ByteArray)[8]'(by decide)).toNat : Nat) : Int) == ((s[i]).toNat : Int)) = false := by
                show ((47 : Int) == ((s[i]).toNat : Int)) = false
                rw [hcn]; simp; omega
              clear he e0 hmem hstep
              go_upto_region 10 with fail
              refine wp_region_quiet_below (by kernel_rfl) (by kernel_rfl) ?_
              repeat (go_big_quiet_step (fail))
              refine wpQuiet_nil ?_
              intro w6 hw6
              have hb6 := below_of_regrown hw6
              clear hw6
              go_wp2
              go_roundw
              case rel => exact ⟨9, by omega, rfl, hnx, bt hB hb6⟩
              case measure => simp [intOf]
          · by_cases he : (43 : UInt8) = c
            · obtain rfl : t = 1 := by
                rw [HSC.out, if_pos]
                rw [← he]
                exact hmem.out
              have e1 : (((((⟨#[40, 41, 123, 125, 44, 59, 46, 124, 47, 43, 45, 42, 37, 61, 60, 62]⟩ : ByteArray)[9]'(by decide)).toNat : Nat) : Int) == ((s[i]).toNat : Int)) = true := by rw [hcn, ← he]; rfl
              clear he hcn hc hmem hstep HSC
              go_upto_region 10 with fail
              refine wp_region_quiet_below (by kernel_rfl) (by kernel_rfl) ?_
              repeat (go_big_quiet_step (fail))
              refine wpQuiet_nil ?_
              intro w6 hw6
              have hb6 := below_of_regrown hw6
              clear hw6
              go_wp2
              go_ret
              exact ⟨rfl, bt hB hb6⟩
            · have hnx : Hid (∀ m : Nat, m < 9 + 1 → ones.getD m 0 ≠ c) := hstep.out he
              have e0 : (c.toNat : Int) ≠ 43 := fun h => he (UInt8.toNat_inj.1 (by show 43 = c.toNat; omega))
              have e1 : (((((⟨#[40, 41, 123, 125, 44, 59, 46, 124, 47, 43, 45, 42, 37, 61, 60, 62]⟩ : ByteArray)[9]'(by decide)).toNat : Nat) : Int) == ((s[i]).toNat : Int)) = false := by
                show ((43 : Int) == ((s[i]).toNat : Int)) = false
                rw [hcn]; simp; omega
              clear he e0 hmem hstep
              go_upto_region 10 with fail
              refine wp_region_quiet_below (by kernel_rfl) (by kernel_rfl) ?_
              repeat (go_big_quiet_step (fail))
              refine wpQuiet_nil ?_
              intro w6 hw6
              have hb6 := below_of_regrown hw6
              clear hw6
              go_wp2
              go_roundw
              case rel => exact ⟨10, by omega, rfl, hnx, bt hB hb6⟩
              case measure => simp [intOf]
          · by_cases he : (45 : UInt8) = c
            · obtain rfl : t = 1 := by
                rw [HSC.out, if_pos]
                rw [← he]
                exact hmem.out
              have e1 : (((((⟨#[40, 41, 123, 125, 44, 59, 46, 124, 47, 43, 45, 42, 37, 61, 60, 62]⟩ : ByteArray)[10]'(by decide)).toNat : Nat) : Int) == ((s[i]).toNat : Int)) = true := by rw [hcn, ← he]; rfl
              clear he hcn hc hmem hstep HSC
              go_upto_region 10 with fail
              refine wp_region_quiet_below (by kernel_rfl) (by kernel_rfl) ?_
              repeat (go_big_quiet_step (fail))
              refine wpQuiet_nil ?_
              intro w6 hw6
              have hb6 := below_of_regrown hw6
              clear hw6
              go_wp2
              go_ret
              exact ⟨rfl, bt hB hb6⟩
            · have hnx : Hid (∀ m : Nat, m < 10 + 1 → ones.getD m 0 ≠ c) := hstep.out he
              have e0 : (c.toNat : Int) ≠ 45 := fun h => he (UInt8.toNat_inj.1 (by show 45 = c.toNat; omega))
              have e1 : (((((⟨#[40, 41, 123, 125, 44, 59, 46, 124, 47, 43, 45, 42, 37, 61, 60, 62]⟩ : ByteArray)[10]'(by decide)).toNat : Nat) : Int) == ((s[i]).toNat : Int)) = false := by
                show ((45 : Int) == ((s[i]).toNat : Int)) = false
                rw [hcn]; simp; omega
              clear he e0 hmem hstep
              go_upto_region 10 with fail
              refine wp_region_quiet_below (by kernel_rfl) (by kernel_rfl) ?_
              repeat (go_big_quiet_step (fail))
              refine wpQuiet_nil ?_
              intro w6 hw6
              have hb6 := below_of_regrown hw6
              clear hw6
              go_wp2
              go_roundw
              case rel => exact ⟨11, by omega, rfl, hnx, bt hB hb6⟩
              case measure => simp [intOf]
          · by_cases he : (42 : UInt8) = c
            · obtain rfl : t = 1 := by
                rw [HSC.out, if_pos]
                rw [← he]
                exact hmem.out
              have e1 : (((((⟨#[40, 41, 123, 125, 44, 59, 46, 124, 47, 43, 45, 42, 37, 61, 60, 62]⟩ : ByteArray)[11]'(by decide)).toNat : Nat) : Int) == ((s[i]).toNat : Int)) = true := by rw [hcn, ← he]; rfl
              clear he hcn hc hmem hstep HSC
              go_upto_region 10 with fail
              refine wp_region_quiet_below (by kernel_rfl) (by kernel_rfl) ?_
              repeat (go_big_quiet_step (fail))
              refine wpQuiet_nil ?_
              intro w6 hw6
              have hb6 := below_of_regrown hw6
              clear hw6
              go_wp2
              go_ret
              exact ⟨rfl, bt hB hb6⟩
            · have hnx : Hid (∀ m : Nat, m < 11 + 1 → ones.getD m 0 ≠ c) := hstep.out he
              have e0 : (c.toNat : Int) ≠ 42 := fun h => he (UInt8.toNat_inj.1 (by show 42 = c.toNat; omega))
              have e1 : (((((⟨#[40, 41, 123, 125, 44, 59, 46, 124, 47, 43, 45, 42, 37, 61, 60, 62]⟩ : ByteArray)[11]'(by decide)).toNat : Nat) : Int) == ((s[i]).toNat : Int)) = false := by
                show ((42 : Int) == ((s[i]).toNat : Int)) = false
                rw [hcn]; simp; omega
              clear he e0 hmem hstep
              go_upto_region 10 with fail
              refine wp_region_quiet_below (by kernel_rfl) (by kernel_rfl) ?_
              repeat (go_big_quiet_step (fail))
              refine wpQuiet_nil ?_
              intro w6 hw6
              have hb6 := below_of_regrown hw6
              clear hw6
              go_wp2
              go_roundw
              case rel => exact ⟨12, by omega, rfl, hnx, bt hB hb6⟩
              case measure => simp [intOf]
          · by_cases he : (37 : UInt8) = c
            · obtain rfl : t = 1 := by
                rw [HSC.out, if_pos]
                rw [← he]
                exact hmem.out
              have e1 : (((((⟨#[40, 41, 123, 125, 44, 59, 46, 124, 47, 43, 45, 42, 37, 61, 60, 62]⟩ : ByteArray)[12]'(by decide)).toNat : Nat) : Int) == ((s[i]).toNat : Int)) = true := by rw [hcn, ← he]; rfl
              clear he hcn hc hmem hstep HSC
              go_upto_region 10 with fail
              refine wp_region_quiet_below (by kernel_rfl) (by kernel_rfl) ?_
              repeat (go_big_quiet_step (fail))
              refine wpQuiet_nil ?_
              intro w6 hw6
              have hb6 := below_of_regrown hw6
              clear hw6
              go_wp2
              go_ret
              exact ⟨rfl, bt hB hb6⟩
            · have hnx : Hid (∀ m : Nat, m < 12 + 1 → ones.getD m 0 ≠ c) := hstep.out he
              have e0 : (c.toNat : Int) ≠ 37 := fun h => he (UInt8.toNat_inj.1 (by show 37 = c.toNat; omega))
              have e1 : (((((⟨#[40, 41, 123, 125, 44, 59, 46, 124, 47, 43, 45, 42, 37, 61, 60, 62]⟩ : ByteArray)[12]'(by decide)).toNat : Nat) : Int) == ((s[i]).toNat : Int)) = false := by
                show ((37 : Int) == ((s[i]).toNat : Int)) = false
                rw [hcn]; simp; omega
              clear he e0 hmem hstep
              go_upto_region 10 with fail
              refine wp_region_quiet_below (by kernel_rfl) (by kernel_rfl) ?_
              repeat (go_big_quiet_step (fail))
              refine wpQuiet_nil ?_
              intro w6 hw6
              have hb6 := below_of_regrown hw6
              clear hw6
              go_wp2
              go_roundw
              case rel => exact ⟨13, by omega, rfl, hnx, bt hB hb6⟩
              case measure => simp [intOf]
          · by_cases he : (61 : UInt8) = c
            · obtain rfl : t = 1 := by
                rw [HSC.out, if_pos]
                rw [← he]
                exact hmem.out
              have e1 : (((((⟨#[40, 41, 123, 125, 44, 59, 46, 124, 47, 43, 45, 42, 37, 61, 60, 62]⟩ : ByteArray)[13]'(by decide)).toNat : Nat) : Int) == ((s[i]).toNat : Int)) = true := by rw [hcn, ← he]; rfl
              clear he hcn hc hmem hstep HSC
              go_upto_region 10 with fail
              refine wp_region_quiet_below (by kernel_rfl) (by kernel_rfl) ?_
              repeat (go_big_quiet_step (fail))
              refine wpQuiet_nil ?_
              intro w6 hw6
              have hb6 := below_of_regrown hw6
              clear hw6
              go_wp2
              go_ret
              exact ⟨rfl, bt hB hb6⟩
            · have hnx : Hid (∀ m : Nat, m < 13 + 1 → ones.getD m 0 ≠ c) := hstep.out he
              have e0 : (c.toNat : Int) ≠ 61 := fun h => he (UInt8.toNat_inj.1 (by show 61 = c.toNat; omega))
              have e1 : (((((⟨#[40, 41, 123, 125, 44, 59, 46, 124, 47, 43, 45, 42, 37, 61, 60, 62]⟩ : ByteArray)[13]'(by decide)).toNat : Nat) : Int) == ((s[i]).toNat : Int)) = false := by
                show ((61 : Int) == ((s[i]).toNat : Int)) = false
                rw [hcn]; simp; omega
              clear he e0 hmem hstep
              go_upto_region 10 with fail
              refine wp_region_quiet_below (by kernel_rfl) (by kernel_rfl) ?_
              repeat (go_big_quiet_step (fail))
              refine wpQuiet_nil ?_
              intro w6 hw6
              have hb6 := below_of_regrown hw6
              clear hw6
              go_wp2
              go_roundw
              case rel => exact ⟨14, by omega, rfl, hnx, bt hB hb6⟩
              case measure => simp [intOf]
          · by_cases he : (60 : UInt8) = c
            · obtain rfl : t = 1 := by
                rw [HSC.out, if_pos]
                rw [← he]
                exact hmem.out
              have e1 : (((((⟨#[40, 41, 123, 125, 44, 59, 46, 124, 47, 43, 45, 42, 37, 61, 60, 62]⟩ : ByteArray)[14]'(by decide)).toNat : Nat) : Int) == ((s[i]).toNat : Int)) = true := by rw [hcn, ← he]; rfl
              clear he hcn hc hmem hstep HSC
              go_upto_region 10 with fail
              refine wp_region_quiet_below (by kernel_rfl) (by kernel_rfl) ?_
              repeat (go_big_quiet_step (fail))
              refine wpQuiet_nil ?_
              intro w6 hw6
              have hb6 := below_of_regrown hw6
              clear hw6
              go_wp2
              go_ret
              exact ⟨rfl, bt hB hb6⟩
            · have hnx : Hid (∀ m : Nat, m < 14 + 1 → ones.getD m 0 ≠ c) := hstep.out he
              have e0 : (c.toNat : Int) ≠ 60 := fun h => he (UInt8.toNat_inj.1 (by show 60 = c.toNat; omega))
              have e1 : (((((⟨#[40, 41, 123, 125, 44, 59, 46, 124, 47, 43, 45, 42, 37, 61, 60, 62]⟩ : ByteArray)[14]'(by decide)).toNat : Nat) : Int) == ((s[i]).toNat : Int)) = false := by
                show ((60 : Int) == ((s[i]).toNat : Int)) = false
                rw [hcn]; simp; omega
              clear he e0 hmem hstep
              go_upto_region 10 with fail
              refine wp_region_quiet_below (by kernel_rfl) (by kernel_rfl) ?_
              repeat (go_big_quiet_step (fail))
              refine wpQuiet_nil ?_
              intro w6 hw6
              have hb6 := below_of_regrown hw6
              clear hw6
              go_wp2
              go_roundw
              case rel => exact ⟨15, by omega, rfl, hnx, bt hB hb6⟩
              case measure => simp [intOf]
          · by_cases he : (62 : UInt8) = c
            · obtain rfl : t = 1 := by
                rw [HSC.out, if_pos]
                rw [← he]
                exact hmem.out
              have e1 : (((((⟨#[40, 41, 123, 125, 44, 59, 46, 124, 47, 43, 45, 42, 37, 61, 60, 62]⟩ : ByteArray)[15]'(by decide)).toNat : Nat) : Int) == ((s[i]).toNat : Int)) = true := by rw [hcn, ← he]; rfl
              clear he hcn hc hmem hstep HSC
              go_upto_region 10 with fail
              refine wp_region_quiet_below (by kernel_rfl) (by kernel_rfl) ?_
              repeat (go_big_quiet_step (fail))
              refine wpQuiet_nil ?_
              intro w6 hw6
              have hb6 := below_of_regrown hw6
              clear hw6
              go_wp2
              go_ret
              exact ⟨rfl, bt hB hb6⟩
            · have hnx : Hid (∀ m : Nat, m < 15 + 1 → ones.getD m 0 ≠ c) := hstep.out he
              have e0 : (c.toNat : Int) ≠ 62 := fun h => he (UInt8.toNat_inj.1 (by show 62 = c.toNat; omega))
              have e1 : (((((⟨#[40, 41, 123, 125, 44, 59, 46, 124, 47, 43, 45, 42, 37, 61, 60, 62]⟩ : ByteArray)[15]'(by decide)).toNat : Nat) : Int) == ((s[i]).toNat : Int)) = false := by
                show ((62 : Int) == ((s[i]).toNat : Int)) = false
                rw [hcn]; simp; omega
              clear he e0 hmem hstep
              go_upto_region 10 with fail
              refine wp_region_quiet_below (by kernel_rfl) (by kernel_rfl) ?_
              repeat (go_big_quiet_step (fail))
              refine wpQuiet_nil ?_
              intro w6 hw6
              have hb6 := below_of_regrown hw6
              clear hw6
              go_wp2
              go_roundw
              case rel => exact ⟨16, by omega, rfl, hnx, bt hB hb6⟩
              case measure => simp [intOf]
        · obtain rfl : k = 16 := by omega
          obtain rfl : t = 0 := by
            rw [HSC.out, if_neg]
            intro hm
            obtain ⟨m, hm1, hm2⟩ := List.getElem_of_mem hm
            have hm3 : m < 16 := hm1
            refine hq.out m hm3 ?_
            rw [List.getD_eq_getElem?_getD, List.getElem?_eq_getElem hm1]
            exact hm2
          clear hq HSC
          go_wp2
          go_ret
          exact ⟨rfl, hB⟩
  · have hl2i : ¬ (i : Int) + 1 < (s.size : Int) := by omega
    rw [if_neg (by rintro ⟨h, -⟩; exact hl2 h)] at hsc
    have q61 : ((⟨#[]⟩ : ByteArray).toList == [61, 61]) = false := by rw [ByteArray.toList_eq]; rfl
    have q33 : ((⟨#[]⟩ : ByteArray).toList == [33, 61]) = false := by rw [ByteArray.toList_eq]; rfl
    have q60 : ((⟨#[]⟩ : ByteArray).toList == [60, 61]) = false := by rw [ByteArray.toList_eq]; rfl
    have q62 : ((⟨#[]⟩ : ByteArray).toList == [62, 61]) = false := by rw [ByteArray.toList_eq]; rfl
    have HSC := Lib.hid hsc
    clear hsc
    go_enter Tryz.func58, Tryz.ntmps58
    go_wp2
    go_loopw [7] (fun j wr => ∃ k : Nat, k ≤ 16 ∧ j = .int .i64 k ∧ Hid (∀ m : Nat, m < k → ones.getD m 0 ≠ c) ∧ Below w.heap.size w wr) (fun j _ => 16 - (intOf j).toNat)
    case atStart => exact ⟨0, Nat.zero_le _, rfl, fun m h => absurd h (by omega), Below.refl _ _⟩
    case round =>
      obtain ⟨k, hk, rfl, hq, hB⟩ := hrel
      by_cases hlt : k < 16
      · have hmem : Hid (ones.getD k 0 ∈ ones) := by
          show _ ∈ _
          rw [List.getD_eq_getElem?_getD, List.getElem?_eq_getElem (show k < ones.length from hlt)]
          exact List.getElem_mem _
        have hstep : Hid (ones.getD k 0 ≠ c → ∀ m : Nat, m < k + 1 → ones.getD m 0 ≠ c) := fun he m h => by
          by_cases hmk : m = k
          · subst hmk; exact he
          · exact hq.out m (by omega)
        have h16 : k = 0 ∨ k = 1 ∨ k = 2 ∨ k = 3 ∨ k = 4 ∨ k = 5 ∨ k = 6 ∨ k = 7 ∨ k = 8 ∨ k = 9 ∨ k = 10 ∨ k = 11 ∨ k = 12 ∨ k = 13 ∨ k = 14 ∨ k = 15 := by omega
        clear hq hk hlt
        rcases h16 with rfl | rfl | rfl | rfl | rfl | rfl | rfl | rfl | rfl | rfl | rfl | rfl | rfl | rfl | rfl | rfl
        · by_cases he : (40 : UInt8) = c
          · obtain rfl : t = 1 := by
              rw [HSC.out, if_pos]
              rw [← he]
              exact hmem.out
            have e1 : (((((⟨#[40, 41, 123, 125, 44, 59, 46, 124, 47, 43, 45, 42, 37, 61, 60, 62]⟩ : ByteArray)[0]'(by decide)).toNat : Nat) : Int) == ((s[i]).toNat : Int)) = true := by rw [hcn, ← he]; rfl
            clear he hcn hc hmem hstep HSC
            go_upto_region 10 with fail
            refine wp_region_quiet_below (by kernel_rfl) (by kernel_rfl) ?_
            repeat (go_big_quiet_step (fail))
            refine wpQuiet_nil ?_
            intro w6 hw6
            have hb6 := below_of_regrown hw6
            clear hw6
            go_wp2
            go_ret
            exact ⟨rfl, bt hB hb6⟩
          · have hnx : Hid (∀ m : Nat, m < 0 + 1 → ones.getD m 0 ≠ c) := hstep.out he
            have e0 : (c.toNat : Int) ≠ 40 := fun h => he (UInt8.toNat_inj.1 (by show 40 = c.toNat; omega))
            have e1 : (((((⟨#[40, 41, 123, 125, 44, 59, 46, 124, 47, 43, 45, 42, 37, 61, 60, 62]⟩ : ByteArray)[0]'(by decide)).toNat : Nat) : Int) == ((s[i]).toNat : Int)) = false := by
              show ((40 : Int) == ((s[i]).toNat : Int)) = false
              rw [hcn]; simp; omega
            clear he e0 hmem hstep
            go_upto_region 10 with fail
            refine wp_region_quiet_below (by kernel_rfl) (by kernel_rfl) ?_
            repeat (go_big_quiet_step (fail))
            refine wpQuiet_nil ?_
            intro w6 hw6
            have hb6 := below_of_regrown hw6
            clear hw6
            go_wp2
            go_roundw
            case rel => exact ⟨1, by omega, rfl, hnx, bt hB hb6⟩
            case measure => simp [intOf]
        · by_cases he : (41 : UInt8) = c
          · obtain rfl : t = 1 := by
              rw [HSC.out, if_pos]
              rw [← he]
              exact hmem.out
            have e1 : (((((⟨#[40, 41, 123, 125, 44, 59, 46, 124, 47, 43, 45, 42, 37, 61, 60, 62]⟩ : ByteArray)[1]'(by decide)).toNat : Nat) : Int) == ((s[i]).toNat : Int)) = true := by rw [hcn, ← he]; rfl
            clear he hcn hc hmem hstep HSC
            go_upto_region 10 with fail
            refine wp_region_quiet_below (by kernel_rfl) (by kernel_rfl) ?_
            repeat (go_big_quiet_step (fail))
            refine wpQuiet_nil ?_
            intro w6 hw6
            have hb6 := below_of_regrown hw6
            clear hw6
            go_wp2
            go_ret
            exact ⟨rfl, bt hB hb6⟩
          · have hnx : Hid (∀ m : Nat, m < 1 + 1 → ones.getD m 0 ≠ c) := hstep.out he
            have e0 : (c.toNat : Int) ≠ 41 := fun h => he (UInt8.toNat_inj.1 (by show 41 = c.toNat; omega))
            have e1 : (((((⟨#[40, 41, 123, 125, 44, 59, 46, 124, 47, 43, 45, 42, 37, 61, 60, 62]⟩ : ByteArray)[1]'(by decide)).toNat : Nat) : Int) == ((s[i]).toNat : Int)) = false := by
              show ((41 : Int) == ((s[i]).toNat : Int)) = false
              rw [hcn]; simp; omega
            clear he e0 hmem hstep
            go_upto_region 10 with fail
            refine wp_region_quiet_below (by kernel_rfl) (by kernel_rfl) ?_
            repeat (go_big_quiet_step (fail))
            refine wpQuiet_nil ?_
            intro w6 hw6
            have hb6 := below_of_regrown hw6
            clear hw6
            go_wp2
            go_roundw
            case rel => exact ⟨2, by omega, rfl, hnx, bt hB hb6⟩
            case measure => simp [intOf]
        · by_cases he : (123 : UInt8) = c
          · obtain rfl : t = 1 := by
              rw [HSC.out, if_pos]
              rw [← he]
              exact hmem.out
            have e1 : (((((⟨#[40, 41, 123, 125, 44, 59, 46, 124, 47, 43, 45, 42, 37, 61, 60, 62]⟩ : ByteArray)[2]'(by decide)).toNat : Nat) : Int) == ((s[i]).toNat : Int)) = true := by rw [hcn, ← he]; rfl
            clear he hcn hc hmem hstep HSC
            go_upto_region 10 with fail
            refine wp_region_quiet_below (by kernel_rfl) (by kernel_rfl) ?_
            repeat (go_big_quiet_step (fail))
            refine wpQuiet_nil ?_
            intro w6 hw6
            have hb6 := below_of_regrown hw6
            clear hw6
            go_wp2
            go_ret
            exact ⟨rfl, bt hB hb6⟩
          · have hnx : Hid (∀ m : Nat, m < 2 + 1 → ones.getD m 0 ≠ c) := hstep.out he
            have e0 : (c.toNat : Int) ≠ 123 := fun h => he (UInt8.toNat_inj.1 (by show 123 = c.toNat; omega))
            have e1 : (((((⟨#[40, 41, 123, 125, 44, 59, 46, 124, 47, 43, 45, 42, 37, 61, 60, 62]⟩ : ByteArray)[2]'(by decide)).toNat : Nat) : Int) == ((s[i]).toNat : Int)) = false := by
              show ((123 : Int) == ((s[i]).toNat : Int)) = false
              rw [hcn]; simp; omega
            clear he e0 hmem hstep
            go_upto_region 10 with fail
            refine wp_region_quiet_below (by kernel_rfl) (by kernel_rfl) ?_
            repeat (go_big_quiet_step (fail))
            refine wpQuiet_nil ?_
            intro w6 hw6
            have hb6 := below_of_regrown hw6
            clear hw6
            go_wp2
            go_roundw
            case rel => exact ⟨3, by omega, rfl, hnx, bt hB hb6⟩
            case measure => simp [intOf]
        · by_cases he : (125 : UInt8) = c
          · obtain rfl : t = 1 := by
              rw [HSC.out, if_pos]
              rw [← he]
              exact hmem.out
            have e1 : (((((⟨#[40, 41, 123, 125, 44, 59, 46, 124, 47, 43, 45, 42, 37, 61, 60, 62]⟩ : ByteArray)[3]'(by decide)).toNat : Nat) : Int) == ((s[i]).toNat : Int)) = true := by rw [hcn, ← he]; rfl
            clear he hcn hc hmem hstep HSC
            go_upto_region 10 with fail
            refine wp_region_quiet_below (by kernel_rfl) (by kernel_rfl) ?_
            repeat (go_big_quiet_step (fail))
            refine wpQuiet_nil ?_
            intro w6 hw6
            have hb6 := below_of_regrown hw6
            clear hw6
            go_wp2
            go_ret
            exact ⟨rfl, bt hB hb6⟩
          · have hnx : Hid (∀ m : Nat, m < 3 + 1 → ones.getD m 0 ≠ c) := hstep.out he
            have e0 : (c.toNat : Int) ≠ 125 := fun h => he (UInt8.toNat_inj.1 (by show 125 = c.toNat; omega))
            have e1 : (((((⟨#[40, 41, 123, 125, 44, 59, 46, 124, 47, 43, 45, 42, 37, 61, 60, 62]⟩ : ByteArray)[3]'(by decide)).toNat : Nat) : Int) == ((s[i]).toNat : Int)) = false := by
              show ((125 : Int) == ((s[i]).toNat : Int)) = false
              rw [hcn]; simp; omega
            clear he e0 hmem hstep
            go_upto_region 10 with fail
            refine wp_region_quiet_below (by kernel_rfl) (by kernel_rfl) ?_
            repeat (go_big_quiet_step (fail))
            refine wpQuiet_nil ?_
            intro w6 hw6
            have hb6 := below_of_regrown hw6
            clear hw6
            go_wp2
            go_roundw
            case rel => exact ⟨4, by omega, rfl, hnx, bt hB hb6⟩
            case measure => simp [intOf]
        · by_cases he : (44 : UInt8) = c
          · obtain rfl : t = 1 := by
              rw [HSC.out, if_pos]
              rw [← he]
              exact hmem.out
            have e1 : (((((⟨#[40, 41, 123, 125, 44, 59, 46, 124, 47, 43, 45, 42, 37, 61, 60, 62]⟩ : ByteArray)[4]'(by decide)).toNat : Nat) : Int) == ((s[i]).toNat : Int)) = true := by rw [hcn, ← he]; rfl
            clear he hcn hc hmem hstep HSC
            go_upto_region 10 with fail
            refine wp_region_quiet_below (by kernel_rfl) (by kernel_rfl) ?_
            repeat (go_big_quiet_step (fail))
            refine wpQuiet_nil ?_
            intro w6 hw6
            have hb6 := below_of_regrown hw6
            clear hw6
            go_wp2
            go_ret
            exact ⟨rfl, bt hB hb6⟩
          · have hnx : Hid (∀ m : Nat, m < 4 + 1 → ones.getD m 0 ≠ c) := hstep.out he
            have e0 : (c.toNat : Int) ≠ 44 := fun h => he (UInt8.toNat_inj.1 (by show 44 = c.toNat; omega))
            have e1 : (((((⟨#[40, 41, 123, 125, 44, 59, 46, 124, 47, 43, 45, 42, 37, 61, 60, 62]⟩ : ByteArray)[4]'(by decide)).toNat : Nat) : Int) == ((s[i]).toNat : Int)) = false := by
              show ((44 : Int) == ((s[i]).toNat : Int)) = false
              rw [hcn]; simp; omega
            clear he e0 hmem hstep
            go_upto_region 10 with fail
            refine wp_region_quiet_below (by kernel_rfl) (by kernel_rfl) ?_
            repeat (go_big_quiet_step (fail))
            refine wpQuiet_nil ?_
            intro w6 hw6
            have hb6 := below_of_regrown hw6
            clear hw6
            go_wp2
            go_roundw
            case rel => exact ⟨5, by omega, rfl, hnx, bt hB hb6⟩
            case measure => simp [intOf]
        · by_cases he : (59 : UInt8) = c
          · obtain rfl : t = 1 := by
              rw [HSC.out, if_pos]
              rw [← he]
              exact hmem.out
            have e1 : (((((⟨#[40, 41, 123, 125, 44, 59, 46, 124, 47, 43, 45, 42, 37, 61, 60, 62]⟩ : ByteArray)[5]'(by decide)).toNat : Nat) : Int) == ((s[i]).toNat : Int)) = true := by rw [hcn, ← he]; rfl
            clear he hcn hc hmem hstep HSC
            go_upto_region 10 with fail
            refine wp_region_quiet_below (by kernel_rfl) (by kernel_rfl) ?_
            repeat (go_big_quiet_step (fail))
            refine wpQuiet_nil ?_
            intro w6 hw6
            have hb6 := below_of_regrown hw6
            clear hw6
            go_wp2
            go_ret
            exact ⟨rfl, bt hB hb6⟩
          · have hnx : Hid (∀ m : Nat, m < 5 + 1 → ones.getD m 0 ≠ c) := hstep.out he
            have e0 : (c.toNat : Int) ≠ 59 := fun h => he (UInt8.toNat_inj.1 (by show 59 = c.toNat; omega))
            have e1 : (((((⟨#[40, 41, 123, 125, 44, 59, 46, 124, 47, 43, 45, 42, 37, 61, 60, 62]⟩ : ByteArray)[5]'(by decide)).toNat : Nat) : Int) == ((s[i]).toNat : Int)) = false := by
              show ((59 : Int) == ((s[i]).toNat : Int)) = false
              rw [hcn]; simp; omega
            clear he e0 hmem hstep
            go_upto_region 10 with fail
            refine wp_region_quiet_below (by kernel_rfl) (by kernel_rfl) ?_
            repeat (go_big_quiet_step (fail))
            refine wpQuiet_nil ?_
            intro w6 hw6
            have hb6 := below_of_regrown hw6
            clear hw6
            go_wp2
            go_roundw
            case rel => exact ⟨6, by omega, rfl, hnx, bt hB hb6⟩
            case measure => simp [intOf]
        · by_cases he : (46 : UInt8) = c
          · obtain rfl : t = 1 := by
              rw [HSC.out, if_pos]
              rw [← he]
              exact hmem.out
            have e1 : (((((⟨#[40, 41, 123, 125, 44, 59, 46, 124, 47, 43, 45, 42, 37, 61, 60, 62]⟩ : ByteArray)[6]'(by decide)).toNat : Nat) : Int) == ((s[i]).toNat : Int)) = true := by rw [hcn, ← he]; rfl
            clear he hcn hc hmem hstep HSC
            go_upto_region 10 with fail
            refine wp_region_quiet_below (by kernel_rfl) (by kernel_rfl) ?_
            repeat (go_big_quiet_step (fail))
            refine wpQuiet_nil ?_
            intro w6 hw6
            have hb6 := below_of_regrown hw6
            clear hw6
            go_wp2
            go_ret
            exact ⟨rfl, bt hB hb6⟩
          · have hnx : Hid (∀ m : Nat, m < 6 + 1 → ones.getD m 0 ≠ c) := hstep.out he
            have e0 : (c.toNat : Int) ≠ 46 := fun h => he (UInt8.toNat_inj.1 (by show 46 = c.toNat; omega))
            have e1 : (((((⟨#[40, 41, 123, 125, 44, 59, 46, 124, 47, 43, 45, 42, 37, 61, 60, 62]⟩ : ByteArray)[6]'(by decide)).toNat : Nat) : Int) == ((s[i]).toNat : Int)) = false := by
              show ((46 : Int) == ((s[i]).toNat : Int)) = false
              rw [hcn]; simp; omega
            clear he e0 hmem hstep
            go_upto_region 10 with fail
            refine wp_region_quiet_below (by kernel_rfl) (by kernel_rfl) ?_
            repeat (go_big_quiet_step (fail))
            refine wpQuiet_nil ?_
            intro w6 hw6
            have hb6 := below_of_regrown hw6
            clear hw6
            go_wp2
            go_roundw
            case rel => exact ⟨7, by omega, rfl, hnx, bt hB hb6⟩
            case measure => simp [intOf]
        · by_cases he : (124 : UInt8) = c
          · obtain rfl : t = 1 := by
              rw [HSC.out, if_pos]
              rw [← he]
              exact hmem.out
            have e1 : (((((⟨#[40, 41, 123, 125, 44, 59, 46, 124, 47, 43, 45, 42, 37, 61, 60, 62]⟩ : ByteArray)[7]'(by decide)).toNat : Nat) : Int) == ((s[i]).toNat : Int)) = true := by rw [hcn, ← he]; rfl
            clear he hcn hc hmem hstep HSC
            go_upto_region 10 with fail
            refine wp_region_quiet_below (by kernel_rfl) (by kernel_rfl) ?_
            repeat (go_big_quiet_step (fail))
            refine wpQuiet_nil ?_
            intro w6 hw6
            have hb6 := below_of_regrown hw6
            clear hw6
            go_wp2
            go_ret
            exact ⟨rfl, bt hB hb6⟩
          · have hnx : Hid (∀ m : Nat, m < 7 + 1 → ones.getD m 0 ≠ c) := hstep.out he
            have e0 : (c.toNat : Int) ≠ 124 := fun h => he (UInt8.toNat_inj.1 (by show 124 = c.toNat; omega))
            have e1 : (((((⟨#[40, 41, 123, 125, 44, 59, 46, 124, 47, 43, 45, 42, 37, 61, 60, 62]⟩ : ByteArray)[7]'(by decide)).toNat : Nat) : Int) == ((s[i]).toNat : Int)) = false := by
              show ((124 : Int) == ((s[i]).toNat : Int)) = false
              rw [hcn]; simp; omega
            clear he e0 hmem hstep
            go_upto_region 10 with fail
            refine wp_region_quiet_below (by kernel_rfl) (by kernel_rfl) ?_
            repeat (go_big_quiet_step (fail))
            refine wpQuiet_nil ?_
            intro w6 hw6
            have hb6 := below_of_regrown hw6
            clear hw6
            go_wp2
            go_roundw
            case rel => exact ⟨8, by omega, rfl, hnx, bt hB hb6⟩
            case measure => simp [intOf]
        · by_cases he : (47 : UInt8) = c
          · obtain rfl : t = 1 := by
              rw [HSC.out, if_pos]
              rw [← he]
              exact hmem.out
            have e1 : (((((⟨#[40, 41, 123, 125, 44, 59, 46, 124, 47, 43, 45, 42, 37, 61, 60, 62]⟩ : ByteArray)[8]'(by decide)).toNat : Nat) : Int) == ((s[i]).toNat : Int)) = true := by rw [hcn, ← he]; rfl
            clear he hcn hc hmem hstep HSC
            go_upto_region 10 with fail
            refine wp_region_quiet_below (by kernel_rfl) (by kernel_rfl) ?_
            repeat (go_big_quiet_step (fail))
            refine wpQuiet_nil ?_
            intro w6 hw6
            have hb6 := below_of_regrown hw6
            clear hw6
            go_wp2
            go_ret
            exact ⟨rfl, bt hB hb6⟩
          · have hnx : Hid (∀ m : Nat, m < 8 + 1 → ones.getD m 0 ≠ c) := hstep.out he
            have e0 : (c.toNat : Int) ≠ 47 := fun h => he (UInt8.toNat_inj.1 (by show 47 = c.toNat; omega))
            have e1 : (((((⟨#[40, 41, 123, 125, 44, 59, 46, 124, 47, 43, 45, 42, 37, 61, 60, 62]⟩ : ByteArray)[8]'(by decide)).toNat : Nat) : Int) == ((s[i]).toNat : Int)) = false := by
              show ((47 : Int) == ((s[i]).toNat : Int)) = false
              rw [hcn]; simp; omega
            clear he e0 hmem hstep
            go_upto_region 10 with fail
            refine wp_region_quiet_below (by kernel_rfl) (by kernel_rfl) ?_
            repeat (go_big_quiet_step (fail))
            refine wpQuiet_nil ?_
            intro w6 hw6
            have hb6 := below_of_regrown hw6
            clear hw6
            go_wp2
            go_roundw
            case rel => exact ⟨9, by omega, rfl, hnx, bt hB hb6⟩
            case measure => simp [intOf]
        · by_cases he : (43 : UInt8) = c
          · obtain rfl : t = 1 := by
              rw [HSC.out, if_pos]
              rw [← he]
              exact hmem.out
            have e1 : (((((⟨#[40, 41, 123, 125, 44, 59, 46, 124, 47, 43, 45, 42, 37, 61, 60, 62]⟩ : ByteArray)[9]'(by decide)).toNat : Nat) : Int) == ((s[i]).toNat : Int)) = true := by rw [hcn, ← he]; rfl
            clear he hcn hc hmem hstep HSC
            go_upto_region 10 with fail
            refine wp_region_quiet_below (by kernel_rfl) (by kernel_rfl) ?_
            repeat (go_big_quiet_step (fail))
            refine wpQuiet_nil ?_
            intro w6 hw6
            have hb6 := below_of_regrown hw6
            clear hw6
            go_wp2
            go_ret
            exact ⟨rfl, bt hB hb6⟩
          · have hnx : Hid (∀ m : Nat, m < 9 + 1 → ones.getD m 0 ≠ c) := hstep.out he
            have e0 : (c.toNat : Int) ≠ 43 := fun h => he (UInt8.toNat_inj.1 (by show 43 = c.toNat; omega))
            have e1 : (((((⟨#[40, 41, 123, 125, 44, 59, 46, 124, 47, 43, 45, 42, 37, 61, 60, 62]⟩ : ByteArray)[9]'(by decide)).toNat : Nat) : Int) == ((s[i]).toNat : Int)) = false := by
              show ((43 : Int) == ((s[i]).toNat : Int)) = false
              rw [hcn]; simp; omega
            clear he e0 hmem hstep
            go_upto_region 10 with fail
            refine wp_region_quiet_below (by kernel_rfl) (by kernel_rfl) ?_
            repeat (go_big_quiet_step (fail))
            refine wpQuiet_nil ?_
            intro w6 hw6
            have hb6 := below_of_regrown hw6
            clear hw6
            go_wp2
            go_roundw
            case rel => exact ⟨10, by omega, rfl, hnx, bt hB hb6⟩
            case measure => simp [intOf]
        · by_cases he : (45 : UInt8) = c
          · obtain rfl : t = 1 := by
              rw [HSC.out, if_pos]
              rw [← he]
              exact hmem.out
            have e1 : (((((⟨#[40, 41, 123, 125, 44, 59, 46, 124, 47, 43, 45, 42, 37, 61, 60, 62]⟩ : ByteArray)[10]'(by decide)).toNat : Nat) : Int) == ((s[i]).toNat : Int)) = true := by rw [hcn, ← he]; rfl
            clear he hcn hc hmem hstep HSC
            go_upto_region 10 with fail
            refine wp_region_quiet_below (by kernel_rfl) (by kernel_rfl) ?_
            repeat (go_big_quiet_step (fail))
            refine wpQuiet_nil ?_
            intro w6 hw6
            have hb6 := below_of_regrown hw6
            clear hw6
            go_wp2
            go_ret
            exact ⟨rfl, bt hB hb6⟩
          · have hnx : Hid (∀ m : Nat, m < 10 + 1 → ones.getD m 0 ≠ c) := hstep.out he
            have e0 : (c.toNat : Int) ≠ 45 := fun h => he (UInt8.toNat_inj.1 (by show 45 = c.toNat; omega))
            have e1 : (((((⟨#[40, 41, 123, 125, 44, 59, 46, 124, 47, 43, 45, 42, 37, 61, 60, 62]⟩ : ByteArray)[10]'(by decide)).toNat : Nat) : Int) == ((s[i]).toNat : Int)) = false := by
              show ((45 : Int) == ((s[i]).toNat : Int)) = false
              rw [hcn]; simp; omega
            clear he e0 hmem hstep
            go_upto_region 10 with fail
            refine wp_region_quiet_below (by kernel_rfl) (by kernel_rfl) ?_
            repeat (go_big_quiet_step (fail))
            refine wpQuiet_nil ?_
            intro w6 hw6
            have hb6 := below_of_regrown hw6
            clear hw6
            go_wp2
            go_roundw
            case rel => exact ⟨11, by omega, rfl, hnx, bt hB hb6⟩
            case measure => simp [intOf]
        · by_cases he : (42 : UInt8) = c
          · obtain rfl : t = 1 := by
              rw [HSC.out, if_pos]
              rw [← he]
              exact hmem.out
            have e1 : (((((⟨#[40, 41, 123, 125, 44, 59, 46, 124, 47, 43, 45, 42, 37, 61, 60, 62]⟩ : ByteArray)[11]'(by decide)).toNat : Nat) : Int) == ((s[i]).toNat : Int)) = true := by rw [hcn, ← he]; rfl
            clear he hcn hc hmem hstep HSC
            go_upto_region 10 with fail
            refine wp_region_quiet_below (by kernel_rfl) (by kernel_rfl) ?_
            repeat (go_big_quiet_step (fail))
            refine wpQuiet_nil ?_
            intro w6 hw6
            have hb6 := below_of_regrown hw6
            clear hw6
            go_wp2
            go_ret
            exact ⟨rfl, bt hB hb6⟩
          · have hnx : Hid (∀ m : Nat, m < 11 + 1 → ones.getD m 0 ≠ c) := hstep.out he
            have e0 : (c.toNat : Int) ≠ 42 := fun h => he (UInt8.toNat_inj.1 (by show 42 = c.toNat; omega))
            have e1 : (((((⟨#[40, 41, 123, 125, 44, 59, 46, 124, 47, 43, 45, 42, 37, 61, 60, 62]⟩ : ByteArray)[11]'(by decide)).toNat : Nat) : Int) == ((s[i]).toNat : Int)) = false := by
              show ((42 : Int) == ((s[i]).toNat : Int)) = false
              rw [hcn]; simp; omega
            clear he e0 hmem hstep
            go_upto_region 10 with fail
            refine wp_region_quiet_below (by kernel_rfl) (by kernel_rfl) ?_
            repeat (go_big_quiet_step (fail))
            refine wpQuiet_nil ?_
            intro w6 hw6
            have hb6 := below_of_regrown hw6
            clear hw6
            go_wp2
            go_roundw
            case rel => exact ⟨12, by omega, rfl, hnx, bt hB hb6⟩
            case measure => simp [intOf]
        · by_cases he : (37 : UInt8) = c
          · obtain rfl : t = 1 := by
              rw [HSC.out, if_pos]
              rw [← he]
              exact hmem.out
            have e1 : (((((⟨#[40, 41, 123, 125, 44, 59, 46, 124, 47, 43, 45, 42, 37, 61, 60, 62]⟩ : ByteArray)[12]'(by decide)).toNat : Nat) : Int) == ((s[i]).toNat : Int)) = true := by rw [hcn, ← he]; rfl
            clear he hcn hc hmem hstep HSC
            go_upto_region 10 with fail
            refine wp_region_quiet_below (by kernel_rfl) (by kernel_rfl) ?_
            repeat (go_big_quiet_step (fail))
            refine wpQuiet_nil ?_
            intro w6 hw6
            have hb6 := below_of_regrown hw6
            clear hw6
            go_wp2
            go_ret
            exact ⟨rfl, bt hB hb6⟩
          · have hnx : Hid (∀ m : Nat, m < 12 + 1 → ones.getD m 0 ≠ c) := hstep.out he
            have e0 : (c.toNat : Int) ≠ 37 := fun h => he (UInt8.toNat_inj.1 (by show 37 = c.toNat; omega))
            have e1 : (((((⟨#[40, 41, 123, 125, 44, 59, 46, 124, 47, 43, 45, 42, 37, 61, 60, 62]⟩ : ByteArray)[12]'(by decide)).toNat : Nat) : Int) == ((s[i]).toNat : Int)) = false := by
              show ((37 : Int) == ((s[i]).toNat : Int)) = false
              rw [hcn]; simp; omega
            clear he e0 hmem hstep
            go_upto_region 10 with fail
            refine wp_region_quiet_below (by kernel_rfl) (by kernel_rfl) ?_
            repeat (go_big_quiet_step (fail))
            refine wpQuiet_nil ?_
            intro w6 hw6
            have hb6 := below_of_regrown hw6
            clear hw6
            go_wp2
            go_roundw
            case rel => exact ⟨13, by omega, rfl, hnx, bt hB hb6⟩
            case measure => simp [intOf]
        · by_cases he : (61 : UInt8) = c
          · obtain rfl : t = 1 := by
              rw [HSC.out, if_pos]
              rw [← he]
              exact hmem.out
            have e1 : (((((⟨#[40, 41, 123, 125, 44, 59, 46, 124, 47, 43, 45, 42, 37, 61, 60, 62]⟩ : ByteArray)[13]'(by decide)).toNat : Nat) : Int) == ((s[i]).toNat : Int)) = true := by rw [hcn, ← he]; rfl
            clear he hcn hc hmem hstep HSC
            go_upto_region 10 with fail
            refine wp_region_quiet_below (by kernel_rfl) (by kernel_rfl) ?_
            repeat (go_big_quiet_step (fail))
            refine wpQuiet_nil ?_
            intro w6 hw6
            have hb6 := below_of_regrown hw6
            clear hw6
            go_wp2
            go_ret
            exact ⟨rfl, bt hB hb6⟩
          · have hnx : Hid (∀ m : Nat, m < 13 + 1 → ones.getD m 0 ≠ c) := hstep.out he
            have e0 : (c.toNat : Int) ≠ 61 := fun h => he (UInt8.toNat_inj.1 (by show 61 = c.toNat; omega))
            have e1 : (((((⟨#[40, 41, 123, 125, 44, 59, 46, 124, 47, 43, 45, 42, 37, 61, 60, 62]⟩ : ByteArray)[13]'(by decide)).toNat : Nat) : Int) == ((s[i]).toNat : Int)) = false := by
              show ((61 : Int) == ((s[i]).toNat : Int)) = false
              rw [hcn]; simp; omega
            clear he e0 hmem hstep
            go_upto_region 10 with fail
            refine wp_region_quiet_below (by kernel_rfl) (by kernel_rfl) ?_
            repeat (go_big_quiet_step (fail))
            refine wpQuiet_nil ?_
            intro w6 hw6
            have hb6 := below_of_regrown hw6
            clear hw6
            go_wp2
            go_roundw
            case rel => exact ⟨14, by omega, rfl, hnx, bt hB hb6⟩
            case measure => simp [intOf]
        · by_cases he : (60 : UInt8) = c
          · obtain rfl : t = 1 := by
              rw [HSC.out, if_pos]
              rw [← he]
              exact hmem.out
            have e1 : (((((⟨#[40, 41, 123, 125, 44, 59, 46, 124, 47, 43, 45, 42, 37, 61, 60, 62]⟩ : ByteArray)[14]'(by decide)).toNat : Nat) : Int) == ((s[i]).toNat : Int)) = true := by rw [hcn, ← he]; rfl
            clear he hcn hc hmem hstep HSC
            go_upto_region 10 with fail
            refine wp_region_quiet_below (by kernel_rfl) (by kernel_rfl) ?_
            repeat (go_big_quiet_step (fail))
            refine wpQuiet_nil ?_
            intro w6 hw6
            have hb6 := below_of_regrown hw6
            clear hw6
            go_wp2
            go_ret
            exact ⟨rfl, bt hB hb6⟩
          · have hnx : Hid (∀ m : Nat, m < 14 + 1 → ones.getD m 0 ≠ c) := hstep.out he
            have e0 : (c.toNat : Int) ≠ 60 := fun h => he (UInt8.toNat_inj.1 (by show 60 = c.toNat; omega))
            have e1 : (((((⟨#[40, 41, 123, 125, 44, 59, 46, 124, 47, 43, 45, 42, 37, 61, 60, 62]⟩ : ByteArray)[14]'(by decide)).toNat : Nat) : Int) == ((s[i]).toNat : Int)) = false := by
              show ((60 : Int) == ((s[i]).toNat : Int)) = false
              rw [hcn]; simp; omega
            clear he e0 hmem hstep
            go_upto_region 10 with fail
            refine wp_region_quiet_below (by kernel_rfl) (by kernel_rfl) ?_
            repeat (go_big_quiet_step (fail))
            refine wpQuiet_nil ?_
            intro w6 hw6
            have hb6 := below_of_regrown hw6
            clear hw6
            go_wp2
            go_roundw
            case rel => exact ⟨15, by omega, rfl, hnx, bt hB hb6⟩
            case measure => simp [intOf]
        · by_cases he : (62 : UInt8) = c
          · obtain rfl : t = 1 := by
              rw [HSC.out, if_pos]
              rw [← he]
              exact hmem.out
            have e1 : (((((⟨#[40, 41, 123, 125, 44, 59, 46, 124, 47, 43, 45, 42, 37, 61, 60, 62]⟩ : ByteArray)[15]'(by decide)).toNat : Nat) : Int) == ((s[i]).toNat : Int)) = true := by rw [hcn, ← he]; rfl
            clear he hcn hc hmem hstep HSC
            go_upto_region 10 with fail
            refine wp_region_quiet_below (by kernel_rfl) (by kernel_rfl) ?_
            repeat (go_big_quiet_step (fail))
            refine wpQuiet_nil ?_
            intro w6 hw6
            have hb6 := below_of_regrown hw6
            clear hw6
            go_wp2
            go_ret
            exact ⟨rfl, bt hB hb6⟩
          · have hnx : Hid (∀ m : Nat, m < 15 + 1 → ones.getD m 0 ≠ c) := hstep.out he
            have e0 : (c.toNat : Int) ≠ 62 := fun h => he (UInt8.toNat_inj.1 (by show 62 = c.toNat; omega))
            have e1 : (((((⟨#[40, 41, 123, 125, 44, 59, 46, 124, 47, 43, 45, 42, 37, 61, 60, 62]⟩ : ByteArray)[15]'(by decide)).toNat : Nat) : Int) == ((s[i]).toNat : Int)) = false := by
              show ((62 : Int) == ((s[i]).toNat : Int)) = false
              rw [hcn]; simp; omega
            clear he e0 hmem hstep
            go_upto_region 10 with fail
            refine wp_region_quiet_below (by kernel_rfl) (by kernel_rfl) ?_
            repeat (go_big_quiet_step (fail))
            refine wpQuiet_nil ?_
            intro w6 hw6
            have hb6 := below_of_regrown hw6
            clear hw6
            go_wp2
            go_roundw
            case rel => exact ⟨16, by omega, rfl, hnx, bt hB hb6⟩
            case measure => simp [intOf]
      · obtain rfl : k = 16 := by omega
        obtain rfl : t = 0 := by
          rw [HSC.out, if_neg]
          intro hm
          obtain ⟨m, hm1, hm2⟩ := List.getElem_of_mem hm
          have hm3 : m < 16 := hm1
          refine hq.out m hm3 ?_
          rw [List.getD_eq_getElem?_getD, List.getElem?_eq_getElem hm1]
          exact hm2
        clear hq HSC
        go_wp2
        go_ret
        exact ⟨rfl, hB⟩
/-! A number. -/
theorem digitC_nat {c : UInt8} (h : digitC c = true) : 48 ≤ c.toNat ∧ c.toNat ≤ 57 := by
  unfold digitC at h
  simp only [Bool.and_eq_true, decide_eq_true_eq, le_u8] at h
  exact h
set_option maxRecDepth 20000 in
set_option maxHeartbeats 1000000 in
theorem form1_calls (s : ByteArray) (w : World) (h0 : 0 < s.size) (hs : s.size ≤ 100000) (hz : ∀ _ : 1 < s.size, s[0] ≠ 48) (hd : ∀ i (hi : i < s.size), digitC s[i] = true) : Calls Tryz.prog 134 #[.string s] w (Same0 w (.bool true)) := by
  have e0 : ((s.size : Int) == 0) = false := by rw [beq_eq_false_iff_ne]; omega
  have HD := Lib.hid hd
  clear hd
  by_cases h1 : 1 < s.size
  · have h1i : (1 : Int) < (s.size : Int) := by omega
    have hn : (s[0]).toNat ≠ 48 := toNat_ne (hz h1)
    have e1 : (((s[0]).toNat : Int) == 48) = false := by simp; omega
    clear hz
    go_enter Tryz.func134, Tryz.ntmps134
    go_wp2
    go_loop [3] (fun i => ∃ k : Nat, k ≤ s.size ∧ i = .int .i64 k) (fun i => s.size - (intOf i).toNat)
    case atStart => exact ⟨0, Nat.zero_le _, rfl⟩
    case round =>
      obtain ⟨k, hk, rfl⟩ := hrel
      by_cases hlt : k < s.size
      · have hlti : (k : Int) < (s.size : Int) := by omega
        have hki0 : (0 : Int) ≤ (k : Int) := by omega
        obtain ⟨d1, d2⟩ := digitC_nat (HD.out k hlt)
        have f1 : decide (((s[k]).toNat : Int) < 48) = false := by simp; omega
        have f2 : decide ((57 : Int) < ((s[k]).toNat : Int)) = false := by simp; omega
        go_wp2
        go_round
        case rel => exact ⟨k + 1, by omega, by go_num⟩
        case measure => simp [intOf]; omega
      · have hlti : ¬ (k : Int) < (s.size : Int) := by omega
        go_wp2
        go_ret
        exact ⟨rfl, rfl⟩
  · have h1i : ¬ (1 : Int) < (s.size : Int) := by omega
    clear hz
    go_enter Tryz.func134, Tryz.ntmps134
    go_wp2
    go_loop [3] (fun i => ∃ k : Nat, k ≤ s.size ∧ i = .int .i64 k) (fun i => s.size - (intOf i).toNat)
    case atStart => exact ⟨0, Nat.zero_le _, rfl⟩
    case round =>
      obtain ⟨k, hk, rfl⟩ := hrel
      by_cases hlt : k < s.size
      · have hlti : (k : Int) < (s.size : Int) := by omega
        have hki0 : (0 : Int) ≤ (k : Int) := by omega
        obtain ⟨d1, d2⟩ := digitC_nat (HD.out k hlt)
        have f1 : decide (((s[k]).toNat : Int) < 48) = false := by simp; omega
        have f2 : decide ((57 : Int) < ((s[k]).toNat : Int)) = false := by simp; omega
        go_wp2
        go_round
        case rel => exact ⟨k + 1, by omega, by go_num⟩
        case measure => simp [intOf]; omega
      · have hlti : ¬ (k : Int) < (s.size : Int) := by omega
        go_wp2
        go_ret
        exact ⟨rfl, rfl⟩
theorem digitsV_step (c : UInt8) (l : List UInt8) (n : Nat) : digitsV 32767 (c :: l) n = if 3276 < n ∨ 32767 - (c.toNat - 48) < 10 * n ∨ 32767 < c.toNat - 48 then (0, 5) else digitsV 32767 l (10 * n + (c.toNat - 48)) := rfl
theorem digitsV_le : ∀ (l : List UInt8) (n : Nat), n ≤ 32767 → (digitsV 32767 l n).1 ≤ 32767
  | [], n, h => h
  | c :: l, n, h => by
    rw [digitsV_step]
    split
    · exact Nat.zero_le _
    · rename_i h2
      exact digitsV_le l _ (by omega)
set_option maxRecDepth 20000 in
set_option maxHeartbeats 2000000 in
theorem number1_calls (s : ByteArray) (w : World) (h0 : 0 < s.size) (hs : s.size ≤ 100000) (hz : ∀ _ : 1 < s.size, s[0] ≠ 48) (hd : ∀ i (hi : i < s.size), digitC s[i] = true) : Calls Tryz.prog 96 #[.string s, .int .u64 32767] w
    fun e w' => e = .returned (.tuple #[.int .u64 (digitsV 32767 s.data.toList 0).1, .int .i64 (digitsV 32767 s.data.toList 0).2]) ∧ w = w' := by
  have hfo := form1_calls s w h0 hs hz hd
  have HD := Lib.hid hd
  have HFO := Lib.hid hfo
  generalize hT : digitsV 32767 s.data.toList 0 = T
  obtain ⟨t1, t2⟩ := T
  clear hd hfo hz
  go_enter Tryz.func96, Tryz.ntmps96
  go_wp2_with (go_at_call 134; (with_reducible refine HFO.out.mono ?_); rintro e w1 ⟨rfl, rfl⟩)
  clear HFO
  go_loop [6, 7, 8] (fun n i _ => ∃ (k m : Nat), k ≤ s.size ∧ m ≤ 32767 ∧ n = .int .u64 m ∧ i = .int .i64 k ∧ Hid (digitsV 32767 (s.data.toList.drop k) m = (t1, t2))) (fun _ i _ => s.size - (intOf i).toNat)
  case atStart => exact ⟨0, 0, Nat.zero_le _, Nat.zero_le _, rfl, rfl, hT⟩
  case round =>
    obtain ⟨k, m, hk, hm, rfl, rfl, hq⟩ := hrel
    clear hT
    by_cases hlt : k < s.size
    · have hlti : (k : Int) < (s.size : Int) := by omega
      have hki0 : (0 : Int) ≤ (k : Int) := by omega
      have hdr : s.data.toList.drop k = s[k] :: s.data.toList.drop (k + 1) := by
        rw [List.drop_eq_getElem_cons (by simpa using hlt)]; rfl
      have hsc := hq.out
      rw [hdr, digitsV_step] at hsc
      obtain ⟨d1, d2⟩ := digitC_nat (HD.out k hlt)
      clear hq hdr
      obtain ⟨d, hdd⟩ : ∃ d : Nat, (s[k]).toNat = d + 48 := ⟨(s[k]).toNat - 48, by omega⟩
      have hd9 : d ≤ 9 := by omega
      have hdi : (((s[k]).toNat : Int) - 48) = (d : Int) := by omega
      rw [show (s[k]).toNat - 48 = d by omega] at hsc
      by_cases hA : 3276 < m
      · rw [if_pos (Or.inl hA)] at hsc
        simp only [Prod.mk.injEq] at hsc
        obtain ⟨rfl, rfl⟩ := hsc
        have g1 : decide ((3276 : Int) < (m : Int)) = true := by simp; omega
        go_wp2
        go_ret2
        exact ⟨rfl, rfl⟩
      · by_cases hB : 32767 - d < 10 * m
        · rw [if_pos (Or.inr (Or.inl hB))] at hsc
          simp only [Prod.mk.injEq] at hsc
          obtain ⟨rfl, rfl⟩ := hsc
          have g1 : decide ((3276 : Int) < (m : Int)) = false := by simp; omega
          have g2 : decide ((32767 : Int) - (d : Int) < 10 * (m : Int)) = true := by simp; omega
          go_wp2
          go_ret2
          exact ⟨rfl, rfl⟩
        · rw [if_neg (by omega)] at hsc
          have HQ := Lib.hid hsc
          have g1 : decide ((3276 : Int) < (m : Int)) = false := by simp; omega
          have g2 : decide ((32767 : Int) - (d : Int) < 10 * (m : Int)) = false := by simp; omega
          have g3 : decide ((32767 : Int) < (d : Int)) = false := by simp; omega
          clear hsc
          go_wp2
          go_round
          case rel => exact ⟨k + 1, 10 * m + d, by omega, by omega, by go_num, by go_num, HQ.out⟩
          case measure => simp [intOf]; omega
    · have hlti : ¬ (k : Int) < (s.size : Int) := by omega
      have hsc := hq.out
      rw [List.drop_eq_nil_of_le (by simp; omega)] at hsc
      simp only [digitsV, Prod.mk.injEq] at hsc
      obtain ⟨rfl, rfl⟩ := hsc
      clear hq
      go_wp2
      go_ret2
      exact ⟨rfl, rfl⟩
end Go.Proofs.YtnbfadgclffgkaaGreatDoor
