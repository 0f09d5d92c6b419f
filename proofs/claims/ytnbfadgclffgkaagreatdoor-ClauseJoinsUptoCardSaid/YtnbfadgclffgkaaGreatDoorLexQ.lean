/- The walks of clewref09's row, text, sign and number. Printed by gen-lex2.py. -/
import Derived.Test.YtnbfadgclffgkaaGreatDoorLexR
namespace Go.Proofs.YtnbfadgclffgkaaGreatDoor
open Go.RowKit Go.Sort
theorem results_tmp4 {fn : Func} {t u v x : Tmp} (h : fn.results = #[.tmp t, .tmp u, .tmp v, .tmp x]) (tmps : Array Value) (P : Program) (w : World) :
    (results fn tmps).run P w = .ok (.tuple #[tmps.getD t undef, tmps.getD u undef, tmps.getD v undef, tmps.getD x undef]) w := by
  simp [results, h]
theorem extract_get (s : ByteArray) (i j k : Nat) : (s.extract i j).data[k]? = if k < min j s.size - i then s.data[i + k]? else none := by
  rw [ByteArray.data_extract, Array.getElem?_extract]
  rfl
theorem extract_two (s : ByteArray) (i : Nat) (h : i + 1 < s.size) : s.extract i (i + 2) = ⟨#[s[i], s[i + 1]]⟩ := by
  apply ByteArray.ext
  apply Array.ext_getElem?
  intro j
  have hs : i + 1 < s.data.size := h
  rw [extract_get]
  match j with
  | 0 =>
    rw [if_pos (by omega), Nat.add_zero, Array.getElem?_eq_getElem (by omega)]
    rfl
  | 1 =>
    rw [if_pos (by omega), Array.getElem?_eq_getElem hs]
    rfl
  | j + 2 =>
    rw [if_neg (by omega)]
    rfl
/-! row. -/
theorem rowB_step (s : ByteArray) (nm : Bool) (f k : Nat) (h : k < s.size) (c : UInt8) (hc : s[k] = c) : rowB s nm (f + 1) k = if (digitC c || (nm && (smallC c || decide (c = 95)))) = true then rowB s nm f (k + 1) else k := by
  show (if k < s.size ∧ _ then _ else _) = _
  rw [byteAt_lt h, hc]
  simp only [h, true_and]
theorem rowB_end (s : ByteArray) (nm : Bool) (f k : Nat) (h : ¬ k < s.size) : rowB s nm f k = k := by
  cases f with
  | zero => rfl
  | succ f => show (if k < s.size ∧ _ then _ else _) = _; rw [if_neg (fun h2 => h h2.1)]
set_option maxRecDepth 20000 in
set_option maxHeartbeats 2000000 in
theorem row9_calls (s : ByteArray) (nm : Bool) (k0 : Nat) (w : World) (hk0 : k0 ≤ s.size) (hs : s.size ≤ 100000) : Calls Tryz.prog 54 #[.string s, .int .i64 k0, .bool nm] w (Same0 w (.int .i64 (rowB s nm (s.size - k0) k0))) := by
  generalize hT : rowB s nm (s.size - k0) k0 = t
  go_enter Tryz.func54, Tryz.ntmps54
  go_wp2
  go_loop [1] (fun i => ∃ (k f : Nat), k ≤ s.size ∧ i = .int .i64 k ∧ Hid (s.size - k ≤ f ∧ rowB s nm f k = t)) (fun i => s.size - (intOf i).toNat)
  case atStart => exact ⟨k0, s.size - k0, hk0, rfl, Nat.le_refl _, hT⟩
  case round =>
    obtain ⟨k, f, hk, rfl, hq⟩ := hrel
    clear hT
    obtain ⟨hf, hq⟩ := hq.out
    by_cases hlt : k < s.size
    · obtain ⟨f, rfl⟩ : ∃ g, f = g + 1 := ⟨f - 1, by omega⟩
      have hlti : (k : Int) < (s.size : Int) := by omega
      have hf' : Hid (s.size - (k + 1) ≤ f) := Lib.hid (by omega)
      obtain ⟨c, hc⟩ : ∃ c, s[k] = c := ⟨_, rfl⟩
      rw [rowB_step s nm f k hlt c hc] at hq
      have hd := digit9_calls c w
      have hm := small9_calls c w
      rw [← hc] at hd hm
      have hcn : ((s[k]).toNat : Int) = (c.toNat : Int) := by rw [hc]
      rw [hc] at hd hm
      clear hf
      cases hdc : digitC c
      · cases nm
        · rw [hdc, ← hc] at hd
          have HD := Lib.hid hd
          have HQ : Hid (k = t) := by
            show _ = t
            rw [← hq]
            simp [hdc]
          obtain rfl := HQ.out
          clear hq HQ hd hm hdc hcn hc
          go_wp2_with (first | (go_at_call 53; (with_reducible refine HD.out.mono ?_); rintro e w1 ⟨rfl, rfl⟩))
          go_ret
          exact ⟨rfl, rfl⟩
        · cases hmc : smallC c
          · rw [hdc, ← hc] at hd
            have HD := Lib.hid hd
            rw [hmc, ← hc] at hm
            have HM := Lib.hid hm
            by_cases h95 : c = 95
            · have hcv : c.toNat = 95 := by rw [h95]; rfl
              have e1 : (((s[k]).toNat : Int) == 95) = true := by rw [hcn]; simp; omega
              have HQ : Hid (rowB s true f (k + 1) = t) := by
                show _ = t
                rw [← hq]
                simp [h95]
              clear hq hd hm hdc hmc hcn hc h95
              go_wp2_with (first | (go_at_call 53; (with_reducible refine HD.out.mono ?_); rintro e w1 ⟨rfl, rfl⟩) | (go_at_call 56; (with_reducible refine HM.out.mono ?_); rintro e w1 ⟨rfl, rfl⟩))
              go_round
              case rel => exact ⟨k + 1, f, by omega, by go_num, hf'.out, HQ.out⟩
              case measure => simp [intOf]; omega
            · have hcv : c.toNat ≠ 95 := toNat_ne h95
              have e1 : (((s[k]).toNat : Int) == 95) = false := by rw [hcn]; simp; omega
              have HQ : Hid (k = t) := by
                show _ = t
                rw [← hq]
                simp [hdc, hmc, h95]
              obtain rfl := HQ.out
              clear hq HQ hd hm hdc hmc hcn hc h95
              go_wp2_with (first | (go_at_call 53; (with_reducible refine HD.out.mono ?_); rintro e w1 ⟨rfl, rfl⟩) | (go_at_call 56; (with_reducible refine HM.out.mono ?_); rintro e w1 ⟨rfl, rfl⟩))
              go_ret
              exact ⟨rfl, rfl⟩
          · rw [hdc, ← hc] at hd
            have HD := Lib.hid hd
            rw [hmc, ← hc] at hm
            have HM := Lib.hid hm
            have HQ : Hid (rowB s true f (k + 1) = t) := by
              show _ = t
              rw [← hq]
              simp [hdc, hmc]
            clear hq hd hm hdc hmc hcn hc
            go_wp2_with (first | (go_at_call 53; (with_reducible refine HD.out.mono ?_); rintro e w1 ⟨rfl, rfl⟩) | (go_at_call 56; (with_reducible refine HM.out.mono ?_); rintro e w1 ⟨rfl, rfl⟩))
            go_round
            case rel => exact ⟨k + 1, f, by omega, by go_num, hf'.out, HQ.out⟩
            case measure => simp [intOf]; omega
      · rw [hdc, ← hc] at hd
        have HD := Lib.hid hd
        have HQ : Hid (rowB s nm f (k + 1) = t) := by
          show _ = t
          rw [← hq]
          simp [hdc]
        clear hq hd hm hdc hcn hc
        go_wp2_with (first | (go_at_call 53; (with_reducible refine HD.out.mono ?_); rintro e w1 ⟨rfl, rfl⟩))
        go_round
        case rel => exact ⟨k + 1, f, by omega, by go_num, hf'.out, HQ.out⟩
        case measure => simp [intOf]; omega
    · rw [rowB_end s nm f k hlt] at hq
      obtain rfl := hq
      have hlti : ¬ (k : Int) < (s.size : Int) := by omega
      clear hf
      go_wp2
      go_ret
      exact ⟨rfl, rfl⟩
/-! text. -/
theorem textB_step (s : ByteArray) (i0 f k : Nat) (acc : ByteArray) (h : k < s.size) (c : UInt8) (hc : s[k] = c) : textB s i0 (f + 1) k acc =
      if c = 10 then (⟨#[]⟩, 0, 2, i0)
      else if c = 34 then (if 1024 < acc.size then (⟨#[]⟩, 0, 3, i0) else (acc, k + 1, 0, 0))
      else if mayB c = false ∨ c = 9 then (⟨#[]⟩, 0, 13, k)
      else if c ≠ 92 then textB s i0 f (k + 1) (acc ++ s.extract k (k + 1))
      else if s.size ≤ k + 1 ∨ (byteAt s (k + 1) ≠ 110 ∧ byteAt s (k + 1) ≠ 34 ∧ byteAt s (k + 1) ≠ 92) then (⟨#[]⟩, 0, 4, k)
      else textB s i0 f (k + 2) (acc ++ if byteAt s (k + 1) = 110 then ⟨#[10]⟩ else s.extract (k + 1) (k + 2)) := by
  show (if k < s.size then _ else _) = _
  rw [if_pos h, byteAt_lt h, hc]
theorem textB_end (s : ByteArray) (i0 f k : Nat) (acc : ByteArray) (h : ¬ k < s.size) : textB s i0 f k acc = (⟨#[]⟩, 0, 2, i0) := by
  cases f with
  | zero => rfl
  | succ f => show (if k < s.size then _ else _) = _; rw [if_neg h]
set_option maxRecDepth 20000 in
set_option maxHeartbeats 4000000 in
theorem text9_calls (s : ByteArray) (i0 : Nat) (w : World) (hi0 : i0 < s.size) (hs : s.size ≤ 100000) : Calls Tryz.prog 52 #[.string s, .int .i64 i0] w
    fun e w' => e = .returned (.tuple #[.string (textB s i0 (s.size - i0) (i0 + 1) ⟨#[]⟩).1, .int .i64 (textB s i0 (s.size - i0) (i0 + 1) ⟨#[]⟩).2.1, .int .i64 (textB s i0 (s.size - i0) (i0 + 1) ⟨#[]⟩).2.2.1, .int .i64 (textB s i0 (s.size - i0) (i0 + 1) ⟨#[]⟩).2.2.2]) ∧ w = w' := by
  generalize hT : textB s i0 (s.size - i0) (i0 + 1) ⟨#[]⟩ = T
  obtain ⟨t1, t2, t3, t4⟩ := T
  go_enter Tryz.func52, Tryz.ntmps52
  go_wp2
  go_loop [8, 9, 10] (fun a i _ => ∃ (k f : Nat) (acc : ByteArray), k ≤ s.size ∧ acc.size ≤ k ∧ a = .string acc ∧ i = .int .i64 k ∧ Hid (s.size - k ≤ f ∧ textB s i0 f k acc = (t1, t2, t3, t4))) (fun _ i _ => s.size - (intOf i).toNat)
  case atStart => exact ⟨i0 + 1, s.size - i0, ⟨#[]⟩, by omega, Nat.zero_le _, rfl, by go_num, by omega, hT⟩
  case round =>
    obtain ⟨k, f, acc, hk, hac, rfl, rfl, hq⟩ := hrel
    clear hT
    obtain ⟨hf, hq⟩ := hq.out
    by_cases hlt : k < s.size
    · obtain ⟨f, rfl⟩ : ∃ g, f = g + 1 := ⟨f - 1, by omega⟩
      have hlti : (k : Int) < (s.size : Int) := by omega
      have hki0 : (0 : Int) ≤ (k : Int) := by omega
      have hf' : Hid (s.size - (k + 1) ≤ f) := Lib.hid (by omega)
      obtain ⟨c, hc⟩ : ∃ c, s[k] = c := ⟨_, rfl⟩
      rw [textB_step s i0 f k acc hlt c hc] at hq
      have hm := may9_calls c w
      have hcn : ((s[k]).toNat : Int) = (c.toNat : Int) := by rw [hc]
      clear hf
      by_cases h10 : c = 10
      · have hcv : c.toNat = 10 := by rw [h10]; rfl
        have e10a : (((s[k]).toNat : Int) == 10) = true := by rw [hcn]; simp; omega
        have e10b : (((s[k]).toNat : Int) != 10) = false := by rw [hcn]; simp; omega
        have he : ((⟨#[]⟩ : ByteArray), 0, (2 : Int), i0) = (t1, t2, t3, t4) := by
          rw [← hq]
          simp [h10]
        simp only [Prod.mk.injEq] at he
        obtain ⟨rfl, rfl, rfl, rfl⟩ := he
        clear hq hm hcn hc h10
        go_wp2_with (first  | fail)
        (try simp only [Exit.inBlock, Exit.then]); refine bodyPost_ret (results_tmp4 rfl _ _ _) rfl ?_
        exact ⟨rfl, rfl⟩
      have n10 : c.toNat ≠ 10 := toNat_ne h10
      by_cases h34 : c = 34
      · have hcv : c.toNat = 34 := by rw [h34]; rfl
        have e10a : (((s[k]).toNat : Int) == 10) = false := by rw [hcn]; simp; omega
        have e10b : (((s[k]).toNat : Int) != 10) = true := by rw [hcn]; simp; omega
        have e34a : (((s[k]).toNat : Int) == 34) = true := by rw [hcn]; simp; omega
        have e34b : (((s[k]).toNat : Int) != 34) = false := by rw [hcn]; simp; omega
        by_cases hb : 1024 < acc.size
        · have hbi : (1024 : Int) < (acc.size : Int) := by omega
          have he : ((⟨#[]⟩ : ByteArray), 0, (3 : Int), i0) = (t1, t2, t3, t4) := by
            rw [← hq]
            simp [h34, hb]
          simp only [Prod.mk.injEq] at he
          obtain ⟨rfl, rfl, rfl, rfl⟩ := he
          clear hq hm hcn hc h34 hb
          go_wp2_with (first  | fail)
          (try simp only [Exit.inBlock, Exit.then]); refine bodyPost_ret (results_tmp4 rfl _ _ _) rfl ?_
          exact ⟨rfl, rfl⟩
        · have hbi : ¬ (1024 : Int) < (acc.size : Int) := by omega
          have he : (acc, k + 1, (0 : Int), 0) = (t1, t2, t3, t4) := by
            rw [← hq]
            simp [h34, hb]
          simp only [Prod.mk.injEq] at he
          obtain ⟨rfl, rfl, rfl, rfl⟩ := he
          clear hq hm hcn hc h34 hb
          go_wp2_with (first  | fail)
          (try simp only [Exit.inBlock, Exit.then]); refine bodyPost_ret (results_tmp4 rfl _ _ _) rfl ?_
          exact ⟨rfl, rfl⟩
      have n34 : c.toNat ≠ 34 := toNat_ne h34
      cases hmb : mayB c
      · rw [hmb, ← hc] at hm
        have HM := Lib.hid hm
        have e10a : (((s[k]).toNat : Int) == 10) = false := by rw [hcn]; simp; omega
        have e10b : (((s[k]).toNat : Int) != 10) = true := by rw [hcn]; simp; omega
        have e34a : (((s[k]).toNat : Int) == 34) = false := by rw [hcn]; simp; omega
        have e34b : (((s[k]).toNat : Int) != 34) = true := by rw [hcn]; simp; omega
        have he : ((⟨#[]⟩ : ByteArray), 0, (13 : Int), k) = (t1, t2, t3, t4) := by
          rw [← hq]
          simp [h10, h34, hmb]
        simp only [Prod.mk.injEq] at he
        obtain ⟨rfl, rfl, rfl, rfl⟩ := he
        clear hq hm hcn hc hmb h10 h34
        go_wp2_with (first | (go_at_call 51; (with_reducible refine HM.out.mono ?_); rintro e w1 ⟨rfl, rfl⟩) | fail)
        (try simp only [Exit.inBlock, Exit.then]); refine bodyPost_ret (results_tmp4 rfl _ _ _) rfl ?_
        exact ⟨rfl, rfl⟩
      · rw [hmb, ← hc] at hm
        have HM := Lib.hid hm
        by_cases h9 : c = 9
        · have hcv : c.toNat = 9 := by rw [h9]; rfl
          have e10a : (((s[k]).toNat : Int) == 10) = false := by rw [hcn]; simp; omega
          have e10b : (((s[k]).toNat : Int) != 10) = true := by rw [hcn]; simp; omega
          have e34a : (((s[k]).toNat : Int) == 34) = false := by rw [hcn]; simp; omega
          have e34b : (((s[k]).toNat : Int) != 34) = true := by rw [hcn]; simp; omega
          have e9a : (((s[k]).toNat : Int) == 9) = true := by rw [hcn]; simp; omega
          have e9b : (((s[k]).toNat : Int) != 9) = false := by rw [hcn]; simp; omega
          have he : ((⟨#[]⟩ : ByteArray), 0, (13 : Int), k) = (t1, t2, t3, t4) := by
            rw [← hq]
            simp [h9]
          simp only [Prod.mk.injEq] at he
          obtain ⟨rfl, rfl, rfl, rfl⟩ := he
          clear hq hm hcn hc hmb h10 h34 h9
          go_wp2_with (first | (go_at_call 51; (with_reducible refine HM.out.mono ?_); rintro e w1 ⟨rfl, rfl⟩) | fail)
          (try simp only [Exit.inBlock, Exit.then]); refine bodyPost_ret (results_tmp4 rfl _ _ _) rfl ?_
          exact ⟨rfl, rfl⟩
        have n9 : c.toNat ≠ 9 := toNat_ne h9
        by_cases h92 : c = 92
        rotate_left
        · have n92 : c.toNat ≠ 92 := toNat_ne h92
          have e10a : (((s[k]).toNat : Int) == 10) = false := by rw [hcn]; simp; omega
          have e10b : (((s[k]).toNat : Int) != 10) = true := by rw [hcn]; simp; omega
          have e34a : (((s[k]).toNat : Int) == 34) = false := by rw [hcn]; simp; omega
          have e34b : (((s[k]).toNat : Int) != 34) = true := by rw [hcn]; simp; omega
          have e9a : (((s[k]).toNat : Int) == 9) = false := by rw [hcn]; simp; omega
          have e9b : (((s[k]).toNat : Int) != 9) = true := by rw [hcn]; simp; omega
          have e92a : (((s[k]).toNat : Int) == 92) = false := by rw [hcn]; simp; omega
          have e92b : (((s[k]).toNat : Int) != 92) = true := by rw [hcn]; simp; omega
          have HQ : Hid (textB s i0 f (k + 1) (acc ++ s.extract k (k + 1)) = (t1, t2, t3, t4)) := by
            show _ = (t1, t2, t3, t4)
            rw [← hq]
            simp [h10, h34, h9, h92, hmb]
          have hxz : (acc ++ s.extract k (k + 1)).size ≤ k + 1 := by
            rw [ByteArray.size_append, ByteArray.size_extract]; omega
          clear hq hm hcn hc hmb h10 h34 h9 h92
          go_wp2_with (first | (go_at_call 51; (with_reducible refine HM.out.mono ?_); rintro e w1 ⟨rfl, rfl⟩) | fail)
          go_round
          case rel => exact ⟨k + 1, f, acc ++ s.extract k (k + 1), by omega, hxz, rfl, by go_num, hf'.out, HQ.out⟩
          case measure => simp [intOf]; omega
        have hcv : c.toNat = 92 := by rw [h92]; rfl
        have e10a : (((s[k]).toNat : Int) == 10) = false := by rw [hcn]; simp; omega
        have e10b : (((s[k]).toNat : Int) != 10) = true := by rw [hcn]; simp; omega
        have e34a : (((s[k]).toNat : Int) == 34) = false := by rw [hcn]; simp; omega
        have e34b : (((s[k]).toNat : Int) != 34) = true := by rw [hcn]; simp; omega
        have e9a : (((s[k]).toNat : Int) == 9) = false := by rw [hcn]; simp; omega
        have e9b : (((s[k]).toNat : Int) != 9) = true := by rw [hcn]; simp; omega
        have e92a : (((s[k]).toNat : Int) == 92) = true := by rw [hcn]; simp; omega
        have e92b : (((s[k]).toNat : Int) != 92) = false := by rw [hcn]; simp; omega
        by_cases hl2 : k + 1 < s.size
        rotate_left
        · have hl2i : (s.size : Int) ≤ (k : Int) + 1 := by omega
          have hl2n : s.size ≤ k + 1 := by omega
          have he : ((⟨#[]⟩ : ByteArray), 0, (4 : Int), k) = (t1, t2, t3, t4) := by
            rw [← hq]
            simp [h92, (show mayB 92 = true by decide), hl2n]
          simp only [Prod.mk.injEq] at he
          obtain ⟨rfl, rfl, rfl, rfl⟩ := he
          clear hq hm hcn hc hmb h10 h34 h9 h92
          go_wp2_with (first | (go_at_call 51; (with_reducible refine HM.out.mono ?_); rintro e w1 ⟨rfl, rfl⟩) | fail)
          (try simp only [Exit.inBlock, Exit.then]); refine bodyPost_ret (results_tmp4 rfl _ _ _) rfl ?_
          exact ⟨rfl, rfl⟩
        have hl2i : ¬ (s.size : Int) ≤ (k : Int) + 1 := by omega
        have hl2j : (k : Int) + 1 < (s.size : Int) := by omega
        have hl2n : ¬ s.size ≤ k + 1 := by omega
        obtain ⟨d, hd⟩ : ∃ d, s[k + 1] = d := ⟨_, rfl⟩
        have hbd : byteAt s (k + 1) = d := by rw [byteAt_lt hl2, hd]
        have hdn : ((s[k + 1]).toNat : Int) = (d.toNat : Int) := by rw [hd]
        have hf2 : Hid (s.size - (k + 2) ≤ f) := Lib.hid (by have := hf'.out; omega)
        by_cases g110 : d = 110
        · have hdv : d.toNat = 110 := by rw [g110]; rfl
          have f110a : (((s[k + 1]).toNat : Int) == 110) = true := by rw [hdn]; simp; omega
          have f110b : (((s[k + 1]).toNat : Int) != 110) = false := by rw [hdn]; simp; omega
          have f34a : (((s[k + 1]).toNat : Int) == 34) = false := by rw [hdn]; simp; omega
          have f34b : (((s[k + 1]).toNat : Int) != 34) = true := by rw [hdn]; simp; omega
          have f92a : (((s[k + 1]).toNat : Int) == 92) = false := by rw [hdn]; simp; omega
          have f92b : (((s[k + 1]).toNat : Int) != 92) = true := by rw [hdn]; simp; omega
          have HQ : Hid (textB s i0 f (k + 2) (acc ++ ⟨#[10]⟩) = (t1, t2, t3, t4)) := by
            show _ = (t1, t2, t3, t4)
            rw [← hq]
            simp [h92, (show mayB 92 = true by decide), hl2n, hbd, g110]
          have hxz : (acc ++ ⟨#[10]⟩).size ≤ k + 2 := by
            rw [ByteArray.size_append]
            have : (⟨#[10]⟩ : ByteArray).size ≤ 1 := by exact Nat.le_refl _
            omega
          clear hq hm hcn hc hmb h10 h34 h9 h92 hdn hd hbd
          go_wp2_with (first | (go_at_call 51; (with_reducible refine HM.out.mono ?_); rintro e w1 ⟨rfl, rfl⟩) | fail)
          go_round
          case rel => exact ⟨k + 2, f, acc ++ ⟨#[10]⟩, by omega, hxz, rfl, by go_num, hf2.out, HQ.out⟩
          case measure => simp [intOf]; omega
        have m110 : d.toNat ≠ 110 := toNat_ne g110
        by_cases g34 : d = 34
        · have hdv : d.toNat = 34 := by rw [g34]; rfl
          have f110a : (((s[k + 1]).toNat : Int) == 110) = false := by rw [hdn]; simp; omega
          have f110b : (((s[k + 1]).toNat : Int) != 110) = true := by rw [hdn]; simp; omega
          have f34a : (((s[k + 1]).toNat : Int) == 34) = true := by rw [hdn]; simp; omega
          have f34b : (((s[k + 1]).toNat : Int) != 34) = false := by rw [hdn]; simp; omega
          have f92a : (((s[k + 1]).toNat : Int) == 92) = false := by rw [hdn]; simp; omega
          have f92b : (((s[k + 1]).toNat : Int) != 92) = true := by rw [hdn]; simp; omega
          have HQ : Hid (textB s i0 f (k + 2) (acc ++ s.extract (k + 1) (k + 2)) = (t1, t2, t3, t4)) := by
            show _ = (t1, t2, t3, t4)
            rw [← hq]
            simp [h92, (show mayB 92 = true by decide), hl2n, hbd, g34]
          have hxz : (acc ++ s.extract (k + 1) (k + 2)).size ≤ k + 2 := by
            rw [ByteArray.size_append]
            have : (s.extract (k + 1) (k + 2) : ByteArray).size ≤ 1 := by rw [ByteArray.size_extract]; omega
            omega
          clear hq hm hcn hc hmb h10 h34 h9 h92 hdn hd hbd
          go_wp2_with (first | (go_at_call 51; (with_reducible refine HM.out.mono ?_); rintro e w1 ⟨rfl, rfl⟩) | fail)
          go_round
          case rel => exact ⟨k + 2, f, acc ++ s.extract (k + 1) (k + 2), by omega, hxz, rfl, by go_num, hf2.out, HQ.out⟩
          case measure => simp [intOf]; omega
        have m34 : d.toNat ≠ 34 := toNat_ne g34
        by_cases g92 : d = 92
        · have hdv : d.toNat = 92 := by rw [g92]; rfl
          have f110a : (((s[k + 1]).toNat : Int) == 110) = false := by rw [hdn]; simp; omega
          have f110b : (((s[k + 1]).toNat : Int) != 110) = true := by rw [hdn]; simp; omega
          have f34a : (((s[k + 1]).toNat : Int) == 34) = false := by rw [hdn]; simp; omega
          have f34b : (((s[k + 1]).toNat : Int) != 34) = true := by rw [hdn]; simp; omega
          have f92a : (((s[k + 1]).toNat : Int) == 92) = true := by rw [hdn]; simp; omega
          have f92b : (((s[k + 1]).toNat : Int) != 92) = false := by rw [hdn]; simp; omega
          have HQ : Hid (textB s i0 f (k + 2) (acc ++ s.extract (k + 1) (k + 2)) = (t1, t2, t3, t4)) := by
            show _ = (t1, t2, t3, t4)
            rw [← hq]
            simp [h92, (show mayB 92 = true by decide), hl2n, hbd, g92]
          have hxz : (acc ++ s.extract (k + 1) (k + 2)).size ≤ k + 2 := by
            rw [ByteArray.size_append]
            have : (s.extract (k + 1) (k + 2) : ByteArray).size ≤ 1 := by rw [ByteArray.size_extract]; omega
            omega
          clear hq hm hcn hc hmb h10 h34 h9 h92 hdn hd hbd
          go_wp2_with (first | (go_at_call 51; (with_reducible refine HM.out.mono ?_); rintro e w1 ⟨rfl, rfl⟩) | fail)
          go_round
          case rel => exact ⟨k + 2, f, acc ++ s.extract (k + 1) (k + 2), by omega, hxz, rfl, by go_num, hf2.out, HQ.out⟩
          case measure => simp [intOf]; omega
        have m92 : d.toNat ≠ 92 := toNat_ne g92
        have f110a : (((s[k + 1]).toNat : Int) == 110) = false := by rw [hdn]; simp; omega
        have f110b : (((s[k + 1]).toNat : Int) != 110) = true := by rw [hdn]; simp; omega
        have f34a : (((s[k + 1]).toNat : Int) == 34) = false := by rw [hdn]; simp; omega
        have f34b : (((s[k + 1]).toNat : Int) != 34) = true := by rw [hdn]; simp; omega
        have f92a : (((s[k + 1]).toNat : Int) == 92) = false := by rw [hdn]; simp; omega
        have f92b : (((s[k + 1]).toNat : Int) != 92) = true := by rw [hdn]; simp; omega
        have he : ((⟨#[]⟩ : ByteArray), 0, (4 : Int), k) = (t1, t2, t3, t4) := by
          rw [← hq]
          simp [h92, (show mayB 92 = true by decide), hl2n, hbd, g110, g34, g92]
        simp only [Prod.mk.injEq] at he
        obtain ⟨rfl, rfl, rfl, rfl⟩ := he
        clear hq hm hcn hc hmb h10 h34 h9 h92 hdn hd hbd
        go_wp2_with (first | (go_at_call 51; (with_reducible refine HM.out.mono ?_); rintro e w1 ⟨rfl, rfl⟩) | fail)
        (try simp only [Exit.inBlock, Exit.then]); refine bodyPost_ret (results_tmp4 rfl _ _ _) rfl ?_
        exact ⟨rfl, rfl⟩
    · rw [textB_end s i0 f k acc hlt] at hq
      simp only [Prod.mk.injEq] at hq
      obtain ⟨rfl, rfl, rfl, rfl⟩ := hq
      have hlti : ¬ (k : Int) < (s.size : Int) := by omega
      clear hf
      go_wp2
      (try simp only [Exit.inBlock, Exit.then]); refine bodyPost_ret (results_tmp4 rfl _ _ _) rfl ?_
      exact ⟨rfl, rfl⟩
end Go.Proofs.YtnbfadgclffgkaaGreatDoor
