/- The reference's sameness of lists of texts, pairs, conditions and functions. Printed by gen-show4.py. -/
import Derived.Test.YtmabeegoapcfpaaGreatDoorQEqs
import Derived.Test.YtmabeegoapcfpaaGreatDoorQSos
import Derived.Test.YtmabeegoapcfpaaGreatDoorQPart8b87d8c5
import Derived.Test.YtmabeegoapcfpaaGreatDoorQSameBR
import Derived.Lib.QuietBelow
namespace Go.Proofs.YtmabeegoapcfpaaGreatDoor
open Go.RowKit Go.Sort
set_option maxRecDepth 100000 in
set_option maxHeartbeats 1000000 in
theorem rTexts_calls (F : Nat → Prop) (w : World) (l m : List (ByteArray)) (v u : Value) (hF : Inn F w) (hr : RdL Holds.str 1 F w l v) (hr2 : RdL Holds.str 1 F w m u) :
    Calls Tryz.prog 53 #[v, u] w (Gives w (.bool (same l m))) := by
  obtain ⟨a, cap, rfl, hl, hc, ha⟩ := hr.opn
  obtain ⟨a2, cap2, rfl, hl2, hc2, ha2⟩ := hr2.opn
  unfold maxLen at hc hc2
  by_cases hlen : l.length = m.length
  rotate_left
  · have hfin : Hid (same l m = false) := same_ne (fun h => hlen (by rw [h]))
    have e0 : ((l.length : Int) != (m.length : Int)) = true := by simp; omega
    clear hr hr2 ha ha2 hlen
    go_enter Tryz.func53, Tryz.ntmps53
    go_wp2
    go_ret
    exact ⟨ret_bool hfin.out.symm, Below.refl _ _⟩
  have hfin1 : Hid (l.take l.length = m.take l.length → same l m = true) := fun h => same_eq (by rw [List.take_length, hlen, List.take_length] at h; exact h)
  have HL := Lib.hid hlen
  rw [← hlen]
  clear hr hr2 hlen
  go_enter Tryz.func53, Tryz.ntmps53
  go_wp2
  go_loopw [5] (fun i wr => ∃ (k : Nat), k ≤ l.length ∧ i = .int .i64 k ∧ Hid (l.take k = m.take k) ∧ Below w.heap.size w wr) (fun i _ => l.length - (intOf i).toNat)
  case atStart => exact ⟨0, Nat.zero_le _, rfl, by show _ = _; rw [List.take_zero, List.take_zero], Below.refl _ _⟩
  case round =>
    obtain ⟨k, hk, rfl, hq, hB⟩ := hrel
    by_cases hlt : k < l.length
    · have hlt2 : k < m.length := by have := HL.out; omega
      obtain ⟨b, off, rfl, hFb, hel⟩ := ha (by omega)
      obtain ⟨b2, off2, rfl, hFb2, hel2⟩ := ha2 (by omega)
      obtain ⟨cs, hx, -, hcell⟩ := hel wr (hB.block b (hF b hFb)) k hlt
      obtain ⟨ds, hy, -, hdell⟩ := hel2 wr (hB.block b2 (hF b2 hFb2)) k hlt2
      have hki : (k : Int) < (l.length : Int) := by omega
      have hki0 : (0 : Int) ≤ (k : Int) := by omega
      have HB := Lib.hid hB
      obtain ⟨x, hxe⟩ : ∃ x, l[k] = x := ⟨_, rfl⟩
      obtain ⟨y, hye⟩ : ∃ y, m[k] = y := ⟨_, rfl⟩
      have hnx : Hid (x = y → l.take (k + 1) = m.take (k + 1)) := fun h => take_same hq.out hlt hlt2 (by rw [hxe, hye, h])
      have hno : Hid (x ≠ y → same l m = false) := fun h => same_ne (fun e => h (by subst e; rw [← hxe, ← hye]))
      rw [hxe] at hx
      rw [hye] at hy
      clear hxe hye hel hel2 ha ha2 hq hfin1 hB
      obtain ⟨-, rfl⟩ := hx
      obtain ⟨-, rfl⟩ := hy
      have g0 := hcell 0 _ rfl
      have h0 := hdell 0 _ rfl
      simp only [Nat.add_zero, Nat.mul_one] at g0 h0
      clear hcell hdell
      by_cases hne : x = y
      rotate_left
      · have e1 : (x.toList != y.toList) = true := by rw [bne, strne hne]; rfl
        have e2 : (x.toList == y.toList) = false := strne hne
        have hfin := Lib.hid (hno.out (by first | exact fun h => hne h | (intro h; cases h; exact hne rfl)))
        clear hno hnx hne
        go_upto_region 6 with fail
        go_quiet (fail)
        go_wp2_with fail
        go_ret
        exact ⟨ret_bool hfin.out.symm, below_drewN HB.out _⟩
      subst hne
      have hnx2 := Lib.hid (hnx.out rfl)
      clear hno hnx
      go_upto_region 6 with fail
      go_quiet (fail)
      go_wp2_with fail
      go_roundw
      case rel => exact ⟨k + 1, by omega, by go_num, hnx2.out, below_drewN HB.out _⟩
      case measure => simp [intOf]; omega
    · have : k = l.length := by omega
      subst this
      have hfin := Lib.hid (hfin1.out hq.out)
      have hki : decide ((l.length : Int) < (l.length : Int)) = false := by simp
      clear hq ha ha2 hfin1
      go_wp2
      go_ret
      exact ⟨ret_bool hfin.out.symm, hB⟩
set_option maxRecDepth 100000 in
set_option maxHeartbeats 1000000 in
theorem rPairs_calls (F : Nat → Prop) (w : World) (l m : List (PairD)) (v u : Value) (hF : Inn F w) (hr : RdL Holds.pair 2 F w l v) (hr2 : RdL Holds.pair 2 F w m u) :
    Calls Tryz.prog 54 #[v, u] w (Gives w (.bool (same l m))) := by
  obtain ⟨a, cap, rfl, hl, hc, ha⟩ := hr.opn
  obtain ⟨a2, cap2, rfl, hl2, hc2, ha2⟩ := hr2.opn
  unfold maxLen at hc hc2
  by_cases hlen : l.length = m.length
  rotate_left
  · have hfin : Hid (same l m = false) := same_ne (fun h => hlen (by rw [h]))
    have e0 : ((l.length : Int) != (m.length : Int)) = true := by simp; omega
    clear hr hr2 ha ha2 hlen
    go_enter Tryz.func54, Tryz.ntmps54
    go_wp2
    go_ret
    exact ⟨ret_bool hfin.out.symm, Below.refl _ _⟩
  have hfin1 : Hid (l.take l.length = m.take l.length → same l m = true) := fun h => same_eq (by rw [List.take_length, hlen, List.take_length] at h; exact h)
  have HL := Lib.hid hlen
  rw [← hlen]
  clear hr hr2 hlen
  go_enter Tryz.func54, Tryz.ntmps54
  go_wp2
  go_loopw [5] (fun i wr => ∃ (k : Nat), k ≤ l.length ∧ i = .int .i64 k ∧ Hid (l.take k = m.take k) ∧ Below w.heap.size w wr) (fun i _ => l.length - (intOf i).toNat)
  case atStart => exact ⟨0, Nat.zero_le _, rfl, by show _ = _; rw [List.take_zero, List.take_zero], Below.refl _ _⟩
  case round =>
    obtain ⟨k, hk, rfl, hq, hB⟩ := hrel
    by_cases hlt : k < l.length
    · have hlt2 : k < m.length := by have := HL.out; omega
      obtain ⟨b, off, rfl, hFb, hel⟩ := ha (by omega)
      obtain ⟨b2, off2, rfl, hFb2, hel2⟩ := ha2 (by omega)
      obtain ⟨cs, hx, -, hcell⟩ := hel wr (hB.block b (hF b hFb)) k hlt
      obtain ⟨ds, hy, -, hdell⟩ := hel2 wr (hB.block b2 (hF b2 hFb2)) k hlt2
      have hki : (k : Int) < (l.length : Int) := by omega
      have hki0 : (0 : Int) ≤ (k : Int) := by omega
      have HB := Lib.hid hB
      obtain ⟨x, hxe⟩ : ∃ x, l[k] = x := ⟨_, rfl⟩
      obtain ⟨y, hye⟩ : ∃ y, m[k] = y := ⟨_, rfl⟩
      have hnx : Hid (x = y → l.take (k + 1) = m.take (k + 1)) := fun h => take_same hq.out hlt hlt2 (by rw [hxe, hye, h])
      have hno : Hid (x ≠ y → same l m = false) := fun h => same_ne (fun e => h (by subst e; rw [← hxe, ← hye]))
      rw [hxe] at hx
      rw [hye] at hy
      clear hxe hye hel hel2 ha ha2 hq hfin1 hB
      obtain ⟨-, -, rfl⟩ := hx
      obtain ⟨-, -, rfl⟩ := hy
      have g0 := hcell 0 _ rfl
      have h0 := hdell 0 _ rfl
      have g1 := hcell 1 _ rfl
      have h1 := hdell 1 _ rfl
      simp only [Nat.add_zero] at g0 h0
      obtain ⟨xn, xk⟩ := x
      obtain ⟨yn, yk⟩ := y
      simp only at g0 g1 h0 h1
      clear hcell hdell
      by_cases hne : xn = yn
      rotate_left
      · have e1 : (xn.toList == yn.toList) = false := strne hne
        have hfin := Lib.hid (hno.out (by first | exact fun h => hne h | (intro h; cases h; exact hne rfl)))
        clear hno hnx hne
        go_upto_region 6 with fail
        go_quiet (fail)
        go_wp2_with fail
        go_ret
        exact ⟨ret_bool hfin.out.symm, below_drewN HB.out _⟩
      subst hne
      by_cases hne : xk = yk
      rotate_left
      · have e1 : (xk == yk) = false := by simpa using hne
        have hfin := Lib.hid (hno.out (by first | exact fun h => hne h | (intro h; cases h; exact hne rfl)))
        clear hno hnx hne
        go_upto_region 6 with fail
        go_quiet (fail)
        go_wp2_with fail
        go_ret
        exact ⟨ret_bool hfin.out.symm, below_drewN HB.out _⟩
      subst hne
      have hnx2 := Lib.hid (hnx.out rfl)
      clear hno hnx
      go_upto_region 6 with fail
      go_quiet (fail)
      go_wp2_with fail
      go_roundw
      case rel => exact ⟨k + 1, by omega, by go_num, hnx2.out, below_drewN HB.out _⟩
      case measure => simp [intOf]; omega
    · have : k = l.length := by omega
      subst this
      have hfin := Lib.hid (hfin1.out hq.out)
      have hki : decide ((l.length : Int) < (l.length : Int)) = false := by simp
      clear hq ha ha2 hfin1
      go_wp2
      go_ret
      exact ⟨ret_bool hfin.out.symm, hB⟩
set_option maxRecDepth 100000 in
set_option maxHeartbeats 4000000 in
theorem rWhen_calls (F : Nat → Prop) (w : World) (l m : List (Ex)) (v u : Value) (hF : Inn F w) (hr : RdL Holds.ex 5 F w l v) (hr2 : RdL Holds.ex 5 F w m u) :
    Calls Tryz.prog 58 #[v, u] w (Gives w (.bool (same l m))) := by
  obtain ⟨a, cap, rfl, hl, hc, ha⟩ := hr.opn
  obtain ⟨a2, cap2, rfl, hl2, hc2, ha2⟩ := hr2.opn
  unfold maxLen at hc hc2
  by_cases hlen : l.length = m.length
  rotate_left
  · have hfin : Hid (same l m = false) := same_ne (fun h => hlen (by rw [h]))
    have e0 : ((l.length : Int) != (m.length : Int)) = true := by simp; omega
    clear hr hr2 ha ha2 hlen
    go_enter Tryz.func58, Tryz.ntmps58
    go_wp2
    go_ret
    exact ⟨ret_bool hfin.out.symm, Below.refl _ _⟩
  have hfin1 : Hid (l.take l.length = m.take l.length → same l m = true) := fun h => same_eq (by rw [List.take_length, hlen, List.take_length] at h; exact h)
  have HL := Lib.hid hlen
  rw [← hlen]
  clear hr hr2 hlen
  go_enter Tryz.func58, Tryz.ntmps58
  go_wp2
  go_loopw [5] (fun i wr => ∃ (k : Nat), k ≤ l.length ∧ i = .int .i64 k ∧ Hid (l.take k = m.take k) ∧ Below w.heap.size w wr) (fun i _ => l.length - (intOf i).toNat)
  case atStart => exact ⟨0, Nat.zero_le _, rfl, by show _ = _; rw [List.take_zero, List.take_zero], Below.refl _ _⟩
  case round =>
    obtain ⟨k, hk, rfl, hq, hB⟩ := hrel
    by_cases hlt : k < l.length
    · have hlt2 : k < m.length := by have := HL.out; omega
      obtain ⟨b, off, rfl, hFb, hel⟩ := ha (by omega)
      obtain ⟨b2, off2, rfl, hFb2, hel2⟩ := ha2 (by omega)
      obtain ⟨cs, hx, -, hcell⟩ := hel wr (hB.block b (hF b hFb)) k hlt
      obtain ⟨ds, hy, -, hdell⟩ := hel2 wr (hB.block b2 (hF b2 hFb2)) k hlt2
      obtain ⟨x, hxe⟩ : ∃ x, l[k] = x := ⟨_, rfl⟩
      obtain ⟨y, hye⟩ : ∃ y, m[k] = y := ⟨_, rfl⟩
      rw [hxe] at hx
      rw [hye] at hy
      have hx2 := hx
      have hy2 := hy
      obtain ⟨qa1, qa2, qa3, qa4, da9, fa9, rfl⟩ := ex_shape hx2
      obtain ⟨qb1, qb2, qb3, qb4, db9, fb9, rfl⟩ := ex_shape hy2
      have g0 := hcell 0 _ rfl
      have g1 := hcell 1 _ rfl
      have g2 := hcell 2 _ rfl
      have g3 := hcell 3 _ rfl
      have g4 := hcell 4 _ rfl
      have h0 := hdell 0 _ rfl
      have h1 := hdell 1 _ rfl
      have h2 := hdell 2 _ rfl
      have h3 := hdell 3 _ rfl
      have h4 := hdell 4 _ rfl
      simp only [Nat.add_zero] at g0 h0
      have hki : (k : Int) < (l.length : Int) := by omega
      have hki0 : (0 : Int) ≤ (k : Int) := by omega
      have HB := Lib.hid hB
      have hnx : Hid (x = y → l.take (k + 1) = m.take (k + 1)) := fun h => take_same hq.out hlt hlt2 (by rw [hxe, hye, h])
      have hno : Hid (x ≠ y → same l m = false) := fun h => same_ne (fun e => h (by subst e; rw [← hxe, ← hye]))
      have K {f : FuncId} {args : Array Value} {u : Value} (h : ∀ w', Below wr.heap.size wr w' → Calls Tryz.prog f args w' (Gives w' u)) (p : Regrown) : Calls Tryz.prog f args (grow (redrawn wr p.d) p.os) fun e w3 => e = .returned u ∧ ∃ p : Regrown, w3 = grow (redrawn wr p.d) p.os := regrown_gives (fun w3 hb => h w3 hb) p
      have hc9 := fun (W : World) (hW : Below wr.heap.size wr W) => sameR_calls x y F W _ _ (hF.below (bt hB hW)) (RdEx.below hx hF (bt hB hW) (Nat.le_refl _)) (RdEx.below hy hF (bt hB hW) (Nat.le_refl _))
      clear ha ha2 hel hel2 hcell hdell hx hy hxe hye hB hq hfin1
      by_cases h : x = y
      rotate_left
      · have hfin := Lib.hid (hno.out h)
        simp only [same_ne h] at hc9
        have G9 := Lib.hid (K hc9)
        clear hc9 hno hnx h
        have z0_g := fun d os => cell_regrown g0 d os
        have z0_h := fun d os => cell_regrown h0 d os
        have z1_g := fun d os => cell_regrown g1 d os
        have z1_h := fun d os => cell_regrown h1 d os
        have z2_g := fun d os => cell_regrown g2 d os
        have z2_h := fun d os => cell_regrown h2 d os
        have z3_g := fun d os => cell_regrown g3 d os
        have z3_h := fun d os => cell_regrown h3 d os
        have z4_g := fun d os => cell_regrown g4 d os
        have z4_h := fun d os => cell_regrown h4 d os
        clear K g0 h0 g1 h1 g2 h2 g3 h3 g4 h4
        go_upto_region 6 with fail
        refine wp_region_quiet_below (by kernel_rfl) (by kernel_rfl) ?_
        repeat (go_big_quiet_step (first | with_reducible exact G9.out _))
        refine wpQuiet_nil ?_
        intro w3 hw3
        have hb3 := below_of_regrown hw3
        clear hw3 z0_g z0_h z1_g z1_h z2_g z2_h z3_g z3_h z4_g z4_h
        go_wp2_with fail
        go_ret
        exact ⟨ret_bool hfin.out.symm, bt HB.out hb3⟩
      have hnx2 := Lib.hid (hnx.out h)
      simp only [same_eq h] at hc9
      have G9 := Lib.hid (K hc9)
      clear hc9 hno hnx h
      have z0_g := fun d os => cell_regrown g0 d os
      have z0_h := fun d os => cell_regrown h0 d os
      have z1_g := fun d os => cell_regrown g1 d os
      have z1_h := fun d os => cell_regrown h1 d os
      have z2_g := fun d os => cell_regrown g2 d os
      have z2_h := fun d os => cell_regrown h2 d os
      have z3_g := fun d os => cell_regrown g3 d os
      have z3_h := fun d os => cell_regrown h3 d os
      have z4_g := fun d os => cell_regrown g4 d os
      have z4_h := fun d os => cell_regrown h4 d os
      clear K g0 h0 g1 h1 g2 h2 g3 h3 g4 h4
      go_upto_region 6 with fail
      refine wp_region_quiet_below (by kernel_rfl) (by kernel_rfl) ?_
      repeat (go_big_quiet_step (first | with_reducible exact G9.out _))
      refine wpQuiet_nil ?_
      intro w3 hw3
      have hb3 := below_of_regrown hw3
      clear hw3 z0_g z0_h z1_g z1_h z2_g z2_h z3_g z3_h z4_g z4_h
      go_wp2_with fail
      go_roundw
      case rel => exact ⟨k + 1, by omega, by go_num, hnx2.out, bt HB.out hb3⟩
      case measure => simp [intOf]; omega
    · have : k = l.length := by omega
      subst this
      have hfin := Lib.hid (hfin1.out hq.out)
      have hki : decide ((l.length : Int) < (l.length : Int)) = false := by simp
      clear hq ha ha2 hfin1
      go_wp2
      go_ret
      exact ⟨ret_bool hfin.out.symm, hB⟩
set_option maxRecDepth 100000 in
set_option maxHeartbeats 4000000 in
theorem rFuncs_calls (F : Nat → Prop) (w : World) (l m : List (FuncD)) (v u : Value) (hF : Inn F w) (hr : RdL Holds.fnc 3 F w l v) (hr2 : RdL Holds.fnc 3 F w m u) :
    Calls Tryz.prog 55 #[v, u] w (Gives w (.bool (same l m))) := by
  obtain ⟨a, cap, rfl, hl, hc, ha⟩ := hr.opn
  obtain ⟨a2, cap2, rfl, hl2, hc2, ha2⟩ := hr2.opn
  unfold maxLen at hc hc2
  by_cases hlen : l.length = m.length
  rotate_left
  · have hfin : Hid (same l m = false) := same_ne (fun h => hlen (by rw [h]))
    have e0 : ((l.length : Int) != (m.length : Int)) = true := by simp; omega
    clear hr hr2 ha ha2 hlen
    go_enter Tryz.func55, Tryz.ntmps55
    go_wp2
    go_ret
    exact ⟨ret_bool hfin.out.symm, Below.refl _ _⟩
  have hfin1 : Hid (l.take l.length = m.take l.length → same l m = true) := fun h => same_eq (by rw [List.take_length, hlen, List.take_length] at h; exact h)
  have HL := Lib.hid hlen
  rw [← hlen]
  clear hr hr2 hlen
  go_enter Tryz.func55, Tryz.ntmps55
  go_wp2
  go_loopw [5] (fun i wr => ∃ (k : Nat), k ≤ l.length ∧ i = .int .i64 k ∧ Hid (l.take k = m.take k) ∧ Below w.heap.size w wr) (fun i _ => l.length - (intOf i).toNat)
  case atStart => exact ⟨0, Nat.zero_le _, rfl, by show _ = _; rw [List.take_zero, List.take_zero], Below.refl _ _⟩
  case round =>
    obtain ⟨k, hk, rfl, hq, hB⟩ := hrel
    by_cases hlt : k < l.length
    · have hlt2 : k < m.length := by have := HL.out; omega
      obtain ⟨b, off, rfl, hFb, hel⟩ := ha (by omega)
      obtain ⟨b2, off2, rfl, hFb2, hel2⟩ := ha2 (by omega)
      obtain ⟨cs, hx, -, hcell⟩ := hel wr (hB.block b (hF b hFb)) k hlt
      obtain ⟨ds, hy, -, hdell⟩ := hel2 wr (hB.block b2 (hF b2 hFb2)) k hlt2
      obtain ⟨x, hxe⟩ : ∃ x, l[k] = x := ⟨_, rfl⟩
      obtain ⟨y, hye⟩ : ∃ y, m[k] = y := ⟨_, rfl⟩
      rw [hxe] at hx
      rw [hye] at hy
      have hx2 := hx
      have hy2 := hy
      obtain ⟨-, va1, va2, rfl, ka1, ka2⟩ := hx2
      obtain ⟨da1, fa1, rfl⟩ := ka1.shape
      obtain ⟨da2, fa2, rfl⟩ := ka2.shape
      obtain ⟨-, vb1, vb2, rfl, kb1, kb2⟩ := hy2
      obtain ⟨db1, fb1, rfl⟩ := kb1.shape
      obtain ⟨db2, fb2, rfl⟩ := kb2.shape
      have g0 := hcell 0 _ rfl
      have g1 := hcell 1 _ rfl
      have g2 := hcell 2 _ rfl
      have h0 := hdell 0 _ rfl
      have h1 := hdell 1 _ rfl
      have h2 := hdell 2 _ rfl
      simp only [Nat.add_zero] at g0 h0
      have hki : (k : Int) < (l.length : Int) := by omega
      have hki0 : (0 : Int) ≤ (k : Int) := by omega
      have HB := Lib.hid hB
      have hnx : Hid (x = y → l.take (k + 1) = m.take (k + 1)) := fun h => take_same hq.out hlt hlt2 (by rw [hxe, hye, h])
      have hno : Hid (x ≠ y → same l m = false) := fun h => same_ne (fun e => h (by subst e; rw [← hxe, ← hye]))
      have K {f : FuncId} {args : Array Value} {u : Value} (h : ∀ w', Below wr.heap.size wr w' → Calls Tryz.prog f args w' (Gives w' u)) (p : Regrown) : Calls Tryz.prog f args (grow (redrawn wr p.d) p.os) fun e w3 => e = .returned u ∧ ∃ p : Regrown, w3 = grow (redrawn wr p.d) p.os := regrown_gives (fun w3 hb => h w3 hb) p
      obtain ⟨x_name, x_params, x_body⟩ := x
      obtain ⟨y_name, y_params, y_body⟩ := y
      simp only at ka1 kb1 ka2 kb2 g0 h0 g1 h1 g2 h2
      have hc1 := fun (W : World) (hW : Below wr.heap.size wr W) => rTexts_calls F W x_params y_params _ _ (hF.below (bt HB.out hW)) (RdL.below ka1 hF (bt HB.out hW) (Nat.le_refl _)) (RdL.below kb1 hF (bt HB.out hW) (Nat.le_refl _))
      have hc2 := fun (W : World) (hW : Below wr.heap.size wr W) => sameBR_calls x_body y_body F W _ _ (hF.below (bt HB.out hW)) (Sts.below ka2 hF (bt HB.out hW) (Nat.le_refl _)) (Sts.below kb2 hF (bt HB.out hW) (Nat.le_refl _))
      clear ha ha2 hel hel2 hcell hdell hx hy hxe hye hB hq hfin1 ka1 kb1 ka2 kb2
      by_cases h : x_name = y_name
      rotate_left
      · have hfin := Lib.hid (hno.out (fun e => h (by cases e; rfl)))
        have e1 : (x_name.toList != y_name.toList) = true := by rw [bne, strne h]; rfl
        have e2 : (x_name.toList == y_name.toList) = false := strne h
        clear hc1 hc2 hno hnx h
        have z0_g := fun d os => cell_regrown g0 d os
        have z0_h := fun d os => cell_regrown h0 d os
        have z1_g := fun d os => cell_regrown g1 d os
        have z1_h := fun d os => cell_regrown h1 d os
        have z2_g := fun d os => cell_regrown g2 d os
        have z2_h := fun d os => cell_regrown h2 d os
        clear K g0 h0 g1 h1 g2 h2
        go_upto_region 6 with fail
        refine wp_region_quiet_below (by kernel_rfl) (by kernel_rfl) ?_
        repeat (go_big_quiet_step (fail))
        refine wpQuiet_nil ?_
        intro w3 hw3
        have hb3 := below_of_regrown hw3
        clear hw3 z0_g z0_h z1_g z1_h z2_g z2_h
        go_wp2_with fail
        go_ret
        exact ⟨ret_bool hfin.out.symm, bt HB.out hb3⟩
      subst h
      by_cases h : x_params = y_params
      rotate_left
      · have hfin := Lib.hid (hno.out (fun e => h (by cases e; rfl)))
        simp only [same_ne h] at hc1
        have G1 := Lib.hid (K hc1)
        clear hc1 hc2 hno hnx h
        have z0_g := fun d os => cell_regrown g0 d os
        have z0_h := fun d os => cell_regrown h0 d os
        have z1_g := fun d os => cell_regrown g1 d os
        have z1_h := fun d os => cell_regrown h1 d os
        have z2_g := fun d os => cell_regrown g2 d os
        have z2_h := fun d os => cell_regrown h2 d os
        clear K g0 h0 g1 h1 g2 h2
        go_upto_region 6 with fail
        refine wp_region_quiet_below (by kernel_rfl) (by kernel_rfl) ?_
        repeat (go_big_quiet_step (first | with_reducible exact G1.out _))
        refine wpQuiet_nil ?_
        intro w3 hw3
        have hb3 := below_of_regrown hw3
        clear hw3 z0_g z0_h z1_g z1_h z2_g z2_h
        go_wp2_with fail
        go_ret
        exact ⟨ret_bool hfin.out.symm, bt HB.out hb3⟩
      subst h
      by_cases h : x_body = y_body
      rotate_left
      · have hfin := Lib.hid (hno.out (fun e => h (by cases e; rfl)))
        simp only [same_self] at hc1
        have G1 := Lib.hid (K hc1)
        simp only [same_ne h] at hc2
        have G2 := Lib.hid (K hc2)
        clear hc1 hc2 hno hnx h
        have z0_g := fun d os => cell_regrown g0 d os
        have z0_h := fun d os => cell_regrown h0 d os
        have z1_g := fun d os => cell_regrown g1 d os
        have z1_h := fun d os => cell_regrown h1 d os
        have z2_g := fun d os => cell_regrown g2 d os
        have z2_h := fun d os => cell_regrown h2 d os
        clear K g0 h0 g1 h1 g2 h2
        go_upto_region 6 with fail
        refine wp_region_quiet_below (by kernel_rfl) (by kernel_rfl) ?_
        repeat (go_big_quiet_step (first | with_reducible exact G1.out _ | with_reducible exact G2.out _))
        refine wpQuiet_nil ?_
        intro w3 hw3
        have hb3 := below_of_regrown hw3
        clear hw3 z0_g z0_h z1_g z1_h z2_g z2_h
        go_wp2_with fail
        go_ret
        exact ⟨ret_bool hfin.out.symm, bt HB.out hb3⟩
      subst h
      have hnx2 := Lib.hid (hnx.out rfl)
      simp only [same_self] at hc1
      have G1 := Lib.hid (K hc1)
      simp only [same_self] at hc2
      have G2 := Lib.hid (K hc2)
      clear hc1 hc2 hno hnx
      have z0_g := fun d os => cell_regrown g0 d os
      have z0_h := fun d os => cell_regrown h0 d os
      have z1_g := fun d os => cell_regrown g1 d os
      have z1_h := fun d os => cell_regrown h1 d os
      have z2_g := fun d os => cell_regrown g2 d os
      have z2_h := fun d os => cell_regrown h2 d os
      clear K g0 h0 g1 h1 g2 h2
      go_upto_region 6 with fail
      refine wp_region_quiet_below (by kernel_rfl) (by kernel_rfl) ?_
      repeat (go_big_quiet_step (first | with_reducible exact G1.out _ | with_reducible exact G2.out _))
      refine wpQuiet_nil ?_
      intro w3 hw3
      have hb3 := below_of_regrown hw3
      clear hw3 z0_g z0_h z1_g z1_h z2_g z2_h
      go_wp2_with fail
      go_roundw
      case rel => exact ⟨k + 1, by omega, by go_num, hnx2.out, bt HB.out hb3⟩
      case measure => simp [intOf]; omega
    · have : k = l.length := by omega
      subst this
      have hfin := Lib.hid (hfin1.out hq.out)
      have hki : decide ((l.length : Int) < (l.length : Int)) = false := by simp
      clear hq ha ha2 hfin1
      go_wp2
      go_ret
      exact ⟨ret_bool hfin.out.symm, hB⟩
end Go.Proofs.YtmabeegoapcfpaaGreatDoor
