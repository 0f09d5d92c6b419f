/- slices.Equal and slices.EqualFunc at the types of a source: each tells whether two lists are the same. Printed by gen-show1.py. -/
import Derived.Test.YtmabeegoapcfpaaGreatDoorQPart92d78415
import Derived.Test.YtmabeegoapcfpaaGreatDoorQPart8b5662ef
import Derived.BigQuiet
import Derived.Deep.QuietTactic
import Derived.Deep.DeepCutAuto
import Derived.Deep.CutBlock
import Derived.StillTailTactics
namespace Go.Proofs.YtmabeegoapcfpaaGreatDoor
open Go.RowKit
def aggA (cs : List Value) : Value := .agg cs.toArray
def oneA (cs : List Value) : Value := cs.headD undef
def Asks1 {α : Type} (R : Holds α) (arg : List Value → Value) (F : Nat → Prop) (w : World) (f : Nat) (caps : Array Value) (x : α) (b : Bool) : Prop := ∀ (w' : World) (cs : List Value), Below w.heap.size w w' → R.R F w' x cs → Calls Tryz.prog f (#[arg cs] ++ caps) w' (Gives w' (.bool b))
def Asks2 {α : Type} (R : Holds α) (arg : List Value → Value) (F : Nat → Prop) (w : World) (f : Nat) (caps : Array Value) (x y : α) (b : Bool) : Prop := ∀ (w' : World) (cs ds : List Value), Below w.heap.size w w' → R.R F w' x cs → R.R F w' y ds → Calls Tryz.prog f (#[arg cs, arg ds] ++ caps) w' (Gives w' (.bool b))
theorem cell_al {w : World} {a : Addr} {v : Value} (h : w.cell? a = some v) (o : Obj) : (w.alloc o).cell? a = some v := (World.cell?_of_block (w := w) (a := a) (Below.heap_alloc w o _ (World.block_lt_of_cell? w a h))).trans h
theorem take_same {α : Type} {l m : List α} {k : Nat} (h : l.take k = m.take k) (h1 : k < l.length) (h2 : k < m.length) (he : l[k] = m[k]) : l.take (k + 1) = m.take (k + 1) := by
  rw [List.take_succ_eq_append_getElem h1, List.take_succ_eq_append_getElem h2, h, he]
theorem ex_shape {F : Nat → Prop} {w : World} {x : Ex} {cs : List Value} (h : RdEx F w x cs) : ∃ k o n s d f, cs = [.int .i64 k, .int .i64 o, .int .i64 n, .string s, .slice d x.args.length f] := by
  obtain ⟨k, o, n, s, args⟩ := x
  obtain ⟨_, _, _, _, v, c, rfl, ⟨d, f, rfl, _⟩, _⟩ := h
  exact ⟨k, o, n, s, d, f, rfl⟩
set_option maxRecDepth 100000 in
set_option maxHeartbeats 1000000 in
theorem eqString_calls (F : Nat → Prop) (w : World) (l m : List (ByteArray)) (v u : Value) (hF : Inn F w) (hr : RdL Holds.str 1 F w l v) (hr2 : RdL Holds.str 1 F w m u) :
    Calls Tryz.prog 45 #[v, u] w (Gives w (.bool (same l m))) := by
  obtain ⟨a, cap, rfl, hl, hc, ha⟩ := hr.opn
  obtain ⟨a2, cap2, rfl, hl2, hc2, ha2⟩ := hr2.opn
  unfold maxLen at hc hc2
  by_cases hlen : l.length = m.length
  rotate_left
  · have hfin : Hid (same l m = false) := same_ne (fun h => hlen (by rw [h]))
    have e0 : ((l.length : Int) != (m.length : Int)) = true := by simp; omega
    clear hr hr2 ha ha2 hlen
    go_enter Tryz.func45, Tryz.ntmps45
    go_wp2
    go_ret
    exact ⟨ret_bool hfin.out.symm, Below.refl _ _⟩
  have hfin1 : Hid (l.take l.length = m.take l.length → same l m = true) := fun h => same_eq (by rw [List.take_length, hlen, List.take_length] at h; exact h)
  have HL := Lib.hid hlen
  rw [← hlen]
  clear hr hr2 hlen
  go_enter Tryz.func45, Tryz.ntmps45
  go_wp2
  go_loopw [13] (fun i wr => ∃ (k : Nat), k ≤ l.length ∧ i = .int .i64 k ∧ Hid (l.take k = m.take k) ∧ Below w.heap.size w wr) (fun i _ => l.length - (intOf i).toNat)
  case atStart => exact ⟨0, Nat.zero_le _, rfl, by show _ = _; rw [List.take_zero, List.take_zero], Below.refl _ _⟩
  case round =>
    obtain ⟨k, hk, rfl, hq, hB⟩ := hrel
    by_cases hlt : k < l.length
    · have hlt2 : k < m.length := by have := HL.out; omega
      obtain ⟨b, off, rfl, hFb, hel⟩ := ha (by omega)
      obtain ⟨b2, off2, rfl, hFb2, hel2⟩ := ha2 (by omega)
      obtain ⟨cs, hx, -, hcell⟩ := hel wr (hB.block b (hF b hFb)) k hlt
      obtain ⟨ds, hy, -, hdell⟩ := hel2 wr (hB.block b2 (hF b2 hFb2)) k hlt2
      have hki : (k : Int) < (l.length : Int) := by omega
      have hki0 : (0 : Int) ≤ (k : Int) := by omega
      have HB := Lib.hid hB
      obtain ⟨x, hxe⟩ : ∃ x, l[k] = x := ⟨_, rfl⟩
      obtain ⟨y, hye⟩ : ∃ y, m[k] = y := ⟨_, rfl⟩
      have hnx : Hid (x = y → l.take (k + 1) = m.take (k + 1)) := fun h => take_same hq.out hlt hlt2 (by rw [hxe, hye, h])
      have hno : Hid (x ≠ y → same l m = false) := fun h => same_ne (fun e => h (by subst e; rw [← hxe, ← hye]))
      rw [hxe] at hx
      rw [hye] at hy
      clear hxe hye hel hel2 ha ha2 hq hfin1 hB
      obtain ⟨-, rfl⟩ := hx
      obtain ⟨-, rfl⟩ := hy
      have g0 := hcell 0 _ rfl
      have h0 := hdell 0 _ rfl
      simp only [Nat.add_zero, Nat.mul_one] at g0 h0
      clear hcell hdell
      by_cases hne : x = y
      rotate_left
      · have e1 : (x.toList != y.toList) = true := by rw [bne, strne hne]; rfl
        have e2 : (x.toList == y.toList) = false := strne hne
        have hfin := Lib.hid (hno.out (by first | exact fun h => hne h | (intro h; cases h; exact hne rfl)))
        clear hno hnx hne
        go_upto_region 6 with fail
        go_quiet (fail)
        go_wp2_with fail
        go_ret
        exact ⟨ret_bool hfin.out.symm, below_drewN HB.out _⟩
      subst hne
      have hnx2 := Lib.hid (hnx.out rfl)
      clear hno hnx
      go_upto_region 6 with fail
      go_quiet (fail)
      go_wp2_with fail
      go_roundw
      case rel => exact ⟨k + 1, by omega, by go_num, hnx2.out, below_drewN HB.out _⟩
      case measure => simp [intOf]; omega
    · have : k = l.length := by omega
      subst this
      have hfin := Lib.hid (hfin1.out hq.out)
      have hki : decide ((l.length : Int) < (l.length : Int)) = false := by simp
      clear hq ha ha2 hfin1
      go_wp2
      go_ret
      exact ⟨ret_bool hfin.out.symm, hB⟩
set_option maxRecDepth 100000 in
set_option maxHeartbeats 1000000 in
theorem eqPair_calls (F : Nat → Prop) (w : World) (l m : List (PairD)) (v u : Value) (hF : Inn F w) (hr : RdL Holds.pair 2 F w l v) (hr2 : RdL Holds.pair 2 F w m u) :
    Calls Tryz.prog 46 #[v, u] w (Gives w (.bool (same l m))) := by
  obtain ⟨a, cap, rfl, hl, hc, ha⟩ := hr.opn
  obtain ⟨a2, cap2, rfl, hl2, hc2, ha2⟩ := hr2.opn
  unfold maxLen at hc hc2
  by_cases hlen : l.length = m.length
  rotate_left
  · have hfin : Hid (same l m = false) := same_ne (fun h => hlen (by rw [h]))
    have e0 : ((l.length : Int) != (m.length : Int)) = true := by simp; omega
    clear hr hr2 ha ha2 hlen
    go_enter Tryz.func46, Tryz.ntmps46
    go_wp2
    go_ret
    exact ⟨ret_bool hfin.out.symm, Below.refl _ _⟩
  have hfin1 : Hid (l.take l.length = m.take l.length → same l m = true) := fun h => same_eq (by rw [List.take_length, hlen, List.take_length] at h; exact h)
  have HL := Lib.hid hlen
  rw [← hlen]
  clear hr hr2 hlen
  go_enter Tryz.func46, Tryz.ntmps46
  go_wp2
  go_loopw [13] (fun i wr => ∃ (k : Nat), k ≤ l.length ∧ i = .int .i64 k ∧ Hid (l.take k = m.take k) ∧ Below w.heap.size w wr) (fun i _ => l.length - (intOf i).toNat)
  case atStart => exact ⟨0, Nat.zero_le _, rfl, by show _ = _; rw [List.take_zero, List.take_zero], Below.refl _ _⟩
  case round =>
    obtain ⟨k, hk, rfl, hq, hB⟩ := hrel
    by_cases hlt : k < l.length
    · have hlt2 : k < m.length := by have := HL.out; omega
      obtain ⟨b, off, rfl, hFb, hel⟩ := ha (by omega)
      obtain ⟨b2, off2, rfl, hFb2, hel2⟩ := ha2 (by omega)
      obtain ⟨cs, hx, -, hcell⟩ := hel wr (hB.block b (hF b hFb)) k hlt
      obtain ⟨ds, hy, -, hdell⟩ := hel2 wr (hB.block b2 (hF b2 hFb2)) k hlt2
      have hki : (k : Int) < (l.length : Int) := by omega
      have hki0 : (0 : Int) ≤ (k : Int) := by omega
      have HB := Lib.hid hB
      obtain ⟨x, hxe⟩ : ∃ x, l[k] = x := ⟨_, rfl⟩
      obtain ⟨y, hye⟩ : ∃ y, m[k] = y := ⟨_, rfl⟩
      have hnx : Hid (x = y → l.take (k + 1) = m.take (k + 1)) := fun h => take_same hq.out hlt hlt2 (by rw [hxe, hye, h])
      have hno : Hid (x ≠ y → same l m = false) := fun h => same_ne (fun e => h (by subst e; rw [← hxe, ← hye]))
      rw [hxe] at hx
      rw [hye] at hy
      clear hxe hye hel hel2 ha ha2 hq hfin1 hB
      obtain ⟨-, -, rfl⟩ := hx
      obtain ⟨-, -, rfl⟩ := hy
      have g0 := hcell 0 _ rfl
      have h0 := hdell 0 _ rfl
      have g1 := hcell 1 _ rfl
      have h1 := hdell 1 _ rfl
      simp only [Nat.add_zero] at g0 h0
      obtain ⟨xn, xk⟩ := x
      obtain ⟨yn, yk⟩ := y
      simp only at g0 g1 h0 h1
      clear hcell hdell
      by_cases hne : xn = yn
      rotate_left
      · have e1 : (xn.toList == yn.toList) = false := strne hne
        have hfin := Lib.hid (hno.out (by first | exact fun h => hne h | (intro h; cases h; exact hne rfl)))
        clear hno hnx hne
        go_upto_region 6 with fail
        go_quiet (fail)
        go_wp2_with fail
        go_ret
        exact ⟨ret_bool hfin.out.symm, below_drewN HB.out _⟩
      subst hne
      by_cases hne : xk = yk
      rotate_left
      · have e1 : (xk == yk) = false := by simpa using hne
        have hfin := Lib.hid (hno.out (by first | exact fun h => hne h | (intro h; cases h; exact hne rfl)))
        clear hno hnx hne
        go_upto_region 6 with fail
        go_quiet (fail)
        go_wp2_with fail
        go_ret
        exact ⟨ret_bool hfin.out.symm, below_drewN HB.out _⟩
      subst hne
      have hnx2 := Lib.hid (hnx.out rfl)
      clear hno hnx
      go_upto_region 6 with fail
      go_quiet (fail)
      go_wp2_with fail
      go_roundw
      case rel => exact ⟨k + 1, by omega, by go_num, hnx2.out, below_drewN HB.out _⟩
      case measure => simp [intOf]; omega
    · have : k = l.length := by omega
      subst this
      have hfin := Lib.hid (hfin1.out hq.out)
      have hki : decide ((l.length : Int) < (l.length : Int)) = false := by simp
      clear hq ha ha2 hfin1
      go_wp2
      go_ret
      exact ⟨ret_bool hfin.out.symm, hB⟩
set_option maxRecDepth 100000 in
set_option maxHeartbeats 1000000 in
theorem eqfExpr_calls (F : Nat → Prop) (w : World) (f : Nat) (caps : Array Value) (l m : List (Ex)) (v u : Value) (hF : Inn F w) (hr : RdL Holds.ex 5 F w l v) (hr2 : RdL Holds.ex 5 F w m u) (hcf : ∀ (args : Array Value) (w : World), (callFunc f args).run Tryz.prog w = .ok (.enter f args) w) (hf : ∀ x ∈ l, ∀ y ∈ m, Asks2 Holds.ex aggA F w f caps x y (same x y)) :
    Calls Tryz.prog 115 #[v, u, .func (.func f) #[] caps] w (Gives w (.bool (same l m))) := by
  obtain ⟨a, cap, rfl, hl, hc, ha⟩ := hr.opn
  obtain ⟨a2, cap2, rfl, hl2, hc2, ha2⟩ := hr2.opn
  unfold maxLen at hc hc2
  by_cases hlen : l.length = m.length
  rotate_left
  · have hfin : Hid (same l m = false) := same_ne (fun h => hlen (by rw [h]))
    have e0 : ((l.length : Int) != (m.length : Int)) = true := by simp; omega
    clear hr hr2 hf ha ha2 hlen
    go_enter Tryz.func115, Tryz.ntmps115
    go_wp2
    go_ret
    exact ⟨ret_bool hfin.out.symm, Below.refl _ _⟩
  have hfin1 : Hid (l.take l.length = m.take l.length → same l m = true) := fun h => same_eq (by rw [List.take_length, hlen, List.take_length] at h; exact h)
  have HL := Lib.hid hlen
  rw [← hlen]
  clear hr hr2 hlen
  go_enter Tryz.func115, Tryz.ntmps115
  go_wp2
  go_loopw [17] (fun i wr => ∃ (k : Nat), k ≤ l.length ∧ i = .int .i64 k ∧ Hid (l.take k = m.take k) ∧ Below w.heap.size w wr) (fun i _ => l.length - (intOf i).toNat)
  case atStart => exact ⟨0, Nat.zero_le _, rfl, by show _ = _; rw [List.take_zero, List.take_zero], Below.refl _ _⟩
  case round =>
    obtain ⟨k, hk, rfl, hq, hB⟩ := hrel
    by_cases hlt : k < l.length
    · have hlt2 : k < m.length := by have := HL.out; omega
      obtain ⟨b, off, rfl, hFb, hel⟩ := ha (by omega)
      obtain ⟨b2, off2, rfl, hFb2, hel2⟩ := ha2 (by omega)
      obtain ⟨cs, hx, -, hcell⟩ := hel wr (hB.block b (hF b hFb)) k hlt
      obtain ⟨ds, hy, -, hdell⟩ := hel2 wr (hB.block b2 (hF b2 hFb2)) k hlt2
      have hxm := hf _ (List.getElem_mem hlt) _ (List.getElem_mem hlt2)
      obtain ⟨x, hxe⟩ : ∃ x, l[k] = x := ⟨_, rfl⟩
      obtain ⟨y, hye⟩ : ∃ y, m[k] = y := ⟨_, rfl⟩
      rw [hxe] at hx hxm
      rw [hye] at hy hxm
      have hx2 := hx
      have hy2 := hy
      obtain ⟨qa1, qa2, qa3, qa4, da9, fa9, rfl⟩ := ex_shape hx2
      obtain ⟨qb1, qb2, qb3, qb4, db9, fb9, rfl⟩ := ex_shape hy2
      have g0 := hcell 0 _ rfl
      have g1 := hcell 1 _ rfl
      have g2 := hcell 2 _ rfl
      have g3 := hcell 3 _ rfl
      have g4 := hcell 4 _ rfl
      have h0 := hdell 0 _ rfl
      have h1 := hdell 1 _ rfl
      have h2 := hdell 2 _ rfl
      have h3 := hdell 3 _ rfl
      have h4 := hdell 4 _ rfl
      simp only [Nat.add_zero] at g0 h0
      have hcall : Calls Tryz.prog f (#[.agg #[.int .i64 qa1, .int .i64 qa2, .int .i64 qa3, .string qa4, .slice da9 x.args.length fa9], .agg #[.int .i64 qb1, .int .i64 qb2, .int .i64 qb3, .string qb4, .slice db9 y.args.length fb9]] ++ caps) ((wr.alloc (.cells #[.int .i64 qa1, .int .i64 qa2, .int .i64 qa3, .string qa4, .slice da9 x.args.length fa9] 130)).alloc (.cells #[.int .i64 qb1, .int .i64 qb2, .int .i64 qb3, .string qb4, .slice db9 y.args.length fb9] 130)) (Gives ((wr.alloc (.cells #[.int .i64 qa1, .int .i64 qa2, .int .i64 qa3, .string qa4, .slice da9 x.args.length fa9] 130)).alloc (.cells #[.int .i64 qb1, .int .i64 qb2, .int .i64 qb3, .string qb4, .slice db9 y.args.length fb9] 130)) (.bool (same x y))) :=
        hxm _ [.int .i64 qa1, .int .i64 qa2, .int .i64 qa3, .string qa4, .slice da9 x.args.length fa9] [.int .i64 qb1, .int .i64 qb2, .int .i64 qb3, .string qb4, .slice db9 y.args.length fb9] ((hB.alloc hB.size _).alloc (Nat.le_trans hB.size (by simp)) _) (Holds.below _ hx hF ((hB.alloc hB.size _).alloc (Nat.le_trans hB.size (by simp)) _) (Nat.le_refl _)) (Holds.below _ hy hF ((hB.alloc hB.size _).alloc (Nat.le_trans hB.size (by simp)) _) (Nat.le_refl _))
      have h0a := cell_al h0 (.cells #[.int .i64 qa1, .int .i64 qa2, .int .i64 qa3, .string qa4, .slice da9 x.args.length fa9] 130)
      have h1a := cell_al h1 (.cells #[.int .i64 qa1, .int .i64 qa2, .int .i64 qa3, .string qa4, .slice da9 x.args.length fa9] 130)
      have h2a := cell_al h2 (.cells #[.int .i64 qa1, .int .i64 qa2, .int .i64 qa3, .string qa4, .slice da9 x.args.length fa9] 130)
      have h3a := cell_al h3 (.cells #[.int .i64 qa1, .int .i64 qa2, .int .i64 qa3, .string qa4, .slice da9 x.args.length fa9] 130)
      have h4a := cell_al h4 (.cells #[.int .i64 qa1, .int .i64 qa2, .int .i64 qa3, .string qa4, .slice da9 x.args.length fa9] 130)
      have hki : (k : Int) < (l.length : Int) := by omega
      have hki0 : (0 : Int) ≤ (k : Int) := by omega
      have hkc : (l.length : Int) ≤ (cap2 : Int) := by have := HL.out; omega
      have hnx0 : Hid (x = y → l.take (k + 1) = m.take (k + 1)) := fun h => take_same hq.out hlt hlt2 (by rw [hxe, hye, h])
      have hno : Hid (x ≠ y → same l m = false) := fun h => same_ne (fun e => h (by subst e; rw [← hxe, ← hye]))
      clear ha ha2 hel hel2 hcell hdell hx hy hf hxm hxe hye
      by_cases hP : x = y
      · rw [same_eq hP] at hcall
        have hnx := Lib.hid (hnx0.out hP)
        have HC := Lib.hid hcall
        clear hcall hP hq hnx0 hno
        go_wp2_with ((with_reducible refine HC.out.mono ?_); rintro e w' ⟨rfl, hb⟩)
        have hbw : Below wr.heap.size wr w' := (((Below.refl _ wr).alloc (Nat.le_refl _) _).alloc (by simp) _).trans (hb.mono (by simp; omega))
        go_roundw
        case rel => exact ⟨k + 1, by omega, by go_num, hnx.out, bt hB hbw⟩
        case measure => simp [intOf]; omega
      · rw [same_ne hP] at hcall
        have hfin := Lib.hid (hno.out hP)
        have HC := Lib.hid hcall
        clear hcall hP hq hnx0 hno
        go_wp2_with ((with_reducible refine HC.out.mono ?_); rintro e w' ⟨rfl, hb⟩)
        have hbw : Below wr.heap.size wr w' := (((Below.refl _ wr).alloc (Nat.le_refl _) _).alloc (by simp) _).trans (hb.mono (by simp; omega))
        go_ret
        exact ⟨ret_bool hfin.out.symm, bt hB hbw⟩
    · have : k = l.length := by omega
      subst this
      have hfin := Lib.hid (hfin1.out hq.out)
      have hki : decide ((l.length : Int) < (l.length : Int)) = false := by simp
      clear hq hf ha ha2 hfin1
      go_wp2
      go_ret
      exact ⟨ret_bool hfin.out.symm, hB⟩
set_option maxRecDepth 100000 in
set_option maxHeartbeats 1000000 in
theorem eqfExit_calls (F : Nat → Prop) (w : World) (f : Nat) (caps : Array Value) (l m : List (ExitD)) (v u : Value) (hF : Inn F w) (hr : RdL Holds.exit 4 F w l v) (hr2 : RdL Holds.exit 4 F w m u) (hcf : ∀ (args : Array Value) (w : World), (callFunc f args).run Tryz.prog w = .ok (.enter f args) w) (hf : ∀ x ∈ l, ∀ y ∈ m, Asks2 Holds.exit aggA F w f caps x y (same x y)) :
    Calls Tryz.prog 118 #[v, u, .func (.func f) #[] caps] w (Gives w (.bool (same l m))) := by
  obtain ⟨a, cap, rfl, hl, hc, ha⟩ := hr.opn
  obtain ⟨a2, cap2, rfl, hl2, hc2, ha2⟩ := hr2.opn
  unfold maxLen at hc hc2
  by_cases hlen : l.length = m.length
  rotate_left
  · have hfin : Hid (same l m = false) := same_ne (fun h => hlen (by rw [h]))
    have e0 : ((l.length : Int) != (m.length : Int)) = true := by simp; omega
    clear hr hr2 hf ha ha2 hlen
    go_enter Tryz.func118, Tryz.ntmps118
    go_wp2
    go_ret
    exact ⟨ret_bool hfin.out.symm, Below.refl _ _⟩
  have hfin1 : Hid (l.take l.length = m.take l.length → same l m = true) := fun h => same_eq (by rw [List.take_length, hlen, List.take_length] at h; exact h)
  have HL := Lib.hid hlen
  rw [← hlen]
  clear hr hr2 hlen
  go_enter Tryz.func118, Tryz.ntmps118
  go_wp2
  go_loopw [17] (fun i wr => ∃ (k : Nat), k ≤ l.length ∧ i = .int .i64 k ∧ Hid (l.take k = m.take k) ∧ Below w.heap.size w wr) (fun i _ => l.length - (intOf i).toNat)
  case atStart => exact ⟨0, Nat.zero_le _, rfl, by show _ = _; rw [List.take_zero, List.take_zero], Below.refl _ _⟩
  case round =>
    obtain ⟨k, hk, rfl, hq, hB⟩ := hrel
    by_cases hlt : k < l.length
    · have hlt2 : k < m.length := by have := HL.out; omega
      obtain ⟨b, off, rfl, hFb, hel⟩ := ha (by omega)
      obtain ⟨b2, off2, rfl, hFb2, hel2⟩ := ha2 (by omega)
      obtain ⟨cs, hx, -, hcell⟩ := hel wr (hB.block b (hF b hFb)) k hlt
      obtain ⟨ds, hy, -, hdell⟩ := hel2 wr (hB.block b2 (hF b2 hFb2)) k hlt2
      have hxm := hf _ (List.getElem_mem hlt) _ (List.getElem_mem hlt2)
      obtain ⟨x, hxe⟩ : ∃ x, l[k] = x := ⟨_, rfl⟩
      obtain ⟨y, hye⟩ : ∃ y, m[k] = y := ⟨_, rfl⟩
      rw [hxe] at hx hxm
      rw [hye] at hy hxm
      have hx2 := hx
      have hy2 := hy
      obtain ⟨-, -, -, va3, rfl, ka3⟩ := hx2
      obtain ⟨da3, fa3, rfl⟩ := ka3.shape
      obtain ⟨-, -, -, vb3, rfl, kb3⟩ := hy2
      obtain ⟨db3, fb3, rfl⟩ := kb3.shape
      have g0 := hcell 0 _ rfl
      have g1 := hcell 1 _ rfl
      have g2 := hcell 2 _ rfl
      have g3 := hcell 3 _ rfl
      have h0 := hdell 0 _ rfl
      have h1 := hdell 1 _ rfl
      have h2 := hdell 2 _ rfl
      have h3 := hdell 3 _ rfl
      simp only [Nat.add_zero] at g0 h0
      have hcall : Calls Tryz.prog f (#[.agg #[.int .i64 x.dir, .string x.to, .string x.els, .slice da3 x.cond.length fa3], .agg #[.int .i64 y.dir, .string y.to, .string y.els, .slice db3 y.cond.length fb3]] ++ caps) ((wr.alloc (.cells #[.int .i64 x.dir, .string x.to, .string x.els, .slice da3 x.cond.length fa3] 114)).alloc (.cells #[.int .i64 y.dir, .string y.to, .string y.els, .slice db3 y.cond.length fb3] 114)) (Gives ((wr.alloc (.cells #[.int .i64 x.dir, .string x.to, .string x.els, .slice da3 x.cond.length fa3] 114)).alloc (.cells #[.int .i64 y.dir, .string y.to, .string y.els, .slice db3 y.cond.length fb3] 114)) (.bool (same x y))) :=
        hxm _ [.int .i64 x.dir, .string x.to, .string x.els, .slice da3 x.cond.length fa3] [.int .i64 y.dir, .string y.to, .string y.els, .slice db3 y.cond.length fb3] ((hB.alloc hB.size _).alloc (Nat.le_trans hB.size (by simp)) _) (Holds.below _ hx hF ((hB.alloc hB.size _).alloc (Nat.le_trans hB.size (by simp)) _) (Nat.le_refl _)) (Holds.below _ hy hF ((hB.alloc hB.size _).alloc (Nat.le_trans hB.size (by simp)) _) (Nat.le_refl _))
      have h0a := cell_al h0 (.cells #[.int .i64 x.dir, .string x.to, .string x.els, .slice da3 x.cond.length fa3] 114)
      have h1a := cell_al h1 (.cells #[.int .i64 x.dir, .string x.to, .string x.els, .slice da3 x.cond.length fa3] 114)
      have h2a := cell_al h2 (.cells #[.int .i64 x.dir, .string x.to, .string x.els, .slice da3 x.cond.length fa3] 114)
      have h3a := cell_al h3 (.cells #[.int .i64 x.dir, .string x.to, .string x.els, .slice da3 x.cond.length fa3] 114)
      have hki : (k : Int) < (l.length : Int) := by omega
      have hki0 : (0 : Int) ≤ (k : Int) := by omega
      have hkc : (l.length : Int) ≤ (cap2 : Int) := by have := HL.out; omega
      have hnx0 : Hid (x = y → l.take (k + 1) = m.take (k + 1)) := fun h => take_same hq.out hlt hlt2 (by rw [hxe, hye, h])
      have hno : Hid (x ≠ y → same l m = false) := fun h => same_ne (fun e => h (by subst e; rw [← hxe, ← hye]))
      clear ha ha2 hel hel2 hcell hdell hx hy hf hxm hxe hye
      by_cases hP : x = y
      · rw [same_eq hP] at hcall
        have hnx := Lib.hid (hnx0.out hP)
        have HC := Lib.hid hcall
        clear hcall hP hq hnx0 hno
        go_wp2_with ((with_reducible refine HC.out.mono ?_); rintro e w' ⟨rfl, hb⟩)
        have hbw : Below wr.heap.size wr w' := (((Below.refl _ wr).alloc (Nat.le_refl _) _).alloc (by simp) _).trans (hb.mono (by simp; omega))
        go_roundw
        case rel => exact ⟨k + 1, by omega, by go_num, hnx.out, bt hB hbw⟩
        case measure => simp [intOf]; omega
      · rw [same_ne hP] at hcall
        have hfin := Lib.hid (hno.out hP)
        have HC := Lib.hid hcall
        clear hcall hP hq hnx0 hno
        go_wp2_with ((with_reducible refine HC.out.mono ?_); rintro e w' ⟨rfl, hb⟩)
        have hbw : Below wr.heap.size wr w' := (((Below.refl _ wr).alloc (Nat.le_refl _) _).alloc (by simp) _).trans (hb.mono (by simp; omega))
        go_ret
        exact ⟨ret_bool hfin.out.symm, bt hB hbw⟩
    · have : k = l.length := by omega
      subst this
      have hfin := Lib.hid (hfin1.out hq.out)
      have hki : decide ((l.length : Int) < (l.length : Int)) = false := by simp
      clear hq hf ha ha2 hfin1
      go_wp2
      go_ret
      exact ⟨ret_bool hfin.out.symm, hB⟩
set_option maxRecDepth 100000 in
set_option maxHeartbeats 1000000 in
theorem eqfSlot_calls (F : Nat → Prop) (w : World) (f : Nat) (caps : Array Value) (l m : List (SlotD)) (v u : Value) (hF : Inn F w) (hr : RdL Holds.slot 2 F w l v) (hr2 : RdL Holds.slot 2 F w m u) (hcf : ∀ (args : Array Value) (w : World), (callFunc f args).run Tryz.prog w = .ok (.enter f args) w) (hf : ∀ x ∈ l, ∀ y ∈ m, Asks2 Holds.slot aggA F w f caps x y (same x y)) :
    Calls Tryz.prog 121 #[v, u, .func (.func f) #[] caps] w (Gives w (.bool (same l m))) := by
  obtain ⟨a, cap, rfl, hl, hc, ha⟩ := hr.opn
  obtain ⟨a2, cap2, rfl, hl2, hc2, ha2⟩ := hr2.opn
  unfold maxLen at hc hc2
  by_cases hlen : l.length = m.length
  rotate_left
  · have hfin : Hid (same l m = false) := same_ne (fun h => hlen (by rw [h]))
    have e0 : ((l.length : Int) != (m.length : Int)) = true := by simp; omega
    clear hr hr2 hf ha ha2 hlen
    go_enter Tryz.func121, Tryz.ntmps121
    go_wp2
    go_ret
    exact ⟨ret_bool hfin.out.symm, Below.refl _ _⟩
  have hfin1 : Hid (l.take l.length = m.take l.length → same l m = true) := fun h => same_eq (by rw [List.take_length, hlen, List.take_length] at h; exact h)
  have HL := Lib.hid hlen
  rw [← hlen]
  clear hr hr2 hlen
  go_enter Tryz.func121, Tryz.ntmps121
  go_wp2
  go_loopw [17] (fun i wr => ∃ (k : Nat), k ≤ l.length ∧ i = .int .i64 k ∧ Hid (l.take k = m.take k) ∧ Below w.heap.size w wr) (fun i _ => l.length - (intOf i).toNat)
  case atStart => exact ⟨0, Nat.zero_le _, rfl, by show _ = _; rw [List.take_zero, List.take_zero], Below.refl _ _⟩
  case round =>
    obtain ⟨k, hk, rfl, hq, hB⟩ := hrel
    by_cases hlt : k < l.length
    · have hlt2 : k < m.length := by have := HL.out; omega
      obtain ⟨b, off, rfl, hFb, hel⟩ := ha (by omega)
      obtain ⟨b2, off2, rfl, hFb2, hel2⟩ := ha2 (by omega)
      obtain ⟨cs, hx, -, hcell⟩ := hel wr (hB.block b (hF b hFb)) k hlt
      obtain ⟨ds, hy, -, hdell⟩ := hel2 wr (hB.block b2 (hF b2 hFb2)) k hlt2
      have hxm := hf _ (List.getElem_mem hlt) _ (List.getElem_mem hlt2)
      obtain ⟨x, hxe⟩ : ∃ x, l[k] = x := ⟨_, rfl⟩
      obtain ⟨y, hye⟩ : ∃ y, m[k] = y := ⟨_, rfl⟩
      rw [hxe] at hx hxm
      rw [hye] at hy hxm
      have hx2 := hx
      have hy2 := hy
      obtain ⟨-, va1, rfl, ka1⟩ := hx2
      obtain ⟨da1, fa1, rfl⟩ := ka1.shape
      obtain ⟨-, vb1, rfl, kb1⟩ := hy2
      obtain ⟨db1, fb1, rfl⟩ := kb1.shape
      have g0 := hcell 0 _ rfl
      have g1 := hcell 1 _ rfl
      have h0 := hdell 0 _ rfl
      have h1 := hdell 1 _ rfl
      simp only [Nat.add_zero] at g0 h0
      have hcall : Calls Tryz.prog f (#[.agg #[.int .i64 x.kind, .slice da1 x.words.length fa1], .agg #[.int .i64 y.kind, .slice db1 y.words.length fb1]] ++ caps) ((wr.alloc (.cells #[.int .i64 x.kind, .slice da1 x.words.length fa1] 120)).alloc (.cells #[.int .i64 y.kind, .slice db1 y.words.length fb1] 120)) (Gives ((wr.alloc (.cells #[.int .i64 x.kind, .slice da1 x.words.length fa1] 120)).alloc (.cells #[.int .i64 y.kind, .slice db1 y.words.length fb1] 120)) (.bool (same x y))) :=
        hxm _ [.int .i64 x.kind, .slice da1 x.words.length fa1] [.int .i64 y.kind, .slice db1 y.words.length fb1] ((hB.alloc hB.size _).alloc (Nat.le_trans hB.size (by simp)) _) (Holds.below _ hx hF ((hB.alloc hB.size _).alloc (Nat.le_trans hB.size (by simp)) _) (Nat.le_refl _)) (Holds.below _ hy hF ((hB.alloc hB.size _).alloc (Nat.le_trans hB.size (by simp)) _) (Nat.le_refl _))
      have h0a := cell_al h0 (.cells #[.int .i64 x.kind, .slice da1 x.words.length fa1] 120)
      have h1a := cell_al h1 (.cells #[.int .i64 x.kind, .slice da1 x.words.length fa1] 120)
      have hki : (k : Int) < (l.length : Int) := by omega
      have hki0 : (0 : Int) ≤ (k : Int) := by omega
      have hkc : (l.length : Int) ≤ (cap2 : Int) := by have := HL.out; omega
      have hnx0 : Hid (x = y → l.take (k + 1) = m.take (k + 1)) := fun h => take_same hq.out hlt hlt2 (by rw [hxe, hye, h])
      have hno : Hid (x ≠ y → same l m = false) := fun h => same_ne (fun e => h (by subst e; rw [← hxe, ← hye]))
      clear ha ha2 hel hel2 hcell hdell hx hy hf hxm hxe hye
      by_cases hP : x = y
      · rw [same_eq hP] at hcall
        have hnx := Lib.hid (hnx0.out hP)
        have HC := Lib.hid hcall
        clear hcall hP hq hnx0 hno
        go_wp2_with ((with_reducible refine HC.out.mono ?_); rintro e w' ⟨rfl, hb⟩)
        have hbw : Below wr.heap.size wr w' := (((Below.refl _ wr).alloc (Nat.le_refl _) _).alloc (by simp) _).trans (hb.mono (by simp; omega))
        go_roundw
        case rel => exact ⟨k + 1, by omega, by go_num, hnx.out, bt hB hbw⟩
        case measure => simp [intOf]; omega
      · rw [same_ne hP] at hcall
        have hfin := Lib.hid (hno.out hP)
        have HC := Lib.hid hcall
        clear hcall hP hq hnx0 hno
        go_wp2_with ((with_reducible refine HC.out.mono ?_); rintro e w' ⟨rfl, hb⟩)
        have hbw : Below wr.heap.size wr w' := (((Below.refl _ wr).alloc (Nat.le_refl _) _).alloc (by simp) _).trans (hb.mono (by simp; omega))
        go_ret
        exact ⟨ret_bool hfin.out.symm, bt hB hbw⟩
    · have : k = l.length := by omega
      subst this
      have hfin := Lib.hid (hfin1.out hq.out)
      have hki : decide ((l.length : Int) < (l.length : Int)) = false := by simp
      clear hq hf ha ha2 hfin1
      go_wp2
      go_ret
      exact ⟨ret_bool hfin.out.symm, hB⟩
set_option maxRecDepth 100000 in
set_option maxHeartbeats 1000000 in
theorem eqfLine_calls (F : Nat → Prop) (w : World) (f : Nat) (caps : Array Value) (l m : List (List SlotD)) (v u : Value) (hF : Inn F w) (hr : RdL (Holds.sl Holds.slot 2) 1 F w l v) (hr2 : RdL (Holds.sl Holds.slot 2) 1 F w m u) (hcf : ∀ (args : Array Value) (w : World), (callFunc f args).run Tryz.prog w = .ok (.enter f args) w) (hf : ∀ x ∈ l, ∀ y ∈ m, Asks2 (Holds.sl Holds.slot 2) oneA F w f caps x y (same x y)) :
    Calls Tryz.prog 122 #[v, u, .func (.func f) #[] caps] w (Gives w (.bool (same l m))) := by
  obtain ⟨a, cap, rfl, hl, hc, ha⟩ := hr.opn
  obtain ⟨a2, cap2, rfl, hl2, hc2, ha2⟩ := hr2.opn
  unfold maxLen at hc hc2
  by_cases hlen : l.length = m.length
  rotate_left
  · have hfin : Hid (same l m = false) := same_ne (fun h => hlen (by rw [h]))
    have e0 : ((l.length : Int) != (m.length : Int)) = true := by simp; omega
    clear hr hr2 hf ha ha2 hlen
    go_enter Tryz.func122, Tryz.ntmps122
    go_wp2
    go_ret
    exact ⟨ret_bool hfin.out.symm, Below.refl _ _⟩
  have hfin1 : Hid (l.take l.length = m.take l.length → same l m = true) := fun h => same_eq (by rw [List.take_length, hlen, List.take_length] at h; exact h)
  have HL := Lib.hid hlen
  rw [← hlen]
  clear hr hr2 hlen
  go_enter Tryz.func122, Tryz.ntmps122
  go_wp2
  go_loopw [17] (fun i wr => ∃ (k : Nat), k ≤ l.length ∧ i = .int .i64 k ∧ Hid (l.take k = m.take k) ∧ Below w.heap.size w wr) (fun i _ => l.length - (intOf i).toNat)
  case atStart => exact ⟨0, Nat.zero_le _, rfl, by show _ = _; rw [List.take_zero, List.take_zero], Below.refl _ _⟩
  case round =>
    obtain ⟨k, hk, rfl, hq, hB⟩ := hrel
    by_cases hlt : k < l.length
    · have hlt2 : k < m.length := by have := HL.out; omega
      obtain ⟨b, off, rfl, hFb, hel⟩ := ha (by omega)
      obtain ⟨b2, off2, rfl, hFb2, hel2⟩ := ha2 (by omega)
      obtain ⟨cs, hx, -, hcell⟩ := hel wr (hB.block b (hF b hFb)) k hlt
      obtain ⟨ds, hy, -, hdell⟩ := hel2 wr (hB.block b2 (hF b2 hFb2)) k hlt2
      have hxm := hf _ (List.getElem_mem hlt) _ (List.getElem_mem hlt2)
      obtain ⟨x, hxe⟩ : ∃ x, l[k] = x := ⟨_, rfl⟩
      obtain ⟨y, hye⟩ : ∃ y, m[k] = y := ⟨_, rfl⟩
      rw [hxe] at hx hxm
      rw [hye] at hy hxm
      have hx2 := hx
      have hy2 := hy
      obtain ⟨va0, rfl, ka0⟩ := hx2
      obtain ⟨da0, fa0, rfl⟩ := ka0.shape
      obtain ⟨vb0, rfl, kb0⟩ := hy2
      obtain ⟨db0, fb0, rfl⟩ := kb0.shape
      have g0 := hcell 0 _ rfl
      have h0 := hdell 0 _ rfl
      simp only [Nat.add_zero, Nat.mul_one] at g0 h0
      have hcall : Calls Tryz.prog f (#[.slice da0 x.length fa0, .slice db0 y.length fb0] ++ caps) wr (Gives wr (.bool (same x y))) :=
        hxm _ [.slice da0 x.length fa0] [.slice db0 y.length fb0] hB (Holds.below _ hx hF hB (Nat.le_refl _)) (Holds.below _ hy hF hB (Nat.le_refl _))
      have hki : (k : Int) < (l.length : Int) := by omega
      have hki0 : (0 : Int) ≤ (k : Int) := by omega
      have hkc : (l.length : Int) ≤ (cap2 : Int) := by have := HL.out; omega
      have hnx0 : Hid (x = y → l.take (k + 1) = m.take (k + 1)) := fun h => take_same hq.out hlt hlt2 (by rw [hxe, hye, h])
      have hno : Hid (x ≠ y → same l m = false) := fun h => same_ne (fun e => h (by subst e; rw [← hxe, ← hye]))
      clear ha ha2 hel hel2 hcell hdell hx hy hf hxm hxe hye
      by_cases hP : x = y
      · rw [same_eq hP] at hcall
        have hnx := Lib.hid (hnx0.out hP)
        have HC := Lib.hid hcall
        clear hcall hP hq hnx0 hno
        go_wp2_with ((with_reducible refine HC.out.mono ?_); rintro e w' ⟨rfl, hb⟩)
        go_roundw
        case rel => exact ⟨k + 1, by omega, by go_num, hnx.out, bt hB hb⟩
        case measure => simp [intOf]; omega
      · rw [same_ne hP] at hcall
        have hfin := Lib.hid (hno.out hP)
        have HC := Lib.hid hcall
        clear hcall hP hq hnx0 hno
        go_wp2_with ((with_reducible refine HC.out.mono ?_); rintro e w' ⟨rfl, hb⟩)
        go_ret
        exact ⟨ret_bool hfin.out.symm, bt hB hb⟩
    · have : k = l.length := by omega
      subst this
      have hfin := Lib.hid (hfin1.out hq.out)
      have hki : decide ((l.length : Int) < (l.length : Int)) = false := by simp
      clear hq hf ha ha2 hfin1
      go_wp2
      go_ret
      exact ⟨ret_bool hfin.out.symm, hB⟩
set_option maxRecDepth 100000 in
set_option maxHeartbeats 1000000 in
theorem eqfObject_calls (F : Nat → Prop) (w : World) (f : Nat) (caps : Array Value) (l m : List (ObjD)) (v u : Value) (hF : Inn F w) (hr : RdL Holds.obj 10 F w l v) (hr2 : RdL Holds.obj 10 F w m u) (hcf : ∀ (args : Array Value) (w : World), (callFunc f args).run Tryz.prog w = .ok (.enter f args) w) (hf : ∀ x ∈ l, ∀ y ∈ m, Asks2 Holds.obj aggA F w f caps x y (same x y)) :
    Calls Tryz.prog 47 #[v, u, .func (.func f) #[] caps] w (Gives w (.bool (same l m))) := by
  obtain ⟨a, cap, rfl, hl, hc, ha⟩ := hr.opn
  obtain ⟨a2, cap2, rfl, hl2, hc2, ha2⟩ := hr2.opn
  unfold maxLen at hc hc2
  by_cases hlen : l.length = m.length
  rotate_left
  · have hfin : Hid (same l m = false) := same_ne (fun h => hlen (by rw [h]))
    have e0 : ((l.length : Int) != (m.length : Int)) = true := by simp; omega
    clear hr hr2 hf ha ha2 hlen
    go_enter Tryz.func47, Tryz.ntmps47
    go_wp2
    go_ret
    exact ⟨ret_bool hfin.out.symm, Below.refl _ _⟩
  have hfin1 : Hid (l.take l.length = m.take l.length → same l m = true) := fun h => same_eq (by rw [List.take_length, hlen, List.take_length] at h; exact h)
  have HL := Lib.hid hlen
  rw [← hlen]
  clear hr hr2 hlen
  go_enter Tryz.func47, Tryz.ntmps47
  go_wp2
  go_loopw [17] (fun i wr => ∃ (k : Nat), k ≤ l.length ∧ i = .int .i64 k ∧ Hid (l.take k = m.take k) ∧ Below w.heap.size w wr) (fun i _ => l.length - (intOf i).toNat)
  case atStart => exact ⟨0, Nat.zero_le _, rfl, by show _ = _; rw [List.take_zero, List.take_zero], Below.refl _ _⟩
  case round =>
    obtain ⟨k, hk, rfl, hq, hB⟩ := hrel
    by_cases hlt : k < l.length
    · have hlt2 : k < m.length := by have := HL.out; omega
      obtain ⟨b, off, rfl, hFb, hel⟩ := ha (by omega)
      obtain ⟨b2, off2, rfl, hFb2, hel2⟩ := ha2 (by omega)
      obtain ⟨cs, hx, -, hcell⟩ := hel wr (hB.block b (hF b hFb)) k hlt
      obtain ⟨ds, hy, -, hdell⟩ := hel2 wr (hB.block b2 (hF b2 hFb2)) k hlt2
      have hxm := hf _ (List.getElem_mem hlt) _ (List.getElem_mem hlt2)
      obtain ⟨x, hxe⟩ : ∃ x, l[k] = x := ⟨_, rfl⟩
      obtain ⟨y, hye⟩ : ∃ y, m[k] = y := ⟨_, rfl⟩
      rw [hxe] at hx hxm
      rw [hye] at hy hxm
      have hx2 := hx
      have hy2 := hy
      obtain ⟨-, -, -, -, va5, va6, va7, va8, va9, rfl, ka5, ka6, ka7, ka8, ka9⟩ := hx2
      obtain ⟨da5, fa5, rfl⟩ := ka5.shape
      obtain ⟨da6, fa6, rfl⟩ := ka6.shape
      obtain ⟨da7, fa7, rfl⟩ := ka7.shape
      obtain ⟨da8, fa8, rfl⟩ := ka8.shape
      obtain ⟨da9, fa9, rfl⟩ := ka9.shape
      obtain ⟨-, -, -, -, vb5, vb6, vb7, vb8, vb9, rfl, kb5, kb6, kb7, kb8, kb9⟩ := hy2
      obtain ⟨db5, fb5, rfl⟩ := kb5.shape
      obtain ⟨db6, fb6, rfl⟩ := kb6.shape
      obtain ⟨db7, fb7, rfl⟩ := kb7.shape
      obtain ⟨db8, fb8, rfl⟩ := kb8.shape
      obtain ⟨db9, fb9, rfl⟩ := kb9.shape
      have g0 := hcell 0 _ rfl
      have g1 := hcell 1 _ rfl
      have g2 := hcell 2 _ rfl
      have g3 := hcell 3 _ rfl
      have g4 := hcell 4 _ rfl
      have g5 := hcell 5 _ rfl
      have g6 := hcell 6 _ rfl
      have g7 := hcell 7 _ rfl
      have g8 := hcell 8 _ rfl
      have g9 := hcell 9 _ rfl
      have h0 := hdell 0 _ rfl
      have h1 := hdell 1 _ rfl
      have h2 := hdell 2 _ rfl
      have h3 := hdell 3 _ rfl
      have h4 := hdell 4 _ rfl
      have h5 := hdell 5 _ rfl
      have h6 := hdell 6 _ rfl
      have h7 := hdell 7 _ rfl
      have h8 := hdell 8 _ rfl
      have h9 := hdell 9 _ rfl
      simp only [Nat.add_zero] at g0 h0
      have hcall : Calls Tryz.prog f (#[.agg #[.string x.name, .string x.title, .string x.inn, .string x.text, .bool x.room, .slice da5 x.words.length fa5, .slice da6 x.adjs.length fa6, .slice da7 x.flags.length fa7, .slice da8 x.props.length fa8, .slice da9 x.exits.length fa9], .agg #[.string y.name, .string y.title, .string y.inn, .string y.text, .bool y.room, .slice db5 y.words.length fb5, .slice db6 y.adjs.length fb6, .slice db7 y.flags.length fb7, .slice db8 y.props.length fb8, .slice db9 y.exits.length fb9]] ++ caps) ((wr.alloc (.cells #[.string x.name, .string x.title, .string x.inn, .string x.text, .bool x.room, .slice da5 x.words.length fa5, .slice da6 x.adjs.length fa6, .slice da7 x.flags.length fa7, .slice da8 x.props.length fa8, .slice da9 x.exits.length fa9] 55)).alloc (.cells #[.string y.name, .string y.title, .string y.inn, .string y.text, .bool y.room, .slice db5 y.words.length fb5, .slice db6 y.adjs.length fb6, .slice db7 y.flags.length fb7, .slice db8 y.props.length fb8, .slice db9 y.exits.length fb9] 55)) (Gives ((wr.alloc (.cells #[.string x.name, .string x.title, .string x.inn, .string x.text, .bool x.room, .slice da5 x.words.length fa5, .slice da6 x.adjs.length fa6, .slice da7 x.flags.length fa7, .slice da8 x.props.length fa8, .slice da9 x.exits.length fa9] 55)).alloc (.cells #[.string y.name, .string y.title, .string y.inn, .string y.text, .bool y.room, .slice db5 y.words.length fb5, .slice db6 y.adjs.length fb6, .slice db7 y.flags.length fb7, .slice db8 y.props.length fb8, .slice db9 y.exits.length fb9] 55)) (.bool (same x y))) :=
        hxm _ [.string x.name, .string x.title, .string x.inn, .string x.text, .bool x.room, .slice da5 x.words.length fa5, .slice da6 x.adjs.length fa6, .slice da7 x.flags.length fa7, .slice da8 x.props.length fa8, .slice da9 x.exits.length fa9] [.string y.name, .string y.title, .string y.inn, .string y.text, .bool y.room, .slice db5 y.words.length fb5, .slice db6 y.adjs.length fb6, .slice db7 y.flags.length fb7, .slice db8 y.props.length fb8, .slice db9 y.exits.length fb9] ((hB.alloc hB.size _).alloc (Nat.le_trans hB.size (by simp)) _) (Holds.below _ hx hF ((hB.alloc hB.size _).alloc (Nat.le_trans hB.size (by simp)) _) (Nat.le_refl _)) (Holds.below _ hy hF ((hB.alloc hB.size _).alloc (Nat.le_trans hB.size (by simp)) _) (Nat.le_refl _))
      have h0a := cell_al h0 (.cells #[.string x.name, .string x.title, .string x.inn, .string x.text, .bool x.room, .slice da5 x.words.length fa5, .slice da6 x.adjs.length fa6, .slice da7 x.flags.length fa7, .slice da8 x.props.length fa8, .slice da9 x.exits.length fa9] 55)
      have h1a := cell_al h1 (.cells #[.string x.name, .string x.title, .string x.inn, .string x.text, .bool x.room, .slice da5 x.words.length fa5, .slice da6 x.adjs.length fa6, .slice da7 x.flags.length fa7, .slice da8 x.props.length fa8, .slice da9 x.exits.length fa9] 55)
      have h2a := cell_al h2 (.cells #[.string x.name, .string x.title, .string x.inn, .string x.text, .bool x.room, .slice da5 x.words.length fa5, .slice da6 x.adjs.length fa6, .slice da7 x.flags.length fa7, .slice da8 x.props.length fa8, .slice da9 x.exits.length fa9] 55)
      have h3a := cell_al h3 (.cells #[.string x.name, .string x.title, .string x.inn, .string x.text, .bool x.room, .slice da5 x.words.length fa5, .slice da6 x.adjs.length fa6, .slice da7 x.flags.length fa7, .slice da8 x.props.length fa8, .slice da9 x.exits.length fa9] 55)
      have h4a := cell_al h4 (.cells #[.string x.name, .string x.title, .string x.inn, .string x.text, .bool x.room, .slice da5 x.words.length fa5, .slice da6 x.adjs.length fa6, .slice da7 x.flags.length fa7, .slice da8 x.props.length fa8, .slice da9 x.exits.length fa9] 55)
      have h5a := cell_al h5 (.cells #[.string x.name, .string x.title, .string x.inn, .string x.text, .bool x.room, .slice da5 x.words.length fa5, .slice da6 x.adjs.length fa6, .slice da7 x.flags.length fa7, .slice da8 x.props.length fa8, .slice da9 x.exits.length fa9] 55)
      have h6a := cell_al h6 (.cells #[.string x.name, .string x.title, .string x.inn, .string x.text, .bool x.room, .slice da5 x.words.length fa5, .slice da6 x.adjs.length fa6, .slice da7 x.flags.length fa7, .slice da8 x.props.length fa8, .slice da9 x.exits.length fa9] 55)
      have h7a := cell_al h7 (.cells #[.string x.name, .string x.title, .string x.inn, .string x.text, .bool x.room, .slice da5 x.words.length fa5, .slice da6 x.adjs.length fa6, .slice da7 x.flags.length fa7, .slice da8 x.props.length fa8, .slice da9 x.exits.length fa9] 55)
      have h8a := cell_al h8 (.cells #[.string x.name, .string x.title, .string x.inn, .string x.text, .bool x.room, .slice da5 x.words.length fa5, .slice da6 x.adjs.length fa6, .slice da7 x.flags.length fa7, .slice da8 x.props.length fa8, .slice da9 x.exits.length fa9] 55)
      have h9a := cell_al h9 (.cells #[.string x.name, .string x.title, .string x.inn, .string x.text, .bool x.room, .slice da5 x.words.length fa5, .slice da6 x.adjs.length fa6, .slice da7 x.flags.length fa7, .slice da8 x.props.length fa8, .slice da9 x.exits.length fa9] 55)
      have hki : (k : Int) < (l.length : Int) := by omega
      have hki0 : (0 : Int) ≤ (k : Int) := by omega
      have hkc : (l.length : Int) ≤ (cap2 : Int) := by have := HL.out; omega
      have hnx0 : Hid (x = y → l.take (k + 1) = m.take (k + 1)) := fun h => take_same hq.out hlt hlt2 (by rw [hxe, hye, h])
      have hno : Hid (x ≠ y → same l m = false) := fun h => same_ne (fun e => h (by subst e; rw [← hxe, ← hye]))
      clear ha ha2 hel hel2 hcell hdell hx hy hf hxm hxe hye
      by_cases hP : x = y
      · rw [same_eq hP] at hcall
        have hnx := Lib.hid (hnx0.out hP)
        have HC := Lib.hid hcall
        clear hcall hP hq hnx0 hno
        go_wp2_with ((with_reducible refine HC.out.mono ?_); rintro e w' ⟨rfl, hb⟩)
        have hbw : Below wr.heap.size wr w' := (((Below.refl _ wr).alloc (Nat.le_refl _) _).alloc (by simp) _).trans (hb.mono (by simp; omega))
        go_roundw
        case rel => exact ⟨k + 1, by omega, by go_num, hnx.out, bt hB hbw⟩
        case measure => simp [intOf]; omega
      · rw [same_ne hP] at hcall
        have hfin := Lib.hid (hno.out hP)
        have HC := Lib.hid hcall
        clear hcall hP hq hnx0 hno
        go_wp2_with ((with_reducible refine HC.out.mono ?_); rintro e w' ⟨rfl, hb⟩)
        have hbw : Below wr.heap.size wr w' := (((Below.refl _ wr).alloc (Nat.le_refl _) _).alloc (by simp) _).trans (hb.mono (by simp; omega))
        go_ret
        exact ⟨ret_bool hfin.out.symm, bt hB hbw⟩
    · have : k = l.length := by omega
      subst this
      have hfin := Lib.hid (hfin1.out hq.out)
      have hki : decide ((l.length : Int) < (l.length : Int)) = false := by simp
      clear hq hf ha ha2 hfin1
      go_wp2
      go_ret
      exact ⟨ret_bool hfin.out.symm, hB⟩
set_option maxRecDepth 100000 in
set_option maxHeartbeats 1000000 in
theorem eqfVerb_calls (F : Nat → Prop) (w : World) (f : Nat) (caps : Array Value) (l m : List (VerbD)) (v u : Value) (hF : Inn F w) (hr : RdL Holds.verb 3 F w l v) (hr2 : RdL Holds.verb 3 F w m u) (hcf : ∀ (args : Array Value) (w : World), (callFunc f args).run Tryz.prog w = .ok (.enter f args) w) (hf : ∀ x ∈ l, ∀ y ∈ m, Asks2 Holds.verb aggA F w f caps x y (same x y)) :
    Calls Tryz.prog 49 #[v, u, .func (.func f) #[] caps] w (Gives w (.bool (same l m))) := by
  obtain ⟨a, cap, rfl, hl, hc, ha⟩ := hr.opn
  obtain ⟨a2, cap2, rfl, hl2, hc2, ha2⟩ := hr2.opn
  unfold maxLen at hc hc2
  by_cases hlen : l.length = m.length
  rotate_left
  · have hfin : Hid (same l m = false) := same_ne (fun h => hlen (by rw [h]))
    have e0 : ((l.length : Int) != (m.length : Int)) = true := by simp; omega
    clear hr hr2 hf ha ha2 hlen
    go_enter Tryz.func49, Tryz.ntmps49
    go_wp2
    go_ret
    exact ⟨ret_bool hfin.out.symm, Below.refl _ _⟩
  have hfin1 : Hid (l.take l.length = m.take l.length → same l m = true) := fun h => same_eq (by rw [List.take_length, hlen, List.take_length] at h; exact h)
  have HL := Lib.hid hlen
  rw [← hlen]
  clear hr hr2 hlen
  go_enter Tryz.func49, Tryz.ntmps49
  go_wp2
  go_loopw [17] (fun i wr => ∃ (k : Nat), k ≤ l.length ∧ i = .int .i64 k ∧ Hid (l.take k = m.take k) ∧ Below w.heap.size w wr) (fun i _ => l.length - (intOf i).toNat)
  case atStart => exact ⟨0, Nat.zero_le _, rfl, by show _ = _; rw [List.take_zero, List.take_zero], Below.refl _ _⟩
  case round =>
    obtain ⟨k, hk, rfl, hq, hB⟩ := hrel
    by_cases hlt : k < l.length
    · have hlt2 : k < m.length := by have := HL.out; omega
      obtain ⟨b, off, rfl, hFb, hel⟩ := ha (by omega)
      obtain ⟨b2, off2, rfl, hFb2, hel2⟩ := ha2 (by omega)
      obtain ⟨cs, hx, -, hcell⟩ := hel wr (hB.block b (hF b hFb)) k hlt
      obtain ⟨ds, hy, -, hdell⟩ := hel2 wr (hB.block b2 (hF b2 hFb2)) k hlt2
      have hxm := hf _ (List.getElem_mem hlt) _ (List.getElem_mem hlt2)
      obtain ⟨x, hxe⟩ : ∃ x, l[k] = x := ⟨_, rfl⟩
      obtain ⟨y, hye⟩ : ∃ y, m[k] = y := ⟨_, rfl⟩
      rw [hxe] at hx hxm
      rw [hye] at hy hxm
      have hx2 := hx
      have hy2 := hy
      obtain ⟨-, va2, rfl, ka2⟩ := hx2
      obtain ⟨da2, fa2, rfl⟩ := ka2.shape
      obtain ⟨-, vb2, rfl, kb2⟩ := hy2
      obtain ⟨db2, fb2, rfl⟩ := kb2.shape
      have g0 := hcell 0 _ rfl
      have g1 := hcell 1 _ rfl
      have g2 := hcell 2 _ rfl
      have h0 := hdell 0 _ rfl
      have h1 := hdell 1 _ rfl
      have h2 := hdell 2 _ rfl
      simp only [Nat.add_zero] at g0 h0
      have hcall : Calls Tryz.prog f (#[.agg #[.string x.name, .bool x.isMeta, .slice da2 x.lines.length fa2], .agg #[.string y.name, .bool y.isMeta, .slice db2 y.lines.length fb2]] ++ caps) ((wr.alloc (.cells #[.string x.name, .bool x.isMeta, .slice da2 x.lines.length fa2] 60)).alloc (.cells #[.string y.name, .bool y.isMeta, .slice db2 y.lines.length fb2] 60)) (Gives ((wr.alloc (.cells #[.string x.name, .bool x.isMeta, .slice da2 x.lines.length fa2] 60)).alloc (.cells #[.string y.name, .bool y.isMeta, .slice db2 y.lines.length fb2] 60)) (.bool (same x y))) :=
        hxm _ [.string x.name, .bool x.isMeta, .slice da2 x.lines.length fa2] [.string y.name, .bool y.isMeta, .slice db2 y.lines.length fb2] ((hB.alloc hB.size _).alloc (Nat.le_trans hB.size (by simp)) _) (Holds.below _ hx hF ((hB.alloc hB.size _).alloc (Nat.le_trans hB.size (by simp)) _) (Nat.le_refl _)) (Holds.below _ hy hF ((hB.alloc hB.size _).alloc (Nat.le_trans hB.size (by simp)) _) (Nat.le_refl _))
      have h0a := cell_al h0 (.cells #[.string x.name, .bool x.isMeta, .slice da2 x.lines.length fa2] 60)
      have h1a := cell_al h1 (.cells #[.string x.name, .bool x.isMeta, .slice da2 x.lines.length fa2] 60)
      have h2a := cell_al h2 (.cells #[.string x.name, .bool x.isMeta, .slice da2 x.lines.length fa2] 60)
      have hki : (k : Int) < (l.length : Int) := by omega
      have hki0 : (0 : Int) ≤ (k : Int) := by omega
      have hkc : (l.length : Int) ≤ (cap2 : Int) := by have := HL.out; omega
      have hnx0 : Hid (x = y → l.take (k + 1) = m.take (k + 1)) := fun h => take_same hq.out hlt hlt2 (by rw [hxe, hye, h])
      have hno : Hid (x ≠ y → same l m = false) := fun h => same_ne (fun e => h (by subst e; rw [← hxe, ← hye]))
      clear ha ha2 hel hel2 hcell hdell hx hy hf hxm hxe hye
      by_cases hP : x = y
      · rw [same_eq hP] at hcall
        have hnx := Lib.hid (hnx0.out hP)
        have HC := Lib.hid hcall
        clear hcall hP hq hnx0 hno
        go_wp2_with ((with_reducible refine HC.out.mono ?_); rintro e w' ⟨rfl, hb⟩)
        have hbw : Below wr.heap.size wr w' := (((Below.refl _ wr).alloc (Nat.le_refl _) _).alloc (by simp) _).trans (hb.mono (by simp; omega))
        go_roundw
        case rel => exact ⟨k + 1, by omega, by go_num, hnx.out, bt hB hbw⟩
        case measure => simp [intOf]; omega
      · rw [same_ne hP] at hcall
        have hfin := Lib.hid (hno.out hP)
        have HC := Lib.hid hcall
        clear hcall hP hq hnx0 hno
        go_wp2_with ((with_reducible refine HC.out.mono ?_); rintro e w' ⟨rfl, hb⟩)
        have hbw : Below wr.heap.size wr w' := (((Below.refl _ wr).alloc (Nat.le_refl _) _).alloc (by simp) _).trans (hb.mono (by simp; omega))
        go_ret
        exact ⟨ret_bool hfin.out.symm, bt hB hbw⟩
    · have : k = l.length := by omega
      subst this
      have hfin := Lib.hid (hfin1.out hq.out)
      have hki : decide ((l.length : Int) < (l.length : Int)) = false := by simp
      clear hq hf ha ha2 hfin1
      go_wp2
      go_ret
      exact ⟨ret_bool hfin.out.symm, hB⟩
set_option maxRecDepth 100000 in
set_option maxHeartbeats 1000000 in
theorem eqfRule_calls (F : Nat → Prop) (w : World) (f : Nat) (caps : Array Value) (l m : List (RuleD)) (v u : Value) (hF : Inn F w) (hr : RdL Holds.rule 6 F w l v) (hr2 : RdL Holds.rule 6 F w m u) (hcf : ∀ (args : Array Value) (w : World), (callFunc f args).run Tryz.prog w = .ok (.enter f args) w) (hf : ∀ x ∈ l, ∀ y ∈ m, Asks2 Holds.rule aggA F w f caps x y (same x y)) :
    Calls Tryz.prog 51 #[v, u, .func (.func f) #[] caps] w (Gives w (.bool (same l m))) := by
  obtain ⟨a, cap, rfl, hl, hc, ha⟩ := hr.opn
  obtain ⟨a2, cap2, rfl, hl2, hc2, ha2⟩ := hr2.opn
  unfold maxLen at hc hc2
  by_cases hlen : l.length = m.length
  rotate_left
  · have hfin : Hid (same l m = false) := same_ne (fun h => hlen (by rw [h]))
    have e0 : ((l.length : Int) != (m.length : Int)) = true := by simp; omega
    clear hr hr2 hf ha ha2 hlen
    go_enter Tryz.func51, Tryz.ntmps51
    go_wp2
    go_ret
    exact ⟨ret_bool hfin.out.symm, Below.refl _ _⟩
  have hfin1 : Hid (l.take l.length = m.take l.length → same l m = true) := fun h => same_eq (by rw [List.take_length, hlen, List.take_length] at h; exact h)
  have HL := Lib.hid hlen
  rw [← hlen]
  clear hr hr2 hlen
  go_enter Tryz.func51, Tryz.ntmps51
  go_wp2
  go_loopw [17] (fun i wr => ∃ (k : Nat), k ≤ l.length ∧ i = .int .i64 k ∧ Hid (l.take k = m.take k) ∧ Below w.heap.size w wr) (fun i _ => l.length - (intOf i).toNat)
  case atStart => exact ⟨0, Nat.zero_le _, rfl, by show _ = _; rw [List.take_zero, List.take_zero], Below.refl _ _⟩
  case round =>
    obtain ⟨k, hk, rfl, hq, hB⟩ := hrel
    by_cases hlt : k < l.length
    · have hlt2 : k < m.length := by have := HL.out; omega
      obtain ⟨b, off, rfl, hFb, hel⟩ := ha (by omega)
      obtain ⟨b2, off2, rfl, hFb2, hel2⟩ := ha2 (by omega)
      obtain ⟨cs, hx, -, hcell⟩ := hel wr (hB.block b (hF b hFb)) k hlt
      obtain ⟨ds, hy, -, hdell⟩ := hel2 wr (hB.block b2 (hF b2 hFb2)) k hlt2
      have hxm := hf _ (List.getElem_mem hlt) _ (List.getElem_mem hlt2)
      obtain ⟨x, hxe⟩ : ∃ x, l[k] = x := ⟨_, rfl⟩
      obtain ⟨y, hye⟩ : ∃ y, m[k] = y := ⟨_, rfl⟩
      rw [hxe] at hx hxm
      rw [hye] at hy hxm
      have hx2 := hx
      have hy2 := hy
      obtain ⟨-, -, -, -, va4, va5, rfl, ka4, ka5⟩ := hx2
      obtain ⟨da4, fa4, rfl⟩ := ka4.shape
      obtain ⟨da5, fa5, rfl⟩ := ka5.shape
      obtain ⟨-, -, -, -, vb4, vb5, rfl, kb4, kb5⟩ := hy2
      obtain ⟨db4, fb4, rfl⟩ := kb4.shape
      obtain ⟨db5, fb5, rfl⟩ := kb5.shape
      have g0 := hcell 0 _ rfl
      have g1 := hcell 1 _ rfl
      have g2 := hcell 2 _ rfl
      have g3 := hcell 3 _ rfl
      have g4 := hcell 4 _ rfl
      have g5 := hcell 5 _ rfl
      have h0 := hdell 0 _ rfl
      have h1 := hdell 1 _ rfl
      have h2 := hdell 2 _ rfl
      have h3 := hdell 3 _ rfl
      have h4 := hdell 4 _ rfl
      have h5 := hdell 5 _ rfl
      simp only [Nat.add_zero] at g0 h0
      have hcall : Calls Tryz.prog f (#[.agg #[.string x.verb, .int .i64 x.phase, .string x.noun, .string x.second, .slice da4 x.cond.length fa4, .slice da5 x.body.length fa5], .agg #[.string y.verb, .int .i64 y.phase, .string y.noun, .string y.second, .slice db4 y.cond.length fb4, .slice db5 y.body.length fb5]] ++ caps) ((wr.alloc (.cells #[.string x.verb, .int .i64 x.phase, .string x.noun, .string x.second, .slice da4 x.cond.length fa4, .slice da5 x.body.length fa5] 42)).alloc (.cells #[.string y.verb, .int .i64 y.phase, .string y.noun, .string y.second, .slice db4 y.cond.length fb4, .slice db5 y.body.length fb5] 42)) (Gives ((wr.alloc (.cells #[.string x.verb, .int .i64 x.phase, .string x.noun, .string x.second, .slice da4 x.cond.length fa4, .slice da5 x.body.length fa5] 42)).alloc (.cells #[.string y.verb, .int .i64 y.phase, .string y.noun, .string y.second, .slice db4 y.cond.length fb4, .slice db5 y.body.length fb5] 42)) (.bool (same x y))) :=
        hxm _ [.string x.verb, .int .i64 x.phase, .string x.noun, .string x.second, .slice da4 x.cond.length fa4, .slice da5 x.body.length fa5] [.string y.verb, .int .i64 y.phase, .string y.noun, .string y.second, .slice db4 y.cond.length fb4, .slice db5 y.body.length fb5] ((hB.alloc hB.size _).alloc (Nat.le_trans hB.size (by simp)) _) (Holds.below _ hx hF ((hB.alloc hB.size _).alloc (Nat.le_trans hB.size (by simp)) _) (Nat.le_refl _)) (Holds.below _ hy hF ((hB.alloc hB.size _).alloc (Nat.le_trans hB.size (by simp)) _) (Nat.le_refl _))
      have h0a := cell_al h0 (.cells #[.string x.verb, .int .i64 x.phase, .string x.noun, .string x.second, .slice da4 x.cond.length fa4, .slice da5 x.body.length fa5] 42)
      have h1a := cell_al h1 (.cells #[.string x.verb, .int .i64 x.phase, .string x.noun, .string x.second, .slice da4 x.cond.length fa4, .slice da5 x.body.length fa5] 42)
      have h2a := cell_al h2 (.cells #[.string x.verb, .int .i64 x.phase, .string x.noun, .string x.second, .slice da4 x.cond.length fa4, .slice da5 x.body.length fa5] 42)
      have h3a := cell_al h3 (.cells #[.string x.verb, .int .i64 x.phase, .string x.noun, .string x.second, .slice da4 x.cond.length fa4, .slice da5 x.body.length fa5] 42)
      have h4a := cell_al h4 (.cells #[.string x.verb, .int .i64 x.phase, .string x.noun, .string x.second, .slice da4 x.cond.length fa4, .slice da5 x.body.length fa5] 42)
      have h5a := cell_al h5 (.cells #[.string x.verb, .int .i64 x.phase, .string x.noun, .string x.second, .slice da4 x.cond.length fa4, .slice da5 x.body.length fa5] 42)
      have hki : (k : Int) < (l.length : Int) := by omega
      have hki0 : (0 : Int) ≤ (k : Int) := by omega
      have hkc : (l.length : Int) ≤ (cap2 : Int) := by have := HL.out; omega
      have hnx0 : Hid (x = y → l.take (k + 1) = m.take (k + 1)) := fun h => take_same hq.out hlt hlt2 (by rw [hxe, hye, h])
      have hno : Hid (x ≠ y → same l m = false) := fun h => same_ne (fun e => h (by subst e; rw [← hxe, ← hye]))
      clear ha ha2 hel hel2 hcell hdell hx hy hf hxm hxe hye
      by_cases hP : x = y
      · rw [same_eq hP] at hcall
        have hnx := Lib.hid (hnx0.out hP)
        have HC := Lib.hid hcall
        clear hcall hP hq hnx0 hno
        go_wp2_with ((with_reducible refine HC.out.mono ?_); rintro e w' ⟨rfl, hb⟩)
        have hbw : Below wr.heap.size wr w' := (((Below.refl _ wr).alloc (Nat.le_refl _) _).alloc (by simp) _).trans (hb.mono (by simp; omega))
        go_roundw
        case rel => exact ⟨k + 1, by omega, by go_num, hnx.out, bt hB hbw⟩
        case measure => simp [intOf]; omega
      · rw [same_ne hP] at hcall
        have hfin := Lib.hid (hno.out hP)
        have HC := Lib.hid hcall
        clear hcall hP hq hnx0 hno
        go_wp2_with ((with_reducible refine HC.out.mono ?_); rintro e w' ⟨rfl, hb⟩)
        have hbw : Below wr.heap.size wr w' := (((Below.refl _ wr).alloc (Nat.le_refl _) _).alloc (by simp) _).trans (hb.mono (by simp; omega))
        go_ret
        exact ⟨ret_bool hfin.out.symm, bt hB hbw⟩
    · have : k = l.length := by omega
      subst this
      have hfin := Lib.hid (hfin1.out hq.out)
      have hki : decide ((l.length : Int) < (l.length : Int)) = false := by simp
      clear hq hf ha ha2 hfin1
      go_wp2
      go_ret
      exact ⟨ret_bool hfin.out.symm, hB⟩
set_option maxRecDepth 100000 in
set_option maxHeartbeats 1000000 in
theorem eqfFunc_calls (F : Nat → Prop) (w : World) (f : Nat) (caps : Array Value) (l m : List (FuncD)) (v u : Value) (hF : Inn F w) (hr : RdL Holds.fnc 3 F w l v) (hr2 : RdL Holds.fnc 3 F w m u) (hcf : ∀ (args : Array Value) (w : World), (callFunc f args).run Tryz.prog w = .ok (.enter f args) w) (hf : ∀ x ∈ l, ∀ y ∈ m, Asks2 Holds.fnc aggA F w f caps x y (same x y)) :
    Calls Tryz.prog 52 #[v, u, .func (.func f) #[] caps] w (Gives w (.bool (same l m))) := by
  obtain ⟨a, cap, rfl, hl, hc, ha⟩ := hr.opn
  obtain ⟨a2, cap2, rfl, hl2, hc2, ha2⟩ := hr2.opn
  unfold maxLen at hc hc2
  by_cases hlen : l.length = m.length
  rotate_left
  · have hfin : Hid (same l m = false) := same_ne (fun h => hlen (by rw [h]))
    have e0 : ((l.length : Int) != (m.length : Int)) = true := by simp; omega
    clear hr hr2 hf ha ha2 hlen
    go_enter Tryz.func52, Tryz.ntmps52
    go_wp2
    go_ret
    exact ⟨ret_bool hfin.out.symm, Below.refl _ _⟩
  have hfin1 : Hid (l.take l.length = m.take l.length → same l m = true) := fun h => same_eq (by rw [List.take_length, hlen, List.take_length] at h; exact h)
  have HL := Lib.hid hlen
  rw [← hlen]
  clear hr hr2 hlen
  go_enter Tryz.func52, Tryz.ntmps52
  go_wp2
  go_loopw [17] (fun i wr => ∃ (k : Nat), k ≤ l.length ∧ i = .int .i64 k ∧ Hid (l.take k = m.take k) ∧ Below w.heap.size w wr) (fun i _ => l.length - (intOf i).toNat)
  case atStart => exact ⟨0, Nat.zero_le _, rfl, by show _ = _; rw [List.take_zero, List.take_zero], Below.refl _ _⟩
  case round =>
    obtain ⟨k, hk, rfl, hq, hB⟩ := hrel
    by_cases hlt : k < l.length
    · have hlt2 : k < m.length := by have := HL.out; omega
      obtain ⟨b, off, rfl, hFb, hel⟩ := ha (by omega)
      obtain ⟨b2, off2, rfl, hFb2, hel2⟩ := ha2 (by omega)
      obtain ⟨cs, hx, -, hcell⟩ := hel wr (hB.block b (hF b hFb)) k hlt
      obtain ⟨ds, hy, -, hdell⟩ := hel2 wr (hB.block b2 (hF b2 hFb2)) k hlt2
      have hxm := hf _ (List.getElem_mem hlt) _ (List.getElem_mem hlt2)
      obtain ⟨x, hxe⟩ : ∃ x, l[k] = x := ⟨_, rfl⟩
      obtain ⟨y, hye⟩ : ∃ y, m[k] = y := ⟨_, rfl⟩
      rw [hxe] at hx hxm
      rw [hye] at hy hxm
      have hx2 := hx
      have hy2 := hy
      obtain ⟨-, va1, va2, rfl, ka1, ka2⟩ := hx2
      obtain ⟨da1, fa1, rfl⟩ := ka1.shape
      obtain ⟨da2, fa2, rfl⟩ := ka2.shape
      obtain ⟨-, vb1, vb2, rfl, kb1, kb2⟩ := hy2
      obtain ⟨db1, fb1, rfl⟩ := kb1.shape
      obtain ⟨db2, fb2, rfl⟩ := kb2.shape
      have g0 := hcell 0 _ rfl
      have g1 := hcell 1 _ rfl
      have g2 := hcell 2 _ rfl
      have h0 := hdell 0 _ rfl
      have h1 := hdell 1 _ rfl
      have h2 := hdell 2 _ rfl
      simp only [Nat.add_zero] at g0 h0
      have hcall : Calls Tryz.prog f (#[.agg #[.string x.name, .slice da1 x.params.length fa1, .slice da2 x.body.length fa2], .agg #[.string y.name, .slice db1 y.params.length fb1, .slice db2 y.body.length fb2]] ++ caps) ((wr.alloc (.cells #[.string x.name, .slice da1 x.params.length fa1, .slice da2 x.body.length fa2] 44)).alloc (.cells #[.string y.name, .slice db1 y.params.length fb1, .slice db2 y.body.length fb2] 44)) (Gives ((wr.alloc (.cells #[.string x.name, .slice da1 x.params.length fa1, .slice da2 x.body.length fa2] 44)).alloc (.cells #[.string y.name, .slice db1 y.params.length fb1, .slice db2 y.body.length fb2] 44)) (.bool (same x y))) :=
        hxm _ [.string x.name, .slice da1 x.params.length fa1, .slice da2 x.body.length fa2] [.string y.name, .slice db1 y.params.length fb1, .slice db2 y.body.length fb2] ((hB.alloc hB.size _).alloc (Nat.le_trans hB.size (by simp)) _) (Holds.below _ hx hF ((hB.alloc hB.size _).alloc (Nat.le_trans hB.size (by simp)) _) (Nat.le_refl _)) (Holds.below _ hy hF ((hB.alloc hB.size _).alloc (Nat.le_trans hB.size (by simp)) _) (Nat.le_refl _))
      have h0a := cell_al h0 (.cells #[.string x.name, .slice da1 x.params.length fa1, .slice da2 x.body.length fa2] 44)
      have h1a := cell_al h1 (.cells #[.string x.name, .slice da1 x.params.length fa1, .slice da2 x.body.length fa2] 44)
      have h2a := cell_al h2 (.cells #[.string x.name, .slice da1 x.params.length fa1, .slice da2 x.body.length fa2] 44)
      have hki : (k : Int) < (l.length : Int) := by omega
      have hki0 : (0 : Int) ≤ (k : Int) := by omega
      have hkc : (l.length : Int) ≤ (cap2 : Int) := by have := HL.out; omega
      have hnx0 : Hid (x = y → l.take (k + 1) = m.take (k + 1)) := fun h => take_same hq.out hlt hlt2 (by rw [hxe, hye, h])
      have hno : Hid (x ≠ y → same l m = false) := fun h => same_ne (fun e => h (by subst e; rw [← hxe, ← hye]))
      clear ha ha2 hel hel2 hcell hdell hx hy hf hxm hxe hye
      by_cases hP : x = y
      · rw [same_eq hP] at hcall
        have hnx := Lib.hid (hnx0.out hP)
        have HC := Lib.hid hcall
        clear hcall hP hq hnx0 hno
        go_wp2_with ((with_reducible refine HC.out.mono ?_); rintro e w' ⟨rfl, hb⟩)
        have hbw : Below wr.heap.size wr w' := (((Below.refl _ wr).alloc (Nat.le_refl _) _).alloc (by simp) _).trans (hb.mono (by simp; omega))
        go_roundw
        case rel => exact ⟨k + 1, by omega, by go_num, hnx.out, bt hB hbw⟩
        case measure => simp [intOf]; omega
      · rw [same_ne hP] at hcall
        have hfin := Lib.hid (hno.out hP)
        have HC := Lib.hid hcall
        clear hcall hP hq hnx0 hno
        go_wp2_with ((with_reducible refine HC.out.mono ?_); rintro e w' ⟨rfl, hb⟩)
        have hbw : Below wr.heap.size wr w' := (((Below.refl _ wr).alloc (Nat.le_refl _) _).alloc (by simp) _).trans (hb.mono (by simp; omega))
        go_ret
        exact ⟨ret_bool hfin.out.symm, bt hB hbw⟩
    · have : k = l.length := by omega
      subst this
      have hfin := Lib.hid (hfin1.out hq.out)
      have hki : decide ((l.length : Int) < (l.length : Int)) = false := by simp
      clear hq hf ha ha2 hfin1
      go_wp2
      go_ret
      exact ⟨ret_bool hfin.out.symm, hB⟩
end Go.Proofs.YtmabeegoapcfpaaGreatDoor
