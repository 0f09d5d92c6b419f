/- The walks of tree.deep, tree.Depth, clewref10.Depth and clewref10.greater. -/
import Derived.Test.YtmabeegoapcfpaaGreatDoorQPartd8fdc15c
namespace Go.Proofs.YtmabeegoapcfpaaGreatDoor
open Go.RowKit
def DeepTC (e : Ex) : Prop := ∀ (F : Nat → Prop) (w : World) (cs : List Value) (m : Nat), Inn F w → m ≤ 1000 → RdEx F w e cs →
    Calls Tryz.prog 196 #[.agg cs.toArray, .int .i64 m] w (Gives w (.int .i64 (min e.depth (m + 1) : Nat)))
theorem cell_kept {w wr : World} {o : Obj} {j : Nat} {v : Value} (hB : Below (w.heap.size + 1) (w.alloc o) wr) (h : (w.alloc o).cell? ⟨w.heap.size, j, none⟩ = some v) : wr.cell? ⟨w.heap.size, j, none⟩ = some v := by
  rw [hB.cell (by simp)]; exact h
theorem below_of_alloc {w wr : World} {o : Obj} (hB : Below (w.heap.size + 1) (w.alloc o) wr) : Below w.heap.size w wr := ((Below.refl _ _).alloc (Nat.le_refl _) o).trans (hB.mono (by omega))
set_option maxHeartbeats 1000000 in
theorem deepT_calls (e : Ex) : DeepTC e := by
  induction e using Ex.ind with
  | h kd o n s args ih =>
  intro F w cs m hF hm1 hr
  obtain ⟨h1, h2, h3, h4, v, c, rfl, hsl, hrow⟩ := hr
  obtain ⟨a, cap, rfl, hl, hc, ha⟩ := hsl
  unfold maxLen at hc
  by_cases hm : m = 0
  · subst hm
    by_cases h0 : 0 < args.length
    all_goals
      go_enter Tryz.func196, Tryz.ntmps196
      go_wp2
      refine wp_loop_rounds 1 ?_
      rw [rounds_succ]
      go_wp2
      go_ret
      exact ⟨ret_int (by simp only [Ex.depth]; omega), (Below.refl _ _).alloc (Nat.le_refl _) _⟩
  have hm2 : 0 < m := by omega
  clear hm
  have hm3 : (0 : Int) < (m : Int) := by omega
  go_enter Tryz.func196, Tryz.ntmps196
  go_wp2
  go_loopw [5, 6] (fun t i wr => ∃ (k : Nat), k ≤ args.length ∧ i = .int .i64 k ∧ t = .int .i64 (min (1 + Ex.depths (args.take k)) (m + 1) : Nat) ∧ Below (w.heap.size + 1) (w.alloc (.cells #[.int .i64 kd, .int .i64 o, .int .i64 n, .string s, .slice a args.length cap] 130)) wr) (fun _ i _ => args.length - (intOf i).toNat)
  case atStart => exact ⟨0, Nat.zero_le _, rfl, by simp [Ex.depths], Below.refl _ _⟩
  case round =>
    obtain ⟨k, hk, rfl, rfl, hB0⟩ := hrel
    have hB := below_of_alloc hB0
    have hbx : wr.cell? ⟨w.heap.size, 4, none⟩ = some (.slice a args.length cap) := cell_kept hB0 (by go_simp)
    by_cases hlt : k < args.length
    · obtain ⟨b, off, rfl, hFb, hcell⟩ := ha (by omega)
      obtain ⟨kd', o', n', s', a', m', cap', hx, g0, g1, g2, g3, g4⟩ := row_at hcell hrow (hB.block b (hF b hFb)) k hlt
      clear ha hcell hrow
      have HS := Lib.hid (Ex.depths_take args k hlt)
      have ihk : DeepTC args[k] := ih _ (List.getElem_mem hlt)
      have hI := hF.below hB
      have hcall : Calls Tryz.prog 196 #[.agg #[.int .i64 kd', .int .i64 o', .int .i64 n', .string s', .slice a' m' cap'], .int .i64 ((m : Int) - 1)] wr (Gives wr (.int .i64 (min (args[k]).depth m : Nat))) := by
        have := ihk F wr _ (m - 1) hI (by omega) (hx.below hF hB (Nat.le_refl _))
        rwa [show (((m - 1 : Nat)) : Int) = (m : Int) - 1 by omega, show m - 1 + 1 = m by omega] at this
      clear ihk ih hx
      generalize hD : min (1 + Ex.depths (args.take k)) (m + 1) = D
      generalize hE : min (args[k]).depth m = E at hcall
      have hD2 : D ≤ 1001 := by omega
      have hE2 : E ≤ 1000 := by omega
      have HD := Lib.hid hD
      have HE := Lib.hid hE
      clear hD hE
      have HC := Lib.hid hcall
      have HB0 := Lib.hid hB0
      clear hcall hB0
      go_wp2_with (go_at_call 196; refine HC.out.mono ?_; rintro e w' ⟨rfl, hb⟩)
      go_roundw
      case rel => exact ⟨k + 1, by omega, by go_num, by rw [HS.out]; have := HD.out; have := HE.out; congr 1; split <;> omega, below_on HB0.out (by simp) hb⟩
      case measure => simp [intOf]; omega
    · have : k = args.length := by omega
      subst this
      rw [List.take_length]
      generalize hD : Ex.depths args = D
      have hz : min (1 + D) (m + 1) ≤ 1001 := by omega
      go_wp2
      go_ret
      exact ⟨ret_int (by simp only [Ex.depth, hD]), hB⟩
def DepthC (e : Ex) : Prop := ∀ (F : Nat → Prop) (w : World) (cs : List Value), Inn F w → RdEx F w e cs →
    Calls Tryz.prog 162 #[.agg cs.toArray] w (Gives w (.int .i64 (min e.depth 65 : Nat)))
set_option maxHeartbeats 400000 in
theorem depthT_calls (e : Ex) : DepthC e := by
  intro F w cs hF hr
  obtain ⟨kd', o', n', s', a', m', cap', rfl⟩ := hr.shape
  have hd := fun o => deepT_calls e F (w.alloc o) _ 64 (hF.alloc o) (by omega) (hr.alloc hF o)
  have HC := Lib.hid hd
  clear hd
  go_enter Tryz.func162, Tryz.ntmps162
  go_wp2_with (go_at_call 196; refine (HC.out _).mono ?_; rintro e w' ⟨rfl, hb⟩)
  go_ret
  exact ⟨rfl, below_on1 (Below.refl _ _) (Nat.le_refl _) hb⟩
def DepthRC (e : Ex) : Prop := ∀ (F : Nat → Prop) (w : World) (cs : List Value), Inn F w → RdEx F w e cs →
    Calls Tryz.prog 178 #[.agg cs.toArray] w (Gives w (.int .i64 (min e.depth 65 : Nat)))
set_option maxHeartbeats 400000 in
theorem depthR_calls (e : Ex) : DepthRC e := by
  intro F w cs hF hr
  obtain ⟨kd', o', n', s', a', m', cap', rfl⟩ := hr.shape
  have hd := fun o => deepR_calls e F (w.alloc o) _ 65 (hF.alloc o) (by omega) (by omega) (hr.alloc hF o)
  have HC := Lib.hid hd
  clear hd
  go_enter Tryz.func178, Tryz.ntmps178
  go_wp2_with (go_at_call 208; refine (HC.out _).mono ?_; rintro e w' ⟨rfl, hb⟩)
  go_ret
  exact ⟨rfl, below_on1 (Below.refl _ _) (Nat.le_refl _) hb⟩
theorem greater_calls (a b : Int) (w : World) : Calls Tryz.prog 229 #[.int .i64 a, .int .i64 b] w (fun e w' => e = .returned (.int .i64 (max a b)) ∧ w = w') := by
  by_cases h : b < a
  all_goals
    go_enter Tryz.func229, Tryz.ntmps229
    go_wp2
    go_ret
    exact ⟨ret_int (by omega), rfl⟩
end Go.Proofs.YtmabeegoapcfpaaGreatDoor
/- The walks of tree.SizeBlock and clewref10.SizeBlock. -/
namespace Go.Proofs.YtmabeegoapcfpaaGreatDoor
open Go.RowKit Go.Sort
theorem regrown_gives {P : Program} {f : FuncId} {args : Array Value} {w : World} {v : Value} (h : ∀ w', Below w.heap.size w w' → Calls P f args w' (Gives w' v)) (p : Regrown) :
    Calls P f args (grow (redrawn w p.d) p.os) fun e w'' => e = .returned v ∧ ∃ p : Regrown, w'' = grow (redrawn w p.d) p.os :=
  Calls.regrown_of ((h _ (below_regrown w p.d p.os)).mono fun _ _ h => h)
theorem below_of_regrown {w w' : World} (h : ∃ p : Regrown, w' = grow (redrawn w p.d) p.os) : Below w.heap.size w w' := by
  obtain ⟨p, rfl⟩ := h
  exact below_regrown w p.d p.os
end Go.Proofs.YtmabeegoapcfpaaGreatDoor
/- The walks of tree.Same, clewref10.Same and clewref10.sameArgs: each tells whether two expressions are equal. -/
namespace Go.Proofs.YtmabeegoapcfpaaGreatDoor
open Go.RowKit Go.Sort
noncomputable def same {α : Type} (a b : α) : Bool := @decide (a = b) (Classical.propDecidable _)
theorem same_self {α : Type} (a : α) : same a a = true := by simp [same]
theorem same_ne {α : Type} {a b : α} (h : a ≠ b) : same a b = false := by simp [same, h]
theorem same_eq {α : Type} {a b : α} (h : a = b) : same a b = true := by subst h; exact same_self a
theorem same_iff {α : Type} {a b : α} : same a b = true ↔ a = b := by simp [same]
theorem strne {a b : ByteArray} (h : a ≠ b) : (a.toList == b.toList) = false := by
  refine beq_eq_false_iff_ne.2 fun h' => h ?_
  rw [ByteArray.toList_eq, ByteArray.toList_eq] at h'
  obtain ⟨⟨x⟩⟩ := a
  obtain ⟨⟨y⟩⟩ := b
  simp only at h'
  rw [h']
def SameTC (a b : Ex) : Prop := ∀ (F : Nat → Prop) (w : World) (cs ds : List Value), Inn F w → RdEx F w a cs → RdEx F w b ds →
    Calls Tryz.prog 116 #[.agg cs.toArray, .agg ds.toArray] w (Gives w (.bool (same a b)))
set_option maxRecDepth 100000 in
set_option maxHeartbeats 1000000 in
theorem sameT_calls (e : Ex) : ∀ e2, SameTC e e2 := by
  induction e using Ex.ind with
  | h kd o n s args ih =>
  intro e2 F w cs ds hF hr hr2
  obtain ⟨kd2, o2, n2, s2, args2⟩ := e2
  obtain ⟨h1, h2, h3, h4, v, c, rfl, hsl, hrow⟩ := hr
  obtain ⟨a, cap, rfl, hl, hc, ha⟩ := hsl
  obtain ⟨h12, h22, h32, h42, v2, c2, rfl, hsl2, hrow2⟩ := hr2
  obtain ⟨a2, cap2, rfl, hl2, hc2, ha2⟩ := hsl2
  unfold maxLen at hc hc2
  by_cases hk : kd = kd2
  rotate_left
  · have hk1 : (kd != kd2) = true := by simpa using hk
    have hfin : Hid (same (Ex.mk kd o n s args) (Ex.mk kd2 o2 n2 s2 args2) = false) := same_ne (by simp [hk])
    clear hk ih ha ha2
    go_enter Tryz.func116, Tryz.ntmps116
    go_wp2
    go_ret
    exact ⟨ret_bool hfin.out.symm, ((Below.refl _ _).alloc (Nat.le_refl _) _).alloc (by simp) _⟩
  subst hk
  have hk1 : (kd != kd) = false := by simp
  by_cases ho : o = o2
  rotate_left
  · have ho1 : (o == o2) = false := by simpa using ho
    have hfin : Hid (same (Ex.mk kd o n s args) (Ex.mk kd o2 n2 s2 args2) = false) := same_ne (by simp [ho])
    clear ho ih ha ha2
    go_enter Tryz.func116, Tryz.ntmps116
    go_wp2
    go_ret
    exact ⟨ret_bool hfin.out.symm, ((Below.refl _ _).alloc (Nat.le_refl _) _).alloc (by simp) _⟩
  subst ho
  by_cases hn : n = n2
  rotate_left
  · have ho1 : (n == n2) = false := by simpa using hn
    have hfin : Hid (same (Ex.mk kd o n s args) (Ex.mk kd o n2 s2 args2) = false) := same_ne (by simp [hn])
    clear hn ih ha ha2
    go_enter Tryz.func116, Tryz.ntmps116
    go_wp2
    go_ret
    exact ⟨ret_bool hfin.out.symm, ((Below.refl _ _).alloc (Nat.le_refl _) _).alloc (by simp) _⟩
  subst hn
  by_cases hs : s = s2
  rotate_left
  · have ho1 := strne hs
    have hfin : Hid (same (Ex.mk kd o n s args) (Ex.mk kd o n s2 args2) = false) := same_ne (by simp [hs])
    clear hs ih ha ha2
    go_enter Tryz.func116, Tryz.ntmps116
    go_wp2
    go_ret
    exact ⟨ret_bool hfin.out.symm, ((Below.refl _ _).alloc (Nat.le_refl _) _).alloc (by simp) _⟩
  subst hs
  by_cases hlen : args.length = args2.length
  rotate_left
  · have ho1 : ((args.length : Int) != (args2.length : Int)) = true := by simp; omega
    have hfin : Hid (same (Ex.mk kd o n s args) (Ex.mk kd o n s args2) = false) := same_ne (by simp; rintro rfl; exact hlen rfl)
    clear hlen ih ha ha2
    go_enter Tryz.func116, Tryz.ntmps116
    go_wp2
    go_ret
    exact ⟨ret_bool hfin.out.symm, ((Below.refl _ _).alloc (Nat.le_refl _) _).alloc (by simp) _⟩
  rw [← hlen] at ha2 hl2 ⊢
  have HL := Lib.hid hlen
  clear hlen
  go_enter Tryz.func116, Tryz.ntmps116
  go_wp2
  go_loopw [40] (fun i wr => ∃ (k : Nat), k ≤ args.length ∧ i = .int .i64 k ∧ Hid (args.take k = args2.take k) ∧ Below (w.heap.size + 2) ((w.alloc (.cells #[.int .i64 kd, .int .i64 o, .int .i64 n, .string s, .slice a args.length cap] 130)).alloc (.cells #[.int .i64 kd, .int .i64 o, .int .i64 n, .string s, .slice a2 args.length cap2] 130)) wr) (fun i _ => args.length - (intOf i).toNat)
  case atStart => exact ⟨0, Nat.zero_le _, rfl, by simp [Hid], Below.refl _ _⟩
  case round =>
    obtain ⟨k, hk, rfl, hq, hB0⟩ := hrel
    have hB : Below w.heap.size w wr := (((Below.refl _ _).alloc (Nat.le_refl _) _).alloc (by simp) _).trans (hB0.mono (by omega))
    have hbx : wr.cell? ⟨w.heap.size, 4, none⟩ = some (.slice a args.length cap) := by rw [hB0.cell (by show w.heap.size < _; omega)]; go_simp
    have hbx2 : wr.cell? ⟨w.heap.size + 1, 4, none⟩ = some (.slice a2 args.length cap2) := by rw [hB0.cell (by show w.heap.size + 1 < _; omega)]; go_simp
    by_cases hlt : k < args.length
    · obtain ⟨b, off, rfl, hFb, hcell⟩ := ha (by omega)
      obtain ⟨b2, off2, rfl, hFb2, hcell2⟩ := ha2 (by omega)
      obtain ⟨kd', o', n', s', a', m', cap', hx, g0, g1, g2, g3, g4⟩ := row_at hcell hrow (hB.block b (hF b hFb)) k hlt
      have hlt2 : k < args2.length := by have := HL.out; omega
      have hcell2' : ∀ i, i < args2.length → ∀ j, j < 5 → w.cell? ⟨b2, off2 + i * 5 + j, none⟩ = some (c2 i j) := by rw [← HL.out]; exact hcell2
      obtain ⟨kd2, o2, n2, s2, a2', m2, cap2', hx2, q0, q1, q2, q3, q4⟩ := row_at hcell2' hrow2 (hB.block b2 (hF b2 hFb2)) k hlt2
      clear ha ha2 hcell hcell2 hcell2' hrow hrow2
      have hI := hF.below hB
      have hcall : ∀ (p : Regrown), Calls Tryz.prog 116 #[.agg #[.int .i64 kd', .int .i64 o', .int .i64 n', .string s', .slice a' m' cap'], .agg #[.int .i64 kd2, .int .i64 o2, .int .i64 n2, .string s2, .slice a2' m2 cap2']] (grow (redrawn wr p.d) p.os) fun e w'' => e = .returned (.bool (same args[k] args2[k])) ∧ ∃ p : Regrown, w'' = grow (redrawn wr p.d) p.os :=
        fun p => regrown_gives (fun w' hb => ih _ (List.getElem_mem hlt) args2[k] F w' _ _ (hI.below hb) ((hx.below hF hB (Nat.le_refl _)).below hI hb (Nat.le_refl _)) ((hx2.below hF hB (Nat.le_refl _)).below hI hb (Nat.le_refl _))) p
      have r0 := fun d os => cell_regrown hbx d os
      have r1 := fun d os => cell_regrown hbx2 d os
      have r2 := fun d os => cell_regrown g0 d os
      have r3 := fun d os => cell_regrown g1 d os
      have r4 := fun d os => cell_regrown g2 d os
      have r5 := fun d os => cell_regrown g3 d os
      have r6 := fun d os => cell_regrown g4 d os
      have r7 := fun d os => cell_regrown q0 d os
      have r8 := fun d os => cell_regrown q1 d os
      have r9 := fun d os => cell_regrown q2 d os
      have r10 := fun d os => cell_regrown q3 d os
      have r11 := fun d os => cell_regrown q4 d os
      have hix : (0 : Int) ≤ (k : Int) := by omega
      have hix2 : (k : Int) < (args.length : Int) := by omega
      have hte : args.take (k + 1) = args.take k ++ [args[k]] := List.take_succ_eq_append_getElem hlt
      have hte2 : args2.take (k + 1) = args2.take k ++ [args2[k]] := List.take_succ_eq_append_getElem hlt2
      by_cases heq : args[k] = args2[k]
      · rw [same_eq heq] at hcall
        have hnx : Hid (args.take (k + 1) = args2.take (k + 1)) := by show args.take (k + 1) = _; rw [hte, hte2, hq.out, heq]
        have HC := Lib.hid hcall
        have HB0 := Lib.hid hB0
        clear hcall hx hx2 ih hte hte2 heq hq hbx hbx2 g0 g1 g2 g3 g4 q0 q1 q2 q3 q4 hB0 hB
        go_wp2
        refine wp_region_quiet_below (by kernel_rfl) (by kernel_rfl) ?_
        repeat (go_big_quiet_step (with_reducible exact HC.out _))
        refine wpQuiet_nil ?_
        intro w' hw'
        have hb := below_of_regrown hw'
        clear hw' HC r0 r1 r2 r3 r4 r5 r6 r7 r8 r9 r10 r11
        go_wp2
        go_roundw
        case rel => exact ⟨k + 1, by omega, by go_num, hnx, below_on HB0.out (by simp) hb⟩
        case measure => simp [intOf]; omega
      · rw [same_ne heq] at hcall
        have hfin : Hid (same (Ex.mk kd o n s args) (Ex.mk kd o n s args2) = false) := same_ne (by simp; rintro rfl; exact heq rfl)
        have HC := Lib.hid hcall
        clear hcall hx hx2 ih hte hte2 heq hq hbx hbx2 g0 g1 g2 g3 g4 q0 q1 q2 q3 q4
        go_wp2
        refine wp_region_quiet_below (by kernel_rfl) (by kernel_rfl) ?_
        repeat (go_big_quiet_step (with_reducible exact HC.out _))
        refine wpQuiet_nil ?_
        intro w' hw'
        have hb := below_of_regrown hw'
        clear hw' HC r0 r1 r2 r3 r4 r5 r6 r7 r8 r9 r10 r11
        go_wp2
        go_ret
        exact ⟨ret_bool hfin.out.symm, below_on hB (Nat.le_refl _) hb⟩
    · have : k = args.length := by omega
      subst this
      have hfin : Hid (same (Ex.mk kd o n s args) (Ex.mk kd o n s args2) = true) := by
        have h0 := hq.out
        rw [List.take_length, HL.out, List.take_length] at h0
        subst h0
        exact same_self _
      clear hq
      go_wp2
      go_ret
      exact ⟨ret_bool hfin.out.symm, hB⟩
end Go.Proofs.YtmabeegoapcfpaaGreatDoor
/- The walks of clewref10.sameArgs and clewref10.Same. -/
namespace Go.Proofs.YtmabeegoapcfpaaGreatDoor
open Go.RowKit Go.Sort
def SameRC (a b : Ex) : Prop := ∀ (F : Nat → Prop) (w : World) (cs ds : List Value), Inn F w → RdEx F w a cs → RdEx F w b ds →
    Calls Tryz.prog 123 #[.agg cs.toArray, .agg ds.toArray] w (Gives w (.bool (same a b)))
def SameArgsC (l l2 : List Ex) : Prop := ∀ (F : Nat → Prop) (w : World) (v v2 : Value), Inn F w → Exs F w l v → Exs F w l2 v2 →
    Calls Tryz.prog 124 #[v, v2] w (Gives w (.bool (same l l2)))
set_option maxRecDepth 100000 in
set_option maxHeartbeats 1000000 in
theorem sameArgs_of (l : List Ex) (ih : ∀ x ∈ l, ∀ y, SameRC x y) : ∀ l2, SameArgsC l l2 := by
  intro l2 F w v v2 hF hr hr2
  obtain ⟨a, cap, rfl⟩ := hr.shape
  obtain ⟨_, hl, hc, ha⟩ := hr.opn
  obtain ⟨a2, cap2, rfl⟩ := hr2.shape
  obtain ⟨_, hl2, hc2, ha2⟩ := hr2.opn
  by_cases hlen : l.length = l2.length
  rotate_left
  · have ho1 : ((l.length : Int) != (l2.length : Int)) = true := by simp; omega
    have hfin : Hid (same l l2 = false) := same_ne (by rintro rfl; exact hlen rfl)
    clear hlen ih ha ha2
    go_enter Tryz.func124, Tryz.ntmps124
    go_wp2
    go_ret
    exact ⟨ret_bool hfin.out.symm, Below.refl _ _⟩
  have HL := Lib.hid hlen
  have ho1 : ((l.length : Int) != (l2.length : Int)) = false := by simp; omega
  rw [← hlen] at hl2 ho1 ⊢
  clear hlen
  go_enter Tryz.func124, Tryz.ntmps124
  go_wp2
  go_loopw [5] (fun i wr => ∃ (k : Nat), k ≤ l.length ∧ i = .int .i64 k ∧ Hid (l.take k = l2.take k) ∧ Below w.heap.size w wr) (fun i _ => l.length - (intOf i).toNat)
  case atStart => exact ⟨0, Nat.zero_le _, rfl, by simp [Hid], Below.refl _ _⟩
  case round =>
    obtain ⟨k, hk, rfl, hq, hB⟩ := hrel
    by_cases hlt : k < l.length
    · obtain ⟨b, off, rfl, hFb, hel⟩ := ha (by omega)
      have hlt2 : k < l2.length := by have := HL.out; omega
      obtain ⟨b2, off2, rfl, hFb2, hel2⟩ := ha2 (by omega)
      obtain ⟨kd', o', n', s', a', m', cap', hx, g0, g1, g2, g3, g4⟩ := hel wr (hB.block b (hF b hFb)) k hlt
      obtain ⟨kd2, o2, n2, s2, a2', m2, cap2', hx2, q0, q1, q2, q3, q4⟩ := hel2 wr (hB.block b2 (hF b2 hFb2)) k hlt2
      clear ha ha2 hel hel2
      have hI := hF.below hB
      have hcall : ∀ (p : Regrown), Calls Tryz.prog 123 #[.agg #[.int .i64 kd', .int .i64 o', .int .i64 n', .string s', .slice a' m' cap'], .agg #[.int .i64 kd2, .int .i64 o2, .int .i64 n2, .string s2, .slice a2' m2 cap2']] (grow (redrawn wr p.d) p.os) fun e w'' => e = .returned (.bool (same l[k] l2[k])) ∧ ∃ p : Regrown, w'' = grow (redrawn wr p.d) p.os :=
        fun p => regrown_gives (fun w' hb => ih _ (List.getElem_mem hlt) l2[k] F w' _ _ (hI.below hb) ((hx.below hF hB (Nat.le_refl _)).below hI hb (Nat.le_refl _)) ((hx2.below hF hB (Nat.le_refl _)).below hI hb (Nat.le_refl _))) p
      have r2 := fun d os => cell_regrown g0 d os
      have r3 := fun d os => cell_regrown g1 d os
      have r4 := fun d os => cell_regrown g2 d os
      have r5 := fun d os => cell_regrown g3 d os
      have r6 := fun d os => cell_regrown g4 d os
      have r7 := fun d os => cell_regrown q0 d os
      have r8 := fun d os => cell_regrown q1 d os
      have r9 := fun d os => cell_regrown q2 d os
      have r10 := fun d os => cell_regrown q3 d os
      have r11 := fun d os => cell_regrown q4 d os
      have hix : (0 : Int) ≤ (k : Int) := by omega
      have hix2 : (k : Int) < (l.length : Int) := by omega
      have hte : l.take (k + 1) = l.take k ++ [l[k]] := List.take_succ_eq_append_getElem hlt
      have hte2 : l2.take (k + 1) = l2.take k ++ [l2[k]] := List.take_succ_eq_append_getElem hlt2
      by_cases heq : l[k] = l2[k]
      · rw [same_eq heq] at hcall
        have hnx : Hid (l.take (k + 1) = l2.take (k + 1)) := by show l.take (k + 1) = _; rw [hte, hte2, hq.out, heq]
        have HC := Lib.hid hcall
        clear hcall hx hx2 ih hte hte2 heq hq g0 g1 g2 g3 g4 q0 q1 q2 q3 q4 hr hr2
        go_wp2
        refine wp_region_quiet_below (by kernel_rfl) (by kernel_rfl) ?_
        repeat (go_big_quiet_step (with_reducible exact HC.out _))
        refine wpQuiet_nil ?_
        intro w' hw'
        have hb := below_of_regrown hw'
        clear hw' HC r2 r3 r4 r5 r6 r7 r8 r9 r10 r11
        go_wp2
        go_roundw
        case rel => exact ⟨k + 1, by omega, by go_num, hnx, below_on hB (Nat.le_refl _) hb⟩
        case measure => simp [intOf]; omega
      · rw [same_ne heq] at hcall
        have hfin : Hid (same l l2 = false) := same_ne (by rintro rfl; exact heq rfl)
        have HC := Lib.hid hcall
        clear hcall hx hx2 ih hte hte2 heq hq g0 g1 g2 g3 g4 q0 q1 q2 q3 q4 hr hr2
        go_wp2
        refine wp_region_quiet_below (by kernel_rfl) (by kernel_rfl) ?_
        repeat (go_big_quiet_step (with_reducible exact HC.out _))
        refine wpQuiet_nil ?_
        intro w' hw'
        have hb := below_of_regrown hw'
        clear hw' HC r2 r3 r4 r5 r6 r7 r8 r9 r10 r11
        go_wp2
        go_ret
        exact ⟨ret_bool hfin.out.symm, below_on hB (Nat.le_refl _) hb⟩
    · have : k = l.length := by omega
      subst this
      have hfin : Hid (same l l2 = true) := by
        have h0 := hq.out
        rw [List.take_length, HL.out, List.take_length] at h0
        subst h0
        exact same_self _
      clear hq
      go_wp2
      go_ret
      exact ⟨ret_bool hfin.out.symm, hB⟩
set_option maxRecDepth 100000 in
set_option maxHeartbeats 1000000 in
theorem sameR_calls (e : Ex) : ∀ e2, SameRC e e2 := by
  induction e using Ex.ind with
  | h kd o n s args ih =>
  intro e2 F w cs ds hF hr hr2
  have hpa := sameArgs_of args ih
  clear ih
  obtain ⟨kd2, o2, n2, s2, args2⟩ := e2
  obtain ⟨kd', o', n', s', a, m, cap, rfl⟩ := hr.shape
  obtain ⟨rfl, rfl, rfl, rfl, _, _, _, _, hxa⟩ := hr.parts
  obtain ⟨kd2', o2', n2', s2', a2, m2, cap2, rfl⟩ := hr2.shape
  obtain ⟨rfl, rfl, rfl, rfl, _, _, _, _, hxa2⟩ := hr2.parts
  simp only [Ex.kind, Ex.op, Ex.num, Ex.name, Ex.args] at *
  clear hr hr2
  by_cases hk : kd = kd2
  rotate_left
  · have hk1 : (kd != kd2) = true := by simpa using hk
    have hfin : Hid (same (Ex.mk kd o n s args) (Ex.mk kd2 o2 n2 s2 args2) = false) := same_ne (by simp [hk])
    clear hk hpa
    go_enter Tryz.func123, Tryz.ntmps123
    go_wp2
    go_ret
    exact ⟨ret_bool hfin.out.symm, ((Below.refl _ _).alloc (Nat.le_refl _) _).alloc (by simp) _⟩
  subst hk
  have hk1 : (kd != kd) = false := by simp
  by_cases ho : o = o2
  rotate_left
  · have ho1 : (o != o2) = true := by simpa using ho
    have hfin : Hid (same (Ex.mk kd o n s args) (Ex.mk kd o2 n2 s2 args2) = false) := same_ne (by simp [ho])
    clear ho hpa
    go_enter Tryz.func123, Tryz.ntmps123
    go_wp2
    go_ret
    exact ⟨ret_bool hfin.out.symm, ((Below.refl _ _).alloc (Nat.le_refl _) _).alloc (by simp) _⟩
  subst ho
  have ho1 : (o != o) = false := by simp
  by_cases hn : n = n2
  rotate_left
  · have hn1 : (n != n2) = true := by simpa using hn
    have hfin : Hid (same (Ex.mk kd o n s args) (Ex.mk kd o n2 s2 args2) = false) := same_ne (by simp [hn])
    clear hn hpa
    go_enter Tryz.func123, Tryz.ntmps123
    go_wp2
    go_ret
    exact ⟨ret_bool hfin.out.symm, ((Below.refl _ _).alloc (Nat.le_refl _) _).alloc (by simp) _⟩
  subst hn
  have hn1 : (n != n) = false := by simp
  by_cases hs : s = s2
  rotate_left
  · have hs1 := strne hs
    have hfin : Hid (same (Ex.mk kd o n s args) (Ex.mk kd o n s2 args2) = false) := same_ne (by simp [hs])
    clear hs hpa
    go_enter Tryz.func123, Tryz.ntmps123
    go_wp2
    go_ret
    exact ⟨ret_bool hfin.out.symm, ((Below.refl _ _).alloc (Nat.le_refl _) _).alloc (by simp) _⟩
  subst hs
  have hfin : Hid (same (Ex.mk kd o n s args) (Ex.mk kd o n s args2) = same args args2) := by
    show same _ _ = _
    by_cases h : args = args2
    · subst h; rw [same_self, same_self]
    · rw [same_ne h, same_ne (by simp [h])]
  have hcall : ∀ o1 o2, Calls Tryz.prog 124 #[.slice a m cap, .slice a2 m2 cap2] ((w.alloc o1).alloc o2) (Gives ((w.alloc o1).alloc o2) (.bool (same args args2))) := fun o1 o2 =>
    hpa args2 F _ _ _ ((hF.alloc _).alloc _) ((hxa.alloc hF _).alloc (hF.alloc _) _) ((hxa2.alloc hF _).alloc (hF.alloc _) _)
  have HC := Lib.hid hcall
  clear hcall hpa hxa hxa2
  go_enter Tryz.func123, Tryz.ntmps123
  go_wp2_with (go_at_call 124; refine (HC.out _ _).mono ?_; rintro e w' ⟨rfl, hb⟩)
  go_ret
  exact ⟨ret_bool hfin.out.symm, below_on2 (Below.refl _ _) (Nat.le_refl _) hb⟩
theorem sameArgs_calls (l l2 : List Ex) : SameArgsC l l2 := sameArgs_of l (fun x _ => sameR_calls x) l2
end Go.Proofs.YtmabeegoapcfpaaGreatDoor
