/- The walks of tree.Same, clewref10.Same and clewref10.sameArgs: each tells whether two expressions are equal. -/
import Derived.Test.YtimdnamhccipjaaBlockSize
namespace Go.Proofs.Ytimdnamhccipjaa
open Go.RowKit Go.Sort

/-- Are the two equal? -/
noncomputable def same {α : Type} (a b : α) : Bool := @decide (a = b) (Classical.propDecidable _)
theorem same_self {α : Type} (a : α) : same a a = true := by simp [same]
theorem same_ne {α : Type} {a b : α} (h : a ≠ b) : same a b = false := by simp [same, h]
theorem same_eq {α : Type} {a b : α} (h : a = b) : same a b = true := by subst h; exact same_self a
theorem same_iff {α : Type} {a b : α} : same a b = true ↔ a = b := by simp [same]

theorem strne {a b : ByteArray} (h : a ≠ b) : (a.toList == b.toList) = false := by
  refine beq_eq_false_iff_ne.2 fun h' => h ?_
  rw [ByteArray.toList_eq, ByteArray.toList_eq] at h'
  obtain ⟨⟨x⟩⟩ := a
  obtain ⟨⟨y⟩⟩ := b
  simp only at h'
  rw [h']

def SameTC (a b : Ex) : Prop := ∀ (F : Nat → Prop) (w : World) (cs ds : List Value), Inn F w → RdEx F w a cs → RdEx F w b ds →
    Calls Try.prog 19 #[.agg cs.toArray, .agg ds.toArray] w (Gives w (.bool (same a b)))

set_option maxRecDepth 100000 in
set_option maxHeartbeats 1000000 in
theorem sameT_calls (e : Ex) : ∀ e2, SameTC e e2 := by
  induction e using Ex.ind with
  | h kd o n s args ih =>
  intro e2 F w cs ds hF hr hr2
  obtain ⟨kd2, o2, n2, s2, args2⟩ := e2
  obtain ⟨h1, h2, h3, h4, v, c, rfl, hsl, hrow⟩ := hr
  obtain ⟨a, cap, rfl, hl, hc, ha⟩ := hsl
  obtain ⟨h12, h22, h32, h42, v2, c2, rfl, hsl2, hrow2⟩ := hr2
  obtain ⟨a2, cap2, rfl, hl2, hc2, ha2⟩ := hsl2
  unfold maxLen at hc hc2
  by_cases hk : kd = kd2
  rotate_left
  · have hk1 : (kd != kd2) = true := by simpa using hk
    have hfin : Hid (same (Ex.mk kd o n s args) (Ex.mk kd2 o2 n2 s2 args2) = false) := same_ne (by simp [hk])
    clear hk ih ha ha2
    go_enter Try.func19, Try.ntmps19
    go_wp2
    go_ret
    exact ⟨ret_bool hfin.out.symm, ((Below.refl _ _).alloc (Nat.le_refl _) _).alloc (by simp) _⟩
  subst hk
  have hk1 : (kd != kd) = false := by simp
  by_cases ho : o = o2
  rotate_left
  · have ho1 : (o == o2) = false := by simpa using ho
    have hfin : Hid (same (Ex.mk kd o n s args) (Ex.mk kd o2 n2 s2 args2) = false) := same_ne (by simp [ho])
    clear ho ih ha ha2
    go_enter Try.func19, Try.ntmps19
    go_wp2
    go_ret
    exact ⟨ret_bool hfin.out.symm, ((Below.refl _ _).alloc (Nat.le_refl _) _).alloc (by simp) _⟩
  subst ho
  by_cases hn : n = n2
  rotate_left
  · have ho1 : (n == n2) = false := by simpa using hn
    have hfin : Hid (same (Ex.mk kd o n s args) (Ex.mk kd o n2 s2 args2) = false) := same_ne (by simp [hn])
    clear hn ih ha ha2
    go_enter Try.func19, Try.ntmps19
    go_wp2
    go_ret
    exact ⟨ret_bool hfin.out.symm, ((Below.refl _ _).alloc (Nat.le_refl _) _).alloc (by simp) _⟩
  subst hn
  by_cases hs : s = s2
  rotate_left
  · have ho1 := strne hs
    have hfin : Hid (same (Ex.mk kd o n s args) (Ex.mk kd o n s2 args2) = false) := same_ne (by simp [hs])
    clear hs ih ha ha2
    go_enter Try.func19, Try.ntmps19
    go_wp2
    go_ret
    exact ⟨ret_bool hfin.out.symm, ((Below.refl _ _).alloc (Nat.le_refl _) _).alloc (by simp) _⟩
  subst hs
  by_cases hlen : args.length = args2.length
  rotate_left
  · have ho1 : ((args.length : Int) != (args2.length : Int)) = true := by simp; omega
    have hfin : Hid (same (Ex.mk kd o n s args) (Ex.mk kd o n s args2) = false) := same_ne (by simp; rintro rfl; exact hlen rfl)
    clear hlen ih ha ha2
    go_enter Try.func19, Try.ntmps19
    go_wp2
    go_ret
    exact ⟨ret_bool hfin.out.symm, ((Below.refl _ _).alloc (Nat.le_refl _) _).alloc (by simp) _⟩
  rw [← hlen] at ha2 hl2 ⊢
  have HL := Lib.hid hlen
  clear hlen
  go_enter Try.func19, Try.ntmps19
  go_wp2
  go_loopw [40] (fun i wr => ∃ (k : Nat), k ≤ args.length ∧ i = .int .i64 k ∧ Hid (args.take k = args2.take k) ∧ Below (w.heap.size + 2) ((w.alloc (.cells #[.int .i64 kd, .int .i64 o, .int .i64 n, .string s, .slice a args.length cap] 35)).alloc (.cells #[.int .i64 kd, .int .i64 o, .int .i64 n, .string s, .slice a2 args.length cap2] 35)) wr) (fun i _ => args.length - (intOf i).toNat)
  case atStart => exact ⟨0, Nat.zero_le _, rfl, by simp [Hid], Below.refl _ _⟩
  case round =>
    obtain ⟨k, hk, rfl, hq, hB0⟩ := hrel
    have hB : Below w.heap.size w wr := (((Below.refl _ _).alloc (Nat.le_refl _) _).alloc (by simp) _).trans (hB0.mono (by omega))
    have hbx : wr.cell? ⟨w.heap.size, 4, none⟩ = some (.slice a args.length cap) := by rw [hB0.cell (by show w.heap.size < _; omega)]; go_simp
    have hbx2 : wr.cell? ⟨w.heap.size + 1, 4, none⟩ = some (.slice a2 args.length cap2) := by rw [hB0.cell (by show w.heap.size + 1 < _; omega)]; go_simp
    by_cases hlt : k < args.length
    · obtain ⟨b, off, rfl, hFb, hcell⟩ := ha (by omega)
      obtain ⟨b2, off2, rfl, hFb2, hcell2⟩ := ha2 (by omega)
      obtain ⟨kd', o', n', s', a', m', cap', hx, g0, g1, g2, g3, g4⟩ := row_at hcell hrow (hB.block b (hF b hFb)) k hlt
      have hlt2 : k < args2.length := by have := HL.out; omega
      have hcell2' : ∀ i, i < args2.length → ∀ j, j < 5 → w.cell? ⟨b2, off2 + i * 5 + j, none⟩ = some (c2 i j) := by rw [← HL.out]; exact hcell2
      obtain ⟨kd2, o2, n2, s2, a2', m2, cap2', hx2, q0, q1, q2, q3, q4⟩ := row_at hcell2' hrow2 (hB.block b2 (hF b2 hFb2)) k hlt2
      clear ha ha2 hcell hcell2 hcell2' hrow hrow2
      have hI := hF.below hB
      have hcall : ∀ (p : Regrown), Calls Try.prog 19 #[.agg #[.int .i64 kd', .int .i64 o', .int .i64 n', .string s', .slice a' m' cap'], .agg #[.int .i64 kd2, .int .i64 o2, .int .i64 n2, .string s2, .slice a2' m2 cap2']] (grow (redrawn wr p.d) p.os) fun e w'' => e = .returned (.bool (same args[k] args2[k])) ∧ ∃ p : Regrown, w'' = grow (redrawn wr p.d) p.os :=
        fun p => regrown_gives (fun w' hb => ih _ (List.getElem_mem hlt) args2[k] F w' _ _ (hI.below hb) ((hx.below hF hB (Nat.le_refl _)).below hI hb (Nat.le_refl _)) ((hx2.below hF hB (Nat.le_refl _)).below hI hb (Nat.le_refl _))) p
      have r0 := fun d os => cell_regrown hbx d os
      have r1 := fun d os => cell_regrown hbx2 d os
      have r2 := fun d os => cell_regrown g0 d os
      have r3 := fun d os => cell_regrown g1 d os
      have r4 := fun d os => cell_regrown g2 d os
      have r5 := fun d os => cell_regrown g3 d os
      have r6 := fun d os => cell_regrown g4 d os
      have r7 := fun d os => cell_regrown q0 d os
      have r8 := fun d os => cell_regrown q1 d os
      have r9 := fun d os => cell_regrown q2 d os
      have r10 := fun d os => cell_regrown q3 d os
      have r11 := fun d os => cell_regrown q4 d os
      have hix : (0 : Int) ≤ (k : Int) := by omega
      have hix2 : (k : Int) < (args.length : Int) := by omega
      have hte : args.take (k + 1) = args.take k ++ [args[k]] := List.take_succ_eq_append_getElem hlt
      have hte2 : args2.take (k + 1) = args2.take k ++ [args2[k]] := List.take_succ_eq_append_getElem hlt2
      by_cases heq : args[k] = args2[k]
      · rw [same_eq heq] at hcall
        have hnx : Hid (args.take (k + 1) = args2.take (k + 1)) := by show args.take (k + 1) = _; rw [hte, hte2, hq.out, heq]
        have HC := Lib.hid hcall
        have HB0 := Lib.hid hB0
        clear hcall hx hx2 ih hte hte2 heq hq hbx hbx2 g0 g1 g2 g3 g4 q0 q1 q2 q3 q4 hB0 hB
        go_wp2
        refine wp_region_quiet_below (by kernel_rfl) (by kernel_rfl) ?_
        repeat (go_big_quiet_step (with_reducible exact HC.out _))
        refine wpQuiet_nil ?_
        intro w' hw'
        have hb := below_of_regrown hw'
        clear hw' HC r0 r1 r2 r3 r4 r5 r6 r7 r8 r9 r10 r11
        go_wp2
        go_roundw
        case rel => exact ⟨k + 1, by omega, by go_num, hnx, below_on HB0.out (by simp) hb⟩
        case measure => simp [intOf]; omega
      · rw [same_ne heq] at hcall
        have hfin : Hid (same (Ex.mk kd o n s args) (Ex.mk kd o n s args2) = false) := same_ne (by simp; rintro rfl; exact heq rfl)
        have HC := Lib.hid hcall
        clear hcall hx hx2 ih hte hte2 heq hq hbx hbx2 g0 g1 g2 g3 g4 q0 q1 q2 q3 q4
        go_wp2
        refine wp_region_quiet_below (by kernel_rfl) (by kernel_rfl) ?_
        repeat (go_big_quiet_step (with_reducible exact HC.out _))
        refine wpQuiet_nil ?_
        intro w' hw'
        have hb := below_of_regrown hw'
        clear hw' HC r0 r1 r2 r3 r4 r5 r6 r7 r8 r9 r10 r11
        go_wp2
        go_ret
        exact ⟨ret_bool hfin.out.symm, below_on hB (Nat.le_refl _) hb⟩
    · have : k = args.length := by omega
      subst this
      have hfin : Hid (same (Ex.mk kd o n s args) (Ex.mk kd o n s args2) = true) := by
        have h0 := hq.out
        rw [List.take_length, HL.out, List.take_length] at h0
        subst h0
        exact same_self _
      clear hq
      go_wp2
      go_ret
      exact ⟨ret_bool hfin.out.symm, hB⟩

end Go.Proofs.Ytimdnamhccipjaa
