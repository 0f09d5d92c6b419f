/- The walks of clewref10.sameArgs and clewref10.Same. -/
import Derived.Test.YtimdnamhccipjaaSame
namespace Go.Proofs.Ytimdnamhccipjaa
open Go.RowKit Go.Sort

def SameRC (a b : Ex) : Prop := ∀ (F : Nat → Prop) (w : World) (cs ds : List Value), Inn F w → RdEx F w a cs → RdEx F w b ds →
    Calls Try.prog 44 #[.agg cs.toArray, .agg ds.toArray] w (Gives w (.bool (same a b)))

def SameArgsC (l l2 : List Ex) : Prop := ∀ (F : Nat → Prop) (w : World) (v v2 : Value), Inn F w → Exs F w l v → Exs F w l2 v2 →
    Calls Try.prog 82 #[v, v2] w (Gives w (.bool (same l l2)))

set_option maxRecDepth 100000 in
set_option maxHeartbeats 1000000 in
theorem sameArgs_of (l : List Ex) (ih : ∀ x ∈ l, ∀ y, SameRC x y) : ∀ l2, SameArgsC l l2 := by
  intro l2 F w v v2 hF hr hr2
  obtain ⟨a, cap, rfl⟩ := hr.shape
  obtain ⟨_, hl, hc, ha⟩ := hr.opn
  obtain ⟨a2, cap2, rfl⟩ := hr2.shape
  obtain ⟨_, hl2, hc2, ha2⟩ := hr2.opn
  by_cases hlen : l.length = l2.length
  rotate_left
  · have ho1 : ((l.length : Int) != (l2.length : Int)) = true := by simp; omega
    have hfin : Hid (same l l2 = false) := same_ne (by rintro rfl; exact hlen rfl)
    clear hlen ih ha ha2
    go_enter Try.func82, Try.ntmps82
    go_wp2
    go_ret
    exact ⟨ret_bool hfin.out.symm, Below.refl _ _⟩
  have HL := Lib.hid hlen
  have ho1 : ((l.length : Int) != (l2.length : Int)) = false := by simp; omega
  rw [← hlen] at hl2 ho1 ⊢
  clear hlen
  go_enter Try.func82, Try.ntmps82
  go_wp2
  go_loopw [5] (fun i wr => ∃ (k : Nat), k ≤ l.length ∧ i = .int .i64 k ∧ Hid (l.take k = l2.take k) ∧ Below w.heap.size w wr) (fun i _ => l.length - (intOf i).toNat)
  case atStart => exact ⟨0, Nat.zero_le _, rfl, by simp [Hid], Below.refl _ _⟩
  case round =>
    obtain ⟨k, hk, rfl, hq, hB⟩ := hrel
    by_cases hlt : k < l.length
    · obtain ⟨b, off, rfl, hFb, hel⟩ := ha (by omega)
      have hlt2 : k < l2.length := by have := HL.out; omega
      obtain ⟨b2, off2, rfl, hFb2, hel2⟩ := ha2 (by omega)
      obtain ⟨kd', o', n', s', a', m', cap', hx, g0, g1, g2, g3, g4⟩ := hel wr (hB.block b (hF b hFb)) k hlt
      obtain ⟨kd2, o2, n2, s2, a2', m2, cap2', hx2, q0, q1, q2, q3, q4⟩ := hel2 wr (hB.block b2 (hF b2 hFb2)) k hlt2
      clear ha ha2 hel hel2
      have hI := hF.below hB
      have hcall : ∀ (p : Regrown), Calls Try.prog 44 #[.agg #[.int .i64 kd', .int .i64 o', .int .i64 n', .string s', .slice a' m' cap'], .agg #[.int .i64 kd2, .int .i64 o2, .int .i64 n2, .string s2, .slice a2' m2 cap2']] (grow (redrawn wr p.d) p.os) fun e w'' => e = .returned (.bool (same l[k] l2[k])) ∧ ∃ p : Regrown, w'' = grow (redrawn wr p.d) p.os :=
        fun p => regrown_gives (fun w' hb => ih _ (List.getElem_mem hlt) l2[k] F w' _ _ (hI.below hb) ((hx.below hF hB (Nat.le_refl _)).below hI hb (Nat.le_refl _)) ((hx2.below hF hB (Nat.le_refl _)).below hI hb (Nat.le_refl _))) p
      have r2 := fun d os => cell_regrown g0 d os
      have r3 := fun d os => cell_regrown g1 d os
      have r4 := fun d os => cell_regrown g2 d os
      have r5 := fun d os => cell_regrown g3 d os
      have r6 := fun d os => cell_regrown g4 d os
      have r7 := fun d os => cell_regrown q0 d os
      have r8 := fun d os => cell_regrown q1 d os
      have r9 := fun d os => cell_regrown q2 d os
      have r10 := fun d os => cell_regrown q3 d os
      have r11 := fun d os => cell_regrown q4 d os
      have hix : (0 : Int) ≤ (k : Int) := by omega
      have hix2 : (k : Int) < (l.length : Int) := by omega
      have hte : l.take (k + 1) = l.take k ++ [l[k]] := List.take_succ_eq_append_getElem hlt
      have hte2 : l2.take (k + 1) = l2.take k ++ [l2[k]] := List.take_succ_eq_append_getElem hlt2
      by_cases heq : l[k] = l2[k]
      · rw [same_eq heq] at hcall
        have hnx : Hid (l.take (k + 1) = l2.take (k + 1)) := by show l.take (k + 1) = _; rw [hte, hte2, hq.out, heq]
        have HC := Lib.hid hcall
        clear hcall hx hx2 ih hte hte2 heq hq g0 g1 g2 g3 g4 q0 q1 q2 q3 q4 hr hr2
        go_wp2
        refine wp_region_quiet_below (by kernel_rfl) (by kernel_rfl) ?_
        repeat (go_big_quiet_step (with_reducible exact HC.out _))
        refine wpQuiet_nil ?_
        intro w' hw'
        have hb := below_of_regrown hw'
        clear hw' HC r2 r3 r4 r5 r6 r7 r8 r9 r10 r11
        go_wp2
        go_roundw
        case rel => exact ⟨k + 1, by omega, by go_num, hnx, below_on hB (Nat.le_refl _) hb⟩
        case measure => simp [intOf]; omega
      · rw [same_ne heq] at hcall
        have hfin : Hid (same l l2 = false) := same_ne (by rintro rfl; exact heq rfl)
        have HC := Lib.hid hcall
        clear hcall hx hx2 ih hte hte2 heq hq g0 g1 g2 g3 g4 q0 q1 q2 q3 q4 hr hr2
        go_wp2
        refine wp_region_quiet_below (by kernel_rfl) (by kernel_rfl) ?_
        repeat (go_big_quiet_step (with_reducible exact HC.out _))
        refine wpQuiet_nil ?_
        intro w' hw'
        have hb := below_of_regrown hw'
        clear hw' HC r2 r3 r4 r5 r6 r7 r8 r9 r10 r11
        go_wp2
        go_ret
        exact ⟨ret_bool hfin.out.symm, below_on hB (Nat.le_refl _) hb⟩
    · have : k = l.length := by omega
      subst this
      have hfin : Hid (same l l2 = true) := by
        have h0 := hq.out
        rw [List.take_length, HL.out, List.take_length] at h0
        subst h0
        exact same_self _
      clear hq
      go_wp2
      go_ret
      exact ⟨ret_bool hfin.out.symm, hB⟩

set_option maxRecDepth 100000 in
set_option maxHeartbeats 1000000 in
theorem sameR_calls (e : Ex) : ∀ e2, SameRC e e2 := by
  induction e using Ex.ind with
  | h kd o n s args ih =>
  intro e2 F w cs ds hF hr hr2
  have hpa := sameArgs_of args ih
  clear ih
  obtain ⟨kd2, o2, n2, s2, args2⟩ := e2
  obtain ⟨kd', o', n', s', a, m, cap, rfl⟩ := hr.shape
  obtain ⟨rfl, rfl, rfl, rfl, _, _, _, _, hxa⟩ := hr.parts
  obtain ⟨kd2', o2', n2', s2', a2, m2, cap2, rfl⟩ := hr2.shape
  obtain ⟨rfl, rfl, rfl, rfl, _, _, _, _, hxa2⟩ := hr2.parts
  simp only [Ex.kind, Ex.op, Ex.num, Ex.name, Ex.args] at *
  clear hr hr2
  by_cases hk : kd = kd2
  rotate_left
  · have hk1 : (kd != kd2) = true := by simpa using hk
    have hfin : Hid (same (Ex.mk kd o n s args) (Ex.mk kd2 o2 n2 s2 args2) = false) := same_ne (by simp [hk])
    clear hk hpa
    go_enter Try.func44, Try.ntmps44
    go_wp2
    go_ret
    exact ⟨ret_bool hfin.out.symm, ((Below.refl _ _).alloc (Nat.le_refl _) _).alloc (by simp) _⟩
  subst hk
  have hk1 : (kd != kd) = false := by simp
  by_cases ho : o = o2
  rotate_left
  · have ho1 : (o != o2) = true := by simpa using ho
    have hfin : Hid (same (Ex.mk kd o n s args) (Ex.mk kd o2 n2 s2 args2) = false) := same_ne (by simp [ho])
    clear ho hpa
    go_enter Try.func44, Try.ntmps44
    go_wp2
    go_ret
    exact ⟨ret_bool hfin.out.symm, ((Below.refl _ _).alloc (Nat.le_refl _) _).alloc (by simp) _⟩
  subst ho
  have ho1 : (o != o) = false := by simp
  by_cases hn : n = n2
  rotate_left
  · have hn1 : (n != n2) = true := by simpa using hn
    have hfin : Hid (same (Ex.mk kd o n s args) (Ex.mk kd o n2 s2 args2) = false) := same_ne (by simp [hn])
    clear hn hpa
    go_enter Try.func44, Try.ntmps44
    go_wp2
    go_ret
    exact ⟨ret_bool hfin.out.symm, ((Below.refl _ _).alloc (Nat.le_refl _) _).alloc (by simp) _⟩
  subst hn
  have hn1 : (n != n) = false := by simp
  by_cases hs : s = s2
  rotate_left
  · have hs1 := strne hs
    have hfin : Hid (same (Ex.mk kd o n s args) (Ex.mk kd o n s2 args2) = false) := same_ne (by simp [hs])
    clear hs hpa
    go_enter Try.func44, Try.ntmps44
    go_wp2
    go_ret
    exact ⟨ret_bool hfin.out.symm, ((Below.refl _ _).alloc (Nat.le_refl _) _).alloc (by simp) _⟩
  subst hs
  have hfin : Hid (same (Ex.mk kd o n s args) (Ex.mk kd o n s args2) = same args args2) := by
    show same _ _ = _
    by_cases h : args = args2
    · subst h; rw [same_self, same_self]
    · rw [same_ne h, same_ne (by simp [h])]
  have hcall : ∀ o1 o2, Calls Try.prog 82 #[.slice a m cap, .slice a2 m2 cap2] ((w.alloc o1).alloc o2) (Gives ((w.alloc o1).alloc o2) (.bool (same args args2))) := fun o1 o2 =>
    hpa args2 F _ _ _ ((hF.alloc _).alloc _) ((hxa.alloc hF _).alloc (hF.alloc _) _) ((hxa2.alloc hF _).alloc (hF.alloc _) _)
  have HC := Lib.hid hcall
  clear hcall hpa hxa hxa2
  go_enter Try.func44, Try.ntmps44
  go_wp2_with (go_at_call 82; refine (HC.out _ _).mono ?_; rintro e w' ⟨rfl, hb⟩)
  go_ret
  exact ⟨ret_bool hfin.out.symm, below_on2 (Below.refl _ _) (Nat.le_refl _) hb⟩

theorem sameArgs_calls (l l2 : List Ex) : SameArgsC l l2 := sameArgs_of l (fun x _ => sameR_calls x) l2

end Go.Proofs.Ytimdnamhccipjaa
