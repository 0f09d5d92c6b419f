/- The walks of kinds.Locals and clewref16.Locals. Printed by gen-locals.py. -/
import Derived.Test.YtblhpiebheommaaGreatKindsChecksPart13
import Derived.Test.YtblhpiebheommaaGreatKindsChecksPart4
namespace Go.Proofs.YtblhpiebheommaaGreat
open Go.RowKit Go.Sort

theorem St.locsL_take (l : List St) (k : Nat) (h : k < l.length) : St.locsL (l.take (k + 1)) = St.locsL (l.take k) + (addS (l[k]).kind + St.locsL (l[k]).body + St.locsL (l[k]).els) := by
  induction l generalizing k with
  | nil => simp at h
  | cons s r ih =>
    cases k with
    | zero =>
      show St.locsL [s] = 0 + _
      rw [St.locsL_cons]
      show _ + 0 = _
      simp
    | succ k =>
      show St.locsL (s :: r.take (k + 1)) = St.locsL (s :: r.take k) + _
      rw [St.locsL_cons, St.locsL_cons, ih k (by simpa using h)]
      simp only [List.getElem_cons_succ]
      omega
theorem St.locsL_le : ∀ l : List St, St.locsL l ≤ 2 * St.sizes l := by
  refine blocks_ind fun l ih => ?_
  induction l with
  | nil => exact Int.le_refl _
  | cons s r ihr =>
    rw [St.locsL_cons]
    have := addS_nonneg s.kind
    obtain ⟨h1, h2⟩ := ih s (List.mem_cons_self ..)
    have h3 := ihr fun x hx => ih x (List.mem_cons_of_mem _ hx)
    have h4 := St.size_eq s
    show _ ≤ 2 * ((s.size + St.sizes r : Nat) : Int)
    omega

def LocsTC (l : List St) : Prop := ∀ (F : Nat → Prop) (w : World) (v : Value), Inn F w → St.sizes l ≤ 1000000 → Sts F w l v →
    Calls Tryz.prog 15 #[v] w (Gives w (.int .i64 (St.locsL l)))

set_option maxRecDepth 100000 in
set_option maxHeartbeats 2000000 in
theorem locsT_calls : ∀ l : List St, LocsTC l := by
  refine blocks_ind fun l ih => ?_
  intro F w v hF hsz hr
  obtain ⟨c, ⟨a, cap, rfl, hl, hc, ha⟩, hrow⟩ := hr
  unfold maxLen at hc
  have hlen : l.length ≤ St.sizes l := St.length_le l
  have hlen2 : l.length ≤ 1000000 := by omega
  go_enter Tryz.func15, Tryz.ntmps15
  go_wp2
  go_loopw [3, 8] (fun m i wr => ∃ k : Nat, k ≤ l.length ∧ i = .int .i64 k ∧ (∃ z : Int, m = .int .i64 z ∧ Hid (z = St.locsL (l.take k))) ∧ Below w.heap.size w wr) (fun _ i _ => l.length - (intOf i).toNat)
  case atStart => exact ⟨0, Nat.zero_le _, rfl, ⟨0, rfl, rfl⟩, Below.refl _ _⟩
  case round =>
    obtain ⟨k, hk, rfl, ⟨z, rfl, hz⟩, hB⟩ := hrel
    by_cases hlt : k < l.length
    · obtain ⟨b, off, rfl, hFb, hcell⟩ := ha (by omega)
      obtain ⟨kd', n', s', a', m', cap', a2, m2, cap2, a3, m3, cap3, hx, g0, g1, g2, g3, g4, g5⟩ := rows_at hcell hrow (hB.block b (hF b hFb)) k hlt
      clear ha hcell hrow
      have hs1 := St.sizes_take l k hlt
      have hs2 := St.sizes_take_le l (k + 1)
      have hs3 := St.size_eq l[k]
      obtain ⟨ihb, ihe⟩ := ih _ (List.getElem_mem hlt)
      have hI := hF.below hB
      obtain ⟨hkd, _, _, _, _, _, _, hxb, hxe⟩ := (hx.below hF hB (Nat.le_refl _)).parts
      have hcb : ∀ (p : Regrown), Calls Tryz.prog 15 #[.slice a2 m2 cap2] (grow (redrawn (wr.alloc (.cells #[.int .i64 kd', .int .i64 n', .string s', .slice a' m' cap', .slice a2 m2 cap2, .slice a3 m3 cap3] 60)) p.d) p.os) fun e w'' => e = .returned (.int .i64 (St.locsL (l[k]).body)) ∧ ∃ p : Regrown, w'' = grow (redrawn (wr.alloc (.cells #[.int .i64 kd', .int .i64 n', .string s', .slice a' m' cap', .slice a2 m2 cap2, .slice a3 m3 cap3] 60)) p.d) p.os :=
        fun p => regrown_gives (w := (wr.alloc (.cells #[.int .i64 kd', .int .i64 n', .string s', .slice a' m' cap', .slice a2 m2 cap2, .slice a3 m3 cap3] 60))) (fun w' hb => ihb F w' _ ((hI.alloc _).below hb) (by omega) ((hxb.alloc hI _).below (hI.alloc _) hb (Nat.le_refl _))) p
      have hce : ∀ (p : Regrown), Calls Tryz.prog 15 #[.slice a3 m3 cap3] (grow (redrawn (wr.alloc (.cells #[.int .i64 kd', .int .i64 n', .string s', .slice a' m' cap', .slice a2 m2 cap2, .slice a3 m3 cap3] 60)) p.d) p.os) fun e w'' => e = .returned (.int .i64 (St.locsL (l[k]).els)) ∧ ∃ p : Regrown, w'' = grow (redrawn (wr.alloc (.cells #[.int .i64 kd', .int .i64 n', .string s', .slice a' m' cap', .slice a2 m2 cap2, .slice a3 m3 cap3] 60)) p.d) p.os :=
        fun p => regrown_gives (w := (wr.alloc (.cells #[.int .i64 kd', .int .i64 n', .string s', .slice a' m' cap', .slice a2 m2 cap2, .slice a3 m3 cap3] 60))) (fun w' hb => ihe F w' _ ((hI.alloc _).below hb) (by omega) ((hxe.alloc hI _).below (hI.alloc _) hb (Nat.le_refl _))) p
      have hq4 : ∀ d os, (grow (redrawn (wr.alloc (.cells #[.int .i64 kd', .int .i64 n', .string s', .slice a' m' cap', .slice a2 m2 cap2, .slice a3 m3 cap3] 60)) d) os).cell? ⟨wr.heap.size, 4, none⟩ = some (.slice a2 m2 cap2) := fun d os => cell_regrown (w := (wr.alloc (.cells #[.int .i64 kd', .int .i64 n', .string s', .slice a' m' cap', .slice a2 m2 cap2, .slice a3 m3 cap3] 60))) (by simp) d os
      have hq5 : ∀ d os, (grow (redrawn (wr.alloc (.cells #[.int .i64 kd', .int .i64 n', .string s', .slice a' m' cap', .slice a2 m2 cap2, .slice a3 m3 cap3] 60)) d) os).cell? ⟨wr.heap.size, 5, none⟩ = some (.slice a3 m3 cap3) := fun d os => cell_regrown (w := (wr.alloc (.cells #[.int .i64 kd', .int .i64 n', .string s', .slice a' m' cap', .slice a2 m2 cap2, .slice a3 m3 cap3] 60))) (by simp) d os
      have hz2 := hz.out
      have hz3 := St.locsL_le (l.take k)
      have hz4 := St.locsL_nonneg (l.take k)
      have hz5 := St.locsL_le (l[k]).body
      have hz6 := St.locsL_nonneg (l[k]).body
      have hz7 := St.locsL_le (l[k]).els
      have hz8 := St.locsL_nonneg (l[k]).els
      have HS : Hid (St.locsL (l.take (k + 1)) = z + (addS kd' + St.locsL (l[k]).body + St.locsL (l[k]).els)) := by
        show _ = _
        rw [St.locsL_take l k hlt, hz.out, hkd]
      have q1 : 0 ≤ z := by omega
      have q2 : z ≤ 2000000 := by omega
      have q3 : 0 ≤ St.locsL (l[k]).body := hz6
      have q4 : St.locsL (l[k]).body ≤ 2000000 := by omega
      have q5 : 0 ≤ St.locsL (l[k]).els := hz8
      have q6 : St.locsL (l[k]).els ≤ 2000000 := by omega
      clear hz2 hz3 hz4 hz5 hz6 hz7 hz8 hz
      generalize St.locsL (l[k]).body = A at hcb q3 q4 HS
      generalize St.locsL (l[k]).els = E at hce q5 q6 HS
      have hcase : (kd' = 2 ∧ Hid (addS kd' = 1)) ∨ (kd' = 11 ∧ Hid (addS kd' = 2)) ∨ ((kd' == 2) = false ∧ (kd' == 11) = false ∧ Hid (addS kd' = 0)) := by
        unfold addS
        by_cases e2 : kd' = 2
        · exact .inl ⟨e2, if_pos e2⟩
        · by_cases e11 : kd' = 11
          · exact .inr (.inl ⟨e11, by show _ = _; rw [if_neg e2, if_pos e11]⟩)
          · exact .inr (.inr ⟨by simpa using e2, by simpa using e11, by show _ = _; rw [if_neg e2, if_neg e11]⟩)
      have HCb := Lib.hid hcb
      have HCe := Lib.hid hce
      clear ih hx hs1 hs2 hs3 hcb hce ihb ihe hxb hxe hsz hkd
      rcases hcase with ⟨rfl, hadd⟩ | ⟨rfl, hadd⟩ | ⟨e2, e11, hadd⟩
      all_goals (
        go_wp2_with fail
        refine wp_region_quiet_below (by kernel_rfl) (by kernel_rfl) ?_
        repeat (go_big_quiet_step (first | with_reducible exact HCb.out _ | with_reducible exact HCe.out _))
        refine wpQuiet_nil ?_
        intro w' hw'
        have hb := below_of_regrown hw'
        clear hw' HCb HCe
        go_wp2
        go_roundw
        case rel => exact ⟨k + 1, by omega, by go_num, ⟨_, rfl, by show _ = _; rw [HS.out, hadd.out]; omega⟩, below_on1 hB (Nat.le_refl _) hb⟩
        case measure => simp [intOf]; omega)
    · have : k = l.length := by omega
      subst this
      rw [List.take_length] at hz
      have hz0 := hz.out
      subst hz0
      go_wp2
      go_ret
      exact ⟨rfl, hB⟩


def LocsRC (l : List St) : Prop := ∀ (F : Nat → Prop) (w : World) (v : Value), Inn F w → St.sizes l ≤ 1000000 → Sts F w l v →
    Calls Tryz.prog 60 #[v] w (Gives w (.int .i64 (St.locsL l)))

set_option maxRecDepth 100000 in
set_option maxHeartbeats 2000000 in
theorem locsR_calls : ∀ l : List St, LocsRC l := by
  refine blocks_ind fun l ih => ?_
  intro F w v hF hsz hr
  obtain ⟨c, ⟨a, cap, rfl, hl, hc, ha⟩, hrow⟩ := hr
  unfold maxLen at hc
  have hlen : l.length ≤ St.sizes l := St.length_le l
  have hlen2 : l.length ≤ 1000000 := by omega
  go_enter Tryz.func60, Tryz.ntmps60
  go_wp2
  go_loopw [3, 4] (fun m i wr => ∃ k : Nat, k ≤ l.length ∧ i = .int .i64 k ∧ (∃ z : Int, m = .int .i64 z ∧ Hid (z = St.locsL (l.take k))) ∧ Below w.heap.size w wr) (fun _ i _ => l.length - (intOf i).toNat)
  case atStart => exact ⟨0, Nat.zero_le _, rfl, ⟨0, rfl, rfl⟩, Below.refl _ _⟩
  case round =>
    obtain ⟨k, hk, rfl, ⟨z, rfl, hz⟩, hB⟩ := hrel
    by_cases hlt : k < l.length
    · obtain ⟨b, off, rfl, hFb, hcell⟩ := ha (by omega)
      obtain ⟨kd', n', s', a', m', cap', a2, m2, cap2, a3, m3, cap3, hx, g0, g1, g2, g3, g4, g5⟩ := rows_at hcell hrow (hB.block b (hF b hFb)) k hlt
      clear ha hcell hrow
      have hs1 := St.sizes_take l k hlt
      have hs2 := St.sizes_take_le l (k + 1)
      have hs3 := St.size_eq l[k]
      obtain ⟨ihb, ihe⟩ := ih _ (List.getElem_mem hlt)
      have hI := hF.below hB
      obtain ⟨hkd, _, _, _, _, _, _, hxb, hxe⟩ := (hx.below hF hB (Nat.le_refl _)).parts
      have hcb : ∀ (p : Regrown), Calls Tryz.prog 60 #[.slice a2 m2 cap2] (grow (redrawn wr p.d) p.os) fun e w'' => e = .returned (.int .i64 (St.locsL (l[k]).body)) ∧ ∃ p : Regrown, w'' = grow (redrawn wr p.d) p.os :=
        fun p => regrown_gives (w := wr) (fun w' hb => ihb F w' _ (hI.below hb) (by omega) (hxb.below hI hb (Nat.le_refl _))) p
      have hce : ∀ (p : Regrown), Calls Tryz.prog 60 #[.slice a3 m3 cap3] (grow (redrawn wr p.d) p.os) fun e w'' => e = .returned (.int .i64 (St.locsL (l[k]).els)) ∧ ∃ p : Regrown, w'' = grow (redrawn wr p.d) p.os :=
        fun p => regrown_gives (w := wr) (fun w' hb => ihe F w' _ (hI.below hb) (by omega) (hxe.below hI hb (Nat.le_refl _))) p
      have hq4 : ∀ d os, (grow (redrawn wr d) os).cell? ⟨b, off + k * 6 + 4, none⟩ = some (.slice a2 m2 cap2) := fun d os => cell_regrown g4 d os
      have hq5 : ∀ d os, (grow (redrawn wr d) os).cell? ⟨b, off + k * 6 + 5, none⟩ = some (.slice a3 m3 cap3) := fun d os => cell_regrown g5 d os
      have hz2 := hz.out
      have hz3 := St.locsL_le (l.take k)
      have hz4 := St.locsL_nonneg (l.take k)
      have hz5 := St.locsL_le (l[k]).body
      have hz6 := St.locsL_nonneg (l[k]).body
      have hz7 := St.locsL_le (l[k]).els
      have hz8 := St.locsL_nonneg (l[k]).els
      have HS : Hid (St.locsL (l.take (k + 1)) = z + (addS kd' + St.locsL (l[k]).body + St.locsL (l[k]).els)) := by
        show _ = _
        rw [St.locsL_take l k hlt, hz.out, hkd]
      have q1 : 0 ≤ z := by omega
      have q2 : z ≤ 2000000 := by omega
      have q3 : 0 ≤ St.locsL (l[k]).body := hz6
      have q4 : St.locsL (l[k]).body ≤ 2000000 := by omega
      have q5 : 0 ≤ St.locsL (l[k]).els := hz8
      have q6 : St.locsL (l[k]).els ≤ 2000000 := by omega
      clear hz2 hz3 hz4 hz5 hz6 hz7 hz8 hz
      generalize St.locsL (l[k]).body = A at hcb q3 q4 HS
      generalize St.locsL (l[k]).els = E at hce q5 q6 HS
      have hcase : (kd' = 2 ∧ Hid (addS kd' = 1)) ∨ (kd' = 11 ∧ Hid (addS kd' = 2)) ∨ ((kd' == 2) = false ∧ (kd' == 11) = false ∧ Hid (addS kd' = 0)) := by
        unfold addS
        by_cases e2 : kd' = 2
        · exact .inl ⟨e2, if_pos e2⟩
        · by_cases e11 : kd' = 11
          · exact .inr (.inl ⟨e11, by show _ = _; rw [if_neg e2, if_pos e11]⟩)
          · exact .inr (.inr ⟨by simpa using e2, by simpa using e11, by show _ = _; rw [if_neg e2, if_neg e11]⟩)
      have HCb := Lib.hid hcb
      have HCe := Lib.hid hce
      clear ih hx hs1 hs2 hs3 hcb hce ihb ihe hxb hxe hsz hkd
      rcases hcase with ⟨rfl, hadd⟩ | ⟨rfl, hadd⟩ | ⟨e2, e11, hadd⟩
      all_goals (
        go_wp2_with fail
        refine wp_region_quiet_below (by kernel_rfl) (by kernel_rfl) ?_
        repeat (go_big_quiet_step (first | with_reducible exact HCb.out _ | with_reducible exact HCe.out _))
        refine wpQuiet_nil ?_
        intro w' hw'
        have hb := below_of_regrown hw'
        clear hw' HCb HCe
        go_wp2
        go_roundw
        case rel => exact ⟨k + 1, by omega, by go_num, ⟨_, rfl, by show _ = _; rw [HS.out, hadd.out]; omega⟩, below_on hB (Nat.le_refl _) hb⟩
        case measure => simp [intOf]; omega)
    · have : k = l.length := by omega
      subst this
      rw [List.take_length] at hz
      have hz0 := hz.out
      subst hz0
      go_wp2
      go_ret
      exact ⟨rfl, hB⟩

end Go.Proofs.YtblhpiebheommaaGreat
