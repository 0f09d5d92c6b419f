/- The walks of tree.SizeBlock and clewref10.SizeBlock. -/
import Derived.Test.YtimdnamhccipjaaDeep
namespace Go.Proofs.Ytimdnamhccipjaa
open Go.RowKit Go.Sort

/-- A callee's contract in a world of the class 'some blocks laid, some draws', behind a drawn region's begin. -/
theorem regrown_gives {P : Program} {f : FuncId} {args : Array Value} {w : World} {v : Value} (h : ∀ w', Below w.heap.size w w' → Calls P f args w' (Gives w' v)) (p : Regrown) :
    Calls P f args (grow (redrawn w p.d) p.os) fun e w'' => e = .returned v ∧ ∃ p : Regrown, w'' = grow (redrawn w p.d) p.os :=
  Calls.regrown_of ((h _ (below_regrown w p.d p.os)).mono fun _ _ h => h)

theorem below_of_regrown {w w' : World} (h : ∃ p : Regrown, w' = grow (redrawn w p.d) p.os) : Below w.heap.size w w' := by
  obtain ⟨p, rfl⟩ := h
  exact below_regrown w p.d p.os

def SizeBTC (l : List St) : Prop := ∀ (F : Nat → Prop) (w : World) (v : Value), Inn F w → St.sizes l ≤ 1000000 → Sts F w l v →
    Calls Try.prog 29 #[v] w (Gives w (.int .i64 (St.sizes l)))

set_option maxRecDepth 100000 in
set_option maxHeartbeats 1000000 in
theorem sizeBT_calls : ∀ l : List St, SizeBTC l := by
  refine blocks_ind fun l ih => ?_
  intro F w v hF hsz hr
  obtain ⟨c, ⟨a, cap, rfl, hl, hc, ha⟩, hrow⟩ := hr
  unfold maxLen at hc
  have hlen : l.length ≤ St.sizes l := St.length_le l
  have hlen2 : l.length ≤ 1000000 := by omega
  go_enter Try.func29, Try.ntmps29
  go_wp2
  go_loopw [3, 10] (fun m i wr => ∃ k : Nat, k ≤ l.length ∧ i = .int .i64 k ∧ m = .int .i64 ((l.length - k + St.sizes (l.take k) : Nat) : Int) ∧ Below w.heap.size w wr) (fun _ i _ => l.length - (intOf i).toNat)
  case atStart => exact ⟨0, Nat.zero_le _, rfl, by simp [St.sizes], Below.refl _ _⟩
  case round =>
    obtain ⟨k, hk, rfl, rfl, hB⟩ := hrel
    by_cases hlt : k < l.length
    · obtain ⟨b, off, rfl, hFb, hcell⟩ := ha (by omega)
      obtain ⟨kd', n', s', a', m', cap', a2, m2, cap2, a3, m3, cap3, hx, g0, g1, g2, g3, g4, g5⟩ := rows_at hcell hrow (hB.block b (hF b hFb)) k hlt
      clear ha hcell hrow
      have hs1 := St.sizes_take l k hlt
      have hs2 := St.sizes_take_le l (k + 1)
      have hs3 := St.size_eq l[k]
      obtain ⟨ihb, ihe⟩ := ih _ (List.getElem_mem hlt)
      have hI := hF.below hB
      obtain ⟨_, _, _, _, _, _, _, hxb, hxe⟩ := (hx.below hF hB (Nat.le_refl _)).parts
      have hcb : ∀ (o : Obj) (p : Regrown), Calls Try.prog 29 #[.slice a2 m2 cap2] (grow (redrawn (wr.alloc o) p.d) p.os) fun e w'' => e = .returned (.int .i64 (St.sizes (l[k]).body)) ∧ ∃ p : Regrown, w'' = grow (redrawn (wr.alloc o) p.d) p.os :=
        fun o p => regrown_gives (fun w' hb => ihb F w' _ ((hI.alloc o).below hb) (by omega) ((hxb.alloc hI o).below (hI.alloc o) hb (Nat.le_refl _))) p
      have hce : ∀ (o : Obj) (p : Regrown), Calls Try.prog 29 #[.slice a3 m3 cap3] (grow (redrawn (wr.alloc o) p.d) p.os) fun e w'' => e = .returned (.int .i64 (St.sizes (l[k]).els)) ∧ ∃ p : Regrown, w'' = grow (redrawn (wr.alloc o) p.d) p.os :=
        fun o p => regrown_gives (fun w' hb => ihe F w' _ ((hI.alloc o).below hb) (by omega) ((hxe.alloc hI o).below (hI.alloc o) hb (Nat.le_refl _))) p
      have hq : ∀ (d : Nat) (os : Array Obj) (j : Nat) (u : Value), (wr.alloc (.cells #[.int .i64 kd', .int .i64 n', .string s', .slice a' m' cap', .slice a2 m2 cap2, .slice a3 m3 cap3] 62)).cell? ⟨wr.heap.size, j, none⟩ = some u →
          (grow (redrawn (wr.alloc (.cells #[.int .i64 kd', .int .i64 n', .string s', .slice a' m' cap', .slice a2 m2 cap2, .slice a3 m3 cap3] 62)) d) os).cell? ⟨wr.heap.size, j, none⟩ = some u := fun d os j u h => cell_regrown h d os
      have hq4 := fun d os => hq d os 4 (.slice a2 m2 cap2) (by go_simp)
      have hq5 := fun d os => hq d os 5 (.slice a3 m3 cap3) (by go_simp)
      generalize hA : St.sizes (l[k]).body = A at hcb
      generalize hE : St.sizes (l[k]).els = E at hce
      generalize hT : St.sizes (l.take k) = T
      have hA2 : A ≤ 1000000 := by omega
      have hE2 : E ≤ 1000000 := by omega
      have hT2 : T ≤ 1000000 := by omega
      have hlk : l.length - k ≤ 1000000 := by omega
      have HS : Hid (St.sizes (l.take (k + 1)) = T + (1 + A + E)) := by show St.sizes (l.take (k + 1)) = _; omega
      have HCb := Lib.hid hcb
      have HCe := Lib.hid hce
      clear ih hx hq hs1 hs2 hs3 hA hE hT hcb hce ihb ihe hxb hxe hsz
      go_wp2
      refine wp_region_quiet_below (by kernel_rfl) (by kernel_rfl) ?_
      repeat (go_big_quiet_step (first | with_reducible exact HCb.out _ _ | with_reducible exact HCe.out _ _))
      refine wpQuiet_nil ?_
      intro w' hw'
      have hb := below_of_regrown hw'
      clear hw' HCb HCe
      go_wp2
      go_roundw
      case rel => exact ⟨k + 1, by omega, by go_num, by rw [HS.out]; go_num, below_on1 hB (Nat.le_refl _) hb⟩
      case measure => simp [intOf]; omega
    · have : k = l.length := by omega
      subst this
      rw [List.take_length, Nat.sub_self, Nat.zero_add]
      go_wp2
      go_ret
      exact ⟨rfl, hB⟩

def SizeBRC (l : List St) : Prop := ∀ (F : Nat → Prop) (w : World) (v : Value), Inn F w → St.sizes l ≤ 1000000 → Sts F w l v →
    Calls Try.prog 41 #[v] w (Gives w (.int .i64 (St.sizes l)))

set_option maxRecDepth 100000 in
set_option maxHeartbeats 1000000 in
theorem sizeBR_calls : ∀ l : List St, SizeBRC l := by
  refine blocks_ind fun l ih => ?_
  intro F w v hF hsz hr
  obtain ⟨c, ⟨a, cap, rfl, hl, hc, ha⟩, hrow⟩ := hr
  unfold maxLen at hc
  have hlen : l.length ≤ St.sizes l := St.length_le l
  have hlen2 : l.length ≤ 1000000 := by omega
  go_enter Try.func41, Try.ntmps41
  go_wp2
  go_loopw [3, 8] (fun m i wr => ∃ k : Nat, k ≤ l.length ∧ i = .int .i64 k ∧ m = .int .i64 ((St.sizes (l.take k) : Nat) : Int) ∧ Below w.heap.size w wr) (fun _ i _ => l.length - (intOf i).toNat)
  case atStart => exact ⟨0, Nat.zero_le _, rfl, by simp [St.sizes], Below.refl _ _⟩
  case round =>
    obtain ⟨k, hk, rfl, rfl, hB⟩ := hrel
    by_cases hlt : k < l.length
    · obtain ⟨b, off, rfl, hFb, hcell⟩ := ha (by omega)
      obtain ⟨kd', n', s', a', m', cap', a2, m2, cap2, a3, m3, cap3, hx, g0, g1, g2, g3, g4, g5⟩ := rows_at hcell hrow (hB.block b (hF b hFb)) k hlt
      clear ha hcell hrow
      have hs1 := St.sizes_take l k hlt
      have hs2 := St.sizes_take_le l (k + 1)
      have hs3 := St.size_eq l[k]
      obtain ⟨ihb, ihe⟩ := ih _ (List.getElem_mem hlt)
      have hI := hF.below hB
      obtain ⟨_, _, _, _, _, _, _, hxb, hxe⟩ := (hx.below hF hB (Nat.le_refl _)).parts
      have hcb : ∀ (o : Obj) (p : Regrown), Calls Try.prog 41 #[.slice a2 m2 cap2] (grow (redrawn (wr.alloc o) p.d) p.os) fun e w'' => e = .returned (.int .i64 (St.sizes (l[k]).body)) ∧ ∃ p : Regrown, w'' = grow (redrawn (wr.alloc o) p.d) p.os :=
        fun o p => regrown_gives (fun w' hb => ihb F w' _ ((hI.alloc o).below hb) (by omega) ((hxb.alloc hI o).below (hI.alloc o) hb (Nat.le_refl _))) p
      have hce : ∀ (o : Obj) (p : Regrown), Calls Try.prog 41 #[.slice a3 m3 cap3] (grow (redrawn (wr.alloc o) p.d) p.os) fun e w'' => e = .returned (.int .i64 (St.sizes (l[k]).els)) ∧ ∃ p : Regrown, w'' = grow (redrawn (wr.alloc o) p.d) p.os :=
        fun o p => regrown_gives (fun w' hb => ihe F w' _ ((hI.alloc o).below hb) (by omega) ((hxe.alloc hI o).below (hI.alloc o) hb (Nat.le_refl _))) p
      have hq : ∀ (d : Nat) (os : Array Obj) (j : Nat) (u : Value), (wr.alloc (.cells #[.int .i64 kd', .int .i64 n', .string s', .slice a' m' cap', .slice a2 m2 cap2, .slice a3 m3 cap3] 62)).cell? ⟨wr.heap.size, j, none⟩ = some u →
          (grow (redrawn (wr.alloc (.cells #[.int .i64 kd', .int .i64 n', .string s', .slice a' m' cap', .slice a2 m2 cap2, .slice a3 m3 cap3] 62)) d) os).cell? ⟨wr.heap.size, j, none⟩ = some u := fun d os j u h => cell_regrown h d os
      have hq4 := fun d os => hq d os 4 (.slice a2 m2 cap2) (by go_simp)
      have hq5 := fun d os => hq d os 5 (.slice a3 m3 cap3) (by go_simp)
      generalize hA : St.sizes (l[k]).body = A at hcb
      generalize hE : St.sizes (l[k]).els = E at hce
      generalize hT : St.sizes (l.take k) = T
      have hA2 : A ≤ 1000000 := by omega
      have hE2 : E ≤ 1000000 := by omega
      have hT2 : T ≤ 1000000 := by omega
      have HS : Hid (St.sizes (l.take (k + 1)) = T + (1 + A + E)) := by show St.sizes (l.take (k + 1)) = _; omega
      have HCb := Lib.hid hcb
      have HCe := Lib.hid hce
      clear ih hx hq hs1 hs2 hs3 hA hE hT hcb hce ihb ihe hxb hxe hsz
      go_wp2
      refine wp_region_quiet_below (by kernel_rfl) (by kernel_rfl) ?_
      repeat (go_big_quiet_step (first | with_reducible exact HCb.out _ _ | with_reducible exact HCe.out _ _))
      refine wpQuiet_nil ?_
      intro w' hw'
      have hb := below_of_regrown hw'
      clear hw' HCb HCe
      go_wp2
      go_roundw
      case rel => exact ⟨k + 1, by omega, by go_num, by rw [HS.out]; go_num, below_on1 hB (Nat.le_refl _) hb⟩
      case measure => simp [intOf]; omega
    · have : k = l.length := by omega
      subst this
      rw [List.take_length]
      go_wp2
      go_ret
      exact ⟨rfl, hB⟩

end Go.Proofs.Ytimdnamhccipjaa
