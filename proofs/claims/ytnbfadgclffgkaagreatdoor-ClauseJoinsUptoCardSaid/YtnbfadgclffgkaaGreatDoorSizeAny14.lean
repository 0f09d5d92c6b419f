/- The walks of clewref10.Size and clewref10.SizeBlock at whatever expression and statements: each hands back some number. -/
import Derived.Test.YtnbfadgclffgkaaGreatDoorCells
import Derived.Deep.Slices
import Derived.Test.YtnbfadgclffgkaaGreatDoorPart2cdae13e
namespace Go.Proofs.YtnbfadgclffgkaaGreatDoor
open Go.RowKit Go.Sort
def SizeBAC (l : List St) : Prop := ∃ q : Int, ∀ (F : Nat → Prop) (w : World) (v : Value), Inn F w → Sts F w l v → Calls Tryz.prog 19 #[v] w (Gives w (.int .i64 q))
def sumTo (A E : Nat → Int) : Nat → Int
  | 0 => 0
  | k + 1 => IntKind.i64.wrap (sumTo A E k + IntKind.i64.wrap (IntKind.i64.wrap (1 + A k) + E k))
set_option maxRecDepth 100000 in
set_option maxHeartbeats 1000000 in
theorem sizeBA_calls : ∀ l : List St, SizeBAC l := by
  refine blocks_ind fun l ih => ?_
  obtain ⟨A, hA⟩ : ∃ A : Nat → Int, ∀ k (h : k < l.length) (F : Nat → Prop) (w : World) (v : Value), Inn F w → Sts F w (l[k]).body v → Calls Tryz.prog 19 #[v] w (Gives w (.int .i64 (A k))) := by
    obtain ⟨A, hA⟩ := Deep.choose_lt (α := Int) (n := l.length) (p := fun k q => ∀ (h : k < l.length) (F : Nat → Prop) (w : World) (v : Value), Inn F w → Sts F w (l[k]).body v → Calls Tryz.prog 19 #[v] w (Gives w (.int .i64 q))) (fun k h => (ih _ (List.getElem_mem h)).1.imp fun q hq _ => hq)
    exact ⟨A, fun k h => hA k h h⟩
  obtain ⟨E, hE⟩ : ∃ A : Nat → Int, ∀ k (h : k < l.length) (F : Nat → Prop) (w : World) (v : Value), Inn F w → Sts F w (l[k]).els v → Calls Tryz.prog 19 #[v] w (Gives w (.int .i64 (A k))) := by
    obtain ⟨A, hA⟩ := Deep.choose_lt (α := Int) (n := l.length) (p := fun k q => ∀ (h : k < l.length) (F : Nat → Prop) (w : World) (v : Value), Inn F w → Sts F w (l[k]).els v → Calls Tryz.prog 19 #[v] w (Gives w (.int .i64 q))) (fun k h => (ih _ (List.getElem_mem h)).2.imp fun q hq _ => hq)
    exact ⟨A, fun k h => hA k h h⟩
  refine ⟨sumTo A E l.length, fun F w v hF hr => ?_⟩
  obtain ⟨c, ⟨a, cap, rfl, hl, hc, ha⟩, hrow⟩ := hr
  unfold maxLen at hc
  clear ih
  go_enter Tryz.func19, Tryz.ntmps19
  go_wp2
  go_loopw [3, 8] (fun m i wr => ∃ k : Nat, k ≤ l.length ∧ i = .int .i64 k ∧ m = .int .i64 (sumTo A E k) ∧ Below w.heap.size w wr) (fun _ i _ => l.length - (intOf i).toNat)
  case atStart => exact ⟨0, Nat.zero_le _, rfl, rfl, Below.refl _ _⟩
  case round =>
    obtain ⟨k, hk, rfl, rfl, hB⟩ := hrel
    by_cases hlt : k < l.length
    · obtain ⟨b, off, rfl, hFb, hcell⟩ := ha (by omega)
      obtain ⟨kd', n', s', a', m', cap', a2, m2, cap2, a3, m3, cap3, hx, g0, g1, g2, g3, g4, g5⟩ := rows_at hcell hrow (hB.block b (hF b hFb)) k hlt
      clear ha hcell hrow
      have hI := hF.below hB
      obtain ⟨_, _, _, _, _, _, _, hxb, hxe⟩ := (hx.below hF hB (Nat.le_refl _)).parts
      have hcb : ∀ (o : Obj) (p : Regrown), Calls Tryz.prog 19 #[.slice a2 m2 cap2] (grow (redrawn (wr.alloc o) p.d) p.os) fun e w'' => e = .returned (.int .i64 (A k)) ∧ ∃ p : Regrown, w'' = grow (redrawn (wr.alloc o) p.d) p.os :=
        fun o p => regrown_gives (fun w' hb => hA k hlt F w' _ ((hI.alloc o).below hb) ((hxb.alloc hI o).below (hI.alloc o) hb (Nat.le_refl _))) p
      have hce : ∀ (o : Obj) (p : Regrown), Calls Tryz.prog 19 #[.slice a3 m3 cap3] (grow (redrawn (wr.alloc o) p.d) p.os) fun e w'' => e = .returned (.int .i64 (E k)) ∧ ∃ p : Regrown, w'' = grow (redrawn (wr.alloc o) p.d) p.os :=
        fun o p => regrown_gives (fun w' hb => hE k hlt F w' _ ((hI.alloc o).below hb) ((hxe.alloc hI o).below (hI.alloc o) hb (Nat.le_refl _))) p
      have hq : ∀ (d : Nat) (os : Array Obj) (j : Nat) (u : Value), (wr.alloc (.cells #[.int .i64 kd', .int .i64 n', .string s', .slice a' m' cap', .slice a2 m2 cap2, .slice a3 m3 cap3] 27)).cell? ⟨wr.heap.size, j, none⟩ = some u →
          (grow (redrawn (wr.alloc (.cells #[.int .i64 kd', .int .i64 n', .string s', .slice a' m' cap', .slice a2 m2 cap2, .slice a3 m3 cap3] 27)) d) os).cell? ⟨wr.heap.size, j, none⟩ = some u := fun d os j u h => cell_regrown h d os
      have hq4 := fun d os => hq d os 4 (.slice a2 m2 cap2) (by go_simp)
      have hq5 := fun d os => hq d os 5 (.slice a3 m3 cap3) (by go_simp)
      have HS : Hid (sumTo A E (k + 1) = IntKind.i64.wrap (sumTo A E k + IntKind.i64.wrap (IntKind.i64.wrap (1 + A k) + E k))) := rfl
      generalize A k = A1 at *
      generalize E k = E1 at *
      generalize sumTo A E k = T at *
      have HCb := Lib.hid hcb
      have HCe := Lib.hid hce
      clear hx hq hcb hce hxb hxe hA hE
      go_wp2
      refine wp_region_quiet_below (by kernel_rfl) (by kernel_rfl) ?_
      repeat (go_big_quiet_step (first | with_reducible exact HCb.out _ _ | with_reducible exact HCe.out _ _))
      refine wpQuiet_nil ?_
      intro w' hw'
      have hb := below_of_regrown hw'
      clear hw' hq4 hq5
      go_wp2
      go_roundw
      case rel => exact ⟨k + 1, by omega, by go_num, by rw [HS.out]; first | rfl | (simp only [IntKind.wrap_i64, wrap64]), below_on1 hB (Nat.le_refl _) hb⟩
      case measure => simp [intOf]; omega
    · go_wp2
      go_ret
      have : k = l.length := by omega
      subst this
      exact ⟨rfl, hB⟩
end Go.Proofs.YtnbfadgclffgkaaGreatDoor
