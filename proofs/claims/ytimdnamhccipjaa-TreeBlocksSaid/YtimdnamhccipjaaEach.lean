/- The walk of tree.each: whether all of a list are so, whatever function is asked. -/
import Derived.Test.YtimdnamhccipjaaShaped
namespace Go.Proofs.Ytimdnamhccipjaa
open Go.RowKit Go.Sort

/-- What the function value f (with what it has captured) tells of an expression, from world w on. -/
def Asks (F : Nat → Prop) (w : World) (f : Nat) (caps : Array Value) (x : Ex) (b : Bool) : Prop := ∀ (w' : World) (cs : List Value), Below w.heap.size w w' → RdEx F w' x cs → Calls Try.prog f (#[.agg cs.toArray] ++ caps) w' (Gives w' (.bool b))

set_option maxRecDepth 100000 in
set_option maxHeartbeats 1000000 in
theorem each_calls (F : Nat → Prop) (w : World) (f : Nat) (caps : Array Value) (l : List Ex) (v : Value) (P : Ex → Prop) (hF : Inn F w) (hr : Exs F w l v) (hcf : ∀ (args : Array Value) (w : World), (callFunc f args).run Try.prog w = .ok (.enter f args) w) (hf : ∀ x ∈ l, Asks F w f caps x (dec (P x))) :
    Calls Try.prog 102 #[v, .func (.func f) #[] caps] w (Gives w (.bool (dec (∀ x ∈ l, P x)))) := by
  obtain ⟨a, cap, rfl⟩ := hr.shape
  obtain ⟨_, hl, hc, ha⟩ := hr.opn
  go_enter Try.func102, Try.ntmps102
  go_wp2
  go_loopw [9] (fun i wr => ∃ (k : Nat), k ≤ l.length ∧ i = .int .i64 k ∧ Hid (∀ x ∈ l.take k, P x) ∧ Below w.heap.size w wr) (fun i _ => l.length - (intOf i).toNat)
  case atStart => exact ⟨0, Nat.zero_le _, rfl, by simp [Hid], Below.refl _ _⟩
  case round =>
    obtain ⟨k, hk, rfl, hq, hB⟩ := hrel
    by_cases hlt : k < l.length
    · obtain ⟨b, off, rfl, hFb, hel⟩ := ha (by omega)
      obtain ⟨kd', o', n', s', a', m', cap', hx, g0, g1, g2, g3, g4⟩ := hel wr (hB.block b (hF b hFb)) k hlt
      clear ha hel
      have hI := hF.below hB
      have hcall : ∀ o, Calls Try.prog f (#[.agg #[.int .i64 kd', .int .i64 o', .int .i64 n', .string s', .slice a' m' cap']] ++ caps) (wr.alloc o) (Gives (wr.alloc o) (.bool (dec (P l[k])))) := fun o =>
        hf _ (List.getElem_mem hlt) (wr.alloc o) _ (hB.alloc hB.size o) ((hx.below hF hB (Nat.le_refl _)).alloc hI o)
      have hte : l.take (k + 1) = l.take k ++ [l[k]] := List.take_succ_eq_append_getElem hlt
      by_cases hP : P l[k]
      · rw [dec_true hP] at hcall
        have hnx : Hid (∀ x ∈ l.take (k + 1), P x) := by
          show ∀ x ∈ l.take (k + 1), P x
          rw [hte]; intro x hx1
          rcases List.mem_append.1 hx1 with h | h
          · exact hq.out x h
          · rw [List.mem_singleton.1 h]; exact hP
        have HC := Lib.hid hcall
        clear hcall hx hf hte hP hq
        go_wp2_with ((with_reducible refine (HC.out _).mono ?_); rintro e w' ⟨rfl, hb⟩)
        go_roundw
        case rel => exact ⟨k + 1, by omega, by go_num, hnx, below_on1 hB (Nat.le_refl _) hb⟩
        case measure => simp [intOf]; omega
      · rw [dec_false hP] at hcall
        have hfin : Hid (dec (∀ x ∈ l, P x) = false) := dec_false (fun h => hP (h _ (List.getElem_mem hlt)))
        have HC := Lib.hid hcall
        clear hcall hx hf hte hP hq
        go_wp2_with ((with_reducible refine (HC.out _).mono ?_); rintro e w' ⟨rfl, hb⟩)
        go_ret
        exact ⟨ret_bool hfin.out.symm, below_on1 hB (Nat.le_refl _) hb⟩
    · have : k = l.length := by omega
      subst this
      have hfin : Hid (dec (∀ x ∈ l, P x) = true) := dec_true (by have := hq.out; rwa [List.take_length] at this)
      clear hq hf ha
      go_wp2
      go_ret
      exact ⟨ret_bool hfin.out.symm, hB⟩

end Go.Proofs.Ytimdnamhccipjaa
