/- The walk of names.Of. -/
import Derived.Test.YtblhpiebheommaaNames
namespace Go.Proofs.Ytblhpiebheommaa
open Go.RowKit

set_option maxRecDepth 20000 in
set_option maxHeartbeats 1000000 in
theorem ofT_calls (t : List NameD) (kind : Int) (n : ByteArray) (F : Nat → Prop) (w : World) (v : Value) (hF : Inn F w) (hr : RdNames F w t v) (hri : Rises t) (ht : t.length ≤ 1000000000000) :
    Calls Try.prog 76 #[v, .int .i64 kind, .string n] w (GivesTwo w (ofN t kind n)) := by
  have hf := findT_calls t n F w v hF hr hri ht
  obtain ⟨a, cap, rfl⟩ := hr.shape
  clear hr hri
  cases ho : findN t n with
  | none =>
    rw [ho] at hf
    have HC := Lib.hid (found_none hf)
    have hfin : Hid (ofN t kind n = (0, 11)) := by show _ = _; unfold ofN; rw [ho]
    clear hf ho
    go_enter Try.func76, Try.ntmps76
    go_wp2_with (go_at_call 75; refine HC.out.mono ?_; rintro e w1 ⟨rfl, hb⟩)
    go_ret2
    exact ⟨by rw [hfin.out]; rfl, (hb.alloc hb.size _)⟩
  | some x =>
    have hxn : n = x.name := (findN_some ho).2.symm
    subst hxn
    rw [ho] at hf
    have HC := Lib.hid (found_some hf)
    by_cases hk : x.kind = kind
    · have hfin : Hid (ofN t kind x.name = (x.num, 0)) := by show _ = _; unfold ofN; rw [ho]; simp [hk]
      clear hf ho
      subst hk
      go_enter Try.func76, Try.ntmps76
      go_wp2_with (go_at_call 75; refine HC.out.mono ?_; rintro e w1 ⟨rfl, hb⟩)
      go_ret2
      exact ⟨by rw [hfin.out]; rfl, (hb.alloc hb.size _)⟩
    · have hfin : Hid (ofN t kind x.name = (0, 12)) := by show _ = _; unfold ofN; rw [ho]; simp [hk]
      have e1 : (x.kind == kind) = false := by simpa using hk
      clear hf ho hk
      go_enter Try.func76, Try.ntmps76
      go_wp2_with (go_at_call 75; refine HC.out.mono ?_; rintro e w1 ⟨rfl, hb⟩)
      go_ret2
      exact ⟨by rw [hfin.out]; rfl, (hb.alloc hb.size _)⟩
end Go.Proofs.Ytblhpiebheommaa
