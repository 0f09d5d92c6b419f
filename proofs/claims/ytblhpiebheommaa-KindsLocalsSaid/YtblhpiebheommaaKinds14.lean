/- The walks of kinds' whole: many; Check's closure. Printed by gen-kinds14.py. -/
import Derived.Test.YtblhpiebheommaaKinds13
namespace Go.Proofs.Ytblhpiebheommaa
open Go.RowKit

/-- How many there are of a part. -/
def manyN (s : SrcD) (p : Int) : Nat := if p = 1 then 1 else if p = 5 then s.objects.length else if p = 6 then s.verbs.length else if p = 7 then s.rules.length else if p = 8 then s.funcs.length else s.daemons.length

set_option maxRecDepth 100000 in
set_option maxHeartbeats 1000000 in
theorem many_calls (t : List NameD) (s : SrcD) (p : Int) (F : Nat → Prop) (w : World) (tv : Value) (ss : List Value) (h0 : RdNames F w t tv) (h1 : Holds.src.R F w s ss) :
    Calls Try.prog 43 #[.agg (tv :: ss).toArray, .int .i64 p] w (Gives w (.int .i64 (manyN s p))) := by
  obtain ⟨a0, c0, rfl⟩ := h0.shape
  obtain ⟨a5, c5, a6, c6, a7, c7, a8, c8, a9, c9, a10, c10, a11, c11, a12, c12, rfl, g5, g6, g7, g8, g9, g10, g11, g12⟩ := src_shape h1
  have hB1 : ∀ o, Below w.heap.size w (w.alloc o) := fun o => (Below.refl _ w).alloc (Nat.le_refl _) _
  have HB := Lib.hid hB1
  clear h0 h1 g5 g6 g7 g8 g9 g10 g11 g12 hB1
  unfold manyN
  by_cases h1 : p = 1
  · subst h1
    go_enter Try.func43, Try.ntmps43
    go_wp2
    go_ret
    exact ⟨rfl, HB.out _⟩
  have e1 : (p == 1) = false := by simpa using h1
  rw [if_neg h1]
  clear h1
  by_cases h5 : p = 5
  · subst h5
    go_enter Try.func43, Try.ntmps43
    go_wp2
    go_ret
    exact ⟨rfl, HB.out _⟩
  have e5 : (p == 5) = false := by simpa using h5
  rw [if_neg h5]
  clear h5
  by_cases h6 : p = 6
  · subst h6
    go_enter Try.func43, Try.ntmps43
    go_wp2
    go_ret
    exact ⟨rfl, HB.out _⟩
  have e6 : (p == 6) = false := by simpa using h6
  rw [if_neg h6]
  clear h6
  by_cases h7 : p = 7
  · subst h7
    go_enter Try.func43, Try.ntmps43
    go_wp2
    go_ret
    exact ⟨rfl, HB.out _⟩
  have e7 : (p == 7) = false := by simpa using h7
  rw [if_neg h7]
  clear h7
  by_cases h8 : p = 8
  · subst h8
    go_enter Try.func43, Try.ntmps43
    go_wp2
    go_ret
    exact ⟨rfl, HB.out _⟩
  have e8 : (p == 8) = false := by simpa using h8
  rw [if_neg h8]
  clear h8
  go_enter Try.func43, Try.ntmps43
  go_wp2
  go_ret
  exact ⟨rfl, HB.out _⟩

set_option maxRecDepth 100000 in
set_option maxHeartbeats 1000000 in
theorem check1_calls (t : List NameD) (s : SrcD) (part i : Int) (q : Int × ByteArray) (F : Nat → Prop) (w : World) (b0 b1 b2 : Nat) (tv : Value) (ss : List Value) (h0 : RdNames F w t tv) (h1 : Holds.src.R F w s ss) (hb0 : BoxAt w b0 (tv :: ss)) (hb1 : BoxAt w b1 [.int .i64 part]) (hb2 : BoxAt w b2 [.int .i64 i])
    (hc : Calls Try.prog 45 #[.agg (tv :: ss).toArray, .int .i64 part, .int .i64 i] w (Judged w q (.tuple #[]))) :
    Calls Try.prog 44 #[.pointer (some ⟨b0, 0, none⟩), .pointer (some ⟨b1, 0, none⟩), .pointer (some ⟨b2, 0, none⟩)] w (Judged w q (.tuple #[])) := by
  obtain ⟨a0, c0, rfl⟩ := h0.shape
  obtain ⟨a5, c5, a6, c6, a7, c7, a8, c8, a9, c9, a10, c10, a11, c11, a12, c12, rfl, g5, g6, g7, g8, g9, g10, g11, g12⟩ := src_shape h1

  have s0 := hb0.2 0 (by simp)
  have s1 := hb0.2 1 (by simp)
  have s2 := hb0.2 2 (by simp)
  have s3 := hb0.2 3 (by simp)
  have s4 := hb0.2 4 (by simp)
  have s5 := hb0.2 5 (by simp)
  have s6 := hb0.2 6 (by simp)
  have s7 := hb0.2 7 (by simp)
  have s8 := hb0.2 8 (by simp)
  have s9 := hb0.2 9 (by simp)
  have s10 := hb0.2 10 (by simp)
  have s11 := hb0.2 11 (by simp)
  have s12 := hb0.2 12 (by simp)
  have s13 := hb0.2 13 (by simp)
  simp only [List.getElem?_cons_succ, List.getElem?_cons_zero] at s0 s1 s2 s3 s4 s5 s6 s7 s8 s9 s10 s11 s12 s13
  have p0 := hb1.one
  have p1 := hb2.one
  clear h0 h1 g5 g6 g7 g8 g9 g10 g11 g12 hb0 hb1 hb2
  by_cases hq : q.1 = 0
  · have HC := Lib.hid (judged_ok hc hq)
    have HQ := Lib.hid hq
    clear hc hq
    go_enter Try.func44, Try.ntmps44
    go_wp2_with (go_at_call 45; refine HC.out.mono ?_; rintro e w1 ⟨rfl, hb⟩)
    go_end0
    exact Judged.fine HQ.out rfl hb
  · have HC := Lib.hid (judged_bad hc hq)
    have HQ := Lib.hid hq
    clear hc hq
    go_enter Try.func44, Try.ntmps44
    go_wp2_with (go_at_call 45; refine HC.out.mono ?_; rintro e w1 ⟨rfl, hb⟩)
    exact ⟨rfl, Judged.thrown rfl HQ.out rfl hb⟩
end Go.Proofs.Ytblhpiebheommaa
