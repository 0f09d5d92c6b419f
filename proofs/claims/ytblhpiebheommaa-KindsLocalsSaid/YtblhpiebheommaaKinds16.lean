/- The walks of kinds' whole that its example wants: an object of which nothing is told; check of the story and of an object. Printed by gen-kinds16.py. -/
import Derived.Test.YtblhpiebheommaaKinds15
namespace Go.Proofs.Ytblhpiebheommaa
open Go.RowKit

set_option maxRecDepth 100000 in
theorem words_nil (a : Option Addr) (c : Nat) (w : World) : Calls Try.prog 83 #[.slice a 0 c] w (fun e w' => e = .returned (.tuple #[]) ∧ w = w') := by
  go_enter Try.func83, Try.ntmps83
  go_wp2
  go_loop [6] (fun i => i = .int .i64 0) (fun _ => 0)
  case atStart => rfl
  case round =>
    subst hrel
    go_wp2
    go_end0
    exact ⟨rfl, rfl⟩

/-- An object of which nothing is told. -/
def ObjD.bare (o : ObjD) : Prop := o.inn = ⟨#[]⟩ ∧ o.words = [] ∧ o.adjs = [] ∧ o.flags = [] ∧ o.props = [] ∧ o.exits = []

set_option maxRecDepth 100000 in
set_option maxHeartbeats 2000000 in
theorem obare_calls (t : List NameD) (s : SrcD) (i : Nat) (F : Nat → Prop) (w : World) (tv : Value) (ss : List Value) (hF : Inn F w) (h0 : RdNames F w t tv) (h1 : Holds.src.R F w s ss) (hi : i < s.objects.length) (hb : s.objects[i].bare) :
    Calls Try.prog 69 #[.agg (tv :: ss).toArray, .int .i64 i] w (Judged w fineW (.tuple #[])) := by
  obtain ⟨a0, c0, rfl⟩ := h0.shape
  obtain ⟨a5, c5, a6, c6, a7, c7, a8, c8, a9, c9, a10, c10, a11, c11, a12, c12, rfl, g5, g6, g7, g8, g9, g10, g11, g12⟩ := src_shape h1
  obtain ⟨_, _, he8, hl8, hc8, h8⟩ := g8.opn
  cases he8
  obtain ⟨ob, off, rfl, hFob, hel⟩ := h8 (by omega)
  obtain ⟨b1, b2, b3, b4, b5, b6⟩ := hb
  have hW : Below w.heap.size w (w.alloc (.cells #[.slice a0 t.length c0, .string s.title, .string s.author, .string s.start, .int .i64 s.release, .int .i64 s.most, .slice a5 s.flags.length c5, .slice a6 s.props.length c6, .slice a7 s.globals.length c7, .slice (some ⟨ob, off, none⟩) s.objects.length c8, .slice a9 s.verbs.length c9, .slice a10 s.rules.length c10, .slice a11 s.funcs.length c11, .slice a12 s.daemons.length c12] 91)) := (Below.refl _ w).alloc (Nat.le_refl _) _
  obtain ⟨cs, ⟨-, -, -, -, v5, v6, v7, v8, v9, rfl, k5, k6, k7, k8, k9⟩, -, hcell⟩ := hel _ (hW.block ob (hF ob hFob)) i hi
  obtain ⟨d5, f5, rfl⟩ := k5.shape
  obtain ⟨d6, f6, rfl⟩ := k6.shape
  obtain ⟨d7, f7, rfl⟩ := k7.shape
  obtain ⟨d8, f8, rfl⟩ := k8.shape
  obtain ⟨d9, f9, rfl⟩ := k9.shape
  generalize s.objects[i] = o at *
  have hh : o.words.length = 0 ∧ o.adjs.length = 0 ∧ o.flags.length = 0 ∧ o.props.length = 0 ∧ o.exits.length = 0 := by rw [b2, b3, b4, b5, b6]; simp
  obtain ⟨l2, l3, l4, l5, l6⟩ := hh
  rw [l2, l3, l4, l5, l6, b1] at hcell
  have q0 := hcell 0 _ rfl
  have q1 := hcell 1 _ rfl
  have q2 := hcell 2 _ rfl
  have q3 := hcell 3 _ rfl
  have q4 := hcell 4 _ rfl
  have q5 := hcell 5 _ rfl
  have q6 := hcell 6 _ rfl
  have q7 := hcell 7 _ rfl
  have q8 := hcell 8 _ rfl
  have q9 := hcell 9 _ rfl
  simp only [Nat.add_zero] at q0
  have HW := Lib.hid (fun a c w => words_nil a c w)
  have hil : (i : Int) < (s.objects.length : Int) := by omega
  have hi0 : (0 : Int) ≤ (i : Int) := by omega
  have hcap : c8 ≤ 9223372036854775807 := by unfold maxLen at hc8; omega
  have HB := Lib.hid hW
  clear hcell hel h8 k5 k6 k7 k8 k9 g5 g6 g7 g8 g9 g10 g11 g12 h0 h1 b1 b2 b3 b4 b5 b6 l2 l3 l4 l5 l6 hW hc8
  go_enter Try.func69, Try.ntmps69
  go_wp2_with (go_at_call 83; refine (HW.out _ _ _).mono ?_; rintro e w1 ⟨rfl, rfl⟩)
  go_loop [43] (fun i => i = .int .i64 0) (fun _ => 0)
  case atStart => rfl
  case round =>
    subst hrel
    go_wp2
    go_loop [55] (fun i => i = .int .i64 0) (fun _ => 0)
    case atStart => rfl
    case round =>
      subst hrel
      go_wp2
      go_loop [68] (fun i => i = .int .i64 0) (fun _ => 0)
      case atStart => rfl
      case round =>
        subst hrel
        go_wp2
        go_end0
        exact Judged.fine rfl rfl (HB.out.alloc (by simp) _)

set_option maxRecDepth 100000 in
set_option maxHeartbeats 2000000 in
theorem chk1_calls (t : List NameD) (s : SrcD) (i : Int) (q : Int × ByteArray) (F : Nat → Prop) (w : World) (tv : Value) (ss : List Value) (h0 : RdNames F w t tv) (h1 : Holds.src.R F w s ss)
    (hc : ∀ W, Below w.heap.size w W → Calls Try.prog 68 #[.agg (tv :: ss).toArray, .string s.start] W (Judged W q (.tuple #[]))) :
    Calls Try.prog 45 #[.agg (tv :: ss).toArray, .int .i64 1, .int .i64 i] w (Judged w q (.tuple #[])) := by
  obtain ⟨a0, c0, rfl⟩ := h0.shape
  obtain ⟨a5, c5, a6, c6, a7, c7, a8, c8, a9, c9, a10, c10, a11, c11, a12, c12, rfl, g5, g6, g7, g8, g9, g10, g11, g12⟩ := src_shape h1
  have hB := (Below.refl w.heap.size w).alloc (Nat.le_refl _) (.cells #[.slice a0 t.length c0, .string s.title, .string s.author, .string s.start, .int .i64 s.release, .int .i64 s.most, .slice a5 s.flags.length c5, .slice a6 s.props.length c6, .slice a7 s.globals.length c7, .slice a8 s.objects.length c8, .slice a9 s.verbs.length c9, .slice a10 s.rules.length c10, .slice a11 s.funcs.length c11, .slice a12 s.daemons.length c12] 91)
  have hc1 := hc _ hB
  have HB := Lib.hid hB
  clear hc h0 h1 g5 g6 g7 g8 g9 g10 g11 g12
  by_cases hq : q.1 = 0
  · have HC := Lib.hid (judged_ok hc1 hq)
    have HQ := Lib.hid hq
    clear hc1 hq
    go_enter Try.func45, Try.ntmps45
    go_wp2_with (go_at_call 68; refine HC.out.mono ?_; rintro e w1 ⟨rfl, hb⟩)
    go_end0
    exact Judged.fine HQ.out rfl (HB.out.trans (hb.mono HB.out.size))
  · have HC := Lib.hid (judged_bad hc1 hq)
    have HQ := Lib.hid hq
    clear hc1 hq
    go_enter Try.func45, Try.ntmps45
    go_wp2_with (go_at_call 68; refine HC.out.mono ?_; rintro e w1 ⟨rfl, hb⟩)
    exact ⟨rfl, Judged.thrown rfl HQ.out rfl (HB.out.trans (hb.mono HB.out.size))⟩

set_option maxRecDepth 100000 in
set_option maxHeartbeats 2000000 in
theorem chk5_calls (t : List NameD) (s : SrcD) (i : Int) (q : Int × ByteArray) (F : Nat → Prop) (w : World) (tv : Value) (ss : List Value) (h0 : RdNames F w t tv) (h1 : Holds.src.R F w s ss)
    (hc : ∀ W, Below w.heap.size w W → Calls Try.prog 69 #[.agg (tv :: ss).toArray, .int .i64 i] W (Judged W q (.tuple #[]))) :
    Calls Try.prog 45 #[.agg (tv :: ss).toArray, .int .i64 5, .int .i64 i] w (Judged w q (.tuple #[])) := by
  obtain ⟨a0, c0, rfl⟩ := h0.shape
  obtain ⟨a5, c5, a6, c6, a7, c7, a8, c8, a9, c9, a10, c10, a11, c11, a12, c12, rfl, g5, g6, g7, g8, g9, g10, g11, g12⟩ := src_shape h1
  have hB := (Below.refl w.heap.size w).alloc (Nat.le_refl _) (.cells #[.slice a0 t.length c0, .string s.title, .string s.author, .string s.start, .int .i64 s.release, .int .i64 s.most, .slice a5 s.flags.length c5, .slice a6 s.props.length c6, .slice a7 s.globals.length c7, .slice a8 s.objects.length c8, .slice a9 s.verbs.length c9, .slice a10 s.rules.length c10, .slice a11 s.funcs.length c11, .slice a12 s.daemons.length c12] 91)
  have hc1 := hc _ hB
  have HB := Lib.hid hB
  clear hc h0 h1 g5 g6 g7 g8 g9 g10 g11 g12
  by_cases hq : q.1 = 0
  · have HC := Lib.hid (judged_ok hc1 hq)
    have HQ := Lib.hid hq
    clear hc1 hq
    go_enter Try.func45, Try.ntmps45
    go_wp2_with (go_at_call 69; refine HC.out.mono ?_; rintro e w1 ⟨rfl, hb⟩)
    go_end0
    exact Judged.fine HQ.out rfl (HB.out.trans (hb.mono HB.out.size))
  · have HC := Lib.hid (judged_bad hc1 hq)
    have HQ := Lib.hid hq
    clear hc1 hq
    go_enter Try.func45, Try.ntmps45
    go_wp2_with (go_at_call 69; refine HC.out.mono ?_; rintro e w1 ⟨rfl, hb⟩)
    exact ⟨rfl, Judged.thrown rfl HQ.out rfl (HB.out.trans (hb.mono HB.out.size))⟩
end Go.Proofs.Ytblhpiebheommaa
