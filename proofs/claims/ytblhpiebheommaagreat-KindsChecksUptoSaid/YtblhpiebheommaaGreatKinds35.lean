/- The walk of a whole's check at each part, and kinds.Check of any source. Printed by gen-kinds35.py. -/
import Derived.Test.YtblhpiebheommaaGreatKindsChecksPart38
import Derived.Test.YtblhpiebheommaaGreatKindsChecksPart28
namespace Go.Proofs.YtblhpiebheommaaGreat
open Go.RowKit

set_option maxRecDepth 100000 in
set_option maxHeartbeats 2000000 in
theorem chk6_calls (t : List NameD) (s : SrcD) (i : Int) (q : Int × ByteArray) (F : Nat → Prop) (w : World) (tv : Value) (ss : List Value) (h0 : RdNames F w t tv) (h1 : Holds.src.R F w s ss)
    (hc : ∀ W, Below w.heap.size w W → Calls Tryz.prog 46 #[.agg (tv :: ss).toArray, .int .i64 i] W (Judged W q (.tuple #[]))) :
    Calls Tryz.prog 24 #[.agg (tv :: ss).toArray, .int .i64 6, .int .i64 i] w (Judged w q (.tuple #[])) := by
  obtain ⟨a0, c0, rfl⟩ := h0.shape
  obtain ⟨a5, c5, a6, c6, a7, c7, a8, c8, a9, c9, a10, c10, a11, c11, a12, c12, rfl, g5, g6, g7, g8, g9, g10, g11, g12⟩ := src_shape h1
  have hB := (Below.refl w.heap.size w).alloc (Nat.le_refl _) (.cells #[.slice a0 t.length c0, .string s.title, .string s.author, .string s.start, .int .i64 s.release, .int .i64 s.most, .slice a5 s.flags.length c5, .slice a6 s.props.length c6, .slice a7 s.globals.length c7, .slice a8 s.objects.length c8, .slice a9 s.verbs.length c9, .slice a10 s.rules.length c10, .slice a11 s.funcs.length c11, .slice a12 s.daemons.length c12] 73)
  have hc1 := hc _ hB
  have HB := Lib.hid hB
  clear hc h0 h1 g5 g6 g7 g8 g9 g10 g11 g12
  by_cases hq : q.1 = 0
  · have HC := Lib.hid (judged_ok hc1 hq)
    have HQ := Lib.hid hq
    clear hc1 hq
    go_enter Tryz.func24, Tryz.ntmps24
    go_wp2_with (go_at_call 46; refine HC.out.mono ?_; rintro e w1 ⟨rfl, hb⟩)
    go_end0
    exact Judged.fine HQ.out rfl (HB.out.trans (hb.mono HB.out.size))
  · have HC := Lib.hid (judged_bad hc1 hq)
    have HQ := Lib.hid hq
    clear hc1 hq
    go_enter Tryz.func24, Tryz.ntmps24
    go_wp2_with (go_at_call 46; refine HC.out.mono ?_; rintro e w1 ⟨rfl, hb⟩)
    exact ⟨rfl, Judged.thrown rfl HQ.out rfl (HB.out.trans (hb.mono HB.out.size))⟩

set_option maxRecDepth 100000 in
set_option maxHeartbeats 2000000 in
theorem chk7_calls (t : List NameD) (s : SrcD) (i : Int) (q : Int × ByteArray) (F : Nat → Prop) (w : World) (tv : Value) (ss : List Value) (h0 : RdNames F w t tv) (h1 : Holds.src.R F w s ss)
    (hc : ∀ W, Below w.heap.size w W → Calls Tryz.prog 47 #[.agg (tv :: ss).toArray, .int .i64 i] W (Judged W q (.tuple #[]))) :
    Calls Tryz.prog 24 #[.agg (tv :: ss).toArray, .int .i64 7, .int .i64 i] w (Judged w q (.tuple #[])) := by
  obtain ⟨a0, c0, rfl⟩ := h0.shape
  obtain ⟨a5, c5, a6, c6, a7, c7, a8, c8, a9, c9, a10, c10, a11, c11, a12, c12, rfl, g5, g6, g7, g8, g9, g10, g11, g12⟩ := src_shape h1
  have hB := (Below.refl w.heap.size w).alloc (Nat.le_refl _) (.cells #[.slice a0 t.length c0, .string s.title, .string s.author, .string s.start, .int .i64 s.release, .int .i64 s.most, .slice a5 s.flags.length c5, .slice a6 s.props.length c6, .slice a7 s.globals.length c7, .slice a8 s.objects.length c8, .slice a9 s.verbs.length c9, .slice a10 s.rules.length c10, .slice a11 s.funcs.length c11, .slice a12 s.daemons.length c12] 73)
  have hc1 := hc _ hB
  have HB := Lib.hid hB
  clear hc h0 h1 g5 g6 g7 g8 g9 g10 g11 g12
  by_cases hq : q.1 = 0
  · have HC := Lib.hid (judged_ok hc1 hq)
    have HQ := Lib.hid hq
    clear hc1 hq
    go_enter Tryz.func24, Tryz.ntmps24
    go_wp2_with (go_at_call 47; refine HC.out.mono ?_; rintro e w1 ⟨rfl, hb⟩)
    go_end0
    exact Judged.fine HQ.out rfl (HB.out.trans (hb.mono HB.out.size))
  · have HC := Lib.hid (judged_bad hc1 hq)
    have HQ := Lib.hid hq
    clear hc1 hq
    go_enter Tryz.func24, Tryz.ntmps24
    go_wp2_with (go_at_call 47; refine HC.out.mono ?_; rintro e w1 ⟨rfl, hb⟩)
    exact ⟨rfl, Judged.thrown rfl HQ.out rfl (HB.out.trans (hb.mono HB.out.size))⟩

set_option maxRecDepth 100000 in
set_option maxHeartbeats 2000000 in
theorem chk8_calls (t : List NameD) (s : SrcD) (i : Int) (q : Int × ByteArray) (F : Nat → Prop) (w : World) (tv : Value) (ss : List Value) (h0 : RdNames F w t tv) (h1 : Holds.src.R F w s ss)
    (hc : ∀ W, Below w.heap.size w W → Calls Tryz.prog 48 #[.agg (tv :: ss).toArray, .int .i64 i] W (Judged W q (.tuple #[]))) :
    Calls Tryz.prog 24 #[.agg (tv :: ss).toArray, .int .i64 8, .int .i64 i] w (Judged w q (.tuple #[])) := by
  obtain ⟨a0, c0, rfl⟩ := h0.shape
  obtain ⟨a5, c5, a6, c6, a7, c7, a8, c8, a9, c9, a10, c10, a11, c11, a12, c12, rfl, g5, g6, g7, g8, g9, g10, g11, g12⟩ := src_shape h1
  have hB := (Below.refl w.heap.size w).alloc (Nat.le_refl _) (.cells #[.slice a0 t.length c0, .string s.title, .string s.author, .string s.start, .int .i64 s.release, .int .i64 s.most, .slice a5 s.flags.length c5, .slice a6 s.props.length c6, .slice a7 s.globals.length c7, .slice a8 s.objects.length c8, .slice a9 s.verbs.length c9, .slice a10 s.rules.length c10, .slice a11 s.funcs.length c11, .slice a12 s.daemons.length c12] 73)
  have hc1 := hc _ hB
  have HB := Lib.hid hB
  clear hc h0 h1 g5 g6 g7 g8 g9 g10 g11 g12
  by_cases hq : q.1 = 0
  · have HC := Lib.hid (judged_ok hc1 hq)
    have HQ := Lib.hid hq
    clear hc1 hq
    go_enter Tryz.func24, Tryz.ntmps24
    go_wp2_with (go_at_call 48; refine HC.out.mono ?_; rintro e w1 ⟨rfl, hb⟩)
    go_end0
    exact Judged.fine HQ.out rfl (HB.out.trans (hb.mono HB.out.size))
  · have HC := Lib.hid (judged_bad hc1 hq)
    have HQ := Lib.hid hq
    clear hc1 hq
    go_enter Tryz.func24, Tryz.ntmps24
    go_wp2_with (go_at_call 48; refine HC.out.mono ?_; rintro e w1 ⟨rfl, hb⟩)
    exact ⟨rfl, Judged.thrown rfl HQ.out rfl (HB.out.trans (hb.mono HB.out.size))⟩

set_option maxRecDepth 100000 in
set_option maxHeartbeats 2000000 in
theorem chk9_calls (t : List NameD) (s : SrcD) (i : Int) (q : Int × ByteArray) (F : Nat → Prop) (w : World) (tv : Value) (ss : List Value) (h0 : RdNames F w t tv) (h1 : Holds.src.R F w s ss)
    (hc : ∀ W, Below w.heap.size w W → Calls Tryz.prog 49 #[.agg (tv :: ss).toArray, .int .i64 i] W (Judged W q (.tuple #[]))) :
    Calls Tryz.prog 24 #[.agg (tv :: ss).toArray, .int .i64 9, .int .i64 i] w (Judged w q (.tuple #[])) := by
  obtain ⟨a0, c0, rfl⟩ := h0.shape
  obtain ⟨a5, c5, a6, c6, a7, c7, a8, c8, a9, c9, a10, c10, a11, c11, a12, c12, rfl, g5, g6, g7, g8, g9, g10, g11, g12⟩ := src_shape h1
  have hB := (Below.refl w.heap.size w).alloc (Nat.le_refl _) (.cells #[.slice a0 t.length c0, .string s.title, .string s.author, .string s.start, .int .i64 s.release, .int .i64 s.most, .slice a5 s.flags.length c5, .slice a6 s.props.length c6, .slice a7 s.globals.length c7, .slice a8 s.objects.length c8, .slice a9 s.verbs.length c9, .slice a10 s.rules.length c10, .slice a11 s.funcs.length c11, .slice a12 s.daemons.length c12] 73)
  have hc1 := hc _ hB
  have HB := Lib.hid hB
  clear hc h0 h1 g5 g6 g7 g8 g9 g10 g11 g12
  by_cases hq : q.1 = 0
  · have HC := Lib.hid (judged_ok hc1 hq)
    have HQ := Lib.hid hq
    clear hc1 hq
    go_enter Tryz.func24, Tryz.ntmps24
    go_wp2_with (go_at_call 49; refine HC.out.mono ?_; rintro e w1 ⟨rfl, hb⟩)
    go_end0
    exact Judged.fine HQ.out rfl (HB.out.trans (hb.mono HB.out.size))
  · have HC := Lib.hid (judged_bad hc1 hq)
    have HQ := Lib.hid hq
    clear hc1 hq
    go_enter Tryz.func24, Tryz.ntmps24
    go_wp2_with (go_at_call 49; refine HC.out.mono ?_; rintro e w1 ⟨rfl, hb⟩)
    exact ⟨rfl, Judged.thrown rfl HQ.out rfl (HB.out.trans (hb.mono HB.out.size))⟩

/-- What is wrong with one of a part of a source. -/
noncomputable def checkW (t : List NameD) (s : SrcD) (p : Int) (i : Nat) : Int × ByteArray :=
  if p = 1 then roomW t s.objects s.start
  else if p = 5 then (match s.objects[i]? with | some o => objW t s.funcs s.objects i o | none => fineW)
  else if p = 6 then (match s.verbs[i]? with | some o => verbW o | none => fineW)
  else if p = 7 then (match s.rules[i]? with | some o => ruleW t s.funcs o | none => fineW)
  else if p = 8 then (match s.funcs[i]? with | some o => funcW t s.funcs o | none => fineW)
  else (match s.daemons[i]? with | some o => St.kWs t s.funcs 9 [] 0 o.body | none => fineW)

set_option maxRecDepth 100000 in
theorem check_calls (t : List NameD) (s : SrcD) (F : Nat → Prop) (w : World) (tv : Value) (ss : List Value) (hF : Inn F w) (hri : Rises t) (ht : t.length ≤ 1000000000000) (htab : TabOk t s.funcs s.objects.length) (h0 : RdNames F w t tv) (h1 : Holds.src.R F w s ss) (hm : MX w) (hpar : ∀ f ∈ s.funcs, f.params.length ≤ 1000) (p : Int) (i : Nat) (hp : p ∈ parts6) (hi : i < manyN s p) :
    Calls Tryz.prog 24 #[.agg (tv :: ss).toArray, .int .i64 p, .int .i64 i] w (Judged w (checkW t s p i) (.tuple #[])) := by
  have hk0 := fun W (hW : Below w.heap.size w W) => h0.below hF hW (Nat.le_refl _)
  have hk1 := fun W (hW : Below w.heap.size w W) => Holds.below _ h1 hF hW (Nat.le_refl _)
  unfold parts6 at hp
  simp only [List.mem_cons, List.not_mem_nil, or_false] at hp
  unfold checkW
  rcases hp with rfl | rfl | rfl | rfl | rfl | rfl
  · rw [if_pos rfl]
    exact chk1_calls t s i _ F w tv ss h0 h1 fun W hW => room_calls t s s.start F W tv ss (hF.below hW) hri ht htab (hk0 W hW) (hk1 W hW)
  · rw [if_neg (by decide), if_pos rfl]
    have hi : i < s.objects.length := hi
    rw [List.getElem?_eq_getElem hi]
    exact chk5_calls t s i _ F w tv ss h0 h1 fun W hW => object_calls t s i _ F W tv ss (hF.below hW) hri ht htab (hk0 W hW) (hk1 W hW) (List.getElem?_eq_getElem hi)
  · rw [if_neg (by decide), if_neg (by decide), if_pos rfl]
    have hi : i < s.verbs.length := hi
    rw [List.getElem?_eq_getElem hi]
    exact chk6_calls t s i _ F w tv ss h0 h1 fun W hW => verb_calls t s i _ F W tv ss (hF.below hW) (hk0 W hW) (hk1 W hW) (List.getElem?_eq_getElem hi)
  · rw [if_neg (by decide), if_neg (by decide), if_neg (by decide), if_pos rfl]
    have hi : i < s.rules.length := hi
    rw [List.getElem?_eq_getElem hi]
    exact chk7_calls t s i _ F w tv ss h0 h1 fun W hW => rule_calls t s i _ F W tv ss (hF.below hW) hri ht htab (hk0 W hW) (hk1 W hW) (List.getElem?_eq_getElem hi)
  · rw [if_neg (by decide), if_neg (by decide), if_neg (by decide), if_neg (by decide), if_pos rfl]
    have hi : i < s.funcs.length := hi
    rw [List.getElem?_eq_getElem hi]
    exact chk8_calls t s i _ F w tv ss h0 h1 fun W hW => function_calls t s i _ F W tv ss (hF.below hW) hri ht htab (hk0 W hW) (hk1 W hW) (hm.below hW (Nat.le_refl _)) (List.getElem?_eq_getElem hi) (hpar _ (List.getElem_mem hi))
  · rw [if_neg (by decide), if_neg (by decide), if_neg (by decide), if_neg (by decide), if_neg (by decide)]
    have hi : i < s.daemons.length := hi
    rw [List.getElem?_eq_getElem hi]
    exact chk9_calls t s i _ F w tv ss h0 h1 fun W hW => daemon_calls t s i _ F W tv ss (hF.below hW) hri ht htab (hk0 W hW) (hk1 W hW) (List.getElem?_eq_getElem hi)

theorem kCheckAll_calls (t : List NameD) (s : SrcD) (F : Nat → Prop) (w : World) (tv : Value) (ss : List Value) (hF : Inn F w) (hri : Rises t) (ht : t.length ≤ 1000000000000) (htab : TabOk t s.funcs s.objects.length) (h0 : RdNames F w t tv) (h1 : Holds.src.R F w s ss) (hm : MX w) (hpar : ∀ f ∈ s.funcs, f.params.length ≤ 1000) :
    Calls Tryz.prog 7 #[.agg ss.toArray, tv] w (Gives w (faultV (checkW t s) (firstBad (checkW t s) (pairsOf s parts6)))) :=
  kCheck_calls t s (checkW t s) F w tv ss hF h0 h1 fun p i W hp hi hW => check_calls t s F W tv ss (hF.below hW) hri ht htab (h0.below hF hW (Nat.le_refl _)) (Holds.below _ h1 hF hW (Nat.le_refl _)) (hm.below hW (Nat.le_refl _)) hpar p i hp hi
end Go.Proofs.YtblhpiebheommaaGreat
