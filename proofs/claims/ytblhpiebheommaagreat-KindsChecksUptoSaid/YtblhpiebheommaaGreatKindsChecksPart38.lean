/- The walk of kinds.Check. Printed by gen-kinds15.py. -/
import Derived.Test.YtblhpiebheommaaGreatKindsChecksPart33
import Derived.Test.YtblhpiebheommaaGreatMake
namespace Go.Proofs.YtblhpiebheommaaGreat
open Go.RowKit

/-- All that is checked, in its order. -/
def pairsOf (s : SrcD) (ps : List Int) : List (Int × Nat) := ps.flatMap fun p => (List.range (manyN s p)).map fun i => (p, i)
/-- The first of which something is wrong. -/
def firstBad (f : Int → Nat → Int × ByteArray) : List (Int × Nat) → Option (Int × Nat)
  | [] => none
  | x :: r => if (f x.1 x.2).1 = 0 then firstBad f r else some x
theorem firstBad_fine (f : Int → Nat → Int × ByteArray) (x : Int × Nat) (r : List (Int × Nat)) (h : (f x.1 x.2).1 = 0) : firstBad f (x :: r) = firstBad f r := if_pos h
theorem firstBad_bad (f : Int → Nat → Int × ByteArray) (x : Int × Nat) (r : List (Int × Nat)) (h : (f x.1 x.2).1 ≠ 0) : firstBad f (x :: r) = some x := if_neg h
def faultV (f : Int → Nat → Int × ByteArray) : Option (Int × Nat) → Value
  | none => .agg #[.int .i64 0, .int .i64 0, .int .i64 0, .string ⟨#[]⟩]
  | some x => .agg #[.int .i64 (f x.1 x.2).1, .int .i64 x.1, .int .i64 x.2, .string (f x.1 x.2).2]
def parts6 : List Int := [1, 5, 6, 7, 8, 9]

set_option maxRecDepth 100000 in
set_option maxHeartbeats 8000000 in
theorem kCheck_calls (t : List NameD) (s : SrcD) (f : Int → Nat → Int × ByteArray) (F : Nat → Prop) (w : World) (tv : Value) (ss : List Value) (hF : Inn F w) (h0 : RdNames F w t tv) (h1 : Holds.src.R F w s ss)
    (hchk : ∀ (p : Int) (i : Nat) (W : World), p ∈ parts6 → i < manyN s p → Below w.heap.size w W → Calls Tryz.prog 24 #[.agg (tv :: ss).toArray, .int .i64 p, .int .i64 i] W (Judged W (f p i) (.tuple #[]))) :
    Calls Tryz.prog 7 #[.agg ss.toArray, tv] w (Gives w (faultV f (firstBad f (pairsOf s parts6)))) := by
  have hmf : ∀ (fn : Fn) (first cap : Array Value) (w : World), (Instr.makeFunc fn first cap).run Tryz.prog w = .ok (.func fn first cap) w := fun _ _ _ _ => rfl
  have H0 := Lib.hid h0
  have H1 := Lib.hid h1
  have HM := Lib.hid (fun p W (hW : Below w.heap.size w W) => many_calls t s p F W tv ss (h0.below hF hW (Nat.le_refl _)) (Holds.below _ h1 hF hW (Nat.le_refl _)))
  obtain ⟨a0, c0, rfl⟩ := h0.shape
  obtain ⟨a5, c5, a6, c6, a7, c7, a8, c8, a9, c9, a10, c10, a11, c11, a12, c12, rfl, g5, g6, g7, g8, g9, g10, g11, g12⟩ := src_shape h1
  have hW0 : Below w.heap.size w ((((w.alloc (.cells #[.string s.title, .string s.author, .string s.start, .int .i64 s.release, .int .i64 s.most, .slice a5 s.flags.length c5, .slice a6 s.props.length c6, .slice a7 s.globals.length c7, .slice a8 s.objects.length c8, .slice a9 s.verbs.length c9, .slice a10 s.rules.length c10, .slice a11 s.funcs.length c11, .slice a12 s.daemons.length c12] 29)).alloc (.cells #[.int .i64 0, .int .i64 0, .int .i64 0, .string ⟨#[]⟩] 35)).alloc (.cells #[.slice a0 t.length c0, .string s.title, .string s.author, .string s.start, .int .i64 s.release, .int .i64 s.most, .slice a5 s.flags.length c5, .slice a6 s.props.length c6, .slice a7 s.globals.length c7, .slice a8 s.objects.length c8, .slice a9 s.verbs.length c9, .slice a10 s.rules.length c10, .slice a11 s.funcs.length c11, .slice a12 s.daemons.length c12] 73)).alloc (.cells #[.int .i64 1, .int .i64 5, .int .i64 6, .int .i64 7, .int .i64 8, .int .i64 9] 3)) := ((((Below.refl _ w).alloc (Nat.le_refl _) _).alloc (by simp) _).alloc (by simp <;> omega) _).alloc (by simp <;> omega) _
  have hcount : Hid (∀ p, manyN s p ≤ 9223372036854775807) := fun p => by
    have := g8.len; have := g9.len; have := g10.len; have := g11.len; have := g12.len
    unfold manyN
    unfold maxLen at *
    repeat' split
    all_goals omega
  have hfl : FaultAt ((((w.alloc (.cells #[.string s.title, .string s.author, .string s.start, .int .i64 s.release, .int .i64 s.most, .slice a5 s.flags.length c5, .slice a6 s.props.length c6, .slice a7 s.globals.length c7, .slice a8 s.objects.length c8, .slice a9 s.verbs.length c9, .slice a10 s.rules.length c10, .slice a11 s.funcs.length c11, .slice a12 s.daemons.length c12] 29)).alloc (.cells #[.int .i64 0, .int .i64 0, .int .i64 0, .string ⟨#[]⟩] 35)).alloc (.cells #[.slice a0 t.length c0, .string s.title, .string s.author, .string s.start, .int .i64 s.release, .int .i64 s.most, .slice a5 s.flags.length c5, .slice a6 s.props.length c6, .slice a7 s.globals.length c7, .slice a8 s.objects.length c8, .slice a9 s.verbs.length c9, .slice a10 s.rules.length c10, .slice a11 s.funcs.length c11, .slice a12 s.daemons.length c12] 73)).alloc (.cells #[.int .i64 1, .int .i64 5, .int .i64 6, .int .i64 7, .int .i64 8, .int .i64 9] 3)) (w.heap.size + 1) := by
    have := fault_new (w.alloc (.cells #[.string s.title, .string s.author, .string s.start, .int .i64 s.release, .int .i64 s.most, .slice a5 s.flags.length c5, .slice a6 s.props.length c6, .slice a7 s.globals.length c7, .slice a8 s.objects.length c8, .slice a9 s.verbs.length c9, .slice a10 s.rules.length c10, .slice a11 s.funcs.length c11, .slice a12 s.daemons.length c12] 29))
    rw [show (w.alloc (.cells #[.string s.title, .string s.author, .string s.start, .int .i64 s.release, .int .i64 s.most, .slice a5 s.flags.length c5, .slice a6 s.props.length c6, .slice a7 s.globals.length c7, .slice a8 s.objects.length c8, .slice a9 s.verbs.length c9, .slice a10 s.rules.length c10, .slice a11 s.funcs.length c11, .slice a12 s.daemons.length c12] 29)).heap.size = w.heap.size + 1 by simp] at this
    exact fault_kept (D := ((w.alloc (.cells #[.string s.title, .string s.author, .string s.start, .int .i64 s.release, .int .i64 s.most, .slice a5 s.flags.length c5, .slice a6 s.props.length c6, .slice a7 s.globals.length c7, .slice a8 s.objects.length c8, .slice a9 s.verbs.length c9, .slice a10 s.rules.length c10, .slice a11 s.funcs.length c11, .slice a12 s.daemons.length c12] 29)).alloc (.cells #[.int .i64 0, .int .i64 0, .int .i64 0, .string ⟨#[]⟩] 35)).heap.size) this (by simp) (((Below.refl _ _).alloc (Nat.le_refl _) _).alloc (by simp) _)
  have hbx : BoxAt ((((w.alloc (.cells #[.string s.title, .string s.author, .string s.start, .int .i64 s.release, .int .i64 s.most, .slice a5 s.flags.length c5, .slice a6 s.props.length c6, .slice a7 s.globals.length c7, .slice a8 s.objects.length c8, .slice a9 s.verbs.length c9, .slice a10 s.rules.length c10, .slice a11 s.funcs.length c11, .slice a12 s.daemons.length c12] 29)).alloc (.cells #[.int .i64 0, .int .i64 0, .int .i64 0, .string ⟨#[]⟩] 35)).alloc (.cells #[.slice a0 t.length c0, .string s.title, .string s.author, .string s.start, .int .i64 s.release, .int .i64 s.most, .slice a5 s.flags.length c5, .slice a6 s.props.length c6, .slice a7 s.globals.length c7, .slice a8 s.objects.length c8, .slice a9 s.verbs.length c9, .slice a10 s.rules.length c10, .slice a11 s.funcs.length c11, .slice a12 s.daemons.length c12] 73)).alloc (.cells #[.int .i64 1, .int .i64 5, .int .i64 6, .int .i64 7, .int .i64 8, .int .i64 9] 3)) (w.heap.size + 1 + 1) [.slice a0 t.length c0, .string s.title, .string s.author, .string s.start, .int .i64 s.release, .int .i64 s.most, .slice a5 s.flags.length c5, .slice a6 s.props.length c6, .slice a7 s.globals.length c7, .slice a8 s.objects.length c8, .slice a9 s.verbs.length c9, .slice a10 s.rules.length c10, .slice a11 s.funcs.length c11, .slice a12 s.daemons.length c12] := by
    have := (BoxAt.new ((w.alloc (.cells #[.string s.title, .string s.author, .string s.start, .int .i64 s.release, .int .i64 s.most, .slice a5 s.flags.length c5, .slice a6 s.props.length c6, .slice a7 s.globals.length c7, .slice a8 s.objects.length c8, .slice a9 s.verbs.length c9, .slice a10 s.rules.length c10, .slice a11 s.funcs.length c11, .slice a12 s.daemons.length c12] 29)).alloc (.cells #[.int .i64 0, .int .i64 0, .int .i64 0, .string ⟨#[]⟩] 35)) [.slice a0 t.length c0, .string s.title, .string s.author, .string s.start, .int .i64 s.release, .int .i64 s.most, .slice a5 s.flags.length c5, .slice a6 s.props.length c6, .slice a7 s.globals.length c7, .slice a8 s.objects.length c8, .slice a9 s.verbs.length c9, .slice a10 s.rules.length c10, .slice a11 s.funcs.length c11, .slice a12 s.daemons.length c12] 73).below ((Below.refl _ _).alloc (Nat.le_refl _) (.cells #[.int .i64 1, .int .i64 5, .int .i64 6, .int .i64 7, .int .i64 8, .int .i64 9] 3)) (by simp)
    rw [show ((w.alloc (.cells #[.string s.title, .string s.author, .string s.start, .int .i64 s.release, .int .i64 s.most, .slice a5 s.flags.length c5, .slice a6 s.props.length c6, .slice a7 s.globals.length c7, .slice a8 s.objects.length c8, .slice a9 s.verbs.length c9, .slice a10 s.rules.length c10, .slice a11 s.funcs.length c11, .slice a12 s.daemons.length c12] 29)).alloc (.cells #[.int .i64 0, .int .i64 0, .int .i64 0, .string ⟨#[]⟩] 35)).heap.size = w.heap.size + 1 + 1 by simp] at this
    exact this
  have hints : RdL Holds.int 1 (fun b => b = w.heap.size + 1 + 1 + 1) ((((w.alloc (.cells #[.string s.title, .string s.author, .string s.start, .int .i64 s.release, .int .i64 s.most, .slice a5 s.flags.length c5, .slice a6 s.props.length c6, .slice a7 s.globals.length c7, .slice a8 s.objects.length c8, .slice a9 s.verbs.length c9, .slice a10 s.rules.length c10, .slice a11 s.funcs.length c11, .slice a12 s.daemons.length c12] 29)).alloc (.cells #[.int .i64 0, .int .i64 0, .int .i64 0, .string ⟨#[]⟩] 35)).alloc (.cells #[.slice a0 t.length c0, .string s.title, .string s.author, .string s.start, .int .i64 s.release, .int .i64 s.most, .slice a5 s.flags.length c5, .slice a6 s.props.length c6, .slice a7 s.globals.length c7, .slice a8 s.objects.length c8, .slice a9 s.verbs.length c9, .slice a10 s.rules.length c10, .slice a11 s.funcs.length c11, .slice a12 s.daemons.length c12] 73)).alloc (.cells #[.int .i64 1, .int .i64 5, .int .i64 6, .int .i64 7, .int .i64 8, .int .i64 9] 3)) parts6 (.slice (some ⟨w.heap.size + 1 + 1 + 1, 0, none⟩) 6 6) := by
    have := built_ints (((w.alloc (.cells #[.string s.title, .string s.author, .string s.start, .int .i64 s.release, .int .i64 s.most, .slice a5 s.flags.length c5, .slice a6 s.props.length c6, .slice a7 s.globals.length c7, .slice a8 s.objects.length c8, .slice a9 s.verbs.length c9, .slice a10 s.rules.length c10, .slice a11 s.funcs.length c11, .slice a12 s.daemons.length c12] 29)).alloc (.cells #[.int .i64 0, .int .i64 0, .int .i64 0, .string ⟨#[]⟩] 35)).alloc (.cells #[.slice a0 t.length c0, .string s.title, .string s.author, .string s.start, .int .i64 s.release, .int .i64 s.most, .slice a5 s.flags.length c5, .slice a6 s.props.length c6, .slice a7 s.globals.length c7, .slice a8 s.objects.length c8, .slice a9 s.verbs.length c9, .slice a10 s.rules.length c10, .slice a11 s.funcs.length c11, .slice a12 s.daemons.length c12] 73)) [1, 5, 6, 7, 8, 9] (by simp) (by simp [I64])
    rw [show (((w.alloc (.cells #[.string s.title, .string s.author, .string s.start, .int .i64 s.release, .int .i64 s.most, .slice a5 s.flags.length c5, .slice a6 s.props.length c6, .slice a7 s.globals.length c7, .slice a8 s.objects.length c8, .slice a9 s.verbs.length c9, .slice a10 s.rules.length c10, .slice a11 s.funcs.length c11, .slice a12 s.daemons.length c12] 29)).alloc (.cells #[.int .i64 0, .int .i64 0, .int .i64 0, .string ⟨#[]⟩] 35)).alloc (.cells #[.slice a0 t.length c0, .string s.title, .string s.author, .string s.start, .int .i64 s.release, .int .i64 s.most, .slice a5 s.flags.length c5, .slice a6 s.props.length c6, .slice a7 s.globals.length c7, .slice a8 s.objects.length c8, .slice a9 s.verbs.length c9, .slice a10 s.rules.length c10, .slice a11 s.funcs.length c11, .slice a12 s.daemons.length c12] 73)).heap.size = w.heap.size + 1 + 1 + 1 by simp] at this
    exact this
  have hA : Hid (∃ W0, ((((w.alloc (.cells #[.string s.title, .string s.author, .string s.start, .int .i64 s.release, .int .i64 s.most, .slice a5 s.flags.length c5, .slice a6 s.props.length c6, .slice a7 s.globals.length c7, .slice a8 s.objects.length c8, .slice a9 s.verbs.length c9, .slice a10 s.rules.length c10, .slice a11 s.funcs.length c11, .slice a12 s.daemons.length c12] 29)).alloc (.cells #[.int .i64 0, .int .i64 0, .int .i64 0, .string ⟨#[]⟩] 35)).alloc (.cells #[.slice a0 t.length c0, .string s.title, .string s.author, .string s.start, .int .i64 s.release, .int .i64 s.most, .slice a5 s.flags.length c5, .slice a6 s.props.length c6, .slice a7 s.globals.length c7, .slice a8 s.objects.length c8, .slice a9 s.verbs.length c9, .slice a10 s.rules.length c10, .slice a11 s.funcs.length c11, .slice a12 s.daemons.length c12] 73)).alloc (.cells #[.int .i64 1, .int .i64 5, .int .i64 6, .int .i64 7, .int .i64 8, .int .i64 9] 3)) = W0 ∧ Below w.heap.size w W0 ∧ W0.heap.size = w.heap.size + 4 ∧ FaultAt W0 (w.heap.size + 1) ∧ BoxAt W0 (w.heap.size + 1 + 1) [.slice a0 t.length c0, .string s.title, .string s.author, .string s.start, .int .i64 s.release, .int .i64 s.most, .slice a5 s.flags.length c5, .slice a6 s.props.length c6, .slice a7 s.globals.length c7, .slice a8 s.objects.length c8, .slice a9 s.verbs.length c9, .slice a10 s.rules.length c10, .slice a11 s.funcs.length c11, .slice a12 s.daemons.length c12] ∧ RdL Holds.int 1 (fun b => b = w.heap.size + 1 + 1 + 1) W0 parts6 (.slice (some ⟨w.heap.size + 1 + 1 + 1, 0, none⟩) 6 6)) := ⟨_, rfl, hW0, by simp, hfl, hbx, hints⟩
  have HCK := Lib.hid hchk
  have HF := Lib.hid hF
  clear hchk hW0 hfl hbx hints h0 h1 g5 g6 g7 g8 g9 g10 g11 g12 hF
  generalize hR : firstBad f (pairsOf s parts6) = R
  have HR := Lib.hid hR
  clear hR
  go_enter Tryz.func7, Tryz.ntmps7
  go_upto_block 0 with fail
  obtain ⟨W0, hW0, hB0, hz0, hfl, hbx, hints⟩ := hA.out
  rw [hW0]
  clear hA hW0
  have HB0 := Lib.hid hB0
  have HFL := Lib.hid hfl
  have hbr := Lib.hid hbx
  obtain ⟨_, _, hie, -, -, hia⟩ := hints.opn
  cases hie
  clear hints hfl hbx hB0
  go_wp2_with fail
  go_loopw [16] (fun i wr => ∃ kk : Nat, kk ≤ 6 ∧ i = .int .i64 kk ∧ Hid (R = firstBad f (pairsOf s (parts6.drop kk))) ∧ Below W0.heap.size W0 wr) (fun i _ => 6 - (intOf i).toNat)
  case atStart => exact ⟨0, by omega, rfl, HR.out.symm, Below.refl _ _⟩
  case round =>
    obtain ⟨kk, hk, rfl, hq, hB⟩ := hrel
    by_cases hlt : kk < 6
    · obtain ⟨b, off, hbo, hbb, hel⟩ := hia (by decide)
      cases hbo
      obtain ⟨cs, ⟨hi64, rfl⟩, -, hcell⟩ := hel wr (hB.block _ (by omega)) kk hlt
      have p0 := hcell 0 _ rfl
      simp only [Nat.add_zero, Nat.mul_one, Nat.zero_add] at p0
      have hmem : parts6[kk] ∈ parts6 := List.getElem_mem hlt
      have hdrop : pairsOf s (parts6.drop kk) = (List.range (manyN s parts6[kk])).map (fun i => (parts6[kk], i)) ++ pairsOf s (parts6.drop (kk + 1)) := by
        rw [List.drop_eq_getElem_cons hlt]; rfl
      rw [hdrop] at hq
      generalize parts6[kk] = p at p0 hmem hq hi64
      obtain ⟨wo, hwo⟩ : ∃ wo : World, wo = wr := ⟨_, rfl⟩
      rw [← hwo] at hB p0 ⊢
      clear hwo wr hcell hel hia hdrop
      have hBw : Below w.heap.size w wo := HB0.out.trans (hB.mono HB0.out.size)
      have hA2 : Hid (∃ wb, wo.alloc (.cells #[.int .i64 p] 3) = wb ∧ Below wo.heap.size wo wb ∧ wo.heap.size < wb.heap.size ∧ BoxAt wb wo.heap.size [.int .i64 p] ∧ BoxAt wb (w.heap.size + 1 + 1) [.slice a0 t.length c0, .string s.title, .string s.author, .string s.start, .int .i64 s.release, .int .i64 s.most, .slice a5 s.flags.length c5, .slice a6 s.props.length c6, .slice a7 s.globals.length c7, .slice a8 s.objects.length c8, .slice a9 s.verbs.length c9, .slice a10 s.rules.length c10, .slice a11 s.funcs.length c11, .slice a12 s.daemons.length c12]) := ⟨_, rfl, (Below.refl _ _).alloc (Nat.le_refl _) _, by simp, BoxAt.new _ _ _, (hbr.out.below hB (by omega)).below ((Below.refl _ _).alloc (Nat.le_refl _) _) (by have := hB.size; omega)⟩
      have hwo2 := hB.size
      have HBw := Lib.hid hBw
      have HBo := Lib.hid hB
      clear hB hBw
      go_upto_region 5 with fail
      obtain ⟨wb, hwb, hBb, hzb, hpb, hwhb⟩ := hA2.out
      rw [hwb]
      clear hA2 hwb p0
      have pb0 := hpb.one
      have HPB := Lib.hid hpb
      have HWB := Lib.hid hwhb
      have HMM := Lib.hid (HM.out p wb (HBw.out.trans (hBb.mono HBw.out.size)))
      have x0 := hwhb.2 0 (by simp)
      have x1 := hwhb.2 1 (by simp)
      have x2 := hwhb.2 2 (by simp)
      have x3 := hwhb.2 3 (by simp)
      have x4 := hwhb.2 4 (by simp)
      have x5 := hwhb.2 5 (by simp)
      have x6 := hwhb.2 6 (by simp)
      have x7 := hwhb.2 7 (by simp)
      have x8 := hwhb.2 8 (by simp)
      have x9 := hwhb.2 9 (by simp)
      have x10 := hwhb.2 10 (by simp)
      have x11 := hwhb.2 11 (by simp)
      have x12 := hwhb.2 12 (by simp)
      have x13 := hwhb.2 13 (by simp)
      simp only [List.getElem?_cons_succ, List.getElem?_cons_zero] at x0 x1 x2 x3 x4 x5 x6 x7 x8 x9 x10 x11 x12 x13
      clear hpb hwhb
      have hMb := hcount.out p
      obtain ⟨M, hMe⟩ : ∃ M, M = manyN s p := ⟨_, rfl⟩
      have HME := Lib.hid hMe
      rw [← hMe] at hMb hq HMM
      clear hMe
      go_wp2_with (go_at_call 21; refine HMM.out.mono ?_; rintro e w1 ⟨rfl, hb1⟩)
      clear x0 x1 x2 x3 x4 x5 x6 x7 x8 x9 x10 x11 x12 x13
      have hBb1 : Below wb.heap.size wb w1 := hb1
      go_loopw [23] (fun j wr => ∃ jj : Nat, jj ≤ M ∧ j = .int .i64 jj ∧ Hid (R = firstBad f (((List.range M).drop jj).map (fun i => (p, i)) ++ pairsOf s (parts6.drop (kk + 1)))) ∧ Below wb.heap.size wb wr) (fun j _ => M - (intOf j).toNat)
      case atStart => exact ⟨0, Nat.zero_le _, rfl, hq, hBb1⟩
      case round =>
        obtain ⟨jj, hj, rfl, hjq, hBr⟩ := hrel
        by_cases hlt2 : jj < M
        · have hd2 : ((List.range M).drop jj).map (fun i => (p, i)) ++ pairsOf s (parts6.drop (kk + 1)) = (p, jj) :: (((List.range M).drop (jj + 1)).map (fun i => (p, i)) ++ pairsOf s (parts6.drop (kk + 1))) := by
            rw [List.drop_eq_getElem_cons (by simpa using hlt2)]; simp
          have hBw3 : Below wo.heap.size wo wr := hBb.trans (hBr.mono hBb.size)
          have hcall : ∀ (W : World), Below (wr.alloc (.cells #[.int .i64 jj] 3)).heap.size (wr.alloc (.cells #[.int .i64 jj] 3)) W → Calls Tryz.prog 23 #[.pointer (some ⟨w.heap.size + 1 + 1, 0, none⟩), .pointer (some ⟨wo.heap.size, 0, none⟩), .pointer (some ⟨wr.heap.size, 0, none⟩)] W (Judged W (f p jj) (.tuple #[])) := fun W hW => by
            have ha : Below wr.heap.size wr (wr.alloc (.cells #[.int .i64 jj] 3)) := (Below.refl _ _).alloc (Nat.le_refl _) _
            have hW1 : Below wr.heap.size wr W := ha.trans (hW.mono ha.size)
            have hW2 : Below wb.heap.size wb W := hBr.trans (hW1.mono hBr.size)
            have hW3 : Below w.heap.size w W := HBw.out.trans ((hBb.trans (hW2.mono hBb.size)).mono HBw.out.size)
            exact check1_calls t s p jj (f p jj) F W _ _ _ _ _ (H0.out.below HF.out hW3 (Nat.le_refl _)) (Holds.below _ H1.out HF.out hW3 (Nat.le_refl _)) (HWB.out.below hW2 (by omega)) (HPB.out.below hW2 hzb) ((BoxAt.new wr _ _).below hW (by simp)) (HCK.out p jj W hmem (by rw [← HME.out]; exact hlt2) hW3)
          have HCA := Lib.hid (caught_calls 23 _ (f p jj) _ (fun w => enters_of Tryz.func23 (by kernel_rfl) rfl _ w) hcall)
          rw [hd2] at hjq
          clear hcall hd2
          by_cases hz : (f p jj).1 = 0
          · have hnx : Hid (R = firstBad f (((List.range M).drop (jj + 1)).map (fun i => (p, i)) ++ pairsOf s (parts6.drop (kk + 1)))) := by
              show _ = _
              rw [hjq.out, firstBad_fine f (p, jj) _ hz]
            have HZ := Lib.hid hz
            clear hjq hz
            generalize f p jj = q at HCA HZ
            obtain ⟨q1, q2⟩ := q
            obtain rfl : q1 = 0 := HZ.out
            go_wp2_with (go_at_call 22; refine HCA.out.mono ?_; rintro e w2 ⟨nm, rfl, hn0, hn1, hb2⟩; clear hn0 hn1)
            go_roundw
            case rel => exact ⟨jj + 1, by omega, by go_num, hnx, below_on1 hBr (Nat.le_refl _) hb2⟩
            case measure => simp [intOf]; omega
          · have hnx : Hid (R = some (p, jj)) := by
              show _ = _
              rw [hjq.out, firstBad_bad f (p, jj) _ hz]
            have hzz : Hid (faultV f R = .agg #[.int .i64 (f p jj).1, .int .i64 p, .int .i64 jj, .string (f p jj).2]) := by show _ = _; rw [hnx.out]; rfl
            have e1 : ((f p jj).1 != 0) = true := by simpa using hz
            have HZ := Lib.hid hz
            clear hjq hz
            generalize f p jj = q at HCA HZ e1 hzz
            obtain ⟨q1, q2⟩ := q
            have hst : Hid (∀ w2, Below (wr.alloc (.cells #[.int .i64 jj] 3)).heap.size (wr.alloc (.cells #[.int .i64 jj] 3)) w2 → FaultAt w2 (w.heap.size + 1) ∧ w2.cell? ⟨wo.heap.size, 0, none⟩ = some (.int .i64 p) ∧ w2.cell? ⟨wr.heap.size, 0, none⟩ = some (.int .i64 jj) ∧ Below w.heap.size w w2) := fun w2 hW => by
              have ha : Below wr.heap.size wr (wr.alloc (.cells #[.int .i64 jj] 3)) := (Below.refl _ _).alloc (Nat.le_refl _) _
              have hW1 : Below wr.heap.size wr w2 := ha.trans (hW.mono ha.size)
              have hW2 : Below wb.heap.size wb w2 := hBr.trans (hW1.mono hBr.size)
              have hW4 : Below wo.heap.size wo w2 := hBb.trans (hW2.mono hBb.size)
              exact ⟨fault_kept HFL.out (by omega) (HBo.out.trans (hW4.mono HBo.out.size)), (HPB.out.below hW2 hzb).one, ((BoxAt.new wr _ _).below hW (by simp)).one, HBw.out.trans (hW4.mono HBw.out.size)⟩
            go_wp2_with (go_at_call 22; refine HCA.out.mono ?_; rintro e w2 ⟨nm, rfl, hn0, hn1, hb2⟩; obtain ⟨⟨⟨f0, f1, f2, f3⟩, z0, z1, z2, z3⟩, r0, r1, hbw⟩ := hst.out w2 hb2; have hnm := hn1 HZ.out; subst hnm; clear hn0 hn1)
            exact bodyPost_ret (v := .agg #[.int .i64 q1, .int .i64 p, .int .i64 jj, .string nm]) (by simp [results, Tryz.results7, go_sem, f0, f1, f2, f3]; try rfl) rfl ⟨by rw [hzz.out], four_set hbw (by omega)⟩
        · have hnx : Hid (R = firstBad f (pairsOf s (parts6.drop (kk + 1)))) := by
            show _ = _
            rw [hjq.out, List.drop_eq_nil_of_le (by simp; omega)]; rfl
          clear hjq
          go_wp2_with fail
          go_roundw
          case rel => exact ⟨kk + 1, by omega, by go_num, hnx, HBo.out.trans ((hBb.trans (hBr.mono hBb.size)).mono HBo.out.size)⟩
          case measure => simp [intOf]; omega
    · have hfin : Hid (faultV f R = .agg #[.int .i64 0, .int .i64 0, .int .i64 0, .string ⟨#[]⟩]) := by
        show _ = _
        rw [hq.out, List.drop_eq_nil_of_le (by show 6 ≤ kk; omega)]; rfl
      obtain ⟨⟨f0, f1, f2, f3⟩, z0, z1, z2, z3⟩ := fault_kept HFL.out (by omega) hB
      clear hq
      go_wp2_with fail
      exact bodyPost_ret (v := .agg #[.int .i64 0, .int .i64 0, .int .i64 0, .string ⟨#[]⟩]) (by simp [results, Tryz.results7, go_sem, f0, f1, f2, f3]; try rfl) rfl ⟨by rw [hfin.out], four_set (HB0.out.trans (hB.mono HB0.out.size)) (by omega)⟩
end Go.Proofs.YtblhpiebheommaaGreat
/- The walks of kinds' whole that its example wants: an object of which nothing is told; check of the story and of an object. Printed by gen-kinds16.py. -/
namespace Go.Proofs.YtblhpiebheommaaGreat
open Go.RowKit

set_option maxRecDepth 100000 in
theorem words_nil (a : Option Addr) (c : Nat) (w : World) : Calls Tryz.prog 71 #[.slice a 0 c] w (fun e w' => e = .returned (.tuple #[]) ∧ w = w') := by
  go_enter Tryz.func71, Tryz.ntmps71
  go_wp2
  go_loop [6] (fun i => i = .int .i64 0) (fun _ => 0)
  case atStart => rfl
  case round =>
    subst hrel
    go_wp2
    go_end0
    exact ⟨rfl, rfl⟩

/-- An object of which nothing is told. -/
def ObjD.bare (o : ObjD) : Prop := o.inn = ⟨#[]⟩ ∧ o.words = [] ∧ o.adjs = [] ∧ o.flags = [] ∧ o.props = [] ∧ o.exits = []

set_option maxRecDepth 100000 in
set_option maxHeartbeats 2000000 in
theorem obare_calls (t : List NameD) (s : SrcD) (i : Nat) (F : Nat → Prop) (w : World) (tv : Value) (ss : List Value) (hF : Inn F w) (h0 : RdNames F w t tv) (h1 : Holds.src.R F w s ss) (hi : i < s.objects.length) (hb : s.objects[i].bare) :
    Calls Tryz.prog 45 #[.agg (tv :: ss).toArray, .int .i64 i] w (Judged w fineW (.tuple #[])) := by
  obtain ⟨a0, c0, rfl⟩ := h0.shape
  obtain ⟨a5, c5, a6, c6, a7, c7, a8, c8, a9, c9, a10, c10, a11, c11, a12, c12, rfl, g5, g6, g7, g8, g9, g10, g11, g12⟩ := src_shape h1
  obtain ⟨_, _, he8, hl8, hc8, h8⟩ := g8.opn
  cases he8
  obtain ⟨ob, off, rfl, hFob, hel⟩ := h8 (by omega)
  obtain ⟨b1, b2, b3, b4, b5, b6⟩ := hb
  have hW : Below w.heap.size w (w.alloc (.cells #[.slice a0 t.length c0, .string s.title, .string s.author, .string s.start, .int .i64 s.release, .int .i64 s.most, .slice a5 s.flags.length c5, .slice a6 s.props.length c6, .slice a7 s.globals.length c7, .slice (some ⟨ob, off, none⟩) s.objects.length c8, .slice a9 s.verbs.length c9, .slice a10 s.rules.length c10, .slice a11 s.funcs.length c11, .slice a12 s.daemons.length c12] 73)) := (Below.refl _ w).alloc (Nat.le_refl _) _
  obtain ⟨cs, ⟨-, -, -, -, v5, v6, v7, v8, v9, rfl, k5, k6, k7, k8, k9⟩, -, hcell⟩ := hel _ (hW.block ob (hF ob hFob)) i hi
  obtain ⟨d5, f5, rfl⟩ := k5.shape
  obtain ⟨d6, f6, rfl⟩ := k6.shape
  obtain ⟨d7, f7, rfl⟩ := k7.shape
  obtain ⟨d8, f8, rfl⟩ := k8.shape
  obtain ⟨d9, f9, rfl⟩ := k9.shape
  generalize s.objects[i] = o at *
  have hh : o.words.length = 0 ∧ o.adjs.length = 0 ∧ o.flags.length = 0 ∧ o.props.length = 0 ∧ o.exits.length = 0 := by rw [b2, b3, b4, b5, b6]; simp
  obtain ⟨l2, l3, l4, l5, l6⟩ := hh
  rw [l2, l3, l4, l5, l6, b1] at hcell
  have q0 := hcell 0 _ rfl
  have q1 := hcell 1 _ rfl
  have q2 := hcell 2 _ rfl
  have q3 := hcell 3 _ rfl
  have q4 := hcell 4 _ rfl
  have q5 := hcell 5 _ rfl
  have q6 := hcell 6 _ rfl
  have q7 := hcell 7 _ rfl
  have q8 := hcell 8 _ rfl
  have q9 := hcell 9 _ rfl
  simp only [Nat.add_zero] at q0
  have HW := Lib.hid (fun a c w => words_nil a c w)
  have hil : (i : Int) < (s.objects.length : Int) := by omega
  have hi0 : (0 : Int) ≤ (i : Int) := by omega
  have hcap : c8 ≤ 9223372036854775807 := by unfold maxLen at hc8; omega
  have HB := Lib.hid hW
  clear hcell hel h8 k5 k6 k7 k8 k9 g5 g6 g7 g8 g9 g10 g11 g12 h0 h1 b1 b2 b3 b4 b5 b6 l2 l3 l4 l5 l6 hW hc8
  go_enter Tryz.func45, Tryz.ntmps45
  go_wp2_with (go_at_call 71; refine (HW.out _ _ _).mono ?_; rintro e w1 ⟨rfl, rfl⟩)
  go_loop [43] (fun i => i = .int .i64 0) (fun _ => 0)
  case atStart => rfl
  case round =>
    subst hrel
    go_wp2
    go_loop [55] (fun i => i = .int .i64 0) (fun _ => 0)
    case atStart => rfl
    case round =>
      subst hrel
      go_wp2
      go_loop [68] (fun i => i = .int .i64 0) (fun _ => 0)
      case atStart => rfl
      case round =>
        subst hrel
        go_wp2
        go_end0
        exact Judged.fine rfl rfl (HB.out.alloc (by simp) _)

set_option maxRecDepth 100000 in
set_option maxHeartbeats 2000000 in
theorem chk1_calls (t : List NameD) (s : SrcD) (i : Int) (q : Int × ByteArray) (F : Nat → Prop) (w : World) (tv : Value) (ss : List Value) (h0 : RdNames F w t tv) (h1 : Holds.src.R F w s ss)
    (hc : ∀ W, Below w.heap.size w W → Calls Tryz.prog 44 #[.agg (tv :: ss).toArray, .string s.start] W (Judged W q (.tuple #[]))) :
    Calls Tryz.prog 24 #[.agg (tv :: ss).toArray, .int .i64 1, .int .i64 i] w (Judged w q (.tuple #[])) := by
  obtain ⟨a0, c0, rfl⟩ := h0.shape
  obtain ⟨a5, c5, a6, c6, a7, c7, a8, c8, a9, c9, a10, c10, a11, c11, a12, c12, rfl, g5, g6, g7, g8, g9, g10, g11, g12⟩ := src_shape h1
  have hB := (Below.refl w.heap.size w).alloc (Nat.le_refl _) (.cells #[.slice a0 t.length c0, .string s.title, .string s.author, .string s.start, .int .i64 s.release, .int .i64 s.most, .slice a5 s.flags.length c5, .slice a6 s.props.length c6, .slice a7 s.globals.length c7, .slice a8 s.objects.length c8, .slice a9 s.verbs.length c9, .slice a10 s.rules.length c10, .slice a11 s.funcs.length c11, .slice a12 s.daemons.length c12] 73)
  have hc1 := hc _ hB
  have HB := Lib.hid hB
  clear hc h0 h1 g5 g6 g7 g8 g9 g10 g11 g12
  by_cases hq : q.1 = 0
  · have HC := Lib.hid (judged_ok hc1 hq)
    have HQ := Lib.hid hq
    clear hc1 hq
    go_enter Tryz.func24, Tryz.ntmps24
    go_wp2_with (go_at_call 44; refine HC.out.mono ?_; rintro e w1 ⟨rfl, hb⟩)
    go_end0
    exact Judged.fine HQ.out rfl (HB.out.trans (hb.mono HB.out.size))
  · have HC := Lib.hid (judged_bad hc1 hq)
    have HQ := Lib.hid hq
    clear hc1 hq
    go_enter Tryz.func24, Tryz.ntmps24
    go_wp2_with (go_at_call 44; refine HC.out.mono ?_; rintro e w1 ⟨rfl, hb⟩)
    exact ⟨rfl, Judged.thrown rfl HQ.out rfl (HB.out.trans (hb.mono HB.out.size))⟩

set_option maxRecDepth 100000 in
set_option maxHeartbeats 2000000 in
theorem chk5_calls (t : List NameD) (s : SrcD) (i : Int) (q : Int × ByteArray) (F : Nat → Prop) (w : World) (tv : Value) (ss : List Value) (h0 : RdNames F w t tv) (h1 : Holds.src.R F w s ss)
    (hc : ∀ W, Below w.heap.size w W → Calls Tryz.prog 45 #[.agg (tv :: ss).toArray, .int .i64 i] W (Judged W q (.tuple #[]))) :
    Calls Tryz.prog 24 #[.agg (tv :: ss).toArray, .int .i64 5, .int .i64 i] w (Judged w q (.tuple #[])) := by
  obtain ⟨a0, c0, rfl⟩ := h0.shape
  obtain ⟨a5, c5, a6, c6, a7, c7, a8, c8, a9, c9, a10, c10, a11, c11, a12, c12, rfl, g5, g6, g7, g8, g9, g10, g11, g12⟩ := src_shape h1
  have hB := (Below.refl w.heap.size w).alloc (Nat.le_refl _) (.cells #[.slice a0 t.length c0, .string s.title, .string s.author, .string s.start, .int .i64 s.release, .int .i64 s.most, .slice a5 s.flags.length c5, .slice a6 s.props.length c6, .slice a7 s.globals.length c7, .slice a8 s.objects.length c8, .slice a9 s.verbs.length c9, .slice a10 s.rules.length c10, .slice a11 s.funcs.length c11, .slice a12 s.daemons.length c12] 73)
  have hc1 := hc _ hB
  have HB := Lib.hid hB
  clear hc h0 h1 g5 g6 g7 g8 g9 g10 g11 g12
  by_cases hq : q.1 = 0
  · have HC := Lib.hid (judged_ok hc1 hq)
    have HQ := Lib.hid hq
    clear hc1 hq
    go_enter Tryz.func24, Tryz.ntmps24
    go_wp2_with (go_at_call 45; refine HC.out.mono ?_; rintro e w1 ⟨rfl, hb⟩)
    go_end0
    exact Judged.fine HQ.out rfl (HB.out.trans (hb.mono HB.out.size))
  · have HC := Lib.hid (judged_bad hc1 hq)
    have HQ := Lib.hid hq
    clear hc1 hq
    go_enter Tryz.func24, Tryz.ntmps24
    go_wp2_with (go_at_call 45; refine HC.out.mono ?_; rintro e w1 ⟨rfl, hb⟩)
    exact ⟨rfl, Judged.thrown rfl HQ.out rfl (HB.out.trans (hb.mono HB.out.size))⟩
end Go.Proofs.YtblhpiebheommaaGreat
