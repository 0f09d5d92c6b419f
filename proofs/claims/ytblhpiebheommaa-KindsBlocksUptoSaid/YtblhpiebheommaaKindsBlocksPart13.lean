/- The walk of kinds.Expr. -/
import Derived.Test.YtblhpiebheommaaKindsBlocksPart12
import Derived.Deep.RegionLawGrows
import Derived.Laws.AppendOwnNone
namespace Go.Proofs.Ytblhpiebheommaa
open Go.RowKit

/-- A box of one value's cells. -/
def BoxAt (w : World) (b : Nat) (cs : List Value) : Prop := b < w.heap.size ∧ ∀ j, j < cs.length → w.cell? ⟨b, j, none⟩ = cs[j]?
theorem BoxAt.below {w w' : World} {b : Nat} {cs : List Value} {B : Nat} (h : BoxAt w b cs) (hb : Below B w w') (hB : b < B) : BoxAt w' b cs :=
  ⟨Nat.lt_of_lt_of_le h.1 hb.size, fun j hj => by rw [hb.cell (p := ⟨b, j, none⟩) hB]; exact h.2 j hj⟩
theorem BoxAt.new (w : World) (cs : List Value) (t : TypeId) : BoxAt (w.alloc (.cells cs.toArray t)) w.heap.size cs := ⟨by simp, bx_new w cs t _ rfl⟩
theorem BoxAt.one {w : World} {b : Nat} {v : Value} (h : BoxAt w b [v]) : w.cell? ⟨b, 0, none⟩ = some v := h.2 0 (by simp)

set_option maxRecDepth 100000 in
set_option maxHeartbeats 2000000 in
theorem expr1_calls (t : List NameD) (s : SrcD) (l : List ByteArray) (e : Ex) (F : Nat → Prop) (w : World) (b0 b1 b2 b3 : Nat) (tv lv : Value) (ss es : List Value) (hF : Inn F w) (hri : Rises t) (ht : t.length ≤ 1000000000000) (htab : TabOk t s.funcs s.objects.length)
    (hb0 : BoxAt w b0 [tv]) (hb1 : BoxAt w b1 ss) (hb2 : BoxAt w b2 [lv]) (hb3 : BoxAt w b3 es) (h0 : RdNames F w t tv) (h1 : Holds.src.R F w s ss) (h2 : RdStrs F w l lv) (h3 : RdEx F w e es) :
    Calls Try.prog 33 #[.pointer (some ⟨b0, 0, none⟩), .pointer (some ⟨b1, 0, none⟩), .pointer (some ⟨b2, 0, none⟩), .pointer (some ⟨b3, 0, none⟩)] w (Judged w (e.kW t s.funcs l) (.tuple #[])) := by
  have hk := fun (W : World) (B : Nat) (hW : Below w.heap.size w W) (hc1 : CkT F W B t) (hc2 : CkL F W B l) (hc3 : CkF F W B s.funcs) => kexpr_calls t s.funcs s.objects.length hri ht htab e l F W B es (hF.below hW) hc1 hc2 hc3 (h3.below hF hW (Nat.le_refl _))
  have H0 := Lib.hid h0
  have H2 := Lib.hid h2
  have HS := Lib.hid h1
  obtain ⟨a0, c0, rfl⟩ := h0.shape
  obtain ⟨a2, c2, rfl⟩ := h2.shape
  obtain ⟨kd, op, nm, st, ax, mx, cx, rfl⟩ := h3.shape
  obtain ⟨a5, c5, a6, c6, a7, c7, a8, c8, a9, c9, a10, c10, a11, c11, a12, c12, rfl, -, -, -, -, -, -, g11, -⟩ := src_shape h1
  have HF11 := Lib.hid g11
  have t0 := hb0.one
  have l0 := hb2.one
  have e0 := hb3.2 0 (by simp)
  have e1 := hb3.2 1 (by simp)
  have e2 := hb3.2 2 (by simp)
  have e3 := hb3.2 3 (by simp)
  have e4 := hb3.2 4 (by simp)
  have s0 := hb1.2 0 (by simp)
  have s1 := hb1.2 1 (by simp)
  have s2 := hb1.2 2 (by simp)
  have s3 := hb1.2 3 (by simp)
  have s4 := hb1.2 4 (by simp)
  have s5 := hb1.2 5 (by simp)
  have s6 := hb1.2 6 (by simp)
  have s7 := hb1.2 7 (by simp)
  have s8 := hb1.2 8 (by simp)
  have s9 := hb1.2 9 (by simp)
  have s10 := hb1.2 10 (by simp)
  have s11 := hb1.2 11 (by simp)
  have s12 := hb1.2 12 (by simp)
  simp only [List.getElem?_cons_succ, List.getElem?_cons_zero] at e0 e1 e2 e3 e4 s0 s1 s2 s3 s4 s5 s6 s7 s8 s9 s10 s11 s12
  have hlt := hb3.1
  have HK := Lib.hid hk
  clear hk h0 h1 h2 h3 g11 hb0 hb1 hb2 hb3 hri htab
  have hBn : Below w.heap.size w (w.alloc (.cells #[.slice a0 t.length c0, .string s.title, .string s.author, .string s.start, .int .i64 s.release, .int .i64 s.most, .slice a5 s.flags.length c5, .slice a6 s.props.length c6, .slice a7 s.globals.length c7, .slice a8 s.objects.length c8, .slice a9 s.verbs.length c9, .slice a10 s.rules.length c10, .slice a11 s.funcs.length c11, .slice a12 s.daemons.length c12, .slice a2 l.length c2, .int .i64 0, .int .i64 0] 80)) := (Below.refl _ w).alloc (Nat.le_refl _) _
  have hbx := bx_new w [.slice a0 t.length c0, .string s.title, .string s.author, .string s.start, .int .i64 s.release, .int .i64 s.most, .slice a5 s.flags.length c5, .slice a6 s.props.length c6, .slice a7 s.globals.length c7, .slice a8 s.objects.length c8, .slice a9 s.verbs.length c9, .slice a10 s.rules.length c10, .slice a11 s.funcs.length c11, .slice a12 s.daemons.length c12, .slice a2 l.length c2, .int .i64 0, .int .i64 0] 80 _ rfl
  have hz : w.heap.size < (w.alloc (.cells #[.slice a0 t.length c0, .string s.title, .string s.author, .string s.start, .int .i64 s.release, .int .i64 s.most, .slice a5 s.flags.length c5, .slice a6 s.props.length c6, .slice a7 s.globals.length c7, .slice a8 s.objects.length c8, .slice a9 s.verbs.length c9, .slice a10 s.rules.length c10, .slice a11 s.funcs.length c11, .slice a12 s.daemons.length c12, .slice a2 l.length c2, .int .i64 0, .int .i64 0] 80)).heap.size := by simp
  have hcall := HK.out _ w.heap.size hBn ⟨hz, _, hbx 0 (by simp), H0.out.below hF hBn (Nat.le_refl _)⟩ ⟨hz, _, hbx 14 (by simp), H2.out.below hF hBn (Nat.le_refl _)⟩ ⟨hz, _, hbx 12 (by simp), HF11.out.below hF hBn (Nat.le_refl _)⟩
  clear HK hbx hz
  by_cases hp : (e.kW t s.funcs l).1 = 0
  · have HC := Lib.hid (judged_ok hcall hp)
    have HP := Lib.hid hp
    clear hcall hp
    go_enter Try.func33, Try.ntmps33
    go_wp2_with (go_at_call 34; refine HC.out.mono ?_; rintro e0 w1 ⟨rfl, hb⟩)
    go_end0
    exact Judged.fine HP.out rfl (hBn.trans (hb.mono hBn.size))
  · have HC := Lib.hid (judged_bad hcall hp)
    have HP := Lib.hid hp
    clear hcall hp
    go_enter Try.func33, Try.ntmps33
    go_wp2_with (go_at_call 34; refine HC.out.mono ?_; rintro e0 w1 ⟨rfl, hb⟩)
    exact ⟨rfl, Judged.thrown rfl HP.out rfl (hBn.trans (hb.mono hBn.size))⟩

set_option maxRecDepth 100000 in
set_option maxHeartbeats 2000000 in
theorem kExpr_calls (t : List NameD) (s : SrcD) (l : List ByteArray) (e : Ex) (F : Nat → Prop) (w : World) (tv lv : Value) (ss es : List Value) (hF : Inn F w) (hri : Rises t) (ht : t.length ≤ 1000000000000) (htab : TabOk t s.funcs s.objects.length)
    (h0 : RdNames F w t tv) (h1 : Holds.src.R F w s ss) (h2 : RdStrs F w l lv) (h3 : RdEx F w e es) :
    Calls Try.prog 11 #[tv, .agg ss.toArray, lv, .agg es.toArray] w (GivesWrong w (e.kW t s.funcs l)) := by
  have hmf : ∀ (fn : Fn) (first cap : Array Value) (w : World), (Instr.makeFunc fn first cap).run Try.prog w = .ok (.func fn first cap) w := fun _ _ _ _ => rfl
  obtain ⟨a0, c0, rfl⟩ := h0.shape
  obtain ⟨a2, c2, rfl⟩ := h2.shape
  obtain ⟨kd, op, nm, st, ax, mx, cx, rfl⟩ := h3.shape
  obtain ⟨a5, c5, a6, c6, a7, c7, a8, c8, a9, c9, a10, c10, a11, c11, a12, c12, rfl, -, -, -, -, -, -, g11, -⟩ := src_shape h1
  have hW : Below w.heap.size w ((((w.alloc (.cells #[.slice a0 t.length c0] 33)).alloc (.cells #[.string s.title, .string s.author, .string s.start, .int .i64 s.release, .int .i64 s.most, .slice a5 s.flags.length c5, .slice a6 s.props.length c6, .slice a7 s.globals.length c7, .slice a8 s.objects.length c8, .slice a9 s.verbs.length c9, .slice a10 s.rules.length c10, .slice a11 s.funcs.length c11, .slice a12 s.daemons.length c12] 29)).alloc (.cells #[.slice a2 l.length c2] 22)).alloc (.cells #[.int .i64 kd, .int .i64 op, .int .i64 nm, .string st, .slice ax mx cx] 32)) := ((((Below.refl _ w).alloc (Nat.le_refl _) _).alloc (by simp) _).alloc (by simp <;> omega) _).alloc (by simp <;> omega) _
  have x0 := ((((BoxAt.new w [.slice a0 t.length c0] 33).below (((Below.refl _ _).alloc (Nat.le_refl _) (.cells #[.string s.title, .string s.author, .string s.start, .int .i64 s.release, .int .i64 s.most, .slice a5 s.flags.length c5, .slice a6 s.props.length c6, .slice a7 s.globals.length c7, .slice a8 s.objects.length c8, .slice a9 s.verbs.length c9, .slice a10 s.rules.length c10, .slice a11 s.funcs.length c11, .slice a12 s.daemons.length c12] 29))) (by simp)).below (((Below.refl _ _).alloc (Nat.le_refl _) (.cells #[.slice a2 l.length c2] 22))) (by simp <;> omega)).below (((Below.refl _ _).alloc (Nat.le_refl _) (.cells #[.int .i64 kd, .int .i64 op, .int .i64 nm, .string st, .slice ax mx cx] 32))) (by simp <;> omega))
  have x1 := (((BoxAt.new (w.alloc (.cells #[.slice a0 t.length c0] 33)) [.string s.title, .string s.author, .string s.start, .int .i64 s.release, .int .i64 s.most, .slice a5 s.flags.length c5, .slice a6 s.props.length c6, .slice a7 s.globals.length c7, .slice a8 s.objects.length c8, .slice a9 s.verbs.length c9, .slice a10 s.rules.length c10, .slice a11 s.funcs.length c11, .slice a12 s.daemons.length c12] 29).below (((Below.refl _ _).alloc (Nat.le_refl _) (.cells #[.slice a2 l.length c2] 22))) (by simp)).below (((Below.refl _ _).alloc (Nat.le_refl _) (.cells #[.int .i64 kd, .int .i64 op, .int .i64 nm, .string st, .slice ax mx cx] 32))) (by simp <;> omega))
  have x2 := ((BoxAt.new ((w.alloc (.cells #[.slice a0 t.length c0] 33)).alloc (.cells #[.string s.title, .string s.author, .string s.start, .int .i64 s.release, .int .i64 s.most, .slice a5 s.flags.length c5, .slice a6 s.props.length c6, .slice a7 s.globals.length c7, .slice a8 s.objects.length c8, .slice a9 s.verbs.length c9, .slice a10 s.rules.length c10, .slice a11 s.funcs.length c11, .slice a12 s.daemons.length c12] 29)) [.slice a2 l.length c2] 22).below (((Below.refl _ _).alloc (Nat.le_refl _) (.cells #[.int .i64 kd, .int .i64 op, .int .i64 nm, .string st, .slice ax mx cx] 32))) (by simp))
  have x3 := (BoxAt.new (((w.alloc (.cells #[.slice a0 t.length c0] 33)).alloc (.cells #[.string s.title, .string s.author, .string s.start, .int .i64 s.release, .int .i64 s.most, .slice a5 s.flags.length c5, .slice a6 s.props.length c6, .slice a7 s.globals.length c7, .slice a8 s.objects.length c8, .slice a9 s.verbs.length c9, .slice a10 s.rules.length c10, .slice a11 s.funcs.length c11, .slice a12 s.daemons.length c12] 29)).alloc (.cells #[.slice a2 l.length c2] 22)) [.int .i64 kd, .int .i64 op, .int .i64 nm, .string st, .slice ax mx cx] 32)
  have hin : ∀ W, Below ((((w.alloc (.cells #[.slice a0 t.length c0] 33)).alloc (.cells #[.string s.title, .string s.author, .string s.start, .int .i64 s.release, .int .i64 s.most, .slice a5 s.flags.length c5, .slice a6 s.props.length c6, .slice a7 s.globals.length c7, .slice a8 s.objects.length c8, .slice a9 s.verbs.length c9, .slice a10 s.rules.length c10, .slice a11 s.funcs.length c11, .slice a12 s.daemons.length c12] 29)).alloc (.cells #[.slice a2 l.length c2] 22)).alloc (.cells #[.int .i64 kd, .int .i64 op, .int .i64 nm, .string st, .slice ax mx cx] 32)).heap.size ((((w.alloc (.cells #[.slice a0 t.length c0] 33)).alloc (.cells #[.string s.title, .string s.author, .string s.start, .int .i64 s.release, .int .i64 s.most, .slice a5 s.flags.length c5, .slice a6 s.props.length c6, .slice a7 s.globals.length c7, .slice a8 s.objects.length c8, .slice a9 s.verbs.length c9, .slice a10 s.rules.length c10, .slice a11 s.funcs.length c11, .slice a12 s.daemons.length c12] 29)).alloc (.cells #[.slice a2 l.length c2] 22)).alloc (.cells #[.int .i64 kd, .int .i64 op, .int .i64 nm, .string st, .slice ax mx cx] 32)) W →
      Calls Try.prog 33 #[.pointer (some ⟨w.heap.size, 0, none⟩), .pointer (some ⟨w.heap.size + 1, 0, none⟩), .pointer (some ⟨w.heap.size + 2, 0, none⟩), .pointer (some ⟨w.heap.size + 3, 0, none⟩)] W (Judged W (e.kW t s.funcs l) (.tuple #[])) := fun W hb => by
    have hWW := hW.trans (hb.mono hW.size)
    refine expr1_calls t s l e F W _ _ _ _ _ _ _ _ (hF.below hWW) hri ht htab (x0.below hb (by simp <;> omega)) ?_ ?_ ?_ (h0.below hF hWW (Nat.le_refl _)) (Holds.src.below h1 hF hWW (Nat.le_refl _)) (h2.below hF hWW (Nat.le_refl _)) (h3.below hF hWW (Nat.le_refl _))
    · have := x1.below hb (by simp <;> omega); simpa using this
    · have := x2.below hb (by simp); simpa using this
    · have := x3.below hb (by simp); simpa using this
  have HC := Lib.hid (caught_calls 33 _ (e.kW t s.funcs l) _ (fun w => enters_of Try.func33 (by kernel_rfl) rfl _ w) hin)
  clear hin x0 x1 x2 x3 h0 h1 h2 h3 g11 htab hri
  go_enter Try.func11, Try.ntmps11
  go_wp2_with (go_at_call 32; refine HC.out.mono ?_; rintro e0 w1 ⟨n1, rfl, hn0, hn1, hb⟩)
  go_ret2
  exact ⟨n1, rfl, hn0, hn1, hW.trans (hb.mono hW.size)⟩
end Go.Proofs.Ytblhpiebheommaa
/- The memory that kinds' checker turns: its own cells, the locals that it carries; its method make. -/
namespace Go.Proofs.Ytblhpiebheommaa
open Go.RowKit

theorem cell_other (w : World) (a b : Addr) (v : Value) (h : a ≠ b) : (w.setCell a v).cell? b = w.cell? b := by
  apply World.cell?_setCell_other
  exact h

/-- All blocks but those of S are as they were. -/
structure But (S : Nat → Prop) (w w' : World) : Prop where
  os : w'.os = w.os
  tape : w'.tape = w.tape
  output : w'.output = w.output
  size : w.heap.size ≤ w'.heap.size
  block : ∀ k, k < w.heap.size → ¬ S k → w'.heap[k]? = w.heap[k]?
theorem But.refl (S : Nat → Prop) (w : World) : But S w w := ⟨rfl, rfl, rfl, Nat.le_refl _, fun _ _ _ => rfl⟩
theorem But.trans {S : Nat → Prop} {a b c : World} (h : But S a b) (k : But S b c) : But S a c := ⟨k.os.trans h.os, k.tape.trans h.tape, k.output.trans h.output, Nat.le_trans h.size k.size, fun i hi hn => (k.block i (Nat.lt_of_lt_of_le hi h.size) hn).trans (h.block i hi hn)⟩
theorem But.mono {S T : Nat → Prop} {w w' : World} (h : But S w w') (hS : ∀ k, k < w.heap.size → S k → T k) : But T w w' := ⟨h.os, h.tape, h.output, h.size, fun k hk hn => h.block k hk fun hs => hn (hS k hk hs)⟩
theorem But.ofBelow {S : Nat → Prop} {w w' : World} (h : Below w.heap.size w w') : But S w w' := ⟨h.os, h.tape, h.output, h.size, fun k hk _ => h.block k hk⟩
theorem But.toBelow {S : Nat → Prop} {B : Nat} {w w' : World} (h : But S w w') (hB : B ≤ w.heap.size) (hS : ∀ k, S k → B ≤ k) : Below B w w' := ⟨h.os, h.tape, h.output, h.size, fun k hk => h.block k (by omega) fun hs => by have := hS k hs; omega⟩
theorem But.setCell {S : Nat → Prop} {a w : World} (h : But S a w) {p : Addr} (hp : S p.block) (u : Value) : But S a (w.setCell p u) :=
  h.trans ⟨rfl, rfl, rfl, by simp [World.setCell], fun k _ hn => Below.heap_setCell _ _ _ _ (fun e => hn (e ▸ hp))⟩
theorem But.drew {S : Nat → Prop} {a w : World} (h : But S a w) : But S a w.drew := ⟨h.os, h.tape, h.output, h.size, h.block⟩
theorem But.alloc {S : Nat → Prop} {a w : World} (h : But S a w) (o : Obj) : But S a (w.alloc o) := h.trans (.ofBelow ((Below.refl _ w).alloc (Nat.le_refl _) o))

/-- The checker's own cells 14 (its locals) and 16 (how many it has made) may have turned, and blocks of S. -/
structure Turn (B : Nat) (S : Nat → Prop) (w w' : World) : Prop where
  but : But (fun k => k = B ∨ S k) w w'
  cells : ∀ j, j ≠ 14 → j ≠ 16 → w'.cell? ⟨B, j, none⟩ = w.cell? ⟨B, j, none⟩
  frozen : ∀ j, w'.frozen? ⟨B, j, none⟩ = w.frozen? ⟨B, j, none⟩
theorem Turn.refl (B : Nat) (S : Nat → Prop) (w : World) : Turn B S w w := ⟨.refl _ _, fun _ _ _ => rfl, fun _ => rfl⟩
theorem Turn.trans {B : Nat} {S : Nat → Prop} {a b c : World} (h : Turn B S a b) (k : Turn B S b c) : Turn B S a c := ⟨h.but.trans k.but, fun j h1 h2 => (k.cells j h1 h2).trans (h.cells j h1 h2), fun j => (k.frozen j).trans (h.frozen j)⟩
theorem Turn.mono {B : Nat} {S T : Nat → Prop} {w w' : World} (h : Turn B S w w') (hS : ∀ k, k < w.heap.size → S k → T k) : Turn B T w w' := ⟨h.but.mono fun k hk hs => hs.imp id (hS k hk), h.cells, h.frozen⟩
theorem Turn.ofBelow {B : Nat} {S : Nat → Prop} {w w' : World} (h : Below w.heap.size w w') (hB : B < w.heap.size) : Turn B S w w' := ⟨.ofBelow h, fun j _ _ => h.cell (p := ⟨B, j, none⟩) hB, fun j => h.frozen (p := ⟨B, j, none⟩) hB⟩
theorem Turn.drew {B : Nat} {S : Nat → Prop} {a w : World} (h : Turn B S a w) : Turn B S a w.drew := ⟨h.but.drew, h.cells, h.frozen⟩
theorem Turn.store {B : Nat} {S : Nat → Prop} {a w : World} (h : Turn B S a w) {j : Nat} (hj : j = 14 ∨ j = 16) (u : Value) : Turn B S a (w.setCell ⟨B, j, none⟩ u) := by
  refine ⟨h.but.setCell (p := ⟨B, j, none⟩) (.inl rfl) u, fun i h1 h2 => ?_, fun i => ?_⟩
  · rw [← h.cells i h1 h2]
    exact cell_other _ _ _ _ (by intro e; cases e; omega)
  · rw [← h.frozen i]
    simp
theorem Turn.toBelow {B B' : Nat} {S : Nat → Prop} {w w' : World} (h : Turn B S w w') (hB : B' ≤ w.heap.size) (h0 : B' ≤ B) (hS : ∀ k, S k → B' ≤ k) : Below B' w w' := h.but.toBelow hB fun k hk => hk.elim (fun e => e ▸ h0) (hS k)

/-- The locals that the checker carries: an array of its own making; where it has spare cells these are the running block's. -/
def Loc (B lo : Nat) (w : World) (l : List ByteArray) (v : Value) : Prop :=
  (∀ x ∈ l, x.size ≤ maxLen) ∧ ((v = .slice none 0 0 ∧ l = []) ∨ ∃ g cap, v = .slice (some ⟨g, 0, none⟩) l.length cap ∧ B < g ∧ g < w.heap.size ∧ l.length ≤ cap ∧ cap ≤ maxLen ∧ (cap = l.length ∨ lo ≤ g) ∧ (∀ i, i < cap → (w.cell? ⟨g, i, none⟩).isSome = true ∧ w.frozen? ⟨g, i, none⟩ = false) ∧ ∀ i (h : i < l.length), w.cell? ⟨g, i, none⟩ = some (.string l[i]))
theorem Loc.keep {B lo lo' : Nat} {w w' : World} {l : List ByteArray} {v : Value} (h : Loc B lo w l v) (hw : ∀ g, v.ownBlock = some g → g < w.heap.size → B < g → w'.heap[g]? = w.heap[g]?) (hs : w.heap.size ≤ w'.heap.size) (hlo : lo' ≤ lo) : Loc B lo' w' l v := by
  refine ⟨h.1, ?_⟩
  rcases h.2 with h | ⟨g, cap, rfl, h1, h2, h3, h4, h5, h6, h7⟩
  · exact .inl h
  · have hb := hw g rfl h2 h1
    exact .inr ⟨g, cap, rfl, h1, by omega, h3, h4, h5.imp id (by omega), fun i hi => ⟨by rw [World.cell?_of_block (w := w) hb]; exact (h6 i hi).1, by rw [World.frozen?_of_block (w := w) hb]; exact (h6 i hi).2⟩, fun i hi => by rw [World.cell?_of_block (w := w) hb]; exact h7 i hi⟩
theorem Loc.nil (B lo : Nat) (w : World) : Loc B lo w [] (.slice none 0 0) := ⟨by simp, .inl ⟨rfl, rfl⟩⟩
theorem Loc.shape {B lo : Nat} {w : World} {l : List ByteArray} {v : Value} (h : Loc B lo w l v) : ∃ a cap, v = .slice a l.length cap ∧ l.length ≤ cap := by
  rcases h.2 with ⟨rfl, rfl⟩ | ⟨g, cap, rfl, h1, h2, h3, h4, h5, h6, h7⟩
  · exact ⟨_, _, rfl, Nat.le_refl _⟩
  · exact ⟨_, _, rfl, h3⟩
/-- Read as any slice of strings. -/
theorem Loc.rd {B lo : Nat} {w : World} {l : List ByteArray} {v : Value} (h : Loc B lo w l v) {F : Nat → Prop} (hF : ∀ b, B < b → b < w.heap.size → F b) : RdStrs F w l v := by
  rcases h.2 with ⟨rfl, rfl⟩ | ⟨g, cap, rfl, h1, h2, h3, h4, h5, h6, h7⟩
  · exact RdL.nil _ _ _ _ _ _ (Nat.zero_le _)
  · refine ⟨fun i _ => .string (l.getD i ⟨#[]⟩), ⟨_, _, rfl, h3, h4, fun h0 => ⟨g, 0, rfl, hF g h1 h2, fun i hi j hj => ?_⟩⟩, fun i hi => ⟨h.1 _ (List.getElem_mem hi), ?_⟩⟩
    · obtain rfl : j = 0 := by omega
      rw [show 0 + i * 1 + 0 = i by omega, h7 i hi]; simp [hi]
    · simp [rowCells, hi]
theorem Loc.ofOwn {B lo base : Nat} {w : World} {l : List ByteArray} {v : Value} (h : w.ownsRow base 9 1 v l.length (l.map Value.string)) (hB : B < base) (hlo : lo ≤ base) (hs : ∀ x ∈ l, x.size ≤ maxLen) : Loc B lo w l v := by
  refine ⟨hs, ?_⟩
  rcases h.2 with ⟨rfl, h0⟩ | ⟨g, cap, cur, rfl, h1, h2, h3, h4, h5, h6⟩
  · exact .inl ⟨rfl, List.eq_nil_of_length_eq_zero h0⟩
  · refine .inr ⟨g, cap, rfl, by omega, (Array.getElem?_eq_some_iff.1 h2).1, h3, h4, .inr (by omega), fun i hi => ?_, fun i hi => ?_⟩
    · have : i < cur.size := by omega
      simp [World.cell?, World.frozen?, h2, this]
    · have := h.cells (g := g) rfl i (.string l[i]) (by simp [hi])
      rwa [show (⟨g, 0, none⟩ : Addr).add i = ⟨g, i, none⟩ by rw [Addr.add_lit, Nat.zero_add]] at this

/-- Whence the carried locals' array: it is the one that was there (v, n locals), and there are as many locals; or one of the block's own. -/
def Whence (v : Value) (n lo : Nat) (v' : Value) (l' : List ByteArray) : Prop := (v'.ownBlock = v.ownBlock ∧ l'.length = n) ∨ ∀ g, v'.ownBlock = some g → lo ≤ g
theorem Whence.refl (v : Value) (lo : Nat) (l : List ByteArray) : Whence v l.length lo v l := .inl ⟨rfl, rfl⟩
theorem Whence.trans {v vk v' : Value} {n lo lo' : Nat} {lk l' : List ByteArray} (h : Whence v n lo vk lk) (k : Whence vk lk.length lo' v' l') (hl : lo ≤ lo') : Whence v n lo v' l' := by
  rcases k with ⟨e1, e2⟩ | k
  · rcases h with ⟨f1, f2⟩ | h
    · exact .inl ⟨e1.trans f1, e2.trans f2⟩
    · exact .inr fun g hg => h g (by rw [← e1]; exact hg)
  · exact .inr fun g hg => Nat.le_trans hl (k g hg)
theorem Whence.mono {v v' : Value} {n lo lo' : Nat} {l' : List ByteArray} (h : Whence v n lo v' l') (hl : lo' ≤ lo) : Whence v n lo' v' l' := h.imp id fun k g hg => Nat.le_trans hl (k g hg)

/-- An append in a region that draws, by its run. -/
theorem step_run {P : Program} {ops : Array Oper} {o : Oper} {a : Act} {w : World} {K : Act → World → Prop} {Q : Exit → Act → World → Prop} {E : Prop}
    (hg : o.guard = none) (s x : Operand) (t : TypeId) (hop : o.op = Op.call { callee := Callee.builtin Builtin.append, args := #[s, x], argTypes := #[t, t] })
    (v1 v2 v' : Value) (w' : World) (hs : a.eval s = v1) (hx : a.eval x = v2) (hrun : (Builtin.append_ #[t, t] o.type #[v1, v2]).run P w = .ok v' w') (hK : K (a.put o.dst v') w') :
    if Region.wanted o (yielded ops a.tmps) = true then Oper.wp P o a w K Q else E := by
  have hw : Region.wanted o (yielded ops a.tmps) = true := by simp [Region.wanted, hg]
  rw [if_pos hw]
  unfold Oper.wp
  simp [execOp, hop, resolve, invoke, builtin, hs, hx, hrun, Result.andThen]
  exact hK

theorem Try.infoStr : (Try.prog.info? 9).map (fun i => (i.zero, i.size, i.bytes)) = some (some (.string ⟨#[]⟩), 1, 16) := by kernel_rfl

/-- One more local. -/
theorem loc_one {B lo : Nat} {w : World} {l : List ByteArray} {v : Value} (h : Loc B lo w l v) (x : ByteArray) (hx : x.size ≤ maxLen) (ad : Addr) (had : w.cell? ad = some (.string x)) (hB : B < w.heap.size) (hlo : lo ≤ w.heap.size) (hl : l.length ≤ 1000000) (ty : TypeId) :
    ∃ v' w', (Builtin.append_ #[22, 22] ty #[v, .slice (some ad) 1 1]).run Try.prog w = .ok v' w' ∧ Loc B lo w' (l ++ [x]) v' ∧ But (fun b => v.ownBlock = some b ∧ lo ≤ b ∧ B < b) w w' ∧ (∀ g, v'.ownBlock = some g → lo ≤ g) := by
  obtain ⟨i0, hi, hz0, hz1, hz2⟩ := info_parts Try.infoStr
  have hnews : ∀ j u, [Value.string x][j]? = some u → w.cell? (ad.add j) = some u := by
    intro j u hj
    match j, hj with
    | 0, hj =>
      simp at hj; subst hj
      have : ad.add 0 = ad := by cases ad with | mk b o s => cases s <;> simp [Addr.add]
      rw [this]; exact had
  have hsx : ∀ y ∈ l ++ [x], y.size ≤ maxLen := by
    intro y hy
    rcases List.mem_append.1 hy with h' | h'
    · exact h.1 y h'
    · simp at h'; subst h'; exact hx
  rcases h.2 with ⟨rfl, rfl⟩ | ⟨g, cap, rfl, h1, h2, h3, h4, h5, h6, h7⟩
  · obtain ⟨v', w', hr, ho, hgr, _⟩ := run_append_own (P := Try.prog) (w := w) (w.heap.size) 22 ty 9 i0 _ 1 16 Try.underlying22 hi hz0 hz1 hz2 rfl (by decide) (.slice none 0 0) 0 [] (World.ownsRow_nil _ _ _ _) ad 1 1 [.string x] rfl hnews (by simp [Value.oneCell']) (by unfold maxLen; omega) (by omega) (Nat.le_refl _)
    exact ⟨v', w', hr, Loc.ofOwn (base := w.heap.size) (by simpa using ho) hB hlo hsx, ⟨hgr.os, hgr.tape, hgr.output, hgr.size, fun k hk _ => hgr.block k hk (by simp [Value.ownBlock])⟩, fun g hg => Nat.le_trans hlo (ho.lt g hg).1⟩
  · by_cases hroom : l.length + 1 ≤ cap
    · have hlg : lo ≤ g := by omega
      have hr := run_append_room_cells (P := Try.prog) w 22 ty 9 i0 Try.underlying22 hi g 0 l.length cap ad 1 1 [.string x] (by rw [hz1]; rfl) hnews (by simp [Value.oneCell']) hroom (fun j hj => by
        obtain rfl : j = 0 := by simpa using hj
        rw [hz1, show 0 + l.length * 1 + 0 = l.length by omega]; exact (h6 _ (by omega)).1) (fun j hj => by
        obtain rfl : j = 0 := by simpa using hj
        rw [hz1, show 0 + l.length * 1 + 0 = l.length by omega]; exact (h6 _ (by omega)).2)
      rw [hz1, show 0 + l.length * 1 = l.length by omega] at hr
      have hcell : (w.cell? ⟨g, l.length, none⟩).isSome = true := (h6 _ (by omega)).1
      refine ⟨_, _, hr, ⟨hsx, .inr ⟨g, cap, by simp, h1, by simpa [World.setCells] using h2, by simpa using hroom, h4, .inr hlg, fun i hi => ?_, fun i hi => ?_⟩⟩, ?_⟩
      · show ((w.setCell ⟨g, l.length, none⟩ (.string x)).cell? ⟨g, i, none⟩).isSome = true ∧ (w.setCell ⟨g, l.length, none⟩ (.string x)).frozen? ⟨g, i, none⟩ = false
        refine ⟨?_, by rw [World.frozen?_setCell]; exact (h6 i hi).2⟩
        by_cases he : i = l.length
        · subst he; rw [World.cell?_setCell_same' _ _ _ hcell]; rfl
        · rw [cell_other _ _ _ _ (by intro e; cases e; exact he rfl)]; exact (h6 i hi).1
      · show (w.setCell ⟨g, l.length, none⟩ (.string x)).cell? ⟨g, i, none⟩ = _
        by_cases he : i = l.length
        · subst he; rw [World.cell?_setCell_same' _ _ _ hcell]; simp
        · have hil : i < l.length := by simp at hi; omega
          rw [cell_other _ _ _ _ (by intro e; cases e; exact he rfl), h7 i hil, List.getElem_append_left hil]
      · exact ⟨(But.refl _ w).setCell (p := ⟨g, l.length, none⟩) ⟨rfl, hlg, h1⟩ _, fun g' hg => by cases hg; exact hlg⟩
    · obtain ⟨v', w', hr, ho, hgr⟩ := run_append_arg_grows (P := Try.prog) w 22 ty 9 i0 _ 1 16 Try.underlying22 hi hz0 hz1 hz2 rfl (by decide) ⟨g, 0, none⟩ l.length cap (l.map Value.string) (by simp) (fun j u hu => by
        rw [Addr.add_lit, Nat.zero_add]
        have hj : j < l.length := by have := (List.getElem?_eq_some_iff.1 hu).1; simpa using this
        rw [List.getElem?_map, List.getElem?_eq_getElem hj] at hu
        simp at hu; subst hu; exact h7 j hj) ad 1 1 [.string x] rfl hnews (by omega) (by unfold maxLen; omega) (by omega)
      exact ⟨v', w', hr, Loc.ofOwn (base := w.heap.size) (by simpa using ho) hB hlo hsx, ⟨hgr.os, hgr.tape, hgr.output, hgr.size, fun k hk _ => hgr.block k hk (by simp)⟩, fun g hg => Nat.le_trans hlo (ho.lt g hg).1⟩

/-- Locals behind it, where the slice has no spare cells. -/
theorem loc_many {B lo lo' : Nat} {w : World} {l xs : List ByteArray} {a : Option Addr} {sv : Value} {F : Nat → Prop} (h : Loc B lo w l (.slice a l.length l.length)) (hr : RdStrs F w xs sv) (hB : B < w.heap.size) (hlo : lo' ≤ w.heap.size) (hl : l.length + xs.length ≤ 1000000) (ty : TypeId) :
    ∃ v' w', (Builtin.append_ #[22, 22] ty #[.slice a l.length l.length, sv]).run Try.prog w = .ok v' w' ∧ Loc B lo' w' (l ++ xs) v' ∧ Below w.heap.size w w' ∧ Whence (.slice a l.length l.length) l.length lo' v' (l ++ xs) := by
  obtain ⟨i0, hi, hz0, hz1, hz2⟩ := info_parts Try.infoStr
  obtain ⟨c, ⟨sa, cap, rfl, hlc, hcm, hel⟩, hrow⟩ := hr
  have hcell : ∀ i (hi : i < xs.length), c i 0 = .string xs[i] ∧ xs[i].size ≤ maxLen := fun i hi => by
    obtain ⟨h1, h2⟩ := hrow i hi
    exact ⟨by simpa [rowCells] using h2, h1⟩
  by_cases h0 : xs = []
  · subst h0
    refine ⟨.slice a l.length l.length, w, ?_, ?_, Below.refl _ _, .inl ⟨rfl, by simp⟩⟩
    · rcases h.2 with ⟨e, rfl⟩ | ⟨g, cp, e, h1, h2, h3, h4, h5, h6, h7⟩
      · cases e
        cases sa <;> simp [Builtin.append_, run_underlying Try.underlying22, sizeOf, typeInfo, hi, Builtin.lenOf, Builtin.firstCells, loadCells, loadCellsFrom]
      · cases e
        cases sa <;> simp [Builtin.append_, run_underlying Try.underlying22, sizeOf, typeInfo, hi, Builtin.lenOf, Builtin.firstCells, storeCells, loadCells, loadCellsFrom]
    · rw [List.append_nil]
      refine ⟨h.1, ?_⟩
      rcases h.2 with e | ⟨g, cp, e, h1, h2, h3, h4, h5, h6, h7⟩
      · exact .inl e
      · cases e
        exact .inr ⟨g, l.length, rfl, h1, h2, Nat.le_refl _, h4, .inl rfl, h6, h7⟩
  · have hpos : 0 < xs.length := List.length_pos_iff.2 h0
    obtain ⟨b, off, rfl, hFb, hce⟩ := hel hpos
    have hnews : ∀ j u, (xs.map Value.string)[j]? = some u → w.cell? ((⟨b, off, none⟩ : Addr).add j) = some u := by
      intro j u hu
      have hj : j < xs.length := by have := (List.getElem?_eq_some_iff.1 hu).1; simpa using this
      rw [List.getElem?_map, List.getElem?_eq_getElem hj] at hu
      simp at hu; subst hu
      rw [Addr.add_lit, show off + j = off + j * 1 + 0 by omega, hce j hj 0 (by omega), (hcell j hj).1]
    have hsx : ∀ y ∈ l ++ xs, y.size ≤ maxLen := by
      intro y hy
      rcases List.mem_append.1 hy with h' | h'
      · exact h.1 y h'
      · obtain ⟨i, hi, rfl⟩ := List.getElem_of_mem h'
        exact (hcell i hi).2
    have hone : ∀ u ∈ xs.map Value.string, u.oneCell' = true := by
      intro u hu
      obtain ⟨y, _, rfl⟩ := List.mem_map.1 hu
      rfl
    rcases h.2 with ⟨e, rfl⟩ | ⟨g, cp, e, h1, h2, h3, h4, h5, h6, h7⟩
    · cases e
      obtain ⟨v', w', hr, ho, hgr, _⟩ := run_append_own (P := Try.prog) (w := w) (w.heap.size) 22 ty 9 i0 _ 1 16 Try.underlying22 hi hz0 hz1 hz2 rfl (by decide) (.slice none 0 0) 0 [] (World.ownsRow_nil _ _ _ _) ⟨b, off, none⟩ xs.length cap (xs.map Value.string) (by simp) hnews hone (by simp at hl; unfold maxLen; omega) (by simp at hl; omega) (Nat.le_refl _)
      exact ⟨v', w', hr, Loc.ofOwn (base := w.heap.size) (by simpa using ho) hB hlo hsx, ⟨hgr.os, hgr.tape, hgr.output, hgr.size, fun k hk => hgr.block k hk (by simp [Value.ownBlock])⟩, .inr fun g hg => Nat.le_trans hlo (ho.lt g hg).1⟩
    · cases e
      obtain ⟨v', w', hr, ho, hgr⟩ := run_append_arg_grows (P := Try.prog) w 22 ty 9 i0 _ 1 16 Try.underlying22 hi hz0 hz1 hz2 rfl (by decide) ⟨g, 0, none⟩ l.length l.length (l.map Value.string) (by simp) (fun j u hu => by
        rw [Addr.add_lit, Nat.zero_add]
        have hj : j < l.length := by have := (List.getElem?_eq_some_iff.1 hu).1; simpa using this
        rw [List.getElem?_map, List.getElem?_eq_getElem hj] at hu
        simp at hu; subst hu; exact h7 j hj) ⟨b, off, none⟩ xs.length cap (xs.map Value.string) (by simp) hnews (by omega) (by unfold maxLen; omega) (by omega)
      exact ⟨v', w', hr, Loc.ofOwn (base := w.heap.size) (by simpa using ho) hB hlo hsx, ⟨hgr.os, hgr.tape, hgr.output, hgr.size, fun k hk => hgr.block k hk (by simp)⟩, .inr fun g hg => Nat.le_trans hlo (ho.lt g hg).1⟩
end Go.Proofs.Ytblhpiebheommaa
