/- The walks of kinds' caught, of the closures that it defers and calls, and of kinds.Expr. -/
import Derived.Test.YtblhpiebheommaaGreatKindsChecksPart9
import Derived.Recover
import Derived.RegionTactic
import Derived.BigRegion
namespace Go.Proofs.YtblhpiebheommaaGreat
open Go.RowKit

theorem wrong_asserted (er : Int) (nm : ByteArray) (w : World) : (Instr.typeAssert (.iface 104 (.agg #[.int .i64 er, .string nm])) 20 104 true).run Tryz.prog w = .ok (.tuple #[.agg #[.int .i64 er, .string nm], .bool true]) w := by kernel_rfl

/-- How the deferred closure ends where something was thrown. -/
def Caught1 (p q : Nat) (er : Int) (nm : ByteArray) (w : World) : Exit → Act → World → Prop
  | .normal, a, w' => a.defers = [] ∧ w'.cell? ⟨p, 0, none⟩ = some (.int .i64 er) ∧ w'.cell? ⟨q, 0, none⟩ = some (.string nm) ∧ ∀ B, B ≤ p → B ≤ q → B ≤ w.heap.size → Below B w w'
  | _, _, _ => False
theorem Caught1.mk {p q : Nat} {er : Int} {nm : ByteArray} {w w' : World} {a : Act} (hd : a.defers = []) (h1 : w'.cell? ⟨p, 0, none⟩ = some (.int .i64 er)) (h2 : w'.cell? ⟨q, 0, none⟩ = some (.string nm)) (h3 : ∀ B, B ≤ p → B ≤ q → B ≤ w.heap.size → Below B w w') : Caught1 p q er nm w .normal a w' := ⟨hd, h1, h2, h3⟩

set_option maxRecDepth 100000 in
set_option maxHeartbeats 1000000 in
theorem caught1_panicking (p q : Nat) (er : Int) (nm : ByteArray) (older : List PanicEntry) (w : World) (hpq : p ≠ q) (hc : w.cell? ⟨p, 0, none⟩ = some (.int .i64 0)) (hz : w.frozen? ⟨p, 0, none⟩ = false) (hd : w.cell? ⟨q, 0, none⟩ = some (.string ⟨#[]⟩)) (hy : w.frozen? ⟨q, 0, none⟩ = false) (hp : p < w.heap.size) (hq : q < w.heap.size) :
    CallsD Tryz.prog 43 #[.pointer (some ⟨p, 0, none⟩), .pointer (some ⟨q, 0, none⟩)] (.panicking ({ v := .iface 104 (.agg #[.int .i64 er, .string nm]), recovered := false } :: older)) w fun e u' w' =>
      e = .returned (.tuple #[]) ∧ u' = .panicking ({ v := .iface 104 (.agg #[.int .i64 er, .string nm]), recovered := true } :: older) ∧
        w'.cell? ⟨p, 0, none⟩ = some (.int .i64 er) ∧ w'.cell? ⟨q, 0, none⟩ = some (.string nm) ∧ ∀ B, B ≤ p → B ≤ q → B ≤ w.heap.size → Below B w w' := by
  refine callsD_of_wpS Tryz.func43 rfl fun c₀ cs hu => ?_
  apply wpS_seq
  apply wpS_region
  simp [wpOpsS, go_sem, recoverD, hu, Tryz.ntmps43, Exit.thenS]
  refine wpS_of_wp ?_
  refine wp_mono (Q := Caught1 p q er nm w) ?_ ?_
  · clear hu
    simp only [Array.replicate_succ, Array.replicate_zero, List.push_toArray, List.setIfInBounds_toArray, List.set_cons_succ, List.set_cons_zero, List.append_toArray, List.nil_append, List.cons_append]
    have hta := wrong_asserted er nm
    go_wp2_with fail
    obtain ⟨W1, hW1⟩ : ∃ W1, w.alloc (.cells #[.int .i64 er, .string nm] 104) = W1 := ⟨_, rfl⟩
    obtain ⟨N, hN⟩ : ∃ N, w.heap.size = N := ⟨_, rfl⟩
    have n0 : W1.cell? ⟨N, 0, none⟩ = some (.int .i64 er) := by rw [← hW1, ← hN]; simp
    have n1 : W1.cell? ⟨N, 1, none⟩ = some (.string nm) := by rw [← hW1, ← hN]; simp
    have c0 : W1.cell? ⟨p, 0, none⟩ = some (.int .i64 0) := by rw [← hW1, World.cell?_of_block (Below.heap_alloc w _ p hp)]; exact hc
    have c1 : W1.cell? ⟨q, 0, none⟩ = some (.string ⟨#[]⟩) := by rw [← hW1, World.cell?_of_block (Below.heap_alloc w _ q hq)]; exact hd
    have z0 : W1.frozen? ⟨p, 0, none⟩ = false := by rw [← hW1, World.frozen?_of_block (Below.heap_alloc w _ p hp)]; exact hz
    have z1 : W1.frozen? ⟨q, 0, none⟩ = false := by rw [← hW1, World.frozen?_of_block (Below.heap_alloc w _ q hq)]; exact hy
    have hBl : ∀ B, B ≤ p → B ≤ q → B ≤ w.heap.size → Below B w W1 := fun B _ _ h => by rw [← hW1]; exact (Below.refl _ _).alloc h _
    have hpN : p ≠ N := by omega
    have hqN : q ≠ N := by omega
    simp only [hN, hW1]
    clear hW1 hc hd hz hy hN hp hq
    go_region
    have hne : ∀ (X : World) (v : Value), (X.setCell ⟨q, 0, none⟩ v).cell? ⟨p, 0, none⟩ = X.cell? ⟨p, 0, none⟩ := fun X v => World.cell?_of_block (Below.heap_setCell X _ v p hpq)
    have hne2 : ∀ (X : World) (v : Value), (X.setCell ⟨p, 0, none⟩ v).cell? ⟨q, 0, none⟩ = X.cell? ⟨q, 0, none⟩ := fun X v => World.cell?_of_block (Below.heap_setCell X _ v q (Ne.symm hpq))
    refine Caught1.mk rfl ?_ ?_ (fun B h1 h2 h3 => ((((hBl B h1 h2 h3).setCell (p := ⟨p, 0, none⟩) h1 _).setCell (p := ⟨q, 0, none⟩) h2 _)).drew)
    · show ((W1.setCell ⟨p, 0, none⟩ (.int .i64 er)).setCell ⟨q, 0, none⟩ (.string nm)).cell? ⟨p, 0, none⟩ = _
      rw [hne]
      exact World.cell?_setCell_same' _ _ _ (by rw [c0]; rfl)
    · show ((W1.setCell ⟨p, 0, none⟩ (.int .i64 er)).setCell ⟨q, 0, none⟩ (.string nm)).cell? ⟨q, 0, none⟩ = _
      exact World.cell?_setCell_same' _ _ _ (by rw [hne2, c1]; rfl)
  · intro e a' w' h
    cases e with
    | normal =>
      obtain ⟨h1, h2, h3, h4⟩ := h
      cases c₀
      simp_all [bodyPostS, results, Tryz.results43]
    | _ => exact h.elim

theorem caught1_idle (p q : Value) (w : World) : CallsD Tryz.prog 43 #[p, q] .returning w fun e u' w' => e = .returned (.tuple #[]) ∧ u' = .returning ∧ w' = w := by
  refine callsD_of_wpS Tryz.func43 rfl fun c₀ cs hu => ?_
  apply wpS_seq
  apply wpS_region
  simp [wpOpsS, go_sem, recoverD, hu, Tryz.ntmps43, Exit.thenS]
  apply wpS_seq
  apply wpS_region
  simp [wpOpsS, go_sem, Exit.thenS]
  refine wpS_cond (t := false) (by simp [Act.eval, Array.replicate]) ?_
  simp only [Bool.false_eq_true, if_false]
  refine wpS_of_wp (wp_skip ?_)
  cases c₀
  simp_all [bodyPostS, results, Tryz.results43]

theorem leaves_done {P : Program} {fn : Func} {tmps : Array Value} {R : Ending → World → Prop} {w : World} {v : Value} (h : (results fn tmps).run P w = .ok v w) (hR : R (.returned v) w) : Leaves P fn tmps R [] .returning w := ⟨v, h, hR⟩

theorem caught_read (X : World) (b : Nat) (v v2 : Value) (h : (X.cell? ⟨b, 0, none⟩).isSome = true) (h2 : (X.cell? ⟨b + 1, 0, none⟩).isSome = true) :
    ((X.setCell ⟨b, 0, none⟩ v).setCell ⟨b + 1, 0, none⟩ v2).cell? ⟨b, 0, none⟩ = some v ∧ ((X.setCell ⟨b, 0, none⟩ v).setCell ⟨b + 1, 0, none⟩ v2).cell? ⟨b + 1, 0, none⟩ = some v2 := by
  have hne : ∀ (X : World) (v : Value), (X.setCell ⟨b + 1, 0, none⟩ v).cell? ⟨b, 0, none⟩ = X.cell? ⟨b, 0, none⟩ := fun X v => World.cell?_of_block (Below.heap_setCell X _ v b (by show b ≠ b + 1; omega))
  have hne2 : ∀ (X : World) (v : Value), (X.setCell ⟨b, 0, none⟩ v).cell? ⟨b + 1, 0, none⟩ = X.cell? ⟨b + 1, 0, none⟩ := fun X v => World.cell?_of_block (Below.heap_setCell X _ v (b + 1) (by show b + 1 ≠ b; omega))
  refine ⟨?_, ?_⟩
  · rw [hne]; exact World.cell?_setCell_same' _ _ _ h
  · exact World.cell?_setCell_same' _ _ _ (by rw [hne2]; exact h2)

/-- What caught hands back. -/
def GivesWrong (w : World) (p : Int × ByteArray) (e : Ending) (w' : World) : Prop := ∃ nm : ByteArray, e = .returned (.tuple #[.int .i64 p.1, .string nm]) ∧ (p.1 = 0 → nm = ⟨#[]⟩) ∧ (p.1 ≠ 0 → nm = p.2) ∧ Below w.heap.size w w'

set_option maxRecDepth 100000 in
set_option maxHeartbeats 1000000 in
theorem caught_calls (g : Nat) (caps : Array Value) (p : Int × ByteArray) (w : World) (hen : ∀ w, (callFunc g caps).run Tryz.prog w = .ok (.enter g caps) w) (H : ∀ W, Below w.heap.size w W → Calls Tryz.prog g caps W (Judged W p (.tuple #[]))) :
    Calls Tryz.prog 22 #[.func (.func g) #[] caps] w (GivesWrong w p) := by
  have hmf : ∀ (fn : Fn) (first cap : Array Value) (w : World), (Instr.makeFunc fn first cap).run Tryz.prog w = .ok (.func fn first cap) w := fun _ _ _ _ => rfl
  have hB0 : Below w.heap.size w ((w.alloc (.cells #[.int .i64 0] 33)).alloc (.cells #[.string ⟨#[]⟩] 9)) := ((Below.refl _ w).alloc (Nat.le_refl _) _).alloc (by simp) _
  by_cases hp : p.1 = 0
  · have HC := Lib.hid (judged_ok (H _ hB0) hp)
    have HP := Lib.hid hp
    clear H hp
    go_enter_defers Tryz.func22, Tryz.ntmps22
    go_wp2_with (refine HC.out.mono ?_; rintro e w1 ⟨rfl, hb⟩; obtain ⟨hcl, hfz⟩ := bcell hb)
    have hB1 := below_on hB0 (Nat.le_refl _) hb
    have a0 : w1.cell? ⟨w.heap.size, 0, none⟩ = some (.int .i64 0) := by rw [hcl _ _ (by simp; omega)]; simp
    have a1 : w1.cell? ⟨w.heap.size + 1, 0, none⟩ = some (.string ⟨#[]⟩) := by rw [hcl _ _ (by simp)]; simp
    have f0 := caught_read w1 w.heap.size (.int .i64 0) (.string ⟨#[]⟩) (by rw [a0]; rfl) (by rw [a1]; rfl)
    refine leaves_cons (f := 43) (args := #[.pointer (some ⟨w.heap.size, 0, none⟩), .pointer (some ⟨w.heap.size + 1, 0, none⟩)]) (by simp) (by simp [go_sem]) ?_
    refine (caught1_idle _ _ _).mono ?_
    rintro e u' w'' ⟨rfl, rfl, rfl⟩
    refine leaves_done (v := .tuple #[.int .i64 0, .string ⟨#[]⟩]) ?_ ⟨⟨#[]⟩, by rw [HP.out], fun _ => rfl, fun h => absurd HP.out h, (hB1.setCell (p := ⟨w.heap.size, 0, none⟩) (Nat.le_refl _) _).setCell (p := ⟨w.heap.size + 1, 0, none⟩) (Nat.le_succ _) _⟩
    simp [results, Tryz.results22, go_sem, f0.1, f0.2]
  · have HC := Lib.hid (judged_bad (H _ hB0) hp)
    have HP := Lib.hid hp
    clear H hp
    go_enter_defers Tryz.func22, Tryz.ntmps22
    go_wp2_with (refine HC.out.mono ?_; rintro e w1 ⟨rfl, hb⟩; obtain ⟨hcl, hfz⟩ := bcell hb)
    have hB1 := below_on hB0 (Nat.le_refl _) hb
    have a0 : w1.cell? ⟨w.heap.size, 0, none⟩ = some (.int .i64 0) := by rw [hcl _ _ (by simp; omega)]; simp
    have a1 : w1.cell? ⟨w.heap.size + 1, 0, none⟩ = some (.string ⟨#[]⟩) := by rw [hcl _ _ (by simp)]; simp
    have z0 : w1.frozen? ⟨w.heap.size, 0, none⟩ = false := by rw [hfz _ _ (by simp; omega)]; simp
    have z1 : w1.frozen? ⟨w.heap.size + 1, 0, none⟩ = false := by rw [hfz _ _ (by simp)]; simp
    have hsz := hb.size
    simp only [World.size_alloc] at hsz
    refine leaves_cons (f := 43) (args := #[.pointer (some ⟨w.heap.size, 0, none⟩), .pointer (some ⟨w.heap.size + 1, 0, none⟩)]) (by simp) (by simp [go_sem]) ?_
    refine (caught1_panicking w.heap.size (w.heap.size + 1) p.1 p.2 [] w1 (by omega) a0 z0 a1 z1 (by omega) (by omega)).mono ?_
    rintro e u' w'' ⟨rfl, rfl, h1, h2, h3⟩
    refine leaves_done (v := .tuple #[.int .i64 p.1, .string p.2]) ?_ ⟨p.2, rfl, fun h => absurd h HP.out, fun _ => rfl, hB1.trans (h3 w.heap.size (Nat.le_refl _) (Nat.le_succ _) (by omega))⟩
    simp [results, Tryz.results22, go_sem, h1, h2]
end Go.Proofs.YtblhpiebheommaaGreat
/- The walk of kinds.Expr. -/
namespace Go.Proofs.YtblhpiebheommaaGreat
open Go.RowKit

/-- A box of one value's cells. -/
def BoxAt (w : World) (b : Nat) (cs : List Value) : Prop := b < w.heap.size ∧ ∀ j, j < cs.length → w.cell? ⟨b, j, none⟩ = cs[j]?
theorem BoxAt.below {w w' : World} {b : Nat} {cs : List Value} {B : Nat} (h : BoxAt w b cs) (hb : Below B w w') (hB : b < B) : BoxAt w' b cs :=
  ⟨Nat.lt_of_lt_of_le h.1 hb.size, fun j hj => by rw [hb.cell (p := ⟨b, j, none⟩) hB]; exact h.2 j hj⟩
theorem BoxAt.new (w : World) (cs : List Value) (t : TypeId) : BoxAt (w.alloc (.cells cs.toArray t)) w.heap.size cs := ⟨by simp, bx_new w cs t _ rfl⟩
theorem BoxAt.one {w : World} {b : Nat} {v : Value} (h : BoxAt w b [v]) : w.cell? ⟨b, 0, none⟩ = some v := h.2 0 (by simp)

set_option maxRecDepth 100000 in
set_option maxHeartbeats 2000000 in
theorem expr1_calls (t : List NameD) (s : SrcD) (l : List ByteArray) (e : Ex) (F : Nat → Prop) (w : World) (b0 b1 b2 b3 : Nat) (tv lv : Value) (ss es : List Value) (hF : Inn F w) (hri : Rises t) (ht : t.length ≤ 1000000000000) (htab : TabOk t s.funcs s.objects.length)
    (hb0 : BoxAt w b0 [tv]) (hb1 : BoxAt w b1 ss) (hb2 : BoxAt w b2 [lv]) (hb3 : BoxAt w b3 es) (h0 : RdNames F w t tv) (h1 : Holds.src.R F w s ss) (h2 : RdStrs F w l lv) (h3 : RdEx F w e es) :
    Calls Tryz.prog 36 #[.pointer (some ⟨b0, 0, none⟩), .pointer (some ⟨b1, 0, none⟩), .pointer (some ⟨b2, 0, none⟩), .pointer (some ⟨b3, 0, none⟩)] w (Judged w (e.kW t s.funcs l) (.tuple #[])) := by
  have hk := fun (W : World) (B : Nat) (hW : Below w.heap.size w W) (hc1 : CkT F W B t) (hc2 : CkL F W B l) (hc3 : CkF F W B s.funcs) => kexpr_calls t s.funcs s.objects.length hri ht htab e l F W B es (hF.below hW) hc1 hc2 hc3 (h3.below hF hW (Nat.le_refl _))
  have H0 := Lib.hid h0
  have H2 := Lib.hid h2
  have HS := Lib.hid h1
  obtain ⟨a0, c0, rfl⟩ := h0.shape
  obtain ⟨a2, c2, rfl⟩ := h2.shape
  obtain ⟨kd, op, nm, st, ax, mx, cx, rfl⟩ := h3.shape
  obtain ⟨a5, c5, a6, c6, a7, c7, a8, c8, a9, c9, a10, c10, a11, c11, a12, c12, rfl, -, -, -, -, -, -, g11, -⟩ := src_shape h1
  have HF11 := Lib.hid g11
  have t0 := hb0.one
  have l0 := hb2.one
  have e0 := hb3.2 0 (by simp)
  have e1 := hb3.2 1 (by simp)
  have e2 := hb3.2 2 (by simp)
  have e3 := hb3.2 3 (by simp)
  have e4 := hb3.2 4 (by simp)
  have s0 := hb1.2 0 (by simp)
  have s1 := hb1.2 1 (by simp)
  have s2 := hb1.2 2 (by simp)
  have s3 := hb1.2 3 (by simp)
  have s4 := hb1.2 4 (by simp)
  have s5 := hb1.2 5 (by simp)
  have s6 := hb1.2 6 (by simp)
  have s7 := hb1.2 7 (by simp)
  have s8 := hb1.2 8 (by simp)
  have s9 := hb1.2 9 (by simp)
  have s10 := hb1.2 10 (by simp)
  have s11 := hb1.2 11 (by simp)
  have s12 := hb1.2 12 (by simp)
  simp only [List.getElem?_cons_succ, List.getElem?_cons_zero] at e0 e1 e2 e3 e4 s0 s1 s2 s3 s4 s5 s6 s7 s8 s9 s10 s11 s12
  have hlt := hb3.1
  have HK := Lib.hid hk
  clear hk h0 h1 h2 h3 g11 hb0 hb1 hb2 hb3 hri htab
  have hBn : Below w.heap.size w (w.alloc (.cells #[.slice a0 t.length c0, .string s.title, .string s.author, .string s.start, .int .i64 s.release, .int .i64 s.most, .slice a5 s.flags.length c5, .slice a6 s.props.length c6, .slice a7 s.globals.length c7, .slice a8 s.objects.length c8, .slice a9 s.verbs.length c9, .slice a10 s.rules.length c10, .slice a11 s.funcs.length c11, .slice a12 s.daemons.length c12, .slice a2 l.length c2, .int .i64 0, .int .i64 0] 95)) := (Below.refl _ w).alloc (Nat.le_refl _) _
  have hbx := bx_new w [.slice a0 t.length c0, .string s.title, .string s.author, .string s.start, .int .i64 s.release, .int .i64 s.most, .slice a5 s.flags.length c5, .slice a6 s.props.length c6, .slice a7 s.globals.length c7, .slice a8 s.objects.length c8, .slice a9 s.verbs.length c9, .slice a10 s.rules.length c10, .slice a11 s.funcs.length c11, .slice a12 s.daemons.length c12, .slice a2 l.length c2, .int .i64 0, .int .i64 0] 95 _ rfl
  have hz : w.heap.size < (w.alloc (.cells #[.slice a0 t.length c0, .string s.title, .string s.author, .string s.start, .int .i64 s.release, .int .i64 s.most, .slice a5 s.flags.length c5, .slice a6 s.props.length c6, .slice a7 s.globals.length c7, .slice a8 s.objects.length c8, .slice a9 s.verbs.length c9, .slice a10 s.rules.length c10, .slice a11 s.funcs.length c11, .slice a12 s.daemons.length c12, .slice a2 l.length c2, .int .i64 0, .int .i64 0] 95)).heap.size := by simp
  have hcall := HK.out _ w.heap.size hBn ⟨hz, _, hbx 0 (by simp), H0.out.below hF hBn (Nat.le_refl _)⟩ ⟨hz, _, hbx 14 (by simp), H2.out.below hF hBn (Nat.le_refl _)⟩ ⟨hz, _, hbx 12 (by simp), HF11.out.below hF hBn (Nat.le_refl _)⟩
  clear HK hbx hz
  by_cases hp : (e.kW t s.funcs l).1 = 0
  · have HC := Lib.hid (judged_ok hcall hp)
    have HP := Lib.hid hp
    clear hcall hp
    go_enter Tryz.func36, Tryz.ntmps36
    go_wp2_with (go_at_call 37; refine HC.out.mono ?_; rintro e0 w1 ⟨rfl, hb⟩)
    go_end0
    exact Judged.fine HP.out rfl (hBn.trans (hb.mono hBn.size))
  · have HC := Lib.hid (judged_bad hcall hp)
    have HP := Lib.hid hp
    clear hcall hp
    go_enter Tryz.func36, Tryz.ntmps36
    go_wp2_with (go_at_call 37; refine HC.out.mono ?_; rintro e0 w1 ⟨rfl, hb⟩)
    exact ⟨rfl, Judged.thrown rfl HP.out rfl (hBn.trans (hb.mono hBn.size))⟩

set_option maxRecDepth 100000 in
set_option maxHeartbeats 2000000 in
theorem kExpr_calls (t : List NameD) (s : SrcD) (l : List ByteArray) (e : Ex) (F : Nat → Prop) (w : World) (tv lv : Value) (ss es : List Value) (hF : Inn F w) (hri : Rises t) (ht : t.length ≤ 1000000000000) (htab : TabOk t s.funcs s.objects.length)
    (h0 : RdNames F w t tv) (h1 : Holds.src.R F w s ss) (h2 : RdStrs F w l lv) (h3 : RdEx F w e es) :
    Calls Tryz.prog 12 #[tv, .agg ss.toArray, lv, .agg es.toArray] w (GivesWrong w (e.kW t s.funcs l)) := by
  have hmf : ∀ (fn : Fn) (first cap : Array Value) (w : World), (Instr.makeFunc fn first cap).run Tryz.prog w = .ok (.func fn first cap) w := fun _ _ _ _ => rfl
  obtain ⟨a0, c0, rfl⟩ := h0.shape
  obtain ⟨a2, c2, rfl⟩ := h2.shape
  obtain ⟨kd, op, nm, st, ax, mx, cx, rfl⟩ := h3.shape
  obtain ⟨a5, c5, a6, c6, a7, c7, a8, c8, a9, c9, a10, c10, a11, c11, a12, c12, rfl, -, -, -, -, -, -, g11, -⟩ := src_shape h1
  have hW : Below w.heap.size w ((((w.alloc (.cells #[.slice a0 t.length c0] 32)).alloc (.cells #[.string s.title, .string s.author, .string s.start, .int .i64 s.release, .int .i64 s.most, .slice a5 s.flags.length c5, .slice a6 s.props.length c6, .slice a7 s.globals.length c7, .slice a8 s.objects.length c8, .slice a9 s.verbs.length c9, .slice a10 s.rules.length c10, .slice a11 s.funcs.length c11, .slice a12 s.daemons.length c12] 29)).alloc (.cells #[.slice a2 l.length c2] 22)).alloc (.cells #[.int .i64 kd, .int .i64 op, .int .i64 nm, .string st, .slice ax mx cx] 54)) := ((((Below.refl _ w).alloc (Nat.le_refl _) _).alloc (by simp) _).alloc (by simp <;> omega) _).alloc (by simp <;> omega) _
  have x0 := ((((BoxAt.new w [.slice a0 t.length c0] 32).below (((Below.refl _ _).alloc (Nat.le_refl _) (.cells #[.string s.title, .string s.author, .string s.start, .int .i64 s.release, .int .i64 s.most, .slice a5 s.flags.length c5, .slice a6 s.props.length c6, .slice a7 s.globals.length c7, .slice a8 s.objects.length c8, .slice a9 s.verbs.length c9, .slice a10 s.rules.length c10, .slice a11 s.funcs.length c11, .slice a12 s.daemons.length c12] 29))) (by simp)).below (((Below.refl _ _).alloc (Nat.le_refl _) (.cells #[.slice a2 l.length c2] 22))) (by simp <;> omega)).below (((Below.refl _ _).alloc (Nat.le_refl _) (.cells #[.int .i64 kd, .int .i64 op, .int .i64 nm, .string st, .slice ax mx cx] 54))) (by simp <;> omega))
  have x1 := (((BoxAt.new (w.alloc (.cells #[.slice a0 t.length c0] 32)) [.string s.title, .string s.author, .string s.start, .int .i64 s.release, .int .i64 s.most, .slice a5 s.flags.length c5, .slice a6 s.props.length c6, .slice a7 s.globals.length c7, .slice a8 s.objects.length c8, .slice a9 s.verbs.length c9, .slice a10 s.rules.length c10, .slice a11 s.funcs.length c11, .slice a12 s.daemons.length c12] 29).below (((Below.refl _ _).alloc (Nat.le_refl _) (.cells #[.slice a2 l.length c2] 22))) (by simp)).below (((Below.refl _ _).alloc (Nat.le_refl _) (.cells #[.int .i64 kd, .int .i64 op, .int .i64 nm, .string st, .slice ax mx cx] 54))) (by simp <;> omega))
  have x2 := ((BoxAt.new ((w.alloc (.cells #[.slice a0 t.length c0] 32)).alloc (.cells #[.string s.title, .string s.author, .string s.start, .int .i64 s.release, .int .i64 s.most, .slice a5 s.flags.length c5, .slice a6 s.props.length c6, .slice a7 s.globals.length c7, .slice a8 s.objects.length c8, .slice a9 s.verbs.length c9, .slice a10 s.rules.length c10, .slice a11 s.funcs.length c11, .slice a12 s.daemons.length c12] 29)) [.slice a2 l.length c2] 22).below (((Below.refl _ _).alloc (Nat.le_refl _) (.cells #[.int .i64 kd, .int .i64 op, .int .i64 nm, .string st, .slice ax mx cx] 54))) (by simp))
  have x3 := (BoxAt.new (((w.alloc (.cells #[.slice a0 t.length c0] 32)).alloc (.cells #[.string s.title, .string s.author, .string s.start, .int .i64 s.release, .int .i64 s.most, .slice a5 s.flags.length c5, .slice a6 s.props.length c6, .slice a7 s.globals.length c7, .slice a8 s.objects.length c8, .slice a9 s.verbs.length c9, .slice a10 s.rules.length c10, .slice a11 s.funcs.length c11, .slice a12 s.daemons.length c12] 29)).alloc (.cells #[.slice a2 l.length c2] 22)) [.int .i64 kd, .int .i64 op, .int .i64 nm, .string st, .slice ax mx cx] 54)
  have hin : ∀ W, Below ((((w.alloc (.cells #[.slice a0 t.length c0] 32)).alloc (.cells #[.string s.title, .string s.author, .string s.start, .int .i64 s.release, .int .i64 s.most, .slice a5 s.flags.length c5, .slice a6 s.props.length c6, .slice a7 s.globals.length c7, .slice a8 s.objects.length c8, .slice a9 s.verbs.length c9, .slice a10 s.rules.length c10, .slice a11 s.funcs.length c11, .slice a12 s.daemons.length c12] 29)).alloc (.cells #[.slice a2 l.length c2] 22)).alloc (.cells #[.int .i64 kd, .int .i64 op, .int .i64 nm, .string st, .slice ax mx cx] 54)).heap.size ((((w.alloc (.cells #[.slice a0 t.length c0] 32)).alloc (.cells #[.string s.title, .string s.author, .string s.start, .int .i64 s.release, .int .i64 s.most, .slice a5 s.flags.length c5, .slice a6 s.props.length c6, .slice a7 s.globals.length c7, .slice a8 s.objects.length c8, .slice a9 s.verbs.length c9, .slice a10 s.rules.length c10, .slice a11 s.funcs.length c11, .slice a12 s.daemons.length c12] 29)).alloc (.cells #[.slice a2 l.length c2] 22)).alloc (.cells #[.int .i64 kd, .int .i64 op, .int .i64 nm, .string st, .slice ax mx cx] 54)) W →
      Calls Tryz.prog 36 #[.pointer (some ⟨w.heap.size, 0, none⟩), .pointer (some ⟨w.heap.size + 1, 0, none⟩), .pointer (some ⟨w.heap.size + 2, 0, none⟩), .pointer (some ⟨w.heap.size + 3, 0, none⟩)] W (Judged W (e.kW t s.funcs l) (.tuple #[])) := fun W hb => by
    have hWW := hW.trans (hb.mono hW.size)
    refine expr1_calls t s l e F W _ _ _ _ _ _ _ _ (hF.below hWW) hri ht htab (x0.below hb (by simp <;> omega)) ?_ ?_ ?_ (h0.below hF hWW (Nat.le_refl _)) (Holds.src.below h1 hF hWW (Nat.le_refl _)) (h2.below hF hWW (Nat.le_refl _)) (h3.below hF hWW (Nat.le_refl _))
    · have := x1.below hb (by simp <;> omega); simpa using this
    · have := x2.below hb (by simp); simpa using this
    · have := x3.below hb (by simp); simpa using this
  have HC := Lib.hid (caught_calls 36 _ (e.kW t s.funcs l) _ (fun w => enters_of Tryz.func36 (by kernel_rfl) rfl _ w) hin)
  clear hin x0 x1 x2 x3 h0 h1 h2 h3 g11 htab hri
  go_enter Tryz.func12, Tryz.ntmps12
  go_wp2_with (go_at_call 22; refine HC.out.mono ?_; rintro e0 w1 ⟨n1, rfl, hn0, hn1, hb⟩)
  go_ret2
  exact ⟨n1, rfl, hn0, hn1, hW.trans (hb.mono hW.size)⟩
end Go.Proofs.YtblhpiebheommaaGreat
