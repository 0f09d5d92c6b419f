/- The walks of kinds' caught, of the closures that it defers and calls, and of kinds.Expr. -/
import Derived.Test.YtblhpiebheommaaKinds2
import Derived.Recover
import Derived.RegionTactic
import Derived.BigRegion
namespace Go.Proofs.Ytblhpiebheommaa
open Go.RowKit

theorem wrong_asserted (er : Int) (nm : ByteArray) (w : World) : (Instr.typeAssert (.iface 106 (.agg #[.int .i64 er, .string nm])) 20 106 true).run Try.prog w = .ok (.tuple #[.agg #[.int .i64 er, .string nm], .bool true]) w := by kernel_rfl

/-- How the deferred closure ends where something was thrown. -/
def Caught1 (p q : Nat) (er : Int) (nm : ByteArray) (w : World) : Exit → Act → World → Prop
  | .normal, a, w' => a.defers = [] ∧ w'.cell? ⟨p, 0, none⟩ = some (.int .i64 er) ∧ w'.cell? ⟨q, 0, none⟩ = some (.string nm) ∧ ∀ B, B ≤ p → B ≤ q → B ≤ w.heap.size → Below B w w'
  | _, _, _ => False
theorem Caught1.mk {p q : Nat} {er : Int} {nm : ByteArray} {w w' : World} {a : Act} (hd : a.defers = []) (h1 : w'.cell? ⟨p, 0, none⟩ = some (.int .i64 er)) (h2 : w'.cell? ⟨q, 0, none⟩ = some (.string nm)) (h3 : ∀ B, B ≤ p → B ≤ q → B ≤ w.heap.size → Below B w w') : Caught1 p q er nm w .normal a w' := ⟨hd, h1, h2, h3⟩

set_option maxRecDepth 100000 in
set_option maxHeartbeats 1000000 in
theorem caught1_panicking (p q : Nat) (er : Int) (nm : ByteArray) (older : List PanicEntry) (w : World) (hpq : p ≠ q) (hc : w.cell? ⟨p, 0, none⟩ = some (.int .i64 0)) (hz : w.frozen? ⟨p, 0, none⟩ = false) (hd : w.cell? ⟨q, 0, none⟩ = some (.string ⟨#[]⟩)) (hy : w.frozen? ⟨q, 0, none⟩ = false) (hp : p < w.heap.size) (hq : q < w.heap.size) :
    CallsD Try.prog 56 #[.pointer (some ⟨p, 0, none⟩), .pointer (some ⟨q, 0, none⟩)] (.panicking ({ v := .iface 106 (.agg #[.int .i64 er, .string nm]), recovered := false } :: older)) w fun e u' w' =>
      e = .returned (.tuple #[]) ∧ u' = .panicking ({ v := .iface 106 (.agg #[.int .i64 er, .string nm]), recovered := true } :: older) ∧
        w'.cell? ⟨p, 0, none⟩ = some (.int .i64 er) ∧ w'.cell? ⟨q, 0, none⟩ = some (.string nm) ∧ ∀ B, B ≤ p → B ≤ q → B ≤ w.heap.size → Below B w w' := by
  refine callsD_of_wpS Try.func56 rfl fun c₀ cs hu => ?_
  apply wpS_seq
  apply wpS_region
  simp [wpOpsS, go_sem, recoverD, hu, Try.ntmps56, Exit.thenS]
  refine wpS_of_wp ?_
  refine wp_mono (Q := Caught1 p q er nm w) ?_ ?_
  · clear hu
    simp only [Array.replicate_succ, Array.replicate_zero, List.push_toArray, List.setIfInBounds_toArray, List.set_cons_succ, List.set_cons_zero, List.append_toArray, List.nil_append, List.cons_append]
    have hta := wrong_asserted er nm
    go_wp2_with fail
    obtain ⟨W1, hW1⟩ : ∃ W1, w.alloc (.cells #[.int .i64 er, .string nm] 106) = W1 := ⟨_, rfl⟩
    obtain ⟨N, hN⟩ : ∃ N, w.heap.size = N := ⟨_, rfl⟩
    have n0 : W1.cell? ⟨N, 0, none⟩ = some (.int .i64 er) := by rw [← hW1, ← hN]; simp
    have n1 : W1.cell? ⟨N, 1, none⟩ = some (.string nm) := by rw [← hW1, ← hN]; simp
    have c0 : W1.cell? ⟨p, 0, none⟩ = some (.int .i64 0) := by rw [← hW1, World.cell?_of_block (Below.heap_alloc w _ p hp)]; exact hc
    have c1 : W1.cell? ⟨q, 0, none⟩ = some (.string ⟨#[]⟩) := by rw [← hW1, World.cell?_of_block (Below.heap_alloc w _ q hq)]; exact hd
    have z0 : W1.frozen? ⟨p, 0, none⟩ = false := by rw [← hW1, World.frozen?_of_block (Below.heap_alloc w _ p hp)]; exact hz
    have z1 : W1.frozen? ⟨q, 0, none⟩ = false := by rw [← hW1, World.frozen?_of_block (Below.heap_alloc w _ q hq)]; exact hy
    have hBl : ∀ B, B ≤ p → B ≤ q → B ≤ w.heap.size → Below B w W1 := fun B _ _ h => by rw [← hW1]; exact (Below.refl _ _).alloc h _
    have hpN : p ≠ N := by omega
    have hqN : q ≠ N := by omega
    simp only [hN, hW1]
    clear hW1 hc hd hz hy hN hp hq
    go_region
    have hne : ∀ (X : World) (v : Value), (X.setCell ⟨q, 0, none⟩ v).cell? ⟨p, 0, none⟩ = X.cell? ⟨p, 0, none⟩ := fun X v => World.cell?_of_block (Below.heap_setCell X _ v p hpq)
    have hne2 : ∀ (X : World) (v : Value), (X.setCell ⟨p, 0, none⟩ v).cell? ⟨q, 0, none⟩ = X.cell? ⟨q, 0, none⟩ := fun X v => World.cell?_of_block (Below.heap_setCell X _ v q (Ne.symm hpq))
    refine Caught1.mk rfl ?_ ?_ (fun B h1 h2 h3 => ((((hBl B h1 h2 h3).setCell (p := ⟨p, 0, none⟩) h1 _).setCell (p := ⟨q, 0, none⟩) h2 _)).drew)
    · show ((W1.setCell ⟨p, 0, none⟩ (.int .i64 er)).setCell ⟨q, 0, none⟩ (.string nm)).cell? ⟨p, 0, none⟩ = _
      rw [hne]
      exact World.cell?_setCell_same' _ _ _ (by rw [c0]; rfl)
    · show ((W1.setCell ⟨p, 0, none⟩ (.int .i64 er)).setCell ⟨q, 0, none⟩ (.string nm)).cell? ⟨q, 0, none⟩ = _
      exact World.cell?_setCell_same' _ _ _ (by rw [hne2, c1]; rfl)
  · intro e a' w' h
    cases e with
    | normal =>
      obtain ⟨h1, h2, h3, h4⟩ := h
      cases c₀
      simp_all [bodyPostS, results, Try.results56]
    | _ => exact h.elim

theorem caught1_idle (p q : Value) (w : World) : CallsD Try.prog 56 #[p, q] .returning w fun e u' w' => e = .returned (.tuple #[]) ∧ u' = .returning ∧ w' = w := by
  refine callsD_of_wpS Try.func56 rfl fun c₀ cs hu => ?_
  apply wpS_seq
  apply wpS_region
  simp [wpOpsS, go_sem, recoverD, hu, Try.ntmps56, Exit.thenS]
  apply wpS_seq
  apply wpS_region
  simp [wpOpsS, go_sem, Exit.thenS]
  refine wpS_cond (t := false) (by simp [Act.eval, Array.replicate]) ?_
  simp only [Bool.false_eq_true, if_false]
  refine wpS_of_wp (wp_skip ?_)
  cases c₀
  simp_all [bodyPostS, results, Try.results56]

theorem leaves_done {P : Program} {fn : Func} {tmps : Array Value} {R : Ending → World → Prop} {w : World} {v : Value} (h : (results fn tmps).run P w = .ok v w) (hR : R (.returned v) w) : Leaves P fn tmps R [] .returning w := ⟨v, h, hR⟩

theorem caught_read (X : World) (b : Nat) (v v2 : Value) (h : (X.cell? ⟨b, 0, none⟩).isSome = true) (h2 : (X.cell? ⟨b + 1, 0, none⟩).isSome = true) :
    ((X.setCell ⟨b, 0, none⟩ v).setCell ⟨b + 1, 0, none⟩ v2).cell? ⟨b, 0, none⟩ = some v ∧ ((X.setCell ⟨b, 0, none⟩ v).setCell ⟨b + 1, 0, none⟩ v2).cell? ⟨b + 1, 0, none⟩ = some v2 := by
  have hne : ∀ (X : World) (v : Value), (X.setCell ⟨b + 1, 0, none⟩ v).cell? ⟨b, 0, none⟩ = X.cell? ⟨b, 0, none⟩ := fun X v => World.cell?_of_block (Below.heap_setCell X _ v b (by show b ≠ b + 1; omega))
  have hne2 : ∀ (X : World) (v : Value), (X.setCell ⟨b, 0, none⟩ v).cell? ⟨b + 1, 0, none⟩ = X.cell? ⟨b + 1, 0, none⟩ := fun X v => World.cell?_of_block (Below.heap_setCell X _ v (b + 1) (by show b + 1 ≠ b; omega))
  refine ⟨?_, ?_⟩
  · rw [hne]; exact World.cell?_setCell_same' _ _ _ h
  · exact World.cell?_setCell_same' _ _ _ (by rw [hne2]; exact h2)

/-- What caught hands back. -/
def GivesWrong (w : World) (p : Int × ByteArray) (e : Ending) (w' : World) : Prop := ∃ nm : ByteArray, e = .returned (.tuple #[.int .i64 p.1, .string nm]) ∧ (p.1 = 0 → nm = ⟨#[]⟩) ∧ (p.1 ≠ 0 → nm = p.2) ∧ Below w.heap.size w w'

set_option maxRecDepth 100000 in
set_option maxHeartbeats 1000000 in
theorem caught_calls (g : Nat) (caps : Array Value) (p : Int × ByteArray) (w : World) (hen : ∀ w, (callFunc g caps).run Try.prog w = .ok (.enter g caps) w) (H : ∀ W, Below w.heap.size w W → Calls Try.prog g caps W (Judged W p (.tuple #[]))) :
    Calls Try.prog 32 #[.func (.func g) #[] caps] w (GivesWrong w p) := by
  have hmf : ∀ (fn : Fn) (first cap : Array Value) (w : World), (Instr.makeFunc fn first cap).run Try.prog w = .ok (.func fn first cap) w := fun _ _ _ _ => rfl
  have hB0 : Below w.heap.size w ((w.alloc (.cells #[.int .i64 0] 34)).alloc (.cells #[.string ⟨#[]⟩] 9)) := ((Below.refl _ w).alloc (Nat.le_refl _) _).alloc (by simp) _
  by_cases hp : p.1 = 0
  · have HC := Lib.hid (judged_ok (H _ hB0) hp)
    have HP := Lib.hid hp
    clear H hp
    go_enter_defers Try.func32, Try.ntmps32
    go_wp2_with (refine HC.out.mono ?_; rintro e w1 ⟨rfl, hb⟩; obtain ⟨hcl, hfz⟩ := bcell hb)
    have hB1 := below_on hB0 (Nat.le_refl _) hb
    have a0 : w1.cell? ⟨w.heap.size, 0, none⟩ = some (.int .i64 0) := by rw [hcl _ _ (by simp; omega)]; simp
    have a1 : w1.cell? ⟨w.heap.size + 1, 0, none⟩ = some (.string ⟨#[]⟩) := by rw [hcl _ _ (by simp)]; simp
    have f0 := caught_read w1 w.heap.size (.int .i64 0) (.string ⟨#[]⟩) (by rw [a0]; rfl) (by rw [a1]; rfl)
    refine leaves_cons (f := 56) (args := #[.pointer (some ⟨w.heap.size, 0, none⟩), .pointer (some ⟨w.heap.size + 1, 0, none⟩)]) (by simp) (by simp [go_sem]) ?_
    refine (caught1_idle _ _ _).mono ?_
    rintro e u' w'' ⟨rfl, rfl, rfl⟩
    refine leaves_done (v := .tuple #[.int .i64 0, .string ⟨#[]⟩]) ?_ ⟨⟨#[]⟩, by rw [HP.out], fun _ => rfl, fun h => absurd HP.out h, (hB1.setCell (p := ⟨w.heap.size, 0, none⟩) (Nat.le_refl _) _).setCell (p := ⟨w.heap.size + 1, 0, none⟩) (Nat.le_succ _) _⟩
    simp [results, Try.results32, go_sem, f0.1, f0.2]
  · have HC := Lib.hid (judged_bad (H _ hB0) hp)
    have HP := Lib.hid hp
    clear H hp
    go_enter_defers Try.func32, Try.ntmps32
    go_wp2_with (refine HC.out.mono ?_; rintro e w1 ⟨rfl, hb⟩; obtain ⟨hcl, hfz⟩ := bcell hb)
    have hB1 := below_on hB0 (Nat.le_refl _) hb
    have a0 : w1.cell? ⟨w.heap.size, 0, none⟩ = some (.int .i64 0) := by rw [hcl _ _ (by simp; omega)]; simp
    have a1 : w1.cell? ⟨w.heap.size + 1, 0, none⟩ = some (.string ⟨#[]⟩) := by rw [hcl _ _ (by simp)]; simp
    have z0 : w1.frozen? ⟨w.heap.size, 0, none⟩ = false := by rw [hfz _ _ (by simp; omega)]; simp
    have z1 : w1.frozen? ⟨w.heap.size + 1, 0, none⟩ = false := by rw [hfz _ _ (by simp)]; simp
    have hsz := hb.size
    simp only [World.size_alloc] at hsz
    refine leaves_cons (f := 56) (args := #[.pointer (some ⟨w.heap.size, 0, none⟩), .pointer (some ⟨w.heap.size + 1, 0, none⟩)]) (by simp) (by simp [go_sem]) ?_
    refine (caught1_panicking w.heap.size (w.heap.size + 1) p.1 p.2 [] w1 (by omega) a0 z0 a1 z1 (by omega) (by omega)).mono ?_
    rintro e u' w'' ⟨rfl, rfl, h1, h2, h3⟩
    refine leaves_done (v := .tuple #[.int .i64 p.1, .string p.2]) ?_ ⟨p.2, rfl, fun h => absurd h HP.out, fun _ => rfl, hB1.trans (h3 w.heap.size (Nat.le_refl _) (Nat.le_succ _) (by omega))⟩
    simp [results, Try.results32, go_sem, h1, h2]
end Go.Proofs.Ytblhpiebheommaa
