/- A book's tables, as far as the reference's bound reads them; the walks of clewref01.Is and clewref10.params. -/
import Derived.Test.YtimdnamhccipjaaBare
import Derived.Test.YtimdnamhccipjaaCells
import Derived.Deep.CutBlock
namespace Go.Proofs.Ytimdnamhccipjaa
open Go.RowKit Go.Sort

theorem isR_calls (n : Int) (w : World) : Calls Try.prog 115 #[.int .i64 n] w (Same0 w (.bool (decide (-32768 ≤ n) && decide (n ≤ 32767)))) := by
  by_cases h : -32768 ≤ n
  · have e : Hid ((decide (-32768 ≤ n) && decide (n ≤ 32767)) = decide (n ≤ 32767)) := by show _ = _; simp [h]
    go_enter Try.func115, Try.ntmps115
    go_wp2
    go_ret
    exact ⟨ret_bool e.out.symm, rfl⟩
  · have e : Hid ((decide (-32768 ≤ n) && decide (n ≤ 32767)) = false) := by show _ = _; simp [h]
    go_enter Try.func115, Try.ntmps115
    go_wp2
    go_ret
    exact ⟨ret_bool e.out.symm, rfl⟩

/-- A slice of numbers. -/
def Ints (F : Nat → Prop) (w : World) (v : Value) (n : Nat) (f : Nat → Int) : Prop := SlAt F w 1 v n (fun i _ => .int .i64 (f i)) ∧ ∀ i, I64 (f i)

/-- The tables: of the slices whose lengths are asked, that their lengths are those of slices; Funcs and Params whole. -/
structure Tab (F : Nat → Prop) (w : World) (cs : List Value) where
  p : ∃ (i0 i1 i2 i3 i5 : Int) (v4 v6 v7 v8 v9 v10 v11 v12 v13 v14 : Value), cs = [.int .i64 i0, .int .i64 i1, .int .i64 i2, .int .i64 i3, v4, .int .i64 i5, v6, v7, v8, v9, v10, v11, v12, v13, v14] ∧
    (∀ v ∈ [v4, v6, v7, v8, v9, v10, v12, v14], ∃ a n c, v = .slice a n c ∧ n ≤ c ∧ c ≤ maxLen) ∧ (∃ n f, Ints F w v11 n f) ∧ (∃ n f, Ints F w v13 n f)

theorem Tab.below {F : Nat → Prop} {w w' : World} {cs : List Value} {B : Nat} (h : Tab F w cs) (hF : Inn F w) (hb : Below B w w') (hB : w.heap.size ≤ B) : Tab F w' cs := by
  obtain ⟨i0, i1, i2, i3, i5, v4, v6, v7, v8, v9, v10, v11, v12, v13, v14, rfl, h1, ⟨n, f, h2, h3⟩, n', f', h4, h5⟩ := h.p
  exact ⟨⟨i0, i1, i2, i3, i5, v4, v6, v7, v8, v9, v10, v11, v12, v13, v14, rfl, h1, ⟨n, f, h2.below hF hb hB, h3⟩, n', f', h4.below hF hb hB, h5⟩⟩

theorem Ints.opn {F : Nat → Prop} {w : World} {v : Value} {n : Nat} {f : Nat → Int} (h : Ints F w v n f) : ∃ a cap, v = .slice a n cap ∧ n ≤ cap ∧ cap ≤ 9223372036854775807 ∧ (0 < n → ∃ b off, a = some ⟨b, off, none⟩ ∧ F b ∧ ∀ (wr : World), wr.heap[b]? = w.heap[b]? → ∀ i, i < n → wr.cell? ⟨b, off + i, none⟩ = some (.int .i64 (f i))) := by
  obtain ⟨⟨a, cap, rfl, h1, h2, h3⟩, _⟩ := h
  refine ⟨a, cap, rfl, h1, by unfold maxLen at h2; omega, fun h0 => ?_⟩
  obtain ⟨b, off, rfl, hF, hc⟩ := h3 h0
  refine ⟨b, off, rfl, hF, fun wr hb i hi => ?_⟩
  rw [World.cell?_of_block (w := w) hb]
  simpa using hc i hi 0 (by omega)

theorem quietOf {P : Program} {f : FuncId} {args : Array Value} {w : World} {n : Nat} {v : Value} (h : Calls P f args (w.drewN n) (Same0 (w.drewN n) v)) : Calls P f args (w.drewN n) fun e w'' => e = .returned v ∧ ∃ m, w'' = w.drewN m :=
  Calls.quiet_of_same (h.mono fun _ _ h => ⟨h.1, h.2.symm⟩)

/-- A call that hands back some number, or some truth. -/
def SomeI (w : World) (e : Ending) (w' : World) : Prop := ∃ n : Int, e = .returned (.int .i64 n) ∧ Below w.heap.size w w'

set_option maxRecDepth 100000 in
set_option maxHeartbeats 2000000 in
theorem params_calls (F : Nat → Prop) (w : World) (cs : List Value) (x : Int) (hF : Inn F w) (ht : Tab F w cs) : ∃ q : Int, ∀ w', Below w.heap.size w w' → Calls Try.prog 116 #[.agg cs.toArray, .int .i64 x] w' (Gives w' (.int .i64 q)) := by
  obtain ⟨i0, i1, i2, i3, i5, v4, v6, v7, v8, v9, v10, v11, v12, v13, v14, rfl, h1, ⟨n, f, h2⟩, n', f', h4⟩ := ht.p
  obtain ⟨a, cap, rfl, g1, g2, g3⟩ := h2.opn
  obtain ⟨a', cap', rfl, g1', g2', g3'⟩ := h4.opn
  clear h1 ht
  by_cases hr : 0 ≤ x ∧ x ≤ (n : Int) - 1
  rotate_left
  · refine ⟨-1, fun w' hb => ?_⟩
    have e : dec (0 ≤ x ∧ x ≤ (n : Int) - 1) = false := dec_false hr
    have hA := fun (w' : World) (k : Nat) => quietOf (among_calls x 0 ((n : Int) - 1) (w'.drewN k))
    rw [e] at hA
    have HA := Lib.hid hA
    clear hA
    clear e hr g3 g3'
    go_enter Try.func116, Try.ntmps116
    go_wp2
    go_quiet (with_reducible exact HA.out _ _)
    go_wp2
    go_ret
    exact ⟨rfl, below_drewN ((Below.refl _ _).alloc (Nat.le_refl _) _) _⟩
  obtain ⟨i, rfl⟩ : ∃ i : Nat, x = (i : Int) := ⟨x.toNat, by omega⟩
  have hin : i < n := by omega
  obtain ⟨b, off, rfl, hb0, hel⟩ := g3 (by omega)
  have hA := fun (w' : World) (k : Nat) => quietOf (among_calls (i : Int) 0 ((n : Int) - 1) (w'.drewN k))
  rw [dec_true hr] at hA
  have HA := Lib.hid hA
  clear hA
  have hix : (0 : Int) ≤ (i : Int) := by omega
  have hix2 : (i : Int) < (n : Int) := by omega
  have hfI := h2.2 i
  clear hr g3 h2
  generalize hfx : f i = x at *
  have HFX := Lib.hid hfx
  clear hfx
  by_cases hr : 0 ≤ x ∧ x ≤ (n' : Int) - 1
  rotate_left
  · refine ⟨-1, fun w' hb => ?_⟩
    have q0 := HFX.out ▸ hel w' (hb.block b (hF b hb0)) i hin
    have hbl := (hF.below hb) b hb0
    have hA2 := fun (w' : World) (k : Nat) => quietOf (among_calls x 0 ((n' : Int) - 1) (w'.drewN k))
    rw [dec_false hr] at hA2
    have HA2 := Lib.hid hA2
    clear hA2
    clear hr g3' hel
    go_enter Try.func116, Try.ntmps116
    go_wp2
    go_quiet (first | with_reducible exact HA.out _ _ | with_reducible exact HA2.out _ _)
    go_wp2
    go_ret
    exact ⟨rfl, below_drewN ((Below.refl _ _).alloc (Nat.le_refl _) _) _⟩
  have hA2 := fun (w' : World) (k : Nat) => quietOf (among_calls x 0 ((n' : Int) - 1) (w'.drewN k))
  rw [dec_true hr] at hA2
  have HA2 := Lib.hid hA2
  clear hA2
  obtain ⟨j, rfl⟩ : ∃ j : Nat, x = (j : Int) := ⟨x.toNat, by omega⟩
  have hjn : j < n' := by omega
  obtain ⟨b2, off2, rfl, hb2, hel2⟩ := g3' (by omega)
  refine ⟨f' j, fun w' hb => ?_⟩
  have q0 := HFX.out ▸ hel w' (hb.block b (hF b hb0)) i hin
  have hbl := (hF.below hb) b hb0
  have q1 := hel2 w' (hb.block b2 (hF b2 hb2)) j hjn
  have hbl2 := (hF.below hb) b2 hb2
  have hjx : (0 : Int) ≤ (j : Int) := by omega
  have hjx2 : (j : Int) < (n' : Int) := by omega
  clear hr hel hel2 g3' h4
  go_enter Try.func116, Try.ntmps116
  go_wp2
  go_quiet (first | with_reducible exact HA.out _ _ | with_reducible exact HA2.out _ _)
  go_wp2
  go_quiet (fail)
  go_wp2
  go_ret
  exact ⟨rfl, below_drewN (below_drewN ((Below.refl _ _).alloc (Nat.le_refl _) _) _) _⟩
end Go.Proofs.Ytimdnamhccipjaa
