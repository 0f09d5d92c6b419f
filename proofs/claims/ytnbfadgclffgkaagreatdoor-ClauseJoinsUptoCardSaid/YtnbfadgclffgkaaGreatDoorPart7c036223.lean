/- clause.Parse where something is thrown. Printed by gen-par22.py. -/
import Derived.Test.YtnbfadgclffgkaaGreatDoorPartae49ffff
import Derived.Test.YtnbfadgclffgkaaGreatDoorPart9f2d795c
namespace Go.Proofs.YtnbfadgclffgkaaGreatDoor
open Go.RowKit Go.Sort
theorem stop_asserted (ln cl : Nat) (w : World) : (Instr.typeAssert (stopV ln cl) 20 88 true).run Tryz.prog w = .ok (.tuple #[.agg #[.int .i64 8, .int .i64 ln, .int .i64 cl], .bool true]) w := by kernel_rfl
def CaughtB (r ln cl : Nat) (w : World) : Prop := BoxT w r [.int .i64 0, .int .i64 0, .string ⟨#[]⟩, .slice none 0 0, .slice none 0 0, .slice none 0 0] 27 ∧ BoxT w (r + 1) [.int .i64 0] 3 ∧ BoxT w (r + 2) [.int .i64 8, .int .i64 ln, .int .i64 cl] 36
def CaughtS (r ln cl : Nat) (w : World) : Exit → Act → World → Prop
  | .normal, a, w' => a.defers = [] ∧ CaughtB r ln cl w' ∧ ∀ B, B ≤ r → B ≤ w.heap.size → Below B w w'
  | _, _, _ => False
theorem CaughtS.mk {r ln cl : Nat} {w w' : World} {a : Act} (hd : a.defers = []) (h1 : CaughtB r ln cl w') (h3 : ∀ B, B ≤ r → B ≤ w.heap.size → Below B w w') : CaughtS r ln cl w .normal a w' := ⟨hd, h1, h3⟩
theorem BoxT.drewT {w : World} {b : Nat} {cs : List Value} {T : TypeId} (h : BoxT w b cs T) : BoxT w.drew b cs T := h
theorem BoxT.at0 {w : World} {b : Nat} {u y : Value} {T : TypeId} (h : BoxT w b [u] T) : BoxT (w.setCell ⟨b, 0, none⟩ y) b [y] T := by
  unfold BoxT at *
  simp [World.setCell, Array.getElem?_modify, h]
set_option maxRecDepth 100000 in
set_option maxHeartbeats 4000000 in
theorem ccaught_panicking (r ln cl : Nat) (older : List PanicEntry) (w : World) (hr : BoxT w r [.int .i64 0, .int .i64 0, .string ⟨#[]⟩, .slice none 0 0, .slice none 0 0, .slice none 0 0] 27) (hq : BoxT w (r + 1) [.int .i64 0] 3) (hf : BoxT w (r + 2) [.int .i64 0, .int .i64 0, .int .i64 0] 36) :
    CallsD Tryz.prog 59 #[.pointer (some ⟨r, 0, none⟩), .pointer (some ⟨r + 1, 0, none⟩), .pointer (some ⟨r + 2, 0, none⟩)] (.panicking ({ v := stopV ln cl, recovered := false } :: older)) w fun e u' w' =>
      e = .returned (.tuple #[]) ∧ u' = .panicking ({ v := stopV ln cl, recovered := true } :: older) ∧ CaughtB r ln cl w' ∧ ∀ B, B ≤ r → B ≤ w.heap.size → Below B w w' := by
  refine callsD_of_wpS Tryz.func59 rfl fun c₀ cs hu => ?_
  apply wpS_seq
  apply wpS_region
  simp [wpOpsS, go_sem, recoverD, hu, Tryz.ntmps59, Exit.thenS]
  refine wpS_of_wp ?_
  refine wp_mono (Q := CaughtS r ln cl w) ?_ ?_
  · clear hu
    simp only [Array.replicate_succ, Array.replicate_zero, List.push_toArray, List.setIfInBounds_toArray, List.set_cons_succ, List.set_cons_zero, List.append_toArray, List.nil_append, List.cons_append]
    have hta := stop_asserted ln cl
    unfold stopV at hta ⊢
    go_wp2_with fail
    obtain ⟨W1, hW1⟩ : ∃ x, w.alloc (.cells #[.int .i64 8, .int .i64 ln, .int .i64 cl] 88) = x := ⟨_, rfl⟩
    obtain ⟨W2, hW2⟩ : ∃ x, W1.alloc (.cells #[.int .i64 0, .int .i64 0, .string ⟨#[]⟩, .slice none 0 0, .slice none 0 0, .slice none 0 0] 27) = x := ⟨_, rfl⟩
    rw [hW1, hW2]
    have hz1 : W1.heap.size = w.heap.size + 1 := by rw [← hW1]; simp
    have hb1 : Below w.heap.size w W1 := by rw [← hW1]; exact (Below.refl _ _).alloc (Nat.le_refl _) _
    have hb2 : Below W1.heap.size W1 W2 := by rw [← hW2]; exact (Below.refl _ _).alloc (Nat.le_refl _) _
    have hs1 : BoxT W1 w.heap.size [.int .i64 8, .int .i64 ln, .int .i64 cl] 88 := by rw [← hW1]; exact BoxT.new _ _ _
    have hn2 : BoxT W2 (w.heap.size + 1) [.int .i64 0, .int .i64 0, .string ⟨#[]⟩, .slice none 0 0, .slice none 0 0, .slice none 0 0] 27 := by rw [← hz1, ← hW2]; exact BoxT.new _ _ _
    have hs2 := hs1.below hb2
    have hB2 := btK hb1 hb2
    have hr2 := hr.below hB2
    have hq2 := hq.below hB2
    have hf2 := hf.below hB2
    have hlt := hf.lt
    have HBl : Hid (∀ B, B ≤ r → B ≤ w.heap.size → Below B w W2) := fun B _ h => hB2.mono h
    generalize w.heap.size = N at hs2 hn2 hlt ⊢
    obtain ⟨m0, m1, m2, m3, m4, m5⟩ := hr2.cells6
    have f0 := Lib.frozen_of_heap hr2 0; have f1 := Lib.frozen_of_heap hr2 1; have f2 := Lib.frozen_of_heap hr2 2; have f3 := Lib.frozen_of_heap hr2 3; have f4 := Lib.frozen_of_heap hr2 4; have f5 := Lib.frozen_of_heap hr2 5
    have n0 := hq2.cell 0
    simp only [cqz] at n0
    have g0 := Lib.frozen_of_heap hq2 0
    have o0 := hf2.cell 0
    have o1 := hf2.cell 1
    have o2 := hf2.cell 2
    simp only [cqs, cqz] at o0 o1 o2
    have j0 := Lib.frozen_of_heap hf2 0
    have j1 := Lib.frozen_of_heap hf2 1
    have j2 := Lib.frozen_of_heap hf2 2
    have s0 := hs2.cell 0
    have s1 := hs2.cell 1
    have s2 := hs2.cell 2
    simp only [cqs, cqz] at s0 s1 s2
    obtain ⟨u0, u1, u2, u3, u4, u5⟩ := hn2.cells6
    have HR := Lib.hid hr2; have HQ := Lib.hid hq2; have HF := Lib.hid hf2
    clear hW1 hW2 hz1 hb1 hb2 hs1 hn2 hs2 hB2 hr2 hq2 hf2 hr hq hf
    go_region
    refine CaughtS.mk rfl ⟨BoxT.drewT ?_, BoxT.drewT ?_, BoxT.drewT ?_⟩ (fun B h1 h2 => Below.drew ?_)
    · exact (((HR.out.fill6).farT (b := r + 1) (by omega))).three (by omega)
    · exact ((HQ.out.six (by omega)).at0).three (by omega)
    · exact ((HF.out.six (by omega)).farT (b := r + 1) (by omega)).fill3
    · exact three9 ((six9 (HBl.out B h1 (by assumption)) h1).setCell (p := ⟨r + 1, 0, none⟩) (Nat.le_succ_of_le h1) _) (Nat.le_add_right_of_le h1)
  · intro e a' w' h
    cases e with
    | normal =>
      obtain ⟨h1, h2, h3⟩ := h
      cases c₀
      simp_all [bodyPostS, results, Tryz.results59]
    | _ => exact h.elim
set_option maxRecDepth 100000 in
set_option maxHeartbeats 4000000 in
theorem canyT_calls (w : World) (b : Nat) (v : Value) (own : Nat) (D : Int) (l : List TokD) (ln cl : Nat) (hkd : (tokAt l 0).kind = 5) (hbg : begT (tokAt l 0) = true) (hp : CS w b v 0 own) (hl : RdL Holds.tok 5 (fun x => x < b) w l v)
    (hT : ∀ W, CS W b v 0 own → RdL Holds.tok 5 (fun x => x < b) W l v → Calls Tryz.prog 100 #[.pointer (some ⟨b, 0, none⟩)] W (Throws W ln cl)) : Calls Tryz.prog 60 #[.pointer (some ⟨b, 0, none⟩), .int .i64 D] w (Throws w ln cl) := by
  have hbl := hp.lt
  obtain ⟨W1, hW1⟩ : ∃ x, w.alloc (.cells #[.int .i64 0, .int .i64 0, .string ⟨#[]⟩, .slice none 0 0, .slice none 0 0, .slice none 0 0] 27) = x := ⟨_, rfl⟩
  have hb1 : Below w.heap.size w W1 := by rw [← hW1]; exact (Below.refl _ _).alloc (Nat.le_refl _) _
  have hp1 := CS.below hp hb1
  have hl1 := (Kept.of hb1 (Nat.le_of_lt hbl)).toks hl
  have hP : ∀ W, Below W1.heap.size W1 W → CS W b v 0 own ∧ RdL Holds.tok 5 (fun x => x < b) W l v := fun W h => ⟨CS.below hp1 h, (Kept.of h (Nat.le_of_lt hp1.lt)).toks hl1⟩
  have htk := ctok_calls W1 b v 0 own 0 l hp1 hl1 (by omega)
  have hbe := fun W (h : Below W1.heap.size W1 W) => cbegins_calls W b v 0 own l (hP W h).1 (hP W h).2 (by omega)
  simp only [Nat.zero_add, hbg] at htk hbe
  have HTI := Lib.hid (fun W (h : Below W1.heap.size W1 W) => hT W (hP W h).1 (hP W h).2)
  generalize tokAt l 0 = t at htk hkd
  obtain ⟨t0, t1, t2, t3, t4⟩ := t
  simp only at hkd
  subst hkd
  have HTK := Lib.hid (show Calls Tryz.prog 98 #[.pointer (some ⟨b, 0, none⟩), .int .i64 0] W1 (Gives W1 (.agg #[.int .i64 5, .string t1, .int .i64 t2, .int .i64 t3, .int .i64 t4])) from htk)
  have HBE := Lib.hid hbe; have HB1 := Lib.hid hb1; have HW1 := Lib.hid hW1
  clear htk hbe hb1 hW1 hP hT hp hl hp1 hl1 hbg
  go_enter Tryz.func60, Tryz.ntmps60
  go_upto_region 1 with fail
  rw [HW1.out]
  go_upto_region 2 with (go_at_call 98; (with_reducible refine HTK.out.mono ?_); rintro e w1 ⟨rfl, hb1⟩)
  obtain ⟨w2, hw2⟩ : ∃ x, w1.alloc (.cells #[.int .i64 5, .string t1, .int .i64 t2, .int .i64 t3, .int .i64 t4] 53) = x := ⟨_, rfl⟩
  have hb2 : Below W1.heap.size W1 w2 := by rw [← hw2]; exact hb1.alloc hb1.size _
  have hx2 : BoxT w2 w1.heap.size [.int .i64 5, .string t1, .int .i64 t2, .int .i64 t3, .int .i64 t4] 53 := by rw [← hw2]; exact BoxT.new _ _ _
  rw [hw2]
  generalize w1.heap.size = x at hx2 ⊢
  have HX2 := Lib.hid hx2; have HB2 := Lib.hid hb2
  clear hx2 hw2 hb1 hb2
  go_upto_region 4 with (go_at_call 69; (with_reducible refine (HBE.out _ HB2.out).mono ?_); rintro e w3 ⟨rfl, hb3⟩)
  have hx3 := HX2.out.below hb3
  have m0 := hx3.cell 0
  have m1 := hx3.cell 1
  have m2 := hx3.cell 2
  have m3 := hx3.cell 3
  have m4 := hx3.cell 4
  simp only [cqs, cqz] at m0 m1 m2 m3 m4
  have HB3 := Lib.hid (btK HB2.out hb3)
  clear hx3 hb3
  go_wp2_with (go_at_call 100; (with_reducible refine (HTI.out _ HB3.out).mono ?_); rintro e w4 ⟨rfl, hb4⟩)
  exact ⟨rfl, rfl, btK HB1.out (btK HB3.out hb4)⟩
set_option maxRecDepth 100000 in
set_option maxHeartbeats 4000000 in
theorem cstmtT_calls (w : World) (b : Nat) (v : Value) (own : Nat) (D : Int) (l : List TokD) (ln cl : Nat) (hp : CS w b v 0 own) (hl : RdL Holds.tok 5 (fun x => x < b) w l v)
    (hT : ∀ W, CS W b v 0 own → RdL Holds.tok 5 (fun x => x < b) W l v → Calls Tryz.prog 60 #[.pointer (some ⟨b, 0, none⟩), .int .i64 D] W (Throws W ln cl)) : Calls Tryz.prog 32 #[.pointer (some ⟨b, 0, none⟩), .int .i64 D] w (Throws w ln cl) := by
  have hbl := hp.lt
  obtain ⟨W1, hW1⟩ : ∃ x, w.alloc (.cells #[.int .i64 0, .int .i64 0, .string ⟨#[]⟩, .slice none 0 0, .slice none 0 0, .slice none 0 0] 27) = x := ⟨_, rfl⟩
  have hb1 : Below w.heap.size w W1 := by rw [← hW1]; exact (Below.refl _ _).alloc (Nat.le_refl _) _
  have hp1 := CS.below hp hb1
  have HT := Lib.hid (hT W1 hp1 ((Kept.of hb1 (Nat.le_of_lt hbl)).toks hl))
  obtain ⟨z0, z1, z2⟩ := hp1.cells
  have HB1 := Lib.hid hb1; have HW1 := Lib.hid hW1
  clear hb1 hW1 hT hp hl hp1
  go_enter Tryz.func32, Tryz.ntmps32
  go_upto_region 1 with fail
  rw [HW1.out]
  go_wp2_with (go_at_call 60; (with_reducible refine HT.out.mono ?_); rintro e w4 ⟨rfl, hb4⟩)
  exact ⟨rfl, rfl, btK HB1.out hb4⟩
set_option maxRecDepth 100000 in
set_option maxHeartbeats 4000000 in
theorem cparse1T_calls (w : World) (b : Nat) (v : Value) (own : Nat) (l : List TokD) (ln cl : Nat) (hp : CS w b v 0 own) (hl : RdL Holds.tok 5 (fun x => x < b) w l v)
    (hT : ∀ W, CS W b v 0 own → RdL Holds.tok 5 (fun x => x < b) W l v → Calls Tryz.prog 32 #[.pointer (some ⟨b, 0, none⟩), .int .i64 0] W (Throws W ln cl)) : Calls Tryz.prog 31 #[.pointer (some ⟨b, 0, none⟩)] w (Throws w ln cl) := by
  have hbl := hp.lt
  obtain ⟨W1, hW1⟩ : ∃ x, w.alloc (.cells #[.int .i64 0, .int .i64 0, .string ⟨#[]⟩, .slice none 0 0, .slice none 0 0, .slice none 0 0] 27) = x := ⟨_, rfl⟩
  have hb1 : Below w.heap.size w W1 := by rw [← hW1]; exact (Below.refl _ _).alloc (Nat.le_refl _) _
  have HT := Lib.hid (hT W1 (CS.below hp hb1) ((Kept.of hb1 (Nat.le_of_lt hbl)).toks hl))
  have HB1 := Lib.hid hb1; have HW1 := Lib.hid hW1
  clear hb1 hW1 hT hp hl
  go_enter Tryz.func31, Tryz.ntmps31
  go_upto_region 1 with fail
  rw [HW1.out]
  go_wp2_with (go_at_call 32; (with_reducible refine HT.out.mono ?_); rintro e w4 ⟨rfl, hb4⟩)
  exact ⟨rfl, rfl, btK HB1.out hb4⟩
set_option maxRecDepth 100000 in
set_option maxHeartbeats 4000000 in
theorem cparsedT_calls (w : World) (v : Value) (l : List TokD) (ln cl : Nat) (hl : RdL Holds.tok 5 (fun x => x < w.heap.size) w l v)
    (hI : ∀ b W, CS W b v 0 0 → RdL Holds.tok 5 (fun x => x < b) W l v → Calls Tryz.prog 31 #[.pointer (some ⟨b, 0, none⟩)] W (Throws W ln cl)) :
    Calls Tryz.prog 30 #[v, .int .i64 0, .func (.func 31) #[] #[]] w (Gives w (.tuple #[.agg #[.int .i64 0, .int .i64 0, .string ⟨#[]⟩, .slice none 0 0, .slice none 0 0, .slice none 0 0], .int .i64 0, .agg #[.int .i64 8, .int .i64 ln, .int .i64 cl]])) := by
  have hmf : ∀ (fn : Fn) (first cap : Array Value) (w : World), (Instr.makeFunc fn first cap).run Tryz.prog w = .ok (.func fn first cap) w := fun _ _ _ _ => rfl
  obtain ⟨a, cap0, hv⟩ := hl.shape
  obtain ⟨W1, hW1⟩ : ∃ x, w.alloc (.cells #[.int .i64 0, .int .i64 0, .string ⟨#[]⟩, .slice none 0 0, .slice none 0 0, .slice none 0 0] 27) = x := ⟨_, rfl⟩
  obtain ⟨W2, hW2⟩ : ∃ x, W1.alloc (.cells #[.int .i64 0] 3) = x := ⟨_, rfl⟩
  obtain ⟨W3, hW3⟩ : ∃ x, W2.alloc (.cells #[.int .i64 0, .int .i64 0, .int .i64 0] 36) = x := ⟨_, rfl⟩
  obtain ⟨W4, hW4⟩ : ∃ x, W3.alloc (.cells #[v, .int .i64 0, .int .i64 0] 86) = x := ⟨_, rfl⟩
  have hz1 : W1.heap.size = w.heap.size + 1 := by rw [← hW1]; simp
  have hz2 : W2.heap.size = w.heap.size + 2 := by rw [← hW2]; simp [hz1]
  have hz3 : W3.heap.size = w.heap.size + 3 := by rw [← hW3]; simp [hz2]
  have hb1 : Below w.heap.size w W1 := by rw [← hW1]; exact (Below.refl _ _).alloc (Nat.le_refl _) _
  have hb2 : Below W1.heap.size W1 W2 := by rw [← hW2]; exact (Below.refl _ _).alloc (Nat.le_refl _) _
  have hb3 : Below W2.heap.size W2 W3 := by rw [← hW3]; exact (Below.refl _ _).alloc (Nat.le_refl _) _
  have hb4 : Below W3.heap.size W3 W4 := by rw [← hW4]; exact (Below.refl _ _).alloc (Nat.le_refl _) _
  have hx1 : BoxT W1 w.heap.size [.int .i64 0, .int .i64 0, .string ⟨#[]⟩, .slice none 0 0, .slice none 0 0, .slice none 0 0] 27 := by rw [← hW1]; exact BoxT.new _ _ _
  have hx2 : BoxT W2 (w.heap.size + 1) [.int .i64 0] 3 := by rw [← hz1, ← hW2]; exact BoxT.new _ _ _
  have hx3 : BoxT W3 (w.heap.size + 2) [.int .i64 0, .int .i64 0, .int .i64 0] 36 := by rw [← hz2, ← hW3]; exact BoxT.new _ _ _
  have hp4 : CS W4 (w.heap.size + 3) v 0 0 := by rw [← hz3, ← hW4]; exact BoxT.new _ _ _
  have hx1 := ((hx1.below hb2).below hb3).below hb4
  have hx2 := (hx2.below hb3).below hb4
  have hx3 := hx3.below hb4
  have hB4 : Below w.heap.size w W4 := ((bt hb1 hb2).trans (hb3.mono (by omega))).trans (hb4.mono (by omega))
  have hl4 : RdL Holds.tok 5 (fun x => x < w.heap.size + 3) W4 l v := hl.keep (fun x hx => hB4.block x hx) (fun x hx => by omega)
  have HD := Lib.hid (hI (w.heap.size + 3) W4 hp4 hl4)
  have HX1 := Lib.hid hx1
  have HX2 := Lib.hid hx2
  have HX3 := Lib.hid hx3
  have HB4 := Lib.hid hB4
  have HW1 := Lib.hid hW1
  have HW2 := Lib.hid hW2
  have HW3 := Lib.hid hW3
  have HW4 := Lib.hid hW4
  clear hx1 hx2 hx3 hB4 hW1 hW2 hW3 hW4 hz1 hz2 hz3 hb1 hb2 hb3 hb4 hp4 hl4 hI hl
  subst hv
  go_enter_defers Tryz.func30, Tryz.ntmps30
  go_upto_region 3 with fail
  rw [HW1.out, HW2.out, HW3.out, HW4.out]
  go_wp2_with ((with_reducible refine HD.out.mono ?_); rintro e w5 ⟨rfl, hb5⟩)
  have hx1 := HX1.out.below hb5
  have hx2 := HX2.out.below hb5
  have hx3 := HX3.out.below hb5
  refine leaves_cons (f := 59) (args := #[.pointer (some ⟨w.heap.size, 0, none⟩), .pointer (some ⟨w.heap.size + 1, 0, none⟩), .pointer (some ⟨w.heap.size + 2, 0, none⟩)]) (by simp) (by simp [go_sem]) ?_
  refine (ccaught_panicking w.heap.size ln cl [] w5 hx1 hx2 hx3).mono ?_
  rintro e u' w'' ⟨rfl, rfl, ⟨h1, h2, h3⟩, hB⟩
  obtain ⟨q0, q1, q2, q3, q4, q5⟩ := h1.cells6
  have r0 := h2.cell 0
  simp only [cqz] at r0
  have s0 := h3.cell 0
  have s1 := h3.cell 1
  have s2 := h3.cell 2
  simp only [cqs, cqz] at s0 s1 s2
  refine leaves_done (v := .tuple #[.agg #[.int .i64 0, .int .i64 0, .string ⟨#[]⟩, .slice none 0 0, .slice none 0 0, .slice none 0 0], .int .i64 0, .agg #[.int .i64 8, .int .i64 ln, .int .i64 cl]]) ?_ ⟨rfl, ?_⟩
  · simp [results, Tryz.results30, go_sem, q0, q1, q2, q3, q4, q5, r0, s0, s1, s2]
  · have := btK HB4.out hb5
    exact this.trans (hB _ (Nat.le_refl _) this.size)
set_option maxRecDepth 100000 in
set_option maxHeartbeats 4000000 in
theorem cParseT_calls (w : World) (v : Value) (l : List TokD) (ln cl : Nat) (hl : RdL Holds.tok 5 (fun x => x < w.heap.size) w l v)
    (hI : ∀ b W, CS W b v 0 0 → RdL Holds.tok 5 (fun x => x < b) W l v → Calls Tryz.prog 31 #[.pointer (some ⟨b, 0, none⟩)] W (Throws W ln cl)) : Calls Tryz.prog 14 #[v] w (Gives w (.tuple #[.agg #[.int .i64 0, .int .i64 0, .string ⟨#[]⟩, .slice none 0 0, .slice none 0 0, .slice none 0 0], .int .i64 0, .agg #[.int .i64 8, .int .i64 ln, .int .i64 cl]])) := by
  obtain ⟨W1, hW1⟩ : ∃ x, w.alloc (.cells #[.int .i64 0, .int .i64 0, .string ⟨#[]⟩, .slice none 0 0, .slice none 0 0, .slice none 0 0] 27) = x := ⟨_, rfl⟩
  obtain ⟨W2, hW2⟩ : ∃ x, W1.alloc (.cells #[.int .i64 0, .int .i64 0, .int .i64 0] 36) = x := ⟨_, rfl⟩
  have hz1 : W1.heap.size = w.heap.size + 1 := by rw [← hW1]; simp
  have hb1 : Below w.heap.size w W1 := by rw [← hW1]; exact (Below.refl _ _).alloc (Nat.le_refl _) _
  have hb2 : Below W1.heap.size W1 W2 := by rw [← hW2]; exact (Below.refl _ _).alloc (Nat.le_refl _) _
  have hr1 : BoxT W1 w.heap.size [.int .i64 0, .int .i64 0, .string ⟨#[]⟩, .slice none 0 0, .slice none 0 0, .slice none 0 0] 27 := by rw [← hW1]; exact BoxT.new _ _ _
  have hr2 : BoxT W2 (w.heap.size + 1) [.int .i64 0, .int .i64 0, .int .i64 0] 36 := by rw [← hz1, ← hW2]; exact BoxT.new _ _ _
  have hx1 := hr1.below hb2
  have hB2 := btK hb1 hb2
  have HD := Lib.hid (cparsedT_calls W2 v l ln cl (hl.keep (fun x hx => hB2.block x hx) (fun x hx => by have := hB2.size; omega)) hI)
  have HX1 := Lib.hid hx1; have HX2 := Lib.hid hr2; have HB2 := Lib.hid hB2; have HW1 := Lib.hid hW1; have HW2 := Lib.hid hW2
  clear hz1 hb1 hb2 hr1 hr2 hx1 hB2 hW1 hW2 hl hI
  go_enter Tryz.func14, Tryz.ntmps14
  go_upto_region 1 with fail
  rw [HW1.out, HW2.out]
  go_wp2_with (go_at_call 30; (with_reducible refine HD.out.mono ?_); rintro e w3 ⟨rfl, hb3⟩; have hr := HX1.out.below hb3; have hs := HX2.out.below hb3; obtain ⟨q0, q1, q2, q3, q4, q5⟩ := hr.cells6; have f0 := Lib.frozen_of_heap hr 0; have f1 := Lib.frozen_of_heap hr 1; have f2 := Lib.frozen_of_heap hr 2; have f3 := Lib.frozen_of_heap hr 3; have f4 := Lib.frozen_of_heap hr 4; have f5 := Lib.frozen_of_heap hr 5; have s0 := hs.cell 0; have s1 := hs.cell 1; have s2 := hs.cell 2; simp only [cqs, cqz] at s0 s1 s2; have j0 := Lib.frozen_of_heap hs 0; have j1 := Lib.frozen_of_heap hs 1; have j2 := Lib.frozen_of_heap hs 2)
  (try simp only [Exit.inBlock, Exit.then])
  exact bodyPost_ret (v := .tuple #[.agg #[.int .i64 0, .int .i64 0, .string ⟨#[]⟩, .slice none 0 0, .slice none 0 0, .slice none 0 0], .int .i64 0, .agg #[.int .i64 8, .int .i64 ln, .int .i64 cl]]) (by simp [results, Tryz.results14, go_sem, q0, q1, q2, q3, q4, q5, s0, s1, s2]) rfl ⟨rfl, three9 (six9 (btK HB2.out hb3) (Nat.le_refl _)) (Nat.le_succ _)⟩
end Go.Proofs.YtnbfadgclffgkaaGreatDoor
/- clause.Parse at the two texts of the law's awake. Printed by gen-par23.py. -/
namespace Go.Proofs.YtnbfadgclffgkaaGreatDoor
open Go.RowKit Go.Sort
theorem isT_no {t : TokD} {s : ByteArray} (h : t.text ≠ s) : isT t s = false := by unfold isT; rw [dec_false h, Bool.and_false]
theorem isT_yes {t : TokD} {s : ByteArray} (h5 : t.kind = 5) (h : t.text = s) : isT t s = true := by unfold isT; rw [decide_eq_true h5, dec_true h, Bool.or_true, Bool.and_true]
theorem isK_no {c : Int} {t : TokD} {s : ByteArray} (h : t.text ≠ s) : isK c t s = false := by unfold isK; rw [dec_false h, Bool.and_false]
theorem isK_kd {c : Int} {t : TokD} {s : ByteArray} (h : t.kind ≠ c) : isK c t s = false := by unfold isK; rw [decide_eq_false h, Bool.false_and]
theorem isK_yes {c : Int} {t : TokD} {s : ByteArray} (h5 : t.kind = c) (h : t.text = s) : isK c t s = true := by unfold isK; rw [decide_eq_true h5, dec_true h]; rfl
theorem opNone_of {t : TokD} (h : ∀ o ∈ [1, 2, 3, 4, 5, 6, 7, 8, 9, 10, 11, 12, 13, 14], signB o ≠ t.text) : opNone t := Or.inr fun o h1 h2 => h o (by
  have : o = 1 ∨ o = 2 ∨ o = 3 ∨ o = 4 ∨ o = 5 ∨ o = 6 ∨ o = 7 ∨ o = 8 ∨ o = 9 ∨ o = 10 ∨ o = 11 ∨ o = 12 ∨ o = 13 ∨ o = 14 := by omega
  simpa using this)
theorem reads_leaf (b : Nat) (v : Value) (k k' op : Nat) (l : List TokD) (e0 e1 e2 : Int) (e3 : ByteArray) (e4 : Option Addr) (e5 e6 : Nat) (hk : k ≤ 1000) (hk' : k' ≤ 1000) (ho : opNone (tokAt l k')) (h1 : isT (tokAt l k') ⟨#[46]⟩ = false) (h2 : isT (tokAt l k') ⟨#[104, 97, 115]⟩ = false) (h3 : isT (tokAt l k) ⟨#[45]⟩ = false) (h4 : isT (tokAt l k) ⟨#[110, 111, 116]⟩ = false)
    (hd : Reads 215 b v l k k' op (.agg #[.int .i64 e0, .int .i64 e1, .int .i64 e2, .string e3, .slice e4 e5 e6])) : Reads 170 b v l k k' op (.agg #[.int .i64 e0, .int .i64 e1, .int .i64 e2, .string e3, .slice e4 e5 e6]) :=
  expr0_calls b v k k' op l e0 e1 e2 e3 e4 e5 e6 (by omega) ho (not0_calls b v k k' op l e0 e1 e2 e3 e4 e5 e6 (by omega) h4 (asked0_calls b v k k' op l e0 e1 e2 e3 e4 e5 e6 (by omega) ho h2 (minus0_calls b v k k' op l e0 e1 e2 e3 e4 e5 e6 (by omega) h3 (dots0_calls b v k k' op l e0 e1 e2 e3 e4 e5 e6 (by omega) h1 hd))))
def tokS : List TokD := [⟨4, ⟨#[115, 97, 121]⟩, 0, 1, 1⟩, ⟨2, ⟨#[]⟩, 1, 1, 5⟩, ⟨5, ⟨#[44]⟩, 0, 1, 6⟩, ⟨3, ⟨#[97]⟩, 0, 1, 8⟩, ⟨5, ⟨#[59]⟩, 0, 1, 11⟩, ⟨0, ⟨#[]⟩, 0, 1, 12⟩]
def tokP : List TokD := [⟨5, ⟨#[40]⟩, 0, 1, 1⟩, ⟨1, ⟨#[97]⟩, 0, 1, 2⟩, ⟨5, ⟨#[41]⟩, 0, 1, 3⟩, ⟨5, ⟨#[61]⟩, 0, 1, 5⟩, ⟨2, ⟨#[]⟩, 2, 1, 7⟩, ⟨5, ⟨#[59]⟩, 0, 1, 8⟩, ⟨0, ⟨#[]⟩, 0, 1, 9⟩]
theorem say_reads (b : Nat) (v : Value) : Reads 170 b v (tokS.drop 1) 0 1 0 (.agg #[.int .i64 1, .int .i64 0, .int .i64 1, .string ⟨#[]⟩, .slice none 0 0]) :=
  reads_leaf b v 0 1 0 (tokS.drop 1) 1 0 1 ⟨#[]⟩ none 0 0 (by omega) (by omega) (opNone_of (by decide)) (isT_no (by decide)) (isT_no (by decide)) (isT_no (by decide)) (isT_no (by decide)) (primNum_calls b v 0 0 _ (by omega) rfl)
theorem put_reads (b : Nat) (v : Value) : Reads 170 b v (tokP.take 3 ++ [⟨0, ⟨#[]⟩, 0, 1, 5⟩]) 0 3 0 (.agg #[.int .i64 3, .int .i64 0, .int .i64 0, .string ⟨#[97]⟩, .slice none 0 0]) :=
  reads_leaf b v 0 3 0 _ 3 0 0 ⟨#[97]⟩ none 0 0 (by omega) (by omega) (opNone_of (by decide)) (isT_no (by decide)) (isT_no (by decide)) (isT_no (by decide)) (isT_no (by decide))
    (primBr_calls b v 0 2 0 _ (by omega) 3 0 0 ⟨#[97]⟩ none 0 0 (by omega) (by omega) rfl (isT_yes rfl rfl) (isT_yes rfl rfl) (reads_leaf b v 1 2 1 _ 3 0 0 ⟨#[97]⟩ none 0 0 (by omega) (by omega) (opNone_of (by decide)) (isT_no (by decide)) (isT_no (by decide)) (isT_no (by decide)) (isT_no (by decide)) (primName_calls b v 1 1 _ (by omega) rfl (isT_no (by decide)))))
theorem say_beg : begT (tokAt tokS 0) = true := by
  have h : (tokAt tokS 0).text ∈ bWords := by show (⟨#[115, 97, 121]⟩ : ByteArray) ∈ _; unfold bWords; exact List.mem_cons_self
  unfold begT
  rw [dec_true h]
  simp [tokAt, tokS]
theorem say_prim : primT (tokAt tokS 0) = false := by
  have h1 : ¬ (tokAt tokS 0).text ∈ cWords := by show (⟨#[115, 97, 121]⟩ : ByteArray) ∉ _; unfold cWords; simp only [List.mem_cons, List.not_mem_nil, or_false, not_or]; exact ⟨by decide, by decide, by decide, by decide⟩
  have h2 : ¬ (tokAt tokS 0).text ∈ sWords := by show (⟨#[115, 97, 121]⟩ : ByteArray) ∉ _; unfold sWords; simp only [List.mem_cons, List.not_mem_nil, or_false, not_or]; exact ⟨by decide, by decide, by decide, by decide, by decide, by decide⟩
  unfold primT callsT
  rw [dec_false h1, dec_false h2]
  simp [tokAt, tokS]
theorem put_beg : begT (tokAt tokP 0) = true := by
  have h : (tokAt tokP 0).text = ⟨#[40]⟩ := rfl
  unfold begT primT
  rw [dec_true h]
  simp [tokAt, tokP]
theorem parseSay_calls (w : World) (v : Value) (hl : RdL Holds.tok 5 (fun x => x < w.heap.size) w tokS v) : Calls Tryz.prog 14 #[v] w (SayP w 5) :=
  cParse_calls w v 5 tokS 1 ⟨#[97]⟩ hl (fun b W hp hlW => cparse1_calls b v 0 5 tokS 1 ⟨#[97]⟩ (fun W hp hl => cstmt_calls b v 0 5 tokS 1 ⟨#[97]⟩ (by omega) (by unfold I64; omega) (by unfold maxLen; decide)
    (fun W hp hl => cany_calls b v 0 1 4 5 0 tokS 1 ⟨#[97]⟩ 0 rfl rfl (by omega) (by omega) rfl rfl say_beg say_prim (isK_yes rfl rfl)
      (fun W hp hl => cshort_calls b v 1 4 0 tokS 1 ⟨#[97]⟩ (fun W hp hl => citems_calls W b v 1 2 3 4 0 tokS 1 ⟨#[97]⟩ rfl rfl rfl (by omega)
        (citemE_calls b v 1 2 0 tokS 1 0 1 ⟨#[]⟩ none 0 0 (by omega) (by decide) (isK_kd (by decide)) (fun W hp hl => cexpr_calls W b v 1 1 0 tokS 1 0 1 ⟨#[]⟩ none 0 0 (by decide) (by decide) (by omega) hp hl say_reads)) rfl rfl (isK_yes rfl rfl) (isK_no (by decide)) hp hl) W hp hl) W hp hl) W hp hl) W hp hlW)
theorem parsePut_calls (w : World) (v : Value) (hl : RdL Holds.tok 5 (fun x => x < w.heap.size) w tokP v) : Calls Tryz.prog 14 #[v] w (Gives w (.tuple #[.agg #[.int .i64 0, .int .i64 0, .string ⟨#[]⟩, .slice none 0 0, .slice none 0 0, .slice none 0 0], .int .i64 0, .agg #[.int .i64 8, .int .i64 1, .int .i64 5]])) :=
  cParseT_calls w v tokP 1 5 hl (fun b W hp hl => cparse1T_calls W b v 0 tokP 1 5 hp hl (fun W hp hl => cstmtT_calls W b v 0 0 tokP 1 5 hp hl (fun W hp hl => canyT_calls W b v 0 0 tokP 1 5 rfl put_beg hp hl
    (fun W hp hl => ctight_calls W b v 0 tokP 3 0 0 ⟨#[97]⟩ none 0 0 1 5 rfl (isK_yes rfl rfl) (isK_no (by decide)) (by decide) rfl rfl hp hl
      (fun W hp hl => cclose_calls W b v 0 0 tokP (by omega) hp hl (by decide) (by decide) (by decide) (isK_yes rfl rfl) (isK_no (by decide)) (isK_no (by decide)) (isK_no (by decide)) (isK_yes rfl rfl))
      (fun W hp hl => cpart_calls W b v 3 0 tokP 3 0 0 ⟨#[97]⟩ none 0 0 1 5 (by omega) (by decide) (by decide) rfl rfl (by omega) (by omega) hp hl put_reads)))))
end Go.Proofs.YtnbfadgclffgkaaGreatDoor
