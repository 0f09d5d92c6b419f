/- The walks of clewref10.bound and clewref10.Bound: what they tell of the shape of an expression. -/
import Derived.Test.YtimdnamhccipjaaTab
import Derived.Test.YtimdnamhccipjaaFoldData
import Derived.Test.YtimdnamhccipjaaBlockSize
import Derived.Lib.QuietBelow
namespace Go.Proofs.Ytimdnamhccipjaa
open Go.RowKit Go.Sort

/-- What bound tells of an expression (there is more). -/
def Top (k n : Int) (m : Nat) : Prop := (k = 4 ∨ k = 5 → m = 1) ∧ (k = 6 → m = 2) ∧ (k = 1 → m = 0 ∧ -32768 ≤ n ∧ n ≤ 32767)

theorem bare_len {o n : Int} {s : ByteArray} {m : Nat} {r : Int} {a b c : Bool} (h : dec (Bare o n s m r a b c) = true) : (m : Int) = r := (dec_iff.1 h).1
theorem top1 {o n : Int} {s : ByteArray} {m : Nat} {a b c : Bool} (h : dec (Bare o n s m 0 a b c) = true) (h2 : (decide (-32768 ≤ n) && decide (n ≤ 32767)) = true) : Top 1 n m := by
  have := bare_len h
  simp at h2
  unfold Top; omega
theorem top1' {n : Int} {m : Nat} (h : False) : Top 1 n m := h.elim
theorem top4' {o n : Int} {s : ByteArray} {m : Nat} {a b c : Bool} (h : dec (Bare o n s m 1 a b c) = true) : Top 4 n m := by
  have := bare_len h
  unfold Top; omega
theorem top4 {n : Int} {m : Nat} (h : False) (_ : False) : Top 4 n m := h.elim
theorem top5' {o n : Int} {s : ByteArray} {m : Nat} {a b c : Bool} (h : dec (Bare o n s m 1 a b c) = true) : Top 5 n m := by
  have := bare_len h
  unfold Top; omega
theorem top5 {n : Int} {m : Nat} (h : False) (_ : False) : Top 5 n m := h.elim
theorem top6 {o n : Int} {s : ByteArray} {m : Nat} {a b c : Bool} (h : dec (Bare o n s m 2 a b c) = true) {q : Bool} (_ : q = true) : Top 6 n m := by
  have := bare_len h
  unfold Top; omega
theorem top6' {n : Int} {m : Nat} (h : False) : Top 6 n m := h.elim
theorem top_other {k n : Int} {m : Nat} (h1 : ¬ k = 1) (h4 : ¬ k = 4) (h5 : ¬ k = 5) (h6 : ¬ k = 6) : Top k n m := by unfold Top; omega

mutual
def Ex.bsh : Ex → Prop
  | .mk k _ n _ args => Top k n args.length ∧ Ex.bshs args
def Ex.bshs : List Ex → Prop
  | [] => True
  | e :: l => e.bsh ∧ Ex.bshs l
end

theorem bshs_snoc {l : List Ex} {x : Ex} (h : Ex.bshs l) (hx : x.bsh) : Ex.bshs (l ++ [x]) := by
  induction l with
  | nil => exact ⟨hx, trivial⟩
  | cons e l ih => exact ⟨h.1, ih h.2⟩

/-- A call that hands back some truth; where it is true, p holds. -/
def Tells (w : World) (p : Prop) (e : Ending) (w' : World) : Prop := ∃ b : Bool, e = .returned (.bool b) ∧ (b = true → p) ∧ Below w.heap.size w w'

def BoundRC (e : Ex) : Prop := ∀ (F : Nat → Prop) (w : World) (ts cs : List Value) (x : Int) (said : Bool), Inn F w → Tab F w ts → RdEx F w e cs → Calls Try.prog 77 #[.agg ts.toArray, .agg cs.toArray, .int .i64 x, .bool said] w (Tells w e.bsh)

set_option maxRecDepth 100000 in
set_option maxHeartbeats 4000000 in
theorem boundR_calls (e : Ex) : BoundRC e := by
  induction e using Ex.ind with
  | h k o n s args ih =>
  intro F w ts cs x said hF ht hr
  obtain ⟨kd, op, nm, st, a, m, cap, rfl⟩ := hr.shape
  obtain ⟨ek, eo, en, es, h1, h2, h3, h4, hargs⟩ := hr.parts
  simp only [Ex.kind, Ex.op, Ex.num, Ex.name, Ex.args] at ek eo en es hargs
  subst ek eo en es
  obtain ⟨rfl, hal, hac, haa⟩ := hargs.opn
  have HT := Lib.hid ht
  obtain ⟨i0, i1, i2, i3, i5, v4, v6, v7, v8, v9, v10, v11, v12, v13, v14, rfl, hsl, ⟨n11, f11, t11⟩, n13, f13, t13⟩ := ht.p
  obtain ⟨a4, n4, c4, rfl, -, -⟩ := hsl v4 (by simp)
  obtain ⟨a6, n6, c6, rfl, -, -⟩ := hsl v6 (by simp)
  obtain ⟨a7, n7, c7, rfl, -, -⟩ := hsl v7 (by simp)
  obtain ⟨a8, n8, c8, rfl, -, -⟩ := hsl v8 (by simp)
  obtain ⟨a9, n9, c9, rfl, -, -⟩ := hsl v9 (by simp)
  obtain ⟨a10, n10, c10, rfl, -, -⟩ := hsl v10 (by simp)
  obtain ⟨a12, n12, c12, rfl, -, -⟩ := hsl v12 (by simp)
  obtain ⟨a14, n14, c14, rfl, -, -⟩ := hsl v14 (by simp)
  obtain ⟨a11, c11, rfl, -⟩ := t11.opn
  obtain ⟨a13, c13, rfl, -⟩ := t13.opn
  clear hsl t11 t13 hr ht
  go_enter Try.func77, Try.ntmps77
  go_upto_block 0 with fail
  have hsz : ((w.alloc (.cells #[.int .i64 i0, .int .i64 i1, .int .i64 i2, .int .i64 i3, .slice a4 n4 c4, .int .i64 i5, .slice a6 n6 c6, .slice a7 n7 c7, .slice a8 n8 c8, .slice a9 n9 c9, .slice a10 n10 c10, .slice a11 n11 c11, .slice a12 n12 c12, .slice a13 n13 c13, .slice a14 n14 c14] 32)).alloc (.cells #[.int .i64 k, .int .i64 o, .int .i64 n, .string s, .slice a args.length cap] 35)).heap.size = w.heap.size + 2 := by simp
  have hB0 : Below w.heap.size w ((w.alloc (.cells #[.int .i64 i0, .int .i64 i1, .int .i64 i2, .int .i64 i3, .slice a4 n4 c4, .int .i64 i5, .slice a6 n6 c6, .slice a7 n7 c7, .slice a8 n8 c8, .slice a9 n9 c9, .slice a10 n10 c10, .slice a11 n11 c11, .slice a12 n12 c12, .slice a13 n13 c13, .slice a14 n14 c14] 32)).alloc (.cells #[.int .i64 k, .int .i64 o, .int .i64 n, .string s, .slice a args.length cap] 35)) := ((Below.refl _ _).alloc (Nat.le_refl _) _).alloc (by simp) _
  have hct : CA ((w.alloc (.cells #[.int .i64 i0, .int .i64 i1, .int .i64 i2, .int .i64 i3, .slice a4 n4 c4, .int .i64 i5, .slice a6 n6 c6, .slice a7 n7 c7, .slice a8 n8 c8, .slice a9 n9 c9, .slice a10 n10 c10, .slice a11 n11 c11, .slice a12 n12 c12, .slice a13 n13 c13, .slice a14 n14 c14] 32)).alloc (.cells #[.int .i64 k, .int .i64 o, .int .i64 n, .string s, .slice a args.length cap] 35)) [(⟨w.heap.size, 0, none⟩, .int .i64 i0), (⟨w.heap.size, 1, none⟩, .int .i64 i1), (⟨w.heap.size, 2, none⟩, .int .i64 i2), (⟨w.heap.size, 3, none⟩, .int .i64 i3), (⟨w.heap.size, 4, none⟩, .slice a4 n4 c4), (⟨w.heap.size, 5, none⟩, .int .i64 i5), (⟨w.heap.size, 6, none⟩, .slice a6 n6 c6), (⟨w.heap.size, 7, none⟩, .slice a7 n7 c7), (⟨w.heap.size, 8, none⟩, .slice a8 n8 c8), (⟨w.heap.size, 9, none⟩, .slice a9 n9 c9), (⟨w.heap.size, 10, none⟩, .slice a10 n10 c10), (⟨w.heap.size, 11, none⟩, .slice a11 n11 c11), (⟨w.heap.size, 12, none⟩, .slice a12 n12 c12), (⟨w.heap.size, 13, none⟩, .slice a13 n13 c13), (⟨w.heap.size, 14, none⟩, .slice a14 n14 c14)] := ⟨⟨by simp; omega, by go_simp⟩, ⟨by simp; omega, by go_simp⟩, ⟨by simp; omega, by go_simp⟩, ⟨by simp; omega, by go_simp⟩, ⟨by simp; omega, by go_simp⟩, ⟨by simp; omega, by go_simp⟩, ⟨by simp; omega, by go_simp⟩, ⟨by simp; omega, by go_simp⟩, ⟨by simp; omega, by go_simp⟩, ⟨by simp; omega, by go_simp⟩, ⟨by simp; omega, by go_simp⟩, ⟨by simp; omega, by go_simp⟩, ⟨by simp; omega, by go_simp⟩, ⟨by simp; omega, by go_simp⟩, ⟨by simp; omega, by go_simp⟩, trivial⟩
  have hce : CA ((w.alloc (.cells #[.int .i64 i0, .int .i64 i1, .int .i64 i2, .int .i64 i3, .slice a4 n4 c4, .int .i64 i5, .slice a6 n6 c6, .slice a7 n7 c7, .slice a8 n8 c8, .slice a9 n9 c9, .slice a10 n10 c10, .slice a11 n11 c11, .slice a12 n12 c12, .slice a13 n13 c13, .slice a14 n14 c14] 32)).alloc (.cells #[.int .i64 k, .int .i64 o, .int .i64 n, .string s, .slice a args.length cap] 35)) (five (w.heap.size + 1) 0 (.int .i64 k) (.int .i64 o) (.int .i64 n) (.string s) (.slice a args.length cap)) := ⟨⟨by simp, by go_simp⟩, ⟨by simp, by go_simp⟩, ⟨by simp, by go_simp⟩, ⟨by simp, by go_simp⟩, ⟨by simp, by go_simp⟩, trivial⟩
  generalize ((w.alloc (.cells #[.int .i64 i0, .int .i64 i1, .int .i64 i2, .int .i64 i3, .slice a4 n4 c4, .int .i64 i5, .slice a6 n6 c6, .slice a7 n7 c7, .slice a8 n8 c8, .slice a9 n9 c9, .slice a10 n10 c10, .slice a11 n11 c11, .slice a12 n12 c12, .slice a13 n13 c13, .slice a14 n14 c14] 32)).alloc (.cells #[.int .i64 k, .int .i64 o, .int .i64 n, .string s, .slice a args.length cap] 35)) = W at *
  have hHct := Lib.hid hct
  have hHce := Lib.hid hce
  have hHc2 := Lib.hid (show CA W [(⟨w.heap.size, 4, none⟩, .slice a4 n4 c4), (⟨w.heap.size, 5, none⟩, .int .i64 i5), (⟨w.heap.size, 6, none⟩, .slice a6 n6 c6), (⟨w.heap.size, 7, none⟩, .slice a7 n7 c7)] from ⟨hct.2.2.2.2.1, hct.2.2.2.2.2.1, hct.2.2.2.2.2.2.1, hct.2.2.2.2.2.2.2.1, trivial⟩)
  clear hct hce
  go_cut [3, 9] from 14 (fun _ u wc => ∃ okb : Bool, u = .bool okb ∧ Hid (okb = true → Top k n args.length) ∧ Below W.heap.size W wc)
  case first =>
      have hbW := Below.refl W.heap.size W
      obtain ⟨⟨-, t4⟩, ⟨-, t5⟩, ⟨-, t6⟩, ⟨-, t7⟩, -⟩ := hHc2.out.below hbW
      obtain ⟨⟨-, x0⟩, ⟨-, x1⟩, ⟨-, x2⟩, ⟨-, x3⟩, ⟨-, x4⟩, -⟩ := hHce.out.below hbW
      by_cases hk1 : k = 1
      · subst hk1
        go_wp2_with (first | (go_at_call 108; (with_reducible refine (bare_calls _ _ _ _ _ _ _ _ _ _ _ _).mono ?_); rintro e w1 ⟨rfl, hb⟩; have hbW := below_on hbW (Nat.le_refl _) hb; obtain ⟨⟨-, t4⟩, ⟨-, t5⟩, ⟨-, t6⟩, ⟨-, t7⟩, -⟩ := hHc2.out.below hbW; obtain ⟨⟨-, x0⟩, ⟨-, x1⟩, ⟨-, x2⟩, ⟨-, x3⟩, ⟨-, x4⟩, -⟩ := hHce.out.below hbW) | (go_at_call 115; (with_reducible refine (isR_calls _ _).mono ?_); rintro e w1 ⟨rfl, rfl⟩) | (go_at_call 109; (with_reducible refine (among_calls _ _ _ _).mono ?_); rintro e w1 ⟨rfl, rfl⟩))
        all_goals
          go_meet
          case rel => exact ⟨_, rfl, (fun h => by first | exact top1 (by assumption) h | exact top1' h | (cases h)), hbW⟩
      by_cases hk4 : k = 4
      · subst hk4
        go_wp2_with (first | (go_at_call 108; (with_reducible refine (bare_calls _ _ _ _ _ _ _ _ _ _ _ _).mono ?_); rintro e w1 ⟨rfl, hb⟩; have hbW := below_on hbW (Nat.le_refl _) hb; obtain ⟨⟨-, t4⟩, ⟨-, t5⟩, ⟨-, t6⟩, ⟨-, t7⟩, -⟩ := hHc2.out.below hbW; obtain ⟨⟨-, x0⟩, ⟨-, x1⟩, ⟨-, x2⟩, ⟨-, x3⟩, ⟨-, x4⟩, -⟩ := hHce.out.below hbW) | (go_at_call 115; (with_reducible refine (isR_calls _ _).mono ?_); rintro e w1 ⟨rfl, rfl⟩) | (go_at_call 109; (with_reducible refine (among_calls _ _ _ _).mono ?_); rintro e w1 ⟨rfl, rfl⟩))
        all_goals
          go_meet
          case rel => exact ⟨_, rfl, (fun h => by first | exact top4 (by assumption) h | exact top4' h | (cases h)), hbW⟩
      by_cases hk5 : k = 5
      · subst hk5
        go_wp2_with (first | (go_at_call 108; (with_reducible refine (bare_calls _ _ _ _ _ _ _ _ _ _ _ _).mono ?_); rintro e w1 ⟨rfl, hb⟩; have hbW := below_on hbW (Nat.le_refl _) hb; obtain ⟨⟨-, t4⟩, ⟨-, t5⟩, ⟨-, t6⟩, ⟨-, t7⟩, -⟩ := hHc2.out.below hbW; obtain ⟨⟨-, x0⟩, ⟨-, x1⟩, ⟨-, x2⟩, ⟨-, x3⟩, ⟨-, x4⟩, -⟩ := hHce.out.below hbW) | (go_at_call 115; (with_reducible refine (isR_calls _ _).mono ?_); rintro e w1 ⟨rfl, rfl⟩) | (go_at_call 109; (with_reducible refine (among_calls _ _ _ _).mono ?_); rintro e w1 ⟨rfl, rfl⟩))
        all_goals
          go_meet
          case rel => exact ⟨_, rfl, (fun h => by first | exact top5 (by assumption) h | exact top5' h | (cases h)), hbW⟩
      by_cases hk6 : k = 6
      · subst hk6
        go_wp2_with (first | (go_at_call 108; (with_reducible refine (bare_calls _ _ _ _ _ _ _ _ _ _ _ _).mono ?_); rintro e w1 ⟨rfl, hb⟩; have hbW := below_on hbW (Nat.le_refl _) hb; obtain ⟨⟨-, t4⟩, ⟨-, t5⟩, ⟨-, t6⟩, ⟨-, t7⟩, -⟩ := hHc2.out.below hbW; obtain ⟨⟨-, x0⟩, ⟨-, x1⟩, ⟨-, x2⟩, ⟨-, x3⟩, ⟨-, x4⟩, -⟩ := hHce.out.below hbW) | (go_at_call 115; (with_reducible refine (isR_calls _ _).mono ?_); rintro e w1 ⟨rfl, rfl⟩) | (go_at_call 109; (with_reducible refine (among_calls _ _ _ _).mono ?_); rintro e w1 ⟨rfl, rfl⟩))
        all_goals
          go_meet
          case rel => exact ⟨_, rfl, (fun h => by first | exact top6 (by assumption) h | exact top6' h | (cases h)), hbW⟩
      by_cases hk18 : k = 18
      · subst hk18
        clear t4 t5 t6 t7
        obtain ⟨⟨-, t0⟩, ⟨-, t1⟩, ⟨-, t2⟩, ⟨-, t3⟩, ⟨-, t4⟩, ⟨-, t5⟩, ⟨-, t6⟩, ⟨-, t7⟩, ⟨-, t8⟩, ⟨-, t9⟩, ⟨-, t10⟩, ⟨-, t11⟩, ⟨-, t12⟩, ⟨-, t13⟩, ⟨-, t14⟩, -⟩ := hHct.out
        by_cases hbr : dec (Bare o n s args.length args.length false true false) = true
        · have hba := fun w' => bare_calls 18 o n s a args.length cap args.length false true false w'
          rw [hbr] at hba
          have HBA := Lib.hid (fun (p : Regrown) => regrown_gives (w := W) (fun w' (_ : Below W.heap.size W w') => hba w') p)
          obtain ⟨q, hq⟩ := params_calls F w _ n hF HT.out
          have HPA := Lib.hid (fun (p : Regrown) => regrown_gives (fun w' (hb : Below W.heap.size W w') => hq w' (hB0.trans (hb.mono hB0.size))) p)
          clear hq
          clear hba hbr
          have r0 := fun d os => cell_regrown x0 d os
          have r1 := fun d os => cell_regrown x1 d os
          have r2 := fun d os => cell_regrown x2 d os
          have r3 := fun d os => cell_regrown x3 d os
          have r4 := fun d os => cell_regrown x4 d os
          have r5 := fun d os => cell_regrown t0 d os
          have r6 := fun d os => cell_regrown t1 d os
          have r7 := fun d os => cell_regrown t2 d os
          have r8 := fun d os => cell_regrown t3 d os
          have r9 := fun d os => cell_regrown t4 d os
          have r10 := fun d os => cell_regrown t5 d os
          have r11 := fun d os => cell_regrown t6 d os
          have r12 := fun d os => cell_regrown t7 d os
          have r13 := fun d os => cell_regrown t8 d os
          have r14 := fun d os => cell_regrown t9 d os
          have r15 := fun d os => cell_regrown t10 d os
          have r16 := fun d os => cell_regrown t11 d os
          have r17 := fun d os => cell_regrown t12 d os
          have r18 := fun d os => cell_regrown t13 d os
          have r19 := fun d os => cell_regrown t14 d os
          clear x0 x1 x2 x3 x4 t0 t1 t2 t3 t4 t5 t6 t7 t8 t9 t10 t11 t12 t13 t14
          go_wp2_with fail
          refine wp_region_quiet_below (by kernel_rfl) (by kernel_rfl) ?_
          repeat (go_big_quiet_step (first | with_reducible exact HBA.out _ | with_reducible exact HPA.out _))
          refine wpQuiet_nil ?_
          intro w' hw'
          have hb := below_of_regrown hw'
          clear hw' r0 r1 r2 r3 r4 r5 r6 r7 r8 r9 r10 r11 r12 r13 r14 r15 r16 r17 r18 r19
          go_wp2_with fail
          go_meet
          case rel => exact ⟨_, rfl, fun _ => top_other (by omega) (by omega) (by omega) (by omega), hb⟩
        · have hba := fun w' => bare_calls 18 o n s a args.length cap args.length false true false w'
          rw [Bool.not_eq_true] at hbr
          rw [hbr] at hba
          have HBA := Lib.hid (fun (p : Regrown) => regrown_gives (w := W) (fun w' (_ : Below W.heap.size W w') => hba w') p)
          clear hba hbr
          have r0 := fun d os => cell_regrown x0 d os
          have r1 := fun d os => cell_regrown x1 d os
          have r2 := fun d os => cell_regrown x2 d os
          have r3 := fun d os => cell_regrown x3 d os
          have r4 := fun d os => cell_regrown x4 d os
          have r5 := fun d os => cell_regrown t0 d os
          have r6 := fun d os => cell_regrown t1 d os
          have r7 := fun d os => cell_regrown t2 d os
          have r8 := fun d os => cell_regrown t3 d os
          have r9 := fun d os => cell_regrown t4 d os
          have r10 := fun d os => cell_regrown t5 d os
          have r11 := fun d os => cell_regrown t6 d os
          have r12 := fun d os => cell_regrown t7 d os
          have r13 := fun d os => cell_regrown t8 d os
          have r14 := fun d os => cell_regrown t9 d os
          have r15 := fun d os => cell_regrown t10 d os
          have r16 := fun d os => cell_regrown t11 d os
          have r17 := fun d os => cell_regrown t12 d os
          have r18 := fun d os => cell_regrown t13 d os
          have r19 := fun d os => cell_regrown t14 d os
          clear x0 x1 x2 x3 x4 t0 t1 t2 t3 t4 t5 t6 t7 t8 t9 t10 t11 t12 t13 t14
          go_wp2_with fail
          refine wp_region_quiet_below (by kernel_rfl) (by kernel_rfl) ?_
          repeat (go_big_quiet_step (with_reducible exact HBA.out _))
          refine wpQuiet_nil ?_
          intro w' hw'
          have hb := below_of_regrown hw'
          clear hw' r0 r1 r2 r3 r4 r5 r6 r7 r8 r9 r10 r11 r12 r13 r14 r15 r16 r17 r18 r19
          go_wp2_with fail
          go_meet
          case rel => exact ⟨_, rfl, fun _ => top_other (by omega) (by omega) (by omega) (by omega), hb⟩
      have n18 : (k == 18) = false := by simpa using hk18
      go_wp2_with (first | (go_at_call 108; (with_reducible refine (bare_calls _ _ _ _ _ _ _ _ _ _ _ _).mono ?_); rintro e w1 ⟨rfl, hb⟩; have hbW := below_on hbW (Nat.le_refl _) hb; obtain ⟨⟨-, t4⟩, ⟨-, t5⟩, ⟨-, t6⟩, ⟨-, t7⟩, -⟩ := hHc2.out.below hbW; obtain ⟨⟨-, x0⟩, ⟨-, x1⟩, ⟨-, x2⟩, ⟨-, x3⟩, ⟨-, x4⟩, -⟩ := hHce.out.below hbW) | (go_at_call 115; (with_reducible refine (isR_calls _ _).mono ?_); rintro e w1 ⟨rfl, rfl⟩) | (go_at_call 109; (with_reducible refine (among_calls _ _ _ _).mono ?_); rintro e w1 ⟨rfl, rfl⟩))
      all_goals
        go_meet
        case rel => exact ⟨_, rfl, fun _ => top_other (by omega) (by omega) (by omega) (by omega), hbW⟩
  case rest =>
    obtain ⟨okb, rfl, hok, hBc⟩ := hcut
    obtain ⟨-, -, -, -, ⟨-, x4⟩, -⟩ := hHce.out.below hBc
    go_wp2_with fail
    go_loopw [9, 156] (fun u i wr => ∃ (j : Nat) (okj : Bool), j ≤ args.length ∧ i = .int .i64 j ∧ u = .bool okj ∧ Hid (okj = true → Top k n args.length ∧ Ex.bshs (args.take j)) ∧ Below W.heap.size W wr) (fun _ i _ => args.length - (intOf i).toNat)
    case atStart => exact ⟨0, okb, Nat.zero_le _, rfl, rfl, fun h => ⟨hok.out h, trivial⟩, hBc⟩
    case round =>
      obtain ⟨j, okj, hj, rfl, rfl, hq, hB⟩ := hrel
      have hBw := hB0.trans (hB.mono hB0.size)
      by_cases hlt : j < args.length
      rotate_left
      · have : j = args.length := by omega
        subst this
        clear haa ih
        go_wp2
        go_ret
        exact ⟨okj, rfl, fun h => by have := hq.out h; rw [List.take_length] at this; exact this, hBw⟩
      obtain ⟨b, off, rfl, hFb, hel⟩ := haa (by omega)
      obtain ⟨kd', o', n', s', a', m', cap', hx, g0, g1, g2, g3, g4⟩ := hel wr (hBw.block b (hF b hFb)) j hlt
      have hte : args.take (j + 1) = args.take j ++ [args[j]] := List.take_succ_eq_append_getElem hlt
      have hI := hF.below hBw
      have hzw : w.heap.size < wr.heap.size := by have := hB.size; omega
      have hzw2 : w.heap.size + 1 < wr.heap.size := by have := hB.size; omega
      have HC := Lib.hid (fun w' (hb : Below wr.heap.size wr w') => ih _ (List.getElem_mem hlt) F w' _ _ x false (hI.below hb) (HT.out.below hF (hBw.trans (hb.mono hBw.size)) (Nat.le_refl _)) ((hx.below hF hBw (Nat.le_refl _)).below hI hb (Nat.le_refl _)))
      obtain ⟨⟨-, t0⟩, ⟨-, t1⟩, ⟨-, t2⟩, ⟨-, t3⟩, ⟨-, t4⟩, ⟨-, t5⟩, ⟨-, t6⟩, ⟨-, t7⟩, ⟨-, t8⟩, ⟨-, t9⟩, ⟨-, t10⟩, ⟨-, t11⟩, ⟨-, t12⟩, ⟨-, t13⟩, ⟨-, t14⟩, -⟩ := hHct.out.below hB
      have hno : Hid (False → Top k n args.length ∧ Ex.bshs (args.take (j + 1))) := fun h => h.elim
      clear haa hel ih hx
      cases okj
      · clear HC
        go_wp2
        go_roundw
        case rel => exact ⟨j + 1, false, by omega, by go_num, rfl, (fun h => by cases h), hB.alloc hB.size _⟩
        case measure => simp [intOf]; omega
      · have hq2 := Lib.hid (hq.out rfl)
        go_wp2_with (go_at_call 77; (with_reducible refine (HC.out _ ((Below.refl _ _).alloc (Nat.le_refl _) _)).mono ?_); rintro e w2 ⟨r, rfl, hr, hb⟩)
        go_roundw
        case rel => exact ⟨j + 1, r, by omega, by go_num, rfl, (fun h => ⟨hq2.out.1, by rw [hte]; exact bshs_snoc hq2.out.2 (hr h)⟩), (hB.alloc hB.size _).trans (hb.mono (by have := hB.size; simp; omega))⟩
        case measure => simp [intOf]; omega
end Go.Proofs.Ytimdnamhccipjaa
