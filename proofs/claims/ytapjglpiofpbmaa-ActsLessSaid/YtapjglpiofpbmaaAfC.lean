/- The region of m[k]++ by all its orders, once for each set of operations that are over. Printed by gen-ac33.py. -/
import Derived.Test.YtapjglpiofpbmaaPart7f1217dc
namespace Go.Proofs.Ytapjglpiofpbmaa
open Go.RowKit Go.Sort

section
variable {F : Fence} {n : Nat} {P : Program} {md : Region.Mode} {ops : Array Oper} {Q : Exit → Act → World → Prop} {fuel : Nat} {listed : Array Bool} {a : Act} {w : World}
theorem any_one {i : Nat} {o : Oper} (hr : Region.ready md ops listed = [i]) (ho : ops[i]? = some o) (hw : ∀ t, Region.wanted o (yielded ops t) = true)
    (h : o.wpIn F n P a w (wpAnyIn F n P md ops Q fuel (listed.setIfInBounds i true)) Q) : wpAnyIn F n P md ops Q (fuel + 1) listed a w :=
  wpAnyIn_ready hr (by simp) (AllReadyIn.cons ho (fun K hK => by rw [if_pos (hw _)]; exact Oper.wpIn_mono hK h) AllReadyIn.nil)
theorem any_two {i j : Nat} {o o' : Oper} (hr : Region.ready md ops listed = [i, j]) (ho : ops[i]? = some o) (hw : ∀ t, Region.wanted o (yielded ops t) = true) (ho' : ops[j]? = some o') (hw' : ∀ t, Region.wanted o' (yielded ops t) = true)
    (h : o.wpIn F n P a w (wpAnyIn F n P md ops Q fuel (listed.setIfInBounds i true)) Q) (h' : o'.wpIn F n P a w (wpAnyIn F n P md ops Q fuel (listed.setIfInBounds j true)) Q) : wpAnyIn F n P md ops Q (fuel + 1) listed a w :=
  wpAnyIn_ready hr (by simp) (AllReadyIn.cons ho (fun K hK => by rw [if_pos (hw _)]; exact Oper.wpIn_mono hK h) (AllReadyIn.cons ho' (fun K hK => by rw [if_pos (hw' _)]; exact Oper.wpIn_mono hK h') AllReadyIn.nil))
end
set_option maxRecDepth 100000 in
set_option maxHeartbeats 4000000 in
theorem met_region {F : Fence} {nF : Nat} {P : Program} {md : Region.Mode} {ops : Array Oper} {Q : Exit → Act → World → Prop} {o0 o1 o2 o3 o4 o5 o6 : Oper} {TM TC : TypeId} {mv cv sv : Value} {n : Int} {W Wm Ws : World} {D : List Deferred} {t0 t1 t2 t3 t4 t5 t6 t7 t8 t9 t10 t11 t12 t13 t14 t15 t16 t17 t18 t19 t20 t21 t22 t23 t24 t25 t26 t27 t28 t29 t30 t31 t32 t33 t34 t35 t36 t37 t38 t39 t40 t41 t42 t43 t44 t45 t46 t47 t48 t49 t50 t51 t52 t53 t54 t55 t56 t57 : Value}
    (ho0 : ops[0]? = some o0) (hw0 : ∀ t, Region.wanted o0 (yielded ops t) = true) (d0 : o0.dst = some 39)
    (ho1 : ops[1]? = some o1) (hw1 : ∀ t, Region.wanted o1 (yielded ops t) = true) (d1 : o1.dst = some 40)
    (ho2 : ops[2]? = some o2) (hw2 : ∀ t, Region.wanted o2 (yielded ops t) = true) (d2 : o2.dst = some 41)
    (ho3 : ops[3]? = some o3) (hw3 : ∀ t, Region.wanted o3 (yielded ops t) = true) (d3 : o3.dst = some 42)
    (ho4 : ops[4]? = some o4) (hw4 : ∀ t, Region.wanted o4 (yielded ops t) = true) (d4 : o4.dst = some 43)
    (ho5 : ops[5]? = some o5) (hw5 : ∀ t, Region.wanted o5 (yielded ops t) = true) (d5 : o5.dst = some 44)
    (ho6 : ops[6]? = some o6) (hw6 : ∀ t, Region.wanted o6 (yielded ops t) = true) (d6 : o6.dst = none)
    (e0 : o0.op = .load TM (.tmp 6)) (e1 : o1.op = .load TC (.tmp 12)) (e2 : o2.op = .lookup TM (.tmp 39) (.tmp 40) false) (e4 : o4.op = .mapEntry TM (.tmp 39) (.tmp 40)) (e6 : o6.op = .entryStore TM (.tmp 39) (.tmp 44) (.tmp 42))
    (a3 : ∀ (a : Act) (w : World), o3.about P w a.eval = none) (f3 : ∀ c, o3.op ≠ .defer c) (e3 : ∀ (a : Act) (w : World), a.eval (.tmp 41) = .int .i64 n → (execOp a.eval o3).run P w = .ok (.value (.int .i64 (n + 1))) w)
    (a5 : ∀ (a : Act) (w : World), o5.about P w a.eval = none) (f5 : ∀ c, o5.op ≠ .defer c) (e5 : ∀ (a : Act) (w : World), a.eval (.tmp 43) = .tuple #[.int .i64 n, sv] → (execOp a.eval o5).run P w = .ok (.value sv) w)
    (rN : Region.ready md ops #[false, false, false, false, false, false, false] = [0, 1])
    (rN1 : Region.ready md ops #[false, true, false, false, false, false, false] = [0])
    (rN0 : Region.ready md ops #[true, false, false, false, false, false, false] = [1])
    (rN01 : Region.ready md ops #[true, true, false, false, false, false, false] = [2, 4])
    (rN014 : Region.ready md ops #[true, true, false, false, true, false, false] = [2, 5])
    (rN012 : Region.ready md ops #[true, true, true, false, false, false, false] = [3, 4])
    (rN0145 : Region.ready md ops #[true, true, false, false, true, true, false] = [2])
    (rN0124 : Region.ready md ops #[true, true, true, false, true, false, false] = [3, 5])
    (rN0123 : Region.ready md ops #[true, true, true, true, false, false, false] = [4])
    (rN01245 : Region.ready md ops #[true, true, true, false, true, true, false] = [3])
    (rN01234 : Region.ready md ops #[true, true, true, true, true, false, false] = [5])
    (rN012345 : Region.ready md ops #[true, true, true, true, true, true, false] = [6])
    (rN0123456 : Region.ready md ops #[true, true, true, true, true, true, true] = [])
    (hL0 : (Instr.loadAt TM t6).run P W = .ok mv W) (hL1 : (Instr.loadAt TC t12).run P W = .ok cv W) (hL2 : (Instr.lookup TM mv cv false).run P W = .ok (.int .i64 n) W) (hL2m : (Instr.lookup TM mv cv false).run P Wm = .ok (.int .i64 n) Wm)
    (hL4 : (Instr.mapEntry TM mv cv).run P W = .ok (.tuple #[.int .i64 n, sv]) Wm) (hL6 : (Instr.entryStore TM mv sv (.int .i64 (n + 1))).run P Wm = .ok () Ws)
    (hend : Q .normal { tmps := #[t0, t1, t2, t3, t4, t5, t6, t7, t8, t9, t10, t11, t12, t13, t14, t15, t16, t17, t18, t19, t20, t21, t22, t23, t24, t25, t26, t27, t28, t29, t30, t31, t32, t33, t34, t35, t36, t37, t38, mv, cv, (.int .i64 n), (.int .i64 (n + 1)), (.tuple #[.int .i64 n, sv]), sv, t45, t46, t47, t48, t49, t50, t51, t52, t53, t54, t55, t56, t57], defers := D } Ws) :
    wpAnyIn F nF P md ops Q 7 #[false, false, false, false, false, false, false] { tmps := #[t0, t1, t2, t3, t4, t5, t6, t7, t8, t9, t10, t11, t12, t13, t14, t15, t16, t17, t18, t19, t20, t21, t22, t23, t24, t25, t26, t27, t28, t29, t30, t31, t32, t33, t34, t35, t36, t37, t38, t39, t40, t41, t42, t43, t44, t45, t46, t47, t48, t49, t50, t51, t52, t53, t54, t55, t56, t57], defers := D } W := by
  have N0123456 : wpAnyIn F nF P md ops Q 0 #[true, true, true, true, true, true, true] { tmps := #[t0, t1, t2, t3, t4, t5, t6, t7, t8, t9, t10, t11, t12, t13, t14, t15, t16, t17, t18, t19, t20, t21, t22, t23, t24, t25, t26, t27, t28, t29, t30, t31, t32, t33, t34, t35, t36, t37, t38, mv, cv, (.int .i64 n), (.int .i64 (n + 1)), (.tuple #[.int .i64 n, sv]), sv, t45, t46, t47, t48, t49, t50, t51, t52, t53, t54, t55, t56, t57], defers := D } Ws := by
    exact ⟨rN0123456, hend⟩
  have N012345 : wpAnyIn F nF P md ops Q 1 #[true, true, true, true, true, true, false] { tmps := #[t0, t1, t2, t3, t4, t5, t6, t7, t8, t9, t10, t11, t12, t13, t14, t15, t16, t17, t18, t19, t20, t21, t22, t23, t24, t25, t26, t27, t28, t29, t30, t31, t32, t33, t34, t35, t36, t37, t38, mv, cv, (.int .i64 n), (.int .i64 (n + 1)), (.tuple #[.int .i64 n, sv]), sv, t45, t46, t47, t48, t49, t50, t51, t52, t53, t54, t55, t56, t57], defers := D } Wm := by
    refine any_one rN012345 ho6 hw6 ?_
    · refine in_store TM (.tmp 39) (.tmp 44) (.tmp 42) mv sv (.int .i64 (n + 1)) e6 rfl rfl rfl hL6 ?_
      rw [d6]
      simp only [Act.put, List.setIfInBounds_toArray, List.set_cons_succ, List.set_cons_zero]
      exact N0123456
  have N01234 : wpAnyIn F nF P md ops Q 2 #[true, true, true, true, true, false, false] { tmps := #[t0, t1, t2, t3, t4, t5, t6, t7, t8, t9, t10, t11, t12, t13, t14, t15, t16, t17, t18, t19, t20, t21, t22, t23, t24, t25, t26, t27, t28, t29, t30, t31, t32, t33, t34, t35, t36, t37, t38, mv, cv, (.int .i64 n), (.int .i64 (n + 1)), (.tuple #[.int .i64 n, sv]), t44, t45, t46, t47, t48, t49, t50, t51, t52, t53, t54, t55, t56, t57], defers := D } Wm := by
    refine any_one rN01234 ho5 hw5 ?_
    · refine in_pure sv (a5 _ _) f5 (e5 _ _ rfl) ?_
      rw [d5]
      simp only [Act.put, List.setIfInBounds_toArray, List.set_cons_succ, List.set_cons_zero]
      exact N012345
  have N01245 : wpAnyIn F nF P md ops Q 2 #[true, true, true, false, true, true, false] { tmps := #[t0, t1, t2, t3, t4, t5, t6, t7, t8, t9, t10, t11, t12, t13, t14, t15, t16, t17, t18, t19, t20, t21, t22, t23, t24, t25, t26, t27, t28, t29, t30, t31, t32, t33, t34, t35, t36, t37, t38, mv, cv, (.int .i64 n), t42, (.tuple #[.int .i64 n, sv]), sv, t45, t46, t47, t48, t49, t50, t51, t52, t53, t54, t55, t56, t57], defers := D } Wm := by
    refine any_one rN01245 ho3 hw3 ?_
    · refine in_pure (.int .i64 (n + 1)) (a3 _ _) f3 (e3 _ _ rfl) ?_
      rw [d3]
      simp only [Act.put, List.setIfInBounds_toArray, List.set_cons_succ, List.set_cons_zero]
      exact N012345
  have N0123 : wpAnyIn F nF P md ops Q 3 #[true, true, true, true, false, false, false] { tmps := #[t0, t1, t2, t3, t4, t5, t6, t7, t8, t9, t10, t11, t12, t13, t14, t15, t16, t17, t18, t19, t20, t21, t22, t23, t24, t25, t26, t27, t28, t29, t30, t31, t32, t33, t34, t35, t36, t37, t38, mv, cv, (.int .i64 n), (.int .i64 (n + 1)), t43, t44, t45, t46, t47, t48, t49, t50, t51, t52, t53, t54, t55, t56, t57], defers := D } W := by
    refine any_one rN0123 ho4 hw4 ?_
    · refine in_entry TM (.tmp 39) (.tmp 40) mv cv (.tuple #[.int .i64 n, sv]) e4 rfl rfl hL4 ?_
      rw [d4]
      simp only [Act.put, List.setIfInBounds_toArray, List.set_cons_succ, List.set_cons_zero]
      exact N01234
  have N0124 : wpAnyIn F nF P md ops Q 3 #[true, true, true, false, true, false, false] { tmps := #[t0, t1, t2, t3, t4, t5, t6, t7, t8, t9, t10, t11, t12, t13, t14, t15, t16, t17, t18, t19, t20, t21, t22, t23, t24, t25, t26, t27, t28, t29, t30, t31, t32, t33, t34, t35, t36, t37, t38, mv, cv, (.int .i64 n), t42, (.tuple #[.int .i64 n, sv]), t44, t45, t46, t47, t48, t49, t50, t51, t52, t53, t54, t55, t56, t57], defers := D } Wm := by
    refine any_two rN0124 ho3 hw3 ho5 hw5 ?_ ?_
    · refine in_pure (.int .i64 (n + 1)) (a3 _ _) f3 (e3 _ _ rfl) ?_
      rw [d3]
      simp only [Act.put, List.setIfInBounds_toArray, List.set_cons_succ, List.set_cons_zero]
      exact N01234
    · refine in_pure sv (a5 _ _) f5 (e5 _ _ rfl) ?_
      rw [d5]
      simp only [Act.put, List.setIfInBounds_toArray, List.set_cons_succ, List.set_cons_zero]
      exact N01245
  have N0145 : wpAnyIn F nF P md ops Q 3 #[true, true, false, false, true, true, false] { tmps := #[t0, t1, t2, t3, t4, t5, t6, t7, t8, t9, t10, t11, t12, t13, t14, t15, t16, t17, t18, t19, t20, t21, t22, t23, t24, t25, t26, t27, t28, t29, t30, t31, t32, t33, t34, t35, t36, t37, t38, mv, cv, t41, t42, (.tuple #[.int .i64 n, sv]), sv, t45, t46, t47, t48, t49, t50, t51, t52, t53, t54, t55, t56, t57], defers := D } Wm := by
    refine any_one rN0145 ho2 hw2 ?_
    · refine in_lookup TM (.tmp 39) (.tmp 40) false mv cv (.int .i64 n) e2 rfl rfl hL2m ?_
      rw [d2]
      simp only [Act.put, List.setIfInBounds_toArray, List.set_cons_succ, List.set_cons_zero]
      exact N01245
  have N012 : wpAnyIn F nF P md ops Q 4 #[true, true, true, false, false, false, false] { tmps := #[t0, t1, t2, t3, t4, t5, t6, t7, t8, t9, t10, t11, t12, t13, t14, t15, t16, t17, t18, t19, t20, t21, t22, t23, t24, t25, t26, t27, t28, t29, t30, t31, t32, t33, t34, t35, t36, t37, t38, mv, cv, (.int .i64 n), t42, t43, t44, t45, t46, t47, t48, t49, t50, t51, t52, t53, t54, t55, t56, t57], defers := D } W := by
    refine any_two rN012 ho3 hw3 ho4 hw4 ?_ ?_
    · refine in_pure (.int .i64 (n + 1)) (a3 _ _) f3 (e3 _ _ rfl) ?_
      rw [d3]
      simp only [Act.put, List.setIfInBounds_toArray, List.set_cons_succ, List.set_cons_zero]
      exact N0123
    · refine in_entry TM (.tmp 39) (.tmp 40) mv cv (.tuple #[.int .i64 n, sv]) e4 rfl rfl hL4 ?_
      rw [d4]
      simp only [Act.put, List.setIfInBounds_toArray, List.set_cons_succ, List.set_cons_zero]
      exact N0124
  have N014 : wpAnyIn F nF P md ops Q 4 #[true, true, false, false, true, false, false] { tmps := #[t0, t1, t2, t3, t4, t5, t6, t7, t8, t9, t10, t11, t12, t13, t14, t15, t16, t17, t18, t19, t20, t21, t22, t23, t24, t25, t26, t27, t28, t29, t30, t31, t32, t33, t34, t35, t36, t37, t38, mv, cv, t41, t42, (.tuple #[.int .i64 n, sv]), t44, t45, t46, t47, t48, t49, t50, t51, t52, t53, t54, t55, t56, t57], defers := D } Wm := by
    refine any_two rN014 ho2 hw2 ho5 hw5 ?_ ?_
    · refine in_lookup TM (.tmp 39) (.tmp 40) false mv cv (.int .i64 n) e2 rfl rfl hL2m ?_
      rw [d2]
      simp only [Act.put, List.setIfInBounds_toArray, List.set_cons_succ, List.set_cons_zero]
      exact N0124
    · refine in_pure sv (a5 _ _) f5 (e5 _ _ rfl) ?_
      rw [d5]
      simp only [Act.put, List.setIfInBounds_toArray, List.set_cons_succ, List.set_cons_zero]
      exact N0145
  have N01 : wpAnyIn F nF P md ops Q 5 #[true, true, false, false, false, false, false] { tmps := #[t0, t1, t2, t3, t4, t5, t6, t7, t8, t9, t10, t11, t12, t13, t14, t15, t16, t17, t18, t19, t20, t21, t22, t23, t24, t25, t26, t27, t28, t29, t30, t31, t32, t33, t34, t35, t36, t37, t38, mv, cv, t41, t42, t43, t44, t45, t46, t47, t48, t49, t50, t51, t52, t53, t54, t55, t56, t57], defers := D } W := by
    refine any_two rN01 ho2 hw2 ho4 hw4 ?_ ?_
    · refine in_lookup TM (.tmp 39) (.tmp 40) false mv cv (.int .i64 n) e2 rfl rfl hL2 ?_
      rw [d2]
      simp only [Act.put, List.setIfInBounds_toArray, List.set_cons_succ, List.set_cons_zero]
      exact N012
    · refine in_entry TM (.tmp 39) (.tmp 40) mv cv (.tuple #[.int .i64 n, sv]) e4 rfl rfl hL4 ?_
      rw [d4]
      simp only [Act.put, List.setIfInBounds_toArray, List.set_cons_succ, List.set_cons_zero]
      exact N014
  have N0 : wpAnyIn F nF P md ops Q 6 #[true, false, false, false, false, false, false] { tmps := #[t0, t1, t2, t3, t4, t5, t6, t7, t8, t9, t10, t11, t12, t13, t14, t15, t16, t17, t18, t19, t20, t21, t22, t23, t24, t25, t26, t27, t28, t29, t30, t31, t32, t33, t34, t35, t36, t37, t38, mv, t40, t41, t42, t43, t44, t45, t46, t47, t48, t49, t50, t51, t52, t53, t54, t55, t56, t57], defers := D } W := by
    refine any_one rN0 ho1 hw1 ?_
    · refine in_load TC (.tmp 12) t12 cv e1 rfl hL1 ?_
      rw [d1]
      simp only [Act.put, List.setIfInBounds_toArray, List.set_cons_succ, List.set_cons_zero]
      exact N01
  have N1 : wpAnyIn F nF P md ops Q 6 #[false, true, false, false, false, false, false] { tmps := #[t0, t1, t2, t3, t4, t5, t6, t7, t8, t9, t10, t11, t12, t13, t14, t15, t16, t17, t18, t19, t20, t21, t22, t23, t24, t25, t26, t27, t28, t29, t30, t31, t32, t33, t34, t35, t36, t37, t38, t39, cv, t41, t42, t43, t44, t45, t46, t47, t48, t49, t50, t51, t52, t53, t54, t55, t56, t57], defers := D } W := by
    refine any_one rN1 ho0 hw0 ?_
    · refine in_load TM (.tmp 6) t6 mv e0 rfl hL0 ?_
      rw [d0]
      simp only [Act.put, List.setIfInBounds_toArray, List.set_cons_succ, List.set_cons_zero]
      exact N01
  have N : wpAnyIn F nF P md ops Q 7 #[false, false, false, false, false, false, false] { tmps := #[t0, t1, t2, t3, t4, t5, t6, t7, t8, t9, t10, t11, t12, t13, t14, t15, t16, t17, t18, t19, t20, t21, t22, t23, t24, t25, t26, t27, t28, t29, t30, t31, t32, t33, t34, t35, t36, t37, t38, t39, t40, t41, t42, t43, t44, t45, t46, t47, t48, t49, t50, t51, t52, t53, t54, t55, t56, t57], defers := D } W := by
    refine any_two rN ho0 hw0 ho1 hw1 ?_ ?_
    · refine in_load TM (.tmp 6) t6 mv e0 rfl hL0 ?_
      rw [d0]
      simp only [Act.put, List.setIfInBounds_toArray, List.set_cons_succ, List.set_cons_zero]
      exact N0
    · refine in_load TC (.tmp 12) t12 cv e1 rfl hL1 ?_
      rw [d1]
      simp only [Act.put, List.setIfInBounds_toArray, List.set_cons_succ, List.set_cons_zero]
      exact N1
  exact N

theorem add_run {o : Oper} (e : o.op = .binOp .add 3 (.tmp 41) (.const (.int .i64 1)) 3) {a : Act} {w : World} {n : Int} (h : a.eval (.tmp 41) = .int .i64 n) (hs : IntKind.i64.wrap (n + 1) = n + 1) : (execOp a.eval o).run Try.prog w = .ok (.value (.int .i64 (n + 1))) w := by
  have h1 : a.eval (.const (.int .i64 1)) = .int .i64 1 := rfl
  simp only [execOp, e, h, h1]
  go_simp
theorem extract_run {o : Oper} (e : o.op = .extract (.tmp 43) 1) {a : Act} {w : World} {x y : Value} (h : a.eval (.tmp 43) = .tuple #[x, y]) : (execOp a.eval o).run Try.prog w = .ok (.value y) w := by
  simp only [execOp, e, h]
  rfl
theorem grown_trans {W A B : World} {r : Option Nat} (h : W.grownBy A r) (k : A.grownBy B r) : W.grownBy B r :=
  ⟨k.os.trans h.os, k.tape.trans h.tape, k.output.trans h.output, Nat.le_trans h.size k.size, fun i hi hne => (k.block i (Nat.lt_of_lt_of_le hi h.size) hne).trans (h.block i hi hne)⟩
theorem grown_row {W A : World} (r : Option Nat) (h : W.grownBy A none) : W.grownBy A r := ⟨h.os, h.tape, h.output, h.size, fun i hi _ => h.block i hi (by simp)⟩
/-- What m[c]++ makes of the state, step by step. -/
theorem AllS.met {lo bm bmb B : Nat} {W : World} {l : List CmdD} (h : AllS lo bm bmb B W l) (c : CmdD) (hl : l.length ≤ 2000000000) : ∃ (n m : Int) (st : Nat) (Wm Ws : World) (v0 : Value),
    W.cell? ⟨bmb, 0, none⟩ = some (.map (some bm)) ∧ (Instr.lookup 55 (.map (some bm)) c.val false).run Try.prog W = .ok (.int .i64 n) W ∧ (Instr.lookup 55 (.map (some bm)) c.val false).run Try.prog Wm = .ok (.int .i64 n) Wm ∧
    (Instr.mapEntry 55 (.map (some bm)) c.val).run Try.prog W = .ok (.tuple #[.int .i64 n, goInt st]) Wm ∧ (Instr.entryStore 55 (.map (some bm)) (goInt st) (.int .i64 (n + 1))).run Try.prog Wm = .ok () Ws ∧
    (Instr.lookup 55 (.map (some bm)) c.val false).run Try.prog Ws = .ok (.int .i64 m) Ws ∧ AllH lo bm bmb B Ws l c ∧ W.grownBy Ws (some bm) ∧ (∃ es clock, W.heap[bm]? = some (.map es clock)) ∧ IntKind.i64.wrap (n + 1) = n + 1 ∧
    Ws.cell? ⟨bmb, 0, none⟩ = some (.map (some bm)) ∧ Boxed Ws B 41 v0 ∧ (m = 1 ∧ c ∉ nubC l ∨ m ≠ 1 ∧ c ∈ nubC l) := by
  have hS := h
  obtain ⟨⟨es, clock, hm⟩, hmb, v0, hv0, ho0⟩ := h
  obtain ⟨st, Wm, hen, hat, hg1⟩ := map_entry hm c
  obtain ⟨es1, clock1, hm1, j1, e1, hj1, hj2, hj3⟩ := hat
  have hcnt := cntC_le l c
  obtain ⟨Ws, es2, clock2, hsto, hm2, hg2⟩ := map_store ⟨es1, clock1, hm1, j1, e1, hj1, hj2, hj3⟩ (cntC l c + 1) (by omega)
  have hlk2 := map_lookup hm2 c
  simp only [if_pos] at hlk2
  rw [cntC_snoc] at hm2
  have hg := grown_trans hg1 hg2
  have hcz := cntC_zero l c
  have hH : AllH lo bm bmb B Ws l c := hS.counted hg hm2
  have hmb2 := hH.mbox
  refine ⟨cntC l c, cntC l c + 1, st, Wm, Ws, v0, hmb.cell, map_lookup hm c, map_lookup hm1 c, hen, hsto, hlk2, hH, hg, ⟨es, clock, hm.1⟩, ?_, hmb2.cell, (hg.block B hv0.lt (fun e => ?_)).trans hv0, ?_⟩
  · simp [IntKind.wrap, IntKind.bits, IntKind.signed]; omega
  · cases e
    exact box_not_map hm.1 hv0 rfl
  · by_cases h0 : cntC l c = 0
    · exact .inl ⟨by omega, fun h9 => hcz.1 h0 ((nubC_mem c l).1 h9)⟩
    · exact .inr ⟨by omega, (nubC_mem c l).2 (Classical.byContradiction fun h9 => h0 (hcz.2 h9))⟩
/-- A map's turning leaves the variables as they are. -/
theorem KpB.mapped {lo B bm : Nat} {W W' : World} {es : Array MapEntry} {clock : Nat} {T : TypeId} {v : Value} (hlo : lo ≤ bm) (hm : W.heap[bm]? = some (.map es clock)) (hB : Boxed W B T v) (h : W.grownBy W' (some bm)) (hl : lo ≤ W.heap.size) : KpB lo B W W' := by
  refine ⟨⟨h.os, h.tape, h.output, h.size, fun k hk => h.block k (by omega) (fun e => by cases e; omega)⟩, fun b o hb ho _ _ => (h.block b (lt_of_some hb) (fun e => ?_)).trans hb, .inl (ownB_of (h.block B hB.lt (fun e => ?_)))⟩
  · cases e
    rw [hm] at hb
    cases hb
    cases ho
  · cases e
    exact box_not_map hm hB rfl
theorem Marks.mapped {lo bm : Nat} {W W' : World} {Ds : List Nat} {es : Array MapEntry} {clock : Nat} (h : Marks lo W Ds) (hm : W.heap[bm]? = some (.map es clock)) (g : W.grownBy W' (some bm)) : Marks lo W' Ds := h.grown g (fun r e => by cases e; rw [hm]; simp)
theorem BoxT.mapped {bm b : Nat} {W W' : World} {cs : List Value} {T : TypeId} {es : Array MapEntry} {clock : Nat} (h : BoxT W b cs T) (hm : W.heap[bm]? = some (.map es clock)) (g : W.grownBy W' (some bm)) : BoxT W' b cs T := (g.block b (lt_of_some h) (fun e => by cases e; have h9 := hm.symm.trans h; cases h9)).trans h
end Go.Proofs.Ytapjglpiofpbmaa
