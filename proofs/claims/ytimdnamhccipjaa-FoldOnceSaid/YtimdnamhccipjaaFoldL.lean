/- The walk of clewlaw18.right, and what the tables' tests ask of an expression and of statements. -/
import Derived.Test.YtimdnamhccipjaaBoundB
import Derived.Test.YtimdnamhccipjaaSizeAny
import Derived.Test.YtimdnamhccipjaaFoldBD
import Derived.Test.YtimdnamhccipjaaFit
import Derived.Test.YtimdnamhccipjaaBlockDeep
namespace Go.Proofs.Ytimdnamhccipjaa
open Go.RowKit Go.Sort

/-- The cells of a Bit: tables, an expression, statements, a number. -/
def BitAt (F : Nat → Prop) (w : World) (cs : List Value) (e : Ex) (l : List St) : Prop :=
  ∃ (ts ecs : List Value) (lv : Value) (x : Int), cs = ts ++ ecs ++ [lv, .int .i64 x] ∧ Tab F w ts ∧ RdEx F w e ecs ∧ Sts F w l lv ∧ I64 x

set_option maxRecDepth 100000 in
set_option maxHeartbeats 2000000 in
theorem boundBRef_calls (l : List St) (F : Nat → Prop) (w : World) (ts : List Value) (v : Value) (x : Int) (hF : Inn F w) (ht : Tab F w ts) (hr : Sts F w l v) : Calls Try.prog 46 #[.agg ts.toArray, v, .int .i64 x] w (Tells w (St.bshB l)) := by
  obtain ⟨al, cl, rfl⟩ := hr.shape
  have HB := Lib.hid (fun w' (hb : Below w.heap.size w w') => boundB_calls l F w' ts _ x (hF.below hb) (ht.below hF hb (Nat.le_refl _)) (hr.below hF hb (Nat.le_refl _)))
  have HD := Lib.hid (fun w' (hb : Below w.heap.size w w') => depthBR_calls l F w' _ (hF.below hb) (hr.below hF hb (Nat.le_refl _)))
  obtain ⟨i0, i1, i2, i3, i5, v4, v6, v7, v8, v9, v10, v11, v12, v13, v14, rfl, hsl, ⟨n11, f11, t11⟩, n13, f13, t13⟩ := ht.p
  obtain ⟨a4, n4, c4, rfl, -, -⟩ := hsl v4 (by simp)
  obtain ⟨a6, n6, c6, rfl, -, -⟩ := hsl v6 (by simp)
  obtain ⟨a7, n7, c7, rfl, -, -⟩ := hsl v7 (by simp)
  obtain ⟨a8, n8, c8, rfl, -, -⟩ := hsl v8 (by simp)
  obtain ⟨a9, n9, c9, rfl, -, -⟩ := hsl v9 (by simp)
  obtain ⟨a10, n10, c10, rfl, -, -⟩ := hsl v10 (by simp)
  obtain ⟨a12, n12, c12, rfl, -, -⟩ := hsl v12 (by simp)
  obtain ⟨a14, n14, c14, rfl, -, -⟩ := hsl v14 (by simp)
  obtain ⟨a11, c11, rfl, -⟩ := t11.opn
  obtain ⟨a13, c13, rfl, -⟩ := t13.opn
  clear hsl t11 t13 ht hr
  generalize min (St.depths l) 65 = d at *
  go_enter Try.func46, Try.ntmps46
  go_wp2_with (first | (go_at_call 43; (with_reducible refine (HD.out _ ((Below.refl _ _).alloc (Nat.le_refl _) _)).mono ?_); rintro e w1 ⟨rfl, hb⟩; obtain ⟨hcl, hfz⟩ := bcell hb; have hz1 := one_new hb; have hbo := below_on1 (Below.refl w.heap.size w) (Nat.le_refl _) hb) | (go_at_call 83; (with_reducible refine (HB.out _ hbo).mono ?_); rintro e w2 ⟨r, rfl, hr, hb2⟩))
  all_goals go_ret
  · exact ⟨_, rfl, hr, below_on hbo (Nat.le_refl _) hb2⟩
  · exact ⟨_, rfl, (fun h => by cases h), hbo⟩

set_option maxRecDepth 100000 in
set_option maxHeartbeats 4000000 in
theorem right_calls (F : Nat → Prop) (w : World) (cs : List Value) (e : Ex) (l : List St) (hF : Inn F w) (hb : BitAt F w cs e l) : Calls Try.prog 17 #[.agg cs.toArray] w (Tells w (e.bsh ∧ St.bshB l)) := by
  obtain ⟨ts, ecs, lv, x, rfl, ht, he, hl, hx⟩ := hb
  obtain ⟨kd, op, nm, st, ax, mx, cx, rfl⟩ := he.shape
  obtain ⟨al, cl, rfl⟩ := hl.shape
  have HT := Lib.hid ht
  obtain ⟨i0, i1, i2, i3, i5, v4, v6, v7, v8, v9, v10, v11, v12, v13, v14, rfl, hsl, ⟨n11, f11, t11⟩, n13, f13, t13⟩ := ht.p
  obtain ⟨a4, n4, c4, rfl, -, -⟩ := hsl v4 (by simp)
  obtain ⟨a6, n6, c6, rfl, -, -⟩ := hsl v6 (by simp)
  obtain ⟨a7, n7, c7, rfl, -, -⟩ := hsl v7 (by simp)
  obtain ⟨a8, n8, c8, rfl, -, -⟩ := hsl v8 (by simp)
  obtain ⟨a9, n9, c9, rfl, -, -⟩ := hsl v9 (by simp)
  obtain ⟨a10, n10, c10, rfl, -, -⟩ := hsl v10 (by simp)
  obtain ⟨a12, n12, c12, rfl, -, -⟩ := hsl v12 (by simp)
  obtain ⟨a14, n14, c14, rfl, -, -⟩ := hsl v14 (by simp)
  obtain ⟨a11, c11, rfl, -⟩ := t11.opn
  obtain ⟨a13, c13, rfl, -⟩ := t13.opn
  clear hsl t11 t13 ht
  have HS1 := Lib.hid (fun w' (hb : Below w.heap.size w w') => sizeA_calls e F w' _ (hF.below hb) (he.below hF hb (Nat.le_refl _)))
  obtain ⟨q2, hq2⟩ := sizeBA_calls l
  have HS2 := Lib.hid (fun w' (hb : Below w.heap.size w w') => hq2 F w' _ (hF.below hb) (hl.below hF hb (Nat.le_refl _)))
  have HB1 := Lib.hid (fun w' (hb : Below w.heap.size w w') => boundRef_calls e F w' _ _ x (hF.below hb) (HT.out.below hF hb (Nat.le_refl _)) (he.below hF hb (Nat.le_refl _)))
  have HB2 := Lib.hid (fun w' (hb : Below w.heap.size w w') => boundBRef_calls l F w' _ _ x (hF.below hb) (HT.out.below hF hb (Nat.le_refl _)) (hl.below hF hb (Nat.le_refl _)))
  have hBW : Below w.heap.size w (w.alloc (.cells #[.int .i64 i0, .int .i64 i1, .int .i64 i2, .int .i64 i3, .slice a4 n4 c4, .int .i64 i5, .slice a6 n6 c6, .slice a7 n7 c7, .slice a8 n8 c8, .slice a9 n9 c9, .slice a10 n10 c10, .slice a11 n11 c11, .slice a12 n12 c12, .slice a13 n13 c13, .slice a14 n14 c14, .int .i64 kd, .int .i64 op, .int .i64 nm, .string st, .slice ax mx cx, .slice al l.length cl, .int .i64 x] 38)) := (Below.refl _ _).alloc (Nat.le_refl _) _
  have hcb : Hid (CA (w.alloc (.cells #[.int .i64 i0, .int .i64 i1, .int .i64 i2, .int .i64 i3, .slice a4 n4 c4, .int .i64 i5, .slice a6 n6 c6, .slice a7 n7 c7, .slice a8 n8 c8, .slice a9 n9 c9, .slice a10 n10 c10, .slice a11 n11 c11, .slice a12 n12 c12, .slice a13 n13 c13, .slice a14 n14 c14, .int .i64 kd, .int .i64 op, .int .i64 nm, .string st, .slice ax mx cx, .slice al l.length cl, .int .i64 x] 38)) [(⟨w.heap.size, 0, none⟩, .int .i64 i0), (⟨w.heap.size, 1, none⟩, .int .i64 i1), (⟨w.heap.size, 2, none⟩, .int .i64 i2), (⟨w.heap.size, 3, none⟩, .int .i64 i3), (⟨w.heap.size, 4, none⟩, .slice a4 n4 c4), (⟨w.heap.size, 5, none⟩, .int .i64 i5), (⟨w.heap.size, 6, none⟩, .slice a6 n6 c6), (⟨w.heap.size, 7, none⟩, .slice a7 n7 c7), (⟨w.heap.size, 8, none⟩, .slice a8 n8 c8), (⟨w.heap.size, 9, none⟩, .slice a9 n9 c9), (⟨w.heap.size, 10, none⟩, .slice a10 n10 c10), (⟨w.heap.size, 11, none⟩, .slice a11 n11 c11), (⟨w.heap.size, 12, none⟩, .slice a12 n12 c12), (⟨w.heap.size, 13, none⟩, .slice a13 n13 c13), (⟨w.heap.size, 14, none⟩, .slice a14 n14 c14), (⟨w.heap.size, 15, none⟩, .int .i64 kd), (⟨w.heap.size, 16, none⟩, .int .i64 op), (⟨w.heap.size, 17, none⟩, .int .i64 nm), (⟨w.heap.size, 18, none⟩, .string st), (⟨w.heap.size, 19, none⟩, .slice ax mx cx), (⟨w.heap.size, 20, none⟩, .slice al l.length cl), (⟨w.heap.size, 21, none⟩, .int .i64 x)]) := ⟨⟨by simp, by go_simp⟩, ⟨by simp, by go_simp⟩, ⟨by simp, by go_simp⟩, ⟨by simp, by go_simp⟩, ⟨by simp, by go_simp⟩, ⟨by simp, by go_simp⟩, ⟨by simp, by go_simp⟩, ⟨by simp, by go_simp⟩, ⟨by simp, by go_simp⟩, ⟨by simp, by go_simp⟩, ⟨by simp, by go_simp⟩, ⟨by simp, by go_simp⟩, ⟨by simp, by go_simp⟩, ⟨by simp, by go_simp⟩, ⟨by simp, by go_simp⟩, ⟨by simp, by go_simp⟩, ⟨by simp, by go_simp⟩, ⟨by simp, by go_simp⟩, ⟨by simp, by go_simp⟩, ⟨by simp, by go_simp⟩, ⟨by simp, by go_simp⟩, ⟨by simp, by go_simp⟩, trivial⟩
  clear he hl hq2
  simp only [List.cons_append, List.nil_append]
  go_enter Try.func17, Try.ntmps17
  go_upto_region 1 with fail
  generalize (w.alloc (.cells #[.int .i64 i0, .int .i64 i1, .int .i64 i2, .int .i64 i3, .slice a4 n4 c4, .int .i64 i5, .slice a6 n6 c6, .slice a7 n7 c7, .slice a8 n8 c8, .slice a9 n9 c9, .slice a10 n10 c10, .slice a11 n11 c11, .slice a12 n12 c12, .slice a13 n13 c13, .slice a14 n14 c14, .int .i64 kd, .int .i64 op, .int .i64 nm, .string st, .slice ax mx cx, .slice al l.length cl, .int .i64 x] 38)) = W at *
  have hbo := Below.refl W.heap.size W
  obtain ⟨⟨-, b0⟩, ⟨-, b1⟩, ⟨-, b2⟩, ⟨-, b3⟩, ⟨-, b4⟩, ⟨-, b5⟩, ⟨-, b6⟩, ⟨-, b7⟩, ⟨-, b8⟩, ⟨-, b9⟩, ⟨-, b10⟩, ⟨-, b11⟩, ⟨-, b12⟩, ⟨-, b13⟩, ⟨-, b14⟩, ⟨-, b15⟩, ⟨-, b16⟩, ⟨-, b17⟩, ⟨-, b18⟩, ⟨-, b19⟩, ⟨-, b20⟩, ⟨-, b21⟩, -⟩ := hcb.out
  go_wp2_with (first | (go_at_call 38; (with_reducible refine (HS1.out _ (hBW.trans (hbo.mono hBW.size))).mono ?_); rintro e w1 ⟨q1, rfl, hb⟩; have hbo := below_on hbo (Nat.le_refl _) hb; obtain ⟨⟨-, b0⟩, ⟨-, b1⟩, ⟨-, b2⟩, ⟨-, b3⟩, ⟨-, b4⟩, ⟨-, b5⟩, ⟨-, b6⟩, ⟨-, b7⟩, ⟨-, b8⟩, ⟨-, b9⟩, ⟨-, b10⟩, ⟨-, b11⟩, ⟨-, b12⟩, ⟨-, b13⟩, ⟨-, b14⟩, ⟨-, b15⟩, ⟨-, b16⟩, ⟨-, b17⟩, ⟨-, b18⟩, ⟨-, b19⟩, ⟨-, b20⟩, ⟨-, b21⟩, -⟩ := hcb.out.below hbo) | (go_at_call 41; (with_reducible refine (HS2.out _ (hBW.trans (hbo.mono hBW.size))).mono ?_); rintro e w2 ⟨rfl, hb⟩; have hbo := below_on hbo (Nat.le_refl _) hb; obtain ⟨⟨-, b0⟩, ⟨-, b1⟩, ⟨-, b2⟩, ⟨-, b3⟩, ⟨-, b4⟩, ⟨-, b5⟩, ⟨-, b6⟩, ⟨-, b7⟩, ⟨-, b8⟩, ⟨-, b9⟩, ⟨-, b10⟩, ⟨-, b11⟩, ⟨-, b12⟩, ⟨-, b13⟩, ⟨-, b14⟩, ⟨-, b15⟩, ⟨-, b16⟩, ⟨-, b17⟩, ⟨-, b18⟩, ⟨-, b19⟩, ⟨-, b20⟩, ⟨-, b21⟩, -⟩ := hcb.out.below hbo) | (go_at_call 37; (with_reducible refine (HB1.out _ (hBW.trans (hbo.mono hBW.size))).mono ?_); rintro e w3 ⟨r1, rfl, hr1, hb⟩; have hbo := below_on hbo (Nat.le_refl _) hb; obtain ⟨⟨-, b0⟩, ⟨-, b1⟩, ⟨-, b2⟩, ⟨-, b3⟩, ⟨-, b4⟩, ⟨-, b5⟩, ⟨-, b6⟩, ⟨-, b7⟩, ⟨-, b8⟩, ⟨-, b9⟩, ⟨-, b10⟩, ⟨-, b11⟩, ⟨-, b12⟩, ⟨-, b13⟩, ⟨-, b14⟩, ⟨-, b15⟩, ⟨-, b16⟩, ⟨-, b17⟩, ⟨-, b18⟩, ⟨-, b19⟩, ⟨-, b20⟩, ⟨-, b21⟩, -⟩ := hcb.out.below hbo) | (go_at_call 46; (with_reducible refine (HB2.out _ (hBW.trans (hbo.mono hBW.size))).mono ?_); rintro e w4 ⟨r2, rfl, hr2, hb⟩; have hbo := below_on hbo (Nat.le_refl _) hb))
  all_goals go_ret
  all_goals first
    | exact ⟨_, rfl, (fun h => (Bool.false_ne_true h).elim), hBW.trans (hbo.mono hBW.size)⟩
    | exact ⟨_, rfl, (fun h => ⟨hr1 (by first | rfl | assumption), hr2 h⟩), hBW.trans (hbo.mono hBW.size)⟩
end Go.Proofs.Ytimdnamhccipjaa
