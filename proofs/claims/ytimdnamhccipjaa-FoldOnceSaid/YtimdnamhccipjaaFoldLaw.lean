/- The walks of clewlaw18.FoldTells and clewlaw18.FoldOnce: they return true. -/
import Derived.Test.YtimdnamhccipjaaFoldP
import Derived.Test.YtimdnamhccipjaaFoldAw
import Derived.Test.YtimdnamhccipjaaFoldBR
import Derived.Test.YtimdnamhccipjaaSameB
import Derived.Deep.RegionWith
import Derived.Deep.MidRow
namespace Go.Proofs.Ytimdnamhccipjaa
open Go.RowKit Go.Sort

theorem BitAt.below {F : Nat → Prop} {w w' : World} {cs : List Value} {e : Ex} {l : List St} (h : BitAt F w cs e l) (hF : Inn F w) (hb : Below w.heap.size w w') : BitAt F w' cs e l := by
  obtain ⟨ts, ecs, lv, x, rfl, h1, h2, h3, h4⟩ := h
  exact ⟨ts, ecs, lv, x, rfl, h1.below hF hb (Nat.le_refl _), h2.below hF hb (Nat.le_refl _), h3.below hF hb (Nat.le_refl _), h4⟩

set_option maxRecDepth 100000 in
set_option maxHeartbeats 8000000 in
theorem foldTells_calls (F : Nat → Prop) (w : World) (cs : List Value) (e : Ex) (l : List St) (hF : Inn F w) (hb : BitAt F w cs e l) (hfe : e.fit) (hfl : St.fits l) : Calls Try.prog 4 #[.agg cs.toArray] w (Gives w (.bool true)) := by
  have HR := Lib.hid (fun w' (hb' : Below w.heap.size w w') => right_calls F w' cs e l (hF.below hb') (hb.below hF hb'))
  obtain ⟨ts, ecs, lv, x, rfl, ht, he, hl, hx⟩ := hb
  obtain ⟨kd, op, nm, st, ax, mx, cx, rfl⟩ := he.shape
  obtain ⟨al, cl, rfl⟩ := hl.shape
  have HT := Lib.hid ht
  obtain ⟨i0, i1, i2, i3, i5, v4, v6, v7, v8, v9, v10, v11, v12, v13, v14, rfl, hsl, ⟨n11, f11, t11⟩, n13, f13, t13⟩ := ht.p
  obtain ⟨a4, n4, c4, rfl, -, -⟩ := hsl v4 (by simp)
  obtain ⟨a6, n6, c6, rfl, -, -⟩ := hsl v6 (by simp)
  obtain ⟨a7, n7, c7, rfl, -, -⟩ := hsl v7 (by simp)
  obtain ⟨a8, n8, c8, rfl, -, -⟩ := hsl v8 (by simp)
  obtain ⟨a9, n9, c9, rfl, -, -⟩ := hsl v9 (by simp)
  obtain ⟨a10, n10, c10, rfl, -, -⟩ := hsl v10 (by simp)
  obtain ⟨a12, n12, c12, rfl, -, -⟩ := hsl v12 (by simp)
  obtain ⟨a14, n14, c14, rfl, -, -⟩ := hsl v14 (by simp)
  obtain ⟨a11, c11, rfl, -⟩ := t11.opn
  obtain ⟨a13, c13, rfl, -⟩ := t13.opn
  clear hsl t11 t13 ht
  have hBW : Below w.heap.size w (w.alloc (.cells #[.int .i64 i0, .int .i64 i1, .int .i64 i2, .int .i64 i3, .slice a4 n4 c4, .int .i64 i5, .slice a6 n6 c6, .slice a7 n7 c7, .slice a8 n8 c8, .slice a9 n9 c9, .slice a10 n10 c10, .slice a11 n11 c11, .slice a12 n12 c12, .slice a13 n13 c13, .slice a14 n14 c14, .int .i64 kd, .int .i64 op, .int .i64 nm, .string st, .slice ax mx cx, .slice al l.length cl, .int .i64 x] 38)) := (Below.refl _ _).alloc (Nat.le_refl _) _
  have hrg : ((w.alloc (.cells #[.int .i64 i0, .int .i64 i1, .int .i64 i2, .int .i64 i3, .slice a4 n4 c4, .int .i64 i5, .slice a6 n6 c6, .slice a7 n7 c7, .slice a8 n8 c8, .slice a9 n9 c9, .slice a10 n10 c10, .slice a11 n11 c11, .slice a12 n12 c12, .slice a13 n13 c13, .slice a14 n14 c14, .int .i64 kd, .int .i64 op, .int .i64 nm, .string st, .slice ax mx cx, .slice al l.length cl, .int .i64 x] 38))).rangeAt w.heap.size 0 [.int .i64 i0, .int .i64 i1, .int .i64 i2, .int .i64 i3, .slice a4 n4 c4, .int .i64 i5, .slice a6 n6 c6, .slice a7 n7 c7, .slice a8 n8 c8, .slice a9 n9 c9, .slice a10 n10 c10, .slice a11 n11 c11, .slice a12 n12 c12, .slice a13 n13 c13, .slice a14 n14 c14, .int .i64 kd, .int .i64 op, .int .i64 nm, .string st, .slice ax mx cx, .slice al l.length cl, .int .i64 x] := fun j v hj => by
    rw [Nat.zero_add, bx_new w [.int .i64 i0, .int .i64 i1, .int .i64 i2, .int .i64 i3, .slice a4 n4 c4, .int .i64 i5, .slice a6 n6 c6, .slice a7 n7 c7, .slice a8 n8 c8, .slice a9 n9 c9, .slice a10 n10 c10, .slice a11 n11 c11, .slice a12 n12 c12, .slice a13 n13 c13, .slice a14 n14 c14, .int .i64 kd, .int .i64 op, .int .i64 nm, .string st, .slice ax mx cx, .slice al l.length cl, .int .i64 x] 38 w.heap.size rfl j (List.getElem?_eq_some_iff.1 hj).1]
    exact hj
  have HRG := Lib.hid hrg
  clear hrg
  have hc7 : Hid (CA (w.alloc (.cells #[.int .i64 i0, .int .i64 i1, .int .i64 i2, .int .i64 i3, .slice a4 n4 c4, .int .i64 i5, .slice a6 n6 c6, .slice a7 n7 c7, .slice a8 n8 c8, .slice a9 n9 c9, .slice a10 n10 c10, .slice a11 n11 c11, .slice a12 n12 c12, .slice a13 n13 c13, .slice a14 n14 c14, .int .i64 kd, .int .i64 op, .int .i64 nm, .string st, .slice ax mx cx, .slice al l.length cl, .int .i64 x] 38)) [(⟨w.heap.size, 15, none⟩, .int .i64 kd), (⟨w.heap.size, 16, none⟩, .int .i64 op), (⟨w.heap.size, 17, none⟩, .int .i64 nm), (⟨w.heap.size, 18, none⟩, .string st), (⟨w.heap.size, 19, none⟩, .slice ax mx cx), (⟨w.heap.size, 20, none⟩, .slice al l.length cl)]) := ⟨⟨by simp, by go_simp⟩, ⟨by simp, by go_simp⟩, ⟨by simp, by go_simp⟩, ⟨by simp, by go_simp⟩, ⟨by simp, by go_simp⟩, ⟨by simp, by go_simp⟩, trivial⟩
  simp only [List.cons_append, List.nil_append] at HR ⊢
  have HA := Lib.hid (fun w' => awakeF_calls w')
  have hbh : Hid (e.bsh ∧ St.bshB l → e.shp ∧ St.shps l ∧ l.length ≤ 256) := fun h => ⟨Ex.shp_of e h.1 hfe, St.shps_ofs l h.2.2 hfl, h.2.1⟩
  clear hfe hfl
  go_enter Try.func4, Try.ntmps4
  go_upto_region 1 with fail
  generalize (w.alloc (.cells #[.int .i64 i0, .int .i64 i1, .int .i64 i2, .int .i64 i3, .slice a4 n4 c4, .int .i64 i5, .slice a6 n6 c6, .slice a7 n7 c7, .slice a8 n8 c8, .slice a9 n9 c9, .slice a10 n10 c10, .slice a11 n11 c11, .slice a12 n12 c12, .slice a13 n13 c13, .slice a14 n14 c14, .int .i64 kd, .int .i64 op, .int .i64 nm, .string st, .slice ax mx cx, .slice al l.length cl, .int .i64 x] 38)) = W at *
  have hbo := Below.refl W.heap.size W
  go_upto_region 3 with (first | (refine wpList_load_mid (by rfl) 38 (.tmp 1) (by rfl) w.heap.size 0 (by rfl) _ _ HRG.out Try.underlying38 rfl (by kernel_rfl) ?_) | (go_at_call 17; (with_reducible refine (HR.out _ hBW).mono ?_); rintro e0 w1 ⟨r, rfl, hr, hb⟩; have hbo := below_on hbo (Nat.le_refl _) hb; obtain ⟨⟨-, b15⟩, ⟨-, b16⟩, ⟨-, b17⟩, ⟨-, b18⟩, ⟨-, b19⟩, ⟨-, b20⟩, -⟩ := hc7.out.below hbo) | (go_at_call 18; (with_reducible refine (HA.out _).mono ?_); rintro e0 w2 ⟨rfl, hb⟩; have hbo := below_on hbo (Nat.le_refl _) hb))
  all_goals (first | (go_ret; exact ⟨rfl, hBW.trans (hbo.mono hBW.size)⟩) | skip)
  have hsp := hbh.out (hr (nt (by assumption)))
  obtain ⟨hs1, hs2, hs3⟩ := hsp
  have hbo1 : Below w.heap.size w w1 := hBW.trans (hbo.mono hBW.size)
  have hc7 : Hid (CA w1 [(⟨w.heap.size, 15, none⟩, .int .i64 kd), (⟨w.heap.size, 16, none⟩, .int .i64 op), (⟨w.heap.size, 17, none⟩, .int .i64 nm), (⟨w.heap.size, 18, none⟩, .string st), (⟨w.heap.size, 19, none⟩, .slice ax mx cx), (⟨w.heap.size, 20, none⟩, .slice al l.length cl)]) := hc7.out.below hbo
  have HE1 := Lib.hid (fun X (hX : Below w1.heap.size w1 X) => exprT_calls e F X _ (hF.below (hbo1.trans (hX.mono hbo1.size))) hs1 (he.below hF (hbo1.trans (hX.mono hbo1.size)) (Nat.le_refl _)))
  have HE2 := Lib.hid (fun X (hX : Below w1.heap.size w1 X) => exprR_calls e F X _ (hF.below (hbo1.trans (hX.mono hbo1.size))) hs1 (he.below hF (hbo1.trans (hX.mono hbo1.size)) (Nat.le_refl _)))
  have HB1 := Lib.hid (fun X (hX : Below w1.heap.size w1 X) => blockT_calls l F X _ (hF.below (hbo1.trans (hX.mono hbo1.size))) hs2 hs3 (hl.below hF (hbo1.trans (hX.mono hbo1.size)) (Nat.le_refl _)))
  have HB2 := Lib.hid (fun X (hX : Below w1.heap.size w1 X) => blockR_calls l F X _ (hF.below (hbo1.trans (hX.mono hbo1.size))) hs2 hs3 (hl.below hF (hbo1.trans (hX.mono hbo1.size)) (Nat.le_refl _)))
  have HS1 := Lib.hid (fun (X : World) (cs1 cs2 : List Value) (h1 : RdEx (fun b => b < X.heap.size) X e.fold cs1) (h2 : RdEx (fun b => b < X.heap.size) X e.fold cs2) => same_self e.fold ▸ sameT_calls e.fold e.fold _ X cs1 cs2 (fun _ h => h) h1 h2)
  have HS2 := Lib.hid (fun (X : World) (v1 v2 : Value) (h1 : Sts (fun b => b < X.heap.size) X (St.folds l []) v1) (h2 : Sts (fun b => b < X.heap.size) X (St.folds l []) v2) => same_self (St.folds l []) ▸ sameBT_calls (St.folds l []) (St.folds l []) _ X v1 v2 (fun _ h => h) h1 h2)
  clear hs1 hs2 hs3 he hl hbh HR hr hb HRG
  have hb15 := hc7.out
  obtain ⟨⟨-, b15⟩, ⟨-, b16⟩, ⟨-, b17⟩, ⟨-, b18⟩, ⟨-, b19⟩, ⟨-, b20⟩, -⟩ := hb15
  have hbo := Below.refl w1.heap.size w1
  go_region_with (first | (go_at_call 20; (with_reducible refine (HE1.out _ hbo.drew).mono ?_); rintro e0 w2 ⟨cs1, rfl, hr1, hb⟩; have hb2 := hb; have hbo := below_on hbo.drew (Nat.le_refl _) hb; obtain ⟨⟨-, b15⟩, ⟨-, b16⟩, ⟨-, b17⟩, ⟨-, b18⟩, ⟨-, b19⟩, ⟨-, b20⟩, -⟩ := hc7.out.below hbo; obtain ⟨k1, o1, n1, s1, y1, m1, c1, rfl⟩ := hr1.shape) | (go_at_call 21; (with_reducible refine (HE2.out _ hbo).mono ?_); rintro e0 w3 ⟨cs2, rfl, hr2, hb⟩; have hb3 := hb; have hbo := below_on hbo (Nat.le_refl _) hb; obtain ⟨⟨-, b15⟩, ⟨-, b16⟩, ⟨-, b17⟩, ⟨-, b18⟩, ⟨-, b19⟩, ⟨-, b20⟩, -⟩ := hc7.out.below hbo; obtain ⟨k2, o2, n2, s2, y2, m2, c2, rfl⟩ := hr2.shape; have hx1 := hr1.keep (G := fun b => b < w3.heap.size) (fun b hb' => hb3.block b hb'.2) (fun b hb' => Nat.lt_of_lt_of_le hb'.2 hb3.size); have hx2 := hr2.keep (G := fun b => b < w3.heap.size) (fun _ _ => rfl) (fun b hb' => hb'.2)) | (go_at_call 19; (with_reducible refine (HS1.out _ _ _ hx1 hx2).mono ?_); rintro e0 w4 ⟨rfl, hb⟩; have hbo := below_on hbo (Nat.le_refl _) hb; obtain ⟨⟨-, b15⟩, ⟨-, b16⟩, ⟨-, b17⟩, ⟨-, b18⟩, ⟨-, b19⟩, ⟨-, b20⟩, -⟩ := hc7.out.below hbo) | (go_at_call 23; (with_reducible refine (HB1.out _ hbo).mono ?_); rintro e0 w5 ⟨v1, rfl, hv1, hb, -⟩; have hbo := below_on hbo (Nat.le_refl _) hb; obtain ⟨⟨-, b15⟩, ⟨-, b16⟩, ⟨-, b17⟩, ⟨-, b18⟩, ⟨-, b19⟩, ⟨-, b20⟩, -⟩ := hc7.out.below hbo) | (go_at_call 24; (with_reducible refine (HB2.out _ hbo).mono ?_); rintro e0 w6 ⟨v2, rfl, hv2, hb, -⟩; have hb6 := hb; have hbo := below_on hbo (Nat.le_refl _) hb; obtain ⟨⟨-, b15⟩, ⟨-, b16⟩, ⟨-, b17⟩, ⟨-, b18⟩, ⟨-, b19⟩, ⟨-, b20⟩, -⟩ := hc7.out.below hbo; have hx3 := hv1.keep (G := fun b => b < w6.heap.size) (fun b hb' => hb6.block b hb'.2) (fun b hb' => Nat.lt_of_lt_of_le hb'.2 hb6.size); have hx4 := hv2.keep (G := fun b => b < w6.heap.size) (fun _ _ => rfl) (fun b hb' => hb'.2)) | (go_at_call 22; (with_reducible refine (HS2.out _ _ _ hx3 hx4).mono ?_); rintro e0 w7 ⟨rfl, hb⟩; have hbo := below_on hbo (Nat.le_refl _) hb) | (go_at_call 18; (with_reducible refine (HA.out _).mono ?_); rintro e0 w8 ⟨rfl, hb⟩; have hbo := below_on hbo (Nat.le_refl _) hb))
  all_goals (go_wp2_with fail; go_ret; exact ⟨rfl, hbo1.trans (hbo.mono hbo1.size)⟩)

end Go.Proofs.Ytimdnamhccipjaa
