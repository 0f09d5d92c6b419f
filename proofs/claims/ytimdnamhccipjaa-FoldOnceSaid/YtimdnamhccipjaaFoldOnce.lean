/- The walk of clewlaw18.FoldOnce: it returns true. -/
import Derived.Test.YtimdnamhccipjaaFoldLaw
namespace Go.Proofs.Ytimdnamhccipjaa
open Go.RowKit Go.Sort

/-- Behind the first folding: the box of the expression, and the statements. -/
def OnceAt (w1 wc : World) (p u : Value) (e : Ex) (l : List St) : Prop := ∃ (b : Nat) (k1 o1 n1 : Int) (s1 : ByteArray) (y1 : Option Addr) (m1 c1 : Nat), p = .pointer (some ⟨b, 0, none⟩) ∧ CA wc (five b 0 (.int .i64 k1) (.int .i64 o1) (.int .i64 n1) (.string s1) (.slice y1 m1 c1)) ∧
    RdEx (fun b => b < wc.heap.size) wc e.fold [.int .i64 k1, .int .i64 o1, .int .i64 n1, .string s1, .slice y1 m1 c1] ∧ Sts (fun b => b < wc.heap.size) wc (St.folds l []) u ∧ Below w1.heap.size w1 wc

theorem met_put {J : Act → World → Prop} {a : Act} {d : Option Tmp} {v : Value} {w : World} (i : Nat) (hd : d = some i) (h : Met J ⟨a.tmps.setIfInBounds i v, a.defers⟩ w) : Met J (a.put d v) w := by subst hd; exact h

theorem five_cells {X : World} {b : Nat} {u0 u1 u2 u3 u4 : Value} (hb : b < X.heap.size) (hc : ∀ j, j < 5 → ∃ v, X.cell? ⟨b, j, none⟩ = some v) :
    CA (((((X.setCell ⟨b, 0, none⟩ u0).setCell ⟨b, 1, none⟩ u1).setCell ⟨b, 2, none⟩ u2).setCell ⟨b, 3, none⟩ u3).setCell ⟨b, 4, none⟩ u4) (five b 0 u0 u1 u2 u3 u4) := by
  obtain ⟨a0, h0⟩ := hc 0 (by omega)
  obtain ⟨a1, h1⟩ := hc 1 (by omega)
  obtain ⟨a2, h2⟩ := hc 2 (by omega)
  obtain ⟨a3, h3⟩ := hc 3 (by omega)
  obtain ⟨a4, h4⟩ := hc 4 (by omega)
  refine ⟨⟨by simpa using hb, ?_⟩, ⟨by simpa using hb, ?_⟩, ⟨by simpa using hb, ?_⟩, ⟨by simpa using hb, ?_⟩, ⟨by simpa using hb, ?_⟩, trivial⟩
  · exact (set_other (by omega)).trans ((set_other (by omega)).trans ((set_other (by omega)).trans ((set_other (by omega)).trans (set_same h0))))
  · exact (set_other (by omega)).trans ((set_other (by omega)).trans ((set_other (by omega)).trans (set_same ((set_other (by omega)).trans h1))))
  · exact (set_other (by omega)).trans ((set_other (by omega)).trans (set_same ((set_other (by omega)).trans ((set_other (by omega)).trans h2))))
  · exact (set_other (by omega)).trans (set_same ((set_other (by omega)).trans ((set_other (by omega)).trans ((set_other (by omega)).trans h3))))
  · exact set_same ((set_other (by omega)).trans ((set_other (by omega)).trans ((set_other (by omega)).trans ((set_other (by omega)).trans h4))))

theorem once_mk {w1 w2 w3 : World} {e : Ex} {l : List St} {k1 o1 n1 : Int} {s1 : ByteArray} {y1 : Option Addr} {m1 c1 : Nat} {v : Value} {X : World} {b lo1 lo2 : Nat} (hr1 : RdEx (NewB lo1 w2.heap.size) w2 e.fold [.int .i64 k1, .int .i64 o1, .int .i64 n1, .string s1, .slice y1 m1 c1]) (hv1 : Sts (NewB lo2 w3.heap.size) w3 (St.folds l []) v)
    (hX1 : ∀ c, lo1 ≤ c → c < w2.heap.size → c ≠ b ∧ X.heap[c]? = w2.heap[c]?) (hX2 : ∀ c, lo2 ≤ c → c < w3.heap.size → c ≠ b ∧ X.heap[c]? = w3.heap[c]?) (hlo : w1.heap.size ≤ b) (hb : b < X.heap.size) (hc : ∀ j, j < 5 → ∃ v, X.cell? ⟨b, j, none⟩ = some v)
    (hB : Below w1.heap.size w1 X) (hs2 : w2.heap.size ≤ X.heap.size) (hs3 : w3.heap.size ≤ X.heap.size) : OnceAt w1 (((((X.setCell ⟨b, 0, none⟩ (.int .i64 k1)).setCell ⟨b, 1, none⟩ (.int .i64 o1)).setCell ⟨b, 2, none⟩ (.int .i64 n1)).setCell ⟨b, 3, none⟩ (.string s1)).setCell ⟨b, 4, none⟩ (.slice y1 m1 c1)) (.pointer (some ⟨b, 0, none⟩)) v e l := by
  refine ⟨b, k1, o1, n1, s1, y1, m1, c1, rfl, five_cells hb hc, hr1.keep (fun c h => ?_) (fun c h => ?_), hv1.keep (fun c h => ?_) (fun c h => ?_), five_set hB hlo⟩
  · rw [five_blk (hX1 c h.1 h.2).1]; exact (hX1 c h.1 h.2).2
  · have := h.2; simp; omega
  · rw [five_blk (hX2 c h.1 h.2).1]; exact (hX2 c h.1 h.2).2
  · have := h.2; simp; omega

theorem box_cells (w : World) (t : TypeId) (j : Nat) (hj : j < 5) : ∃ v, (w.alloc (.cells #[.int .i64 0, .int .i64 0, .int .i64 0, .string ⟨#[]⟩, .slice none 0 0] t)).cell? ⟨w.heap.size, j, none⟩ = some v := by
  have h := bx_new w [.int .i64 0, .int .i64 0, .int .i64 0, .string ⟨#[]⟩, .slice none 0 0] t _ rfl j hj
  rw [h]
  exact ⟨_, List.getElem?_eq_getElem hj⟩

theorem once_a {w1 w2 w3 : World} {e : Ex} {l : List St} {k1 o1 n1 : Int} {s1 : ByteArray} {y1 : Option Addr} {m1 c1 : Nat} {v : Value} (hb2 : Below (w1.alloc (.cells #[.int .i64 0, .int .i64 0, .int .i64 0, .string ⟨#[]⟩, .slice none 0 0] 35)).drew.heap.size (w1.alloc (.cells #[.int .i64 0, .int .i64 0, .int .i64 0, .string ⟨#[]⟩, .slice none 0 0] 35)).drew w2) (hb3 : Below w2.heap.size w2 w3) (hr1 : RdEx (NewB (w1.alloc (.cells #[.int .i64 0, .int .i64 0, .int .i64 0, .string ⟨#[]⟩, .slice none 0 0] 35)).drew.heap.size w2.heap.size) w2 e.fold [.int .i64 k1, .int .i64 o1, .int .i64 n1, .string s1, .slice y1 m1 c1]) (hv1 : Sts (NewB w2.heap.size w3.heap.size) w3 (St.folds l []) v) :
    OnceAt w1 (((((w3.setCell ⟨w1.heap.size, 0, none⟩ (.int .i64 k1)).setCell ⟨w1.heap.size, 1, none⟩ (.int .i64 o1)).setCell ⟨w1.heap.size, 2, none⟩ (.int .i64 n1)).setCell ⟨w1.heap.size, 3, none⟩ (.string s1)).setCell ⟨w1.heap.size, 4, none⟩ (.slice y1 m1 c1)) (.pointer (some ⟨w1.heap.size, 0, none⟩)) v e l := by
  have hz1 : w1.heap.size + 1 ≤ w2.heap.size := by have := hb2.size; simp at this; omega
  have hz2 := hb3.size
  have hA : Below w1.heap.size w1 (w1.alloc (.cells #[.int .i64 0, .int .i64 0, .int .i64 0, .string ⟨#[]⟩, .slice none 0 0] 35)).drew := ((Below.refl _ _).alloc (Nat.le_refl _) _).drew
  refine once_mk hr1 hv1 (fun c h1 h2 => ⟨by simp at h1; omega, hb3.block c h2⟩) (fun c h1 h2 => ⟨by omega, rfl⟩) (Nat.le_refl _) (by omega) (fun j hj => ?_) ((hA.trans (hb2.mono (by simp))).trans (hb3.mono (by omega))) hz2 (Nat.le_refl _)
  obtain ⟨a, ha⟩ := box_cells w1 35 j hj
  exact ⟨a, by rw [hb3.cell (p := ⟨w1.heap.size, j, none⟩) (by show w1.heap.size < _; omega), hb2.cell (p := ⟨w1.heap.size, j, none⟩) (by show w1.heap.size < _; simp)]; exact ha⟩

theorem once_b {w1 w2 w3 : World} {e : Ex} {l : List St} {k1 o1 n1 : Int} {s1 : ByteArray} {y1 : Option Addr} {m1 c1 : Nat} {v : Value} (hb2 : Below w1.drew.heap.size w1.drew w2) (hb3 : Below (w2.alloc (.cells #[.int .i64 0, .int .i64 0, .int .i64 0, .string ⟨#[]⟩, .slice none 0 0] 35)).heap.size (w2.alloc (.cells #[.int .i64 0, .int .i64 0, .int .i64 0, .string ⟨#[]⟩, .slice none 0 0] 35)) w3) (hr1 : RdEx (NewB w1.drew.heap.size w2.heap.size) w2 e.fold [.int .i64 k1, .int .i64 o1, .int .i64 n1, .string s1, .slice y1 m1 c1]) (hv1 : Sts (NewB (w2.alloc (.cells #[.int .i64 0, .int .i64 0, .int .i64 0, .string ⟨#[]⟩, .slice none 0 0] 35)).heap.size w3.heap.size) w3 (St.folds l []) v) :
    OnceAt w1 (((((w3.setCell ⟨w2.heap.size, 0, none⟩ (.int .i64 k1)).setCell ⟨w2.heap.size, 1, none⟩ (.int .i64 o1)).setCell ⟨w2.heap.size, 2, none⟩ (.int .i64 n1)).setCell ⟨w2.heap.size, 3, none⟩ (.string s1)).setCell ⟨w2.heap.size, 4, none⟩ (.slice y1 m1 c1)) (.pointer (some ⟨w2.heap.size, 0, none⟩)) v e l := by
  have hz1 : w1.heap.size ≤ w2.heap.size := hb2.size
  have hz2 : w2.heap.size + 1 ≤ w3.heap.size := by have := hb3.size; simp at this; omega
  have hA : Below w1.heap.size w1 w2 := ((Below.refl _ _).drew).trans (hb2.mono (Nat.le_refl _))
  refine once_mk hr1 hv1 (fun c h1 h2 => ⟨by omega, by rw [hb3.block c (by simp; omega)]; exact Below.heap_alloc w2 _ c h2⟩) (fun c h1 h2 => ⟨by simp at h1; omega, rfl⟩) hz1 (by omega) (fun j hj => ?_) ((hA.alloc hz1 _).trans (hb3.mono (by simp; omega))) (by omega) (Nat.le_refl _)
  obtain ⟨a, ha⟩ := box_cells w2 35 j hj
  exact ⟨a, by rw [hb3.cell (p := ⟨w2.heap.size, j, none⟩) (by show w2.heap.size < _; simp)]; exact ha⟩

theorem once_c {w1 w2 w3 : World} {e : Ex} {l : List St} {k1 o1 n1 : Int} {s1 : ByteArray} {y1 : Option Addr} {m1 c1 : Nat} {v : Value} (hb2 : Below w1.drew.heap.size w1.drew w2) (hb3 : Below w2.heap.size w2 w3) (hr1 : RdEx (NewB w1.drew.heap.size w2.heap.size) w2 e.fold [.int .i64 k1, .int .i64 o1, .int .i64 n1, .string s1, .slice y1 m1 c1]) (hv1 : Sts (NewB w2.heap.size w3.heap.size) w3 (St.folds l []) v) :
    OnceAt w1 ((((((w3.alloc (.cells #[.int .i64 0, .int .i64 0, .int .i64 0, .string ⟨#[]⟩, .slice none 0 0] 35)).setCell ⟨w3.heap.size, 0, none⟩ (.int .i64 k1)).setCell ⟨w3.heap.size, 1, none⟩ (.int .i64 o1)).setCell ⟨w3.heap.size, 2, none⟩ (.int .i64 n1)).setCell ⟨w3.heap.size, 3, none⟩ (.string s1)).setCell ⟨w3.heap.size, 4, none⟩ (.slice y1 m1 c1)) (.pointer (some ⟨w3.heap.size, 0, none⟩)) v e l := by
  have hz1 : w1.heap.size ≤ w2.heap.size := hb2.size
  have hz2 := hb3.size
  have hA : Below w1.heap.size w1 w3 := (((Below.refl _ _).drew).trans (hb2.mono (Nat.le_refl _))).trans (hb3.mono hz1)
  refine once_mk hr1 hv1 (fun c h1 h2 => ⟨by omega, by rw [Below.heap_alloc w3 _ c (by omega)]; exact hb3.block c h2⟩) (fun c h1 h2 => ⟨by omega, Below.heap_alloc w3 _ c h2⟩) (by omega) (by simp) (fun j hj => box_cells w3 _ j hj) (hA.alloc (by omega) _) (by simp; omega) (by simp)

theorem once_d {w1 w2 w3 : World} {e : Ex} {l : List St} {k1 o1 n1 : Int} {s1 : ByteArray} {y1 : Option Addr} {m1 c1 : Nat} {v : Value} (hb2 : Below w1.drew.heap.size w1.drew w2) (hb3 : Below w2.heap.size w2 w3) (hr1 : RdEx (NewB w1.drew.heap.size w2.heap.size) w2 e.fold [.int .i64 k1, .int .i64 o1, .int .i64 n1, .string s1, .slice y1 m1 c1]) (hv1 : Sts (NewB w2.heap.size w3.heap.size) w3 (St.folds l []) v) :
    OnceAt w1 (w3.alloc (.cells #[.int .i64 k1, .int .i64 o1, .int .i64 n1, .string s1, .slice y1 m1 c1] 35)) (.pointer (some ⟨w3.heap.size, 0, none⟩)) v e l := by
  have hz1 : w1.heap.size ≤ w2.heap.size := hb2.size
  have hz2 := hb3.size
  have hA : Below w1.heap.size w1 w3 := (((Below.refl _ _).drew).trans (hb2.mono (Nat.le_refl _))).trans (hb3.mono hz1)
  have hc : ∀ (j : Nat) (hj : j < 5), (w3.alloc (.cells #[.int .i64 k1, .int .i64 o1, .int .i64 n1, .string s1, .slice y1 m1 c1] 35)).cell? ⟨w3.heap.size, j, none⟩ = some ([.int .i64 k1, .int .i64 o1, .int .i64 n1, .string s1, .slice y1 m1 c1][j]'hj) := fun j hj => by
    rw [bx_new w3 [.int .i64 k1, .int .i64 o1, .int .i64 n1, .string s1, .slice y1 m1 c1] 35 _ rfl j hj]
    exact List.getElem?_eq_getElem hj
  refine ⟨_, k1, o1, n1, s1, y1, m1, c1, rfl, ⟨⟨by simp, hc 0 (by omega)⟩, ⟨by simp, hc 1 (by omega)⟩, ⟨by simp, hc 2 (by omega)⟩, ⟨by simp, hc 3 (by omega)⟩, ⟨by simp, hc 4 (by omega)⟩, trivial⟩, hr1.keep (fun c h => ?_) (fun c h => ?_), hv1.keep (fun c h => ?_) (fun c h => ?_), hA.alloc (by omega) _⟩
  · have := h.2; rw [Below.heap_alloc w3 _ c (by omega)]; exact hb3.block c h.2
  · have := h.2; simp; omega
  · exact Below.heap_alloc w3 _ c h.2
  · have := h.2; simp; omega

set_option maxRecDepth 100000 in
set_option maxHeartbeats 8000000 in
theorem foldOnce_calls (F : Nat → Prop) (w : World) (cs : List Value) (e : Ex) (l : List St) (hF : Inn F w) (hb : BitAt F w cs e l) (hfe : e.fit) (hfl : St.fits l) : Calls Try.prog 5 #[.agg cs.toArray] w (Gives w (.bool true)) := by
  have HR := Lib.hid (fun w' (hb' : Below w.heap.size w w') => right_calls F w' cs e l (hF.below hb') (hb.below hF hb'))
  obtain ⟨ts, ecs, lv, x, rfl, ht, he, hl, hx⟩ := hb
  obtain ⟨kd, op, nm, st, ax, mx, cx, rfl⟩ := he.shape
  obtain ⟨al, cl, rfl⟩ := hl.shape
  have HT := Lib.hid ht
  obtain ⟨i0, i1, i2, i3, i5, v4, v6, v7, v8, v9, v10, v11, v12, v13, v14, rfl, hsl, ⟨n11, f11, t11⟩, n13, f13, t13⟩ := ht.p
  obtain ⟨a4, n4, c4, rfl, -, -⟩ := hsl v4 (by simp)
  obtain ⟨a6, n6, c6, rfl, -, -⟩ := hsl v6 (by simp)
  obtain ⟨a7, n7, c7, rfl, -, -⟩ := hsl v7 (by simp)
  obtain ⟨a8, n8, c8, rfl, -, -⟩ := hsl v8 (by simp)
  obtain ⟨a9, n9, c9, rfl, -, -⟩ := hsl v9 (by simp)
  obtain ⟨a10, n10, c10, rfl, -, -⟩ := hsl v10 (by simp)
  obtain ⟨a12, n12, c12, rfl, -, -⟩ := hsl v12 (by simp)
  obtain ⟨a14, n14, c14, rfl, -, -⟩ := hsl v14 (by simp)
  obtain ⟨a11, c11, rfl, -⟩ := t11.opn
  obtain ⟨a13, c13, rfl, -⟩ := t13.opn
  clear hsl t11 t13 ht
  have hBW : Below w.heap.size w (w.alloc (.cells #[.int .i64 i0, .int .i64 i1, .int .i64 i2, .int .i64 i3, .slice a4 n4 c4, .int .i64 i5, .slice a6 n6 c6, .slice a7 n7 c7, .slice a8 n8 c8, .slice a9 n9 c9, .slice a10 n10 c10, .slice a11 n11 c11, .slice a12 n12 c12, .slice a13 n13 c13, .slice a14 n14 c14, .int .i64 kd, .int .i64 op, .int .i64 nm, .string st, .slice ax mx cx, .slice al l.length cl, .int .i64 x] 38)) := (Below.refl _ _).alloc (Nat.le_refl _) _
  have hrg : ((w.alloc (.cells #[.int .i64 i0, .int .i64 i1, .int .i64 i2, .int .i64 i3, .slice a4 n4 c4, .int .i64 i5, .slice a6 n6 c6, .slice a7 n7 c7, .slice a8 n8 c8, .slice a9 n9 c9, .slice a10 n10 c10, .slice a11 n11 c11, .slice a12 n12 c12, .slice a13 n13 c13, .slice a14 n14 c14, .int .i64 kd, .int .i64 op, .int .i64 nm, .string st, .slice ax mx cx, .slice al l.length cl, .int .i64 x] 38))).rangeAt w.heap.size 0 [.int .i64 i0, .int .i64 i1, .int .i64 i2, .int .i64 i3, .slice a4 n4 c4, .int .i64 i5, .slice a6 n6 c6, .slice a7 n7 c7, .slice a8 n8 c8, .slice a9 n9 c9, .slice a10 n10 c10, .slice a11 n11 c11, .slice a12 n12 c12, .slice a13 n13 c13, .slice a14 n14 c14, .int .i64 kd, .int .i64 op, .int .i64 nm, .string st, .slice ax mx cx, .slice al l.length cl, .int .i64 x] := fun j v hj => by
    rw [Nat.zero_add, bx_new w [.int .i64 i0, .int .i64 i1, .int .i64 i2, .int .i64 i3, .slice a4 n4 c4, .int .i64 i5, .slice a6 n6 c6, .slice a7 n7 c7, .slice a8 n8 c8, .slice a9 n9 c9, .slice a10 n10 c10, .slice a11 n11 c11, .slice a12 n12 c12, .slice a13 n13 c13, .slice a14 n14 c14, .int .i64 kd, .int .i64 op, .int .i64 nm, .string st, .slice ax mx cx, .slice al l.length cl, .int .i64 x] 38 w.heap.size rfl j (List.getElem?_eq_some_iff.1 hj).1]
    exact hj
  have HRG := Lib.hid hrg
  clear hrg
  have hc7 : Hid (CA (w.alloc (.cells #[.int .i64 i0, .int .i64 i1, .int .i64 i2, .int .i64 i3, .slice a4 n4 c4, .int .i64 i5, .slice a6 n6 c6, .slice a7 n7 c7, .slice a8 n8 c8, .slice a9 n9 c9, .slice a10 n10 c10, .slice a11 n11 c11, .slice a12 n12 c12, .slice a13 n13 c13, .slice a14 n14 c14, .int .i64 kd, .int .i64 op, .int .i64 nm, .string st, .slice ax mx cx, .slice al l.length cl, .int .i64 x] 38)) [(⟨w.heap.size, 15, none⟩, .int .i64 kd), (⟨w.heap.size, 16, none⟩, .int .i64 op), (⟨w.heap.size, 17, none⟩, .int .i64 nm), (⟨w.heap.size, 18, none⟩, .string st), (⟨w.heap.size, 19, none⟩, .slice ax mx cx), (⟨w.heap.size, 20, none⟩, .slice al l.length cl)]) := ⟨⟨by simp, by go_simp⟩, ⟨by simp, by go_simp⟩, ⟨by simp, by go_simp⟩, ⟨by simp, by go_simp⟩, ⟨by simp, by go_simp⟩, ⟨by simp, by go_simp⟩, trivial⟩
  simp only [List.cons_append, List.nil_append] at HR ⊢
  have HA := Lib.hid (fun w' => awakeF_calls w')
  have hbh : Hid (e.bsh ∧ St.bshB l → e.shp ∧ St.shps l ∧ l.length ≤ 256) := fun h => ⟨Ex.shp_of e h.1 hfe, St.shps_ofs l h.2.2 hfl, h.2.1⟩
  clear hfe hfl
  go_enter Try.func5, Try.ntmps5
  go_upto_region 1 with fail
  generalize (w.alloc (.cells #[.int .i64 i0, .int .i64 i1, .int .i64 i2, .int .i64 i3, .slice a4 n4 c4, .int .i64 i5, .slice a6 n6 c6, .slice a7 n7 c7, .slice a8 n8 c8, .slice a9 n9 c9, .slice a10 n10 c10, .slice a11 n11 c11, .slice a12 n12 c12, .slice a13 n13 c13, .slice a14 n14 c14, .int .i64 kd, .int .i64 op, .int .i64 nm, .string st, .slice ax mx cx, .slice al l.length cl, .int .i64 x] 38)) = W at *
  have hbo := Below.refl W.heap.size W
  go_upto_region 3 with (first | (refine wpList_load_mid (by rfl) 38 (.tmp 1) (by rfl) w.heap.size 0 (by rfl) _ _ HRG.out Try.underlying38 rfl (by kernel_rfl) ?_) | (go_at_call 17; (with_reducible refine (HR.out _ hBW).mono ?_); rintro e0 w1 ⟨r, rfl, hr, hb⟩; have hbo := below_on hbo (Nat.le_refl _) hb; obtain ⟨⟨hzb, b15⟩, ⟨-, b16⟩, ⟨-, b17⟩, ⟨-, b18⟩, ⟨-, b19⟩, ⟨-, b20⟩, -⟩ := hc7.out.below hbo) | (go_at_call 18; (with_reducible refine (HA.out _).mono ?_); rintro e0 w2 ⟨rfl, hb⟩; have hbo := below_on hbo (Nat.le_refl _) hb))
  all_goals (first | (go_ret; exact ⟨rfl, hBW.trans (hbo.mono hBW.size)⟩) | skip)
  obtain rfl : r = true := nt (by assumption)
  have hsp := hbh.out (hr rfl)
  obtain ⟨hs1, hs2, hs3⟩ := hsp
  have hbo1 : Below w.heap.size w w1 := hBW.trans (hbo.mono hBW.size)
  have hc7 : Hid (CA w1 [(⟨w.heap.size, 15, none⟩, .int .i64 kd), (⟨w.heap.size, 16, none⟩, .int .i64 op), (⟨w.heap.size, 17, none⟩, .int .i64 nm), (⟨w.heap.size, 18, none⟩, .string st), (⟨w.heap.size, 19, none⟩, .slice ax mx cx), (⟨w.heap.size, 20, none⟩, .slice al l.length cl)]) := hc7.out.below hbo
  have HE1 := Lib.hid (fun X (hX : Below w1.heap.size w1 X) => exprT_calls e F X _ (hF.below (hbo1.trans (hX.mono hbo1.size))) hs1 (he.below hF (hbo1.trans (hX.mono hbo1.size)) (Nat.le_refl _)))
  have HB1 := Lib.hid (fun X (hX : Below w1.heap.size w1 X) => blockT_calls l F X _ (hF.below (hbo1.trans (hX.mono hbo1.size))) hs2 hs3 (hl.below hF (hbo1.trans (hX.mono hbo1.size)) (Nat.le_refl _)))
  have HSH := Lib.hid (And.intro hs1 (And.intro hs2 hs3))
  clear hs1 hs2 hs3 he hl hbh HR hr hb HRG
  obtain ⟨⟨hzb, b15⟩, ⟨-, b16⟩, ⟨-, b17⟩, ⟨-, b18⟩, ⟨-, b19⟩, ⟨-, b20⟩, -⟩ := hc7.out
  have hbo := Below.refl w1.heap.size w1
  go_cut [3, 4] from 9 (fun p u wc => OnceAt w1 wc p u e l)
  case first =>
    go_region_with (first | (go_at_call 20; (first | (with_reducible refine (HE1.out _ hbo.drew).mono ?_) | (with_reducible refine (HE1.out _ ((hbo.alloc hbo.size _).drew)).mono ?_)); rintro e0 w2 ⟨cs1, rfl, hr1, hb2⟩; obtain ⟨hcl2, hfz2⟩ := bcell hb2; first | (have hbo := below_on hbo.drew (Nat.le_refl _) hb2; obtain ⟨⟨hzb, b15⟩, ⟨-, b16⟩, ⟨-, b17⟩, ⟨-, b18⟩, ⟨-, b19⟩, ⟨-, b20⟩, -⟩ := hc7.out.below hbo; obtain ⟨k1, o1, n1, s1, y1, m1, c1, rfl⟩ := hr1.shape) | (have hbo := below_on ((hbo.alloc hbo.size _).drew) (Nat.le_refl _) hb2; have hzz := one_new' hb2; obtain ⟨⟨hzb, b15⟩, ⟨-, b16⟩, ⟨-, b17⟩, ⟨-, b18⟩, ⟨-, b19⟩, ⟨-, b20⟩, -⟩ := hc7.out.below hbo; obtain ⟨k1, o1, n1, s1, y1, m1, c1, rfl⟩ := hr1.shape)) | (go_at_call 23; (first | (with_reducible refine (HB1.out _ hbo).mono ?_) | (with_reducible refine (HB1.out _ (hbo.alloc hbo.size _)).mono ?_)); rintro e0 w3 ⟨v1, rfl, hv1, hb3, -⟩; obtain ⟨hcl3, hfz3⟩ := bcell hb3; have hzy := hb3.size; obtain ⟨y2, c2, rfl⟩ := hv1.shape))
    all_goals (go_wp2_with fail; (first | (refine met_put 4 (by rfl) ?_; simp only [List.setIfInBounds_toArray, List.set_cons_succ, List.set_cons_zero]) | skip); go_meet; first | with_reducible exact once_d hb2 hb3 hr1 hv1 | with_reducible exact once_a hb2 hb3 hr1 hv1 | with_reducible exact once_b hb2 hb3 hr1 hv1 | with_reducible exact once_c hb2 hb3 hr1 hv1)
  case rest =>
    obtain ⟨bb, k1, o1, n1, s1, y1, m1, c1, rfl, hca, hr1, hv1, hBc⟩ := hcut
    obtain ⟨y2, c2, rfl⟩ := hv1.shape
    obtain ⟨hs1, hs2, hs3⟩ := HSH.out
    have hIc : Inn (fun b => b < wc.heap.size) wc := fun _ h => h
    have hca2 := Lib.hid hca
    have hbo2 : Below w.heap.size w wc := hbo1.trans (hBc.mono hbo1.size)
    have hx1 := fun X (hX : Below wc.heap.size wc X) => exprT_calls e.fold _ X _ (hIc.below hX) (e.fold_shp hs1) (hr1.below hIc hX (Nat.le_refl _))
    rw [Ex.fold_fold] at hx1
    have HE2 := Lib.hid hx1
    have hs1' := fun (X : World) (cs1 : List Value) (hX : Below wc.heap.size wc X) (h1 : RdEx (fun b => b < X.heap.size) X e.fold cs1) => sameT_calls e.fold e.fold _ X cs1 _ (fun _ h => h) h1 (hr1.keep (G := fun b => b < X.heap.size) (fun b hb => hX.block b hb) (fun b hb => Nat.lt_of_lt_of_le hb hX.size))
    simp only [same_self] at hs1'
    have HS1 := Lib.hid hs1'
    clear hs1'
    have hxs := fun X (hX : Below wc.heap.size wc X) => stays_calls (St.folds l []) _ X _ (hIc.below hX) (hv1.below hIc hX (Nat.le_refl _))
    have hxb := fun X (hX : Below wc.heap.size wc X) => blockT_calls (St.folds l []) _ X _ (hIc.below hX) (St.folds_shps l [] hs2 trivial) (St.folds_len l [] (by simpa using hs3)) (hv1.below hIc hX (Nat.le_refl _))
    have hs2' := fun (X : World) (v1 : Value) (hX : Below wc.heap.size wc X) (h1 : Sts (fun b => b < X.heap.size) X (St.folds l []) v1) => sameBT_calls (St.folds l []) (St.folds l []) _ X v1 _ (fun _ h => h) h1 (hv1.keep (G := fun b => b < X.heap.size) (fun b hb => hX.block b hb) (fun b hb => Nat.lt_of_lt_of_le hb hX.size))
    simp only [same_self] at hs2'
    have HS2 := Lib.hid hs2'
    clear hs2'
    have hag : Hid (St.stayL (St.folds l []) = false → St.folds (St.folds l []) [] = St.folds l []) := fun h => by have := St.folds_again (St.folds l []) [] (St.folds_fds l [] trivial) h; simpa using this
    obtain ⟨⟨hzb2, d0⟩, ⟨-, d1⟩, ⟨-, d2⟩, ⟨-, d3⟩, ⟨-, d4⟩, -⟩ := hca
    have hbo := Below.refl wc.heap.size wc
    clear hs1 hs2 hs3 hx1 hr1 hv1 hBc HE1 HB1 HSH
    by_cases hst : St.stayL (St.folds l []) = true
    · rw [hst] at hxs
      have HST := Lib.hid hxs
      clear hxs hxb hst hag HS2
      go_wp2_with fail
      first | (go_region_with (first | (go_at_call 20; (with_reducible refine (HE2.out _ hbo.drew).mono ?_); rintro e0 w4 ⟨cs2, rfl, hr2, hb⟩; have hbo := below_on hbo.drew (Nat.le_refl _) hb; obtain ⟨⟨hzb2, d0⟩, ⟨-, d1⟩, ⟨-, d2⟩, ⟨-, d3⟩, ⟨-, d4⟩, -⟩ := hca2.out.below hbo; obtain ⟨k2, o2, n2, s2, y3, m3, c3, rfl⟩ := hr2.shape; have hx2 := hr2.keep (G := fun b => b < w4.heap.size) (fun _ _ => rfl) (fun b hb' => hb'.2)) | (go_at_call 19; (with_reducible refine (HS1.out _ _ hbo hx2).mono ?_); rintro e0 w5 ⟨rfl, hb⟩; have hbo := below_on hbo (Nat.le_refl _) hb) | (go_at_call 25; (with_reducible refine (HST.out _ hbo).mono ?_); rintro e0 w6 ⟨rfl, hb⟩; have hbo := below_on hbo (Nat.le_refl _) hb) | (go_at_call 18; (with_reducible refine (HA.out _).mono ?_); rintro e0 w9 ⟨rfl, hb⟩; have hbo := below_on hbo (Nat.le_refl _) hb))) | fail
      all_goals (go_wp2_with fail; go_ret; exact ⟨rfl, hbo2.trans (hbo.mono hbo2.size)⟩)
    · rw [Bool.not_eq_true] at hst
      rw [hag.out hst] at hxb
      rw [hst] at hxs
      have HST := Lib.hid hxs
      have HB2 := Lib.hid hxb
      clear hxs hxb hst hag
      go_wp2_with fail
      first | (go_region_with (first | (go_at_call 20; (with_reducible refine (HE2.out _ hbo.drew).mono ?_); rintro e0 w4 ⟨cs2, rfl, hr2, hb⟩; have hbo := below_on hbo.drew (Nat.le_refl _) hb; obtain ⟨⟨hzb2, d0⟩, ⟨-, d1⟩, ⟨-, d2⟩, ⟨-, d3⟩, ⟨-, d4⟩, -⟩ := hca2.out.below hbo; obtain ⟨k2, o2, n2, s2, y3, m3, c3, rfl⟩ := hr2.shape; have hx2 := hr2.keep (G := fun b => b < w4.heap.size) (fun _ _ => rfl) (fun b hb' => hb'.2)) | (go_at_call 19; (with_reducible refine (HS1.out _ _ hbo hx2).mono ?_); rintro e0 w5 ⟨rfl, hb⟩; have hbo := below_on hbo (Nat.le_refl _) hb) | (go_at_call 25; (with_reducible refine (HST.out _ hbo).mono ?_); rintro e0 w6 ⟨rfl, hb⟩; have hbo := below_on hbo (Nat.le_refl _) hb) | (go_at_call 23; (with_reducible refine (HB2.out _ hbo).mono ?_); rintro e0 w7 ⟨v2, rfl, hv2, hb, -⟩; have hbo := below_on hbo (Nat.le_refl _) hb; have hx3 := hv2.keep (G := fun b => b < w7.heap.size) (fun _ _ => rfl) (fun b hb' => hb'.2)) | (go_at_call 22; (with_reducible refine (HS2.out _ _ hbo hx3).mono ?_); rintro e0 w8 ⟨rfl, hb⟩; have hbo := below_on hbo (Nat.le_refl _) hb) | (go_at_call 18; (with_reducible refine (HA.out _).mono ?_); rintro e0 w9 ⟨rfl, hb⟩; have hbo := below_on hbo (Nat.le_refl _) hb))) | fail
      all_goals (go_wp2_with fail; go_ret; exact ⟨rfl, hbo2.trans (hbo.mono hbo2.size)⟩)

end Go.Proofs.Ytimdnamhccipjaa
