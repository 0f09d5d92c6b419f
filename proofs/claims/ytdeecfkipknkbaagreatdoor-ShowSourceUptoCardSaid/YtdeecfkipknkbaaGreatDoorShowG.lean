/- The law's awake. Printed by gen-show21.py. -/
import Derived.Test.YtdeecfkipknkbaaGreatDoorShowF
import Derived.Deep.RegionHeld
namespace Go.Proofs.YtdeecfkipknkbaaGreatDoor
set_option maxRecDepth 100000
set_option maxHeartbeats 8000000
open Go.RowKit Go.Sort
theorem BoxT.set {w : World} {x : Nat} {cs : List Value} {T : TypeId} (h : BoxT w x cs T) (j : Nat) (u : Value) : BoxT (w.setCell ⟨x, j, none⟩ u) x (cs.set j u) T := by
 unfold BoxT at *
 simp [World.setCell, Array.getElem?_modify, h]
theorem innW (W : World) : Inn (fun b => b < W.heap.size) W := fun _ h => h
theorem SmAt.set {w : World} {b : Nat} (h : SmAt w b) (m j : Nat) (u : Value) (hm : b ≠ m) : SmAt (w.setCell ⟨m, j, none⟩ u) b :=
 ⟨by simpa using h.1, fun i hi => (World.cell?_setCell_far w ⟨m, j, none⟩ ⟨b, i, none⟩ u (fun e => hm e.symm)).trans (h.2 i hi)⟩
def SmRAt (w : World) (b : Nat) : Prop := b < w.heap.size ∧ Bx w b [.string ⟨#[116, 97, 107, 101]⟩, .int .i64 2, .string ⟨#[]⟩, .string ⟨#[108, 97, 109, 112]⟩, .slice none 0 0, .slice none 0 0]
theorem SmRAt.below {w w' : World} {b : Nat} (h : SmRAt w b) (hb : Below w.heap.size w w') : SmRAt w' b := ⟨Nat.lt_of_lt_of_le h.1 hb.size, h.2.below hb h.1⟩
theorem SmRAt.set {w : World} {b : Nat} (h : SmRAt w b) (m j : Nat) (u : Value) (hm : b ≠ m) : SmRAt (w.setCell ⟨m, j, none⟩ u) b :=
 ⟨by simpa using h.1, fun i hi => (World.cell?_setCell_far w ⟨m, j, none⟩ ⟨b, i, none⟩ u (fun e => hm e.symm)).trans (h.2 i hi)⟩
theorem srcS {w : World} {b r : Nat} {start : ByteArray} (hs : start.size ≤ maxLen) (h : SmAt w b) (k : SmRAt w r) :
 Holds.src.R (fun b => b < w.heap.size) w (smS start [smR]) [.string ⟨#[84, 97, 108, 101]⟩, .string ⟨#[110, 111, 98, 111, 100, 121]⟩, .string start, .int .i64 1, .int .i64 0, .slice none 0 0, .slice none 0 0, .slice none 0 0, .slice (some ⟨b, 0, none⟩) 1 1, .slice none 0 0, .slice (some ⟨r, 0, none⟩) 1 1, .slice none 0 0, .slice none 0 0] :=
 smS_at hs (smO_at h.1 h.2) (smR_at k.1 k.2)
theorem mx_set {w W : World} {m : Nat} {j : Nat} {u : Value} (h : MX w) (hb : Below w.heap.size w W) (hm : w.heap.size + 1 < m) : MX (W.setCell ⟨m, j, none⟩ u) :=
 h.below (hb.setCell (p := ⟨m, j, none⟩) (by show w.heap.size ≤ m; omega) u) (Nat.le_refl _)
def AwS (w : World) (n r m : Nat) (W : World) : Prop := MX W ∧ SmAt W n ∧ SmRAt W r ∧ BoxT W m [.string ⟨#[84, 97, 108, 101]⟩, .string ⟨#[110, 111, 98, 111, 100, 121]⟩, .string ⟨#[114, 111, 111, 109]⟩, .int .i64 1, .int .i64 0, .slice none 0 0, .slice none 0 0, .slice none 0 0, .slice (some ⟨n, 0, none⟩) 1 1, .slice none 0 0, .slice (some ⟨r, 0, none⟩) 1 1, .slice none 0 0, .slice none 0 0] 29 ∧ Below w.heap.size w W
theorem AwS.below {w W W' : World} {n r m : Nat} (h : AwS w n r m W) (hb : Below W.heap.size W W') : AwS w n r m W' :=
 ⟨h.1.below hb (Nat.le_refl _), h.2.1.below hb, h.2.2.1.below hb, h.2.2.2.1.below hb, bt h.2.2.2.2 hb⟩
theorem AwS.mx {w W : World} {n r m : Nat} (h : AwS w n r m W) : MX W := h.1
theorem source_sm (W : World) (cs : List Value) (ht : TB W) (ha : TA W) (h : Holds.src.R (fun b => b < W.heap.size) W (smS ⟨#[104, 97, 108, 108]⟩ []) cs) : Calls Tryz.prog 10 #[.agg cs.toArray] W (Gives W (.string ⟨#[115, 116, 111, 114, 121, 32, 34, 84, 97, 108, 101, 34, 32, 98, 121, 32, 34, 110, 111, 98, 111, 100, 121, 34, 32, 114, 101, 108, 101, 97, 115, 101, 32, 49, 32, 109, 97, 120, 32, 48, 32, 115, 116, 97, 114, 116, 32, 104, 97, 108, 108, 59, 10, 114, 111, 111, 109, 32, 104, 97, 108, 108, 32, 34, 72, 97, 108, 108, 34, 32, 123, 10, 125, 10]⟩)) := by
 have := srcShow_calls _ W _ cs (innW W) ht ha right_sm (by rw [txt_sm]; decide) h
 rw [txt_sm] at this
 exact this
theorem source_sm2 (W : World) (cs : List Value) (ht : TB W) (ha : TA W) (h : Holds.src.R (fun b => b < W.heap.size) W (smS ⟨#[104, 97, 108, 108]⟩ [smR]) cs) : Calls Tryz.prog 10 #[.agg cs.toArray] W (Gives W (.string ⟨#[115, 116, 111, 114, 121, 32, 34, 84, 97, 108, 101, 34, 32, 98, 121, 32, 34, 110, 111, 98, 111, 100, 121, 34, 32, 114, 101, 108, 101, 97, 115, 101, 32, 49, 32, 109, 97, 120, 32, 48, 32, 115, 116, 97, 114, 116, 32, 104, 97, 108, 108, 59, 10, 114, 111, 111, 109, 32, 104, 97, 108, 108, 32, 34, 72, 97, 108, 108, 34, 32, 123, 10, 125, 10, 111, 110, 32, 116, 97, 107, 101, 40, 97, 110, 121, 44, 32, 108, 97, 109, 112, 41, 32, 123, 10, 125, 10]⟩)) := by
 have := srcShow_calls _ W _ cs (innW W) ht ha right_smR (by rw [txt_sm2]; decide) h
 rw [txt_sm2] at this
 exact this
theorem objs1 (W : World) (b : Nat) (hm : MX W) (h : SmAt W b) : Calls Tryz.prog 88 #[.slice (some ⟨b, 0, none⟩) 1 1, .int .i64 126, .func (.func 89) #[] #[]] W (Gives W (.bool true)) := by
 have := allObject_calls _ W 89 #[] [smO] 126 _ (fun _ => True) (innW W) (smO_at h.1 h.2) (fun _ _ => by kernel_rfl) (fun x hx W' cs hb hr => by
  rw [List.mem_singleton.1 hx] at hr
  obtain ⟨-, -, -, -, va5, va6, va7, va8, va9, rfl, ka5, ka6, ka7, ka8, ka9⟩ := hr
  obtain ⟨da5, fa5, rfl⟩ := ka5.shape
  obtain ⟨da6, fa6, rfl⟩ := ka6.shape
  obtain ⟨da7, fa7, rfl⟩ := ka7.shape
  obtain ⟨da8, fa8, rfl⟩ := ka8.shape
  obtain ⟨da9, fa9, rfl⟩ := ka9.shape
  rw [dec_true trivial]
  exact riObj1 W' ⟨#[104, 97, 108, 108]⟩ ⟨#[72, 97, 108, 108]⟩ ⟨#[]⟩ ⟨#[]⟩ da5 fa5 da6 fa6 da7 fa7 da8 fa8 da9 fa9 (hm.below hb (Nat.le_refl _)) nm_hall tx_hall rfl tx_none (by decide) (by decide) (by decide))
 rw [dec_true ⟨by decide, fun _ _ => trivial⟩] at this
 exact this
theorem objs2 (W : World) (b c : Nat) (h : SmAt W b) (k : SmAt W c) : Calls Tryz.prog 101 #[.slice (some ⟨b, 0, none⟩) 1 1, .slice (some ⟨c, 0, none⟩) 1 1, .func (.func 102) #[] #[]] W (Gives W (.bool true)) := by
 have := eqfObject_calls _ W 102 #[] [smO] [smO] _ _ (innW W) (smO_at h.1 h.2) (smO_at k.1 k.2) (fun _ _ => by kernel_rfl) (fun x hx y hy W' cs ds hb hr hs => by
  rw [List.mem_singleton.1 hx] at hr ⊢
  rw [List.mem_singleton.1 hy] at hs ⊢
  obtain ⟨-, -, -, -, va5, va6, va7, va8, va9, rfl, ka5, ka6, ka7, ka8, ka9⟩ := hr
  obtain ⟨da5, fa5, rfl⟩ := ka5.shape
  obtain ⟨da6, fa6, rfl⟩ := ka6.shape
  obtain ⟨da7, fa7, rfl⟩ := ka7.shape
  obtain ⟨da8, fa8, rfl⟩ := ka8.shape
  obtain ⟨da9, fa9, rfl⟩ := ka9.shape
  obtain ⟨-, -, -, -, vb5, vb6, vb7, vb8, vb9, rfl, kb5, kb6, kb7, kb8, kb9⟩ := hs
  obtain ⟨db5, fb5, rfl⟩ := kb5.shape
  obtain ⟨db6, fb6, rfl⟩ := kb6.shape
  obtain ⟨db7, fb7, rfl⟩ := kb7.shape
  obtain ⟨db8, fb8, rfl⟩ := kb8.shape
  obtain ⟨db9, fb9, rfl⟩ := kb9.shape
  rw [same_self]
  exact soObj1 W' ⟨#[104, 97, 108, 108]⟩ ⟨#[72, 97, 108, 108]⟩ ⟨#[]⟩ ⟨#[]⟩ da5 fa5 da6 fa6 da7 fa7 da8 fa8 da9 fa9 db5 fb5 db6 fb6 db7 fb7 db8 fb8 db9 fb9)
 rw [same_self] at this
 exact this
theorem awake14_calls (w : World) (hm : MX w) (ht : TB w) (ha : TA w) : Calls Tryz.prog 9 #[] w (Gives w (.bool true)) := by
 have HSM := Lib.hid (small14_calls w)
 have HMX := Lib.hid hm
 have HTB := Lib.hid ht
 have HTA := Lib.hid ha
 clear hm ht ha
 go_enter Tryz.func9, Tryz.ntmps9
 go_upto_region 2 with (go_at_call 34; (with_reducible refine HSM.out.mono ?_); rintro e w1 ⟨rfl, hs1, hb1⟩)
 obtain ⟨w2, hw2⟩ : ∃ x, w1.alloc (.cells #[.string ⟨#[84, 97, 108, 101]⟩, .string ⟨#[110, 111, 98, 111, 100, 121]⟩, .string ⟨#[104, 97, 108, 108]⟩, .int .i64 1, .int .i64 0, .slice none 0 0, .slice none 0 0, .slice none 0 0, .slice (some ⟨w.heap.size + 1, 0, none⟩) 1 1, .slice none 0 0, .slice none 0 0, .slice none 0 0, .slice none 0 0] 29) = x := ⟨_, rfl⟩
 rw [hw2]
 obtain ⟨m, hmz⟩ : ∃ m, w1.heap.size = m := ⟨_, rfl⟩
 rw [hmz]
 have hb2 := ba' hw2
 have hx2 : BoxT w2 m [.string ⟨#[84, 97, 108, 101]⟩, .string ⟨#[110, 111, 98, 111, 100, 121]⟩, .string ⟨#[104, 97, 108, 108]⟩, .int .i64 1, .int .i64 0, .slice none 0 0, .slice none 0 0, .slice none 0 0, .slice (some ⟨w.heap.size + 1, 0, none⟩) 1 1, .slice none 0 0, .slice none 0 0, .slice none 0 0, .slice none 0 0] 29 := by rw [← hw2, ← hmz]; exact BoxT.new _ _ _
 have hs2 := hs1.below hb2
 obtain ⟨sa, hsa⟩ : ∃ x : ByteArray, ⟨#[115, 116, 111, 114, 121, 32, 34, 84, 97, 108, 101, 34, 32, 98, 121, 32, 34, 110, 111, 98, 111, 100, 121, 34, 32, 114, 101, 108, 101, 97, 115, 101, 32, 49, 32, 109, 97, 120, 32, 48, 32, 115, 116, 97, 114, 116, 32, 104, 97, 108, 108, 59, 10, 114, 111, 111, 109, 32, 104, 97, 108, 108, 32, 34, 72, 97, 108, 108, 34, 32, 123, 10, 125, 10]⟩ = x := ⟨_, rfl⟩
 have hbt := bt hb1 hb2
 have HSR := source_sm w2 _ (HTB.out.below hbt (Nat.le_refl _)) (HTA.out.below hbt (Nat.le_refl _)) hs2.src
 clear hbt
 rw [hsa] at HSR
 have HSA := Lib.hid hsa
 have HSR := Lib.hid HSR
 clear hsa
 obtain ⟨y0, y1, y2, y3, y4, y5, y6, y7, y8, y9, y10, y11, y12⟩ := u12' hx2.cell
 have HS2 := Lib.hid hs2
 have HX2 := Lib.hid hx2
 have HB2 : Hid (Below w.heap.size w w2) := bt hb1 hb2
 have hwm : Hid (w.heap.size + 1 < m) := by show _ < m; rw [← hmz]; exact hs1.1
 clear hs1 hb1 hb2 hx2 hs2 hw2 HSM hmz
 go_upto_region 3 with (go_at_call 10; (with_reducible refine HSR.out.mono ?_); rintro e w3 ⟨rfl, hb3⟩)
 have hx3 := HX2.out.below hb3
 have hs3 := HS2.out.below hb3
 have HB3 : Hid (Below w.heap.size w w3) := bt HB2.out hb3
 clear y0 y1 y2 y3 y4 y5 y6 y7 y8 y9 y10 y11 y12 HSR HX2 HS2 HB2
 obtain ⟨y0, y1, y2, y3, y4, y5, y6, y7, y8, y9, y10, y11, y12⟩ := u12' hx3.cell
 have hml := hx3.lt
 have hfr : w3.frozen? ⟨m, 10, none⟩ = false := Lib.frozen_of_heap hx3 10
 have HX3 := Lib.hid hx3
 have HS3 := Lib.hid hs3
 clear hx3 hs3 hb3
 go_upto_region 4 with fail
 obtain ⟨w4, hw4⟩ : ∃ x, (w3.setCell ⟨m, 10, none⟩ (.slice (some ⟨w3.heap.size, 0, none⟩) 1 1)).alloc (.cells #[.string ⟨#[116, 97, 107, 101]⟩, .int .i64 2, .string ⟨#[]⟩, .string ⟨#[108, 97, 109, 112]⟩, .slice none 0 0, .slice none 0 0] 70) = x := ⟨_, rfl⟩
 rw [hw4]
 obtain ⟨r, hrz⟩ : ∃ r, w3.heap.size = r := ⟨_, rfl⟩
 rw [hrz]
 have hba : Below (w3.setCell ⟨m, 10, none⟩ (.slice (some ⟨w3.heap.size, 0, none⟩) 1 1)).heap.size (w3.setCell ⟨m, 10, none⟩ (.slice (some ⟨w3.heap.size, 0, none⟩) 1 1)) w4 := by rw [← hw4]; exact (Below.refl _ _).alloc (Nat.le_refl _) _
 have hx4 : BoxT w4 m [.string ⟨#[84, 97, 108, 101]⟩, .string ⟨#[110, 111, 98, 111, 100, 121]⟩, .string ⟨#[104, 97, 108, 108]⟩, .int .i64 1, .int .i64 0, .slice none 0 0, .slice none 0 0, .slice none 0 0, .slice (some ⟨w.heap.size + 1, 0, none⟩) 1 1, .slice none 0 0, .slice (some ⟨w3.heap.size, 0, none⟩) 1 1, .slice none 0 0, .slice none 0 0] 29 := (HX3.out.set 10 (.slice (some ⟨w3.heap.size, 0, none⟩) 1 1)).below hba
 have hr4 : SmRAt w4 w3.heap.size := by
  have h1 := bx_new (w3.setCell ⟨m, 10, none⟩ (.slice (some ⟨w3.heap.size, 0, none⟩) 1 1)) [.string ⟨#[116, 97, 107, 101]⟩, .int .i64 2, .string ⟨#[]⟩, .string ⟨#[108, 97, 109, 112]⟩, .slice none 0 0, .slice none 0 0] 70 w3.heap.size (by simp)
  rw [hw4] at h1
  exact ⟨by have := hba.size; rw [← hw4]; simp, h1⟩
 have hs4 : SmAt w4 (w.heap.size + 1) := SmAt.below (SmAt.set HS3.out m 10 (.slice (some ⟨w3.heap.size, 0, none⟩) 1 1) (by have := hwm.out; omega)) hba
 have HB4 : Hid (Below w.heap.size w w4) := by
  have h1 := HB3.out.setCell (p := ⟨m, 10, none⟩) (by have := hwm.out; show w.heap.size ≤ m; omega) (.slice (some ⟨w3.heap.size, 0, none⟩) 1 1)
  exact bt h1 hba
 have hrne : Hid (r ≠ m) := by show r ≠ m; rw [← hrz]; exact Nat.ne_of_gt hml
 rw [hrz] at hr4 hx4
 obtain ⟨sb, hsb⟩ : ∃ x : ByteArray, ⟨#[115, 116, 111, 114, 121, 32, 34, 84, 97, 108, 101, 34, 32, 98, 121, 32, 34, 110, 111, 98, 111, 100, 121, 34, 32, 114, 101, 108, 101, 97, 115, 101, 32, 49, 32, 109, 97, 120, 32, 48, 32, 115, 116, 97, 114, 116, 32, 104, 97, 108, 108, 59, 10, 114, 111, 111, 109, 32, 104, 97, 108, 108, 32, 34, 72, 97, 108, 108, 34, 32, 123, 10, 125, 10, 111, 110, 32, 116, 97, 107, 101, 40, 97, 110, 121, 44, 32, 108, 97, 109, 112, 41, 32, 123, 10, 125, 10]⟩ = x := ⟨_, rfl⟩
 have HSR := source_sm2 w4 _ (HTB.out.below HB4.out (Nat.le_refl _)) (HTA.out.below HB4.out (Nat.le_refl _)) (srcS (by decide) hs4 hr4)
 rw [hsb] at HSR
 have HSB := Lib.hid hsb
 have HSR := Lib.hid HSR
 clear hsb
 clear y0 y1 y2 y3 y4 y5 y6 y7 y8 y9 y10 y11 y12 HX3 HS3 HB3 hfr hml hw4 hba hrz
 obtain ⟨y0, y1, y2, y3, y4, y5, y6, y7, y8, y9, y10, y11, y12⟩ := u12' hx4.cell
 have HX4 := Lib.hid hx4
 have HS4 := Lib.hid hs4
 have HR4 := Lib.hid hr4
 clear hx4 hs4 hr4
 go_upto_region 5 with (go_at_call 10; (with_reducible refine HSR.out.mono ?_); rintro e w5 ⟨rfl, hb5⟩)
 have hx5 := HX4.out.below hb5
 have hs5 := HS4.out.below hb5
 have hr5 := HR4.out.below hb5
 have HB5 : Hid (Below w.heap.size w w5) := bt HB4.out hb5
 clear y0 y1 y2 y3 y4 y5 y6 y7 y8 y9 y10 y11 y12 HSR HX4 HS4 HR4 HB4
 obtain ⟨y0, y1, y2, y3, y4, y5, y6, y7, y8, y9, y10, y11, y12⟩ := u12' hx5.cell
 have hml := hx5.lt
 have hfr : w5.frozen? ⟨m, 2, none⟩ = false := Lib.frozen_of_heap hx5 2
 have HX5 := Lib.hid hx5
 have HS5 := Lib.hid hs5
 have HR5 := Lib.hid hr5
 clear hx5 hs5 hr5 hb5
 go_upto_region 6 with fail
 obtain ⟨sc, hsc⟩ : ∃ x : ByteArray, (⟨([115, 116, 111, 114, 121, 32, 34, 84, 97, 108, 101, 34, 32, 98, 121, 32, 34, 110, 111, 98, 111, 100, 121, 34, 32, 114, 101, 108, 101, 97, 115, 101, 32, 49, 32, 109, 97].append [120, 32, 48, 32, 115, 116, 97, 114, 116, 32, 104, 97, 108, 108, 59, 10, 114, 111, 111, 109, 32, 104, 97, 108, 108, 32, 34, 72, 97, 108, 108, 34, 32, 123, 10, 125, 10]).toArray⟩ : ByteArray) = x := ⟨_, rfl⟩
 rw [hsc]
 have hcs : sc.size = 74 := by rw [← hsc]; rfl
 go_upto_region 7 with fail
 obtain ⟨sd, hsd⟩ : ∃ x : ByteArray, sc ++ ⟨#[111, 110, 32, 116, 97, 107, 101, 40, 97, 110, 121, 44, 32, 108, 97, 109, 112, 41, 32, 123]⟩ = x := ⟨_, rfl⟩
 rw [hsd]
 have hac : sa = sc := by rw [← HSA.out, ← hsc]; rfl
 have hds : sd.size = 94 := by rw [← hsd, ← hsc]; rfl
 have hbs : sb.size = 97 := by rw [← HSB.out]; rfl
 have hbd : sb.extract 0 sd.size = sd := by rw [hds, ← hsd, ← hsc, ← HSB.out]; decide +kernel
 have e1 : (sa.toList == sc.toList) = true := by rw [hac]; simp
 have e2 : ((sb.extract 0 sd.size).toList == sd.toList) = true := by rw [hbd]; simp
 have e3 : decide ((sd.size : Int) < (sb.size : Int)) = true := decide_eq_true (by rw [hds, hbs]; decide)
 have hle : sd.size ≤ sb.size := by rw [hds, hbs]; decide
 have hlt : sd.size < sb.size := by rw [hds, hbs]; decide
 have hbb : sb.size ≤ 1000 := by rw [hbs]; decide
 clear hac hbd hsd hsc HSA HSB hcs hds hbs
 go_upto_region 8 with fail
 obtain ⟨w6, hw6⟩ : ∃ x, w5.setCell ⟨m, 2, none⟩ (.string ⟨#[114, 111, 111, 109]⟩) = x := ⟨_, rfl⟩
 rw [hw6]
 have hA : AwS w (w.heap.size + 1) r m w6 := by
  have hrm : r ≠ m := hrne.out
  rw [← hw6]
  exact ⟨mx_set HMX.out HB5.out hwm.out, SmAt.set HS5.out m 2 _ (by have := hwm.out; omega), SmRAt.set HR5.out m 2 _ hrm, HX5.out.set 2 _, HB5.out.setCell (p := ⟨m, 2, none⟩) (by have := hwm.out; show w.heap.size ≤ m; omega) _⟩
 have hL : ∀ b ∈ ([] : List Nat), SmAt w6 b := fun _ h => (by cases h)
 clear y0 y1 y2 y3 y4 y5 y6 y7 y8 y9 y10 y11 y12 HX5 HS5 HR5 HB5 hml hfr hw6 hwm HMX hrne
 have HSM := Lib.hid (fun W => small14_calls W)
 have HRT : Hid (∀ W b, MX W → SmAt W b → Calls Tryz.prog 35 #[.agg #[.string ⟨#[84, 97, 108, 101]⟩, .string ⟨#[110, 111, 98, 111, 100, 121]⟩, .string ⟨#[104, 97, 108, 108]⟩, .int .i64 1, .int .i64 0, .slice none 0 0, .slice none 0 0, .slice none 0 0, .slice (some ⟨b, 0, none⟩) 1 1, .slice none 0 0, .slice none 0 0, .slice none 0 0, .slice none 0 0]] W (Gives W (.bool true))) := fun W b hm h => rightY W ⟨#[84, 97, 108, 101]⟩ ⟨#[110, 111, 98, 111, 100, 121]⟩ ⟨#[104, 97, 108, 108]⟩ none 0 none 0 none 0 none 0 none 0 none 0 none 0 b hm tx_tale tx_nobody (by decide) (by decide) (by decide) nm_hall (fun W' hb => objs1 W' b (hm.below hb (Nat.le_refl _)) (h.below hb))
 have HRW : Hid (∀ W, AwS w (w.heap.size + 1) r m W → Calls Tryz.prog 35 #[.agg #[.string ⟨#[84, 97, 108, 101]⟩, .string ⟨#[110, 111, 98, 111, 100, 121]⟩, .string ⟨#[114, 111, 111, 109]⟩, .int .i64 1, .int .i64 0, .slice none 0 0, .slice none 0 0, .slice none 0 0, .slice (some ⟨w.heap.size + 1, 0, none⟩) 1 1, .slice none 0 0, .slice (some ⟨r, 0, none⟩) 1 1, .slice none 0 0, .slice none 0 0]] W (Gives W (.bool false))) := fun W h => rightN W ⟨#[84, 97, 108, 101]⟩ ⟨#[110, 111, 98, 111, 100, 121]⟩ ⟨#[114, 111, 111, 109]⟩ none 0 none 0 none 0 none 0 (some ⟨r, 0, none⟩) 1 none 0 none 0 (some ⟨w.heap.size + 1, 0, none⟩) 1 1 1 h.1 tx_tale tx_nobody (by decide) (by decide) (by decide) nm_room
 have HST : Hid (∀ W b c, SmAt W b → SmAt W c → Calls Tryz.prog 36 #[.agg #[.string ⟨#[84, 97, 108, 101]⟩, .string ⟨#[110, 111, 98, 111, 100, 121]⟩, .string ⟨#[104, 97, 108, 108]⟩, .int .i64 1, .int .i64 0, .slice none 0 0, .slice none 0 0, .slice none 0 0, .slice (some ⟨b, 0, none⟩) 1 1, .slice none 0 0, .slice none 0 0, .slice none 0 0, .slice none 0 0], .agg #[.string ⟨#[84, 97, 108, 101]⟩, .string ⟨#[110, 111, 98, 111, 100, 121]⟩, .string ⟨#[104, 97, 108, 108]⟩, .int .i64 1, .int .i64 0, .slice none 0 0, .slice none 0 0, .slice none 0 0, .slice (some ⟨c, 0, none⟩) 1 1, .slice none 0 0, .slice none 0 0, .slice none 0 0, .slice none 0 0]] W (Gives W (.bool true))) := fun W b c h k => sameY W ⟨#[84, 97, 108, 101]⟩ ⟨#[110, 111, 98, 111, 100, 121]⟩ ⟨#[104, 97, 108, 108]⟩ none 0 none 0 none 0 none 0 none 0 none 0 none 0 none 0 none 0 none 0 none 0 none 0 none 0 none 0 b c (fun W' hb => objs2 W' b c (h.below hb) (k.below hb))
 have HSF : Hid (∀ W c, AwS w (w.heap.size + 1) r m W → SmAt W c → Calls Tryz.prog 36 #[.agg #[.string ⟨#[84, 97, 108, 101]⟩, .string ⟨#[110, 111, 98, 111, 100, 121]⟩, .string ⟨#[114, 111, 111, 109]⟩, .int .i64 1, .int .i64 0, .slice none 0 0, .slice none 0 0, .slice none 0 0, .slice (some ⟨w.heap.size + 1, 0, none⟩) 1 1, .slice none 0 0, .slice (some ⟨r, 0, none⟩) 1 1, .slice none 0 0, .slice none 0 0], .agg #[.string ⟨#[84, 97, 108, 101]⟩, .string ⟨#[110, 111, 98, 111, 100, 121]⟩, .string ⟨#[104, 97, 108, 108]⟩, .int .i64 1, .int .i64 0, .slice none 0 0, .slice none 0 0, .slice none 0 0, .slice (some ⟨c, 0, none⟩) 1 1, .slice none 0 0, .slice none 0 0, .slice none 0 0, .slice none 0 0]] W (Gives W (.bool false))) := fun W c h k => sameN W ⟨#[84, 97, 108, 101]⟩ ⟨#[110, 111, 98, 111, 100, 121]⟩ ⟨#[114, 111, 111, 109]⟩ ⟨#[104, 97, 108, 108]⟩ none 0 none 0 none 0 none 0 (some ⟨r, 0, none⟩) 1 none 0 none 0 none 0 none 0 none 0 none 0 none 0 none 0 none 0 (some ⟨w.heap.size + 1, 0, none⟩) 1 1 1 (some ⟨c, 0, none⟩) 1 1 0 (by decide)
 have hA2 := hA.below (Below.refl _ w6).drew
 have hL2 : ∀ b ∈ ([] : List Nat), SmAt w6.drew b := fun _ h => (by cases h)
 clear hA hL
 have hA := hA2
 have hL := hL2
 clear hA2 hL2
 refine wp_region_held_drew (S := fun W => AwS w (w.heap.size + 1) r m W) (by kernel_rfl) hA (fun hA => ?_)
 clear hL
 refine wpAnyH_ready (rs := [0]) (by kernel_rfl) (by simp) ?_
 refine AllReadyH.cons rfl (fun K hK => ?_) AllReadyH.nil
 go_simp
 refine (HSM.out _).mono ?_
 rintro e wn1 ⟨rfl, hs1, hb1⟩
 have hA := AwS.below hA hb1
 refine hK.out _ _ hA (fun hA => ?_)
 clear hK K
 refine wpAnyH_ready (rs := [1]) (by kernel_rfl) (by simp) ?_
 refine AllReadyH.cons rfl (fun K hK => ?_) AllReadyH.nil
 go_simp
 refine (HRT.out _ _ (AwS.mx hA) hs1).mono ?_
 rintro e wn2 ⟨rfl, hb2⟩
 have hA := AwS.below hA hb2
 refine hK.out _ _ hA (fun hA => ?_)
 clear hK K
 clear hs1
 refine wpAnyH_take (i := 2) (v := .bool true) rfl (by kernel_rfl) (by kernel_rfl) (by kernel_rfl) (fun _ _ _ h => h) (Or.inl ⟨by kernel_rfl, ?_⟩) hA ?_
 · intro W hW
   go_simp
 simp only [Act.put]
 refine wpAnyH_take (i := 3) (v := .agg #[.string ⟨#[84, 97, 108, 101]⟩, .string ⟨#[110, 111, 98, 111, 100, 121]⟩, .string ⟨#[114, 111, 111, 109]⟩, .int .i64 1, .int .i64 0, .slice none 0 0, .slice none 0 0, .slice none 0 0, .slice (some ⟨w.heap.size + 1, 0, none⟩) 1 1, .slice none 0 0, .slice (some ⟨r, 0, none⟩) 1 1, .slice none 0 0, .slice none 0 0]) rfl (by kernel_rfl) (by kernel_rfl) (by kernel_rfl) (fun _ _ _ h => h) (Or.inl ⟨by kernel_rfl, ?_⟩) hA ?_
 · intro W hW
   have hW2 : AwS w (w.heap.size + 1) r m W := hW
   obtain ⟨y0, y1, y2, y3, y4, y5, y6, y7, y8, y9, y10, y11, y12⟩ := u12' hW2.2.2.2.1.cell
   go_simp
 simp only [Act.put]
 refine wpAnyH_ready (rs := [4]) (by kernel_rfl) (by simp) ?_
 refine AllReadyH.cons rfl (fun K hK => ?_) AllReadyH.nil
 go_simp
 refine (HRW.out _ hA).mono ?_
 rintro e wn3 ⟨rfl, hb3⟩
 have hA := AwS.below hA hb3
 refine hK.out _ _ hA (fun hA => ?_)
 clear hK K
 refine wpAnyH_take (i := 5) (v := .bool true) rfl (by kernel_rfl) (by kernel_rfl) (by kernel_rfl) (fun _ _ _ h => h) (Or.inl ⟨by kernel_rfl, ?_⟩) hA ?_
 · intro W hW
   go_simp
 simp only [Act.put]
 refine wpAnyH_take (i := 6) (v := .bool true) rfl (by kernel_rfl) (by kernel_rfl) (by kernel_rfl) (fun _ _ _ h => h) (Or.inl ⟨by kernel_rfl, ?_⟩) hA ?_
 · intro W hW
   go_simp
 simp only [Act.put]
 refine wpAnyH_take (i := 7) (v := .bool true) rfl (by kernel_rfl) (by kernel_rfl) (by kernel_rfl) (fun _ _ _ h => h) (Or.inl ⟨by kernel_rfl, ?_⟩) hA ?_
 · intro W hW
   go_simp
 simp only [Act.put]
 refine wpAnyH_ready (rs := [8]) (by kernel_rfl) (by simp) ?_
 refine AllReadyH.cons rfl (fun K hK => ?_) AllReadyH.nil
 go_simp
 refine (HSM.out _).mono ?_
 rintro e wn4 ⟨rfl, hs4, hb4⟩
 have hA := AwS.below hA hb4
 refine hK.out _ _ hA (fun hA => ?_)
 clear hK K
 refine wpAnyH_ready (rs := [9]) (by kernel_rfl) (by simp) ?_
 refine AllReadyH.cons rfl (fun K hK => ?_) AllReadyH.nil
 go_simp
 refine (HSM.out _).mono ?_
 rintro e wn5 ⟨rfl, hs5, hb5⟩
 have hA := AwS.below hA hb5
 have hs4 := SmAt.below hs4 hb5
 refine hK.out _ _ hA (fun hA => ?_)
 clear hK K
 refine wpAnyH_ready (rs := [10]) (by kernel_rfl) (by simp) ?_
 refine AllReadyH.cons rfl (fun K hK => ?_) AllReadyH.nil
 go_simp
 refine (HST.out _ _ _ hs4 hs5).mono ?_
 rintro e wn6 ⟨rfl, hb6⟩
 have hA := AwS.below hA hb6
 refine hK.out _ _ hA (fun hA => ?_)
 clear hK K
 clear hs4 hs5
 refine wpAnyH_take (i := 11) (v := .bool true) rfl (by kernel_rfl) (by kernel_rfl) (by kernel_rfl) (fun _ _ _ h => h) (Or.inl ⟨by kernel_rfl, ?_⟩) hA ?_
 · intro W hW
   go_simp
 simp only [Act.put]
 refine wpAnyH_take (i := 12) (v := .bool true) rfl (by kernel_rfl) (by kernel_rfl) (by kernel_rfl) (fun _ _ _ h => h) (Or.inl ⟨by kernel_rfl, ?_⟩) hA ?_
 · intro W hW
   go_simp
 simp only [Act.put]
 refine wpAnyH_take (i := 13) (v := .agg #[.string ⟨#[84, 97, 108, 101]⟩, .string ⟨#[110, 111, 98, 111, 100, 121]⟩, .string ⟨#[114, 111, 111, 109]⟩, .int .i64 1, .int .i64 0, .slice none 0 0, .slice none 0 0, .slice none 0 0, .slice (some ⟨w.heap.size + 1, 0, none⟩) 1 1, .slice none 0 0, .slice (some ⟨r, 0, none⟩) 1 1, .slice none 0 0, .slice none 0 0]) rfl (by kernel_rfl) (by kernel_rfl) (by kernel_rfl) (fun _ _ _ h => h) (Or.inl ⟨by kernel_rfl, ?_⟩) hA ?_
 · intro W hW
   have hW2 : AwS w (w.heap.size + 1) r m W := hW
   obtain ⟨y0, y1, y2, y3, y4, y5, y6, y7, y8, y9, y10, y11, y12⟩ := u12' hW2.2.2.2.1.cell
   go_simp
 simp only [Act.put]
 refine wpAnyH_ready (rs := [14]) (by kernel_rfl) (by simp) ?_
 refine AllReadyH.cons rfl (fun K hK => ?_) AllReadyH.nil
 go_simp
 refine (HSM.out _).mono ?_
 rintro e wn7 ⟨rfl, hs7, hb7⟩
 have hA := AwS.below hA hb7
 refine hK.out _ _ hA (fun hA => ?_)
 clear hK K
 refine wpAnyH_ready (rs := [15]) (by kernel_rfl) (by simp) ?_
 refine AllReadyH.cons rfl (fun K hK => ?_) AllReadyH.nil
 go_simp
 refine (HSF.out _ _ hA hs7).mono ?_
 rintro e wn8 ⟨rfl, hb8⟩
 have hA := AwS.below hA hb8
 refine hK.out _ _ hA (fun hA => ?_)
 clear hK K
 clear hs7
 refine wpAnyH_take (i := 16) (v := .bool true) rfl (by kernel_rfl) (by kernel_rfl) (by kernel_rfl) (fun _ _ _ h => h) (Or.inl ⟨by kernel_rfl, ?_⟩) hA ?_
 · intro W hW
   go_simp
 simp only [Act.put]
 refine wpAnyH_take (i := 17) (v := .bool true) rfl (by kernel_rfl) (by kernel_rfl) (by kernel_rfl) (fun _ _ _ h => h) (Or.inl ⟨by kernel_rfl, ?_⟩) hA ?_
 · intro W hW
   go_simp
 simp only [Act.put]
 refine wpAnyH_take (i := 18) (v := .bool true) rfl (by kernel_rfl) (by kernel_rfl) (by kernel_rfl) (fun _ _ _ h => h) (Or.inl ⟨by kernel_rfl, ?_⟩) hA ?_
 · intro W hW
   go_simp
 simp only [Act.put]
 refine wpAnyH_take (i := 19) (v := .string sa) rfl (by kernel_rfl) (by kernel_rfl) (by kernel_rfl) (fun _ _ _ h => h) (Or.inl ⟨by kernel_rfl, ?_⟩) hA ?_
 · intro W hW
   go_simp
 simp only [Act.put]
 refine wpAnyH_take (i := 20) (v := .string sc) rfl (by kernel_rfl) (by kernel_rfl) (by kernel_rfl) (fun _ _ _ h => h) (Or.inl ⟨by kernel_rfl, ?_⟩) hA ?_
 · intro W hW
   go_simp
 simp only [Act.put]
 refine wpAnyH_take (i := 21) (v := .bool true) rfl (by kernel_rfl) (by kernel_rfl) (by kernel_rfl) (fun _ _ _ h => h) (Or.inl ⟨by kernel_rfl, ?_⟩) hA ?_
 · intro W hW
   go_simp
 simp only [Act.put]
 refine wpAnyH_take (i := 22) (v := .bool true) rfl (by kernel_rfl) (by kernel_rfl) (by kernel_rfl) (fun _ _ _ h => h) (Or.inl ⟨by kernel_rfl, ?_⟩) hA ?_
 · intro W hW
   go_simp
 simp only [Act.put]
 refine wpAnyH_take (i := 23) (v := .bool true) rfl (by kernel_rfl) (by kernel_rfl) (by kernel_rfl) (fun _ _ _ h => h) (Or.inl ⟨by kernel_rfl, ?_⟩) hA ?_
 · intro W hW
   go_simp
 simp only [Act.put]
 refine wpAnyH_take (i := 24) (v := .string sb) rfl (by kernel_rfl) (by kernel_rfl) (by kernel_rfl) (fun _ _ _ h => h) (Or.inl ⟨by kernel_rfl, ?_⟩) hA ?_
 · intro W hW
   go_simp
 simp only [Act.put]
 refine wpAnyH_take (i := 25) (v := .int .i64 sb.size) rfl (by kernel_rfl) (by kernel_rfl) (by kernel_rfl) (fun _ _ _ h => h) (Or.inl ⟨by kernel_rfl, ?_⟩) hA ?_
 · intro W hW
   go_simp
 simp only [Act.put]
 refine wpAnyH_take (i := 26) (v := .string sd) rfl (by kernel_rfl) (by kernel_rfl) (by kernel_rfl) (fun _ _ _ h => h) (Or.inl ⟨by kernel_rfl, ?_⟩) hA ?_
 · intro W hW
   go_simp
 simp only [Act.put]
 refine wpAnyH_take (i := 27) (v := .int .i64 sd.size) rfl (by kernel_rfl) (by kernel_rfl) (by kernel_rfl) (fun _ _ _ h => h) (Or.inl ⟨by kernel_rfl, ?_⟩) hA ?_
 · intro W hW
   go_simp
 simp only [Act.put]
 refine wpAnyH_take (i := 28) (v := .bool true) rfl (by kernel_rfl) (by kernel_rfl) (by kernel_rfl) (fun _ _ _ h => h) (Or.inl ⟨by kernel_rfl, ?_⟩) hA ?_
 · intro W hW
   go_simp
   all_goals exact hlt
 simp only [Act.put]
 refine wpAnyH_take (i := 29) (v := .bool true) rfl (by kernel_rfl) (by kernel_rfl) (by kernel_rfl) (fun _ _ _ h => h) (Or.inl ⟨by kernel_rfl, ?_⟩) hA ?_
 · intro W hW
   go_simp
 simp only [Act.put]
 refine wpAnyH_take (i := 30) (v := .bool true) rfl (by kernel_rfl) (by kernel_rfl) (by kernel_rfl) (fun _ _ _ h => h) (Or.inl ⟨by kernel_rfl, ?_⟩) hA ?_
 · intro W hW
   go_simp
 simp only [Act.put]
 refine wpAnyH_take (i := 31) (v := .string sb) rfl (by kernel_rfl) (by kernel_rfl) (by kernel_rfl) (fun _ _ _ h => h) (Or.inl ⟨by kernel_rfl, ?_⟩) hA ?_
 · intro W hW
   go_simp
 simp only [Act.put]
 refine wpAnyH_take (i := 32) (v := .string sd) rfl (by kernel_rfl) (by kernel_rfl) (by kernel_rfl) (fun _ _ _ h => h) (Or.inl ⟨by kernel_rfl, ?_⟩) hA ?_
 · intro W hW
   go_simp
 simp only [Act.put]
 refine wpAnyH_take (i := 33) (v := .int .i64 sd.size) rfl (by kernel_rfl) (by kernel_rfl) (by kernel_rfl) (fun _ _ _ h => h) (Or.inl ⟨by kernel_rfl, ?_⟩) hA ?_
 · intro W hW
   go_simp
 simp only [Act.put]
 refine wpAnyH_take (i := 34) (v := .string (sb.extract 0 sd.size)) rfl (by kernel_rfl) (by kernel_rfl) (by kernel_rfl) (fun _ _ _ h => h) (Or.inl ⟨by kernel_rfl, ?_⟩) hA ?_
 · intro W hW
   go_simp
 simp only [Act.put]
 refine wpAnyH_take (i := 35) (v := .string sd) rfl (by kernel_rfl) (by kernel_rfl) (by kernel_rfl) (fun _ _ _ h => h) (Or.inl ⟨by kernel_rfl, ?_⟩) hA ?_
 · intro W hW
   go_simp
 simp only [Act.put]
 refine wpAnyH_take (i := 36) (v := .bool true) rfl (by kernel_rfl) (by kernel_rfl) (by kernel_rfl) (fun _ _ _ h => h) (Or.inl ⟨by kernel_rfl, ?_⟩) hA ?_
 · intro W hW
   go_simp
 simp only [Act.put]
 refine wpAnyH_take (i := 37) (v := .bool true) rfl (by kernel_rfl) (by kernel_rfl) (by kernel_rfl) (fun _ _ _ h => h) (Or.inl ⟨by kernel_rfl, ?_⟩) hA ?_
 · intro W hW
   go_simp
 simp only [Act.put]
 refine wpAnyH_take (i := 38) (v := .bool true) rfl (by kernel_rfl) (by kernel_rfl) (by kernel_rfl) (fun _ _ _ h => h) (Or.inl ⟨by kernel_rfl, ?_⟩) hA ?_
 · intro W hW
   go_simp
 simp only [Act.put]
 refine wpAnyH_done (by kernel_rfl) ?_ _
 go_simp
 go_wp2_with fail
 go_ret
 exact ⟨rfl, (show AwS w (w.heap.size + 1) r m _ from hA).2.2.2.2⟩
end Go.Proofs.YtdeecfkipknkbaaGreatDoor
