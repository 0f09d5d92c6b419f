/- phrase's primary at a bracket. Printed by gen-par6.py. -/
import Derived.Test.YtnbfadgclffgkaaGreatDoorPart935047cf
import Derived.Recover
import Derived.RegionTactic
import Derived.BigRegion
namespace Go.Proofs.YtnbfadgclffgkaaGreatDoor
open Go.RowKit Go.Sort
def Kept2 (b c : Nat) (w w' : World) : Prop := Below b w w' ∧ ∀ x cs T fr, w.heap[x]? = some (.cells cs T fr) → T ≠ 5 → x ≠ b → x ≠ c → w'.heap[x]? = w.heap[x]?
theorem Kept.two {b c : Nat} {w w' : World} (h : Kept b b w w') : Kept2 b c w w' := ⟨h.1, fun x cs T fr hx hT hb _ => h.2 x cs T fr hx hT hb⟩
theorem Kept2.trans {b c : Nat} {w w' w'' : World} (h : Kept2 b c w w') (k : Kept2 b c w' w'') : Kept2 b c w w'' :=
  ⟨h.1.trans k.1, fun x cs T fr hx hT hb hc => (k.2 x cs T fr ((h.2 x cs T fr hx hT hb hc).trans hx) hT hb hc).trans (h.2 x cs T fr hx hT hb hc)⟩
theorem BoxT.keep2 {w w' : World} {x b c : Nat} {cs : List Value} {T : TypeId} (h : BoxT w x cs T) (hk : Kept2 b c w w') (hT : T ≠ 5) (hb : x ≠ b) (hc : x ≠ c) : BoxT w' x cs T := (hk.2 x _ T _ h hT hb hc).trans h
theorem Kept2.five {b c : Nat} {w w' : World} {u0 u1 u2 u3 u4 : Value} (h : Kept2 b c w w') (hb : b ≤ c) : Kept2 b c w (((((w'.setCell ⟨c, 0, none⟩ u0).setCell ⟨c, 1, none⟩ u1).setCell ⟨c, 2, none⟩ u2).setCell ⟨c, 3, none⟩ u3).setCell ⟨c, 4, none⟩ u4) :=
  ⟨five9 h.1 hb, fun x cs T fr hx hT hne hxr => by
    rw [Below.heap_setCell _ ⟨c, 4, none⟩ _ x hxr, Below.heap_setCell _ ⟨c, 3, none⟩ _ x hxr, Below.heap_setCell _ ⟨c, 2, none⟩ _ x hxr, Below.heap_setCell _ ⟨c, 1, none⟩ _ x hxr, Below.heap_setCell _ ⟨c, 0, none⟩ _ x hxr]
    exact h.2 x cs T fr hx hT hne hxr⟩
theorem Kept2.atB {b c j : Nat} {w w' : World} {u : Value} (h : Kept2 b c w w') : Kept2 b c w (w'.setCell ⟨b, j, none⟩ u) :=
  ⟨h.1.setCell (p := ⟨b, j, none⟩) (Nat.le_refl _) _, fun x cs T fr hx hT hne hc => by rw [Below.heap_setCell _ ⟨b, j, none⟩ _ x hne]; exact h.2 x cs T fr hx hT hne hc⟩
theorem Kept2.drop {b c : Nat} {w w' : World} (h : Kept2 b c w w') (hc : w.heap.size ≤ c) : Kept b b w w' :=
  ⟨h.1, fun x cs T fr hx hT hb => h.2 x cs T fr hx hT hb (by
    have hlt : x < w.heap.size := by
      rcases Nat.lt_or_ge x w.heap.size with h' | h'
      · exact h'
      · simp [Array.getElem?_eq_none h'] at hx
    omega)⟩
theorem BoxT.fill {w : World} {c : Nat} {z0 z1 z2 z3 z4 u0 u1 u2 u3 u4 : Value} {T : TypeId} (h : BoxT w c [z0, z1, z2, z3, z4] T) : BoxT (((((w.setCell ⟨c, 0, none⟩ u0).setCell ⟨c, 1, none⟩ u1).setCell ⟨c, 2, none⟩ u2).setCell ⟨c, 3, none⟩ u3).setCell ⟨c, 4, none⟩ u4) c [u0, u1, u2, u3, u4] T := by
  unfold BoxT at *
  simp [World.setCell, Array.getElem?_modify, h]
set_option maxRecDepth 100000 in
set_option maxHeartbeats 4000000 in
theorem pwant_calls (w : World) (b : Nat) (v : Value) (k op : Nat) (l : List TokD) (s : ByteArray) (hk : k ≤ 1000) (hyes : isT (tokAt l k) s = true) (hp : PS w b v k op) (hl : RdL Holds.tok 5 (fun x => x < b) w l v) : Calls Tryz.prog 219 #[.pointer (some ⟨b, 0, none⟩), .string s] w (fun e w' => e = .returned (.tuple #[]) ∧ PS w' b v (k + 1) op ∧ Kept b b w w') := by
  have hc := pis_calls w b v k op l s hp hl (by omega)
  rw [hyes] at hc
  have HC := Lib.hid hc
  have HP := Lib.hid hp
  clear hc hp hl hyes
  go_enter Tryz.func219, Tryz.ntmps219
  go_upto_region 2 with (go_at_call 197; (with_reducible refine HC.out.mono ?_); rintro e w1 ⟨rfl, hb1⟩)
  have hp1 := PS.below HP.out hb1
  have hk1 : Kept b b w w1 := Kept.of hb1 (Nat.le_of_lt HP.out.lt)
  obtain ⟨z0, z1, z2⟩ := hp1.cells
  have f1 := Lib.frozen_of_heap hp1 1
  have HP1 := Lib.hid hp1
  have HK1 := Lib.hid hk1
  clear hp1 hk1 hb1
  go_wp2
  (try simp only [Exit.inBlock, Exit.then])
  refine bodyPost_end (v := .tuple #[]) (by simp [results, Tryz.results219, go_sem]) rfl ⟨rfl, ?_, HK1.out.atB⟩
  have e : ((k + 1 : Nat) : Int) = (k : Int) + 1 := by omega
  rw [PS, e]
  exact BoxT.at1 HP1.out
set_option maxRecDepth 100000 in
set_option maxHeartbeats 4000000 in
theorem inBr_calls (w : World) (m eb b : Nat) (v : Value) (k k' op : Nat) (l : List TokD) (e0 e1 e2 : Int) (e3 : ByteArray) (e4 : Option Addr) (e5 e6 : Nat) (z0 z1 z2 z3 z4 : Value) (hk' : k' ≤ 1000) (hyes : isT (tokAt l k') ⟨#[41]⟩ = true) (hd : Reads 170 b v l k k' op (.agg #[.int .i64 e0, .int .i64 e1, .int .i64 e2, .string e3, .slice e4 e5 e6])) (hm : BoxT w m [.pointer (some ⟨b, 0, none⟩)] 174) (he : BoxT w eb [z0, z1, z2, z3, z4] 73) (hbm : b < m) (hbe : b < eb) (hme : m ≠ eb) (hp : PS w b v k op) (hl : RdL Holds.tok 5 (fun x => x < b) w l v) :
    Calls Tryz.prog 218 #[.pointer (some ⟨m, 0, none⟩), .pointer (some ⟨eb, 0, none⟩)] w (fun e w' => e = .returned (.tuple #[]) ∧ PS w' b v (k' + 1) op ∧ BoxT w' eb [.int .i64 e0, .int .i64 e1, .int .i64 e2, .string e3, .slice e4 e5 e6] 73 ∧ Kept2 b eb w w') := by
  have HD := Lib.hid (hd w hp hl)
  have y0 := hm.cell 0
  simp only [cqz] at y0
  have HM := Lib.hid hm
  have HE := Lib.hid he
  have HL := Lib.hid hl
  have HBM := Lib.hid hbm
  have HBE := Lib.hid hbe
  have HME := Lib.hid hme
  clear hd hm he hp hl hbm hbe hme
  go_enter Tryz.func218, Tryz.ntmps218
  go_upto_region 1 with (go_at_call 170; (with_reducible refine HD.out.mono ?_); rintro e w1 ⟨rfl, hp1, hk1⟩; have hr6 := HE.out.keep hk1 (by decide) (Nat.ne_of_gt HBE.out); have q0 := hr6.cell 0; have q1 := hr6.cell 1; have q2 := hr6.cell 2; have q3 := hr6.cell 3; have q4 := hr6.cell 4; simp only [cqs, cqz] at q0 q1 q2 q3 q4; have f0 := Lib.frozen_of_heap hr6 0; have f1 := Lib.frozen_of_heap hr6 1; have f2 := Lib.frozen_of_heap hr6 2; have f3 := Lib.frozen_of_heap hr6 3; have f4 := Lib.frozen_of_heap hr6 4)
  obtain ⟨w2, hw2⟩ : ∃ x, ((((w1.setCell ⟨eb, 0, none⟩ (.int .i64 e0)).setCell ⟨eb, 1, none⟩ (.int .i64 e1)).setCell ⟨eb, 2, none⟩ (.int .i64 e2)).setCell ⟨eb, 3, none⟩ (.string e3)).setCell ⟨eb, 4, none⟩ (.slice e4 e5 e6) = x := ⟨_, rfl⟩
  rw [hw2]
  have hm2 : BoxT w2 m [.pointer (some ⟨b, 0, none⟩)] 174 := by rw [← hw2]; exact BoxT.five (HM.out.keep hk1 (by decide) (Nat.ne_of_gt HBM.out)) HME.out
  have he2 : BoxT w2 eb [.int .i64 e0, .int .i64 e1, .int .i64 e2, .string e3, .slice e4 e5 e6] 73 := by rw [← hw2]; exact BoxT.fill hr6
  have hp2 : PS w2 b v k' op := by rw [← hw2]; exact BoxT.five hp1 (Nat.ne_of_lt HBE.out)
  have hk2 : Kept2 b eb w w2 := by rw [← hw2]; exact Kept2.five hk1.two (Nat.le_of_lt HBE.out)
  have y1 := hm2.cell 0
  simp only [cqz] at y1
  have hl2 : RdL Holds.tok 5 (fun x => x < b) w2 l v := HL.out.keep (fun x hx => hk2.1.block x hx) (fun _ h => h)
  have HWA := Lib.hid (pwant_calls w2 b v k' op l ⟨#[41]⟩ hk' hyes hp2 hl2)
  have HE2 := Lib.hid he2
  have HK2 := Lib.hid hk2
  clear hm2 he2 hp2 hk2 hl2 hw2 q0 q1 q2 q3 q4 f0 f1 f2 f3 f4 hr6 hp1 hk1
  go_wp2_with (go_at_call 219; (with_reducible refine HWA.out.mono ?_); rintro e w3 ⟨rfl, hp3, hk3⟩)
  (try simp only [Exit.inBlock, Exit.then])
  exact bodyPost_end (v := .tuple #[]) (by simp [results, Tryz.results218, go_sem]) rfl ⟨rfl, hp3, HE2.out.keep hk3 (by decide) (Nat.ne_of_gt HBE.out), HK2.out.trans hk3.two⟩
theorem BoxT.at2 {w : World} {b : Nat} {v u x y : Value} {T : TypeId} (h : BoxT w b [v, u, x] T) : BoxT (w.setCell ⟨b, 2, none⟩ y) b [v, u, y] T := by
  unfold BoxT at *
  simp [World.setCell, Array.getElem?_modify, h]
set_option maxRecDepth 100000 in
set_option maxHeartbeats 4000000 in
theorem within_calls (w : World) (m eb b : Nat) (v : Value) (k k' op : Nat) (l : List TokD) (e0 e1 e2 : Int) (e3 : ByteArray) (e4 : Option Addr) (e5 e6 : Nat) (z0 z1 z2 z3 z4 : Value) (hop : op < 64) (hk : k ≤ 1000) (hk' : k' ≤ 1000) (hyes : isT (tokAt l k') ⟨#[41]⟩ = true) (hd : Reads 170 b v l (k + 1) k' (op + 1) (.agg #[.int .i64 e0, .int .i64 e1, .int .i64 e2, .string e3, .slice e4 e5 e6])) (hm : BoxT w m [.pointer (some ⟨b, 0, none⟩)] 174) (he : BoxT w eb [z0, z1, z2, z3, z4] 73) (hbm : b < m) (hbe : b < eb) (hme : m ≠ eb) (hp : PS w b v k op) (hl : RdL Holds.tok 5 (fun x => x < b) w l v) :
    Calls Tryz.prog 199 #[.pointer (some ⟨b, 0, none⟩), .func (.func 218) #[] #[.pointer (some ⟨m, 0, none⟩), .pointer (some ⟨eb, 0, none⟩)]] w (fun e w' => e = .returned (.tuple #[]) ∧ PS w' b v (k' + 1) op ∧ BoxT w' eb [.int .i64 e0, .int .i64 e1, .int .i64 e2, .string e3, .slice e4 e5 e6] 73 ∧ Kept2 b eb w w') := by
  have e64 : ((op : Int) == 64) = false := by rw [beq_eq_false_iff_ne]; omega
  have eop : ((op + 1 : Nat) : Int) = (op : Int) + 1 := by omega
  have ek : ((k + 1 : Nat) : Int) = (k : Int) + 1 := by omega
  obtain ⟨w2, hw2⟩ : ∃ x, (w.setCell ⟨b, 2, none⟩ (.int .i64 ((op : Int) + 1))).setCell ⟨b, 1, none⟩ (.int .i64 ((k : Int) + 1)) = x := ⟨_, rfl⟩
  have hp2 : PS w2 b v (k + 1) (op + 1) := by rw [PS, eop, ek, ← hw2]; exact BoxT.at1 (BoxT.at2 hp)
  have hk2 : Kept b b w w2 := by rw [← hw2]; exact ((Kept.refl b b w).atB).atB
  have hm2 : BoxT w2 m [.pointer (some ⟨b, 0, none⟩)] 174 := by rw [← hw2]; exact (hm.farT (Nat.ne_of_gt hbm)).farT (Nat.ne_of_gt hbm)
  have he2 : BoxT w2 eb [z0, z1, z2, z3, z4] 73 := by rw [← hw2]; exact (he.farT (Nat.ne_of_gt hbe)).farT (Nat.ne_of_gt hbe)
  have HC := Lib.hid (inBr_calls w2 m eb b v (k + 1) k' (op + 1) l e0 e1 e2 e3 e4 e5 e6 z0 z1 z2 z3 z4 hk' hyes hd hm2 he2 hbm hbe hme hp2 (hk2.toks hl))
  obtain ⟨c0, c1, c2⟩ := hp.cells
  have f1 := Lib.frozen_of_heap hp 1
  have f2 := Lib.frozen_of_heap hp 2
  have HW2 := Lib.hid hw2
  have HK2 := Lib.hid hk2
  have HBE := Lib.hid hbe
  have EOP := Lib.hid eop
  clear hd hm he hp hl hbm hbe hme hp2 hk2 hm2 he2 hw2 eop ek hyes
  go_enter Tryz.func199, Tryz.ntmps199
  go_upto_region 4 with fail
  rw [HW2.out]
  go_upto_region 5 with (go_at_call 218; (with_reducible refine HC.out.mono ?_); rintro e w3 ⟨rfl, hp3, he3, hk3⟩)
  obtain ⟨d0, d1, d2⟩ := hp3.cells
  rw [EOP.out] at d2
  have g2 := Lib.frozen_of_heap hp3 2
  have HP3 := Lib.hid hp3
  have HE3 := Lib.hid he3
  have HK3 := Lib.hid hk3
  clear hp3 he3 hk3
  go_wp2
  (try simp only [Exit.inBlock, Exit.then])
  refine bodyPost_end (v := .tuple #[]) (by simp [results, Tryz.results199, go_sem]) rfl ⟨rfl, ?_, HE3.out.farT (Nat.ne_of_gt HBE.out), (HK2.out.two.trans HK3.out).atB⟩
  rw [PS]
  exact BoxT.at2 HP3.out
set_option maxRecDepth 100000 in
set_option maxHeartbeats 4000000 in
theorem primBr_calls (b : Nat) (v : Value) (k k' op : Nat) (l : List TokD) (hk : k ≤ 1000) (e0 e1 e2 : Int) (e3 : ByteArray) (e4 : Option Addr) (e5 e6 : Nat) (hop : op < 64) (hk' : k' ≤ 1000) (hkd : (tokAt l k).kind = 5) (hyes : isT (tokAt l k) ⟨#[40]⟩ = true) (hcl : isT (tokAt l k') ⟨#[41]⟩ = true) (hd : Reads 170 b v l (k + 1) k' (op + 1) (.agg #[.int .i64 e0, .int .i64 e1, .int .i64 e2, .string e3, .slice e4 e5 e6])) : Reads 215 b v l k (k' + 1) op (.agg #[.int .i64 e0, .int .i64 e1, .int .i64 e2, .string e3, .slice e4 e5 e6]) := by
  intro w hp hl
  have hbl := hp.lt
  obtain ⟨W1, hW1⟩ : ∃ W1, w.alloc (.cells #[.pointer (some ⟨b, 0, none⟩)] 174) = W1 := ⟨_, rfl⟩
  obtain ⟨W2, hW2⟩ : ∃ W2, W1.alloc (.cells #[.int .i64 0, .int .i64 0, .int .i64 0, .string ⟨#[]⟩, .slice none 0 0] 73) = W2 := ⟨_, rfl⟩
  have hz1 : W1.heap.size = w.heap.size + 1 := by rw [← hW1]; simp
  have hb1 : Below w.heap.size w W1 := by rw [← hW1]; exact (Below.refl _ _).alloc (Nat.le_refl _) _
  have hb2 : Below W1.heap.size W1 W2 := by rw [← hW2]; exact (Below.refl _ _).alloc (Nat.le_refl _) _
  have hx1 : BoxT W1 w.heap.size [.pointer (some ⟨b, 0, none⟩)] 174 := by rw [← hW1]; exact BoxT.new _ _ _
  have hx1 := hx1.below hb2
  have hr2 : BoxT W2 W1.heap.size [.int .i64 0, .int .i64 0, .int .i64 0, .string ⟨#[]⟩, .slice none 0 0] 73 := by rw [← hW2]; exact BoxT.new _ _ _
  rw [hz1] at hr2
  have hk2 : Kept b b w W2 := (Kept.of hb1 (Nat.le_of_lt hbl)).below hb2 (by omega)
  have hp2 := PS.below (PS.below hp hb1) hb2
  have y0 := hx1.cell 0
  simp only [cqz] at y0
  have htk := ptok_calls W2 b v k op l hp2 (hk2.toks hl) (by omega)
  have HIS := Lib.hid (fun W (hp : PS W b v k op) (h : Kept b b w W) => pis_calls W b v k op l ⟨#[40]⟩ hp (h.toks hl) (by omega))
  rw [hyes] at HIS
  clear hyes
  generalize tokAt l k = t at htk hkd
  obtain ⟨t0, t1, t2, t3, t4⟩ := t
  simp only at hkd
  have HTK := Lib.hid (show Calls Tryz.prog 194 #[.pointer (some ⟨b, 0, none⟩)] W2 (Gives W2 (.agg #[.int .i64 t0, .string t1, .int .i64 t2, .int .i64 t3, .int .i64 t4])) from htk)
  have HL := Lib.hid hl
  have HX := Lib.hid hx1
  have HR := Lib.hid hr2
  have HK := Lib.hid hk2
  have HP := Lib.hid hp2
  have HW1 := Lib.hid hW1
  have HW2 := Lib.hid hW2
  have HBL := Lib.hid hbl
  subst hkd
  clear htk hp hl hz1 hb1 hb2 hx1 hr2 hk2 hp2 hW1 hW2 hbl
  go_enter Tryz.func215, Tryz.ntmps215
  go_upto_region 1 with fail
  rw [HW1.out, HW2.out]
  have hrr := HBL.out
  go_upto_region 2 with (go_at_call 194; (with_reducible refine HTK.out.mono ?_); rintro e w3 ⟨rfl, hb3⟩)
  obtain ⟨w4, hw4⟩ : ∃ x, w3.alloc (.cells #[.int .i64 5, .string t1, .int .i64 t2, .int .i64 t3, .int .i64 t4] 53) = x := ⟨_, rfl⟩
  rw [hw4]
  have hb4 : Below W2.heap.size W2 w4 := by rw [← hw4]; exact hb3.alloc hb3.size _
  have ht4 : BoxT w4 w3.heap.size [.int .i64 5, .string t1, .int .i64 t2, .int .i64 t3, .int .i64 t4] 53 := by rw [← hw4]; exact BoxT.new _ _ _
  have hb3s := hb3.size
  clear hw4 hb3 y0
  go_upto_region 4 with fail
  obtain ⟨w5, hw5⟩ : ∃ x, w4.alloc (.cells #[.int .i64 0, .int .i64 0, .int .i64 0, .string ⟨#[]⟩, .slice none 0 0] 73) = x := ⟨_, rfl⟩
  rw [hw5]
  have hb45 : Below w4.heap.size w4 w5 := by rw [← hw5]; exact (Below.refl _ _).alloc (Nat.le_refl _) _
  have hb5 := bt hb4 hb45
  have HEB : Hid (BoxT w5 w4.heap.size [.int .i64 0, .int .i64 0, .int .i64 0, .string ⟨#[]⟩, .slice none 0 0] 73) := by show BoxT _ _ _ _; rw [← hw5]; exact BoxT.new _ _ _
  have hw4s : w.heap.size + 1 < w4.heap.size := by have h1 := hb4.size; have h2 := HR.out.lt; omega
  have ht5 := ht4.below hb45
  have hx5 := HX.out.below hb5
  have hp5 := PS.below HP.out hb5
  have hr5 := HR.out.below hb5
  have hk5 := HK.out.below hb5 (Nat.le_of_lt HP.out.lt)
  have y0 := hx5.cell 0
  simp only [cqz] at y0
  have m0 := ht5.cell 0
  have m1 := ht5.cell 1
  have m2 := ht5.cell 2
  have m3 := ht5.cell 3
  have m4 := ht5.cell 4
  simp only [cqs, cqz] at m0 m1 m2 m3 m4
  obtain ⟨z0, z1, z2⟩ := hp5.cells
  have f1 := Lib.frozen_of_heap hp5 1
  have hne3 : w3.heap.size ≠ b := by have := HP.out.lt; omega
  have HT5 := Lib.hid ht5
  have HX5 := Lib.hid hx5
  have HP5 := Lib.hid hp5
  have HR5 := Lib.hid hr5
  have HK5 := Lib.hid hk5
  clear ht4 ht5 hx5 hp5 hr5 hk5 hb45 hb4 hb5 hw5
  have hmf : ∀ (fn : Fn) (first cap : Array Value) (w : World), (Instr.makeFunc fn first cap).run Tryz.prog w = .ok (.func fn first cap) w := fun _ _ _ _ => rfl
  have he5 : BoxT w5 w4.heap.size [.int .i64 0, .int .i64 0, .int .i64 0, .string ⟨#[]⟩, .slice none 0 0] 73 := HEB.out
  have HIS5 := Lib.hid (HIS.out w5 HP5.out HK5.out)
  go_upto_region 14 with (go_at_call 197; (with_reducible refine HIS5.out.mono ?_); rintro e w7 ⟨rfl, hb7⟩)
  have hp7 := PS.below HP5.out hb7
  have hk7 := HK5.out.below hb7 (Nat.le_of_lt HP5.out.lt)
  have hx7 := HX5.out.below hb7
  have he7 := he5.below hb7
  have hr7 := HR5.out.below hb7
  have y1 := hx7.cell 0
  simp only [cqz] at y1
  have hwb := HP.out.lt
  have hw4 : w.heap.size + 1 < w4.heap.size := by omega
  have HWI := Lib.hid (within_calls w7 w.heap.size w4.heap.size b v k k' op l e0 e1 e2 e3 e4 e5 e6 _ _ _ _ _ hop hk hk' hcl hd hx7 he7 hrr (by omega) (by omega) hp7 (hk7.toks HL.out))
  have HK7 := Lib.hid hk7
  have HR7 := Lib.hid hr7
  have HW4 := Lib.hid hw4
  clear hp7 hk7 hx7 he7 hr7 he5 hd hcl hb7
  go_upto_region 15 with (go_at_call 199; (with_reducible refine HWI.out.mono ?_); rintro e w8 ⟨rfl, hp8, he8, hk8⟩)
  have hr6 := HR7.out.keep2 hk8 (by decide) (by omega) (by have := HW4.out; omega)
  have g0 := he8.cell 0
  have g1 := he8.cell 1
  have g2 := he8.cell 2
  have g3 := he8.cell 3
  have g4 := he8.cell 4
  simp only [cqs, cqz] at g0 g1 g2 g3 g4
  have q0 := hr6.cell 0; have q1 := hr6.cell 1; have q2 := hr6.cell 2; have q3 := hr6.cell 3; have q4 := hr6.cell 4; simp only [cqs, cqz] at q0 q1 q2 q3 q4; have f0 := Lib.frozen_of_heap hr6 0; have f1 := Lib.frozen_of_heap hr6 1; have f2 := Lib.frozen_of_heap hr6 2; have f3 := Lib.frozen_of_heap hr6 3; have f4 := Lib.frozen_of_heap hr6 4
  have HP8 := Lib.hid hp8
  have HK8 : Hid (Kept b b w w8) := (HK7.out.two.trans hk8).drop (by have := HW4.out; omega)
  clear hp8 he8 hk8 hr6
  go_wp2
  (try simp only [Exit.inBlock, Exit.then])
  exact bodyPost_ret (v := .agg #[.int .i64 e0, .int .i64 e1, .int .i64 e2, .string e3, .slice e4 e5 e6]) (by simp [results, Tryz.results215, go_sem, q0, q1, q2, q3, q4]) rfl ⟨rfl, BoxT.five HP8.out (by omega), HK8.out.five (by omega) (by omega)⟩
end Go.Proofs.YtnbfadgclffgkaaGreatDoor
/- phrase.Parse, where nothing is thrown. Printed by gen-par7.py. -/
namespace Go.Proofs.YtnbfadgclffgkaaGreatDoor
open Go.RowKit Go.Sort
theorem pcaught_idle (p q r : Value) (w : World) : CallsD Tryz.prog 169 #[p, q, r] .returning w fun e u' w' => e = .returned (.tuple #[]) ∧ u' = .returning ∧ w' = w := by
  refine callsD_of_wpS Tryz.func169 rfl fun c₀ cs hu => ?_
  apply wpS_seq
  apply wpS_region
  simp [wpOpsS, go_sem, recoverD, hu, Tryz.ntmps169, Exit.thenS]
  refine wpS_of_wp ?_
  simp only [Array.replicate_succ, Array.replicate_zero, List.push_toArray, List.setIfInBounds_toArray, List.set_cons_succ, List.set_cons_zero, List.append_toArray, List.nil_append, List.cons_append]
  go_wp2
  cases c₀
  simp_all [bodyPostS, results, Tryz.results169]
theorem leaves_done {P : Program} {fn : Func} {tmps : Array Value} {R : Ending → World → Prop} {w : World} {v : Value} (h : (results fn tmps).run P w = .ok v w) (hR : R (.returned v) w) : Leaves P fn tmps R [] .returning w := ⟨v, h, hR⟩
set_option maxRecDepth 100000 in
set_option maxHeartbeats 4000000 in
theorem pparse_calls (w : World) (v : Value) (k' : Nat) (l : List TokD) (e0 e1 e2 : Int) (e3 : ByteArray) (e4 : Option Addr) (e5 e6 : Nat) (hl : RdL Holds.tok 5 (fun x => x < w.heap.size) w l v) (hd : ∀ b, Reads 170 b v l 0 k' 0 (.agg #[.int .i64 e0, .int .i64 e1, .int .i64 e2, .string e3, .slice e4 e5 e6])) :
    Calls Tryz.prog 163 #[v] w (Gives w (.tuple #[.agg #[.int .i64 e0, .int .i64 e1, .int .i64 e2, .string e3, .slice e4 e5 e6], .int .i64 k', .agg #[.int .i64 0, .int .i64 0, .int .i64 0]])) := by
  have hmf : ∀ (fn : Fn) (first cap : Array Value) (w : World), (Instr.makeFunc fn first cap).run Tryz.prog w = .ok (.func fn first cap) w := fun _ _ _ _ => rfl
  obtain ⟨a, cap, hv⟩ := hl.shape
  obtain ⟨W1, hW1⟩ : ∃ x, w.alloc (.cells #[.int .i64 0, .int .i64 0, .int .i64 0, .string ⟨#[]⟩, .slice none 0 0] 73) = x := ⟨_, rfl⟩
  obtain ⟨W2, hW2⟩ : ∃ x, W1.alloc (.cells #[.int .i64 0] 3) = x := ⟨_, rfl⟩
  obtain ⟨W3, hW3⟩ : ∃ x, W2.alloc (.cells #[.int .i64 0, .int .i64 0, .int .i64 0] 36) = x := ⟨_, rfl⟩
  obtain ⟨W4, hW4⟩ : ∃ x, W3.alloc (.cells #[v, .int .i64 0, .int .i64 0] 176) = x := ⟨_, rfl⟩
  have hz1 : W1.heap.size = w.heap.size + 1 := by rw [← hW1]; simp
  have hz2 : W2.heap.size = w.heap.size + 2 := by rw [← hW2]; simp [hz1]
  have hz3 : W3.heap.size = w.heap.size + 3 := by rw [← hW3]; simp [hz2]
  have hb1 : Below w.heap.size w W1 := by rw [← hW1]; exact (Below.refl _ _).alloc (Nat.le_refl _) _
  have hb2 : Below W1.heap.size W1 W2 := by rw [← hW2]; exact (Below.refl _ _).alloc (Nat.le_refl _) _
  have hb3 : Below W2.heap.size W2 W3 := by rw [← hW3]; exact (Below.refl _ _).alloc (Nat.le_refl _) _
  have hb4 : Below W3.heap.size W3 W4 := by rw [← hW4]; exact (Below.refl _ _).alloc (Nat.le_refl _) _
  have hx1 : BoxT W1 w.heap.size [.int .i64 0, .int .i64 0, .int .i64 0, .string ⟨#[]⟩, .slice none 0 0] 73 := by rw [← hW1]; exact BoxT.new _ _ _
  have hx2 : BoxT W2 (w.heap.size + 1) [.int .i64 0] 3 := by rw [← hz1, ← hW2]; exact BoxT.new _ _ _
  have hx3 : BoxT W3 (w.heap.size + 2) [.int .i64 0, .int .i64 0, .int .i64 0] 36 := by rw [← hz2, ← hW3]; exact BoxT.new _ _ _
  have hp4 : PS W4 (w.heap.size + 3) v 0 0 := by rw [← hz3, ← hW4]; exact BoxT.new _ _ _
  have hx1 := ((hx1.below hb2).below hb3).below hb4
  have hx2 := (hx2.below hb3).below hb4
  have hx3 := hx3.below hb4
  have hB4 : Below w.heap.size w W4 := ((bt hb1 hb2).trans (hb3.mono (by omega))).trans (hb4.mono (by omega))
  have hl4 : RdL Holds.tok 5 (fun x => x < w.heap.size + 3) W4 l v := hl.keep (fun x hx => hB4.block x hx) (fun x hx => by omega)
  have HD := Lib.hid (hd (w.heap.size + 3) W4 hp4 hl4)
  have HX1 := Lib.hid hx1
  have HX2 := Lib.hid hx2
  have HX3 := Lib.hid hx3
  have HB4 := Lib.hid hB4
  have HW1 := Lib.hid hW1
  have HW2 := Lib.hid hW2
  have HW3 := Lib.hid hW3
  have HW4 := Lib.hid hW4
  clear hx1 hx2 hx3 hB4 hW1 hW2 hW3 hW4 hz1 hz2 hz3 hb1 hb2 hb3 hb4 hp4 hl4 hd hl
  subst hv
  go_enter_defers Tryz.func163, Tryz.ntmps163
  go_upto_region 3 with fail
  rw [HW1.out, HW2.out, HW3.out, HW4.out]
  go_upto_region 4 with (go_at_call 170; (with_reducible refine HD.out.mono ?_); rintro e w5 ⟨rfl, hp5, hk5⟩; have hr6 := HX1.out.keep hk5 (by decide) (by omega); have q0 := hr6.cell 0; have q1 := hr6.cell 1; have q2 := hr6.cell 2; have q3 := hr6.cell 3; have q4 := hr6.cell 4; simp only [cqs, cqz] at q0 q1 q2 q3 q4; have f0 := Lib.frozen_of_heap hr6 0; have f1 := Lib.frozen_of_heap hr6 1; have f2 := Lib.frozen_of_heap hr6 2; have f3 := Lib.frozen_of_heap hr6 3; have f4 := Lib.frozen_of_heap hr6 4)
  have hx2 := HX2.out.keep hk5 (by decide) (by omega)
  have hx3 := HX3.out.keep hk5 (by decide) (by omega)
  obtain ⟨w6, hw6⟩ : ∃ x, ((((w5.setCell ⟨w.heap.size, 0, none⟩ (.int .i64 e0)).setCell ⟨w.heap.size, 1, none⟩ (.int .i64 e1)).setCell ⟨w.heap.size, 2, none⟩ (.int .i64 e2)).setCell ⟨w.heap.size, 3, none⟩ (.string e3)).setCell ⟨w.heap.size, 4, none⟩ (.slice e4 e5 e6) = x := ⟨_, rfl⟩
  rw [hw6]
  have hp6 : PS w6 (w.heap.size + 3) (.slice a l.length cap) k' 0 := by rw [← hw6]; exact BoxT.five hp5 (by omega)
  have hr6' : BoxT w6 w.heap.size [.int .i64 e0, .int .i64 e1, .int .i64 e2, .string e3, .slice e4 e5 e6] 73 := by rw [← hw6]; exact BoxT.fill hr6
  have hx2' : BoxT w6 (w.heap.size + 1) [.int .i64 0] 3 := by rw [← hw6]; exact BoxT.five hx2 (by omega)
  have hx3' : BoxT w6 (w.heap.size + 2) [.int .i64 0, .int .i64 0, .int .i64 0] 36 := by rw [← hw6]; exact BoxT.five hx3 (by omega)
  have hB6 : Below w.heap.size w w6 := by rw [← hw6]; exact five9 (HB4.out.trans (hk5.1.mono (by omega))) (Nat.le_refl _)
  clear q0 q1 q2 q3 q4 f0 f1 f2 f3 f4 hr6 hx2 hx3 hw6 hp5 hk5
  obtain ⟨y0, y1, y2⟩ := hp6.cells
  have q0 := hr6'.cell 0
  have q1 := hr6'.cell 1
  have q2 := hr6'.cell 2
  have q3 := hr6'.cell 3
  have q4 := hr6'.cell 4
  simp only [cqs, cqz] at q0 q1 q2 q3 q4
  have r0 := hx2'.cell 0
  simp only [cqz] at r0
  have s0 := hx3'.cell 0
  have s1 := hx3'.cell 1
  have s2 := hx3'.cell 2
  simp only [cqs, cqz] at s0 s1 s2
  have f0 := Lib.frozen_of_heap hr6' 0
  have f1 := Lib.frozen_of_heap hr6' 1
  have f2 := Lib.frozen_of_heap hr6' 2
  have f3 := Lib.frozen_of_heap hr6' 3
  have f4 := Lib.frozen_of_heap hr6' 4
  have g0 := Lib.frozen_of_heap hx2' 0
  have j0 := Lib.frozen_of_heap hx3' 0
  have j1 := Lib.frozen_of_heap hx3' 1
  have j2 := Lib.frozen_of_heap hx3' 2
  have HB6 := Lib.hid hB6
  clear hp6 hr6' hx2' hx3' hB6
  go_region
  go_wp2
  refine leaves_cons (f := 169) (args := #[.pointer (some ⟨w.heap.size, 0, none⟩), .pointer (some ⟨w.heap.size + 1, 0, none⟩), .pointer (some ⟨w.heap.size + 2, 0, none⟩)]) (by simp) (by simp [go_sem]) ?_
  refine (pcaught_idle _ _ _ _).mono ?_
  rintro e u' w'' ⟨rfl, rfl, rfl⟩
  refine leaves_done (v := .tuple #[.agg #[.int .i64 e0, .int .i64 e1, .int .i64 e2, .string e3, .slice e4 e5 e6], .int .i64 k', .agg #[.int .i64 0, .int .i64 0, .int .i64 0]]) ?_ ⟨rfl, ?_⟩
  · simp [results, Tryz.results163, go_sem, q0, q1, q2, q3, q4, r0, s0, s1, s2]
  · exact Below.drew (((((five9 HB6.out (Nat.le_refl _)).setCell (p := ⟨w.heap.size + 1, 0, none⟩) (Nat.le_succ _) _).setCell (p := ⟨w.heap.size + 1 + 1, 0, none⟩) (Nat.le_add_right _ 2) _).setCell (p := ⟨w.heap.size + 1 + 1, 1, none⟩) (Nat.le_add_right _ 2) _).setCell (p := ⟨w.heap.size + 1 + 1, 2, none⟩) (Nat.le_add_right _ 2) _)
end Go.Proofs.YtnbfadgclffgkaaGreatDoor
