/- phrase's asked and expr, where no operator stands. Printed by gen-par4.py. -/
import Derived.Test.YtnbfadgclffgkaaGreatDoorPartf5596ba9
import Derived.Laws.EntriesVeiled
namespace Go.Proofs.YtnbfadgclffgkaaGreatDoor
open Go.RowKit Go.Sort
def ReadsC (fn m b : Nat) (v : Value) (l : List TokD) (k k' op : Nat) (V : Value) : Prop := ∀ W, BoxT W m [.pointer (some ⟨b, 0, none⟩)] 174 → PS W b v k op → RdL Holds.tok 5 (fun x => x < b) W l v → Calls Tryz.prog fn #[.pointer (some ⟨m, 0, none⟩)] W (PaQ W b v k' op V)
set_option maxRecDepth 100000 in
set_option maxHeartbeats 4000000 in
theorem sumsIn_calls (m b : Nat) (v : Value) (k k' op : Nat) (l : List TokD) (e0 e1 e2 : Int) (e3 : ByteArray) (e4 : Option Addr) (e5 e6 : Nat) (hk' : k' ≤ 100000) (ht : opNone (tokAt l k')) (hd : Reads 210 b v l k k' op (.agg #[.int .i64 e0, .int .i64 e1, .int .i64 e2, .string e3, .slice e4 e5 e6])) : ReadsC 209 m b v l k k' op (.agg #[.int .i64 e0, .int .i64 e1, .int .i64 e2, .string e3, .slice e4 e5 e6]) := by
  intro w hm hp hl
  have hbl := hp.lt
  have hmf : ∀ (fn : Fn) (first cap : Array Value) (w : World), (Instr.makeFunc fn first cap).run Tryz.prog w = .ok (.func fn first cap) w := fun _ _ _ _ => rfl
  obtain ⟨W1, hW1⟩ : ∃ W1, w.alloc (.cells #[.int .i64 0, .int .i64 0, .int .i64 0, .string ⟨#[]⟩, .slice none 0 0] 73) = W1 := ⟨_, rfl⟩
  have hb1 : Below w.heap.size w W1 := by rw [← hW1]; exact (Below.refl _ _).alloc (Nat.le_refl _) _
  have hr1 : BoxT W1 w.heap.size [.int .i64 0, .int .i64 0, .int .i64 0, .string ⟨#[]⟩, .slice none 0 0] 73 := by rw [← hW1]; exact BoxT.new _ _ _
  have hk1 : Kept b b w W1 := Kept.of hb1 (Nat.le_of_lt hbl)
  have hp1 := PS.below hp hb1
  have hm1 := hm.below hb1
  have y0 := hm1.cell 0
  simp only [cqz] at y0
  have hch := chain0_calls W1 b v k k' op l 6 210 #[.pointer (some ⟨b, 0, none⟩)] #[] e0 e1 e2 e3 e4 e5 e6 hp1 (hk1.toks hl) hk' ht (by decide) (fun _ _ => by kernel_rfl) (fun W hW => by
    have hpW := PS.below hp1 hW
    have hlW := (hk1.below hW (Nat.le_of_lt hp1.lt)).toks hl
    exact hd W hpW hlW)
  have HCH := Lib.hid hch
  have HR := Lib.hid hr1
  have HK := Lib.hid hk1
  have HW1 := Lib.hid hW1
  have HBL := Lib.hid hbl
  clear hch hd hp hl hb1 hr1 hk1 hp1 hW1 hm hm1 ht hbl
  go_enter Tryz.func209, Tryz.ntmps209
  go_upto_region 1 with fail
  rw [HW1.out]
  have hrr := HBL.out
  go_wp2_with (go_at_call 182; (with_reducible refine HCH.out.mono ?_); rintro e w6 ⟨rfl, hp6, hk6⟩; have hr6 := HR.out.keep hk6 (by decide) (by omega); have q0 := hr6.cell 0; have q1 := hr6.cell 1; have q2 := hr6.cell 2; have q3 := hr6.cell 3; have q4 := hr6.cell 4; simp only [cqs, cqz] at q0 q1 q2 q3 q4; have f0 := Lib.frozen_of_heap hr6 0; have f1 := Lib.frozen_of_heap hr6 1; have f2 := Lib.frozen_of_heap hr6 2; have f3 := Lib.frozen_of_heap hr6 3; have f4 := Lib.frozen_of_heap hr6 4)
  (try simp only [Exit.inBlock, Exit.then])
  exact bodyPost_ret (v := .agg #[.int .i64 e0, .int .i64 e1, .int .i64 e2, .string e3, .slice e4 e5 e6]) (by simp [results, Tryz.results209, go_sem, q0, q1, q2, q3, q4]) rfl ⟨rfl, BoxT.five hp6 (by omega), (HK.out.trans hk6).five (by omega) (by omega)⟩
set_option maxRecDepth 100000 in
set_option maxHeartbeats 4000000 in
theorem sums_calls (m b : Nat) (v : Value) (k k' op : Nat) (l : List TokD) (e0 e1 e2 : Int) (e3 : ByteArray) (e4 : Option Addr) (e5 e6 : Nat) (hk' : k' ≤ 100000) (ht : opNone (tokAt l k')) (hd : ReadsC 209 m b v l k k' op (.agg #[.int .i64 e0, .int .i64 e1, .int .i64 e2, .string e3, .slice e4 e5 e6])) : ReadsC 208 m b v l k k' op (.agg #[.int .i64 e0, .int .i64 e1, .int .i64 e2, .string e3, .slice e4 e5 e6]) := by
  intro w hm hp hl
  have hbl := hp.lt
  have hmf : ∀ (fn : Fn) (first cap : Array Value) (w : World), (Instr.makeFunc fn first cap).run Tryz.prog w = .ok (.func fn first cap) w := fun _ _ _ _ => rfl
  obtain ⟨W1, hW1⟩ : ∃ W1, w.alloc (.cells #[.int .i64 0, .int .i64 0, .int .i64 0, .string ⟨#[]⟩, .slice none 0 0] 73) = W1 := ⟨_, rfl⟩
  have hb1 : Below w.heap.size w W1 := by rw [← hW1]; exact (Below.refl _ _).alloc (Nat.le_refl _) _
  have hr1 : BoxT W1 w.heap.size [.int .i64 0, .int .i64 0, .int .i64 0, .string ⟨#[]⟩, .slice none 0 0] 73 := by rw [← hW1]; exact BoxT.new _ _ _
  have hk1 : Kept b b w W1 := Kept.of hb1 (Nat.le_of_lt hbl)
  have hp1 := PS.below hp hb1
  have hm1 := hm.below hb1
  have y0 := hm1.cell 0
  simp only [cqz] at y0
  have hch := chain0_calls W1 b v k k' op l 5 209 #[] #[.pointer (some ⟨m, 0, none⟩)] e0 e1 e2 e3 e4 e5 e6 hp1 (hk1.toks hl) hk' ht (by decide) (fun _ _ => by kernel_rfl) (fun W hW => by
    have hpW := PS.below hp1 hW
    have hlW := (hk1.below hW (Nat.le_of_lt hp1.lt)).toks hl
    exact hd W (hm1.below hW) hpW hlW)
  have HCH := Lib.hid hch
  have HR := Lib.hid hr1
  have HK := Lib.hid hk1
  have HW1 := Lib.hid hW1
  have HBL := Lib.hid hbl
  clear hch hd hp hl hb1 hr1 hk1 hp1 hW1 hm hm1 ht hbl
  go_enter Tryz.func208, Tryz.ntmps208
  go_upto_region 1 with fail
  rw [HW1.out]
  have hrr := HBL.out
  go_wp2_with (go_at_call 182; (with_reducible refine HCH.out.mono ?_); rintro e w6 ⟨rfl, hp6, hk6⟩; have hr6 := HR.out.keep hk6 (by decide) (by omega); have q0 := hr6.cell 0; have q1 := hr6.cell 1; have q2 := hr6.cell 2; have q3 := hr6.cell 3; have q4 := hr6.cell 4; simp only [cqs, cqz] at q0 q1 q2 q3 q4; have f0 := Lib.frozen_of_heap hr6 0; have f1 := Lib.frozen_of_heap hr6 1; have f2 := Lib.frozen_of_heap hr6 2; have f3 := Lib.frozen_of_heap hr6 3; have f4 := Lib.frozen_of_heap hr6 4)
  (try simp only [Exit.inBlock, Exit.then])
  exact bodyPost_ret (v := .agg #[.int .i64 e0, .int .i64 e1, .int .i64 e2, .string e3, .slice e4 e5 e6]) (by simp [results, Tryz.results208, go_sem, q0, q1, q2, q3, q4]) rfl ⟨rfl, BoxT.five hp6 (by omega), (HK.out.trans hk6).five (by omega) (by omega)⟩
set_option maxRecDepth 100000 in
set_option maxHeartbeats 4000000 in
theorem exprIn_calls (m b : Nat) (v : Value) (k k' op : Nat) (l : List TokD) (e0 e1 e2 : Int) (e3 : ByteArray) (e4 : Option Addr) (e5 e6 : Nat) (hk' : k' ≤ 100000) (ht : opNone (tokAt l k')) (hd : Reads 184 b v l k k' op (.agg #[.int .i64 e0, .int .i64 e1, .int .i64 e2, .string e3, .slice e4 e5 e6])) : ReadsC 183 m b v l k k' op (.agg #[.int .i64 e0, .int .i64 e1, .int .i64 e2, .string e3, .slice e4 e5 e6]) := by
  intro w hm hp hl
  have hbl := hp.lt
  have hmf : ∀ (fn : Fn) (first cap : Array Value) (w : World), (Instr.makeFunc fn first cap).run Tryz.prog w = .ok (.func fn first cap) w := fun _ _ _ _ => rfl
  obtain ⟨W1, hW1⟩ : ∃ W1, w.alloc (.cells #[.int .i64 0, .int .i64 0, .int .i64 0, .string ⟨#[]⟩, .slice none 0 0] 73) = W1 := ⟨_, rfl⟩
  have hb1 : Below w.heap.size w W1 := by rw [← hW1]; exact (Below.refl _ _).alloc (Nat.le_refl _) _
  have hr1 : BoxT W1 w.heap.size [.int .i64 0, .int .i64 0, .int .i64 0, .string ⟨#[]⟩, .slice none 0 0] 73 := by rw [← hW1]; exact BoxT.new _ _ _
  have hk1 : Kept b b w W1 := Kept.of hb1 (Nat.le_of_lt hbl)
  have hp1 := PS.below hp hb1
  have hm1 := hm.below hb1
  have y0 := hm1.cell 0
  simp only [cqz] at y0
  have hch := chain0_calls W1 b v k k' op l 2 184 #[.pointer (some ⟨b, 0, none⟩)] #[] e0 e1 e2 e3 e4 e5 e6 hp1 (hk1.toks hl) hk' ht (by decide) (fun _ _ => by kernel_rfl) (fun W hW => by
    have hpW := PS.below hp1 hW
    have hlW := (hk1.below hW (Nat.le_of_lt hp1.lt)).toks hl
    exact hd W hpW hlW)
  have HCH := Lib.hid hch
  have HR := Lib.hid hr1
  have HK := Lib.hid hk1
  have HW1 := Lib.hid hW1
  have HBL := Lib.hid hbl
  clear hch hd hp hl hb1 hr1 hk1 hp1 hW1 hm hm1 ht hbl
  go_enter Tryz.func183, Tryz.ntmps183
  go_upto_region 1 with fail
  rw [HW1.out]
  have hrr := HBL.out
  go_wp2_with (go_at_call 182; (with_reducible refine HCH.out.mono ?_); rintro e w6 ⟨rfl, hp6, hk6⟩; have hr6 := HR.out.keep hk6 (by decide) (by omega); have q0 := hr6.cell 0; have q1 := hr6.cell 1; have q2 := hr6.cell 2; have q3 := hr6.cell 3; have q4 := hr6.cell 4; simp only [cqs, cqz] at q0 q1 q2 q3 q4; have f0 := Lib.frozen_of_heap hr6 0; have f1 := Lib.frozen_of_heap hr6 1; have f2 := Lib.frozen_of_heap hr6 2; have f3 := Lib.frozen_of_heap hr6 3; have f4 := Lib.frozen_of_heap hr6 4)
  (try simp only [Exit.inBlock, Exit.then])
  exact bodyPost_ret (v := .agg #[.int .i64 e0, .int .i64 e1, .int .i64 e2, .string e3, .slice e4 e5 e6]) (by simp [results, Tryz.results183, go_sem, q0, q1, q2, q3, q4]) rfl ⟨rfl, BoxT.five hp6 (by omega), (HK.out.trans hk6).five (by omega) (by omega)⟩
set_option maxRecDepth 100000 in
set_option maxHeartbeats 4000000 in
theorem expr0_calls (b : Nat) (v : Value) (k k' op : Nat) (l : List TokD) (e0 e1 e2 : Int) (e3 : ByteArray) (e4 : Option Addr) (e5 e6 : Nat) (hk' : k' ≤ 100000) (ht : opNone (tokAt l k')) (hd : Reads 184 b v l k k' op (.agg #[.int .i64 e0, .int .i64 e1, .int .i64 e2, .string e3, .slice e4 e5 e6])) : Reads 170 b v l k k' op (.agg #[.int .i64 e0, .int .i64 e1, .int .i64 e2, .string e3, .slice e4 e5 e6]) := by
  intro w hp hl
  have hbl := hp.lt
  have hmf : ∀ (fn : Fn) (first cap : Array Value) (w : World), (Instr.makeFunc fn first cap).run Tryz.prog w = .ok (.func fn first cap) w := fun _ _ _ _ => rfl
  obtain ⟨W1, hW1⟩ : ∃ W1, w.alloc (.cells #[.pointer (some ⟨b, 0, none⟩)] 174) = W1 := ⟨_, rfl⟩
  obtain ⟨W2, hW2⟩ : ∃ W2, W1.alloc (.cells #[.int .i64 0, .int .i64 0, .int .i64 0, .string ⟨#[]⟩, .slice none 0 0] 73) = W2 := ⟨_, rfl⟩
  have hz1 : W1.heap.size = w.heap.size + 1 := by rw [← hW1]; simp
  have hb1 : Below w.heap.size w W1 := by rw [← hW1]; exact (Below.refl _ _).alloc (Nat.le_refl _) _
  have hb2 : Below W1.heap.size W1 W2 := by rw [← hW2]; exact (Below.refl _ _).alloc (Nat.le_refl _) _
  have hx1 : BoxT W1 w.heap.size [.pointer (some ⟨b, 0, none⟩)] 174 := by rw [← hW1]; exact BoxT.new _ _ _
  have hx1 := hx1.below hb2
  have hr2 : BoxT W2 W1.heap.size [.int .i64 0, .int .i64 0, .int .i64 0, .string ⟨#[]⟩, .slice none 0 0] 73 := by rw [← hW2]; exact BoxT.new _ _ _
  rw [hz1] at hr2
  have hk2 : Kept b b w W2 := (Kept.of hb1 (Nat.le_of_lt hbl)).below hb2 (by omega)
  have hp2 := PS.below (PS.below hp hb1) hb2
  have y0 := hx1.cell 0
  simp only [cqz] at y0
  have hch := chain0_calls W2 b v k k' op l 1 183 #[] #[.pointer (some ⟨w.heap.size, 0, none⟩)] e0 e1 e2 e3 e4 e5 e6 hp2 (hk2.toks hl) hk' ht (by decide) (fun _ _ => by kernel_rfl) (fun W hW => exprIn_calls w.heap.size b v k k' op l e0 e1 e2 e3 e4 e5 e6 hk' ht hd W (hx1.below hW) (PS.below hp2 hW) ((hk2.below hW (Nat.le_of_lt hp2.lt)).toks hl))
  have HCH := Lib.hid hch
  have HR := Lib.hid hr2
  have HK := Lib.hid hk2
  have HW1 := Lib.hid hW1
  have HW2 := Lib.hid hW2
  have HBL := Lib.hid hbl
  clear hch hd hp hl hz1 hb1 hb2 hx1 hr2 hk2 hp2 hW1 hW2 ht hbl
  go_enter Tryz.func170, Tryz.ntmps170
  go_upto_region 1 with fail
  rw [HW1.out, HW2.out]
  have hrr := HBL.out
  go_wp2_with (go_at_call 182; (with_reducible refine HCH.out.mono ?_); rintro e w6 ⟨rfl, hp6, hk6⟩; have hr6 := HR.out.keep hk6 (by decide) (by omega); have q0 := hr6.cell 0; have q1 := hr6.cell 1; have q2 := hr6.cell 2; have q3 := hr6.cell 3; have q4 := hr6.cell 4; simp only [cqs, cqz] at q0 q1 q2 q3 q4; have f0 := Lib.frozen_of_heap hr6 0; have f1 := Lib.frozen_of_heap hr6 1; have f2 := Lib.frozen_of_heap hr6 2; have f3 := Lib.frozen_of_heap hr6 3; have f4 := Lib.frozen_of_heap hr6 4)
  (try simp only [Exit.inBlock, Exit.then])
  exact bodyPost_ret (v := .agg #[.int .i64 e0, .int .i64 e1, .int .i64 e2, .string e3, .slice e4 e5 e6]) (by simp [results, Tryz.results170, go_sem, q0, q1, q2, q3, q4]) rfl ⟨rfl, BoxT.five hp6 (by omega), (HK.out.trans hk6).five (by omega) (by omega)⟩
set_option maxRecDepth 100000 in
set_option maxHeartbeats 4000000 in
theorem asked0_calls (b : Nat) (v : Value) (k k' op : Nat) (l : List TokD) (e0 e1 e2 : Int) (e3 : ByteArray) (e4 : Option Addr) (e5 e6 : Nat) (hk' : k' ≤ 100000) (ht : opNone (tokAt l k')) (hno : isT (tokAt l k') ⟨#[104, 97, 115]⟩ = false) (hd : Reads 210 b v l k k' op (.agg #[.int .i64 e0, .int .i64 e1, .int .i64 e2, .string e3, .slice e4 e5 e6])) : Reads 198 b v l k k' op (.agg #[.int .i64 e0, .int .i64 e1, .int .i64 e2, .string e3, .slice e4 e5 e6]) := by
  intro w hp hl
  have hbl := hp.lt
  have hmf : ∀ (fn : Fn) (first cap : Array Value) (w : World), (Instr.makeFunc fn first cap).run Tryz.prog w = .ok (.func fn first cap) w := fun _ _ _ _ => rfl
  obtain ⟨W1, hW1⟩ : ∃ W1, w.alloc (.cells #[.pointer (some ⟨b, 0, none⟩)] 174) = W1 := ⟨_, rfl⟩
  obtain ⟨W2, hW2⟩ : ∃ W2, W1.alloc (.cells #[.int .i64 0, .int .i64 0, .int .i64 0, .string ⟨#[]⟩, .slice none 0 0] 73) = W2 := ⟨_, rfl⟩
  have hz1 : W1.heap.size = w.heap.size + 1 := by rw [← hW1]; simp
  have hb1 : Below w.heap.size w W1 := by rw [← hW1]; exact (Below.refl _ _).alloc (Nat.le_refl _) _
  have hb2 : Below W1.heap.size W1 W2 := by rw [← hW2]; exact (Below.refl _ _).alloc (Nat.le_refl _) _
  have hx1 : BoxT W1 w.heap.size [.pointer (some ⟨b, 0, none⟩)] 174 := by rw [← hW1]; exact BoxT.new _ _ _
  have hx1 := hx1.below hb2
  have hr2 : BoxT W2 W1.heap.size [.int .i64 0, .int .i64 0, .int .i64 0, .string ⟨#[]⟩, .slice none 0 0] 73 := by rw [← hW2]; exact BoxT.new _ _ _
  rw [hz1] at hr2
  have hk2 : Kept b b w W2 := (Kept.of hb1 (Nat.le_of_lt hbl)).below hb2 (by omega)
  have hp2 := PS.below (PS.below hp hb1) hb2
  have y0 := hx1.cell 0
  simp only [cqz] at y0
  have hsu := sums_calls w.heap.size b v k k' op l e0 e1 e2 e3 e4 e5 e6 hk' ht (sumsIn_calls w.heap.size b v k k' op l e0 e1 e2 e3 e4 e5 e6 hk' ht hd) W2 hx1 hp2 (hk2.toks hl)
  have HSU := Lib.hid hsu
  have HL := Lib.hid hl
  have HX := Lib.hid hx1
  have HR := Lib.hid hr2
  have HK := Lib.hid hk2
  have HW1 := Lib.hid hW1
  have HW2 := Lib.hid hW2
  have HBL := Lib.hid hbl
  have HNO := Lib.hid hno
  have HT := Lib.hid ht
  clear hsu hd hp hl hz1 hb1 hb2 hx1 hr2 hk2 hp2 hW1 hW2 ht hno hbl
  go_enter Tryz.func198, Tryz.ntmps198
  go_upto_region 1 with fail
  rw [HW1.out, HW2.out]
  have hrr := HBL.out
  go_upto_region 3 with (go_at_call 208; (with_reducible refine HSU.out.mono ?_); rintro e w3 ⟨rfl, hp3, hk3⟩)
  obtain ⟨w4, hw4⟩ : ∃ x, w3.alloc (.cells #[.int .i64 e0, .int .i64 e1, .int .i64 e2, .string e3, .slice e4 e5 e6] 73) = x := ⟨_, rfl⟩
  have hb4 : Below w3.heap.size w3 w4 := by rw [← hw4]; exact (Below.refl _ _).alloc (Nat.le_refl _) _
  have hv4 : BoxT w4 w3.heap.size [.int .i64 e0, .int .i64 e1, .int .i64 e2, .string e3, .slice e4 e5 e6] 73 := by rw [← hw4]; exact BoxT.new _ _ _
  rw [hw4]
  have hk4 := (HK.out.trans hk3).below hb4 (Nat.le_of_lt hp3.lt)
  have hp4 := PS.below hp3 hb4
  have hr4 := (HR.out.keep hk3 (by decide) (by omega)).below hb4
  have hx4 := (HX.out.keep hk3 (by decide) (by omega)).below hb4
  have htk := ptok_calls w4 b v k' op l hp4 (hk4.toks HL.out) hk'
  have HIS := Lib.hid (fun W (h : Below w4.heap.size w4 W) => pis_calls W b v k' op l ⟨#[104, 97, 115]⟩ (PS.below hp4 h) ((hk4.below h (Nat.le_of_lt hp4.lt)).toks HL.out) hk')
  rw [HNO.out] at HIS
  have HTK := Lib.hid htk
  generalize tokAt l k' = t at HT HTK
  obtain ⟨t0, t1, t2, t3, t4⟩ := t
  have HTK := Lib.hid (show Calls Tryz.prog 194 #[.pointer (some ⟨b, 0, none⟩)] w4 (Gives w4 (.agg #[.int .i64 t0, .string t1, .int .i64 t2, .int .i64 t3, .int .i64 t4])) from HTK.out)
  have HOP := Lib.hid (fun W => pop_calls W ⟨t0, t1, t2, t3, t4⟩ HT.out)
  have HOP := Lib.hid (show ∀ W, Calls Tryz.prog 195 #[.agg #[.int .i64 t0, .string t1, .int .i64 t2, .int .i64 t3, .int .i64 t4]] W (Gives W (.int .i64 0)) from HOP.out)
  have HLV := Lib.hid (fun W => (show Calls Tryz.prog 87 #[.int .i64 0] W (Gives W (.int .i64 0)) from level_calls 0 W))
  have y1 := hx4.cell 0
  simp only [cqz] at y1
  have HX4 := Lib.hid hx4
  have HV4 := Lib.hid hv4
  have HR4 := Lib.hid hr4
  have HP4 := Lib.hid hp4
  have HK4 := Lib.hid hk4
  clear hx4 hv4 hr4 hp4 hk4 hk3 hp3 hb4 hw4 htk y0
  go_upto_region 4 with (go_at_call 194; (with_reducible refine HTK.out.mono ?_); rintro e w5 ⟨rfl, hb5⟩)
  obtain ⟨w6, hw6⟩ : ∃ x, w5.alloc (.cells #[.int .i64 t0, .string t1, .int .i64 t2, .int .i64 t3, .int .i64 t4] 53) = x := ⟨_, rfl⟩
  rw [hw6]
  have hb6 : Below w4.heap.size w4 w6 := by rw [← hw6]; exact hb5.alloc hb5.size _
  have ht6 : BoxT w6 w5.heap.size [.int .i64 t0, .string t1, .int .i64 t2, .int .i64 t3, .int .i64 t4] 53 := by rw [← hw6]; exact BoxT.new _ _ _
  have y2 := (HX4.out.below hb6).cell 0
  simp only [cqz] at y2
  have HB6 := Lib.hid hb6
  have HT6 := Lib.hid ht6
  clear y1 hb5 hw6 hb6 ht6
  go_upto_region 7 with (go_at_call 197; (with_reducible refine (HIS.out _ HB6.out).mono ?_); rintro e w7 ⟨rfl, hb7⟩)
  have ht7 := HT6.out.below hb7
  have y0 := ht7.cell 0
  have y1 := ht7.cell 1
  have y2 := ht7.cell 2
  have y3 := ht7.cell 3
  have y4 := ht7.cell 4
  simp only [cqs, cqz] at y0 y1 y2 y3 y4
  have HB7 : Hid (Below w4.heap.size w4 w7) := bt HB6.out hb7
  clear hb7 ht7
  go_upto_region 10 with (first | (go_at_call 195; (with_reducible refine (HOP.out _).mono ?_); rintro e w8 ⟨rfl, hb8⟩) | (go_at_call 87; (with_reducible refine (HLV.out _).mono ?_); rintro e w9 ⟨rfl, hb9⟩))
  have hb10 := HB7.out.trans ((bt hb8 hb9).mono HB7.out.size)
  have hv10 := HV4.out.below hb10
  have hr6 := HR4.out.below hb10
  have hp10 := PS.below HP4.out hb10
  have hk10 := HK4.out.below hb10 (Nat.le_of_lt HP4.out.lt)
  have g0 := hv10.cell 0
  have g1 := hv10.cell 1
  have g2 := hv10.cell 2
  have g3 := hv10.cell 3
  have g4 := hv10.cell 4
  simp only [cqs, cqz] at g0 g1 g2 g3 g4
  have q0 := hr6.cell 0; have q1 := hr6.cell 1; have q2 := hr6.cell 2; have q3 := hr6.cell 3; have q4 := hr6.cell 4; simp only [cqs, cqz] at q0 q1 q2 q3 q4; have f0 := Lib.frozen_of_heap hr6 0; have f1 := Lib.frozen_of_heap hr6 1; have f2 := Lib.frozen_of_heap hr6 2; have f3 := Lib.frozen_of_heap hr6 3; have f4 := Lib.frozen_of_heap hr6 4
  have HP10 := Lib.hid hp10
  have HK10 := Lib.hid hk10
  clear hb10 hv10 hr6 hp10 hk10 hb8 hb9
  go_wp2
  (try simp only [Exit.inBlock, Exit.then])
  exact bodyPost_ret (v := .agg #[.int .i64 e0, .int .i64 e1, .int .i64 e2, .string e3, .slice e4 e5 e6]) (by simp [results, Tryz.results198, go_sem, q0, q1, q2, q3, q4]) rfl ⟨rfl, BoxT.five HP10.out (by omega), HK10.out.five (by omega) (by omega)⟩
end Go.Proofs.YtnbfadgclffgkaaGreatDoor
/- phrase's primary at a number and at a name. Printed by gen-par5.py. -/
namespace Go.Proofs.YtnbfadgclffgkaaGreatDoor
open Go.RowKit Go.Sort
theorem BoxT.at1 {w : World} {b : Nat} {v u x y : Value} {T : TypeId} (h : BoxT w b [v, u, x] T) : BoxT (w.setCell ⟨b, 1, none⟩ y) b [v, y, x] T := by
  unfold BoxT at *
  simp [World.setCell, Array.getElem?_modify, h]
theorem BoxT.farT {w : World} {b c j : Nat} {cs : List Value} {u : Value} {T : TypeId} (h : BoxT w c cs T) (hne : c ≠ b) : BoxT (w.setCell ⟨b, j, none⟩ u) c cs T := by
  unfold BoxT at *
  rw [Below.heap_setCell _ ⟨b, j, none⟩ _ c hne]
  exact h
theorem Kept.atB {b j : Nat} {w w' : World} {u : Value} (h : Kept b b w w') : Kept b b w (w'.setCell ⟨b, j, none⟩ u) :=
  ⟨h.1.setCell (p := ⟨b, j, none⟩) (Nat.le_refl _) _, fun x cs T fr hx hT hne => by rw [Below.heap_setCell _ ⟨b, j, none⟩ _ x hne]; exact h.2 x cs T fr hx hT hne⟩
set_option maxRecDepth 100000 in
set_option maxHeartbeats 4000000 in
theorem primNum_calls (b : Nat) (v : Value) (k op : Nat) (l : List TokD) (hk : k ≤ 1000) (hkd : (tokAt l k).kind = 2) : Reads 215 b v l k (k + 1) op (.agg #[.int .i64 1, .int .i64 0, .int .i64 (tokAt l k).num, .string ⟨#[]⟩, .slice none 0 0]) := by
  intro w hp hl
  have hbl := hp.lt
  obtain ⟨W1, hW1⟩ : ∃ W1, w.alloc (.cells #[.pointer (some ⟨b, 0, none⟩)] 174) = W1 := ⟨_, rfl⟩
  obtain ⟨W2, hW2⟩ : ∃ W2, W1.alloc (.cells #[.int .i64 0, .int .i64 0, .int .i64 0, .string ⟨#[]⟩, .slice none 0 0] 73) = W2 := ⟨_, rfl⟩
  have hz1 : W1.heap.size = w.heap.size + 1 := by rw [← hW1]; simp
  have hb1 : Below w.heap.size w W1 := by rw [← hW1]; exact (Below.refl _ _).alloc (Nat.le_refl _) _
  have hb2 : Below W1.heap.size W1 W2 := by rw [← hW2]; exact (Below.refl _ _).alloc (Nat.le_refl _) _
  have hx1 : BoxT W1 w.heap.size [.pointer (some ⟨b, 0, none⟩)] 174 := by rw [← hW1]; exact BoxT.new _ _ _
  have hx1 := hx1.below hb2
  have hr2 : BoxT W2 W1.heap.size [.int .i64 0, .int .i64 0, .int .i64 0, .string ⟨#[]⟩, .slice none 0 0] 73 := by rw [← hW2]; exact BoxT.new _ _ _
  rw [hz1] at hr2
  have hk2 : Kept b b w W2 := (Kept.of hb1 (Nat.le_of_lt hbl)).below hb2 (by omega)
  have hp2 := PS.below (PS.below hp hb1) hb2
  have y0 := hx1.cell 0
  simp only [cqz] at y0
  have htk := ptok_calls W2 b v k op l hp2 (hk2.toks hl) (by omega)
  have HIS := Lib.hid (fun W (hp : PS W b v (k + 1) op) (h : Kept b b w W) => pis_calls W b v (k + 1) op l ⟨#[40]⟩ hp (h.toks hl) (by omega))
  generalize tokAt l k = t at htk hkd
  obtain ⟨t0, t1, t2, t3, t4⟩ := t
  simp only at hkd
  have HTK := Lib.hid (show Calls Tryz.prog 194 #[.pointer (some ⟨b, 0, none⟩)] W2 (Gives W2 (.agg #[.int .i64 t0, .string t1, .int .i64 t2, .int .i64 t3, .int .i64 t4])) from htk)
  have HL := Lib.hid hl
  have HX := Lib.hid hx1
  have HR := Lib.hid hr2
  have HK := Lib.hid hk2
  have HP := Lib.hid hp2
  have HW1 := Lib.hid hW1
  have HW2 := Lib.hid hW2
  have HBL := Lib.hid hbl
  subst hkd
  clear htk hp hl hz1 hb1 hb2 hx1 hr2 hk2 hp2 hW1 hW2 hbl
  go_enter Tryz.func215, Tryz.ntmps215
  go_upto_region 1 with fail
  rw [HW1.out, HW2.out]
  have hrr := HBL.out
  go_upto_region 2 with (go_at_call 194; (with_reducible refine HTK.out.mono ?_); rintro e w3 ⟨rfl, hb3⟩)
  obtain ⟨w4, hw4⟩ : ∃ x, w3.alloc (.cells #[.int .i64 2, .string t1, .int .i64 t2, .int .i64 t3, .int .i64 t4] 53) = x := ⟨_, rfl⟩
  rw [hw4]
  have hb4 : Below W2.heap.size W2 w4 := by rw [← hw4]; exact hb3.alloc hb3.size _
  have ht4 : BoxT w4 w3.heap.size [.int .i64 2, .string t1, .int .i64 t2, .int .i64 t3, .int .i64 t4] 53 := by rw [← hw4]; exact BoxT.new _ _ _
  have hb3s := hb3.size
  clear hw4 hb3 y0
  go_upto_region 4 with fail
  obtain ⟨w5, hw5⟩ : ∃ x, w4.alloc (.cells #[.int .i64 0, .int .i64 0, .int .i64 0, .string ⟨#[]⟩, .slice none 0 0] 73) = x := ⟨_, rfl⟩
  rw [hw5]
  have hb45 : Below w4.heap.size w4 w5 := by rw [← hw5]; exact (Below.refl _ _).alloc (Nat.le_refl _) _
  have hb5 := bt hb4 hb45
  have ht5 := ht4.below hb45
  have hx5 := HX.out.below hb5
  have hp5 := PS.below HP.out hb5
  have hr5 := HR.out.below hb5
  have hk5 := HK.out.below hb5 (Nat.le_of_lt HP.out.lt)
  have y0 := hx5.cell 0
  simp only [cqz] at y0
  have m0 := ht5.cell 0
  have m1 := ht5.cell 1
  have m2 := ht5.cell 2
  have m3 := ht5.cell 3
  have m4 := ht5.cell 4
  simp only [cqs, cqz] at m0 m1 m2 m3 m4
  obtain ⟨z0, z1, z2⟩ := hp5.cells
  have f1 := Lib.frozen_of_heap hp5 1
  have hne3 : w3.heap.size ≠ b := by have := HP.out.lt; omega
  have HT5 := Lib.hid ht5
  have HX5 := Lib.hid hx5
  have HP5 := Lib.hid hp5
  have HR5 := Lib.hid hr5
  have HK5 := Lib.hid hk5
  clear ht4 ht5 hx5 hp5 hr5 hk5 hb45 hb4 hb5 hw5
  go_upto_region 6 with fail
  obtain ⟨w6, hw6⟩ : ∃ x, w5.setCell ⟨b, 1, none⟩ (.int .i64 ((k : Int) + 1)) = x := ⟨_, rfl⟩
  rw [hw6]
  have hp6 : PS w6 b v (k + 1) op := by
    have e : ((k + 1 : Nat) : Int) = (k : Int) + 1 := by omega
    rw [PS, e, ← hw6]
    exact BoxT.at1 HP5.out
  have hk6 : Kept b b w w6 := by rw [← hw6]; exact HK5.out.atB
  have ht6 : BoxT w6 w3.heap.size [.int .i64 2, .string t1, .int .i64 t2, .int .i64 t3, .int .i64 t4] 53 := by rw [← hw6]; exact HT5.out.farT hne3
  have hr6 : BoxT w6 (w.heap.size + 1) [.int .i64 0, .int .i64 0, .int .i64 0, .string ⟨#[]⟩, .slice none 0 0] 73 := by rw [← hw6]; exact HR5.out.farT (by omega)
  have hx6 : BoxT w6 w.heap.size [.pointer (some ⟨b, 0, none⟩)] 174 := by rw [← hw6]; exact HX5.out.farT (by omega)
  have n0 := ht6.cell 0
  have n1 := ht6.cell 1
  have n2 := ht6.cell 2
  have n3 := ht6.cell 3
  have n4 := ht6.cell 4
  simp only [cqs, cqz] at n0 n1 n2 n3 n4
  have q0 := hr6.cell 0; have q1 := hr6.cell 1; have q2 := hr6.cell 2; have q3 := hr6.cell 3; have q4 := hr6.cell 4; simp only [cqs, cqz] at q0 q1 q2 q3 q4; have f0 := Lib.frozen_of_heap hr6 0; have f1 := Lib.frozen_of_heap hr6 1; have f2 := Lib.frozen_of_heap hr6 2; have f3 := Lib.frozen_of_heap hr6 3; have f4 := Lib.frozen_of_heap hr6 4
  have HP6 := Lib.hid hp6
  have HK6 := Lib.hid hk6
  clear hp6 hk6 ht6 hr6 hx6 hw6
  go_wp2
  (try simp only [Exit.inBlock, Exit.then])
  exact bodyPost_ret (v := .agg #[.int .i64 1, .int .i64 0, .int .i64 t2, .string ⟨#[]⟩, .slice none 0 0]) (by simp [results, Tryz.results215, go_sem, q0, q1, q2, q3, q4]) rfl ⟨rfl, BoxT.five HP6.out (by omega), HK6.out.five (by omega) (by omega)⟩
set_option maxRecDepth 100000 in
set_option maxHeartbeats 4000000 in
theorem primName_calls (b : Nat) (v : Value) (k op : Nat) (l : List TokD) (hk : k ≤ 1000) (hkd : (tokAt l k).kind = 1) (hno : isT (tokAt l (k + 1)) ⟨#[40]⟩ = false) : Reads 215 b v l k (k + 1) op (.agg #[.int .i64 3, .int .i64 0, .int .i64 0, .string (tokAt l k).text, .slice none 0 0]) := by
  intro w hp hl
  have hbl := hp.lt
  obtain ⟨W1, hW1⟩ : ∃ W1, w.alloc (.cells #[.pointer (some ⟨b, 0, none⟩)] 174) = W1 := ⟨_, rfl⟩
  obtain ⟨W2, hW2⟩ : ∃ W2, W1.alloc (.cells #[.int .i64 0, .int .i64 0, .int .i64 0, .string ⟨#[]⟩, .slice none 0 0] 73) = W2 := ⟨_, rfl⟩
  have hz1 : W1.heap.size = w.heap.size + 1 := by rw [← hW1]; simp
  have hb1 : Below w.heap.size w W1 := by rw [← hW1]; exact (Below.refl _ _).alloc (Nat.le_refl _) _
  have hb2 : Below W1.heap.size W1 W2 := by rw [← hW2]; exact (Below.refl _ _).alloc (Nat.le_refl _) _
  have hx1 : BoxT W1 w.heap.size [.pointer (some ⟨b, 0, none⟩)] 174 := by rw [← hW1]; exact BoxT.new _ _ _
  have hx1 := hx1.below hb2
  have hr2 : BoxT W2 W1.heap.size [.int .i64 0, .int .i64 0, .int .i64 0, .string ⟨#[]⟩, .slice none 0 0] 73 := by rw [← hW2]; exact BoxT.new _ _ _
  rw [hz1] at hr2
  have hk2 : Kept b b w W2 := (Kept.of hb1 (Nat.le_of_lt hbl)).below hb2 (by omega)
  have hp2 := PS.below (PS.below hp hb1) hb2
  have y0 := hx1.cell 0
  simp only [cqz] at y0
  have htk := ptok_calls W2 b v k op l hp2 (hk2.toks hl) (by omega)
  have HIS := Lib.hid (fun W (hp : PS W b v (k + 1) op) (h : Kept b b w W) => pis_calls W b v (k + 1) op l ⟨#[40]⟩ hp (h.toks hl) (by omega))
  rw [hno] at HIS
  generalize tokAt l k = t at htk hkd
  obtain ⟨t0, t1, t2, t3, t4⟩ := t
  simp only at hkd
  have HTK := Lib.hid (show Calls Tryz.prog 194 #[.pointer (some ⟨b, 0, none⟩)] W2 (Gives W2 (.agg #[.int .i64 t0, .string t1, .int .i64 t2, .int .i64 t3, .int .i64 t4])) from htk)
  have HL := Lib.hid hl
  have HX := Lib.hid hx1
  have HR := Lib.hid hr2
  have HK := Lib.hid hk2
  have HP := Lib.hid hp2
  have HW1 := Lib.hid hW1
  have HW2 := Lib.hid hW2
  have HBL := Lib.hid hbl
  subst hkd
  clear htk hp hl hz1 hb1 hb2 hx1 hr2 hk2 hp2 hW1 hW2 hbl
  go_enter Tryz.func215, Tryz.ntmps215
  go_upto_region 1 with fail
  rw [HW1.out, HW2.out]
  have hrr := HBL.out
  go_upto_region 2 with (go_at_call 194; (with_reducible refine HTK.out.mono ?_); rintro e w3 ⟨rfl, hb3⟩)
  obtain ⟨w4, hw4⟩ : ∃ x, w3.alloc (.cells #[.int .i64 1, .string t1, .int .i64 t2, .int .i64 t3, .int .i64 t4] 53) = x := ⟨_, rfl⟩
  rw [hw4]
  have hb4 : Below W2.heap.size W2 w4 := by rw [← hw4]; exact hb3.alloc hb3.size _
  have ht4 : BoxT w4 w3.heap.size [.int .i64 1, .string t1, .int .i64 t2, .int .i64 t3, .int .i64 t4] 53 := by rw [← hw4]; exact BoxT.new _ _ _
  have hb3s := hb3.size
  clear hw4 hb3 y0
  go_upto_region 4 with fail
  obtain ⟨w5, hw5⟩ : ∃ x, w4.alloc (.cells #[.int .i64 0, .int .i64 0, .int .i64 0, .string ⟨#[]⟩, .slice none 0 0] 73) = x := ⟨_, rfl⟩
  rw [hw5]
  have hb45 : Below w4.heap.size w4 w5 := by rw [← hw5]; exact (Below.refl _ _).alloc (Nat.le_refl _) _
  have hb5 := bt hb4 hb45
  have ht5 := ht4.below hb45
  have hx5 := HX.out.below hb5
  have hp5 := PS.below HP.out hb5
  have hr5 := HR.out.below hb5
  have hk5 := HK.out.below hb5 (Nat.le_of_lt HP.out.lt)
  have y0 := hx5.cell 0
  simp only [cqz] at y0
  have m0 := ht5.cell 0
  have m1 := ht5.cell 1
  have m2 := ht5.cell 2
  have m3 := ht5.cell 3
  have m4 := ht5.cell 4
  simp only [cqs, cqz] at m0 m1 m2 m3 m4
  obtain ⟨z0, z1, z2⟩ := hp5.cells
  have f1 := Lib.frozen_of_heap hp5 1
  have hne3 : w3.heap.size ≠ b := by have := HP.out.lt; omega
  have HT5 := Lib.hid ht5
  have HX5 := Lib.hid hx5
  have HP5 := Lib.hid hp5
  have HR5 := Lib.hid hr5
  have HK5 := Lib.hid hk5
  clear ht4 ht5 hx5 hp5 hr5 hk5 hb45 hb4 hb5 hw5
  go_upto_region 9 with fail
  obtain ⟨w6, hw6⟩ : ∃ x, w5.setCell ⟨b, 1, none⟩ (.int .i64 ((k : Int) + 1)) = x := ⟨_, rfl⟩
  rw [hw6]
  have hp6 : PS w6 b v (k + 1) op := by
    have e : ((k + 1 : Nat) : Int) = (k : Int) + 1 := by omega
    rw [PS, e, ← hw6]
    exact BoxT.at1 HP5.out
  have hk6 : Kept b b w w6 := by rw [← hw6]; exact HK5.out.atB
  have ht6 : BoxT w6 w3.heap.size [.int .i64 1, .string t1, .int .i64 t2, .int .i64 t3, .int .i64 t4] 53 := by rw [← hw6]; exact HT5.out.farT hne3
  have hr6 : BoxT w6 (w.heap.size + 1) [.int .i64 0, .int .i64 0, .int .i64 0, .string ⟨#[]⟩, .slice none 0 0] 73 := by rw [← hw6]; exact HR5.out.farT (by omega)
  have hx6 : BoxT w6 w.heap.size [.pointer (some ⟨b, 0, none⟩)] 174 := by rw [← hw6]; exact HX5.out.farT (by omega)
  have n0 := ht6.cell 0
  have n1 := ht6.cell 1
  have n2 := ht6.cell 2
  have n3 := ht6.cell 3
  have n4 := ht6.cell 4
  simp only [cqs, cqz] at n0 n1 n2 n3 n4
  have y1 := hx6.cell 0
  simp only [cqz] at y1
  have HIS6 := Lib.hid (HIS.out w6 hp6 hk6)
  have HP6 := Lib.hid hp6
  have HK6 := Lib.hid hk6
  have HR6 := Lib.hid hr6
  have HT6 := Lib.hid ht6
  clear hp6 hk6 ht6 hr6 hx6 hw6
  go_upto_region 10 with (go_at_call 197; (with_reducible refine HIS6.out.mono ?_); rintro e w7 ⟨rfl, hb7⟩)
  have hp7 := PS.below HP6.out hb7
  have hk7 := HK6.out.below hb7 (Nat.le_of_lt HP6.out.lt)
  have ht7 := HT6.out.below hb7
  have hr6 := HR6.out.below hb7
  have s0 := ht7.cell 0
  have s1 := ht7.cell 1
  have s2 := ht7.cell 2
  have s3 := ht7.cell 3
  have s4 := ht7.cell 4
  simp only [cqs, cqz] at s0 s1 s2 s3 s4
  have q0 := hr6.cell 0; have q1 := hr6.cell 1; have q2 := hr6.cell 2; have q3 := hr6.cell 3; have q4 := hr6.cell 4; simp only [cqs, cqz] at q0 q1 q2 q3 q4; have f0 := Lib.frozen_of_heap hr6 0; have f1 := Lib.frozen_of_heap hr6 1; have f2 := Lib.frozen_of_heap hr6 2; have f3 := Lib.frozen_of_heap hr6 3; have f4 := Lib.frozen_of_heap hr6 4
  have HP7 := Lib.hid hp7
  have HK7 := Lib.hid hk7
  clear hp7 hk7 ht7 hr6 hb7
  go_wp2
  (try simp only [Exit.inBlock, Exit.then])
  exact bodyPost_ret (v := .agg #[.int .i64 3, .int .i64 0, .int .i64 0, .string t1, .slice none 0 0]) (by simp [results, Tryz.results215, go_sem, q0, q1, q2, q3, q4]) rfl ⟨rfl, BoxT.five HP7.out (by omega), HK7.out.five (by omega) (by omega)⟩
end Go.Proofs.YtnbfadgclffgkaaGreatDoor
