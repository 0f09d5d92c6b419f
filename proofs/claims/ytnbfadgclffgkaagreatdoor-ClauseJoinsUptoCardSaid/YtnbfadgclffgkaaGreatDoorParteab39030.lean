/- clause's item at a text. Printed by gen-par12.py. -/
import Derived.Test.YtnbfadgclffgkaaGreatDoorPart095e55f8
namespace Go.Proofs.YtnbfadgclffgkaaGreatDoor
open Go.RowKit Go.Sort
set_option maxRecDepth 100000 in
set_option maxHeartbeats 4000000 in
theorem citemT_calls (w : World) (b : Nat) (v : Value) (k own : Nat) (l : List TokD) (hk : k ≤ 1000) (hkd : (tokAt l k).kind = 3) (hp : CS w b v k own) (hl : RdL Holds.tok 5 (fun x => x < b) w l v) : Calls Tryz.prog 165 #[.pointer (some ⟨b, 0, none⟩)] w (fun e w' => e = .returned (.agg #[.int .i64 2, .int .i64 0, .int .i64 0, .string (tokAt l k).text, .slice none 0 0]) ∧ CS w' b v (k + 1) own ∧ Kept b b w w') := by
  have hbl := hp.lt
  obtain ⟨W1, hW1⟩ : ∃ W1, w.alloc (.cells #[.int .i64 0, .int .i64 0, .int .i64 0, .string ⟨#[]⟩, .slice none 0 0] 73) = W1 := ⟨_, rfl⟩
  have hb1 : Below w.heap.size w W1 := by rw [← hW1]; exact (Below.refl _ _).alloc (Nat.le_refl _) _
  have hr1 : BoxT W1 w.heap.size [.int .i64 0, .int .i64 0, .int .i64 0, .string ⟨#[]⟩, .slice none 0 0] 73 := by rw [← hW1]; exact BoxT.new _ _ _
  have hk1 : Kept b b w W1 := Kept.of hb1 (Nat.le_of_lt hbl)
  have hp1 := CS.below hp hb1
  have hc := ctok_calls W1 b v k own 0 l hp1 (hk1.toks hl) (by omega)
  rw [show k + 0 = k from rfl] at hc
  generalize tokAt l k = t at hc hkd ⊢
  obtain ⟨t0, t1, t2, t3, t4⟩ := t
  simp only at hkd
  subst hkd
  have HC := Lib.hid (show Calls Tryz.prog 98 #[.pointer (some ⟨b, 0, none⟩), .int .i64 0] W1 (Gives W1 (.agg #[.int .i64 3, .string t1, .int .i64 t2, .int .i64 t3, .int .i64 t4])) from hc)
  have HR := Lib.hid hr1
  have HK := Lib.hid hk1
  have HP := Lib.hid hp1
  have HW1 := Lib.hid hW1
  have HBL := Lib.hid hbl
  show Calls Tryz.prog 165 #[.pointer (some ⟨b, 0, none⟩)] w (fun e w' => e = .returned (.agg #[.int .i64 2, .int .i64 0, .int .i64 0, .string t1, .slice none 0 0]) ∧ CS w' b v (k + 1) own ∧ Kept b b w w')
  clear hc hp hl hb1 hr1 hk1 hp1 hW1 hbl
  go_enter Tryz.func165, Tryz.ntmps165
  go_upto_region 1 with fail
  rw [HW1.out]
  go_upto_region 2 with (go_at_call 98; (with_reducible refine HC.out.mono ?_); rintro e w1 ⟨rfl, hb1⟩)
  obtain ⟨w2, hw2⟩ : ∃ x, w1.alloc (.cells #[.int .i64 3, .string t1, .int .i64 t2, .int .i64 t3, .int .i64 t4] 53) = x := ⟨_, rfl⟩
  have hb2 : Below W1.heap.size W1 w2 := by rw [← hw2]; exact hb1.alloc hb1.size _
  have hx2 : BoxT w2 w1.heap.size [.int .i64 3, .string t1, .int .i64 t2, .int .i64 t3, .int .i64 t4] 53 := by rw [← hw2]; exact BoxT.new _ _ _
  rw [hw2]
  have hs1 := hb1.size
  have hp2 := CS.below HP.out hb2
  have hk2 := HK.out.below hb2 (Nat.le_of_lt HP.out.lt)
  have hr2 := HR.out.below hb2
  have m0 := hx2.cell 0
  have m1 := hx2.cell 1
  have m2 := hx2.cell 2
  have m3 := hx2.cell 3
  have m4 := hx2.cell 4
  simp only [cqs, cqz] at m0 m1 m2 m3 m4
  obtain ⟨z0, z1, z2⟩ := hp2.cells
  have g1 := Lib.frozen_of_heap hp2 1
  have HX2 := Lib.hid hx2
  have HP2 := Lib.hid hp2
  have HK2 := Lib.hid hk2
  have HR2 := Lib.hid hr2
  have HWB := Lib.hid HP.out.lt
  clear hb2 hx2 hp2 hk2 hr2 hw2 hb1
  go_upto_region 4 with fail
  obtain ⟨w6, hw6⟩ : ∃ x, w2.setCell ⟨b, 1, none⟩ (.int .i64 ((k : Int) + 1)) = x := ⟨_, rfl⟩
  rw [hw6]
  have hrr := HBL.out
  have hwb := HWB.out
  have hp6 : CS w6 b v (k + 1) own := by
    have e : ((k + 1 : Nat) : Int) = (k : Int) + 1 := by omega
    rw [CS, e, ← hw6]
    exact BoxT.at1 HP2.out
  have hk6 : Kept b b w w6 := by rw [← hw6]; exact HK2.out.atB
  have hx6 : BoxT w6 w1.heap.size [.int .i64 3, .string t1, .int .i64 t2, .int .i64 t3, .int .i64 t4] 53 := by rw [← hw6]; exact HX2.out.farT (by omega)
  have hr6 : BoxT w6 w.heap.size [.int .i64 0, .int .i64 0, .int .i64 0, .string ⟨#[]⟩, .slice none 0 0] 73 := by rw [← hw6]; exact HR2.out.farT (by omega)
  have n0 := hx6.cell 0
  have n1 := hx6.cell 1
  have n2 := hx6.cell 2
  have n3 := hx6.cell 3
  have n4 := hx6.cell 4
  simp only [cqs, cqz] at n0 n1 n2 n3 n4
  have q0 := hr6.cell 0; have q1 := hr6.cell 1; have q2 := hr6.cell 2; have q3 := hr6.cell 3; have q4 := hr6.cell 4; simp only [cqs, cqz] at q0 q1 q2 q3 q4; have f0 := Lib.frozen_of_heap hr6 0; have f1 := Lib.frozen_of_heap hr6 1; have f2 := Lib.frozen_of_heap hr6 2; have f3 := Lib.frozen_of_heap hr6 3; have f4 := Lib.frozen_of_heap hr6 4
  have HP6 := Lib.hid hp6
  have HK6 := Lib.hid hk6
  clear hp6 hk6 hx6 hr6 hw6
  go_wp2
  (try simp only [Exit.inBlock, Exit.then])
  exact bodyPost_ret (v := .agg #[.int .i64 2, .int .i64 0, .int .i64 0, .string t1, .slice none 0 0]) (by simp [results, Tryz.results165, go_sem, q0, q1, q2, q3, q4]) rfl ⟨rfl, BoxT.five HP6.out (by omega), HK6.out.five (Nat.le_refl _) (by omega)⟩
def ReadsX (fn b : Nat) (v : Value) (l : List TokD) (k k' own : Nat) (V : Value) : Prop := ∀ W, CS W b v k own → RdL Holds.tok 5 (fun x => x < b) W l v → Calls Tryz.prog fn #[.pointer (some ⟨b, 0, none⟩)] W (fun e w' => e = .returned V ∧ CS w' b v k' own ∧ Kept b b W w')
set_option maxRecDepth 100000 in
set_option maxHeartbeats 4000000 in
theorem citemE_calls (b : Nat) (v : Value) (k k' own : Nat) (l : List TokD) (e0 e1 e2 : Int) (e3 : ByteArray) (e4 : Option Addr) (e5 e6 : Nat) (hk : k ≤ 1000) (hkd : (tokAt l k).kind ≠ 3) (hno : isK 4 (tokAt l k) ⟨#[116, 105, 116, 108, 101]⟩ = false) (hd : ReadsX 138 b v l k k' own (.agg #[.int .i64 e0, .int .i64 e1, .int .i64 e2, .string e3, .slice e4 e5 e6])) : ReadsX 165 b v l k k' own (.agg #[.int .i64 e0, .int .i64 e1, .int .i64 e2, .string e3, .slice e4 e5 e6]) := by
  intro w hp hl
  have hbl := hp.lt
  obtain ⟨W1, hW1⟩ : ∃ W1, w.alloc (.cells #[.int .i64 0, .int .i64 0, .int .i64 0, .string ⟨#[]⟩, .slice none 0 0] 73) = W1 := ⟨_, rfl⟩
  have hb1 : Below w.heap.size w W1 := by rw [← hW1]; exact (Below.refl _ _).alloc (Nat.le_refl _) _
  have hr1 : BoxT W1 w.heap.size [.int .i64 0, .int .i64 0, .int .i64 0, .string ⟨#[]⟩, .slice none 0 0] 73 := by rw [← hW1]; exact BoxT.new _ _ _
  have hk1 : Kept b b w W1 := Kept.of hb1 (Nat.le_of_lt hbl)
  have hp1 := CS.below hp hb1
  have hc := ctok_calls W1 b v k own 0 l hp1 (hk1.toks hl) (by omega)
  rw [show k + 0 = k from rfl] at hc
  have HWD := Lib.hid (fun W (h : Below W1.heap.size W1 W) => cword_calls W b v k own 0 l ⟨#[116, 105, 116, 108, 101]⟩ (CS.below hp1 h) ((hk1.below h (Nat.le_of_lt hp1.lt)).toks hl) (by omega))
  rw [show k + 0 = k from rfl, hno] at HWD
  have HWD := Lib.hid (show ∀ W, Below W1.heap.size W1 W → Calls Tryz.prog 164 #[.pointer (some ⟨b, 0, none⟩), .int .i64 0, .string ⟨#[116, 105, 116, 108, 101]⟩] W (Gives W (.bool false)) from HWD)
  have HEX := Lib.hid (fun W (h : Below W1.heap.size W1 W) => hd W (CS.below hp1 h) ((hk1.below h (Nat.le_of_lt hp1.lt)).toks hl))
  generalize tokAt l k = t at hc hkd
  obtain ⟨t0, t1, t2, t3, t4⟩ := t
  simp only at hkd
  have ek3 : (t0 == 3) = false := by simpa using hkd
  have HC := Lib.hid (show Calls Tryz.prog 98 #[.pointer (some ⟨b, 0, none⟩), .int .i64 0] W1 (Gives W1 (.agg #[.int .i64 t0, .string t1, .int .i64 t2, .int .i64 t3, .int .i64 t4])) from hc)
  have HR := Lib.hid hr1
  have HK := Lib.hid hk1
  have HP := Lib.hid hp1
  have HW1 := Lib.hid hW1
  have HBL := Lib.hid hbl
  clear hc hp hl hb1 hr1 hk1 hp1 hW1 hbl hd hno hkd
  go_enter Tryz.func165, Tryz.ntmps165
  go_upto_region 1 with fail
  rw [HW1.out]
  go_upto_region 2 with (go_at_call 98; (with_reducible refine HC.out.mono ?_); rintro e w1 ⟨rfl, hb1⟩)
  obtain ⟨w2, hw2⟩ : ∃ x, w1.alloc (.cells #[.int .i64 t0, .string t1, .int .i64 t2, .int .i64 t3, .int .i64 t4] 53) = x := ⟨_, rfl⟩
  have hb2 : Below W1.heap.size W1 w2 := by rw [← hw2]; exact hb1.alloc hb1.size _
  have hx2 : BoxT w2 w1.heap.size [.int .i64 t0, .string t1, .int .i64 t2, .int .i64 t3, .int .i64 t4] 53 := by rw [← hw2]; exact BoxT.new _ _ _
  rw [hw2]
  have m0 := hx2.cell 0
  have m1 := hx2.cell 1
  have m2 := hx2.cell 2
  have m3 := hx2.cell 3
  have m4 := hx2.cell 4
  simp only [cqs, cqz] at m0 m1 m2 m3 m4
  have HB2 := Lib.hid hb2
  clear hb2 hx2 hw2 hb1
  have hrr := HBL.out
  go_wp2_with (first | (go_at_call 164; (with_reducible refine (HWD.out _ HB2.out).mono ?_); rintro e w3 ⟨rfl, hb3⟩; have HB3 : Hid (Below W1.heap.size W1 w3) := bt HB2.out hb3) | (go_at_call 138; (with_reducible refine (HEX.out _ HB3.out).mono ?_); rintro e w6 ⟨rfl, hp6, hk6⟩; have hr6 := (HR.out.below HB3.out).keep hk6 (by decide) (by omega); have q0 := hr6.cell 0; have q1 := hr6.cell 1; have q2 := hr6.cell 2; have q3 := hr6.cell 3; have q4 := hr6.cell 4; simp only [cqs, cqz] at q0 q1 q2 q3 q4; have f0 := Lib.frozen_of_heap hr6 0; have f1 := Lib.frozen_of_heap hr6 1; have f2 := Lib.frozen_of_heap hr6 2; have f3 := Lib.frozen_of_heap hr6 3; have f4 := Lib.frozen_of_heap hr6 4))
  (try simp only [Exit.inBlock, Exit.then])
  exact bodyPost_ret (v := .agg #[.int .i64 e0, .int .i64 e1, .int .i64 e2, .string e3, .slice e4 e5 e6]) (by simp [results, Tryz.results165, go_sem, q0, q1, q2, q3, q4]) rfl ⟨rfl, BoxT.five hp6 (by omega), ((HK.out.below HB3.out (Nat.le_of_lt HP.out.lt)).trans hk6).five (Nat.le_refl _) (by omega)⟩
end Go.Proofs.YtnbfadgclffgkaaGreatDoor
/- clause's long where the word is say. Printed by gen-par10.py. -/
namespace Go.Proofs.YtnbfadgclffgkaaGreatDoor
open Go.RowKit Go.Sort
set_option maxRecDepth 100000 in
set_option maxHeartbeats 4000000 in
theorem clong_calls (w : World) (b : Nat) (d : Int) : Calls Tryz.prog 101 #[.pointer (some ⟨b, 0, none⟩), .string ⟨#[115, 97, 121]⟩, .int .i64 d] w (Gives w (.tuple #[.agg #[.int .i64 0, .int .i64 0, .string ⟨#[]⟩, .slice none 0 0, .slice none 0 0, .slice none 0 0], .bool false])) := by
  go_enter Tryz.func101, Tryz.ntmps101
  go_wp2
  (try simp only [Exit.inBlock, Exit.then])
  exact bodyPost_ret (v := .tuple #[.agg #[.int .i64 0, .int .i64 0, .string ⟨#[]⟩, .slice none 0 0, .slice none 0 0, .slice none 0 0], .bool false]) (by simp [results, Tryz.results101, go_sem]) rfl ⟨rfl, by repeat (first | exact Below.refl _ _ | refine Below.setCell ?_ (by simp) _ | refine Below.alloc ?_ (by simp) _)⟩
end Go.Proofs.YtnbfadgclffgkaaGreatDoor
/- The deferred literal of clause's parsed, where nothing was thrown. Printed by gen-par13.py. -/
namespace Go.Proofs.YtnbfadgclffgkaaGreatDoor
open Go.RowKit Go.Sort
theorem ccaught_idle (p q r : Value) (w : World) : CallsD Tryz.prog 59 #[p, q, r] .returning w fun e u' w' => e = .returned (.tuple #[]) ∧ u' = .returning ∧ w' = w := by
  refine callsD_of_wpS Tryz.func59 rfl fun c₀ cs hu => ?_
  apply wpS_seq
  apply wpS_region
  simp [wpOpsS, go_sem, recoverD, hu, Tryz.ntmps59, Exit.thenS]
  refine wpS_of_wp ?_
  simp only [Array.replicate_succ, Array.replicate_zero, List.push_toArray, List.setIfInBounds_toArray, List.set_cons_succ, List.set_cons_zero, List.append_toArray, List.nil_append, List.cons_append]
  go_wp2
  cases c₀
  simp_all [bodyPostS, results, Tryz.results59]
def stopV (l c : Nat) : Value := .iface 88 (.agg #[.int .i64 8, .int .i64 l, .int .i64 c])
set_option maxRecDepth 100000 in
set_option maxHeartbeats 4000000 in
theorem cwrong_calls (w : World) (b : Nat) (v : Value) (k own i : Nat) (l : List TokD) (hk : k + i ≤ 1000) (hkd : (tokAt l (k + i)).kind ≠ 0) (hp : CS w b v k own) (hl : RdL Holds.tok 5 (fun x => x < b) w l v) : Calls Tryz.prog 62 #[.pointer (some ⟨b, 0, none⟩), .int .i64 i, .int .i64 8] w (fun e w' => e = .panicked [{ v := stopV (tokAt l (k + i)).line (tokAt l (k + i)).col, recovered := false }] ∧ Below w.heap.size w w') := by
  have hc := ctok_calls w b v k own i l hp hl (by omega)
  generalize tokAt l (k + i) = t at hc hkd ⊢
  obtain ⟨t0, t1, t2, t3, t4⟩ := t
  simp only at hkd ⊢
  have ek : (t0 == 0) = false := by simpa using hkd
  have HC := Lib.hid (show Calls Tryz.prog 98 #[.pointer (some ⟨b, 0, none⟩), .int .i64 i] w (Gives w (.agg #[.int .i64 t0, .string t1, .int .i64 t2, .int .i64 t3, .int .i64 t4])) from hc)
  clear hc hp hl hk hkd
  go_enter Tryz.func62, Tryz.ntmps62
  go_upto_region 1 with (go_at_call 98; (with_reducible refine HC.out.mono ?_); rintro e w1 ⟨rfl, hb1⟩)
  obtain ⟨w2, hw2⟩ : ∃ x, w1.alloc (.cells #[.int .i64 t0, .string t1, .int .i64 t2, .int .i64 t3, .int .i64 t4] 53) = x := ⟨_, rfl⟩
  have hb2 : Below w.heap.size w w2 := by rw [← hw2]; exact hb1.alloc hb1.size _
  have hx2 : BoxT w2 w1.heap.size [.int .i64 t0, .string t1, .int .i64 t2, .int .i64 t3, .int .i64 t4] 53 := by rw [← hw2]; exact BoxT.new _ _ _
  rw [hw2]
  have q0 := hx2.cell 0
  have q1 := hx2.cell 1
  have q2 := hx2.cell 2
  have q3 := hx2.cell 3
  have q4 := hx2.cell 4
  simp only [cqs, cqz] at q0 q1 q2 q3 q4
  have HB2 := Lib.hid hb2
  clear hb2 hx2 hw2 hb1
  go_wp2
  exact ⟨rfl, rfl, HB2.out⟩
end Go.Proofs.YtnbfadgclffgkaaGreatDoor
