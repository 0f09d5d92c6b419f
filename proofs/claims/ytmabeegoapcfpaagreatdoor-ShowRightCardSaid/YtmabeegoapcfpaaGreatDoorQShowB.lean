/- show.putObject at an object of which only the name, the title and whether it is a room are told. Printed by gen-show13.py. -/
import Derived.Test.YtmabeegoapcfpaaGreatDoorQShowA
namespace Go.Proofs.YtmabeegoapcfpaaGreatDoor
open Go.RowKit Go.Sort
def StB (w : World) (b : Nat) (bx : List (Nat × List Value × TypeId)) (l : List UInt8) (W : World) : Prop :=
  BdH b l W ∧ (∀ t ∈ bx, BoxT W t.1 t.2.1 t.2.2 ∧ t.1 ≠ b ∧ t.2.2 ≠ 5) ∧ Kept b b w W
theorem StB.below {w W W' : World} {b : Nat} {bx : List (Nat × List Value × TypeId)} {l : List UInt8} (h : StB w b bx l W) (hb : Below W.heap.size W W') : StB w b bx l W' :=
  ⟨h.1.keep hb, fun t ht => ⟨(h.2.1 t ht).1.below hb, (h.2.1 t ht).2⟩, h.2.2.trans (Kept.of hb (Nat.le_of_lt h.1.lt))⟩
theorem StB.wrote {w W W' : World} {b : Nat} {bx : List (Nat × List Value × TypeId)} {l l' : List UInt8} (h : StB w b bx l W) (k : Wrote b l' W W') : StB w b bx l' W' :=
  ⟨k.1, fun t ht => ⟨(h.2.1 t ht).1.keep k.2 (h.2.1 t ht).2.2 (h.2.1 t ht).2.1, (h.2.1 t ht).2⟩, h.2.2.trans k.2⟩
theorem StB.cell {w W : World} {b : Nat} {bx : List (Nat × List Value × TypeId)} {l : List UInt8} (h : StB w b bx l W) (n : Nat) (cs : List Value) (T : TypeId) (ht : (n, cs, T) ∈ bx) (j : Nat) : W.cell? ⟨n, j, none⟩ = cs[j]? :=
  (h.2.1 _ ht).1.cell j
theorem StB.text {w W : World} {b : Nat} {bx : List (Nat × List Value × TypeId)} {l : List UInt8} (h : StB w b bx l W) (s : ByteArray) (hl : l.length + s.size ≤ 140737488355328) :
    Calls Tryz.prog 60 #[.pointer (some ⟨b, 0, none⟩), .string s] W fun e w' => e = .returned (.tuple #[.int .i64 s.size, .nilIface]) ∧ StB w b bx (l ++ s.data.toList) w' := by
  refine (h.1.text s hl).mono ?_
  rintro e w' ⟨rfl, h1⟩
  exact ⟨rfl, h.wrote h1⟩
theorem StB.add {w W : World} {b : Nat} {bx : List (Nat × List Value × TypeId)} {l : List UInt8} (h : StB w b bx l W) (cs : List Value) (T : TypeId) (hT : T ≠ 5) : StB w b ((W.heap.size, cs, T) :: bx) l (W.alloc (.cells cs.toArray T)) := by
  have hb : Below W.heap.size W (W.alloc (.cells cs.toArray T)) := (Below.refl _ _).alloc (Nat.le_refl _) _
  obtain ⟨h1, h2, h3⟩ := h.below hb
  refine ⟨h1, fun t ht => ?_, h3⟩
  rcases List.mem_cons.1 ht with rfl | ht
  · exact ⟨BoxT.new W cs T, Nat.ne_of_gt h.1.lt, hT⟩
  · exact h2 t ht
theorem StB.start {w : World} {b : Nat} {l : List UInt8} (h : BdH b l w) : StB w b [] l w := ⟨h, fun _ h => (by cases h), Kept.refl _ _ _⟩
theorem StB.done {w W : World} {b : Nat} {bx : List (Nat × List Value × TypeId)} {l : List UInt8} (h : StB w b bx l W) : Wrote b l w W := ⟨h.1, h.2.2⟩
def obj0L (name title : ByteArray) (room : Bool) : List UInt8 :=
  (if room then [114, 111, 111, 109, 32] else [116, 104, 105, 110, 103, 32]) ++ name.data.toList ++ [32] ++ quoteL title.data.toList ++ [32, 123, 10] ++ [125, 10]
set_option maxRecDepth 100000 in
set_option maxHeartbeats 8000000 in
theorem putObj0_false (F : Nat → Prop) (w : World) (x_name x_title : ByteArray) (cs : List Value) (b : Nat) (l : List UInt8) (_hF : Inn F w) (hb : BdH b l w) (hl : l.length ≤ 1000000000) (hzn : x_name.size ≤ 1000000) (hzt : x_title.size ≤ 1000000) (hx : Holds.obj.R F w ⟨x_name, x_title, ⟨#[]⟩, ⟨#[]⟩, false, [], [], [], [], []⟩ cs) :
    Calls Tryz.prog 66 #[.pointer (some ⟨b, 0, none⟩), .agg cs.toArray] w (fun e w' => e = .returned (.tuple #[]) ∧ Wrote b (l ++ obj0L x_name x_title false) w w') := by
  obtain ⟨-, -, -, -, va5, va6, va7, va8, va9, rfl, ka5, ka6, ka7, ka8, ka9⟩ := hx
  simp only at ka5 ka6 ka7 ka8 ka9
  obtain ⟨da5, fa5, rfl⟩ := ka5.shape
  obtain ⟨da6, fa6, rfl⟩ := ka6.shape
  obtain ⟨da7, fa7, rfl⟩ := ka7.shape
  obtain ⟨da8, fa8, rfl⟩ := ka8.shape
  obtain ⟨da9, fa9, rfl⟩ := ka9.shape
  simp only [List.length_nil]
  clear ka5 ka6 ka7 ka8 ka9 _hF
  have hmf : ∀ (fn : Fn) (first cap : Array Value) (w : World), (Instr.makeFunc fn first cap).run Tryz.prog w = .ok (.func fn first cap) w := fun _ _ _ _ => rfl
  have hcc : ∀ (args : Array Value) (w : World), (callFunc 129 args).run Tryz.prog w = .ok (.enter 129 args) w := fun _ _ => by kernel_rfl
  obtain ⟨W1, hW1⟩ : ∃ W, w.alloc (.cells #[.pointer (some ⟨b, 0, none⟩)] 81) = W := ⟨_, rfl⟩
  obtain ⟨W2, hW2⟩ : ∃ W, W1.alloc (.cells #[.string x_name, .string x_title, .string ⟨#[]⟩, .string ⟨#[]⟩, .bool false, .slice da5 0 fa5, .slice da6 0 fa6, .slice da7 0 fa7, .slice da8 0 fa8, .slice da9 0 fa9] 55) = W := ⟨_, rfl⟩
  have HSA : Hid (StB w b [(w.heap.size + 1, [.string x_name, .string x_title, .string ⟨#[]⟩, .string ⟨#[]⟩, .bool false, .slice da5 0 fa5, .slice da6 0 fa6, .slice da7 0 fa7, .slice da8 0 fa8, .slice da9 0 fa9], 55), (w.heap.size, [.pointer (some ⟨b, 0, none⟩)], 81)] l W2) := by
    show StB w b [(w.heap.size + 1, [.string x_name, .string x_title, .string ⟨#[]⟩, .string ⟨#[]⟩, .bool false, .slice da5 0 fa5, .slice da6 0 fa6, .slice da7 0 fa7, .slice da8 0 fa8, .slice da9 0 fa9], 55), (w.heap.size, [.pointer (some ⟨b, 0, none⟩)], 81)] l W2
    have h1 := (StB.start hb).add [.pointer (some ⟨b, 0, none⟩)] 81 (by decide)
    rw [hW1] at h1
    have h2 := h1.add [.string x_name, .string x_title, .string ⟨#[]⟩, .string ⟨#[]⟩, .bool false, .slice da5 0 fa5, .slice da6 0 fa6, .slice da7 0 fa7, .slice da8 0 fa8, .slice da9 0 fa9] 55 (by decide)
    rw [hW2, show W1.heap.size = w.heap.size + 1 by rw [← hW1]; simp] at h2
    exact h2
  have HW1 := Lib.hid hW1
  have HW2 := Lib.hid hW2
  have HR := Lib.hid (fun a cap sep f caps W => rowS0 a cap sep f caps W)
  have HI := Lib.hid (fun s p W => item0 s p W)
  have HQT : Hid (∀ w', Below W2.heap.size W2 w' → Calls Tryz.prog 61 #[.string x_title] w' (Gives w' (.string (quoteB x_title)))) := fun w' _ => quoteT_calls x_title w' (by omega)
  clear hW1 hW2 hb
  have HS0 : Hid (StB w b [(w.heap.size + 1, [.string x_name, .string x_title, .string ⟨#[]⟩, .string ⟨#[]⟩, .bool false, .slice da5 0 fa5, .slice da6 0 fa6, .slice da7 0 fa7, .slice da8 0 fa8, .slice da9 0 fa9], 55), (w.heap.size, [.pointer (some ⟨b, 0, none⟩)], 81)] l W2) := HSA
  have hqt := quoteB_size x_title
  have HT1 : Hid (∀ W, StB w b [(w.heap.size + 1, [.string x_name, .string x_title, .string ⟨#[]⟩, .string ⟨#[]⟩, .bool false, .slice da5 0 fa5, .slice da6 0 fa6, .slice da7 0 fa7, .slice da8 0 fa8, .slice da9 0 fa9], 55), (w.heap.size, [.pointer (some ⟨b, 0, none⟩)], 81)] l W → Calls Tryz.prog 60 #[.pointer (some ⟨b, 0, none⟩), .string (⟨#[116, 104, 105, 110, 103, 32]⟩ ++ x_name ++ ⟨#[32]⟩ ++ quoteB x_title : ByteArray)] W fun e w' => e = .returned (.tuple #[.int .i64 (⟨#[116, 104, 105, 110, 103, 32]⟩ ++ x_name ++ ⟨#[32]⟩ ++ quoteB x_title : ByteArray).size, .nilIface]) ∧ StB w b [(w.heap.size + 1, [.string x_name, .string x_title, .string ⟨#[]⟩, .string ⟨#[]⟩, .bool false, .slice da5 0 fa5, .slice da6 0 fa6, .slice da7 0 fa7, .slice da8 0 fa8, .slice da9 0 fa9], 55), (w.heap.size, [.pointer (some ⟨b, 0, none⟩)], 81)] (l ++ (⟨#[116, 104, 105, 110, 103, 32]⟩ ++ x_name ++ ⟨#[32]⟩ ++ quoteB x_title : ByteArray).data.toList) w') := fun W h => h.text _ (by simp only [ByteArray.size_append]; show _ + (6 + _ + 1 + _) ≤ _; omega)
  have hl1 : (l ++ (⟨#[116, 104, 105, 110, 103, 32]⟩ ++ x_name ++ ⟨#[32]⟩ ++ quoteB x_title : ByteArray).data.toList).length ≤ 10000000000 := by
    simp only [ByteArray.data_append, Array.toList_append, List.length_append]
    have e1 : x_name.data.toList.length = x_name.size := by simp
    have e2 : (quoteB x_title).data.toList.length = (quoteB x_title).size := by simp
    rw [e1, e2]
    show _ + (6 + _ + 1 + _) ≤ _
    omega
  have HT2 : Hid (∀ W, StB w b [(w.heap.size + 1, [.string x_name, .string x_title, .string ⟨#[]⟩, .string ⟨#[]⟩, .bool false, .slice da5 0 fa5, .slice da6 0 fa6, .slice da7 0 fa7, .slice da8 0 fa8, .slice da9 0 fa9], 55), (w.heap.size, [.pointer (some ⟨b, 0, none⟩)], 81)] (l ++ (⟨#[116, 104, 105, 110, 103, 32]⟩ ++ x_name ++ ⟨#[32]⟩ ++ quoteB x_title : ByteArray).data.toList) W → Calls Tryz.prog 60 #[.pointer (some ⟨b, 0, none⟩), .string { data := #[32, 123, 10] }] W fun e w' => e = .returned (.tuple #[.int .i64 3, .nilIface]) ∧ StB w b [(w.heap.size + 1, [.string x_name, .string x_title, .string ⟨#[]⟩, .string ⟨#[]⟩, .bool false, .slice da5 0 fa5, .slice da6 0 fa6, .slice da7 0 fa7, .slice da8 0 fa8, .slice da9 0 fa9], 55), (w.heap.size, [.pointer (some ⟨b, 0, none⟩)], 81)] ((l ++ (⟨#[116, 104, 105, 110, 103, 32]⟩ ++ x_name ++ ⟨#[32]⟩ ++ quoteB x_title : ByteArray).data.toList) ++ [32, 123, 10]) w') := fun W h => h.text ⟨#[32, 123, 10]⟩ (Nat.le_trans (Nat.add_le_add_right hl1 _) (by decide))
  have HT3 : Hid (∀ W, StB w b [(w.heap.size + 1, [.string x_name, .string x_title, .string ⟨#[]⟩, .string ⟨#[]⟩, .bool false, .slice da5 0 fa5, .slice da6 0 fa6, .slice da7 0 fa7, .slice da8 0 fa8, .slice da9 0 fa9], 55), (w.heap.size, [.pointer (some ⟨b, 0, none⟩)], 81)] ((l ++ (⟨#[116, 104, 105, 110, 103, 32]⟩ ++ x_name ++ ⟨#[32]⟩ ++ quoteB x_title : ByteArray).data.toList) ++ [32, 123, 10]) W → Calls Tryz.prog 60 #[.pointer (some ⟨b, 0, none⟩), .string { data := #[125, 10] }] W fun e w' => e = .returned (.tuple #[.int .i64 2, .nilIface]) ∧ StB w b [(w.heap.size + 1, [.string x_name, .string x_title, .string ⟨#[]⟩, .string ⟨#[]⟩, .bool false, .slice da5 0 fa5, .slice da6 0 fa6, .slice da7 0 fa7, .slice da8 0 fa8, .slice da9 0 fa9], 55), (w.heap.size, [.pointer (some ⟨b, 0, none⟩)], 81)] (((l ++ (⟨#[116, 104, 105, 110, 103, 32]⟩ ++ x_name ++ ⟨#[32]⟩ ++ quoteB x_title : ByteArray).data.toList) ++ [32, 123, 10]) ++ [125, 10]) w') := fun W h => h.text ⟨#[125, 10]⟩ (Nat.le_trans (Nat.add_le_add_right (by rw [List.length_append]; exact Nat.add_le_add_right hl1 3) _) (by decide))
  have hfin : Hid ((((l ++ (⟨#[116, 104, 105, 110, 103, 32]⟩ ++ x_name ++ ⟨#[32]⟩ ++ quoteB x_title : ByteArray).data.toList) ++ [32, 123, 10]) ++ [125, 10]) = l ++ obj0L x_name x_title false) := by
    show _ = _
    simp only [ByteArray.data_append, Array.toList_append, obj0L, quoteB, List.append_assoc]
    rfl
  have hS := HS0.out
  clear HSA hl1 hl
  go_enter Tryz.func66, Tryz.ntmps66
  go_upto_region 1 with fail
  rw [HW1.out, HW2.out]
  have g0 := hS.cell w.heap.size [.pointer (some ⟨b, 0, none⟩)] 81 (by simp) 0
  have q := fun j => hS.cell (w.heap.size + 1) [.string x_name, .string x_title, .string ⟨#[]⟩, .string ⟨#[]⟩, .bool false, .slice da5 0 fa5, .slice da6 0 fa6, .slice da7 0 fa7, .slice da8 0 fa8, .slice da9 0 fa9] 55 (by simp) j
  have h0 := q 0
  have h1 := q 1
  have h2 := q 2
  have h3 := q 3
  have h4 := q 4
  have h5 := q 5
  have h6 := q 6
  have h7 := q 7
  have h8 := q 8
  have h9 := q 9
  simp only [cqs, cqz] at g0 h0 h1 h2 h3 h4 h5 h6 h7 h8 h9
  clear q
  go_upto_region 4 with fail
  have K {f : FuncId} {args : Array Value} {u : Value} (h : ∀ w', Below W2.heap.size W2 w' → Calls Tryz.prog f args w' (Gives w' u)) (p : Regrown) : Calls Tryz.prog f args (grow (redrawn W2 p.d) p.os) fun e w3 => e = .returned u ∧ ∃ p : Regrown, w3 = grow (redrawn W2 p.d) p.os := regrown_gives (fun w3 hb => h w3 hb) p
  have HQ := Lib.hid (K HQT.out)
  clear K
  have zg0 := fun d os => cell_regrown g0 d os
  have zh0 := fun d os => cell_regrown h0 d os
  have zh1 := fun d os => cell_regrown h1 d os
  refine wp_region_quiet_last_below 10 (by kernel_rfl) rfl rfl (by kernel_rfl) ?_
  simp only [List.dropLast]
  repeat (go_big_quiet_step (with_reducible exact HQ.out _))
  refine wpQuiet_nil ?_
  intro w3 hb3
  have hS2 := hS.below hb3
  clear zg0 zh0 zh1 hS hb3 g0 h0 h1 h2 h3 h4 h5 h6 h7 h8 h9 HQ
  have hS := hS2
  clear hS2
  have g0 := hS.cell w.heap.size [.pointer (some ⟨b, 0, none⟩)] 81 (by simp) 0
  have q := fun j => hS.cell (w.heap.size + 1) [.string x_name, .string x_title, .string ⟨#[]⟩, .string ⟨#[]⟩, .bool false, .slice da5 0 fa5, .slice da6 0 fa6, .slice da7 0 fa7, .slice da8 0 fa8, .slice da9 0 fa9] 55 (by simp) j
  have h0 := q 0
  have h1 := q 1
  have h2 := q 2
  have h3 := q 3
  have h4 := q 4
  have h5 := q 5
  have h6 := q 6
  have h7 := q 7
  have h8 := q 8
  have h9 := q 9
  simp only [cqs, cqz] at g0 h0 h1 h2 h3 h4 h5 h6 h7 h8 h9
  clear q
  go_wp2_with (first | (go_at_call 60; (with_reducible refine (HT1.out _ hS).mono ?_); rintro e w4 ⟨rfl, hS2⟩; clear g0 h0 h1 h2 h3 h4 h5 h6 h7 h8 h9 hS; have hS := hS2; clear hS2; have g0 := hS.cell w.heap.size [.pointer (some ⟨b, 0, none⟩)] 81 (by simp) 0; have q := fun j => hS.cell (w.heap.size + 1) [.string x_name, .string x_title, .string ⟨#[]⟩, .string ⟨#[]⟩, .bool false, .slice da5 0 fa5, .slice da6 0 fa6, .slice da7 0 fa7, .slice da8 0 fa8, .slice da9 0 fa9] 55 (by simp) j; have h0 := q 0; have h1 := q 1; have h2 := q 2; have h3 := q 3; have h4 := q 4; have h5 := q 5; have h6 := q 6; have h7 := q 7; have h8 := q 8; have h9 := q 9; simp only [cqs, cqz] at g0 h0 h1 h2 h3 h4 h5 h6 h7 h8 h9; clear q) | (go_at_call 60; (with_reducible refine (HT2.out _ hS).mono ?_); rintro e w4 ⟨rfl, hS2⟩; clear g0 h0 h1 h2 h3 h4 h5 h6 h7 h8 h9 hS; have hS := hS2; clear hS2; have g0 := hS.cell w.heap.size [.pointer (some ⟨b, 0, none⟩)] 81 (by simp) 0; have q := fun j => hS.cell (w.heap.size + 1) [.string x_name, .string x_title, .string ⟨#[]⟩, .string ⟨#[]⟩, .bool false, .slice da5 0 fa5, .slice da6 0 fa6, .slice da7 0 fa7, .slice da8 0 fa8, .slice da9 0 fa9] 55 (by simp) j; have h0 := q 0; have h1 := q 1; have h2 := q 2; have h3 := q 3; have h4 := q 4; have h5 := q 5; have h6 := q 6; have h7 := q 7; have h8 := q 8; have h9 := q 9; simp only [cqs, cqz] at g0 h0 h1 h2 h3 h4 h5 h6 h7 h8 h9; clear q) | (go_at_call 60; (with_reducible refine (HT3.out _ hS).mono ?_); rintro e w4 ⟨rfl, hS2⟩; clear g0 h0 h1 h2 h3 h4 h5 h6 h7 h8 h9 hS; have hS := hS2; clear hS2; have g0 := hS.cell w.heap.size [.pointer (some ⟨b, 0, none⟩)] 81 (by simp) 0; have q := fun j => hS.cell (w.heap.size + 1) [.string x_name, .string x_title, .string ⟨#[]⟩, .string ⟨#[]⟩, .bool false, .slice da5 0 fa5, .slice da6 0 fa6, .slice da7 0 fa7, .slice da8 0 fa8, .slice da9 0 fa9] 55 (by simp) j; have h0 := q 0; have h1 := q 1; have h2 := q 2; have h3 := q 3; have h4 := q 4; have h5 := q 5; have h6 := q 6; have h7 := q 7; have h8 := q 8; have h9 := q 9; simp only [cqs, cqz] at g0 h0 h1 h2 h3 h4 h5 h6 h7 h8 h9; clear q) | (go_at_call 63; (with_reducible refine (HR.out _ _ _ _ _ _).mono ?_); rintro e w4 ⟨rfl, hb4⟩; have hS2 := hS.below hb4; clear g0 h0 h1 h2 h3 h4 h5 h6 h7 h8 h9 hS hb4; have hS := hS2; clear hS2; have g0 := hS.cell w.heap.size [.pointer (some ⟨b, 0, none⟩)] 81 (by simp) 0; have q := fun j => hS.cell (w.heap.size + 1) [.string x_name, .string x_title, .string ⟨#[]⟩, .string ⟨#[]⟩, .bool false, .slice da5 0 fa5, .slice da6 0 fa6, .slice da7 0 fa7, .slice da8 0 fa8, .slice da9 0 fa9] 55 (by simp) j; have h0 := q 0; have h1 := q 1; have h2 := q 2; have h3 := q 3; have h4 := q 4; have h5 := q 5; have h6 := q 6; have h7 := q 7; have h8 := q 8; have h9 := q 9; simp only [cqs, cqz] at g0 h0 h1 h2 h3 h4 h5 h6 h7 h8 h9; clear q) | (go_at_call 129; (with_reducible refine (HI.out _ _ _).mono ?_); rintro e w4 ⟨rfl, hb4⟩; have hS2 := hS.below hb4; clear g0 h0 h1 h2 h3 h4 h5 h6 h7 h8 h9 hS hb4; have hS := hS2; clear hS2; have g0 := hS.cell w.heap.size [.pointer (some ⟨b, 0, none⟩)] 81 (by simp) 0; have q := fun j => hS.cell (w.heap.size + 1) [.string x_name, .string x_title, .string ⟨#[]⟩, .string ⟨#[]⟩, .bool false, .slice da5 0 fa5, .slice da6 0 fa6, .slice da7 0 fa7, .slice da8 0 fa8, .slice da9 0 fa9] 55 (by simp) j; have h0 := q 0; have h1 := q 1; have h2 := q 2; have h3 := q 3; have h4 := q 4; have h5 := q 5; have h6 := q 6; have h7 := q 7; have h8 := q 8; have h9 := q 9; simp only [cqs, cqz] at g0 h0 h1 h2 h3 h4 h5 h6 h7 h8 h9; clear q))
  go_loopw [60] (fun i wr => i = .int .i64 0 ∧ Hid (StB w b [(w.heap.size + 1, [.string x_name, .string x_title, .string ⟨#[]⟩, .string ⟨#[]⟩, .bool false, .slice da5 0 fa5, .slice da6 0 fa6, .slice da7 0 fa7, .slice da8 0 fa8, .slice da9 0 fa9], 55), (w.heap.size, [.pointer (some ⟨b, 0, none⟩)], 81)] ((l ++ (⟨#[116, 104, 105, 110, 103, 32]⟩ ++ x_name ++ ⟨#[32]⟩ ++ quoteB x_title : ByteArray).data.toList) ++ [32, 123, 10]) wr)) (fun _ _ => 0)
  case atStart => exact ⟨rfl, hS⟩
  case round =>
    clear g0 h0 h1 h2 h3 h4 h5 h6 h7 h8 h9 hS
    obtain ⟨rfl, hS⟩ := hrel
    have hS := hS.out
    have g0 := hS.cell w.heap.size [.pointer (some ⟨b, 0, none⟩)] 81 (by simp) 0
    have q := fun j => hS.cell (w.heap.size + 1) [.string x_name, .string x_title, .string ⟨#[]⟩, .string ⟨#[]⟩, .bool false, .slice da5 0 fa5, .slice da6 0 fa6, .slice da7 0 fa7, .slice da8 0 fa8, .slice da9 0 fa9] 55 (by simp) j
    have h0 := q 0
    have h1 := q 1
    have h2 := q 2
    have h3 := q 3
    have h4 := q 4
    have h5 := q 5
    have h6 := q 6
    have h7 := q 7
    have h8 := q 8
    have h9 := q 9
    simp only [cqs, cqz] at g0 h0 h1 h2 h3 h4 h5 h6 h7 h8 h9
    clear q
    go_wp2_with fail
    go_loopw [73] (fun i wr => i = .int .i64 0 ∧ Hid (StB w b [(w.heap.size + 1, [.string x_name, .string x_title, .string ⟨#[]⟩, .string ⟨#[]⟩, .bool false, .slice da5 0 fa5, .slice da6 0 fa6, .slice da7 0 fa7, .slice da8 0 fa8, .slice da9 0 fa9], 55), (w.heap.size, [.pointer (some ⟨b, 0, none⟩)], 81)] ((l ++ (⟨#[116, 104, 105, 110, 103, 32]⟩ ++ x_name ++ ⟨#[32]⟩ ++ quoteB x_title : ByteArray).data.toList) ++ [32, 123, 10]) wr)) (fun _ _ => 0)
    case atStart => exact ⟨rfl, hS⟩
    case round =>
      clear g0 h0 h1 h2 h3 h4 h5 h6 h7 h8 h9 hS
      obtain ⟨rfl, hS⟩ := hrel
      have hS := hS.out
      have g0 := hS.cell w.heap.size [.pointer (some ⟨b, 0, none⟩)] 81 (by simp) 0
      have q := fun j => hS.cell (w.heap.size + 1) [.string x_name, .string x_title, .string ⟨#[]⟩, .string ⟨#[]⟩, .bool false, .slice da5 0 fa5, .slice da6 0 fa6, .slice da7 0 fa7, .slice da8 0 fa8, .slice da9 0 fa9] 55 (by simp) j
      have h0 := q 0
      have h1 := q 1
      have h2 := q 2
      have h3 := q 3
      have h4 := q 4
      have h5 := q 5
      have h6 := q 6
      have h7 := q 7
      have h8 := q 8
      have h9 := q 9
      simp only [cqs, cqz] at g0 h0 h1 h2 h3 h4 h5 h6 h7 h8 h9
      clear q
      go_wp2_with (first | (go_at_call 60; (with_reducible refine (HT2.out _ hS).mono ?_); rintro e w4 ⟨rfl, hS2⟩; clear g0 h0 h1 h2 h3 h4 h5 h6 h7 h8 h9 hS; have hS := hS2; clear hS2; have g0 := hS.cell w.heap.size [.pointer (some ⟨b, 0, none⟩)] 81 (by simp) 0; have q := fun j => hS.cell (w.heap.size + 1) [.string x_name, .string x_title, .string ⟨#[]⟩, .string ⟨#[]⟩, .bool false, .slice da5 0 fa5, .slice da6 0 fa6, .slice da7 0 fa7, .slice da8 0 fa8, .slice da9 0 fa9] 55 (by simp) j; have h0 := q 0; have h1 := q 1; have h2 := q 2; have h3 := q 3; have h4 := q 4; have h5 := q 5; have h6 := q 6; have h7 := q 7; have h8 := q 8; have h9 := q 9; simp only [cqs, cqz] at g0 h0 h1 h2 h3 h4 h5 h6 h7 h8 h9; clear q) | (go_at_call 60; (with_reducible refine (HT3.out _ hS).mono ?_); rintro e w4 ⟨rfl, hS2⟩; clear g0 h0 h1 h2 h3 h4 h5 h6 h7 h8 h9 hS; have hS := hS2; clear hS2; have g0 := hS.cell w.heap.size [.pointer (some ⟨b, 0, none⟩)] 81 (by simp) 0; have q := fun j => hS.cell (w.heap.size + 1) [.string x_name, .string x_title, .string ⟨#[]⟩, .string ⟨#[]⟩, .bool false, .slice da5 0 fa5, .slice da6 0 fa6, .slice da7 0 fa7, .slice da8 0 fa8, .slice da9 0 fa9] 55 (by simp) j; have h0 := q 0; have h1 := q 1; have h2 := q 2; have h3 := q 3; have h4 := q 4; have h5 := q 5; have h6 := q 6; have h7 := q 7; have h8 := q 8; have h9 := q 9; simp only [cqs, cqz] at g0 h0 h1 h2 h3 h4 h5 h6 h7 h8 h9; clear q) | (go_at_call 63; (with_reducible refine (HR.out _ _ _ _ _ _).mono ?_); rintro e w4 ⟨rfl, hb4⟩; have hS2 := hS.below hb4; clear g0 h0 h1 h2 h3 h4 h5 h6 h7 h8 h9 hS hb4; have hS := hS2; clear hS2; have g0 := hS.cell w.heap.size [.pointer (some ⟨b, 0, none⟩)] 81 (by simp) 0; have q := fun j => hS.cell (w.heap.size + 1) [.string x_name, .string x_title, .string ⟨#[]⟩, .string ⟨#[]⟩, .bool false, .slice da5 0 fa5, .slice da6 0 fa6, .slice da7 0 fa7, .slice da8 0 fa8, .slice da9 0 fa9] 55 (by simp) j; have h0 := q 0; have h1 := q 1; have h2 := q 2; have h3 := q 3; have h4 := q 4; have h5 := q 5; have h6 := q 6; have h7 := q 7; have h8 := q 8; have h9 := q 9; simp only [cqs, cqz] at g0 h0 h1 h2 h3 h4 h5 h6 h7 h8 h9; clear q) | (go_at_call 129; (with_reducible refine (HI.out _ _ _).mono ?_); rintro e w4 ⟨rfl, hb4⟩; have hS2 := hS.below hb4; clear g0 h0 h1 h2 h3 h4 h5 h6 h7 h8 h9 hS hb4; have hS := hS2; clear hS2; have g0 := hS.cell w.heap.size [.pointer (some ⟨b, 0, none⟩)] 81 (by simp) 0; have q := fun j => hS.cell (w.heap.size + 1) [.string x_name, .string x_title, .string ⟨#[]⟩, .string ⟨#[]⟩, .bool false, .slice da5 0 fa5, .slice da6 0 fa6, .slice da7 0 fa7, .slice da8 0 fa8, .slice da9 0 fa9] 55 (by simp) j; have h0 := q 0; have h1 := q 1; have h2 := q 2; have h3 := q 3; have h4 := q 4; have h5 := q 5; have h6 := q 6; have h7 := q 7; have h8 := q 8; have h9 := q 9; simp only [cqs, cqz] at g0 h0 h1 h2 h3 h4 h5 h6 h7 h8 h9; clear q))
      go_end0
      exact ⟨rfl, by have h := hS.done; rw [hfin.out] at h; exact h⟩
set_option maxRecDepth 100000 in
set_option maxHeartbeats 8000000 in
theorem putObj0_true (F : Nat → Prop) (w : World) (x_name x_title : ByteArray) (cs : List Value) (b : Nat) (l : List UInt8) (_hF : Inn F w) (hb : BdH b l w) (hl : l.length ≤ 1000000000) (hzn : x_name.size ≤ 1000000) (hzt : x_title.size ≤ 1000000) (hx : Holds.obj.R F w ⟨x_name, x_title, ⟨#[]⟩, ⟨#[]⟩, true, [], [], [], [], []⟩ cs) :
    Calls Tryz.prog 66 #[.pointer (some ⟨b, 0, none⟩), .agg cs.toArray] w (fun e w' => e = .returned (.tuple #[]) ∧ Wrote b (l ++ obj0L x_name x_title true) w w') := by
  obtain ⟨-, -, -, -, va5, va6, va7, va8, va9, rfl, ka5, ka6, ka7, ka8, ka9⟩ := hx
  simp only at ka5 ka6 ka7 ka8 ka9
  obtain ⟨da5, fa5, rfl⟩ := ka5.shape
  obtain ⟨da6, fa6, rfl⟩ := ka6.shape
  obtain ⟨da7, fa7, rfl⟩ := ka7.shape
  obtain ⟨da8, fa8, rfl⟩ := ka8.shape
  obtain ⟨da9, fa9, rfl⟩ := ka9.shape
  simp only [List.length_nil]
  clear ka5 ka6 ka7 ka8 ka9 _hF
  have hmf : ∀ (fn : Fn) (first cap : Array Value) (w : World), (Instr.makeFunc fn first cap).run Tryz.prog w = .ok (.func fn first cap) w := fun _ _ _ _ => rfl
  have hcc : ∀ (args : Array Value) (w : World), (callFunc 129 args).run Tryz.prog w = .ok (.enter 129 args) w := fun _ _ => by kernel_rfl
  obtain ⟨W1, hW1⟩ : ∃ W, w.alloc (.cells #[.pointer (some ⟨b, 0, none⟩)] 81) = W := ⟨_, rfl⟩
  obtain ⟨W2, hW2⟩ : ∃ W, W1.alloc (.cells #[.string x_name, .string x_title, .string ⟨#[]⟩, .string ⟨#[]⟩, .bool true, .slice da5 0 fa5, .slice da6 0 fa6, .slice da7 0 fa7, .slice da8 0 fa8, .slice da9 0 fa9] 55) = W := ⟨_, rfl⟩
  have HSA : Hid (StB w b [(w.heap.size + 1, [.string x_name, .string x_title, .string ⟨#[]⟩, .string ⟨#[]⟩, .bool true, .slice da5 0 fa5, .slice da6 0 fa6, .slice da7 0 fa7, .slice da8 0 fa8, .slice da9 0 fa9], 55), (w.heap.size, [.pointer (some ⟨b, 0, none⟩)], 81)] l W2) := by
    show StB w b [(w.heap.size + 1, [.string x_name, .string x_title, .string ⟨#[]⟩, .string ⟨#[]⟩, .bool true, .slice da5 0 fa5, .slice da6 0 fa6, .slice da7 0 fa7, .slice da8 0 fa8, .slice da9 0 fa9], 55), (w.heap.size, [.pointer (some ⟨b, 0, none⟩)], 81)] l W2
    have h1 := (StB.start hb).add [.pointer (some ⟨b, 0, none⟩)] 81 (by decide)
    rw [hW1] at h1
    have h2 := h1.add [.string x_name, .string x_title, .string ⟨#[]⟩, .string ⟨#[]⟩, .bool true, .slice da5 0 fa5, .slice da6 0 fa6, .slice da7 0 fa7, .slice da8 0 fa8, .slice da9 0 fa9] 55 (by decide)
    rw [hW2, show W1.heap.size = w.heap.size + 1 by rw [← hW1]; simp] at h2
    exact h2
  have HW1 := Lib.hid hW1
  have HW2 := Lib.hid hW2
  have HR := Lib.hid (fun a cap sep f caps W => rowS0 a cap sep f caps W)
  have HI := Lib.hid (fun s p W => item0 s p W)
  have HQT : Hid (∀ w', Below W2.heap.size W2 w' → Calls Tryz.prog 61 #[.string x_title] w' (Gives w' (.string (quoteB x_title)))) := fun w' _ => quoteT_calls x_title w' (by omega)
  clear hW1 hW2 hb
  have HS0 : Hid (StB w b [(w.heap.size + 1, [.string x_name, .string x_title, .string ⟨#[]⟩, .string ⟨#[]⟩, .bool true, .slice da5 0 fa5, .slice da6 0 fa6, .slice da7 0 fa7, .slice da8 0 fa8, .slice da9 0 fa9], 55), (w.heap.size, [.pointer (some ⟨b, 0, none⟩)], 81)] l W2) := HSA
  have hqt := quoteB_size x_title
  have HT1 : Hid (∀ W, StB w b [(w.heap.size + 1, [.string x_name, .string x_title, .string ⟨#[]⟩, .string ⟨#[]⟩, .bool true, .slice da5 0 fa5, .slice da6 0 fa6, .slice da7 0 fa7, .slice da8 0 fa8, .slice da9 0 fa9], 55), (w.heap.size, [.pointer (some ⟨b, 0, none⟩)], 81)] l W → Calls Tryz.prog 60 #[.pointer (some ⟨b, 0, none⟩), .string (⟨#[114, 111, 111, 109, 32]⟩ ++ x_name ++ ⟨#[32]⟩ ++ quoteB x_title : ByteArray)] W fun e w' => e = .returned (.tuple #[.int .i64 (⟨#[114, 111, 111, 109, 32]⟩ ++ x_name ++ ⟨#[32]⟩ ++ quoteB x_title : ByteArray).size, .nilIface]) ∧ StB w b [(w.heap.size + 1, [.string x_name, .string x_title, .string ⟨#[]⟩, .string ⟨#[]⟩, .bool true, .slice da5 0 fa5, .slice da6 0 fa6, .slice da7 0 fa7, .slice da8 0 fa8, .slice da9 0 fa9], 55), (w.heap.size, [.pointer (some ⟨b, 0, none⟩)], 81)] (l ++ (⟨#[114, 111, 111, 109, 32]⟩ ++ x_name ++ ⟨#[32]⟩ ++ quoteB x_title : ByteArray).data.toList) w') := fun W h => h.text _ (by simp only [ByteArray.size_append]; show _ + (5 + _ + 1 + _) ≤ _; omega)
  have hl1 : (l ++ (⟨#[114, 111, 111, 109, 32]⟩ ++ x_name ++ ⟨#[32]⟩ ++ quoteB x_title : ByteArray).data.toList).length ≤ 10000000000 := by
    simp only [ByteArray.data_append, Array.toList_append, List.length_append]
    have e1 : x_name.data.toList.length = x_name.size := by simp
    have e2 : (quoteB x_title).data.toList.length = (quoteB x_title).size := by simp
    rw [e1, e2]
    show _ + (5 + _ + 1 + _) ≤ _
    omega
  have HT2 : Hid (∀ W, StB w b [(w.heap.size + 1, [.string x_name, .string x_title, .string ⟨#[]⟩, .string ⟨#[]⟩, .bool true, .slice da5 0 fa5, .slice da6 0 fa6, .slice da7 0 fa7, .slice da8 0 fa8, .slice da9 0 fa9], 55), (w.heap.size, [.pointer (some ⟨b, 0, none⟩)], 81)] (l ++ (⟨#[114, 111, 111, 109, 32]⟩ ++ x_name ++ ⟨#[32]⟩ ++ quoteB x_title : ByteArray).data.toList) W → Calls Tryz.prog 60 #[.pointer (some ⟨b, 0, none⟩), .string { data := #[32, 123, 10] }] W fun e w' => e = .returned (.tuple #[.int .i64 3, .nilIface]) ∧ StB w b [(w.heap.size + 1, [.string x_name, .string x_title, .string ⟨#[]⟩, .string ⟨#[]⟩, .bool true, .slice da5 0 fa5, .slice da6 0 fa6, .slice da7 0 fa7, .slice da8 0 fa8, .slice da9 0 fa9], 55), (w.heap.size, [.pointer (some ⟨b, 0, none⟩)], 81)] ((l ++ (⟨#[114, 111, 111, 109, 32]⟩ ++ x_name ++ ⟨#[32]⟩ ++ quoteB x_title : ByteArray).data.toList) ++ [32, 123, 10]) w') := fun W h => h.text ⟨#[32, 123, 10]⟩ (Nat.le_trans (Nat.add_le_add_right hl1 _) (by decide))
  have HT3 : Hid (∀ W, StB w b [(w.heap.size + 1, [.string x_name, .string x_title, .string ⟨#[]⟩, .string ⟨#[]⟩, .bool true, .slice da5 0 fa5, .slice da6 0 fa6, .slice da7 0 fa7, .slice da8 0 fa8, .slice da9 0 fa9], 55), (w.heap.size, [.pointer (some ⟨b, 0, none⟩)], 81)] ((l ++ (⟨#[114, 111, 111, 109, 32]⟩ ++ x_name ++ ⟨#[32]⟩ ++ quoteB x_title : ByteArray).data.toList) ++ [32, 123, 10]) W → Calls Tryz.prog 60 #[.pointer (some ⟨b, 0, none⟩), .string { data := #[125, 10] }] W fun e w' => e = .returned (.tuple #[.int .i64 2, .nilIface]) ∧ StB w b [(w.heap.size + 1, [.string x_name, .string x_title, .string ⟨#[]⟩, .string ⟨#[]⟩, .bool true, .slice da5 0 fa5, .slice da6 0 fa6, .slice da7 0 fa7, .slice da8 0 fa8, .slice da9 0 fa9], 55), (w.heap.size, [.pointer (some ⟨b, 0, none⟩)], 81)] (((l ++ (⟨#[114, 111, 111, 109, 32]⟩ ++ x_name ++ ⟨#[32]⟩ ++ quoteB x_title : ByteArray).data.toList) ++ [32, 123, 10]) ++ [125, 10]) w') := fun W h => h.text ⟨#[125, 10]⟩ (Nat.le_trans (Nat.add_le_add_right (by rw [List.length_append]; exact Nat.add_le_add_right hl1 3) _) (by decide))
  have hfin : Hid ((((l ++ (⟨#[114, 111, 111, 109, 32]⟩ ++ x_name ++ ⟨#[32]⟩ ++ quoteB x_title : ByteArray).data.toList) ++ [32, 123, 10]) ++ [125, 10]) = l ++ obj0L x_name x_title true) := by
    show _ = _
    simp only [ByteArray.data_append, Array.toList_append, obj0L, quoteB, List.append_assoc]
    rfl
  have hS := HS0.out
  clear HSA hl1 hl
  go_enter Tryz.func66, Tryz.ntmps66
  go_upto_region 1 with fail
  rw [HW1.out, HW2.out]
  have g0 := hS.cell w.heap.size [.pointer (some ⟨b, 0, none⟩)] 81 (by simp) 0
  have q := fun j => hS.cell (w.heap.size + 1) [.string x_name, .string x_title, .string ⟨#[]⟩, .string ⟨#[]⟩, .bool true, .slice da5 0 fa5, .slice da6 0 fa6, .slice da7 0 fa7, .slice da8 0 fa8, .slice da9 0 fa9] 55 (by simp) j
  have h0 := q 0
  have h1 := q 1
  have h2 := q 2
  have h3 := q 3
  have h4 := q 4
  have h5 := q 5
  have h6 := q 6
  have h7 := q 7
  have h8 := q 8
  have h9 := q 9
  simp only [cqs, cqz] at g0 h0 h1 h2 h3 h4 h5 h6 h7 h8 h9
  clear q
  go_upto_region 4 with fail
  have K {f : FuncId} {args : Array Value} {u : Value} (h : ∀ w', Below W2.heap.size W2 w' → Calls Tryz.prog f args w' (Gives w' u)) (p : Regrown) : Calls Tryz.prog f args (grow (redrawn W2 p.d) p.os) fun e w3 => e = .returned u ∧ ∃ p : Regrown, w3 = grow (redrawn W2 p.d) p.os := regrown_gives (fun w3 hb => h w3 hb) p
  have HQ := Lib.hid (K HQT.out)
  clear K
  have zg0 := fun d os => cell_regrown g0 d os
  have zh0 := fun d os => cell_regrown h0 d os
  have zh1 := fun d os => cell_regrown h1 d os
  refine wp_region_quiet_last_below 10 (by kernel_rfl) rfl rfl (by kernel_rfl) ?_
  simp only [List.dropLast]
  repeat (go_big_quiet_step (with_reducible exact HQ.out _))
  refine wpQuiet_nil ?_
  intro w3 hb3
  have hS2 := hS.below hb3
  clear zg0 zh0 zh1 hS hb3 g0 h0 h1 h2 h3 h4 h5 h6 h7 h8 h9 HQ
  have hS := hS2
  clear hS2
  have g0 := hS.cell w.heap.size [.pointer (some ⟨b, 0, none⟩)] 81 (by simp) 0
  have q := fun j => hS.cell (w.heap.size + 1) [.string x_name, .string x_title, .string ⟨#[]⟩, .string ⟨#[]⟩, .bool true, .slice da5 0 fa5, .slice da6 0 fa6, .slice da7 0 fa7, .slice da8 0 fa8, .slice da9 0 fa9] 55 (by simp) j
  have h0 := q 0
  have h1 := q 1
  have h2 := q 2
  have h3 := q 3
  have h4 := q 4
  have h5 := q 5
  have h6 := q 6
  have h7 := q 7
  have h8 := q 8
  have h9 := q 9
  simp only [cqs, cqz] at g0 h0 h1 h2 h3 h4 h5 h6 h7 h8 h9
  clear q
  go_wp2_with (first | (go_at_call 60; (with_reducible refine (HT1.out _ hS).mono ?_); rintro e w4 ⟨rfl, hS2⟩; clear g0 h0 h1 h2 h3 h4 h5 h6 h7 h8 h9 hS; have hS := hS2; clear hS2; have g0 := hS.cell w.heap.size [.pointer (some ⟨b, 0, none⟩)] 81 (by simp) 0; have q := fun j => hS.cell (w.heap.size + 1) [.string x_name, .string x_title, .string ⟨#[]⟩, .string ⟨#[]⟩, .bool true, .slice da5 0 fa5, .slice da6 0 fa6, .slice da7 0 fa7, .slice da8 0 fa8, .slice da9 0 fa9] 55 (by simp) j; have h0 := q 0; have h1 := q 1; have h2 := q 2; have h3 := q 3; have h4 := q 4; have h5 := q 5; have h6 := q 6; have h7 := q 7; have h8 := q 8; have h9 := q 9; simp only [cqs, cqz] at g0 h0 h1 h2 h3 h4 h5 h6 h7 h8 h9; clear q) | (go_at_call 60; (with_reducible refine (HT2.out _ hS).mono ?_); rintro e w4 ⟨rfl, hS2⟩; clear g0 h0 h1 h2 h3 h4 h5 h6 h7 h8 h9 hS; have hS := hS2; clear hS2; have g0 := hS.cell w.heap.size [.pointer (some ⟨b, 0, none⟩)] 81 (by simp) 0; have q := fun j => hS.cell (w.heap.size + 1) [.string x_name, .string x_title, .string ⟨#[]⟩, .string ⟨#[]⟩, .bool true, .slice da5 0 fa5, .slice da6 0 fa6, .slice da7 0 fa7, .slice da8 0 fa8, .slice da9 0 fa9] 55 (by simp) j; have h0 := q 0; have h1 := q 1; have h2 := q 2; have h3 := q 3; have h4 := q 4; have h5 := q 5; have h6 := q 6; have h7 := q 7; have h8 := q 8; have h9 := q 9; simp only [cqs, cqz] at g0 h0 h1 h2 h3 h4 h5 h6 h7 h8 h9; clear q) | (go_at_call 60; (with_reducible refine (HT3.out _ hS).mono ?_); rintro e w4 ⟨rfl, hS2⟩; clear g0 h0 h1 h2 h3 h4 h5 h6 h7 h8 h9 hS; have hS := hS2; clear hS2; have g0 := hS.cell w.heap.size [.pointer (some ⟨b, 0, none⟩)] 81 (by simp) 0; have q := fun j => hS.cell (w.heap.size + 1) [.string x_name, .string x_title, .string ⟨#[]⟩, .string ⟨#[]⟩, .bool true, .slice da5 0 fa5, .slice da6 0 fa6, .slice da7 0 fa7, .slice da8 0 fa8, .slice da9 0 fa9] 55 (by simp) j; have h0 := q 0; have h1 := q 1; have h2 := q 2; have h3 := q 3; have h4 := q 4; have h5 := q 5; have h6 := q 6; have h7 := q 7; have h8 := q 8; have h9 := q 9; simp only [cqs, cqz] at g0 h0 h1 h2 h3 h4 h5 h6 h7 h8 h9; clear q) | (go_at_call 63; (with_reducible refine (HR.out _ _ _ _ _ _).mono ?_); rintro e w4 ⟨rfl, hb4⟩; have hS2 := hS.below hb4; clear g0 h0 h1 h2 h3 h4 h5 h6 h7 h8 h9 hS hb4; have hS := hS2; clear hS2; have g0 := hS.cell w.heap.size [.pointer (some ⟨b, 0, none⟩)] 81 (by simp) 0; have q := fun j => hS.cell (w.heap.size + 1) [.string x_name, .string x_title, .string ⟨#[]⟩, .string ⟨#[]⟩, .bool true, .slice da5 0 fa5, .slice da6 0 fa6, .slice da7 0 fa7, .slice da8 0 fa8, .slice da9 0 fa9] 55 (by simp) j; have h0 := q 0; have h1 := q 1; have h2 := q 2; have h3 := q 3; have h4 := q 4; have h5 := q 5; have h6 := q 6; have h7 := q 7; have h8 := q 8; have h9 := q 9; simp only [cqs, cqz] at g0 h0 h1 h2 h3 h4 h5 h6 h7 h8 h9; clear q) | (go_at_call 129; (with_reducible refine (HI.out _ _ _).mono ?_); rintro e w4 ⟨rfl, hb4⟩; have hS2 := hS.below hb4; clear g0 h0 h1 h2 h3 h4 h5 h6 h7 h8 h9 hS hb4; have hS := hS2; clear hS2; have g0 := hS.cell w.heap.size [.pointer (some ⟨b, 0, none⟩)] 81 (by simp) 0; have q := fun j => hS.cell (w.heap.size + 1) [.string x_name, .string x_title, .string ⟨#[]⟩, .string ⟨#[]⟩, .bool true, .slice da5 0 fa5, .slice da6 0 fa6, .slice da7 0 fa7, .slice da8 0 fa8, .slice da9 0 fa9] 55 (by simp) j; have h0 := q 0; have h1 := q 1; have h2 := q 2; have h3 := q 3; have h4 := q 4; have h5 := q 5; have h6 := q 6; have h7 := q 7; have h8 := q 8; have h9 := q 9; simp only [cqs, cqz] at g0 h0 h1 h2 h3 h4 h5 h6 h7 h8 h9; clear q))
  go_loopw [60] (fun i wr => i = .int .i64 0 ∧ Hid (StB w b [(w.heap.size + 1, [.string x_name, .string x_title, .string ⟨#[]⟩, .string ⟨#[]⟩, .bool true, .slice da5 0 fa5, .slice da6 0 fa6, .slice da7 0 fa7, .slice da8 0 fa8, .slice da9 0 fa9], 55), (w.heap.size, [.pointer (some ⟨b, 0, none⟩)], 81)] ((l ++ (⟨#[114, 111, 111, 109, 32]⟩ ++ x_name ++ ⟨#[32]⟩ ++ quoteB x_title : ByteArray).data.toList) ++ [32, 123, 10]) wr)) (fun _ _ => 0)
  case atStart => exact ⟨rfl, hS⟩
  case round =>
    clear g0 h0 h1 h2 h3 h4 h5 h6 h7 h8 h9 hS
    obtain ⟨rfl, hS⟩ := hrel
    have hS := hS.out
    have g0 := hS.cell w.heap.size [.pointer (some ⟨b, 0, none⟩)] 81 (by simp) 0
    have q := fun j => hS.cell (w.heap.size + 1) [.string x_name, .string x_title, .string ⟨#[]⟩, .string ⟨#[]⟩, .bool true, .slice da5 0 fa5, .slice da6 0 fa6, .slice da7 0 fa7, .slice da8 0 fa8, .slice da9 0 fa9] 55 (by simp) j
    have h0 := q 0
    have h1 := q 1
    have h2 := q 2
    have h3 := q 3
    have h4 := q 4
    have h5 := q 5
    have h6 := q 6
    have h7 := q 7
    have h8 := q 8
    have h9 := q 9
    simp only [cqs, cqz] at g0 h0 h1 h2 h3 h4 h5 h6 h7 h8 h9
    clear q
    go_wp2_with fail
    go_loopw [73] (fun i wr => i = .int .i64 0 ∧ Hid (StB w b [(w.heap.size + 1, [.string x_name, .string x_title, .string ⟨#[]⟩, .string ⟨#[]⟩, .bool true, .slice da5 0 fa5, .slice da6 0 fa6, .slice da7 0 fa7, .slice da8 0 fa8, .slice da9 0 fa9], 55), (w.heap.size, [.pointer (some ⟨b, 0, none⟩)], 81)] ((l ++ (⟨#[114, 111, 111, 109, 32]⟩ ++ x_name ++ ⟨#[32]⟩ ++ quoteB x_title : ByteArray).data.toList) ++ [32, 123, 10]) wr)) (fun _ _ => 0)
    case atStart => exact ⟨rfl, hS⟩
    case round =>
      clear g0 h0 h1 h2 h3 h4 h5 h6 h7 h8 h9 hS
      obtain ⟨rfl, hS⟩ := hrel
      have hS := hS.out
      have g0 := hS.cell w.heap.size [.pointer (some ⟨b, 0, none⟩)] 81 (by simp) 0
      have q := fun j => hS.cell (w.heap.size + 1) [.string x_name, .string x_title, .string ⟨#[]⟩, .string ⟨#[]⟩, .bool true, .slice da5 0 fa5, .slice da6 0 fa6, .slice da7 0 fa7, .slice da8 0 fa8, .slice da9 0 fa9] 55 (by simp) j
      have h0 := q 0
      have h1 := q 1
      have h2 := q 2
      have h3 := q 3
      have h4 := q 4
      have h5 := q 5
      have h6 := q 6
      have h7 := q 7
      have h8 := q 8
      have h9 := q 9
      simp only [cqs, cqz] at g0 h0 h1 h2 h3 h4 h5 h6 h7 h8 h9
      clear q
      go_wp2_with (first | (go_at_call 60; (with_reducible refine (HT2.out _ hS).mono ?_); rintro e w4 ⟨rfl, hS2⟩; clear g0 h0 h1 h2 h3 h4 h5 h6 h7 h8 h9 hS; have hS := hS2; clear hS2; have g0 := hS.cell w.heap.size [.pointer (some ⟨b, 0, none⟩)] 81 (by simp) 0; have q := fun j => hS.cell (w.heap.size + 1) [.string x_name, .string x_title, .string ⟨#[]⟩, .string ⟨#[]⟩, .bool true, .slice da5 0 fa5, .slice da6 0 fa6, .slice da7 0 fa7, .slice da8 0 fa8, .slice da9 0 fa9] 55 (by simp) j; have h0 := q 0; have h1 := q 1; have h2 := q 2; have h3 := q 3; have h4 := q 4; have h5 := q 5; have h6 := q 6; have h7 := q 7; have h8 := q 8; have h9 := q 9; simp only [cqs, cqz] at g0 h0 h1 h2 h3 h4 h5 h6 h7 h8 h9; clear q) | (go_at_call 60; (with_reducible refine (HT3.out _ hS).mono ?_); rintro e w4 ⟨rfl, hS2⟩; clear g0 h0 h1 h2 h3 h4 h5 h6 h7 h8 h9 hS; have hS := hS2; clear hS2; have g0 := hS.cell w.heap.size [.pointer (some ⟨b, 0, none⟩)] 81 (by simp) 0; have q := fun j => hS.cell (w.heap.size + 1) [.string x_name, .string x_title, .string ⟨#[]⟩, .string ⟨#[]⟩, .bool true, .slice da5 0 fa5, .slice da6 0 fa6, .slice da7 0 fa7, .slice da8 0 fa8, .slice da9 0 fa9] 55 (by simp) j; have h0 := q 0; have h1 := q 1; have h2 := q 2; have h3 := q 3; have h4 := q 4; have h5 := q 5; have h6 := q 6; have h7 := q 7; have h8 := q 8; have h9 := q 9; simp only [cqs, cqz] at g0 h0 h1 h2 h3 h4 h5 h6 h7 h8 h9; clear q) | (go_at_call 63; (with_reducible refine (HR.out _ _ _ _ _ _).mono ?_); rintro e w4 ⟨rfl, hb4⟩; have hS2 := hS.below hb4; clear g0 h0 h1 h2 h3 h4 h5 h6 h7 h8 h9 hS hb4; have hS := hS2; clear hS2; have g0 := hS.cell w.heap.size [.pointer (some ⟨b, 0, none⟩)] 81 (by simp) 0; have q := fun j => hS.cell (w.heap.size + 1) [.string x_name, .string x_title, .string ⟨#[]⟩, .string ⟨#[]⟩, .bool true, .slice da5 0 fa5, .slice da6 0 fa6, .slice da7 0 fa7, .slice da8 0 fa8, .slice da9 0 fa9] 55 (by simp) j; have h0 := q 0; have h1 := q 1; have h2 := q 2; have h3 := q 3; have h4 := q 4; have h5 := q 5; have h6 := q 6; have h7 := q 7; have h8 := q 8; have h9 := q 9; simp only [cqs, cqz] at g0 h0 h1 h2 h3 h4 h5 h6 h7 h8 h9; clear q) | (go_at_call 129; (with_reducible refine (HI.out _ _ _).mono ?_); rintro e w4 ⟨rfl, hb4⟩; have hS2 := hS.below hb4; clear g0 h0 h1 h2 h3 h4 h5 h6 h7 h8 h9 hS hb4; have hS := hS2; clear hS2; have g0 := hS.cell w.heap.size [.pointer (some ⟨b, 0, none⟩)] 81 (by simp) 0; have q := fun j => hS.cell (w.heap.size + 1) [.string x_name, .string x_title, .string ⟨#[]⟩, .string ⟨#[]⟩, .bool true, .slice da5 0 fa5, .slice da6 0 fa6, .slice da7 0 fa7, .slice da8 0 fa8, .slice da9 0 fa9] 55 (by simp) j; have h0 := q 0; have h1 := q 1; have h2 := q 2; have h3 := q 3; have h4 := q 4; have h5 := q 5; have h6 := q 6; have h7 := q 7; have h8 := q 8; have h9 := q 9; simp only [cqs, cqz] at g0 h0 h1 h2 h3 h4 h5 h6 h7 h8 h9; clear q))
      go_end0
      exact ⟨rfl, by have h := hS.done; rw [hfin.out] at h; exact h⟩
end Go.Proofs.YtmabeegoapcfpaaGreatDoor
