/- The walk of clewlaw16.awake. Printed by gen-kinds20.py. -/
import Derived.Test.YtblhpiebheommaaGreatKindsChecksPart43
import Derived.Test.YtblhpiebheommaaGreatKindsChecksPart4
import Derived.Test.YtblhpiebheommaaGreatMake
import Derived.Test.YtblhpiebheommaaGreatKindsChecksPart9
namespace Go.Proofs.YtblhpiebheommaaGreat
open Go.RowKit Go.Sort

set_option maxRecDepth 100000 in
set_option maxHeartbeats 8000000 in
theorem awake16_calls (w : World) : Calls Tryz.prog 5 #[] w (Gives w (.bool true)) := by
  have hex := Lib.hid (example_calls w)
  have hmk := Lib.hid (fun (W : World) (ea eb : Nat) (F0 : Nat → Prop) (hF : Inn F0 W) (hr : Holds.src.R F0 W exS (exSS ea eb)) => makeR_calls exS F0 W (exSS ea eb) hF hr (by decide))
  rw [exT_made] at hmk
  go_enter Tryz.func5, Tryz.ntmps5
  go_upto_region 2 with (go_at_call 11; refine hex.out.mono ?_; rintro e w1 ⟨ea, eb, rfl, hsrc, hb1⟩; unfold exSS)
  have hmk1 := Lib.hid (fun o => hmk.out (w1.alloc o) ea eb (NewB w.heap.size w1.heap.size) (fun b hb => by have := hb.2; simp; omega) (Holds.src.keep (fun b hb => Below.heap_alloc w1 o b hb.2) (fun _ h => h) hsrc))
  unfold exSS at hmk1
  have hAw : Hid (∀ (w2 : World) (ta : Option Addr) (tn tc : Nat) (o : Obj), Below (w1.alloc (.cells #[.string { data := #[] }, .string { data := #[] }, .string { data := #[104, 97, 108, 108] }, .int .i64 0, .int .i64 0, .slice (some ⟨ea, 0, none⟩) 1 1, .slice none 0 0, .slice none 0 0, .slice (some ⟨eb, 0, none⟩) 1 1, .slice none 0 0, .slice none 0 0, .slice none 0 0, .slice none 0 0] 29)).heap.size (w1.alloc (.cells #[.string { data := #[] }, .string { data := #[] }, .string { data := #[104, 97, 108, 108] }, .int .i64 0, .int .i64 0, .slice (some ⟨ea, 0, none⟩) 1 1, .slice none 0 0, .slice none 0 0, .slice (some ⟨eb, 0, none⟩) 1 1, .slice none 0 0, .slice none 0 0, .slice none 0 0, .slice none 0 0] 29)) w2 → OwnN (w1.alloc (.cells #[.string { data := #[] }, .string { data := #[] }, .string { data := #[104, 97, 108, 108] }, .int .i64 0, .int .i64 0, .slice (some ⟨ea, 0, none⟩) 1 1, .slice none 0 0, .slice none 0 0, .slice (some ⟨eb, 0, none⟩) 1 1, .slice none 0 0, .slice none 0 0, .slice none 0 0, .slice none 0 0] 29)).heap.size w2 exT (.slice ta tn tc) →
      ∃ WC bo b1, (w2.alloc o).alloc (.cells #[.int .i64 1, .int .i64 0, .int .i64 1, .string { data := #[] }, .slice none 0 0] 54) = WC ∧ w2.heap.size + 1 = bo ∧ w1.heap.size = b1 ∧ AwK w WC b1 bo (.slice ta tn tc) (exSS ea eb)) := fun w2 ta tn tc o hb ho => by
    have hW1 : Below w1.heap.size w1 (w1.alloc (.cells #[.string { data := #[] }, .string { data := #[] }, .string { data := #[104, 97, 108, 108] }, .int .i64 0, .int .i64 0, .slice (some ⟨ea, 0, none⟩) 1 1, .slice none 0 0, .slice none 0 0, .slice (some ⟨eb, 0, none⟩) 1 1, .slice none 0 0, .slice none 0 0, .slice none 0 0, .slice none 0 0] 29)) := (Below.refl _ _).alloc (Nat.le_refl _) _
    have hW2 : Below w2.heap.size w2 ((w2.alloc o).alloc (.cells #[.int .i64 1, .int .i64 0, .int .i64 1, .string { data := #[] }, .slice none 0 0] 54)) := ((Below.refl _ _).alloc (Nat.le_refl _) _).alloc (by simp) _
    have h12 : Below w1.heap.size w1 w2 := hW1.trans (hb.mono hW1.size)
    have h1c := h12.trans (hW2.mono h12.size)
    have hbo := BoxAt.new (w2.alloc o) [.int .i64 1, .int .i64 0, .int .i64 1, .string { data := #[] }, .slice none 0 0] 54
    rw [show (w2.alloc o).heap.size = w2.heap.size + 1 by simp] at hbo
    refine ⟨_, _, _, rfl, rfl, rfl, hb1.trans (h1c.mono hb1.size), ?_, hbo, ?_, ?_⟩
    · exact ((BoxAt.new w1 [.string { data := #[] }, .string { data := #[] }, .string { data := #[104, 97, 108, 108] }, .int .i64 0, .int .i64 0, .slice (some ⟨ea, 0, none⟩) 1 1, .slice none 0 0, .slice none 0 0, .slice (some ⟨eb, 0, none⟩) 1 1, .slice none 0 0, .slice none 0 0, .slice none 0 0, .slice none 0 0] 29).below hb (by simp)).below hW2 (by have := hb.size; simp at this; omega)
    · exact (ho.rd exT_fit).keep (fun b hb' => hW2.block b hb'.2) (fun b hb' => Nat.lt_of_lt_of_le hb'.2 hW2.size)
    · exact Holds.src.keep (fun b hb' => h1c.block b hb'.2) (fun b hb' => Nat.lt_of_lt_of_le hb'.2 h1c.size) hsrc
  clear hsrc hex hmk
  go_upto_region 4 with (go_at_call 6; refine (hmk1.out _).mono ?_; rintro e w2 ⟨ta, tn, tc, er, pt, nm, sn, rfl, hb2, ho⟩)
  have hown : er = 0 ∧ OwnN (w1.alloc (.cells #[.string { data := #[] }, .string { data := #[] }, .string { data := #[104, 97, 108, 108] }, .int .i64 0, .int .i64 0, .slice (some ⟨ea, 0, none⟩) 1 1, .slice none 0 0, .slice none 0 0, .slice (some ⟨eb, 0, none⟩) 1 1, .slice none 0 0, .slice none 0 0, .slice none 0 0, .slice none 0 0] 29)).heap.size w2 exT (.slice ta tn tc) := by
    rcases ho with ⟨_, h⟩ | ⟨h0, t, h, h2⟩
    · cases h
    · cases h; exact ⟨h0, h2⟩
  obtain ⟨rfl, hown⟩ := hown
  obtain ⟨w4, bo, b1, hw4, hbo, hb1e, hK4⟩ := hAw.out w2 ta tn tc (.cells #[.int .i64 0, .int .i64 pt, .int .i64 nm, .string sn] 35) hb2 hown
  rw [hw4]
  simp only [hbo, hb1e]
  clear hAw hmk1 ho hb2 hown hw4 hbo hb1e hb1
  have HK4 := Lib.hid hK4
  have s4_0 : w4.cell? ⟨b1, 0, none⟩ = some (.string { data := #[] }) := hK4.box.2 0 (by simp [exSS])
  have s4_1 : w4.cell? ⟨b1, 1, none⟩ = some (.string { data := #[] }) := hK4.box.2 1 (by simp [exSS])
  have s4_2 : w4.cell? ⟨b1, 2, none⟩ = some (.string { data := #[104, 97, 108, 108] }) := hK4.box.2 2 (by simp [exSS])
  have s4_3 : w4.cell? ⟨b1, 3, none⟩ = some (.int .i64 0) := hK4.box.2 3 (by simp [exSS])
  have s4_4 : w4.cell? ⟨b1, 4, none⟩ = some (.int .i64 0) := hK4.box.2 4 (by simp [exSS])
  have s4_5 : w4.cell? ⟨b1, 5, none⟩ = some (.slice (some ⟨ea, 0, none⟩) 1 1) := hK4.box.2 5 (by simp [exSS])
  have s4_6 : w4.cell? ⟨b1, 6, none⟩ = some (.slice none 0 0) := hK4.box.2 6 (by simp [exSS])
  have s4_7 : w4.cell? ⟨b1, 7, none⟩ = some (.slice none 0 0) := hK4.box.2 7 (by simp [exSS])
  have s4_8 : w4.cell? ⟨b1, 8, none⟩ = some (.slice (some ⟨eb, 0, none⟩) 1 1) := hK4.box.2 8 (by simp [exSS])
  have s4_9 : w4.cell? ⟨b1, 9, none⟩ = some (.slice none 0 0) := hK4.box.2 9 (by simp [exSS])
  have s4_10 : w4.cell? ⟨b1, 10, none⟩ = some (.slice none 0 0) := hK4.box.2 10 (by simp [exSS])
  have s4_11 : w4.cell? ⟨b1, 11, none⟩ = some (.slice none 0 0) := hK4.box.2 11 (by simp [exSS])
  have s4_12 : w4.cell? ⟨b1, 12, none⟩ = some (.slice none 0 0) := hK4.box.2 12 (by simp [exSS])
  have r4_0 : ∀ d os, (grow (redrawn w4 d) os).cell? ⟨b1, 0, none⟩ = some (.string { data := #[] }) := fun d os => cell_regrown s4_0 d os
  have r4_1 : ∀ d os, (grow (redrawn w4 d) os).cell? ⟨b1, 1, none⟩ = some (.string { data := #[] }) := fun d os => cell_regrown s4_1 d os
  have r4_2 : ∀ d os, (grow (redrawn w4 d) os).cell? ⟨b1, 2, none⟩ = some (.string { data := #[104, 97, 108, 108] }) := fun d os => cell_regrown s4_2 d os
  have r4_3 : ∀ d os, (grow (redrawn w4 d) os).cell? ⟨b1, 3, none⟩ = some (.int .i64 0) := fun d os => cell_regrown s4_3 d os
  have r4_4 : ∀ d os, (grow (redrawn w4 d) os).cell? ⟨b1, 4, none⟩ = some (.int .i64 0) := fun d os => cell_regrown s4_4 d os
  have r4_5 : ∀ d os, (grow (redrawn w4 d) os).cell? ⟨b1, 5, none⟩ = some (.slice (some ⟨ea, 0, none⟩) 1 1) := fun d os => cell_regrown s4_5 d os
  have r4_6 : ∀ d os, (grow (redrawn w4 d) os).cell? ⟨b1, 6, none⟩ = some (.slice none 0 0) := fun d os => cell_regrown s4_6 d os
  have r4_7 : ∀ d os, (grow (redrawn w4 d) os).cell? ⟨b1, 7, none⟩ = some (.slice none 0 0) := fun d os => cell_regrown s4_7 d os
  have r4_8 : ∀ d os, (grow (redrawn w4 d) os).cell? ⟨b1, 8, none⟩ = some (.slice (some ⟨eb, 0, none⟩) 1 1) := fun d os => cell_regrown s4_8 d os
  have r4_9 : ∀ d os, (grow (redrawn w4 d) os).cell? ⟨b1, 9, none⟩ = some (.slice none 0 0) := fun d os => cell_regrown s4_9 d os
  have r4_10 : ∀ d os, (grow (redrawn w4 d) os).cell? ⟨b1, 10, none⟩ = some (.slice none 0 0) := fun d os => cell_regrown s4_10 d os
  have r4_11 : ∀ d os, (grow (redrawn w4 d) os).cell? ⟨b1, 11, none⟩ = some (.slice none 0 0) := fun d os => cell_regrown s4_11 d os
  have r4_12 : ∀ d os, (grow (redrawn w4 d) os).cell? ⟨b1, 12, none⟩ = some (.slice none 0 0) := fun d os => cell_regrown s4_12 d os
  have HN4 := Lib.hid (fun (p : Regrown) => (show Calls Tryz.prog 13 #[.string { data := #[120] }] (grow (redrawn w4 p.d) p.os) (fun e w'' => e = .returned (.agg #[.int .i64 3, .int .i64 0, .int .i64 0, .string { data := #[120] }, .slice none 0 0]) ∧ ∃ p : Regrown, w'' = grow (redrawn w4 p.d) p.os) from regrown_gives (w := w4) (fun w' hb => named_calls _ w') p))
  have HE4 := Lib.hid (fun (p : Regrown) => (show Calls Tryz.prog 12 #[.slice ta tn tc, .agg #[.string { data := #[] }, .string { data := #[] }, .string { data := #[104, 97, 108, 108] }, .int .i64 0, .int .i64 0, .slice (some ⟨ea, 0, none⟩) 1 1, .slice none 0 0, .slice none 0 0, .slice (some ⟨eb, 0, none⟩) 1 1, .slice none 0 0, .slice none 0 0, .slice none 0 0, .slice none 0 0], .slice none 0 0, .agg #[.int .i64 3, .int .i64 0, .int .i64 0, .string { data := #[120] }, .slice none 0 0]] (grow (redrawn w4 p.d) p.os) (fun e w'' => e = .returned (.tuple #[.int .i64 11, .string { data := #[120] }]) ∧ ∃ p : Regrown, w'' = grow (redrawn w4 p.d) p.os) from regrown_gives (w := w4) (fun w' hb => aw_expr (HK4.out.below hb) bX 11 (by unfold maxLen; decide) ex_w_x (by decide)) p))
  clear hK4 s4_0 s4_1 s4_2 s4_3 s4_4 s4_5 s4_6 s4_7 s4_8 s4_9 s4_10 s4_11 s4_12
  refine wp_region_quiet_below (by kernel_rfl) (by kernel_rfl) ?_
  repeat (go_big_quiet_step (first | with_reducible exact HN4.out _ | with_reducible exact HE4.out _))
  refine wpQuiet_nil ?_
  intro w5 hw5
  have hb5 := below_of_regrown hw5
  have hK5 := HK4.out.below hb5
  clear hw5 HN4 HE4 hb5 r4_0 r4_1 r4_2 r4_3 r4_4 r4_5 r4_6 r4_7 r4_8 r4_9 r4_10 r4_11 r4_12

  go_upto_region 5 with fail
  have HK5 := Lib.hid hK5
  have s5_0 : w5.cell? ⟨b1, 0, none⟩ = some (.string { data := #[] }) := hK5.box.2 0 (by simp [exSS])
  have s5_1 : w5.cell? ⟨b1, 1, none⟩ = some (.string { data := #[] }) := hK5.box.2 1 (by simp [exSS])
  have s5_2 : w5.cell? ⟨b1, 2, none⟩ = some (.string { data := #[104, 97, 108, 108] }) := hK5.box.2 2 (by simp [exSS])
  have s5_3 : w5.cell? ⟨b1, 3, none⟩ = some (.int .i64 0) := hK5.box.2 3 (by simp [exSS])
  have s5_4 : w5.cell? ⟨b1, 4, none⟩ = some (.int .i64 0) := hK5.box.2 4 (by simp [exSS])
  have s5_5 : w5.cell? ⟨b1, 5, none⟩ = some (.slice (some ⟨ea, 0, none⟩) 1 1) := hK5.box.2 5 (by simp [exSS])
  have s5_6 : w5.cell? ⟨b1, 6, none⟩ = some (.slice none 0 0) := hK5.box.2 6 (by simp [exSS])
  have s5_7 : w5.cell? ⟨b1, 7, none⟩ = some (.slice none 0 0) := hK5.box.2 7 (by simp [exSS])
  have s5_8 : w5.cell? ⟨b1, 8, none⟩ = some (.slice (some ⟨eb, 0, none⟩) 1 1) := hK5.box.2 8 (by simp [exSS])
  have s5_9 : w5.cell? ⟨b1, 9, none⟩ = some (.slice none 0 0) := hK5.box.2 9 (by simp [exSS])
  have s5_10 : w5.cell? ⟨b1, 10, none⟩ = some (.slice none 0 0) := hK5.box.2 10 (by simp [exSS])
  have s5_11 : w5.cell? ⟨b1, 11, none⟩ = some (.slice none 0 0) := hK5.box.2 11 (by simp [exSS])
  have s5_12 : w5.cell? ⟨b1, 12, none⟩ = some (.slice none 0 0) := hK5.box.2 12 (by simp [exSS])
  have r5_0 : ∀ d os, (grow (redrawn w5 d) os).cell? ⟨b1, 0, none⟩ = some (.string { data := #[] }) := fun d os => cell_regrown s5_0 d os
  have r5_1 : ∀ d os, (grow (redrawn w5 d) os).cell? ⟨b1, 1, none⟩ = some (.string { data := #[] }) := fun d os => cell_regrown s5_1 d os
  have r5_2 : ∀ d os, (grow (redrawn w5 d) os).cell? ⟨b1, 2, none⟩ = some (.string { data := #[104, 97, 108, 108] }) := fun d os => cell_regrown s5_2 d os
  have r5_3 : ∀ d os, (grow (redrawn w5 d) os).cell? ⟨b1, 3, none⟩ = some (.int .i64 0) := fun d os => cell_regrown s5_3 d os
  have r5_4 : ∀ d os, (grow (redrawn w5 d) os).cell? ⟨b1, 4, none⟩ = some (.int .i64 0) := fun d os => cell_regrown s5_4 d os
  have r5_5 : ∀ d os, (grow (redrawn w5 d) os).cell? ⟨b1, 5, none⟩ = some (.slice (some ⟨ea, 0, none⟩) 1 1) := fun d os => cell_regrown s5_5 d os
  have r5_6 : ∀ d os, (grow (redrawn w5 d) os).cell? ⟨b1, 6, none⟩ = some (.slice none 0 0) := fun d os => cell_regrown s5_6 d os
  have r5_7 : ∀ d os, (grow (redrawn w5 d) os).cell? ⟨b1, 7, none⟩ = some (.slice none 0 0) := fun d os => cell_regrown s5_7 d os
  have r5_8 : ∀ d os, (grow (redrawn w5 d) os).cell? ⟨b1, 8, none⟩ = some (.slice (some ⟨eb, 0, none⟩) 1 1) := fun d os => cell_regrown s5_8 d os
  have r5_9 : ∀ d os, (grow (redrawn w5 d) os).cell? ⟨b1, 9, none⟩ = some (.slice none 0 0) := fun d os => cell_regrown s5_9 d os
  have r5_10 : ∀ d os, (grow (redrawn w5 d) os).cell? ⟨b1, 10, none⟩ = some (.slice none 0 0) := fun d os => cell_regrown s5_10 d os
  have r5_11 : ∀ d os, (grow (redrawn w5 d) os).cell? ⟨b1, 11, none⟩ = some (.slice none 0 0) := fun d os => cell_regrown s5_11 d os
  have r5_12 : ∀ d os, (grow (redrawn w5 d) os).cell? ⟨b1, 12, none⟩ = some (.slice none 0 0) := fun d os => cell_regrown s5_12 d os
  have HN5 := Lib.hid (fun (p : Regrown) => (show Calls Tryz.prog 13 #[.string { data := #[119, 111, 114, 110] }] (grow (redrawn w5 p.d) p.os) (fun e w'' => e = .returned (.agg #[.int .i64 3, .int .i64 0, .int .i64 0, .string { data := #[119, 111, 114, 110] }, .slice none 0 0]) ∧ ∃ p : Regrown, w'' = grow (redrawn w5 p.d) p.os) from regrown_gives (w := w5) (fun w' hb => named_calls _ w') p))
  have HE5 := Lib.hid (fun (p : Regrown) => (show Calls Tryz.prog 12 #[.slice ta tn tc, .agg #[.string { data := #[] }, .string { data := #[] }, .string { data := #[104, 97, 108, 108] }, .int .i64 0, .int .i64 0, .slice (some ⟨ea, 0, none⟩) 1 1, .slice none 0 0, .slice none 0 0, .slice (some ⟨eb, 0, none⟩) 1 1, .slice none 0 0, .slice none 0 0, .slice none 0 0, .slice none 0 0], .slice none 0 0, .agg #[.int .i64 3, .int .i64 0, .int .i64 0, .string { data := #[119, 111, 114, 110] }, .slice none 0 0]] (grow (redrawn w5 p.d) p.os) (fun e w'' => e = .returned (.tuple #[.int .i64 12, .string { data := #[119, 111, 114, 110] }]) ∧ ∃ p : Regrown, w'' = grow (redrawn w5 p.d) p.os) from regrown_gives (w := w5) (fun w' hb => aw_expr (HK5.out.below hb) bWorn 12 (by unfold maxLen; decide) ex_w_worn (by decide)) p))
  clear hK5 s5_0 s5_1 s5_2 s5_3 s5_4 s5_5 s5_6 s5_7 s5_8 s5_9 s5_10 s5_11 s5_12
  refine wp_region_quiet_below (by kernel_rfl) (by kernel_rfl) ?_
  repeat (go_big_quiet_step (first | with_reducible exact HN5.out _ | with_reducible exact HE5.out _))
  refine wpQuiet_nil ?_
  intro w6 hw6
  have hb6 := below_of_regrown hw6
  have hK6 := HK5.out.below hb6
  clear hw6 HN5 HE5 hb6 r5_0 r5_1 r5_2 r5_3 r5_4 r5_5 r5_6 r5_7 r5_8 r5_9 r5_10 r5_11 r5_12

  have HK6 := Lib.hid hK6
  have s6_0 : w6.cell? ⟨b1, 0, none⟩ = some (.string { data := #[] }) := hK6.box.2 0 (by simp [exSS])
  have s6_1 : w6.cell? ⟨b1, 1, none⟩ = some (.string { data := #[] }) := hK6.box.2 1 (by simp [exSS])
  have s6_2 : w6.cell? ⟨b1, 2, none⟩ = some (.string { data := #[104, 97, 108, 108] }) := hK6.box.2 2 (by simp [exSS])
  have s6_3 : w6.cell? ⟨b1, 3, none⟩ = some (.int .i64 0) := hK6.box.2 3 (by simp [exSS])
  have s6_4 : w6.cell? ⟨b1, 4, none⟩ = some (.int .i64 0) := hK6.box.2 4 (by simp [exSS])
  have s6_5 : w6.cell? ⟨b1, 5, none⟩ = some (.slice (some ⟨ea, 0, none⟩) 1 1) := hK6.box.2 5 (by simp [exSS])
  have s6_6 : w6.cell? ⟨b1, 6, none⟩ = some (.slice none 0 0) := hK6.box.2 6 (by simp [exSS])
  have s6_7 : w6.cell? ⟨b1, 7, none⟩ = some (.slice none 0 0) := hK6.box.2 7 (by simp [exSS])
  have s6_8 : w6.cell? ⟨b1, 8, none⟩ = some (.slice (some ⟨eb, 0, none⟩) 1 1) := hK6.box.2 8 (by simp [exSS])
  have s6_9 : w6.cell? ⟨b1, 9, none⟩ = some (.slice none 0 0) := hK6.box.2 9 (by simp [exSS])
  have s6_10 : w6.cell? ⟨b1, 10, none⟩ = some (.slice none 0 0) := hK6.box.2 10 (by simp [exSS])
  have s6_11 : w6.cell? ⟨b1, 11, none⟩ = some (.slice none 0 0) := hK6.box.2 11 (by simp [exSS])
  have s6_12 : w6.cell? ⟨b1, 12, none⟩ = some (.slice none 0 0) := hK6.box.2 12 (by simp [exSS])

  have hL6 : Sts (fun b => b < (w6.alloc (.cells #[.int .i64 2, .int .i64 0, .string { data := #[97] }, .slice (some ⟨bo, 0, none⟩) 1 1, .slice none 0 0, .slice none 0 0, .int .i64 2, .int .i64 0, .string { data := #[97] }, .slice (some ⟨bo, 0, none⟩) 1 1, .slice none 0 0, .slice none 0 0] 60)).heap.size) (w6.alloc (.cells #[.int .i64 2, .int .i64 0, .string { data := #[97] }, .slice (some ⟨bo, 0, none⟩) 1 1, .slice none 0 0, .slice none 0 0, .int .i64 2, .int .i64 0, .string { data := #[97] }, .slice (some ⟨bo, 0, none⟩) 1 1, .slice none 0 0, .slice none 0 0] 60)) [exLet, exLet] (.slice (some ⟨w6.heap.size, 0, none⟩) 2 2) := by
    have hka := (hK6.below ((Below.refl _ w6).alloc (Nat.le_refl _) (.cells #[.int .i64 2, .int .i64 0, .string { data := #[97] }, .slice (some ⟨bo, 0, none⟩) 1 1, .slice none 0 0, .slice none 0 0, .int .i64 2, .int .i64 0, .string { data := #[97] }, .slice (some ⟨bo, 0, none⟩) 1 1, .slice none 0 0, .slice none 0 0] 60))).exs
    have hone : RdSt (fun b => b < (w6.alloc (.cells #[.int .i64 2, .int .i64 0, .string { data := #[97] }, .slice (some ⟨bo, 0, none⟩) 1 1, .slice none 0 0, .slice none 0 0, .int .i64 2, .int .i64 0, .string { data := #[97] }, .slice (some ⟨bo, 0, none⟩) 1 1, .slice none 0 0, .slice none 0 0] 60)).heap.size) (w6.alloc (.cells #[.int .i64 2, .int .i64 0, .string { data := #[97] }, .slice (some ⟨bo, 0, none⟩) 1 1, .slice none 0 0, .slice none 0 0, .int .i64 2, .int .i64 0, .string { data := #[97] }, .slice (some ⟨bo, 0, none⟩) 1 1, .slice none 0 0, .slice none 0 0] 60)) exLet [.int .i64 2, .int .i64 0, .string { data := #[97] }, .slice (some ⟨bo, 0, none⟩) 1 1, .slice none 0 0, .slice none 0 0] := rd_st (i64 2) (i64 0) (by unfold maxLen; decide) hka (sts_nil _ _) (sts_nil _ _)
    refine rd_sts (l := [exLet, exLet]) (cs := [.int .i64 2, .int .i64 0, .string { data := #[97] }, .slice (some ⟨bo, 0, none⟩) 1 1, .slice none 0 0, .slice none 0 0, .int .i64 2, .int .i64 0, .string { data := #[97] }, .slice (some ⟨bo, 0, none⟩) 1 1, .slice none 0 0, .slice none 0 0]) (by simp) rfl (bx_new _ _ _ _ rfl) (by simp) (by simp) ?_
    intro i hi
    have hi2 : i < 2 := hi
    match i, hi2 with
    | 0, _ => exact hone
    | 1, _ => exact hone
  have HB6 := Lib.hid (aw_block (hK6.below ((Below.refl _ w6).alloc (Nat.le_refl _) (.cells #[.int .i64 2, .int .i64 0, .string { data := #[97] }, .slice (some ⟨bo, 0, none⟩) 1 1, .slice none 0 0, .slice none 0 0, .int .i64 2, .int .i64 0, .string { data := #[97] }, .slice (some ⟨bo, 0, none⟩) 1 1, .slice none 0 0, .slice none 0 0] 60))) 7 [exLet, exLet] _ bA 10 hL6 ex_w_lets (by decide))
  unfold bA at HB6
  clear hL6 hK6
  go_upto_region 7 with (go_at_call 14; refine HB6.out.mono ?_; rintro e w7 ⟨rfl, hb7⟩)
  have hK7 := (HK6.out.below ((Below.refl _ w6).alloc (Nat.le_refl _) (.cells #[.int .i64 2, .int .i64 0, .string { data := #[97] }, .slice (some ⟨bo, 0, none⟩) 1 1, .slice none 0 0, .slice none 0 0, .int .i64 2, .int .i64 0, .string { data := #[97] }, .slice (some ⟨bo, 0, none⟩) 1 1, .slice none 0 0, .slice none 0 0] 60))).below hb7
  clear HB6 hb7
  clear s6_0 s6_1 s6_2 s6_3 s6_4 s6_5 s6_6 s6_7 s6_8 s6_9 s6_10 s6_11 s6_12

  have HK7 := Lib.hid hK7
  have s7_0 : w7.cell? ⟨b1, 0, none⟩ = some (.string { data := #[] }) := hK7.box.2 0 (by simp [exSS])
  have s7_1 : w7.cell? ⟨b1, 1, none⟩ = some (.string { data := #[] }) := hK7.box.2 1 (by simp [exSS])
  have s7_2 : w7.cell? ⟨b1, 2, none⟩ = some (.string { data := #[104, 97, 108, 108] }) := hK7.box.2 2 (by simp [exSS])
  have s7_3 : w7.cell? ⟨b1, 3, none⟩ = some (.int .i64 0) := hK7.box.2 3 (by simp [exSS])
  have s7_4 : w7.cell? ⟨b1, 4, none⟩ = some (.int .i64 0) := hK7.box.2 4 (by simp [exSS])
  have s7_5 : w7.cell? ⟨b1, 5, none⟩ = some (.slice (some ⟨ea, 0, none⟩) 1 1) := hK7.box.2 5 (by simp [exSS])
  have s7_6 : w7.cell? ⟨b1, 6, none⟩ = some (.slice none 0 0) := hK7.box.2 6 (by simp [exSS])
  have s7_7 : w7.cell? ⟨b1, 7, none⟩ = some (.slice none 0 0) := hK7.box.2 7 (by simp [exSS])
  have s7_8 : w7.cell? ⟨b1, 8, none⟩ = some (.slice (some ⟨eb, 0, none⟩) 1 1) := hK7.box.2 8 (by simp [exSS])
  have s7_9 : w7.cell? ⟨b1, 9, none⟩ = some (.slice none 0 0) := hK7.box.2 9 (by simp [exSS])
  have s7_10 : w7.cell? ⟨b1, 10, none⟩ = some (.slice none 0 0) := hK7.box.2 10 (by simp [exSS])
  have s7_11 : w7.cell? ⟨b1, 11, none⟩ = some (.slice none 0 0) := hK7.box.2 11 (by simp [exSS])
  have s7_12 : w7.cell? ⟨b1, 12, none⟩ = some (.slice none 0 0) := hK7.box.2 12 (by simp [exSS])

  have hL7 : Sts (fun b => b < (w7.alloc (.cells #[.int .i64 13, .int .i64 0, .string { data := #[] }, .slice none 0 0, .slice none 0 0, .slice none 0 0] 60)).heap.size) (w7.alloc (.cells #[.int .i64 13, .int .i64 0, .string { data := #[] }, .slice none 0 0, .slice none 0 0, .slice none 0 0] 60)) [exStop] (.slice (some ⟨w7.heap.size, 0, none⟩) 1 1) := sts_one (by simp) (bx_new _ _ _ _ rfl) (rd_st (i64 13) (i64 0) (Nat.zero_le _) (exs_nil _ _) (sts_nil _ _) (sts_nil _ _))
  have HB7 := Lib.hid (aw_block (hK7.below ((Below.refl _ w7).alloc (Nat.le_refl _) (.cells #[.int .i64 13, .int .i64 0, .string { data := #[] }, .slice none 0 0, .slice none 0 0, .slice none 0 0] 60))) 8 [exStop] _ ⟨#[]⟩ 18 hL7 ex_w_stop (by decide))
  clear hL7 hK7
  go_upto_region 8 with (go_at_call 14; refine HB7.out.mono ?_; rintro e w8 ⟨rfl, hb8⟩)
  have hK8 := (HK7.out.below ((Below.refl _ w7).alloc (Nat.le_refl _) (.cells #[.int .i64 13, .int .i64 0, .string { data := #[] }, .slice none 0 0, .slice none 0 0, .slice none 0 0] 60))).below hb8
  clear HB7 hb8
  clear s7_0 s7_1 s7_2 s7_3 s7_4 s7_5 s7_6 s7_7 s7_8 s7_9 s7_10 s7_11 s7_12

  have hWl : Below w8.heap.size w8 ((w8.alloc (.cells #[.int .i64 2, .int .i64 0, .string { data := #[97] }, .slice (some ⟨bo, 0, none⟩) 1 1, .slice none 0 0, .slice none 0 0] 60)).alloc (.cells #[.int .i64 11, .int .i64 0, .string { data := #[99] }, .slice (some ⟨bo, 0, none⟩) 1 1, .slice (some ⟨w8.heap.size, 0, none⟩) 1 1, .slice none 0 0] 60)) := ((Below.refl _ w8).alloc (Nat.le_refl _) _).alloc (by simp) _
  have hL8 : Sts (fun b => b < ((w8.alloc (.cells #[.int .i64 2, .int .i64 0, .string { data := #[97] }, .slice (some ⟨bo, 0, none⟩) 1 1, .slice none 0 0, .slice none 0 0] 60)).alloc (.cells #[.int .i64 11, .int .i64 0, .string { data := #[99] }, .slice (some ⟨bo, 0, none⟩) 1 1, .slice (some ⟨w8.heap.size, 0, none⟩) 1 1, .slice none 0 0] 60)).heap.size) ((w8.alloc (.cells #[.int .i64 2, .int .i64 0, .string { data := #[97] }, .slice (some ⟨bo, 0, none⟩) 1 1, .slice none 0 0, .slice none 0 0] 60)).alloc (.cells #[.int .i64 11, .int .i64 0, .string { data := #[99] }, .slice (some ⟨bo, 0, none⟩) 1 1, .slice (some ⟨w8.heap.size, 0, none⟩) 1 1, .slice none 0 0] 60)) [exEach] (.slice (some ⟨w8.heap.size + 1, 0, none⟩) 1 1) := by
    have hka := (hK8.below hWl).exs
    have hlet : Sts (fun b => b < ((w8.alloc (.cells #[.int .i64 2, .int .i64 0, .string { data := #[97] }, .slice (some ⟨bo, 0, none⟩) 1 1, .slice none 0 0, .slice none 0 0] 60)).alloc (.cells #[.int .i64 11, .int .i64 0, .string { data := #[99] }, .slice (some ⟨bo, 0, none⟩) 1 1, .slice (some ⟨w8.heap.size, 0, none⟩) 1 1, .slice none 0 0] 60)).heap.size) ((w8.alloc (.cells #[.int .i64 2, .int .i64 0, .string { data := #[97] }, .slice (some ⟨bo, 0, none⟩) 1 1, .slice none 0 0, .slice none 0 0] 60)).alloc (.cells #[.int .i64 11, .int .i64 0, .string { data := #[99] }, .slice (some ⟨bo, 0, none⟩) 1 1, .slice (some ⟨w8.heap.size, 0, none⟩) 1 1, .slice none 0 0] 60)) [exLet] (.slice (some ⟨w8.heap.size, 0, none⟩) 1 1) := sts_one (by simp <;> omega) ((bx_new w8 [.int .i64 2, .int .i64 0, .string { data := #[97] }, .slice (some ⟨bo, 0, none⟩) 1 1, .slice none 0 0, .slice none 0 0] 60 _ rfl).alloc (by simp) _) (rd_st (i64 2) (i64 0) (by unfold maxLen; decide) hka (sts_nil _ _) (sts_nil _ _))
    exact sts_one (by simp) (bx_new _ _ _ _ (by simp)) (rd_st (i64 11) (i64 0) (by unfold maxLen; decide) hka hlet (sts_nil _ _))
  have HL8 := Lib.hid (aw_locs _ hL8)
  have HK8 := Lib.hid hK8
  have HWl := Lib.hid hWl
  clear hL8 hK8 hWl
  go_upto_region 9 with (go_at_call 15; refine HL8.out.mono ?_; rintro e w9 ⟨rfl, hb9⟩)
  have hK9 := (HK8.out.below HWl.out).below hb9
  clear HL8 HWl hb9 HK8
  have HK9 := Lib.hid hK9
  have s9_0 : w9.cell? ⟨b1, 0, none⟩ = some (.string { data := #[] }) := hK9.box.2 0 (by simp [exSS])
  have s9_1 : w9.cell? ⟨b1, 1, none⟩ = some (.string { data := #[] }) := hK9.box.2 1 (by simp [exSS])
  have s9_2 : w9.cell? ⟨b1, 2, none⟩ = some (.string { data := #[104, 97, 108, 108] }) := hK9.box.2 2 (by simp [exSS])
  have s9_3 : w9.cell? ⟨b1, 3, none⟩ = some (.int .i64 0) := hK9.box.2 3 (by simp [exSS])
  have s9_4 : w9.cell? ⟨b1, 4, none⟩ = some (.int .i64 0) := hK9.box.2 4 (by simp [exSS])
  have s9_5 : w9.cell? ⟨b1, 5, none⟩ = some (.slice (some ⟨ea, 0, none⟩) 1 1) := hK9.box.2 5 (by simp [exSS])
  have s9_6 : w9.cell? ⟨b1, 6, none⟩ = some (.slice none 0 0) := hK9.box.2 6 (by simp [exSS])
  have s9_7 : w9.cell? ⟨b1, 7, none⟩ = some (.slice none 0 0) := hK9.box.2 7 (by simp [exSS])
  have s9_8 : w9.cell? ⟨b1, 8, none⟩ = some (.slice (some ⟨eb, 0, none⟩) 1 1) := hK9.box.2 8 (by simp [exSS])
  have s9_9 : w9.cell? ⟨b1, 9, none⟩ = some (.slice none 0 0) := hK9.box.2 9 (by simp [exSS])
  have s9_10 : w9.cell? ⟨b1, 10, none⟩ = some (.slice none 0 0) := hK9.box.2 10 (by simp [exSS])
  have s9_11 : w9.cell? ⟨b1, 11, none⟩ = some (.slice none 0 0) := hK9.box.2 11 (by simp [exSS])
  have s9_12 : w9.cell? ⟨b1, 12, none⟩ = some (.slice none 0 0) := hK9.box.2 12 (by simp [exSS])

  have HC9 := Lib.hid (aw_check hK9)
  unfold exSS at HC9
  clear hK9
  go_wp2_with (go_at_call 7; refine HC9.out.mono ?_; rintro e w10 ⟨rfl, hb10⟩)
  go_ret
  exact ⟨rfl, HK9.out.bel.trans (hb10.mono HK9.out.bel.size)⟩
end Go.Proofs.YtblhpiebheommaaGreat

/- What a table that Make has made tells: its names fit, its functions and things are the source's. No program in sight. -/
namespace Go.Proofs.YtblhpiebheommaaGreat
open Go.RowKit

theorem ents_mem {α : Type} (nm : α → ByteArray) (kd pt sh mo : Int) : ∀ (l : List α) (k : Nat) (x : EntD), x ∈ ents nm kd pt sh mo k l → x.kind = kd ∧ x.most = mo ∧ ∃ i : Nat, i < l.length ∧ x.place = ((k + i : Nat) : Int) ∧ x.num = ((k + i : Nat) : Int) + sh
  | [], _, x, h => by cases h
  | a :: l, k, x, h => by
    rcases List.mem_cons.1 h with rfl | h
    · exact ⟨rfl, rfl, 0, by simp, by simp, by simp⟩
    · obtain ⟨h1, h2, i, h3, h4, h5⟩ := ents_mem nm kd pt sh mo l (k + 1) x h
      exact ⟨h1, h2, i + 1, by simp; omega, by rw [h4]; congr 1; omega, by rw [h5]; congr 2; omega⟩

/-- What a source's declaration is. -/
theorem ent_of (s : SrcD) (x : EntD) (h : x ∈ s.ents) : (1 ≤ x.kind ∧ x.kind ≤ 7) ∧ x.most ≤ 126 ∧ (∃ i : Nat, x.place = (i : Int) ∧ ∃ sh : Int, 0 ≤ sh ∧ sh ≤ 4 ∧ x.num = (i : Int) + sh) ∧ (x.kind = 6 → 0 ≤ x.num ∧ x.num < s.funcs.length) ∧ (x.kind = 4 → 2 ≤ x.num ∧ x.num < s.objects.length + 2) := by
  unfold SrcD.ents at h
  simp only [List.mem_append] at h
  rcases h with (((((h | h) | h) | h) | h) | h) | h <;> (obtain ⟨h1, h2, i, h3, h4, h5⟩ := ents_mem _ _ _ _ _ _ _ _ h; refine ⟨by omega, by omega, ⟨i, by omega, x.num - i, by omega, by omega, by omega⟩, fun hk => by omega, fun hk => by omega⟩)

theorem mkT_names : ∀ (l : List EntD) (t u : List NameD), mkT l t = some u → ∀ x ∈ l, IsName x.name
  | [], _, _, _, x, hx => by cases hx
  | y :: l, t, u, h, x, hx => by
    unfold mkT at h
    split at h
    · rename_i hok
      rcases List.mem_cons.1 hx with rfl | hx
      · exact (dec_iff.1 hok).1
      · exact mkT_names l _ u h x hx
    · cases h

theorem made_tab {s : SrcD} {t : List NameD} (h : mkT s.ents namesStart = some t) : TabOk t s.funcs s.objects.length ∧ NamesFit t ∧ Rises t := by
  obtain ⟨h1, h2, h3, h4⟩ := mkT_ok _ _ _ h start_rises
  refine ⟨fun y hy => ?_, fun y hy => ?_, h1⟩
  · rcases h3 y hy with hs | ⟨x, hx, rfl⟩
    · simp only [namesStart, List.mem_cons, List.not_mem_nil, or_false] at hs
      rcases hs with rfl | rfl | rfl | rfl <;> exact ⟨fun h => absurd h (by decide), fun h => absurd h (by decide)⟩
    · obtain ⟨_, _, _, h6, h7⟩ := ent_of s x hx
      exact ⟨h6, h7⟩
  · rcases h3 y hy with hs | ⟨x, hx, rfl⟩
    · simp only [namesStart, List.mem_cons, List.not_mem_nil, or_false] at hs
      rcases hs with rfl | rfl | rfl | rfl <;> exact ⟨by unfold maxLen; decide, by simp only [I64]; omega, by simp only [I64]; omega⟩
    · obtain ⟨h5, h6, ⟨i, h7, sh, h8, h9, h10⟩, _⟩ := ent_of s x hx
      have h11 := h4 x hx
      obtain ⟨_, hn, _⟩ := mkT_names _ _ _ h x hx
      exact ⟨by show x.name.size ≤ maxLen; unfold maxLen; omega, by show I64 x.kind; unfold I64; omega, by show I64 x.num; unfold I64; omega⟩
end Go.Proofs.YtblhpiebheommaaGreat
