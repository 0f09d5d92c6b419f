/- show.putObject at any object that is right. Printed by gen-sh4.py. -/
import Derived.Test.YtdeecfkipknkbaaGreatDoorShS
namespace Go.Proofs.YtdeecfkipknkbaaGreatDoor
set_option maxRecDepth 100000
set_option maxHeartbeats 20000000
open Go.RowKit Go.Sort
theorem putObj_sh (F : Nat → Prop) (w0 w : World) (x : ObjD) (cs : List Value) (b : Nat) (A : ByteArray) (hF : Inn F w0) (ht : TB w0) (ha : TA w0) (h0 : Below w0.heap.size w0 w) (hb0 : w0.heap.size ≤ b) (hb : BdH b A.data.toList w) (hr : ObjR x) (hsz : A.size + (objB x).size ≤ 1000000000000) (hx : Holds.obj.R F w0 x cs) :
 Calls Tryz.prog 43 #[.pointer (some ⟨b, 0, none⟩), .agg cs.toArray] w (fun e w' => e = .returned (.tuple #[]) ∧ Wrote b (A ++ objB x).data.toList w w') := by
 obtain ⟨x_name, x_title, x_inn, x_text, x_room, x_words, x_adjs, x_flags, x_props, x_exits⟩ := x
 obtain ⟨-, -, -, -, va5, va6, va7, va8, va9, rfl, ka5, ka6, ka7, ka8, ka9⟩ := hx
 obtain ⟨-, -, hrw, hra, hrn, hrt, hrx, hri, hrf, hrp, hre⟩ := hr
 simp only at ka5 ka6 ka7 ka8 ka9 hrw hra hrn hrt hrx hri hrf hrp hre
 obtain ⟨da5, fa5, rfl⟩ := ka5.shape
 obtain ⟨da6, fa6, rfl⟩ := ka6.shape
 obtain ⟨da7, fa7, rfl⟩ := ka7.shape
 obtain ⟨da8, fa8, rfl⟩ := ka8.shape
 obtain ⟨da9, fa9, rfl⟩ := ka9.shape
 have HKW : Hid (∀ (A : ByteArray) bx W, StA w b bx A W → Below w0.heap.size w0 W) := fun A bx W h => h0.trans (h.kept.mono hb0)
 have hROW5 := fun (W : World) (hW : Below w0.heap.size w0 W) => rowQuoted F W x_words comma _ (hF.below hW) (ka5.below hF hW (Nat.le_refl _)) (by have := hrw.1; omega) hrw.2 (by decide)
 have hROW6 := fun (W : World) (hW : Below w0.heap.size w0 W) => rowQuoted F W x_adjs comma _ (hF.below hW) (ka6.below hF hW (Nat.le_refl _)) (by have := hra.1; omega) hra.2 (by decide)
 have hROW7 := fun (W : World) (hW : Below w0.heap.size w0 W) => rowNames F W x_flags comma _ (hF.below hW) (ka7.below hF hW (Nat.le_refl _)) (by have := hrf.1; omega) hrf.2 (by decide)
 have hQ1 := fun (W : World) => quoteT_calls x_title W (by have := hrt.1; omega)
 have hQX := fun (W : World) => quoteT_calls x_text W (by have := hrx.1; omega)
 have hz := hsz
 simp only [objB, ByteArray.size_append] at hz
 have hzn := isName_size hrn
 have hzi := maybe_sz hri
 have hz1 := quote_sz hrt
 have hzx := quote_sz hrx
 have hqne : (quoteB x_text).data.toList ≠ [] := by simp [quoteB, quoteL]
 have e0 : A ++ objB ⟨x_name, x_title, x_inn, x_text, x_room, x_words, x_adjs, x_flags, x_props, x_exits⟩ = A ++ ((if x_room = true then ⟨#[114, 111, 111, 109, 32]⟩ else ⟨#[116, 104, 105, 110, 103, 32]⟩) ++ x_name ++ ⟨#[32]⟩ ++ quoteB x_title) ++ emB x_inn (⟨#[32, 105, 110, 32]⟩ ++ x_inn) ++ ⟨#[32, 123, 10]⟩ ++ emB x_text (⟨#[9, 116, 101, 120, 116, 32]⟩ ++ quoteB x_text ++ ⟨#[59, 10]⟩) ++ itemB ⟨#[119, 111, 114, 100, 115, 32]⟩ (quotedB comma x_words) ++ itemB ⟨#[97, 100, 106, 115, 32]⟩ (quotedB comma x_adjs) ++ itemB ⟨#[105, 115, 32]⟩ (sepB comma x_flags) ++ catB (x_props.map fun p => ⟨#[9]⟩ ++ valueB p) ++ catB (x_exits.map exitB) ++ ⟨#[125, 10]⟩ := by
  simp only [objB, ByteArray.append_assoc]
 rw [e0]
 obtain ⟨kB, hkB⟩ : ∃ kB : ByteArray, (if x_room = true then ⟨#[114, 111, 111, 109, 32]⟩ else ⟨#[116, 104, 105, 110, 103, 32]⟩) = kB := ⟨_, rfl⟩
 obtain ⟨q1, hq1⟩ : ∃ q1, quoteB x_title = q1 := ⟨_, rfl⟩
 obtain ⟨E2, hE2⟩ : ∃ E, emB x_inn (⟨#[32, 105, 110, 32]⟩ ++ x_inn) = E := ⟨_, rfl⟩
 obtain ⟨E4, hE4⟩ : ∃ E, emB x_text (⟨#[9, 116, 101, 120, 116, 32]⟩ ++ quoteB x_text ++ ⟨#[59, 10]⟩) = E := ⟨_, rfl⟩
 obtain ⟨q5, hq5⟩ : ∃ q, quotedB comma x_words = q := ⟨_, rfl⟩
 obtain ⟨q6, hq6⟩ : ∃ q, quotedB comma x_adjs = q := ⟨_, rfl⟩
 obtain ⟨q7, hq7⟩ : ∃ q, sepB comma x_flags = q := ⟨_, rfl⟩
 obtain ⟨ps, hps⟩ : ∃ ps, x_props.map (fun p => ⟨#[9]⟩ ++ valueB p) = ps := ⟨_, rfl⟩
 obtain ⟨es, hes⟩ : ∃ es, x_exits.map exitB = es := ⟨_, rfl⟩
 rw [hkB, hq1, hE2, hE4, hq5, hq6, hq7, hps, hes] at hz ⊢
 simp only [hq5] at hROW5; simp only [hq6] at hROW6; simp only [hq7] at hROW7; simp only [hq1] at hQ1
 rw [hq1] at hz1
 have hE2z : E2.size ≤ 100 := by
  have h := emB_sz x_inn (⟨#[32, 105, 110, 32]⟩ ++ x_inn)
  have e : (⟨#[32, 105, 110, 32]⟩ : ByteArray).size = 4 := rfl
  rw [hE2, ByteArray.size_append] at h
  omega
 have hEt2 : Hid (x_inn ≠ ⟨#[]⟩ → E2 = ⟨#[32, 105, 110, 32]⟩ ++ x_inn) := fun h => by rw [← hE2]; unfold emB; rw [if_neg h]
 have hEf2 : Hid (x_inn = ⟨#[]⟩ → E2 = ⟨#[]⟩) := fun h => by rw [← hE2]; unfold emB; rw [if_pos h]
 have hEt4 : Hid (x_text ≠ ⟨#[]⟩ → E4 = itemB ⟨#[116, 101, 120, 116, 32]⟩ (quoteB x_text)) := fun h => by
  rw [← hE4]; unfold itemB emB
  rw [if_neg h, if_neg (fun e => hqne (by rw [e])), show (⟨#[9, 116, 101, 120, 116, 32]⟩ : ByteArray) = ⟨#[9]⟩ ++ ⟨#[116, 101, 120, 116, 32]⟩ from rfl]
 have hEf4 : Hid (x_text = ⟨#[]⟩ → E4 = ⟨#[]⟩) := fun h => by rw [← hE4]; unfold emB; rw [if_pos h]
 obtain ⟨qx, hqx⟩ : ∃ q, quoteB x_text = q := ⟨_, rfl⟩
 rw [hqx] at hzx hEt4
 simp only [hqx] at hQX
 obtain ⟨A1, hA1⟩ : ∃ B, A ++ (kB ++ x_name ++ ⟨#[32]⟩ ++ q1) = B := ⟨_, rfl⟩
 obtain ⟨A2, hA2⟩ : ∃ B, A1 ++ E2 = B := ⟨_, rfl⟩
 obtain ⟨A3, hA3⟩ : ∃ B, A2 ++ ⟨#[32, 123, 10]⟩ = B := ⟨_, rfl⟩
 obtain ⟨A4, hA4⟩ : ∃ B, A3 ++ E4 = B := ⟨_, rfl⟩
 obtain ⟨A5, hA5⟩ : ∃ B, A4 ++ itemB ⟨#[119, 111, 114, 100, 115, 32]⟩ q5 = B := ⟨_, rfl⟩
 obtain ⟨A6, hA6⟩ : ∃ B, A5 ++ itemB ⟨#[97, 100, 106, 115, 32]⟩ q6 = B := ⟨_, rfl⟩
 obtain ⟨A7, hA7⟩ : ∃ B, A6 ++ itemB ⟨#[105, 115, 32]⟩ q7 = B := ⟨_, rfl⟩
 obtain ⟨A8, hA8⟩ : ∃ B, A7 ++ catB ps = B := ⟨_, rfl⟩
 obtain ⟨A9, hA9⟩ : ∃ B, A8 ++ catB es = B := ⟨_, rfl⟩
 rw [hA1, hA2, hA3, hA4, hA5, hA6, hA7, hA8, hA9]
 have z3 : (⟨#[32, 123, 10]⟩ : ByteArray).size = 3 := rfl
 have z10 : (⟨#[125, 10]⟩ : ByteArray).size = 2 := rfl
 have z32 : (⟨#[32]⟩ : ByteArray).size = 1 := rfl
 have s1 : A1.size = A.size + (kB.size + x_name.size + 1 + q1.size) := by rw [← hA1]; simp only [ByteArray.size_append, z32]
 have s2 : A2.size = A1.size + E2.size := by rw [← hA2, ByteArray.size_append]
 have s3 : A3.size = A2.size + 3 := by rw [← hA3, ByteArray.size_append, z3]
 have s4 : A4.size = A3.size + E4.size := by rw [← hA4, ByteArray.size_append]
 have s5 : A5.size = A4.size + (itemB ⟨#[119, 111, 114, 100, 115, 32]⟩ q5).size := by rw [← hA5, ByteArray.size_append]
 have s6 : A6.size = A5.size + (itemB ⟨#[97, 100, 106, 115, 32]⟩ q6).size := by rw [← hA6, ByteArray.size_append]
 have s7 : A7.size = A6.size + (itemB ⟨#[105, 115, 32]⟩ q7).size := by rw [← hA7, ByteArray.size_append]
 have s8 : A8.size = A7.size + (catB ps).size := by rw [← hA8, ByteArray.size_append]
 have s9 : A9.size = A8.size + (catB es).size := by rw [← hA9, ByteArray.size_append]
 have hz9 : A9.size ≤ 1000000000000 := by omega
 have hkz : kB.size ≤ 6 := by rw [← hkB]; split <;> decide
 have hz5 : q5.size ≤ 20000 := by rw [← hq5]; exact Nat.le_trans (quotedB_sz comma (by decide) (m := 8) (by have := hrw.1; omega) hrw.2) (by decide)
 have hz6 : q6.size ≤ 20000 := by rw [← hq6]; exact Nat.le_trans (quotedB_sz comma (by decide) (m := 8) (by have := hra.1; omega) hra.2) (by decide)
 have hz7 : q7.size ≤ 20000 := by rw [← hq7]; exact Nat.le_trans (names_sz comma (by decide) (m := 16) (by have := hrf.1; omega) hrf.2) (by decide)
 have hmf : ∀ (fn : Fn) (first cap : Array Value) (w : World), (Instr.makeFunc fn first cap).run Tryz.prog w = .ok (.func fn first cap) w := fun _ _ _ _ => rfl
 have hcc : ∀ (args : Array Value) (w : World), (callFunc 111 args).run Tryz.prog w = .ok (.enter 111 args) w := fun _ _ => by kernel_rfl
 obtain ⟨W1, hW1⟩ : ∃ W, w.alloc (.cells #[.pointer (some ⟨b, 0, none⟩)] 73) = W := ⟨_, rfl⟩
 obtain ⟨W2, hW2⟩ : ∃ W, W1.alloc (.cells #[.string x_name, .string x_title, .string x_inn, .string x_text, .bool x_room, .slice da5 x_words.length fa5, .slice da6 x_adjs.length fa6, .slice da7 x_flags.length fa7, .slice da8 x_props.length fa8, .slice da9 x_exits.length fa9] 63) = W := ⟨_, rfl⟩
 have HSA : Hid (StA w b [(w.heap.size + 1, [.string x_name, .string x_title, .string x_inn, .string x_text, .bool x_room, .slice da5 x_words.length fa5, .slice da6 x_adjs.length fa6, .slice da7 x_flags.length fa7, .slice da8 x_props.length fa8, .slice da9 x_exits.length fa9], 63), (w.heap.size, [.pointer (some ⟨b, 0, none⟩)], 73)] A W2) := by
  show StA w b [(w.heap.size + 1, [.string x_name, .string x_title, .string x_inn, .string x_text, .bool x_room, .slice da5 x_words.length fa5, .slice da6 x_adjs.length fa6, .slice da7 x_flags.length fa7, .slice da8 x_props.length fa8, .slice da9 x_exits.length fa9], 63), (w.heap.size, [.pointer (some ⟨b, 0, none⟩)], 73)] A W2
  have h1 := StA.add (bx := []) (A := A) (StB.start hb) [.pointer (some ⟨b, 0, none⟩)] 73 (by decide)
  rw [hW1] at h1
  have h2 := h1.add [.string x_name, .string x_title, .string x_inn, .string x_text, .bool x_room, .slice da5 x_words.length fa5, .slice da6 x_adjs.length fa6, .slice da7 x_flags.length fa7, .slice da8 x_props.length fa8, .slice da9 x_exits.length fa9] 63 (by decide)
  rw [hW2, show W1.heap.size = w.heap.size + 1 by rw [← hW1]; simp] at h2
  exact h2
 have HW1 := Lib.hid hW1; have HW2 := Lib.hid hW2
 have HT1 : Hid (∀ W, StA w b [(w.heap.size + 1, [.string x_name, .string x_title, .string x_inn, .string x_text, .bool x_room, .slice da5 x_words.length fa5, .slice da6 x_adjs.length fa6, .slice da7 x_flags.length fa7, .slice da8 x_props.length fa8, .slice da9 x_exits.length fa9], 63), (w.heap.size, [.pointer (some ⟨b, 0, none⟩)], 73)] A W → Calls Tryz.prog 37 #[.pointer (some ⟨b, 0, none⟩), .string (kB ++ x_name ++ ⟨#[32]⟩ ++ q1)] W fun e w' => e = .returned (.tuple #[.int .i64 ((kB ++ x_name ++ ⟨#[32]⟩ ++ q1) : ByteArray).size, .nilIface]) ∧ StA w b [(w.heap.size + 1, [.string x_name, .string x_title, .string x_inn, .string x_text, .bool x_room, .slice da5 x_words.length fa5, .slice da6 x_adjs.length fa6, .slice da7 x_flags.length fa7, .slice da8 x_props.length fa8, .slice da9 x_exits.length fa9], 63), (w.heap.size, [.pointer (some ⟨b, 0, none⟩)], 73)] A1 w') := fun W h => by rw [← hA1]; exact h.text _ (by simp only [ByteArray.size_append, z32]; omega)
 have HT2 : Hid (∀ W, StA w b [(w.heap.size + 1, [.string x_name, .string x_title, .string x_inn, .string x_text, .bool x_room, .slice da5 x_words.length fa5, .slice da6 x_adjs.length fa6, .slice da7 x_flags.length fa7, .slice da8 x_props.length fa8, .slice da9 x_exits.length fa9], 63), (w.heap.size, [.pointer (some ⟨b, 0, none⟩)], 73)] A1 W → Calls Tryz.prog 37 #[.pointer (some ⟨b, 0, none⟩), .string (⟨#[32, 105, 110, 32]⟩ ++ x_inn)] W fun e w' => e = .returned (.tuple #[.int .i64 ((⟨#[32, 105, 110, 32]⟩ ++ x_inn) : ByteArray).size, .nilIface]) ∧ StA w b [(w.heap.size + 1, [.string x_name, .string x_title, .string x_inn, .string x_text, .bool x_room, .slice da5 x_words.length fa5, .slice da6 x_adjs.length fa6, .slice da7 x_flags.length fa7, .slice da8 x_props.length fa8, .slice da9 x_exits.length fa9], 63), (w.heap.size, [.pointer (some ⟨b, 0, none⟩)], 73)] (A1 ++ (⟨#[32, 105, 110, 32]⟩ ++ x_inn)) w') := fun W h => h.text _ (by
  have e : (⟨#[32, 105, 110, 32]⟩ : ByteArray).size = 4 := rfl
  rw [ByteArray.size_append]; omega)
 have HT3 : Hid (∀ W, StA w b [(w.heap.size + 1, [.string x_name, .string x_title, .string x_inn, .string x_text, .bool x_room, .slice da5 x_words.length fa5, .slice da6 x_adjs.length fa6, .slice da7 x_flags.length fa7, .slice da8 x_props.length fa8, .slice da9 x_exits.length fa9], 63), (w.heap.size, [.pointer (some ⟨b, 0, none⟩)], 73)] A2 W → Calls Tryz.prog 37 #[.pointer (some ⟨b, 0, none⟩), .string ⟨#[32, 123, 10]⟩] W fun e w' => e = .returned (.tuple #[.int .i64 (⟨#[32, 123, 10]⟩ : ByteArray).size, .nilIface]) ∧ StA w b [(w.heap.size + 1, [.string x_name, .string x_title, .string x_inn, .string x_text, .bool x_room, .slice da5 x_words.length fa5, .slice da6 x_adjs.length fa6, .slice da7 x_flags.length fa7, .slice da8 x_props.length fa8, .slice da9 x_exits.length fa9], 63), (w.heap.size, [.pointer (some ⟨b, 0, none⟩)], 73)] A3 w') := fun W h => by rw [← hA3]; exact h.text _ (by rw [z3]; omega)
 have HT10 : Hid (∀ W, StA w b [(w.heap.size + 1, [.string x_name, .string x_title, .string x_inn, .string x_text, .bool x_room, .slice da5 x_words.length fa5, .slice da6 x_adjs.length fa6, .slice da7 x_flags.length fa7, .slice da8 x_props.length fa8, .slice da9 x_exits.length fa9], 63), (w.heap.size, [.pointer (some ⟨b, 0, none⟩)], 73)] A9 W → Calls Tryz.prog 37 #[.pointer (some ⟨b, 0, none⟩), .string ⟨#[125, 10]⟩] W fun e w' => e = .returned (.tuple #[.int .i64 (⟨#[125, 10]⟩ : ByteArray).size, .nilIface]) ∧ StA w b [(w.heap.size + 1, [.string x_name, .string x_title, .string x_inn, .string x_text, .bool x_room, .slice da5 x_words.length fa5, .slice da6 x_adjs.length fa6, .slice da7 x_flags.length fa7, .slice da8 x_props.length fa8, .slice da9 x_exits.length fa9], 63), (w.heap.size, [.pointer (some ⟨b, 0, none⟩)], 73)] (A9 ++ ⟨#[125, 10]⟩) w') := fun W h => h.text _ (by rw [z10]; omega)
 have HI4 : Hid (∀ W, StA w b [(w.heap.size + 1, [.string x_name, .string x_title, .string x_inn, .string x_text, .bool x_room, .slice da5 x_words.length fa5, .slice da6 x_adjs.length fa6, .slice da7 x_flags.length fa7, .slice da8 x_props.length fa8, .slice da9 x_exits.length fa9], 63), (w.heap.size, [.pointer (some ⟨b, 0, none⟩)], 73)] A3 W → Calls Tryz.prog 111 #[.string ⟨#[116, 101, 120, 116, 32]⟩, .string qx, .pointer (some ⟨w.heap.size, 0, none⟩)] W (fun e w' => e = .returned (.tuple #[]) ∧ StA w b [(w.heap.size + 1, [.string x_name, .string x_title, .string x_inn, .string x_text, .bool x_room, .slice da5 x_words.length fa5, .slice da6 x_adjs.length fa6, .slice da7 x_flags.length fa7, .slice da8 x_props.length fa8, .slice da9 x_exits.length fa9], 63), (w.heap.size, [.pointer (some ⟨b, 0, none⟩)], 73)] (A3 ++ itemB ⟨#[116, 101, 120, 116, 32]⟩ qx) w')) := fun W h => by exact item_sh w W b w.heap.size _ A3 _ _ h (by simp) (by omega) (by decide) (by omega)
 have HI5 : Hid (∀ W, StA w b [(w.heap.size + 1, [.string x_name, .string x_title, .string x_inn, .string x_text, .bool x_room, .slice da5 x_words.length fa5, .slice da6 x_adjs.length fa6, .slice da7 x_flags.length fa7, .slice da8 x_props.length fa8, .slice da9 x_exits.length fa9], 63), (w.heap.size, [.pointer (some ⟨b, 0, none⟩)], 73)] A4 W → Calls Tryz.prog 111 #[.string ⟨#[119, 111, 114, 100, 115, 32]⟩, .string q5, .pointer (some ⟨w.heap.size, 0, none⟩)] W (fun e w' => e = .returned (.tuple #[]) ∧ StA w b [(w.heap.size + 1, [.string x_name, .string x_title, .string x_inn, .string x_text, .bool x_room, .slice da5 x_words.length fa5, .slice da6 x_adjs.length fa6, .slice da7 x_flags.length fa7, .slice da8 x_props.length fa8, .slice da9 x_exits.length fa9], 63), (w.heap.size, [.pointer (some ⟨b, 0, none⟩)], 73)] A5 w')) := fun W h => by rw [← hA5]; exact item_sh w W b w.heap.size _ A4 _ _ h (by simp) (by omega) (by decide) (by omega)
 have HI6 : Hid (∀ W, StA w b [(w.heap.size + 1, [.string x_name, .string x_title, .string x_inn, .string x_text, .bool x_room, .slice da5 x_words.length fa5, .slice da6 x_adjs.length fa6, .slice da7 x_flags.length fa7, .slice da8 x_props.length fa8, .slice da9 x_exits.length fa9], 63), (w.heap.size, [.pointer (some ⟨b, 0, none⟩)], 73)] A5 W → Calls Tryz.prog 111 #[.string ⟨#[97, 100, 106, 115, 32]⟩, .string q6, .pointer (some ⟨w.heap.size, 0, none⟩)] W (fun e w' => e = .returned (.tuple #[]) ∧ StA w b [(w.heap.size + 1, [.string x_name, .string x_title, .string x_inn, .string x_text, .bool x_room, .slice da5 x_words.length fa5, .slice da6 x_adjs.length fa6, .slice da7 x_flags.length fa7, .slice da8 x_props.length fa8, .slice da9 x_exits.length fa9], 63), (w.heap.size, [.pointer (some ⟨b, 0, none⟩)], 73)] A6 w')) := fun W h => by rw [← hA6]; exact item_sh w W b w.heap.size _ A5 _ _ h (by simp) (by omega) (by decide) (by omega)
 have HI7 : Hid (∀ W, StA w b [(w.heap.size + 1, [.string x_name, .string x_title, .string x_inn, .string x_text, .bool x_room, .slice da5 x_words.length fa5, .slice da6 x_adjs.length fa6, .slice da7 x_flags.length fa7, .slice da8 x_props.length fa8, .slice da9 x_exits.length fa9], 63), (w.heap.size, [.pointer (some ⟨b, 0, none⟩)], 73)] A6 W → Calls Tryz.prog 111 #[.string ⟨#[105, 115, 32]⟩, .string q7, .pointer (some ⟨w.heap.size, 0, none⟩)] W (fun e w' => e = .returned (.tuple #[]) ∧ StA w b [(w.heap.size + 1, [.string x_name, .string x_title, .string x_inn, .string x_text, .bool x_room, .slice da5 x_words.length fa5, .slice da6 x_adjs.length fa6, .slice da7 x_flags.length fa7, .slice da8 x_props.length fa8, .slice da9 x_exits.length fa9], 63), (w.heap.size, [.pointer (some ⟨b, 0, none⟩)], 73)] A7 w')) := fun W h => by rw [← hA7]; exact item_sh w W b w.heap.size _ A6 _ _ h (by simp) (by omega) (by decide) (by omega)
 have hpl : ps.length = x_props.length := by rw [← hps]; simp
 have hel : es.length = x_exits.length := by rw [← hes]; simp
 have HPI : Hid (∀ i (hi : i < x_props.length), ps[i]? = some (⟨#[9]⟩ ++ valueB x_props[i])) := fun i hi => by rw [← hps, List.getElem?_map, List.getElem?_eq_getElem hi]; rfl
 have HEI : Hid (∀ i (hi : i < x_exits.length), es[i]? = some (exitB x_exits[i])) := fun i hi => by rw [← hes, List.getElem?_map, List.getElem?_eq_getElem hi]; rfl
 obtain ⟨_, _, he, hl8, hc8, h8o⟩ := ka8.opn
 cases he
 obtain ⟨_, _, he, hl9, hc9, h9o⟩ := ka9.opn
 cases he
 unfold maxLen at hc8 hc9
 have HROW5 := Lib.hid hROW5; have HROW6 := Lib.hid hROW6; have HROW7 := Lib.hid hROW7; have HQ1 := Lib.hid hQ1; have HQX := Lib.hid hQX
 have H8 := Lib.hid h8o; have H9 := Lib.hid h9o; have HF := Lib.hid hF; have HTB := Lib.hid ht; have HTA := Lib.hid ha
 have HRP := Lib.hid hrp; have HRE := Lib.hid hre; have HKB := Lib.hid hkB; have HPL := Lib.hid hpl; have HEL := Lib.hid hel
 have HA8 := Lib.hid hA8; have HA9 := Lib.hid hA9; have HZ8 := Lib.hid s8; have HZ9 := Lib.hid s9
 have HA2 := Lib.hid hA2; have HA4 := Lib.hid hA4
 have hz7a : A7.size ≤ 1000000000000 := by omega
 have hz8a : A8.size ≤ 1000000000000 := by omega
 have hlp : x_props.length ≤ 16 := by have := hrp.1; omega
 have hlx : x_exits.length ≤ 12 := by have := hre.1; omega
 clear hW1 hW2 hb hROW5 hROW6 hROW7 hQ1 hQX h8o h9o hF ht ha ka5 ka6 ka7 ka8 ka9 hrw hra hrn hrt hrx hri hrf hrp hre hz hsz e0 hkB hq1 hE2 hE4 hq5 hq6 hq7 hps hes hqx hA1 hA2 hA3 hA4 hA5 hA6 hA7 hA8 hA9 s1 s2 s3 s4 s5 s6 s7 s8 s9 hpl hel hqne h0 z3 z10 z32
 have hS := HSA.out
 clear HSA
 go_enter Tryz.func43, Tryz.ntmps43
 go_upto_region 1 with fail
 rw [HW1.out, HW2.out]
 have g0 := hS.cell w.heap.size [.pointer (some ⟨b, 0, none⟩)] 73 (by simp) 0
 have q := fun j => hS.cell (w.heap.size + 1) [.string x_name, .string x_title, .string x_inn, .string x_text, .bool x_room, .slice da5 x_words.length fa5, .slice da6 x_adjs.length fa6, .slice da7 x_flags.length fa7, .slice da8 x_props.length fa8, .slice da9 x_exits.length fa9] 63 (by simp) j
 have h0 := q 0
 have h1 := q 1
 have h2 := q 2
 have h3 := q 3
 have h4 := q 4
 have h5 := q 5
 have h6 := q 6
 have h7 := q 7
 have h8 := q 8
 have h9 := q 9
 simp only [cqs, cqz] at g0 h0 h1 h2 h3 h4 h5 h6 h7 h8 h9
 clear q
 go_upto_if 11 with fail
 go_cut [4] (fun v wc => v = .string kB ∧ W2 = wc)
 case first =>
  cases x_room
  · have hk := HKB.out
    simp only [Bool.false_eq_true, if_false] at hk
    go_wp2_with fail
    go_meet
    exact ⟨by rw [← hk], rfl⟩
  have hk := HKB.out
  simp only [if_true] at hk
  go_wp2_with fail
  go_meet
  exact ⟨by rw [← hk], rfl⟩
 case rest =>
  obtain ⟨rfl, rfl⟩ := hcut
  clear HKB
  go_upto_region 4 with fail
  have K := @rg' Tryz.prog W2
  have HKQ := Lib.hid (K (fun W (_ : Below W2.heap.size W2 W) => HQ1.out W))
  clear K
  have zg0 := fun d os => cell_regrown g0 d os
  have zh0 := fun d os => cell_regrown h0 d os
  have zh1 := fun d os => cell_regrown h1 d os
  refine wp_region_quiet_last_below 10 (by kernel_rfl) rfl rfl (by kernel_rfl) ?_
  simp only [List.dropLast]
  repeat (go_big_quiet_step (first | with_reducible exact HKQ.out _))
  refine wpQuiet_nil ?_
  intro wq hbq
  clear zg0 zh0 zh1 HKQ
  have hS2 := hS.below hbq
  clear g0 h0 h1 h2 h3 h4 h5 h6 h7 h8 h9 hS hbq
  have hS := hS2
  clear hS2
  have g0 := hS.cell w.heap.size [.pointer (some ⟨b, 0, none⟩)] 73 (by simp) 0
  have q := fun j => hS.cell (w.heap.size + 1) [.string x_name, .string x_title, .string x_inn, .string x_text, .bool x_room, .slice da5 x_words.length fa5, .slice da6 x_adjs.length fa6, .slice da7 x_flags.length fa7, .slice da8 x_props.length fa8, .slice da9 x_exits.length fa9] 63 (by simp) j
  have h0 := q 0
  have h1 := q 1
  have h2 := q 2
  have h3 := q 3
  have h4 := q 4
  have h5 := q 5
  have h6 := q 6
  have h7 := q 7
  have h8 := q 8
  have h9 := q 9
  simp only [cqs, cqz] at g0 h0 h1 h2 h3 h4 h5 h6 h7 h8 h9
  clear q
  go_upto_region 5 with (go_at_call 37; (with_reducible refine (HT1.out _ hS).mono ?_); rintro e w4 ⟨rfl, hS2⟩; clear g0 h0 h1 h2 h3 h4 h5 h6 h7 h8 h9 hS; have hS := hS2; clear hS2; have g0 := hS.cell w.heap.size [.pointer (some ⟨b, 0, none⟩)] 73 (by simp) 0; have q := fun j => hS.cell (w.heap.size + 1) [.string x_name, .string x_title, .string x_inn, .string x_text, .bool x_room, .slice da5 x_words.length fa5, .slice da6 x_adjs.length fa6, .slice da7 x_flags.length fa7, .slice da8 x_props.length fa8, .slice da9 x_exits.length fa9] 63 (by simp) j; have h0 := q 0; have h1 := q 1; have h2 := q 2; have h3 := q 3; have h4 := q 4; have h5 := q 5; have h6 := q 6; have h7 := q 7; have h8 := q 8; have h9 := q 9; simp only [cqs, cqz] at g0 h0 h1 h2 h3 h4 h5 h6 h7 h8 h9; clear q)
  obtain ⟨wY, hwY⟩ : ∃ x : World, x = w4 := ⟨_, rfl⟩
  rw [← hwY] at hS g0 h0 h1 h2 h3 h4 h5 h6 h7 h8 h9 ⊢
  clear hwY
  go_cut [25] (fun v wc => Hid (∃ t : Bool, v = .bool t ∧ (t = true → E2 = (⟨#[32, 105, 110, 32]⟩ ++ x_inn)) ∧ (t = false → E2 = ⟨#[]⟩) ∧ wY = wc))
  case first =>
   by_cases hn : x_inn = ⟨#[]⟩
   · have hev : x_inn.toList.isEmpty = true := emp_t hn
     have hf := Lib.hid (hEf2.out hn)
     clear hn
     go_wp2_with fail
     go_meet
     exact ⟨false, rfl, fun h => (by cases h), fun _ => hf.out, rfl⟩
   have hev : x_inn.toList.isEmpty = false := emp_f hn
   have hf := Lib.hid (hEt2.out hn)
   clear hn
   go_wp2_with fail
   go_meet
   exact ⟨true, rfl, fun _ => hf.out, fun h => (by cases h), rfl⟩
  case rest =>
   obtain ⟨t, rfl, hbt, hbf, rfl⟩ := hcut.out
   have HBT := Lib.hid hbt; have HBF := Lib.hid hbf
   clear hcut hbt hbf hEt2 hEf2
   go_upto_if 25 with fail
   go_cut [] (fun wc => Hid (StA w b [(w.heap.size + 1, [.string x_name, .string x_title, .string x_inn, .string x_text, .bool x_room, .slice da5 x_words.length fa5, .slice da6 x_adjs.length fa6, .slice da7 x_flags.length fa7, .slice da8 x_props.length fa8, .slice da9 x_exits.length fa9], 63), (w.heap.size, [.pointer (some ⟨b, 0, none⟩)], 73)] A2 wc))
   case first =>
    cases t
    · have hf := Lib.hid (HBF.out rfl)
      go_wp2_with fail
      go_meet
      exact hS.same (by rw [← HA2.out, hf.out, app_emp])
    have hf := Lib.hid (HBT.out rfl)
    go_wp2_with (go_at_call 37; (with_reducible refine (HT2.out _ hS).mono ?_); rintro e w4 ⟨rfl, hS2⟩; clear g0 h0 h1 h2 h3 h4 h5 h6 h7 h8 h9 hS; have hS := hS2; clear hS2; have g0 := hS.cell w.heap.size [.pointer (some ⟨b, 0, none⟩)] 73 (by simp) 0; have q := fun j => hS.cell (w.heap.size + 1) [.string x_name, .string x_title, .string x_inn, .string x_text, .bool x_room, .slice da5 x_words.length fa5, .slice da6 x_adjs.length fa6, .slice da7 x_flags.length fa7, .slice da8 x_props.length fa8, .slice da9 x_exits.length fa9] 63 (by simp) j; have h0 := q 0; have h1 := q 1; have h2 := q 2; have h3 := q 3; have h4 := q 4; have h5 := q 5; have h6 := q 6; have h7 := q 7; have h8 := q 8; have h9 := q 9; simp only [cqs, cqz] at g0 h0 h1 h2 h3 h4 h5 h6 h7 h8 h9; clear q)
    go_meet
    exact hS.same (by rw [← HA2.out, hf.out])
   case rest =>
    clear g0 h0 h1 h2 h3 h4 h5 h6 h7 h8 h9 hS
    have hS := hcut.out
    clear hcut HBT HBF HA2
    have g0 := hS.cell w.heap.size [.pointer (some ⟨b, 0, none⟩)] 73 (by simp) 0
    have q := fun j => hS.cell (w.heap.size + 1) [.string x_name, .string x_title, .string x_inn, .string x_text, .bool x_room, .slice da5 x_words.length fa5, .slice da6 x_adjs.length fa6, .slice da7 x_flags.length fa7, .slice da8 x_props.length fa8, .slice da9 x_exits.length fa9] 63 (by simp) j
    have h0 := q 0
    have h1 := q 1
    have h2 := q 2
    have h3 := q 3
    have h4 := q 4
    have h5 := q 5
    have h6 := q 6
    have h7 := q 7
    have h8 := q 8
    have h9 := q 9
    simp only [cqs, cqz] at g0 h0 h1 h2 h3 h4 h5 h6 h7 h8 h9
    clear q
    go_upto_region 9 with (go_at_call 37; (with_reducible refine (HT3.out _ hS).mono ?_); rintro e w4 ⟨rfl, hS2⟩; clear g0 h0 h1 h2 h3 h4 h5 h6 h7 h8 h9 hS; have hS := hS2; clear hS2; have g0 := hS.cell w.heap.size [.pointer (some ⟨b, 0, none⟩)] 73 (by simp) 0; have q := fun j => hS.cell (w.heap.size + 1) [.string x_name, .string x_title, .string x_inn, .string x_text, .bool x_room, .slice da5 x_words.length fa5, .slice da6 x_adjs.length fa6, .slice da7 x_flags.length fa7, .slice da8 x_props.length fa8, .slice da9 x_exits.length fa9] 63 (by simp) j; have h0 := q 0; have h1 := q 1; have h2 := q 2; have h3 := q 3; have h4 := q 4; have h5 := q 5; have h6 := q 6; have h7 := q 7; have h8 := q 8; have h9 := q 9; simp only [cqs, cqz] at g0 h0 h1 h2 h3 h4 h5 h6 h7 h8 h9; clear q)
    obtain ⟨wY, hwY⟩ : ∃ x : World, x = w4 := ⟨_, rfl⟩
    rw [← hwY] at hS g0 h0 h1 h2 h3 h4 h5 h6 h7 h8 h9 ⊢
    clear hwY
    go_cut [36] (fun v wc => Hid (∃ t : Bool, v = .bool t ∧ (t = true → E4 = itemB ⟨#[116, 101, 120, 116, 32]⟩ qx) ∧ (t = false → E4 = ⟨#[]⟩) ∧ wY = wc))
    case first =>
     by_cases hn : x_text = ⟨#[]⟩
     · have hev : x_text.toList.isEmpty = true := emp_t hn
       have hf := Lib.hid (hEf4.out hn)
       clear hn
       go_wp2_with fail
       go_meet
       exact ⟨false, rfl, fun h => (by cases h), fun _ => hf.out, rfl⟩
     have hev : x_text.toList.isEmpty = false := emp_f hn
     have hf := Lib.hid (hEt4.out hn)
     clear hn
     go_wp2_with fail
     go_meet
     exact ⟨true, rfl, fun _ => hf.out, fun h => (by cases h), rfl⟩
    case rest =>
     obtain ⟨t, rfl, hbt, hbf, rfl⟩ := hcut.out
     have HBT := Lib.hid hbt; have HBF := Lib.hid hbf
     clear hcut hbt hbf hEt4 hEf4
     go_upto_if 36 with fail
     go_cut [] (fun wc => Hid (StA w b [(w.heap.size + 1, [.string x_name, .string x_title, .string x_inn, .string x_text, .bool x_room, .slice da5 x_words.length fa5, .slice da6 x_adjs.length fa6, .slice da7 x_flags.length fa7, .slice da8 x_props.length fa8, .slice da9 x_exits.length fa9], 63), (w.heap.size, [.pointer (some ⟨b, 0, none⟩)], 73)] A4 wc))
     case first =>
      cases t
      · have hf := Lib.hid (HBF.out rfl)
        go_wp2_with fail
        go_meet
        exact hS.same (by rw [← HA4.out, hf.out, app_emp])
      have hf := Lib.hid (HBT.out rfl)
      go_wp2_with (first | (go_at_call 38; (with_reducible refine (HQX.out _).mono ?_); rintro e w4 ⟨rfl, hb4⟩; have hS2 := hS.below hb4; clear g0 h0 h1 h2 h3 h4 h5 h6 h7 h8 h9 hS hb4; have hS := hS2; clear hS2; have g0 := hS.cell w.heap.size [.pointer (some ⟨b, 0, none⟩)] 73 (by simp) 0; have q := fun j => hS.cell (w.heap.size + 1) [.string x_name, .string x_title, .string x_inn, .string x_text, .bool x_room, .slice da5 x_words.length fa5, .slice da6 x_adjs.length fa6, .slice da7 x_flags.length fa7, .slice da8 x_props.length fa8, .slice da9 x_exits.length fa9] 63 (by simp) j; have h0 := q 0; have h1 := q 1; have h2 := q 2; have h3 := q 3; have h4 := q 4; have h5 := q 5; have h6 := q 6; have h7 := q 7; have h8 := q 8; have h9 := q 9; simp only [cqs, cqz] at g0 h0 h1 h2 h3 h4 h5 h6 h7 h8 h9; clear q) | (go_at_call 111; (with_reducible refine (HI4.out _ hS).mono ?_); rintro e w4 ⟨rfl, hS2⟩; clear g0 h0 h1 h2 h3 h4 h5 h6 h7 h8 h9 hS; have hS := hS2; clear hS2; have g0 := hS.cell w.heap.size [.pointer (some ⟨b, 0, none⟩)] 73 (by simp) 0; have q := fun j => hS.cell (w.heap.size + 1) [.string x_name, .string x_title, .string x_inn, .string x_text, .bool x_room, .slice da5 x_words.length fa5, .slice da6 x_adjs.length fa6, .slice da7 x_flags.length fa7, .slice da8 x_props.length fa8, .slice da9 x_exits.length fa9] 63 (by simp) j; have h0 := q 0; have h1 := q 1; have h2 := q 2; have h3 := q 3; have h4 := q 4; have h5 := q 5; have h6 := q 6; have h7 := q 7; have h8 := q 8; have h9 := q 9; simp only [cqs, cqz] at g0 h0 h1 h2 h3 h4 h5 h6 h7 h8 h9; clear q))
      go_meet
      exact hS.same (by rw [← HA4.out, hf.out])
     case rest =>
      clear g0 h0 h1 h2 h3 h4 h5 h6 h7 h8 h9 hS
      have hS := hcut.out
      clear hcut HBT HBF HA4
      have g0 := hS.cell w.heap.size [.pointer (some ⟨b, 0, none⟩)] 73 (by simp) 0
      have q := fun j => hS.cell (w.heap.size + 1) [.string x_name, .string x_title, .string x_inn, .string x_text, .bool x_room, .slice da5 x_words.length fa5, .slice da6 x_adjs.length fa6, .slice da7 x_flags.length fa7, .slice da8 x_props.length fa8, .slice da9 x_exits.length fa9] 63 (by simp) j
      have h0 := q 0
      have h1 := q 1
      have h2 := q 2
      have h3 := q 3
      have h4 := q 4
      have h5 := q 5
      have h6 := q 6
      have h7 := q 7
      have h8 := q 8
      have h9 := q 9
      simp only [cqs, cqz] at g0 h0 h1 h2 h3 h4 h5 h6 h7 h8 h9
      clear q
      go_wp2_with (first | (go_at_call 40; (with_reducible refine (HROW5.out _ (HKW.out _ _ _ hS)).mono ?_); rintro e w4 ⟨rfl, hb4⟩; have hS2 := hS.below hb4; clear g0 h0 h1 h2 h3 h4 h5 h6 h7 h8 h9 hS hb4; have hS := hS2; clear hS2; have g0 := hS.cell w.heap.size [.pointer (some ⟨b, 0, none⟩)] 73 (by simp) 0; have q := fun j => hS.cell (w.heap.size + 1) [.string x_name, .string x_title, .string x_inn, .string x_text, .bool x_room, .slice da5 x_words.length fa5, .slice da6 x_adjs.length fa6, .slice da7 x_flags.length fa7, .slice da8 x_props.length fa8, .slice da9 x_exits.length fa9] 63 (by simp) j; have h0 := q 0; have h1 := q 1; have h2 := q 2; have h3 := q 3; have h4 := q 4; have h5 := q 5; have h6 := q 6; have h7 := q 7; have h8 := q 8; have h9 := q 9; simp only [cqs, cqz] at g0 h0 h1 h2 h3 h4 h5 h6 h7 h8 h9; clear q) | (go_at_call 111; (with_reducible refine (HI5.out _ hS).mono ?_); rintro e w4 ⟨rfl, hS2⟩; clear g0 h0 h1 h2 h3 h4 h5 h6 h7 h8 h9 hS; have hS := hS2; clear hS2; have g0 := hS.cell w.heap.size [.pointer (some ⟨b, 0, none⟩)] 73 (by simp) 0; have q := fun j => hS.cell (w.heap.size + 1) [.string x_name, .string x_title, .string x_inn, .string x_text, .bool x_room, .slice da5 x_words.length fa5, .slice da6 x_adjs.length fa6, .slice da7 x_flags.length fa7, .slice da8 x_props.length fa8, .slice da9 x_exits.length fa9] 63 (by simp) j; have h0 := q 0; have h1 := q 1; have h2 := q 2; have h3 := q 3; have h4 := q 4; have h5 := q 5; have h6 := q 6; have h7 := q 7; have h8 := q 8; have h9 := q 9; simp only [cqs, cqz] at g0 h0 h1 h2 h3 h4 h5 h6 h7 h8 h9; clear q) | (go_at_call 40; (with_reducible refine (HROW6.out _ (HKW.out _ _ _ hS)).mono ?_); rintro e w4 ⟨rfl, hb4⟩; have hS2 := hS.below hb4; clear g0 h0 h1 h2 h3 h4 h5 h6 h7 h8 h9 hS hb4; have hS := hS2; clear hS2; have g0 := hS.cell w.heap.size [.pointer (some ⟨b, 0, none⟩)] 73 (by simp) 0; have q := fun j => hS.cell (w.heap.size + 1) [.string x_name, .string x_title, .string x_inn, .string x_text, .bool x_room, .slice da5 x_words.length fa5, .slice da6 x_adjs.length fa6, .slice da7 x_flags.length fa7, .slice da8 x_props.length fa8, .slice da9 x_exits.length fa9] 63 (by simp) j; have h0 := q 0; have h1 := q 1; have h2 := q 2; have h3 := q 3; have h4 := q 4; have h5 := q 5; have h6 := q 6; have h7 := q 7; have h8 := q 8; have h9 := q 9; simp only [cqs, cqz] at g0 h0 h1 h2 h3 h4 h5 h6 h7 h8 h9; clear q) | (go_at_call 111; (with_reducible refine (HI6.out _ hS).mono ?_); rintro e w4 ⟨rfl, hS2⟩; clear g0 h0 h1 h2 h3 h4 h5 h6 h7 h8 h9 hS; have hS := hS2; clear hS2; have g0 := hS.cell w.heap.size [.pointer (some ⟨b, 0, none⟩)] 73 (by simp) 0; have q := fun j => hS.cell (w.heap.size + 1) [.string x_name, .string x_title, .string x_inn, .string x_text, .bool x_room, .slice da5 x_words.length fa5, .slice da6 x_adjs.length fa6, .slice da7 x_flags.length fa7, .slice da8 x_props.length fa8, .slice da9 x_exits.length fa9] 63 (by simp) j; have h0 := q 0; have h1 := q 1; have h2 := q 2; have h3 := q 3; have h4 := q 4; have h5 := q 5; have h6 := q 6; have h7 := q 7; have h8 := q 8; have h9 := q 9; simp only [cqs, cqz] at g0 h0 h1 h2 h3 h4 h5 h6 h7 h8 h9; clear q) | (go_at_call 40; (with_reducible refine (HROW7.out _ (HKW.out _ _ _ hS)).mono ?_); rintro e w4 ⟨rfl, hb4⟩; have hS2 := hS.below hb4; clear g0 h0 h1 h2 h3 h4 h5 h6 h7 h8 h9 hS hb4; have hS := hS2; clear hS2; have g0 := hS.cell w.heap.size [.pointer (some ⟨b, 0, none⟩)] 73 (by simp) 0; have q := fun j => hS.cell (w.heap.size + 1) [.string x_name, .string x_title, .string x_inn, .string x_text, .bool x_room, .slice da5 x_words.length fa5, .slice da6 x_adjs.length fa6, .slice da7 x_flags.length fa7, .slice da8 x_props.length fa8, .slice da9 x_exits.length fa9] 63 (by simp) j; have h0 := q 0; have h1 := q 1; have h2 := q 2; have h3 := q 3; have h4 := q 4; have h5 := q 5; have h6 := q 6; have h7 := q 7; have h8 := q 8; have h9 := q 9; simp only [cqs, cqz] at g0 h0 h1 h2 h3 h4 h5 h6 h7 h8 h9; clear q) | (go_at_call 111; (with_reducible refine (HI7.out _ hS).mono ?_); rintro e w4 ⟨rfl, hS2⟩; clear g0 h0 h1 h2 h3 h4 h5 h6 h7 h8 h9 hS; have hS := hS2; clear hS2; have g0 := hS.cell w.heap.size [.pointer (some ⟨b, 0, none⟩)] 73 (by simp) 0; have q := fun j => hS.cell (w.heap.size + 1) [.string x_name, .string x_title, .string x_inn, .string x_text, .bool x_room, .slice da5 x_words.length fa5, .slice da6 x_adjs.length fa6, .slice da7 x_flags.length fa7, .slice da8 x_props.length fa8, .slice da9 x_exits.length fa9] 63 (by simp) j; have h0 := q 0; have h1 := q 1; have h2 := q 2; have h3 := q 3; have h4 := q 4; have h5 := q 5; have h6 := q 6; have h7 := q 7; have h8 := q 8; have h9 := q 9; simp only [cqs, cqz] at g0 h0 h1 h2 h3 h4 h5 h6 h7 h8 h9; clear q))
      clear HROW5 HROW6 HROW7 HI4 HI5 HI6 HI7 HQX HQ1 HT1 HT2 HT3
      go_loopw [60] (fun i wr => ∃ k : Nat, k ≤ x_props.length ∧ i = .int .i64 k ∧ Hid (StA w b [(w.heap.size + 1, [.string x_name, .string x_title, .string x_inn, .string x_text, .bool x_room, .slice da5 x_words.length fa5, .slice da6 x_adjs.length fa6, .slice da7 x_flags.length fa7, .slice da8 x_props.length fa8, .slice da9 x_exits.length fa9], 63), (w.heap.size, [.pointer (some ⟨b, 0, none⟩)], 73)] (A7 ++ catB (ps.take k)) wr)) (fun i _ => x_props.length - (intOf i).toNat)
      case atStart => exact ⟨0, Nat.zero_le _, rfl, hS.same (by simp [catB, app_emp])⟩
      case round =>
       clear g0 h0 h1 h2 h3 h4 h5 h6 h7 h8 h9 hS
       obtain ⟨k, hk, rfl, hS⟩ := hrel
       have hS := hS.out
       have hkz := catB_take_le ps k
       by_cases hlt : k < x_props.length
       · have hqt := HKW.out _ _ _ hS
         obtain ⟨bb, off, rfl, hFb, hel⟩ := H8.out (by omega)
         obtain ⟨cs, hx, -, hcell⟩ := hel wr (hqt.block bb (HF.out bb hFb)) k hlt
         have hpr := HRP.out.2 _ (List.getElem_mem hlt)
         have hpi := HPI.out k hlt
         obtain ⟨p, hpe⟩ : ∃ p, x_props[k] = p := ⟨_, rfl⟩
         rw [hpe] at hx hpr hpi
         obtain ⟨pn, pm⟩ := p
         have hx2 := hx
         obtain ⟨-, -, rfl⟩ := hx2
         simp only at hpr hcell hx
         have q0 := hcell 0 _ rfl
         have q1' := hcell 1 _ rfl
         simp only [Nat.add_zero] at q0
         have hki : (k : Int) < (x_props.length : Int) := by omega
         have hki0 : (0 : Int) ≤ (k : Int) := by omega
         obtain ⟨we, hwe⟩ : ∃ we, wr.alloc (.cells #[.string pn, .int .i64 pm] 84) = we := ⟨_, rfl⟩
         have hSe := hS.add [.string pn, .int .i64 pm] 84 (by decide)
         rw [hwe] at hSe
         have hbe := ba' hwe
         have hb9 := bt hqt hbe
         have hvs := valueB_sz hpr
         have hval := fun (W : World) (hW : Below we.heap.size we W) => value_calls F W ⟨pn, pm⟩ _ (HTB.out.below (bt hb9 hW) (Nat.le_refl _)) (by have h : pn.size ≤ 24 := isName_size hpr.1; show pn.size ≤ _; omega) (Holds.below Holds.pair hx HF.out (bt hb9 hW) (Nat.le_refl _))
         obtain ⟨z, hzz⟩ : ∃ z, valueB ⟨pn, pm⟩ = z := ⟨_, rfl⟩
         simp only [hzz] at hval hpi hvs
         have hlk : k < ps.length := by rw [HPL.out]; exact hlt
         have hnx : Hid ((A7 ++ catB (ps.take k)) ++ (⟨#[9]⟩ ++ z) = (A7 ++ catB (ps.take (k + 1)))) := by
          show _ = _
          rw [catB_step ps k hlk, show ps[k] = ⟨#[9]⟩ ++ z from by rw [List.getElem?_eq_getElem hlk] at hpi; exact Option.some.inj hpi, ByteArray.append_assoc]
         have HT9 : Hid (∀ W, StA w b ((wr.heap.size, [.string pn, .int .i64 pm], 84) :: [(w.heap.size + 1, [.string x_name, .string x_title, .string x_inn, .string x_text, .bool x_room, .slice da5 x_words.length fa5, .slice da6 x_adjs.length fa6, .slice da7 x_flags.length fa7, .slice (some ⟨bb, off, none⟩) x_props.length fa8, .slice da9 x_exits.length fa9], 63), (w.heap.size, [.pointer (some ⟨b, 0, none⟩)], 73)]) (A7 ++ catB (ps.take k)) W → Calls Tryz.prog 37 #[.pointer (some ⟨b, 0, none⟩), .string (⟨#[9]⟩ ++ z)] W fun e w' => e = .returned (.tuple #[.int .i64 ((⟨#[9]⟩ ++ z) : ByteArray).size, .nilIface]) ∧ StA w b ((wr.heap.size, [.string pn, .int .i64 pm], 84) :: [(w.heap.size + 1, [.string x_name, .string x_title, .string x_inn, .string x_text, .bool x_room, .slice da5 x_words.length fa5, .slice da6 x_adjs.length fa6, .slice da7 x_flags.length fa7, .slice (some ⟨bb, off, none⟩) x_props.length fa8, .slice da9 x_exits.length fa9], 63), (w.heap.size, [.pointer (some ⟨b, 0, none⟩)], 73)]) ((A7 ++ catB (ps.take k)) ++ (⟨#[9]⟩ ++ z)) w') := fun W h => h.text _ (by
          have e : (⟨#[9]⟩ : ByteArray).size = 1 := rfl
          have := HZ8.out
          simp only [ByteArray.size_append]
          omega)
         have HV := Lib.hid hval
         have HSE := Lib.hid hSe
         have HWE := Lib.hid hwe
         have g0 := hS.cell w.heap.size [.pointer (some ⟨b, 0, none⟩)] 73 (by simp) 0
         have q := fun j => hS.cell (w.heap.size + 1) [.string x_name, .string x_title, .string x_inn, .string x_text, .bool x_room, .slice da5 x_words.length fa5, .slice da6 x_adjs.length fa6, .slice da7 x_flags.length fa7, .slice (some ⟨bb, off, none⟩) x_props.length fa8, .slice da9 x_exits.length fa9] 63 (by simp) j
         have h0 := q 0
         have h1 := q 1
         have h2 := q 2
         have h3 := q 3
         have h4 := q 4
         have h5 := q 5
         have h6 := q 6
         have h7 := q 7
         have h8 := q 8
         have h9 := q 9
         simp only [cqs, cqz] at g0 h0 h1 h2 h3 h4 h5 h6 h7 h8 h9
         clear q
         clear hel hcell hx hpr hpi hpe hqt hFb hwe hSe hbe hb9 hval hzz hlk hkz
         go_upto_region 17 with fail
         rw [HWE.out]
         clear q0 q1' g0 h0 h1 h2 h3 h4 h5 h6 h7 h8 h9 hS
         have hS := HSE.out
         have g0 := hS.cell w.heap.size [.pointer (some ⟨b, 0, none⟩)] 73 (by simp) 0
         have q := fun j => hS.cell wr.heap.size [.string pn, .int .i64 pm] 84 (by simp) j
         have q0 := q 0
         have q1' := q 1
         simp only [cqs, cqz] at g0 q0 q1'
         clear q
         have K := @rg' Tryz.prog we
         have HKV := Lib.hid (K HV.out)
         clear K
         have zg0 := fun d os => cell_regrown g0 d os
         have zq0 := fun d os => cell_regrown q0 d os
         have zq1' := fun d os => cell_regrown q1' d os
         refine wp_region_quiet_last_below 4 (by kernel_rfl) rfl rfl (by kernel_rfl) ?_
         simp only [List.dropLast]
         repeat (go_big_quiet_step (first | with_reducible exact HKV.out _))
         refine wpQuiet_nil ?_
         intro wq hbq
         clear zg0 zq0 zq1' HKV
         have hS5 := hS.below hbq
         clear g0 q0 q1' hS
         go_wp2_with (go_at_call 37; (with_reducible refine (HT9.out _ hS5).mono ?_); rintro e w6 ⟨rfl, hS6⟩)
         go_roundw
         case rel => exact ⟨k + 1, by omega, by go_num, (hS6.same hnx.out).sub (fun t ht => List.mem_cons_of_mem _ ht)⟩
         case measure => simp [intOf]; omega
       have : k = x_props.length := by omega
       subst this
       have hki : decide ((x_props.length : Int) < (x_props.length : Int)) = false := by simp
       have hS2 := hS.same (show (A7 ++ catB (ps.take x_props.length)) = A8 by rw [List.take_of_length_le (by rw [HPL.out]; exact Nat.le_refl _), HA8.out])
       clear hS hkz HRP HPI
       have hS := hS2
       clear hS2
       have g0 := hS.cell w.heap.size [.pointer (some ⟨b, 0, none⟩)] 73 (by simp) 0
       have q := fun j => hS.cell (w.heap.size + 1) [.string x_name, .string x_title, .string x_inn, .string x_text, .bool x_room, .slice da5 x_words.length fa5, .slice da6 x_adjs.length fa6, .slice da7 x_flags.length fa7, .slice da8 x_props.length fa8, .slice da9 x_exits.length fa9] 63 (by simp) j
       have h0 := q 0
       have h1 := q 1
       have h2 := q 2
       have h3 := q 3
       have h4 := q 4
       have h5 := q 5
       have h6 := q 6
       have h7 := q 7
       have h8 := q 8
       have h9 := q 9
       simp only [cqs, cqz] at g0 h0 h1 h2 h3 h4 h5 h6 h7 h8 h9
       clear q
       go_wp2_with fail
       go_loopw [73] (fun i wr => ∃ k : Nat, k ≤ x_exits.length ∧ i = .int .i64 k ∧ Hid (StA w b [(w.heap.size + 1, [.string x_name, .string x_title, .string x_inn, .string x_text, .bool x_room, .slice da5 x_words.length fa5, .slice da6 x_adjs.length fa6, .slice da7 x_flags.length fa7, .slice da8 x_props.length fa8, .slice da9 x_exits.length fa9], 63), (w.heap.size, [.pointer (some ⟨b, 0, none⟩)], 73)] (A8 ++ catB (es.take k)) wr)) (fun i _ => x_exits.length - (intOf i).toNat)
       case atStart => exact ⟨0, Nat.zero_le _, rfl, hS.same (by simp [catB, app_emp])⟩
       case round =>
        clear g0 h0 h1 h2 h3 h4 h5 h6 h7 h8 h9 hS
        obtain ⟨k, hk, rfl, hS⟩ := hrel
        have hS := hS.out
        have hkz := catB_take_le es k
        by_cases hlt : k < x_exits.length
        · have hqt := HKW.out _ _ _ hS
          obtain ⟨bb, off, rfl, hFb, hel⟩ := H9.out (by omega)
          obtain ⟨cs, hx, -, hcell⟩ := hel wr (hqt.block bb (HF.out bb hFb)) k hlt
          have hpr := HRE.out.2 _ (List.getElem_mem hlt)
          have hpi := HEI.out k hlt
          obtain ⟨p, hpe⟩ : ∃ p, x_exits[k] = p := ⟨_, rfl⟩
          rw [hpe] at hx hpr hpi
          obtain ⟨ed, eto, eels, x_cond⟩ := p
          obtain ⟨-, -, -, ve, rfl, hcd⟩ := hx
          simp only at hpr hcell hcd
          obtain ⟨ea, ec, rfl⟩ := hcd.shape
          have q0 := hcell 0 _ rfl
          have q1' := hcell 1 _ rfl
          have q2' := hcell 2 _ rfl
          have q3' := hcell 3 _ rfl
          simp only [Nat.add_zero] at q0
          have hki : (k : Int) < (x_exits.length : Int) := by omega
          have hki0 : (0 : Int) ≤ (k : Int) := by omega
          obtain ⟨we, hwe⟩ : ∃ we, wr.alloc (.cells #[.int .i64 ed, .string eto, .string eels, .slice ea x_cond.length ec] 121) = we := ⟨_, rfl⟩
          have hSe := hS.add [.int .i64 ed, .string eto, .string eels, .slice ea x_cond.length ec] 121 (by decide)
          rw [hwe] at hSe
          have hbe := ba' hwe
          have hb9 := bt hqt hbe
          obtain ⟨hd1, hd2, hto, htx, hwn⟩ := hpr
          dsimp only at hd1 hd2 hto htx hwn
          have hlk : k < es.length := by rw [HEL.out]; exact hlt
          have hnx0 : (A8 ++ catB (es.take k)) ++ exitB ⟨ed, eto, eels, x_cond⟩ = (A8 ++ catB (es.take (k + 1))) := by
           rw [catB_step es k hlk, show es[k] = exitB ⟨ed, eto, eels, x_cond⟩ from by rw [List.getElem?_eq_getElem hlk] at hpi; exact Option.some.inj hpi, ByteArray.append_assoc]
          have hxz := congrArg ByteArray.size hnx0
          have hkz2 := catB_take_le es (k + 1)
          simp only [exitB, ByteArray.size_append] at hxz
          have hcz : (condB x_cond).size ≤ 1000000000000 := by have := HZ9.out; omega
          have hval := fun (W : World) (hW : Below we.heap.size we W) => dir_calls ed hd1 hd2 W (HTA.out.below (bt hb9 hW) (Nat.le_refl _))
          have hcnd := fun (W : World) (hW : Below we.heap.size we W) => cond_calls x_cond F W _ (HF.out.below (bt hb9 hW)) (HTB.out.below (bt hb9 hW) (Nat.le_refl _)) (by have := hwn.1; omega) (fun e he => right_src (hwn.2 e he)) hcz (hcd.below HF.out (bt hb9 hW) (Nat.le_refl _))
          have hqe := fun (W : World) => quoteT_calls eels W (by have := htx.1; omega)
          have hqz := quote_sz htx
          have hnt := isName_size hto
          have hdz := dirB_sz ed
          have hnx1 : (A8 ++ catB (es.take k)) ++ (⟨#[9, 101, 120, 105, 116, 32]⟩ ++ dirB ed ++ ⟨#[32, 116, 111, 32]⟩ ++ eto ++ condB x_cond) ++ emB eels (⟨#[32, 101, 108, 115, 101, 32]⟩ ++ quoteB eels) ++ ⟨#[59, 10]⟩ = (A8 ++ catB (es.take (k + 1))) := by
           rw [← hnx0]; simp only [exitB, ByteArray.append_assoc]
          obtain ⟨dz, hdd⟩ : ∃ z, dirB ed = z := ⟨_, rfl⟩
          obtain ⟨cz, hcc2⟩ : ∃ z, condB x_cond = z := ⟨_, rfl⟩
          obtain ⟨qe, hqq⟩ : ∃ z, quoteB eels = z := ⟨_, rfl⟩
          obtain ⟨E, hE⟩ : ∃ z, emB eels (⟨#[32, 101, 108, 115, 101, 32]⟩ ++ quoteB eels) = z := ⟨_, rfl⟩
          have hEz : E.size ≤ 2060 := by
           have h := emB_sz eels (⟨#[32, 101, 108, 115, 101, 32]⟩ ++ quoteB eels)
           have e : (⟨#[32, 101, 108, 115, 101, 32]⟩ : ByteArray).size = 6 := rfl
           rw [hE, ByteArray.size_append] at h
           omega
          have hEt : Hid (eels ≠ ⟨#[]⟩ → E = ⟨#[32, 101, 108, 115, 101, 32]⟩ ++ qe) := fun h => by rw [← hE, ← hqq]; unfold emB; rw [if_neg h]
          have hEf : Hid (eels = ⟨#[]⟩ → E = ⟨#[]⟩) := fun h => by rw [← hE]; unfold emB; rw [if_pos h]
          rw [hE, hdd, hcc2] at hnx1
          rw [hqq] at hqz
          rw [hdd] at hdz
          rw [hcc2] at hcz
          simp only [hdd] at hval; simp only [hcc2] at hcnd; simp only [hqq] at hqe
          obtain ⟨Ak, hAk⟩ : ∃ B, (A8 ++ catB (es.take k)) = B := ⟨_, rfl⟩
          obtain ⟨B1, hB1⟩ : ∃ B, Ak ++ (⟨#[9, 101, 120, 105, 116, 32]⟩ ++ dz ++ ⟨#[32, 116, 111, 32]⟩ ++ eto ++ cz) = B := ⟨_, rfl⟩
          obtain ⟨B2, hB2⟩ : ∃ B, B1 ++ E = B := ⟨_, rfl⟩
          rw [hAk, hB1, hB2] at hnx1
          rw [hAk] at hS hSe
          have hakz : Ak.size ≤ 1000000000000 := by
           have := HZ9.out
           rw [← hAk, ByteArray.size_append]; omega
          have v1 : ((⟨#[9, 101, 120, 105, 116, 32]⟩ ++ dz ++ ⟨#[32, 116, 111, 32]⟩ ++ eto ++ cz) : ByteArray).size ≤ 1000000001000 := by
           have e1 : (⟨#[9, 101, 120, 105, 116, 32]⟩ : ByteArray).size = 6 := rfl
           have e2 : (⟨#[32, 116, 111, 32]⟩ : ByteArray).size = 4 := rfl
           simp only [ByteArray.size_append]
           omega
          have HT9 : Hid (∀ W, StA w b ((wr.heap.size, [.int .i64 ed, .string eto, .string eels, .slice ea x_cond.length ec], 121) :: [(w.heap.size + 1, [.string x_name, .string x_title, .string x_inn, .string x_text, .bool x_room, .slice da5 x_words.length fa5, .slice da6 x_adjs.length fa6, .slice da7 x_flags.length fa7, .slice da8 x_props.length fa8, .slice (some ⟨bb, off, none⟩) x_exits.length fa9], 63), (w.heap.size, [.pointer (some ⟨b, 0, none⟩)], 73)]) Ak W → Calls Tryz.prog 37 #[.pointer (some ⟨b, 0, none⟩), .string (⟨#[9, 101, 120, 105, 116, 32]⟩ ++ dz ++ ⟨#[32, 116, 111, 32]⟩ ++ eto ++ cz)] W fun e w' => e = .returned (.tuple #[.int .i64 ((⟨#[9, 101, 120, 105, 116, 32]⟩ ++ dz ++ ⟨#[32, 116, 111, 32]⟩ ++ eto ++ cz) : ByteArray).size, .nilIface]) ∧ StA w b ((wr.heap.size, [.int .i64 ed, .string eto, .string eels, .slice ea x_cond.length ec], 121) :: [(w.heap.size + 1, [.string x_name, .string x_title, .string x_inn, .string x_text, .bool x_room, .slice da5 x_words.length fa5, .slice da6 x_adjs.length fa6, .slice da7 x_flags.length fa7, .slice da8 x_props.length fa8, .slice (some ⟨bb, off, none⟩) x_exits.length fa9], 63), (w.heap.size, [.pointer (some ⟨b, 0, none⟩)], 73)]) B1 w') := fun W h => by rw [← hB1]; exact h.text _ (by omega)
          have b1z : B1.size ≤ 2000000001000 := by rw [← hB1, ByteArray.size_append]; omega
          have HT11 : Hid (∀ W, StA w b ((wr.heap.size, [.int .i64 ed, .string eto, .string eels, .slice ea x_cond.length ec], 121) :: [(w.heap.size + 1, [.string x_name, .string x_title, .string x_inn, .string x_text, .bool x_room, .slice da5 x_words.length fa5, .slice da6 x_adjs.length fa6, .slice da7 x_flags.length fa7, .slice da8 x_props.length fa8, .slice (some ⟨bb, off, none⟩) x_exits.length fa9], 63), (w.heap.size, [.pointer (some ⟨b, 0, none⟩)], 73)]) B1 W → Calls Tryz.prog 37 #[.pointer (some ⟨b, 0, none⟩), .string (⟨#[32, 101, 108, 115, 101, 32]⟩ ++ qe)] W fun e w' => e = .returned (.tuple #[.int .i64 ((⟨#[32, 101, 108, 115, 101, 32]⟩ ++ qe) : ByteArray).size, .nilIface]) ∧ StA w b ((wr.heap.size, [.int .i64 ed, .string eto, .string eels, .slice ea x_cond.length ec], 121) :: [(w.heap.size + 1, [.string x_name, .string x_title, .string x_inn, .string x_text, .bool x_room, .slice da5 x_words.length fa5, .slice da6 x_adjs.length fa6, .slice da7 x_flags.length fa7, .slice da8 x_props.length fa8, .slice (some ⟨bb, off, none⟩) x_exits.length fa9], 63), (w.heap.size, [.pointer (some ⟨b, 0, none⟩)], 73)]) (B1 ++ (⟨#[32, 101, 108, 115, 101, 32]⟩ ++ qe)) w') := fun W h => h.text _ (by
           have e : (⟨#[32, 101, 108, 115, 101, 32]⟩ : ByteArray).size = 6 := rfl
           rw [ByteArray.size_append]; omega)
          have HT12 : Hid (∀ W, StA w b ((wr.heap.size, [.int .i64 ed, .string eto, .string eels, .slice ea x_cond.length ec], 121) :: [(w.heap.size + 1, [.string x_name, .string x_title, .string x_inn, .string x_text, .bool x_room, .slice da5 x_words.length fa5, .slice da6 x_adjs.length fa6, .slice da7 x_flags.length fa7, .slice da8 x_props.length fa8, .slice (some ⟨bb, off, none⟩) x_exits.length fa9], 63), (w.heap.size, [.pointer (some ⟨b, 0, none⟩)], 73)]) B2 W → Calls Tryz.prog 37 #[.pointer (some ⟨b, 0, none⟩), .string ⟨#[59, 10]⟩] W fun e w' => e = .returned (.tuple #[.int .i64 (⟨#[59, 10]⟩ : ByteArray).size, .nilIface]) ∧ StA w b ((wr.heap.size, [.int .i64 ed, .string eto, .string eels, .slice ea x_cond.length ec], 121) :: [(w.heap.size + 1, [.string x_name, .string x_title, .string x_inn, .string x_text, .bool x_room, .slice da5 x_words.length fa5, .slice da6 x_adjs.length fa6, .slice da7 x_flags.length fa7, .slice da8 x_props.length fa8, .slice (some ⟨bb, off, none⟩) x_exits.length fa9], 63), (w.heap.size, [.pointer (some ⟨b, 0, none⟩)], 73)]) (B2 ++ ⟨#[59, 10]⟩) w') := fun W h => h.text _ (by
           have e : (⟨#[59, 10]⟩ : ByteArray).size = 2 := rfl
           rw [← hB2, ByteArray.size_append, e]; omega)
          have HV := Lib.hid hval; have HC := Lib.hid hcnd; have HQE := Lib.hid hqe
          have HSE := Lib.hid hSe; have HWE := Lib.hid hwe; have HNX := Lib.hid hnx1; have HB2 := Lib.hid hB2
          have g0 := hS.cell w.heap.size [.pointer (some ⟨b, 0, none⟩)] 73 (by simp) 0
          have q := fun j => hS.cell (w.heap.size + 1) [.string x_name, .string x_title, .string x_inn, .string x_text, .bool x_room, .slice da5 x_words.length fa5, .slice da6 x_adjs.length fa6, .slice da7 x_flags.length fa7, .slice da8 x_props.length fa8, .slice (some ⟨bb, off, none⟩) x_exits.length fa9] 63 (by simp) j
          have h0 := q 0
          have h1 := q 1
          have h2 := q 2
          have h3 := q 3
          have h4 := q 4
          have h5 := q 5
          have h6 := q 6
          have h7 := q 7
          have h8 := q 8
          have h9 := q 9
          simp only [cqs, cqz] at g0 h0 h1 h2 h3 h4 h5 h6 h7 h8 h9
          clear q
          clear hel hcell hpi hpe hqt hFb hwe hSe hbe hb9 hval hcnd hqe hlk hkz hkz2 hxz hnx0 hnx1 hcd hd1 hd2 hto htx hwn hE hdd hcc2 hqq hAk hB1 hB2 v1
          go_upto_region 22 with fail
          rw [HWE.out]
          clear q0 q1' q2' q3' g0 h0 h1 h2 h3 h4 h5 h6 h7 h8 h9 hS
          have hS := HSE.out
          have g0 := hS.cell w.heap.size [.pointer (some ⟨b, 0, none⟩)] 73 (by simp) 0
          have q := fun j => hS.cell wr.heap.size [.int .i64 ed, .string eto, .string eels, .slice ea x_cond.length ec] 121 (by simp) j
          have q0 := q 0
          have q1' := q 1
          have q2' := q 2
          have q3' := q 3
          simp only [cqs, cqz] at g0 q0 q1' q2' q3'
          clear q
          have K := @rg' Tryz.prog we
          have HKV := Lib.hid (K HV.out)
          have HKC := Lib.hid (K HC.out)
          clear K
          have zg0 := fun d os => cell_regrown g0 d os
          have zq0 := fun d os => cell_regrown q0 d os
          have zq1' := fun d os => cell_regrown q1' d os
          have zq2' := fun d os => cell_regrown q2' d os
          have zq3' := fun d os => cell_regrown q3' d os
          refine wp_region_quiet_last_below 13 (by kernel_rfl) rfl rfl (by kernel_rfl) ?_
          simp only [List.dropLast]
          repeat (go_big_quiet_step (first | with_reducible exact HKV.out _ | with_reducible exact HKC.out _))
          refine wpQuiet_nil ?_
          intro wq hbq
          clear zg0 zq0 zq1' zq2' zq3' HKV HKC
          have hS2 := hS.below hbq
          clear g0 q0 q1' q2' q3' hS hbq
          have hS := hS2
          clear hS2
          have g0 := hS.cell w.heap.size [.pointer (some ⟨b, 0, none⟩)] 73 (by simp) 0
          have q := fun j => hS.cell wr.heap.size [.int .i64 ed, .string eto, .string eels, .slice ea x_cond.length ec] 121 (by simp) j
          have q0 := q 0
          have q1' := q 1
          have q2' := q 2
          have q3' := q 3
          simp only [cqs, cqz] at g0 q0 q1' q2' q3'
          clear q
          go_upto_region 23 with (go_at_call 37; (with_reducible refine (HT9.out _ hS).mono ?_); rintro e w4 ⟨rfl, hS2⟩; clear g0 q0 q1' q2' q3' hS; have hS := hS2; clear hS2; have g0 := hS.cell w.heap.size [.pointer (some ⟨b, 0, none⟩)] 73 (by simp) 0; have q := fun j => hS.cell wr.heap.size [.int .i64 ed, .string eto, .string eels, .slice ea x_cond.length ec] 121 (by simp) j; have q0 := q 0; have q1' := q 1; have q2' := q 2; have q3' := q 3; simp only [cqs, cqz] at g0 q0 q1' q2' q3'; clear q)
          obtain ⟨wY, hwY⟩ : ∃ x : World, x = w4 := ⟨_, rfl⟩
          rw [← hwY] at hS g0 q0 q1' q2' q3' ⊢
          clear hwY
          go_cut [93] (fun v wc => Hid (∃ t : Bool, v = .bool t ∧ (t = true → E = ⟨#[32, 101, 108, 115, 101, 32]⟩ ++ qe) ∧ (t = false → E = ⟨#[]⟩) ∧ wY = wc))
          case first =>
           by_cases hn : eels = ⟨#[]⟩
           · have hev : eels.toList.isEmpty = true := emp_t hn
             have hf := Lib.hid (hEf.out hn)
             clear hn
             go_wp2_with fail
             go_meet
             exact ⟨false, rfl, fun h => (by cases h), fun _ => hf.out, rfl⟩
           have hev : eels.toList.isEmpty = false := emp_f hn
           have hf := Lib.hid (hEt.out hn)
           clear hn
           go_wp2_with fail
           go_meet
           exact ⟨true, rfl, fun _ => hf.out, fun h => (by cases h), rfl⟩
          case rest =>
           obtain ⟨t, rfl, hbt, hbf, rfl⟩ := hcut.out
           have HBT := Lib.hid hbt; have HBF := Lib.hid hbf
           clear hcut hbt hbf hEt hEf
           go_upto_if 93 with fail
           go_cut [] (fun wc => Hid (StA w b ((wr.heap.size, [.int .i64 ed, .string eto, .string eels, .slice ea x_cond.length ec], 121) :: [(w.heap.size + 1, [.string x_name, .string x_title, .string x_inn, .string x_text, .bool x_room, .slice da5 x_words.length fa5, .slice da6 x_adjs.length fa6, .slice da7 x_flags.length fa7, .slice da8 x_props.length fa8, .slice (some ⟨bb, off, none⟩) x_exits.length fa9], 63), (w.heap.size, [.pointer (some ⟨b, 0, none⟩)], 73)]) B2 wc))
           case first =>
            cases t
            · have hf := Lib.hid (HBF.out rfl)
              go_wp2_with fail
              go_meet
              exact hS.same (by rw [← HB2.out, hf.out, app_emp])
            have hf := Lib.hid (HBT.out rfl)
            go_upto_region 24 with fail
            have K := @rg' Tryz.prog wY
            have HKQ := Lib.hid (K (fun W (_ : Below wY.heap.size wY W) => HQE.out W))
            clear K
            have zg0 := fun d os => cell_regrown g0 d os
            have zq2' := fun d os => cell_regrown q2' d os
            refine wp_region_quiet_last_below 5 (by kernel_rfl) rfl rfl (by kernel_rfl) ?_
            simp only [List.dropLast]
            repeat (go_big_quiet_step (first | with_reducible exact HKQ.out _))
            refine wpQuiet_nil ?_
            intro wq hbq
            clear zg0 zq2' HKQ
            have hS2 := hS.below hbq
            clear g0 q0 q1' q2' q3' hS hbq
            have hS := hS2
            clear hS2
            have g0 := hS.cell w.heap.size [.pointer (some ⟨b, 0, none⟩)] 73 (by simp) 0
            have q := fun j => hS.cell wr.heap.size [.int .i64 ed, .string eto, .string eels, .slice ea x_cond.length ec] 121 (by simp) j
            have q0 := q 0
            have q1' := q 1
            have q2' := q 2
            have q3' := q 3
            simp only [cqs, cqz] at g0 q0 q1' q2' q3'
            clear q
            go_wp2_with (go_at_call 37; (with_reducible refine (HT11.out _ hS).mono ?_); rintro e w4 ⟨rfl, hS2⟩)
            go_meet
            exact hS2.same (by rw [← HB2.out, hf.out])
           case rest =>
            clear g0 q0 q1' q2' q3' hS
            have hS := hcut.out
            clear hcut HBT HBF HB2
            have g0 := hS.cell w.heap.size [.pointer (some ⟨b, 0, none⟩)] 73 (by simp) 0
            have q := fun j => hS.cell wr.heap.size [.int .i64 ed, .string eto, .string eels, .slice ea x_cond.length ec] 121 (by simp) j
            have q0 := q 0
            have q1' := q 1
            have q2' := q 2
            have q3' := q 3
            simp only [cqs, cqz] at g0 q0 q1' q2' q3'
            clear q
            go_wp2_with (go_at_call 37; (with_reducible refine (HT12.out _ hS).mono ?_); rintro e w6 ⟨rfl, hS6⟩)
            go_roundw
            case rel => exact ⟨k + 1, by omega, by go_num, (hS6.same HNX.out).sub (fun t ht => List.mem_cons_of_mem _ ht)⟩
            case measure => simp [intOf]; omega
        have : k = x_exits.length := by omega
        subst this
        have hki : decide ((x_exits.length : Int) < (x_exits.length : Int)) = false := by simp
        have hS2 := hS.same (show (A8 ++ catB (es.take x_exits.length)) = A9 by rw [List.take_of_length_le (by rw [HEL.out]; exact Nat.le_refl _), HA9.out])
        clear hS hkz HRE HEI
        have hS := hS2
        clear hS2
        have g0 := hS.cell w.heap.size [.pointer (some ⟨b, 0, none⟩)] 73 (by simp) 0
        have q := fun j => hS.cell (w.heap.size + 1) [.string x_name, .string x_title, .string x_inn, .string x_text, .bool x_room, .slice da5 x_words.length fa5, .slice da6 x_adjs.length fa6, .slice da7 x_flags.length fa7, .slice da8 x_props.length fa8, .slice da9 x_exits.length fa9] 63 (by simp) j
        have h0 := q 0
        have h1 := q 1
        have h2 := q 2
        have h3 := q 3
        have h4 := q 4
        have h5 := q 5
        have h6 := q 6
        have h7 := q 7
        have h8 := q 8
        have h9 := q 9
        simp only [cqs, cqz] at g0 h0 h1 h2 h3 h4 h5 h6 h7 h8 h9
        clear q
        go_wp2_with (go_at_call 37; (with_reducible refine (HT10.out _ hS).mono ?_); rintro e w4 ⟨rfl, hS2⟩; clear g0 h0 h1 h2 h3 h4 h5 h6 h7 h8 h9 hS; have hS := hS2; clear hS2; have g0 := hS.cell w.heap.size [.pointer (some ⟨b, 0, none⟩)] 73 (by simp) 0; have q := fun j => hS.cell (w.heap.size + 1) [.string x_name, .string x_title, .string x_inn, .string x_text, .bool x_room, .slice da5 x_words.length fa5, .slice da6 x_adjs.length fa6, .slice da7 x_flags.length fa7, .slice da8 x_props.length fa8, .slice da9 x_exits.length fa9] 63 (by simp) j; have h0 := q 0; have h1 := q 1; have h2 := q 2; have h3 := q 3; have h4 := q 4; have h5 := q 5; have h6 := q 6; have h7 := q 7; have h8 := q 8; have h9 := q 9; simp only [cqs, cqz] at g0 h0 h1 h2 h3 h4 h5 h6 h7 h8 h9; clear q)
        go_end0
        exact ⟨rfl, hS.done⟩
end Go.Proofs.YtdeecfkipknkbaaGreatDoor
