/- The walks of clewlaw49.awake and of clewlaw49.ScriptTypes: they return true. -/
import Derived.Test.YtimdnamhccipjaaLinesT
namespace Go.Proofs.Ytimdnamhccipjaa
open Go.RowKit

theorem typed_one : typed [62, 32, 108, 111, 111, 107, 10, 89, 111, 117, 32, 115, 101, 101, 32, 62, 10, 62, 103, 111, 10] = [[108, 111, 111, 107], [103, 111]] := by decide
theorem typed_two : typed [62] = [[]] := by decide
theorem typed_three : typed [32, 62, 32, 108, 111, 111, 107] = [] := by decide

theorem built_two (w : World) (a b : List UInt8) : SlS (w.alloc (.cells #[Str a, Str b] 9)) [a, b] (.slice (some ⟨w.heap.size, 0, none⟩) 2 2) := by
  refine ⟨_, _, rfl, by simp, by unfold maxLen; omega, fun _ => ⟨_, rfl, by simp, fun i hi => ?_⟩⟩
  match i, hi with
  | 0, _ => simp
  | 1, _ => simp
theorem built_one (w : World) (a : List UInt8) : SlS (w.alloc (.cells #[Str a] 9)) [a] (.slice (some ⟨w.heap.size, 0, none⟩) 1 1) := by
  refine ⟨_, _, rfl, by simp, by unfold maxLen; omega, fun _ => ⟨_, rfl, by simp, fun i hi => ?_⟩⟩
  match i, hi with
  | 0, _ => simp

set_option maxRecDepth 100000 in
set_option maxHeartbeats 1000000 in
theorem awakeS_calls (w : World) : Calls Try.prog 13 #[] w (Gives w (.bool true)) := by
  have h1 := fun w => typedT_calls ⟨#[62, 32, 108, 111, 111, 107, 10, 89, 111, 117, 32, 115, 101, 101, 32, 62, 10, 62, 103, 111, 10]⟩ w (by decide)
  have h2 := fun w => typedT_calls ⟨#[62]⟩ w (by decide)
  have h3 := fun w => typedT_calls ⟨#[32, 62, 32, 108, 111, 111, 107]⟩ w (by decide)
  simp only [typed_one, typed_two, typed_three] at h1 h2 h3
  have H1 := Lib.hid h1
  have H2 := Lib.hid h2
  have H3 := Lib.hid h3
  clear h1 h2 h3
  have hs1 : ∀ (X : World) (v : Value), OwnS w.heap.size X [[108, 111, 111, 107], [103, 111]] v → Calls Try.prog 14 #[v, .slice (some ⟨X.heap.size, 0, none⟩) 2 2] (X.alloc (.cells #[.string ⟨#[108, 111, 111, 107]⟩, .string ⟨#[103, 111]⟩] 9)) (Gives (X.alloc (.cells #[.string ⟨#[108, 111, 111, 107]⟩, .string ⟨#[103, 111]⟩] 9)) (.bool true)) := fun X v h => by
    have := sameTexts_calls _ _ v _ (X.alloc (.cells #[Str [108, 111, 111, 107], Str [103, 111]] 9)) (h.sl.below ((Below.refl _ X).alloc (Nat.le_refl _) _)) (built_two X _ _)
    rw [decide_eq_true rfl] at this
    exact this
  have hs2 : ∀ (X : World) (v : Value) (lo : Nat), OwnS lo X [[]] v → Calls Try.prog 14 #[v, .slice (some ⟨X.heap.size, 0, none⟩) 1 1] (X.alloc (.cells #[.string ⟨#[]⟩] 9)) (Gives (X.alloc (.cells #[.string ⟨#[]⟩] 9)) (.bool true)) := fun X v lo h => by
    have := sameTexts_calls _ _ v _ (X.alloc (.cells #[Str []] 9)) (h.sl.below ((Below.refl _ X).alloc (Nat.le_refl _) _)) (built_one X _)
    rw [decide_eq_true rfl] at this
    exact this
  have HS1 := Lib.hid hs1
  have HS2 := Lib.hid hs2
  clear hs1 hs2
  go_enter Try.func13, Try.ntmps13
  go_wp2_with (first | (go_at_call 15; (with_reducible refine (H1.out _).mono ?_); rintro e w1 ⟨v1, rfl, hv1, hb1⟩; obtain ⟨a1, c1, rfl⟩ := hv1.shape; have hbo := hb1) | (go_at_call 15; (with_reducible refine (H2.out _).mono ?_); rintro e w3 ⟨v2, rfl, hv2, hb3⟩; obtain ⟨a2, c2, rfl⟩ := hv2.shape; have hbo := hbo.trans (hb3.mono hbo.size)) | (go_at_call 15; (with_reducible refine (H3.out _).mono ?_); rintro e w5 ⟨v3, rfl, hv3, hb5⟩; obtain ⟨a3, c3, rfl⟩ := hv3.shape; have hbo := hbo.trans (hb5.mono hbo.size)) | (go_at_call 14; (refine (HS1.out _ _ hv1).mono ?_); clear HS1; rintro e w2 ⟨rfl, hb2⟩; have hbo := hbo.trans ((((Below.refl _ _).alloc (Nat.le_refl _) _).trans (hb2.mono (by simp))).mono hbo.size)) | (go_at_call 14; (refine (HS2.out _ _ _ hv2).mono ?_); rintro e w4 ⟨rfl, hb4⟩; have hbo := hbo.trans ((((Below.refl _ _).alloc (Nat.le_refl _) _).trans (hb4.mono (by simp))).mono hbo.size)))
  go_ret
  exact ⟨rfl, hbo⟩

set_option maxHeartbeats 400000 in
theorem scriptTypes_calls (s : ByteArray) (w : World) (hs : s.size ≤ maxLen) : Calls Try.prog 3 #[.string s] w (Gives w (.bool true)) := by
  unfold maxLen at hs
  have HA := Lib.hid (fun w => awakeS_calls w)
  by_cases hl : s.size ≤ 2000
  rotate_left
  · have d1 : decide ((2000 : Int) < (s.size : Int)) = true := by simp; omega
    clear hl
    go_enter Try.func3, Try.ntmps3
    go_wp2_with (go_at_call 13; refine (HA.out _).mono ?_; rintro e w1 ⟨rfl, hb1⟩)
    go_ret
    exact ⟨rfl, hb1⟩
  have d1 : decide ((2000 : Int) < (s.size : Int)) = false := by simp; omega
  have HT := Lib.hid (fun w => typedT_calls s w (by omega))
  have HR := Lib.hid (fun w => typedR_calls s w (by omega))
  have hss : ∀ (X : World) (u v : Value) (lo1 lo2 : Nat), OwnS lo1 X (typed s.data.toList) u → OwnS lo2 X (typed s.data.toList) v → Calls Try.prog 14 #[u, v] X (Gives X (.bool true)) := fun X u v lo1 lo2 h1 h2 => by
    have := sameTexts_calls _ _ u v X h1.sl h2.sl
    simpa using this
  have HS := Lib.hid hss
  clear hl hss
  go_enter Try.func3, Try.ntmps3
  go_wp2_with (first | (go_at_call 15; (with_reducible refine (HT.out _).mono ?_); rintro e w1 ⟨v1, rfl, hv1, hb1⟩; obtain ⟨a1, c1, rfl⟩ := hv1.shape) | (go_at_call 16; (with_reducible refine (HR.out _).mono ?_); rintro e w2 ⟨v2, rfl, hv2, hb2⟩; obtain ⟨a2, c2, rfl⟩ := hv2.shape; have hv1' := hv1.below hb2) | (go_at_call 14; (with_reducible refine (HS.out _ _ _ _ _ hv1' hv2).mono ?_); rintro e w3 ⟨rfl, hb3⟩) | (go_at_call 13; (with_reducible refine (HA.out _).mono ?_); rintro e w4 ⟨rfl, hb4⟩))
  go_ret
  have hB2 := hb1.trans (hb2.mono hb1.size)
  have hB3 := hB2.trans (hb3.mono hB2.size)
  exact ⟨rfl, hB3.trans (hb4.mono hB3.size)⟩
end Go.Proofs.Ytimdnamhccipjaa
