/- The walks of clewlaw16's example and named. -/
import Derived.Test.YtblhpiebheommaaKinds17
namespace Go.Proofs.Ytblhpiebheommaa
open Go.RowKit

def exSS (a b : Nat) : List Value := [.string ⟨#[]⟩, .string ⟨#[]⟩, .string { data := #[104, 97, 108, 108] }, .int .i64 0, .int .i64 0, .slice (some ⟨a, 0, none⟩) 1 1, .slice none 0 0, .slice none 0 0, .slice (some ⟨b, 0, none⟩) 1 1, .slice none 0 0, .slice none 0 0, .slice none 0 0, .slice none 0 0]
def exOO : List Value := [.string { data := #[104, 97, 108, 108] }, .string { data := #[72, 97, 108, 108] }, .string ⟨#[]⟩, .string ⟨#[]⟩, .bool true, .slice none 0 0, .slice none 0 0, .slice none 0 0, .slice none 0 0, .slice none 0 0]
theorem exS_held {F : Nat → Prop} {w : World} {a b : Nat} (ha : F a) (hb : F b) (h1 : Bx w a [.string { data := #[119, 111, 114, 110] }]) (h2 : Bx w b exOO) : Holds.src.R F w exS (exSS a b) := by
  have hn : ∀ {α : Type} (R : Holds α) (sz : Nat), RdL R sz F w [] (.slice none 0 0) := fun R sz => RdL.nil R sz F w none 0 (Nat.zero_le _)
  refine ⟨by unfold maxLen; decide, by unfold maxLen; decide, by unfold maxLen; decide, by simp only [I64]; decide, by simp only [I64]; decide, _, _, _, _, _, _, _, _, rfl, ?_, hn _ _, hn _ _, ?_, hn _ _, hn _ _, hn _ _, hn _ _⟩
  · refine ⟨fun _ _ => .string { data := #[119, 111, 114, 110] }, ⟨_, _, rfl, Nat.le_refl _, by unfold maxLen; decide, fun _ => ⟨a, 0, rfl, ha, fun i hi j hj => ?_⟩⟩, fun i hi => ?_⟩
    · have hi2 : i < 1 := hi
      obtain rfl : i = 0 := by omega
      obtain rfl : j = 0 := by omega
      exact h1 0 (by simp)
    · have hi2 : i < 1 := hi
      obtain rfl : i = 0 := by omega
      exact ⟨show bWorn.size ≤ maxLen by unfold maxLen; decide, rfl⟩
  · refine ⟨fun _ j => exOO.getD j undef, ⟨_, _, rfl, Nat.le_refl _, by unfold maxLen; decide, fun _ => ⟨b, 0, rfl, hb, fun i hi j hj => ?_⟩⟩, fun i hi => ?_⟩
    · have hi2 : i < 1 := hi
      obtain rfl : i = 0 := by omega
      rw [show 0 + 0 * 10 + j = j by omega, h2 j hj]
      show _ = some (exOO.getD j undef)
      rw [List.getD_eq_getElem?_getD, List.getElem?_eq_getElem (show j < exOO.length from hj)]
      rfl
    · have hi2 : i < 1 := hi
      obtain rfl : i = 0 := by omega
      exact ⟨show bHall.size ≤ maxLen by unfold maxLen; decide, show bHallT.size ≤ maxLen by unfold maxLen; decide, Nat.zero_le _, Nat.zero_le _, _, _, _, _, _, rfl, hn _ _, hn _ _, hn _ _, hn _ _, hn _ _⟩

def ExPost (w : World) (e : Ending) (w' : World) : Prop := ∃ a b, e = .returned (.agg (exSS a b).toArray) ∧ Holds.src.R (NewB w.heap.size w'.heap.size) w' exS (exSS a b) ∧ Below w.heap.size w w'

set_option maxRecDepth 100000 in
set_option maxHeartbeats 2000000 in
theorem example_calls (w : World) : Calls Try.prog 30 #[] w (ExPost w) := by
  go_enter Try.func30, Try.ntmps30
  go_wp2
  refine bodyPost_ret (v := .agg (exSS (w.heap.size + 1) (w.heap.size + 1 + 1)).toArray) (by simp [results, Try.results30, go_sem, exSS]; try rfl) rfl ⟨w.heap.size + 1, w.heap.size + 1 + 1, rfl, exS_held ⟨by omega, by simp⟩ ⟨by omega, by simp⟩ ?_ ?_, (((Below.refl _ w).alloc (Nat.le_refl _) _).alloc (by simp) _).alloc (by simp <;> omega) _⟩
  · exact (bx_new _ _ _ _ (by simp)).alloc (by simp) _
  · exact bx_new _ _ _ _ (by simp)

set_option maxRecDepth 100000 in
set_option maxHeartbeats 2000000 in
theorem named_calls (n : ByteArray) (w : World) : Calls Try.prog 31 #[.string n] w (Gives w (.agg #[.int .i64 3, .int .i64 0, .int .i64 0, .string n, .slice none 0 0])) := by
  go_enter Try.func31, Try.ntmps31
  go_wp2
  exact bodyPost_ret (v := .agg #[.int .i64 3, .int .i64 0, .int .i64 0, .string n, .slice none 0 0]) (by simp [results, Try.results31, go_sem]; try rfl) rfl ⟨rfl, (Below.refl _ w).alloc (Nat.le_refl _) _⟩
end Go.Proofs.Ytblhpiebheommaa
