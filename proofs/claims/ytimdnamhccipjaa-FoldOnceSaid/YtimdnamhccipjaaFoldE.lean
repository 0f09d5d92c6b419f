/- The small functions of fold and of its reference: what number an expression is, and a number as an expression. -/
import Derived.Test.YtimdnamhccipjaaNumB
import Derived.Lib.QuietBelow
import Derived.BigQuiet
namespace Go.Proofs.Ytimdnamhccipjaa
open Go.RowKit

set_option maxRecDepth 20000 in
theorem knownT_calls (k o n : Int) (s : ByteArray) (a : Option Addr) (m cap : Nat) (w : World) :
    Calls Try.prog 54 #[.agg #[.int .i64 k, .int .i64 o, .int .i64 n, .string s, .slice a m cap]] w (Gives w (.tuple #[.int .i64 n, .bool (k == 1)])) := by
  go_enter Try.func54, Try.ntmps54
  go_wp2
  go_region
  all_goals go_wp2
  all_goals go_ret2
  all_goals exact ⟨rfl, by first | exact (((Below.refl _ _).alloc (Nat.le_refl _) _).drew) | exact ((Below.refl _ _).alloc (Nat.le_refl _) _)⟩

theorem numberR_calls (k o n : Int) (s : ByteArray) (a : Option Addr) (m cap : Nat) (w : World) :
    Calls Try.prog 61 #[.agg #[.int .i64 k, .int .i64 o, .int .i64 n, .string s, .slice a m cap]] w (Gives w (.bool (k == 1))) := by
  go_enter Try.func61, Try.ntmps61
  go_wp2
  go_ret
  exact ⟨rfl, ((Below.refl _ _).alloc (Nat.le_refl _) _)⟩

/-- A number as an expression: its cells. -/
abbrev numCells (n : Int) : Array Value := #[.int .i64 1, .int .i64 0, .int .i64 n, .string ⟨#[]⟩, .slice none 0 0]

theorem numberT_calls (n : Int) (w : World) : Calls Try.prog 55 #[.int .i64 n] w (Gives w (.agg (numCells n))) := by
  go_enter Try.func55, Try.ntmps55
  go_wp2
  exact bodyPost_ret (v := .agg (numCells n)) (by simp [results, Try.results55, go_sem]) rfl ⟨rfl, by first | exact (Below.refl _ _).alloc (Nat.le_refl _) _ | exact ((Below.refl _ _).alloc (Nat.le_refl _) _).setCell (by simp) _⟩
theorem numR_calls (n : Int) (w : World) : Calls Try.prog 62 #[.int .i64 n] w (Gives w (.agg (numCells n))) := by
  go_enter Try.func62, Try.ntmps62
  go_wp2
  exact bodyPost_ret (v := .agg (numCells n)) (by simp [results, Try.results62, go_sem]) rfl ⟨rfl, by first | exact (Below.refl _ _).alloc (Nat.le_refl _) _ | exact ((Below.refl _ _).alloc (Nat.le_refl _) _).setCell (by simp) _⟩
theorem numL_calls (n : Int) (w : World) : Calls Try.prog 51 #[.int .i64 n] w (Gives w (.agg (numCells n))) := by
  go_enter Try.func51, Try.ntmps51
  go_wp2
  exact bodyPost_ret (v := .agg (numCells n)) (by simp [results, Try.results51, go_sem]) rfl ⟨rfl, by first | exact (Below.refl _ _).alloc (Nat.le_refl _) _ | exact ((Below.refl _ _).alloc (Nat.le_refl _) _).setCell (by simp) _⟩

set_option maxRecDepth 20000 in
theorem atT_calls (i : Nat) (b : Nat) (a : Nat) (off m cap : Nat) (k o n : Int) (s : ByteArray) (a' : Option Addr) (m' cap' : Nat) (w : World) (him : i < m)
    (hb : w.cell? ⟨b, 4, none⟩ = some (.slice (some ⟨a, off, none⟩) m cap)) (g0 : w.cell? ⟨a, off + i * 5, none⟩ = some (.int .i64 k)) (g1 : w.cell? ⟨a, off + i * 5 + 1, none⟩ = some (.int .i64 o)) (g2 : w.cell? ⟨a, off + i * 5 + 2, none⟩ = some (.int .i64 n)) (g3 : w.cell? ⟨a, off + i * 5 + 3, none⟩ = some (.string s)) (g4 : w.cell? ⟨a, off + i * 5 + 4, none⟩ = some (.slice a' m' cap')) :
    Calls Try.prog 53 #[.int .i64 (i : Int), .pointer (some ⟨b, 0, none⟩)] w (Gives w (.tuple #[.int .i64 n, .bool (k == 1)])) := by
  have h0 : (0 : Int) ≤ (i : Int) := by omega
  have h1 : (i : Int) < (m : Int) := by omega
  go_enter Try.func53, Try.ntmps53
  go_wp2_with (go_at_call 54; refine (knownT_calls _ _ _ _ _ _ _ _).mono ?_; rintro e w' ⟨rfl, hB⟩)
  go_ret2
  exact ⟨rfl, hB⟩
end Go.Proofs.Ytimdnamhccipjaa
