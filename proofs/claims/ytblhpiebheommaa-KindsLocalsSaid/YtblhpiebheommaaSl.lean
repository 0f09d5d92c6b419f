/- Slices of structs, of whatever struct: how they read, and how one of their elements is opened. No program in sight. -/
import Derived.Test.YtblhpiebheommaaOwn
namespace Go.Proofs.Ytblhpiebheommaa
open Go.RowKit

/-- The sz cells of element i. -/
def rowCells (c : Nat → Nat → Value) (sz i : Nat) : List Value := (List.range sz).map (c i)

/-- A slice value whose elements hold these data. -/
def RdL {α : Type} (R : Holds α) (sz : Nat) (F : Nat → Prop) (w : World) (l : List α) (v : Value) : Prop := ∃ c, SlAt F w sz v l.length c ∧ ∀ i (h : i < l.length), R.R F w l[i] (rowCells c sz i)

section
variable {α : Type} {R : Holds α} {sz : Nat} {F G : Nat → Prop} {w w' : World} {l : List α} {v : Value}

theorem RdL.keep (hw : ∀ b, F b → w'.heap[b]? = w.heap[b]?) (hG : ∀ b, F b → G b) (h : RdL R sz F w l v) : RdL R sz G w' l v := by
  obtain ⟨c, h1, h2⟩ := h
  exact ⟨c, h1.keep hw hG, fun i hi => R.keep hw hG (h2 i hi)⟩
theorem RdL.below {B : Nat} (h : RdL R sz F w l v) (hF : Inn F w) (hb : Below B w w') (hB : w.heap.size ≤ B) : RdL R sz F w' l v := h.keep (fun b hb' => hb.block b (Nat.lt_of_lt_of_le (hF b hb') hB)) (fun _ h => h)
theorem RdL.alloc (h : RdL R sz F w l v) (hF : Inn F w) (o : Obj) : RdL R sz F (w.alloc o) l v := h.below hF ((Below.refl w.heap.size w).alloc (Nat.le_refl _) o) (Nat.le_refl _)

theorem RdL.shape (h : RdL R sz F w l v) : ∃ a cap, v = .slice a l.length cap := by
  obtain ⟨c, ⟨a, cap, rfl, _⟩, _⟩ := h
  exact ⟨a, cap, rfl⟩
theorem RdL.len (h : RdL R sz F w l v) : l.length ≤ maxLen := by
  obtain ⟨c, ⟨a, cap, rfl, h1, h2, _⟩, _⟩ := h
  omega

/-- The slice, opened: its array; and each element's cells, in any world in which that block is as it was. -/
theorem RdL.opn (h : RdL R sz F w l v) : ∃ a cap, v = .slice a l.length cap ∧ l.length ≤ cap ∧ cap ≤ maxLen ∧ (0 < l.length → ∃ b off, a = some ⟨b, off, none⟩ ∧ F b ∧ ∀ (wr : World), wr.heap[b]? = w.heap[b]? → ∀ k (hk : k < l.length), ∃ cs : List Value,
    R.R F w l[k] cs ∧ cs.length = sz ∧ ∀ j u, cs[j]? = some u → wr.cell? ⟨b, off + k * sz + j, none⟩ = some u) := by
  obtain ⟨c, ⟨a, cap, rfl, h1, h2, h3⟩, h4⟩ := h
  refine ⟨a, cap, rfl, h1, h2, fun h0 => ?_⟩
  obtain ⟨b, off, rfl, hb, hc⟩ := h3 h0
  refine ⟨b, off, rfl, hb, fun wr hwr k hk => ⟨rowCells c sz k, h4 k hk, by simp [rowCells], fun j u hu => ?_⟩⟩
  rw [World.cell?_of_block (w := w) hwr]
  unfold rowCells at hu
  rw [List.getElem?_map] at hu
  by_cases hj : j < sz
  · rw [List.getElem?_range hj] at hu
    simp at hu
    rw [← hu]
    exact hc k hk j hj
  · rw [List.getElem?_eq_none (by simp; omega)] at hu
    cases hu

theorem RdL.nil (R : Holds α) (sz : Nat) (F : Nat → Prop) (w : World) (a : Option Addr) (cap : Nat) (hc : cap ≤ maxLen) : RdL R sz F w [] (.slice a 0 cap) :=
  ⟨fun _ _ => undef, ⟨a, cap, rfl, Nat.zero_le _, hc, fun h => absurd h (by simp)⟩, fun i h => absurd h (by simp)⟩
end

/-- A struct's field that is a slice. -/
def Holds.sl {α : Type} (R : Holds α) (sz : Nat) : Holds (List α) := ⟨fun F w l cs => ∃ v, cs = [v] ∧ RdL R sz F w l v, fun h1 h2 ⟨v, h3, h4⟩ => ⟨v, h3, h4.keep h1 h2⟩⟩

/-- A string. -/
def Holds.str : Holds ByteArray := ⟨fun _ _ s cs => s.size ≤ maxLen ∧ cs = [.string s], fun _ _ h => h⟩
/-- A slice of strings. -/
abbrev RdStrs (F : Nat → Prop) (w : World) (l : List ByteArray) (v : Value) : Prop := RdL Holds.str 1 F w l v

/-- What a name stands for. -/
structure NameD where
  name : ByteArray
  kind : Int
  num : Int
def Holds.name : Holds NameD := ⟨fun _ _ x cs => x.name.size ≤ maxLen ∧ I64 x.kind ∧ I64 x.num ∧ cs = [.string x.name, .int .i64 x.kind, .int .i64 x.num], fun _ _ h => h⟩
abbrev RdNames (F : Nat → Prop) (w : World) (l : List NameD) (v : Value) : Prop := RdL Holds.name 3 F w l v
end Go.Proofs.Ytblhpiebheommaa
