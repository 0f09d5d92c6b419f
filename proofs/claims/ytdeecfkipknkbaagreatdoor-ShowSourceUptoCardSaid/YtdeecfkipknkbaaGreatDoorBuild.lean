/- Expressions and statements that a function has built: how their cells are read. -/
import Derived.Test.YtdeecfkipknkbaaGreatDoorData
namespace Go.Proofs.YtdeecfkipknkbaaGreatDoor
open Go.RowKit
def Bx (w : World) (b : Nat) (cs : List Value) : Prop := ∀ j, j < cs.length → w.cell? ⟨b, j, none⟩ = cs[j]?
theorem bx_of_heap {w : World} {b : Nat} {cs : List Value} {t : TypeId} {fr : Nat × Nat} (h : w.heap[b]? = some (.cells cs.toArray t fr)) : Bx w b cs := fun j _ => by simp [World.cell?, h]
theorem Bx.below {B : Nat} {w w' : World} {b : Nat} {cs : List Value} (h : Bx w b cs) (hb : Below B w w') (hB : b < B) : Bx w' b cs := fun j hj => by rw [hb.cell (p := ⟨b, j, none⟩) hB]; exact h j hj
theorem bx_new (w : World) (cs : List Value) (t : TypeId) (b : Nat) (h : b = w.heap.size) : Bx (w.alloc (.cells cs.toArray t)) b cs :=
 bx_of_heap (t := t) (fr := (0, 0)) (by subst h; show (w.heap.push _)[w.heap.size]? = _; rw [Array.getElem?_push, if_pos rfl])
theorem Bx.alloc {w : World} {b : Nat} {cs : List Value} (h : Bx w b cs) (hb : b < w.heap.size) (o : Obj) : Bx (w.alloc o) b cs := h.below ((Below.refl w.heap.size w).alloc (Nat.le_refl _) o) hb
theorem RdRow.of {F : Nat → Prop} {w : World} : ∀ {l : List Ex} {c : Nat → Nat → Value}, (∀ i (h : i < l.length), RdEx F w l[i] [c i 0, c i 1, c i 2, c i 3, c i 4]) → RdRow F w l c
 | [], _, _ => trivial
 | _ :: l, c, h => ⟨h 0 (by simp), RdRow.of (l := l) (c := fun i => c (i + 1)) (fun i hi => h (i + 1) (by simpa using hi))⟩
theorem RdSts.of {F : Nat → Prop} {w : World} : ∀ {l : List St} {c : Nat → Nat → Value}, (∀ i (h : i < l.length), RdSt F w l[i] [c i 0, c i 1, c i 2, c i 3, c i 4, c i 5]) → RdSts F w l c
 | [], _, _ => trivial
 | _ :: l, c, h => ⟨h 0 (by simp), RdSts.of (l := l) (c := fun i => c (i + 1)) (fun i hi => h (i + 1) (by simpa using hi))⟩
theorem exs_nil (F : Nat → Prop) (w : World) : Exs F w [] (.slice none 0 0) := ⟨fun _ _ => undef, ⟨none, 0, rfl, Nat.le_refl _, by unfold maxLen; omega, fun h => absurd h (by simp)⟩, trivial⟩
theorem sts_nil (F : Nat → Prop) (w : World) : Sts F w [] (.slice none 0 0) := ⟨fun _ _ => undef, ⟨none, 0, rfl, Nat.le_refl _, by unfold maxLen; omega, fun h => absurd h (by simp)⟩, trivial⟩
theorem rd_ex {F : Nat → Prop} {w : World} {k o n : Int} {s : ByteArray} {args : List Ex} {v : Value} (h1 : I64 k) (h2 : I64 o) (h3 : I64 n) (h4 : s.size ≤ maxLen) (ha : Exs F w args v) : RdEx F w (.mk k o n s args) [.int .i64 k, .int .i64 o, .int .i64 n, .string s, v] := by
 obtain ⟨c, hs, hr⟩ := ha
 exact ⟨h1, h2, h3, h4, v, c, rfl, hs, hr⟩
theorem rd_st {F : Nat → Prop} {w : World} {k n : Int} {s : ByteArray} {args : List Ex} {body els : List St} {v1 v2 v3 : Value} (h1 : I64 k) (h2 : I64 n) (h4 : s.size ≤ maxLen) (ha : Exs F w args v1) (hb : Sts F w body v2) (he : Sts F w els v3) :
 RdSt F w (.mk k n s args body els) [.int .i64 k, .int .i64 n, .string s, v1, v2, v3] := by
 obtain ⟨c, hs, hr⟩ := ha
 obtain ⟨c2, hs2, hr2⟩ := hb
 obtain ⟨c3, hs3, hr3⟩ := he
 exact ⟨h1, h2, h4, v1, c, v2, c2, v3, c3, rfl, hs, hr, hs2, hr2, hs3, hr3⟩
theorem i64 (n : Int) (h : -1000000 ≤ n ∧ n ≤ 1000000 := by omega) : I64 n := by unfold I64; omega
end Go.Proofs.YtdeecfkipknkbaaGreatDoor
