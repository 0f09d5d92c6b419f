/- The plain law of ShowParts: a global more of a name that may be leaves a right source right as long as there is room and its number may be; a source with a part more as it lies in memory. -/
import Derived.Test.YtmabeegoapcfpaaGreatDoorPartsP
import Derived.Test.YtmabeegoapcfpaaGreatDoorPart663812f7
namespace Go.Proofs.YtmabeegoapcfpaaGreatDoor
open Go.RowKit
theorem nm_zebra : IsNm ⟨#[122, 101, 98, 114, 97]⟩ := by
  refine ⟨⟨by decide, by decide, ⟨by decide, by decide⟩, fun i hi => ?_⟩, by unfold IsKey; decide +kernel⟩
  have hi2 : i < 5 := hi
  match i, hi2 with
  | 0, _ => exact Or.inl ⟨by show 97 ≤ (122 : UInt8).toNat; decide, by show (122 : UInt8).toNat ≤ 122; decide⟩
  | 1, _ => exact Or.inl ⟨by show 97 ≤ (101 : UInt8).toNat; decide, by show (101 : UInt8).toNat ≤ 122; decide⟩
  | 2, _ => exact Or.inl ⟨by show 97 ≤ (98 : UInt8).toNat; decide, by show (98 : UInt8).toNat ≤ 122; decide⟩
  | 3, _ => exact Or.inl ⟨by show 97 ≤ (114 : UInt8).toNat; decide, by show (114 : UInt8).toNat ≤ 122; decide⟩
  | 4, _ => exact Or.inl ⟨by show 97 ≤ (97 : UInt8).toNat; decide, by show (97 : UInt8).toNat ≤ 122; decide⟩
theorem zebra_right {x : SrcD} {n : Int} (hx : SrcR x) : SrcR { x with globals := x.globals ++ [⟨⟨#[122, 101, 98, 114, 97]⟩, n⟩] } ↔ (x.globals.length < 64 ∧ -32767 ≤ n ∧ n ≤ 32767) := by
  constructor
  · rintro ⟨-, -, -, -, -, -, -, ⟨h1, h2⟩, -⟩
    have h3 := h2 ⟨⟨#[122, 101, 98, 114, 97]⟩, n⟩ (by simp)
    simp only [List.length_append, List.length_cons, List.length_nil] at h1
    exact ⟨by omega, h3.2.1, h3.2.2⟩
  · rintro ⟨h1, h2, h3⟩
    obtain ⟨a1, a2, a3, a4, a5, a6, a7, ⟨p1, p2⟩, r⟩ := hx
    refine ⟨a1, a2, a3, a4, a5, a6, a7, ⟨by simp only [List.length_append, List.length_cons, List.length_nil]; omega, fun y hy => ?_⟩, r⟩
    rcases List.mem_append.1 hy with h | h
    · exact p2 y h
    · obtain rfl : y = ⟨⟨#[122, 101, 98, 114, 97]⟩, n⟩ := by simpa using h
      exact ⟨nm_zebra, h2, h3⟩
theorem src_flags {F G : Nat → Prop} {w : World} {x : SrcD} {l : List ByteArray} {c0 c1 c2 c3 c4 c5 v : Value} {r : List Value} (h : Holds.src.R F w x (c0 :: c1 :: c2 :: c3 :: c4 :: c5 :: r)) (hG : ∀ b, F b → G b) (h5 : RdStrs G w l v) :
    Holds.src.R G w { x with flags := l } (c0 :: c1 :: c2 :: c3 :: c4 :: v :: r) := by
  have h' := Holds.src.keep (fun _ _ => rfl) hG h
  obtain ⟨a, b, c, d, e, v5, v6, v7, v8, v9, v10, v11, v12, f, g5, g6, g7, g8, g9, g10, g11, g12⟩ := h'
  simp only [List.cons.injEq] at f
  obtain ⟨rfl, rfl, rfl, rfl, rfl, rfl, rfl⟩ := f
  exact ⟨a, b, c, d, e, _, _, _, _, _, _, _, _, rfl, h5, g6, g7, g8, g9, g10, g11, g12⟩
theorem src_globals {F G : Nat → Prop} {w : World} {x : SrcD} {l : List PairD} {c0 c1 c2 c3 c4 c5 c6 c7 v : Value} {r : List Value} (h : Holds.src.R F w x (c0 :: c1 :: c2 :: c3 :: c4 :: c5 :: c6 :: c7 :: r)) (hG : ∀ b, F b → G b) (h7 : RdL Holds.pair 2 G w l v) :
    Holds.src.R G w { x with globals := l } (c0 :: c1 :: c2 :: c3 :: c4 :: c5 :: c6 :: v :: r) := by
  have h' := Holds.src.keep (fun _ _ => rfl) hG h
  obtain ⟨a, b, c, d, e, v5, v6, v7, v8, v9, v10, v11, v12, f, g5, g6, g7, g8, g9, g10, g11, g12⟩ := h'
  simp only [List.cons.injEq] at f
  obtain ⟨rfl, rfl, rfl, rfl, rfl, rfl, rfl, rfl, rfl⟩ := f
  exact ⟨a, b, c, d, e, _, _, _, _, _, _, _, _, rfl, g5, g6, h7, g8, g9, g10, g11, g12⟩
end Go.Proofs.YtmabeegoapcfpaaGreatDoor
