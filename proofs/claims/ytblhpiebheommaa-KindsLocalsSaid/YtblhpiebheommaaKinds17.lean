/- Chapter 16's example: what its table of names tells; the walks of example and named. -/
import Derived.Test.YtblhpiebheommaaKinds16
import Derived.Test.YtblhpiebheommaaKinds12
namespace Go.Proofs.Ytblhpiebheommaa
open Go.RowKit

def bX : ByteArray := { data := #[120] }
def bA : ByteArray := { data := #[97] }
def bC : ByteArray := { data := #[99] }
def bWorn : ByteArray := { data := #[119, 111, 114, 110] }
def bHall : ByteArray := { data := #[104, 97, 108, 108] }
def bHallT : ByteArray := { data := #[72, 97, 108, 108] }
def exO : ObjD := ⟨bHall, bHallT, ⟨#[]⟩, ⟨#[]⟩, true, [], [], [], [], []⟩
def exS : SrcD := ⟨⟨#[]⟩, ⟨#[]⟩, bHall, 0, 0, [bWorn], [], [], [exO], [], [], [], []⟩

theorem findN_no {t : List NameD} {n : ByteArray} (h : ∀ y ∈ t, y.name ≠ n) : findN t n = none := List.find?_eq_none.2 fun y hy => by simpa using h y hy

theorem name_worn : IsName bWorn := by
  refine ⟨by decide, by decide, ⟨by decide, by decide⟩, fun i hi => ?_⟩
  have hi2 : i < 4 := hi
  match i, hi2 with
  | 0, _ => exact Or.inl ⟨by show 97 ≤ (119 : UInt8).toNat; decide, by show (119 : UInt8).toNat ≤ 122; decide⟩
  | 1, _ => exact Or.inl ⟨by show 97 ≤ (111 : UInt8).toNat; decide, by show (111 : UInt8).toNat ≤ 122; decide⟩
  | 2, _ => exact Or.inl ⟨by show 97 ≤ (114 : UInt8).toNat; decide, by show (114 : UInt8).toNat ≤ 122; decide⟩
  | 3, _ => exact Or.inl ⟨by show 97 ≤ (110 : UInt8).toNat; decide, by show (110 : UInt8).toNat ≤ 122; decide⟩
theorem name_hall : IsName bHall := by
  refine ⟨by decide, by decide, ⟨by decide, by decide⟩, fun i hi => ?_⟩
  have hi2 : i < 4 := hi
  match i, hi2 with
  | 0, _ => exact Or.inl ⟨by show 97 ≤ (104 : UInt8).toNat; decide, by show (104 : UInt8).toNat ≤ 122; decide⟩
  | 1, _ => exact Or.inl ⟨by show 97 ≤ (97 : UInt8).toNat; decide, by show (97 : UInt8).toNat ≤ 122; decide⟩
  | 2, _ => exact Or.inl ⟨by show 97 ≤ (108 : UInt8).toNat; decide, by show (108 : UInt8).toNat ≤ 122; decide⟩
  | 3, _ => exact Or.inl ⟨by show 97 ≤ (108 : UInt8).toNat; decide, by show (108 : UInt8).toNat ≤ 122; decide⟩
theorem key_worn : ¬ IsKey bWorn := by unfold IsKey; decide +kernel
theorem key_hall : ¬ IsKey bHall := by unfold IsKey; decide +kernel

noncomputable def exT : List NameD := putN (putN namesStart ⟨bWorn, 1, 4⟩) ⟨bHall, 4, 2⟩
theorem exT_mem {y : NameD} : y ∈ exT ↔ y = ⟨bHall, 4, 2⟩ ∨ y = ⟨bWorn, 1, 4⟩ ∨ y ∈ namesStart := by unfold exT; rw [putN_mem, putN_mem]
theorem start_ne (n : ByteArray) (h : namesStart.all (fun y => decide (y.name ≠ n)) = true) : ∀ y ∈ namesStart, y.name ≠ n := fun y hy => by
  have := List.all_eq_true.1 h y hy
  simpa using this
theorem exT_made : mkT exS.ents namesStart = some exT := by
  show mkT [⟨bWorn, 1, 2, 0, 4, 12⟩, ⟨bHall, 4, 5, 0, 2, 126⟩] namesStart = _
  unfold mkT
  rw [if_pos (dec_true ⟨name_worn, key_worn, findN_no (start_ne _ (by decide)), by decide⟩)]
  unfold mkT
  rw [if_pos (dec_true ⟨name_hall, key_hall, findN_no (fun y hy => by
    rcases putN_mem.1 hy with rfl | hy
    · decide
    · exact start_ne _ (by decide) y hy), by decide⟩)]
  rfl
theorem exT_rises : Rises exT := (mkT_ok _ _ _ exT_made start_rises).1
theorem exT_len : exT.length = 6 := (mkT_ok _ _ _ exT_made start_rises).2.1
theorem exT_fit : NamesFit exT := fun y hy => by
  rcases exT_mem.1 hy with rfl | rfl | hy
  · exact ⟨by unfold maxLen; decide, by simp only [I64]; omega, by simp only [I64]; omega⟩
  · exact ⟨by unfold maxLen; decide, by simp only [I64]; omega, by simp only [I64]; omega⟩
  · simp only [namesStart, List.mem_cons, List.not_mem_nil, or_false] at hy
    rcases hy with rfl | rfl | rfl | rfl <;> exact ⟨by unfold maxLen; decide, by simp only [I64]; omega, by simp only [I64]; omega⟩
theorem exT_tab : TabOk exT [] 1 := fun y hy => by
  rcases exT_mem.1 hy with rfl | rfl | hy
  · exact ⟨fun h => absurd h (by decide), fun _ => by decide⟩
  · exact ⟨fun h => absurd h (by decide), fun h => absurd h (by decide)⟩
  · simp only [namesStart, List.mem_cons, List.not_mem_nil, or_false] at hy
    rcases hy with rfl | rfl | rfl | rfl <;> exact ⟨fun h => absurd h (by decide), fun h => absurd h (by decide)⟩
theorem exT_no (n : ByteArray) (h1 : bHall ≠ n) (h2 : bWorn ≠ n) (h : namesStart.all (fun y => decide (y.name ≠ n)) = true) : findN exT n = none := findN_no fun y hy => by
  rcases exT_mem.1 hy with rfl | rfl | hy
  · exact h1
  · exact h2
  · exact start_ne _ h y hy
theorem exT_x : findN exT bX = none := exT_no _ (by decide) (by decide) (by decide)
theorem exT_a : findN exT bA = none := exT_no _ (by decide) (by decide) (by decide)
theorem exT_worn : findN exT bWorn = some ⟨bWorn, 1, 4⟩ := exT_rises.find (x := ⟨bWorn, 1, 4⟩) (exT_mem.2 (.inr (.inl rfl)))
theorem exT_hall : findN exT bHall = some ⟨bHall, 4, 2⟩ := exT_rises.find (x := ⟨bHall, 4, 2⟩) (exT_mem.2 (.inl rfl))

def exName (n : ByteArray) : Ex := .mk 3 0 0 n []
def exOne : Ex := .mk 1 0 1 ⟨#[]⟩ []
def exLet : St := .mk 2 0 bA [exOne] [] []
def exStop : St := .mk 13 0 ⟨#[]⟩ [] [] []
def exEach : St := .mk 11 0 bC [exOne] [exLet] []

theorem ex_w_x : (exName bX).kW exT [] [] = (11, bX) := by
  show seqW (ownEx exT [] [] 3 bX 0) fineW = _
  have : ownEx exT [] [] 3 bX 0 = (11, bX) := by
    show eitherW exT [] [3, 4] bX = _
    unfold eitherW
    rw [if_neg (by rw [dec_false (by simp)]; decide), exT_x]
  rw [this]; rfl
theorem ex_w_worn : (exName bWorn).kW exT [] [] = (12, bWorn) := by
  show seqW (ownEx exT [] [] 3 bWorn 0) fineW = _
  have : ownEx exT [] [] 3 bWorn 0 = (12, bWorn) := by
    show eitherW exT [] [3, 4] bWorn = _
    unfold eitherW
    rw [if_neg (by rw [dec_false (by simp)]; decide), exT_worn]
    rfl
  rw [this]; rfl
theorem ex_w_lets : St.kWs exT [] 7 [] 0 [exLet, exLet] = (10, bA) := by
  rw [St.kWs_cons, St.kWs_cons]
  show seqW fineW (seqW (freshW exT [] bA (0 + 1)) (seqW fineW (seqW fineW (seqW fineW (seqW (freshW exT [bA] bA (0 + 1 + 0 + 0 + 1)) _))))) = _
  have h1 : freshW exT [] bA (0 + 1) = fineW := by
    unfold freshW
    rw [exT_a, dec_false (by simp)]; rfl
  have h2 : freshW exT [bA] bA (0 + 1 + 0 + 0 + 1) = (10, bA) := by
    unfold freshW
    rw [exT_a, dec_true (by simp)]; rfl
  rw [h1, h2]; rfl
theorem ex_w_stop : St.kWs exT [] 8 [] 0 [exStop] = (18, ⟨#[]⟩) := by
  rw [St.kWs_cons]
  rfl
theorem ex_locs : St.locsL [exEach] = 3 := by rfl
theorem ex_room : roomW exT [exO] bHall = fineW := by
  have : ofN exT 4 bHall = (2, 0) := by unfold ofN; rw [exT_hall]; rfl
  unfold roomW
  rw [this]; rfl
end Go.Proofs.Ytblhpiebheommaa
