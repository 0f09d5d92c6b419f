/- Chapter 16's example: what its table of names tells; the walks of example and named. -/
import Derived.Test.YtblhpiebheommaaGreatKindsChecksPart38
import Derived.Test.YtblhpiebheommaaGreatKinds12
namespace Go.Proofs.YtblhpiebheommaaGreat
open Go.RowKit

def bX : ByteArray := { data := #[120] }
def bA : ByteArray := { data := #[97] }
def bC : ByteArray := { data := #[99] }
def bWorn : ByteArray := { data := #[119, 111, 114, 110] }
def bHall : ByteArray := { data := #[104, 97, 108, 108] }
def bHallT : ByteArray := { data := #[72, 97, 108, 108] }
def exO : ObjD := ⟨bHall, bHallT, ⟨#[]⟩, ⟨#[]⟩, true, [], [], [], [], []⟩
def exS : SrcD := ⟨⟨#[]⟩, ⟨#[]⟩, bHall, 0, 0, [bWorn], [], [], [exO], [], [], [], []⟩

theorem findN_no {t : List NameD} {n : ByteArray} (h : ∀ y ∈ t, y.name ≠ n) : findN t n = none := List.find?_eq_none.2 fun y hy => by simpa using h y hy

theorem name_worn : IsName bWorn := by
  refine ⟨by decide, by decide, ⟨by decide, by decide⟩, fun i hi => ?_⟩
  have hi2 : i < 4 := hi
  match i, hi2 with
  | 0, _ => exact Or.inl ⟨by show 97 ≤ (119 : UInt8).toNat; decide, by show (119 : UInt8).toNat ≤ 122; decide⟩
  | 1, _ => exact Or.inl ⟨by show 97 ≤ (111 : UInt8).toNat; decide, by show (111 : UInt8).toNat ≤ 122; decide⟩
  | 2, _ => exact Or.inl ⟨by show 97 ≤ (114 : UInt8).toNat; decide, by show (114 : UInt8).toNat ≤ 122; decide⟩
  | 3, _ => exact Or.inl ⟨by show 97 ≤ (110 : UInt8).toNat; decide, by show (110 : UInt8).toNat ≤ 122; decide⟩
theorem name_hall : IsName bHall := by
  refine ⟨by decide, by decide, ⟨by decide, by decide⟩, fun i hi => ?_⟩
  have hi2 : i < 4 := hi
  match i, hi2 with
  | 0, _ => exact Or.inl ⟨by show 97 ≤ (104 : UInt8).toNat; decide, by show (104 : UInt8).toNat ≤ 122; decide⟩
  | 1, _ => exact Or.inl ⟨by show 97 ≤ (97 : UInt8).toNat; decide, by show (97 : UInt8).toNat ≤ 122; decide⟩
  | 2, _ => exact Or.inl ⟨by show 97 ≤ (108 : UInt8).toNat; decide, by show (108 : UInt8).toNat ≤ 122; decide⟩
  | 3, _ => exact Or.inl ⟨by show 97 ≤ (108 : UInt8).toNat; decide, by show (108 : UInt8).toNat ≤ 122; decide⟩
theorem key_worn : ¬ IsKey bWorn := by unfold IsKey; decide +kernel
theorem key_hall : ¬ IsKey bHall := by unfold IsKey; decide +kernel

noncomputable def exT : List NameD := putN (putN namesStart ⟨bWorn, 1, 4⟩) ⟨bHall, 4, 2⟩
theorem exT_mem {y : NameD} : y ∈ exT ↔ y = ⟨bHall, 4, 2⟩ ∨ y = ⟨bWorn, 1, 4⟩ ∨ y ∈ namesStart := by unfold exT; rw [putN_mem, putN_mem]
theorem start_ne (n : ByteArray) (h : namesStart.all (fun y => decide (y.name ≠ n)) = true) : ∀ y ∈ namesStart, y.name ≠ n := fun y hy => by
  have := List.all_eq_true.1 h y hy
  simpa using this
theorem exT_made : mkT exS.ents namesStart = some exT := by
  show mkT [⟨bWorn, 1, 2, 0, 4, 12⟩, ⟨bHall, 4, 5, 0, 2, 126⟩] namesStart = _
  unfold mkT
  rw [if_pos (dec_true ⟨name_worn, key_worn, findN_no (start_ne _ (by decide)), by decide⟩)]
  unfold mkT
  rw [if_pos (dec_true ⟨name_hall, key_hall, findN_no (fun y hy => by
    rcases putN_mem.1 hy with rfl | hy
    · decide
    · exact start_ne _ (by decide) y hy), by decide⟩)]
  rfl
theorem exT_rises : Rises exT := (mkT_ok _ _ _ exT_made start_rises).1
theorem exT_len : exT.length = 6 := (mkT_ok _ _ _ exT_made start_rises).2.1
theorem exT_fit : NamesFit exT := fun y hy => by
  rcases exT_mem.1 hy with rfl | rfl | hy
  · exact ⟨by unfold maxLen; decide, by simp only [I64]; omega, by simp only [I64]; omega⟩
  · exact ⟨by unfold maxLen; decide, by simp only [I64]; omega, by simp only [I64]; omega⟩
  · simp only [namesStart, List.mem_cons, List.not_mem_nil, or_false] at hy
    rcases hy with rfl | rfl | rfl | rfl <;> exact ⟨by unfold maxLen; decide, by simp only [I64]; omega, by simp only [I64]; omega⟩
theorem exT_tab : TabOk exT [] 1 := fun y hy => by
  rcases exT_mem.1 hy with rfl | rfl | hy
  · exact ⟨fun h => absurd h (by decide), fun _ => by decide⟩
  · exact ⟨fun h => absurd h (by decide), fun h => absurd h (by decide)⟩
  · simp only [namesStart, List.mem_cons, List.not_mem_nil, or_false] at hy
    rcases hy with rfl | rfl | rfl | rfl <;> exact ⟨fun h => absurd h (by decide), fun h => absurd h (by decide)⟩
theorem exT_no (n : ByteArray) (h1 : bHall ≠ n) (h2 : bWorn ≠ n) (h : namesStart.all (fun y => decide (y.name ≠ n)) = true) : findN exT n = none := findN_no fun y hy => by
  rcases exT_mem.1 hy with rfl | rfl | hy
  · exact h1
  · exact h2
  · exact start_ne _ h y hy
theorem exT_x : findN exT bX = none := exT_no _ (by decide) (by decide) (by decide)
theorem exT_a : findN exT bA = none := exT_no _ (by decide) (by decide) (by decide)
theorem exT_worn : findN exT bWorn = some ⟨bWorn, 1, 4⟩ := exT_rises.find (x := ⟨bWorn, 1, 4⟩) (exT_mem.2 (.inr (.inl rfl)))
theorem exT_hall : findN exT bHall = some ⟨bHall, 4, 2⟩ := exT_rises.find (x := ⟨bHall, 4, 2⟩) (exT_mem.2 (.inl rfl))

def exName (n : ByteArray) : Ex := .mk 3 0 0 n []
def exOne : Ex := .mk 1 0 1 ⟨#[]⟩ []
def exLet : St := .mk 2 0 bA [exOne] [] []
def exStop : St := .mk 13 0 ⟨#[]⟩ [] [] []
def exEach : St := .mk 11 0 bC [exOne] [exLet] []

theorem ex_w_x : (exName bX).kW exT [] [] = (11, bX) := by
  show seqW (ownEx exT [] [] 3 bX 0) fineW = _
  have : ownEx exT [] [] 3 bX 0 = (11, bX) := by
    show eitherW exT [] [3, 4] bX = _
    unfold eitherW
    rw [if_neg (by rw [dec_false (by simp)]; decide), exT_x]
  rw [this]; rfl
theorem ex_w_worn : (exName bWorn).kW exT [] [] = (12, bWorn) := by
  show seqW (ownEx exT [] [] 3 bWorn 0) fineW = _
  have : ownEx exT [] [] 3 bWorn 0 = (12, bWorn) := by
    show eitherW exT [] [3, 4] bWorn = _
    unfold eitherW
    rw [if_neg (by rw [dec_false (by simp)]; decide), exT_worn]
    rfl
  rw [this]; rfl
theorem ex_w_lets : St.kWs exT [] 7 [] 0 [exLet, exLet] = (10, bA) := by
  rw [St.kWs_cons, St.kWs_cons]
  show seqW fineW (seqW (freshW exT [] bA (0 + 1)) (seqW fineW (seqW fineW (seqW fineW (seqW (freshW exT [bA] bA (0 + 1 + 0 + 0 + 1)) _))))) = _
  have h1 : freshW exT [] bA (0 + 1) = fineW := by
    unfold freshW
    rw [exT_a, dec_false (by simp)]; rfl
  have h2 : freshW exT [bA] bA (0 + 1 + 0 + 0 + 1) = (10, bA) := by
    unfold freshW
    rw [exT_a, dec_true (by simp)]; rfl
  rw [h1, h2]; rfl
theorem ex_w_stop : St.kWs exT [] 8 [] 0 [exStop] = (18, ⟨#[]⟩) := by
  rw [St.kWs_cons]
  rfl
theorem ex_locs : St.locsL [exEach] = 3 := by rfl
theorem ex_room : roomW exT [exO] bHall = fineW := by
  have : ofN exT 4 bHall = (2, 0) := by unfold ofN; rw [exT_hall]; rfl
  unfold roomW
  rw [this]; rfl
end Go.Proofs.YtblhpiebheommaaGreat
/- The walks of clewlaw16's example and named. -/
namespace Go.Proofs.YtblhpiebheommaaGreat
open Go.RowKit

def exSS (a b : Nat) : List Value := [.string ⟨#[]⟩, .string ⟨#[]⟩, .string { data := #[104, 97, 108, 108] }, .int .i64 0, .int .i64 0, .slice (some ⟨a, 0, none⟩) 1 1, .slice none 0 0, .slice none 0 0, .slice (some ⟨b, 0, none⟩) 1 1, .slice none 0 0, .slice none 0 0, .slice none 0 0, .slice none 0 0]
def exOO : List Value := [.string { data := #[104, 97, 108, 108] }, .string { data := #[72, 97, 108, 108] }, .string ⟨#[]⟩, .string ⟨#[]⟩, .bool true, .slice none 0 0, .slice none 0 0, .slice none 0 0, .slice none 0 0, .slice none 0 0]
theorem exS_held {F : Nat → Prop} {w : World} {a b : Nat} (ha : F a) (hb : F b) (h1 : Bx w a [.string { data := #[119, 111, 114, 110] }]) (h2 : Bx w b exOO) : Holds.src.R F w exS (exSS a b) := by
  have hn : ∀ {α : Type} (R : Holds α) (sz : Nat), RdL R sz F w [] (.slice none 0 0) := fun R sz => RdL.nil R sz F w none 0 (Nat.zero_le _)
  refine ⟨by unfold maxLen; decide, by unfold maxLen; decide, by unfold maxLen; decide, by simp only [I64]; decide, by simp only [I64]; decide, _, _, _, _, _, _, _, _, rfl, ?_, hn _ _, hn _ _, ?_, hn _ _, hn _ _, hn _ _, hn _ _⟩
  · refine ⟨fun _ _ => .string { data := #[119, 111, 114, 110] }, ⟨_, _, rfl, Nat.le_refl _, by unfold maxLen; decide, fun _ => ⟨a, 0, rfl, ha, fun i hi j hj => ?_⟩⟩, fun i hi => ?_⟩
    · have hi2 : i < 1 := hi
      obtain rfl : i = 0 := by omega
      obtain rfl : j = 0 := by omega
      exact h1 0 (by simp)
    · have hi2 : i < 1 := hi
      obtain rfl : i = 0 := by omega
      exact ⟨show bWorn.size ≤ maxLen by unfold maxLen; decide, rfl⟩
  · refine ⟨fun _ j => exOO.getD j undef, ⟨_, _, rfl, Nat.le_refl _, by unfold maxLen; decide, fun _ => ⟨b, 0, rfl, hb, fun i hi j hj => ?_⟩⟩, fun i hi => ?_⟩
    · have hi2 : i < 1 := hi
      obtain rfl : i = 0 := by omega
      rw [show 0 + 0 * 10 + j = j by omega, h2 j hj]
      show _ = some (exOO.getD j undef)
      rw [List.getD_eq_getElem?_getD, List.getElem?_eq_getElem (show j < exOO.length from hj)]
      rfl
    · have hi2 : i < 1 := hi
      obtain rfl : i = 0 := by omega
      exact ⟨show bHall.size ≤ maxLen by unfold maxLen; decide, show bHallT.size ≤ maxLen by unfold maxLen; decide, Nat.zero_le _, Nat.zero_le _, _, _, _, _, _, rfl, hn _ _, hn _ _, hn _ _, hn _ _, hn _ _⟩

def ExPost (w : World) (e : Ending) (w' : World) : Prop := ∃ a b, e = .returned (.agg (exSS a b).toArray) ∧ Holds.src.R (NewB w.heap.size w'.heap.size) w' exS (exSS a b) ∧ Below w.heap.size w w'

set_option maxRecDepth 100000 in
set_option maxHeartbeats 2000000 in
theorem example_calls (w : World) : Calls Tryz.prog 11 #[] w (ExPost w) := by
  go_enter Tryz.func11, Tryz.ntmps11
  go_wp2
  refine bodyPost_ret (v := .agg (exSS (w.heap.size + 1) (w.heap.size + 1 + 1)).toArray) (by simp [results, Tryz.results11, go_sem, exSS]; try rfl) rfl ⟨w.heap.size + 1, w.heap.size + 1 + 1, rfl, exS_held ⟨by omega, by simp⟩ ⟨by omega, by simp⟩ ?_ ?_, (((Below.refl _ w).alloc (Nat.le_refl _) _).alloc (by simp) _).alloc (by simp <;> omega) _⟩
  · exact (bx_new _ _ _ _ (by simp)).alloc (by simp) _
  · exact bx_new _ _ _ _ (by simp)

set_option maxRecDepth 100000 in
set_option maxHeartbeats 2000000 in
theorem named_calls (n : ByteArray) (w : World) : Calls Tryz.prog 13 #[.string n] w (Gives w (.agg #[.int .i64 3, .int .i64 0, .int .i64 0, .string n, .slice none 0 0])) := by
  go_enter Tryz.func13, Tryz.ntmps13
  go_wp2
  exact bodyPost_ret (v := .agg #[.int .i64 3, .int .i64 0, .int .i64 0, .string n, .slice none 0 0]) (by simp [results, Tryz.results13, go_sem]; try rfl) rfl ⟨rfl, (Below.refl _ w).alloc (Nat.le_refl _) _⟩
end Go.Proofs.YtblhpiebheommaaGreat
/- The walk of clewlaw16.awake: chapter 16's examples hold. -/
namespace Go.Proofs.YtblhpiebheommaaGreat
open Go.RowKit Go.Sort

/-- What the example has built. -/
structure AwK (w W : World) (b1 bo : Nat) (tv : Value) (ss : List Value) : Prop where
  bel : Below w.heap.size w W
  box : BoxAt W b1 ss
  one : BoxAt W bo [.int .i64 1, .int .i64 0, .int .i64 1, .string ⟨#[]⟩, .slice none 0 0]
  tab : RdNames (fun b => b < W.heap.size) W exT tv
  src : Holds.src.R (fun b => b < W.heap.size) W exS ss
theorem AwK.below {w W W' : World} {b1 bo : Nat} {tv : Value} {ss : List Value} (h : AwK w W b1 bo tv ss) (hb : Below W.heap.size W W') : AwK w W' b1 bo tv ss :=
  ⟨h.bel.trans (hb.mono h.bel.size), h.box.below hb h.box.1, h.one.below hb h.one.1, h.tab.keep (fun b hb' => hb.block b hb') (fun _ hb' => Nat.lt_of_lt_of_le hb' hb.size), Holds.src.keep (fun b hb' => hb.block b hb') (fun _ hb' => Nat.lt_of_lt_of_le hb' hb.size) h.src⟩
theorem AwK.exs {w W : World} {b1 bo : Nat} {tv : Value} {ss : List Value} (h : AwK w W b1 bo tv ss) : Exs (fun b => b < W.heap.size) W [exOne] (.slice (some ⟨bo, 0, none⟩) 1 1) := exs_one (F := fun b => b < W.heap.size) (w := W) (b := bo) (hF := h.one.1) (fun j hj => h.one.2 j hj) (rd_ex (i64 1) (i64 0) (i64 1) (Nat.zero_le _) (exs_nil _ _))

theorem gives_wrong {P : Program} {k : Nat} {args : Array Value} {W : World} {p : Int × ByteArray} {er : Int} {n : ByteArray} (h : Calls P k args W (GivesWrong W p)) (hp : p = (er, n)) (h0 : er ≠ 0) : Calls P k args W (Gives W (.tuple #[.int .i64 er, .string n])) :=
  h.mono fun e w' ⟨nm, h1, _, h3, h4⟩ => by
    subst hp
    have := h3 h0
    subst this
    exact ⟨h1, h4⟩

theorem aw_expr {w W : World} {b1 bo : Nat} {tv : Value} {ss : List Value} (h : AwK w W b1 bo tv ss) (n : ByteArray) (er : Int) (hn : n.size ≤ maxLen) (hk : (exName n).kW exT [] [] = (er, n)) (h0 : er ≠ 0) :
    Calls Tryz.prog 12 #[tv, .agg ss.toArray, .slice none 0 0, .agg #[.int .i64 3, .int .i64 0, .int .i64 0, .string n, .slice none 0 0]] W (Gives W (.tuple #[.int .i64 er, .string n])) :=
  gives_wrong (kExpr_calls exT exS [] (exName n) (fun b => b < W.heap.size) W tv (.slice none 0 0) ss [.int .i64 3, .int .i64 0, .int .i64 0, .string n, .slice none 0 0] (fun _ h => h) exT_rises (by rw [exT_len]; decide) exT_tab h.tab h.src (RdL.nil _ _ _ _ _ _ (Nat.zero_le _)) (rd_ex (i64 3) (i64 0) (i64 0) hn (exs_nil _ _))) hk h0

theorem aw_block {w W : World} {b1 bo : Nat} {tv : Value} {ss : List Value} (h : AwK w W b1 bo tv ss) (wh : Int) (L : List St) (Lv : Value) (n : ByteArray) (er : Int) (hL : Sts (fun b => b < W.heap.size) W L Lv) (hk : St.kWs exT [] wh [] 0 L = (er, n)) (h0 : er ≠ 0) :
    Calls Tryz.prog 14 #[tv, .agg ss.toArray, .slice none 0 0, .int .i64 wh, Lv] W (Gives W (.tuple #[.int .i64 er, .string n])) :=
  gives_wrong (kBlock_calls exT exS [] wh L (fun b => b < W.heap.size) W tv (.slice none 0 0) Lv ss (fun _ h => h) exT_rises (by rw [exT_len]; decide) exT_tab (by simp) h.tab h.src (RdL.nil _ _ _ _ _ _ (Nat.zero_le _)) hL) hk h0

theorem aw_check {w W : World} {b1 bo : Nat} {tv : Value} {ss : List Value} (h : AwK w W b1 bo tv ss) :
    Calls Tryz.prog 7 #[.agg ss.toArray, tv] W (Gives W (.agg #[.int .i64 0, .int .i64 0, .int .i64 0, .string ⟨#[]⟩])) := by
  have hF : Inn (fun b => b < W.heap.size) W := fun _ h => h
  have := kCheck_calls exT exS (fun _ _ => fineW) (fun b => b < W.heap.size) W tv ss hF h.tab h.src (fun p i W' hp hi hW => by
    have hT := RdL.below h.tab hF hW (Nat.le_refl _)
    have hS := Holds.below _ h.src hF hW (Nat.le_refl _)
    have hI := hF.below hW
    simp only [parts6, List.mem_cons, List.not_mem_nil, or_false] at hp
    rcases hp with rfl | rfl | rfl | rfl | rfl | rfl
    · refine chk1_calls exT exS i fineW _ W' tv ss hT hS fun W2 hW2 => ?_
      have := room_calls exT exS bHall _ W2 tv ss (hI.below hW2) exT_rises (by rw [exT_len]; decide) exT_tab (RdL.below hT hI hW2 (Nat.le_refl _)) (Holds.below _ hS hI hW2 (Nat.le_refl _))
      rw [show exS.objects = [exO] from rfl, ex_room] at this
      exact this
    · refine chk5_calls exT exS i fineW _ W' tv ss hT hS fun W2 hW2 => ?_
      have hi1 : i < 1 := hi
      obtain rfl : i = 0 := by omega
      exact obare_calls exT exS 0 _ W2 tv ss (hI.below hW2) (RdL.below hT hI hW2 (Nat.le_refl _)) (Holds.below _ hS hI hW2 (Nat.le_refl _)) (by decide) ⟨rfl, rfl, rfl, rfl, rfl, rfl⟩
    · exact absurd hi (Nat.not_lt_zero _)
    · exact absurd hi (Nat.not_lt_zero _)
    · exact absurd hi (Nat.not_lt_zero _)
    · exact absurd hi (Nat.not_lt_zero _))
  exact this

theorem aw_locs {W : World} (Lv : Value) (hL : Sts (fun b => b < W.heap.size) W [exEach] Lv) :
    Calls Tryz.prog 15 #[Lv] W (Gives W (.int .i64 3)) := by
  have := locsT_calls [exEach] (fun b => b < W.heap.size) W Lv (fun _ h => h) (by decide) hL
  rwa [ex_locs] at this
end Go.Proofs.YtblhpiebheommaaGreat
