/- The law's small source: its walk, and what is true of it. Printed by gen-show21.py. -/
import Derived.Test.YtdeecfkipknkbaaGreatDoorShowM
import Derived.Test.YtdeecfkipknkbaaGreatDoorShW
import Derived.Test.YtdeecfkipknkbaaGreatDoorBuild
namespace Go.Proofs.YtdeecfkipknkbaaGreatDoor
set_option maxRecDepth 100000
set_option maxHeartbeats 1000000
open Go.RowKit Go.Sort
theorem rowCells_const (cs : List Value) : rowCells (fun _ j => cs.getD j undef) cs.length 0 = cs := by
 unfold rowCells
 apply List.ext_getElem
 · simp
 intro i h1 h2
 simp at h1 h2 ⊢
 rw [List.getElem?_eq_getElem h2]
 rfl
theorem rdl_one {α : Type} {R : Holds α} {F : Nat → Prop} {w : World} {b sz : Nat} {x : α} {cs : List Value} (hF : F b) (hb : Bx w b cs) (hl : cs.length = sz) (hx : R.R F w x cs) : RdL R sz F w [x] (.slice (some ⟨b, 0, none⟩) 1 1) := by
 subst hl
 refine ⟨fun _ j => cs.getD j undef, ⟨_, _, rfl, Nat.le_refl _, by unfold maxLen; simp, fun _ => ⟨b, 0, rfl, hF, fun i hi j hj => ?_⟩⟩, fun i hi => ?_⟩
 · have hi0 : i = 0 := by simp at hi; omega
   subst hi0
   have := hb j hj
   simp only [Nat.zero_mul, Nat.zero_add]
   rw [this]
   simp [hj]
 have hi0 : i = 0 := by simp at hi; omega
 subst hi0
 rw [rowCells_const]
 exact hx
def smO : ObjD := ⟨⟨#[104, 97, 108, 108]⟩, ⟨#[72, 97, 108, 108]⟩, ⟨#[]⟩, ⟨#[]⟩, true, [], [], [], [], []⟩
def smR : RuleD := ⟨⟨#[116, 97, 107, 101]⟩, 2, ⟨#[]⟩, ⟨#[108, 97, 109, 112]⟩, [], []⟩
def smS (start : ByteArray) (rules : List RuleD) : SrcD := ⟨⟨#[84, 97, 108, 101]⟩, ⟨#[110, 111, 98, 111, 100, 121]⟩, start, 1, 0, [], [], [], [smO], [], rules, [], []⟩
theorem strs_nil (F : Nat → Prop) (w : World) : RdStrs F w [] (.slice none 0 0) := RdL.nil Holds.str 1 F w none 0 (by unfold maxLen; omega)
theorem smO_at {F : Nat → Prop} {w : World} {b : Nat} (hF : F b) (hb : Bx w b [.string ⟨#[104, 97, 108, 108]⟩, .string ⟨#[72, 97, 108, 108]⟩, .string ⟨#[]⟩, .string ⟨#[]⟩, .bool true, .slice none 0 0, .slice none 0 0, .slice none 0 0, .slice none 0 0, .slice none 0 0]) : RdL Holds.obj 10 F w [smO] (.slice (some ⟨b, 0, none⟩) 1 1) :=
 rdl_one hF hb rfl ⟨by decide, by decide, by decide, by decide, _, _, _, _, _, rfl, strs_nil F w, strs_nil F w, strs_nil F w, RdL.nil Holds.pair 2 F w none 0 (by unfold maxLen; omega), RdL.nil Holds.exit 4 F w none 0 (by unfold maxLen; omega)⟩
theorem smR_at {F : Nat → Prop} {w : World} {b : Nat} (hF : F b) (hb : Bx w b [.string ⟨#[116, 97, 107, 101]⟩, .int .i64 2, .string ⟨#[]⟩, .string ⟨#[108, 97, 109, 112]⟩, .slice none 0 0, .slice none 0 0]) : RdL Holds.rule 6 F w [smR] (.slice (some ⟨b, 0, none⟩) 1 1) :=
 rdl_one hF hb rfl ⟨by decide, i64 2, by decide, by decide, _, _, rfl, exs_nil F w, sts_nil F w⟩
theorem smS_at {F : Nat → Prop} {w : World} {start : ByteArray} {rules : List RuleD} {vo vr : Value} (hs : start.size ≤ maxLen) (ho : RdL Holds.obj 10 F w [smO] vo) (hr : RdL Holds.rule 6 F w rules vr) :
 Holds.src.R F w (smS start rules) [.string ⟨#[84, 97, 108, 101]⟩, .string ⟨#[110, 111, 98, 111, 100, 121]⟩, .string start, .int .i64 1, .int .i64 0, .slice none 0 0, .slice none 0 0, .slice none 0 0, vo, .slice none 0 0, vr, .slice none 0 0, .slice none 0 0] :=
 ⟨(show (⟨#[84, 97, 108, 101]⟩ : ByteArray).size ≤ maxLen by decide), (show (⟨#[110, 111, 98, 111, 100, 121]⟩ : ByteArray).size ≤ maxLen by decide), hs, i64 1, i64 0, _, _, _, _, _, _, _, _, rfl, strs_nil F w, RdL.nil Holds.pair 2 F w none 0 (by unfold maxLen; omega), RdL.nil Holds.pair 2 F w none 0 (by unfold maxLen; omega), ho, RdL.nil Holds.verb 3 F w none 0 (by unfold maxLen; omega), hr, RdL.nil Holds.fnc 3 F w none 0 (by unfold maxLen; omega), RdL.nil Holds.fnc 3 F w none 0 (by unfold maxLen; omega)⟩
theorem rules_nil (F : Nat → Prop) (w : World) : RdL Holds.rule 6 F w [] (.slice none 0 0) := RdL.nil Holds.rule 6 F w none 0 (by unfold maxLen; omega)
def SmAt (w : World) (b : Nat) : Prop := b < w.heap.size ∧ Bx w b [.string ⟨#[104, 97, 108, 108]⟩, .string ⟨#[72, 97, 108, 108]⟩, .string ⟨#[]⟩, .string ⟨#[]⟩, .bool true, .slice none 0 0, .slice none 0 0, .slice none 0 0, .slice none 0 0, .slice none 0 0]
theorem SmAt.below {w w' : World} {b : Nat} (h : SmAt w b) (hb : Below w.heap.size w w') : SmAt w' b := ⟨Nat.lt_of_lt_of_le h.1 hb.size, h.2.below hb h.1⟩
theorem SmAt.src {w : World} {b : Nat} (h : SmAt w b) : Holds.src.R (fun b => b < w.heap.size) w (smS ⟨#[104, 97, 108, 108]⟩ []) [.string ⟨#[84, 97, 108, 101]⟩, .string ⟨#[110, 111, 98, 111, 100, 121]⟩, .string ⟨#[104, 97, 108, 108]⟩, .int .i64 1, .int .i64 0, .slice none 0 0, .slice none 0 0, .slice none 0 0, .slice (some ⟨b, 0, none⟩) 1 1, .slice none 0 0, .slice none 0 0, .slice none 0 0, .slice none 0 0] := smS_at (by decide) (smO_at h.1 h.2) (rules_nil _ _)
theorem small14_calls (w : World) : Calls Tryz.prog 34 #[] w (fun e w' => e = .returned (.agg #[.string ⟨#[84, 97, 108, 101]⟩, .string ⟨#[110, 111, 98, 111, 100, 121]⟩, .string ⟨#[104, 97, 108, 108]⟩, .int .i64 1, .int .i64 0, .slice none 0 0, .slice none 0 0, .slice none 0 0, .slice (some ⟨w.heap.size + 1, 0, none⟩) 1 1, .slice none 0 0, .slice none 0 0, .slice none 0 0, .slice none 0 0]) ∧ SmAt w' (w.heap.size + 1) ∧ Below w.heap.size w w') := by
 obtain ⟨W1, hW1⟩ : ∃ W, w.alloc (.cells #[.string ⟨#[84, 97, 108, 101]⟩, .string ⟨#[110, 111, 98, 111, 100, 121]⟩, .string ⟨#[104, 97, 108, 108]⟩, .int .i64 1, .int .i64 0, .slice none 0 0, .slice none 0 0, .slice none 0 0, .slice (some ⟨w.heap.size + 1, 0, none⟩) 1 1, .slice none 0 0, .slice none 0 0, .slice none 0 0, .slice none 0 0] 29) = W := ⟨_, rfl⟩
 obtain ⟨W2, hW2⟩ : ∃ W, W1.alloc (.cells #[.string ⟨#[104, 97, 108, 108]⟩, .string ⟨#[72, 97, 108, 108]⟩, .string ⟨#[]⟩, .string ⟨#[]⟩, .bool true, .slice none 0 0, .slice none 0 0, .slice none 0 0, .slice none 0 0, .slice none 0 0] 63) = W := ⟨_, rfl⟩
 have hs1 := bs' hW1
 have hs2 : W2.heap.size = w.heap.size + 1 + 1 := by rw [← hW2]; simp; exact hs1
 have hb1 := ba' hW1
 have hb2 := ba' hW2
 have hx1 : Bx W1 w.heap.size [.string ⟨#[84, 97, 108, 101]⟩, .string ⟨#[110, 111, 98, 111, 100, 121]⟩, .string ⟨#[104, 97, 108, 108]⟩, .int .i64 1, .int .i64 0, .slice none 0 0, .slice none 0 0, .slice none 0 0, .slice (some ⟨w.heap.size + 1, 0, none⟩) 1 1, .slice none 0 0, .slice none 0 0, .slice none 0 0, .slice none 0 0] := by rw [← hW1]; exact bx_new _ _ _ _ rfl
 have hx2 : Bx W2 (w.heap.size + 1) [.string ⟨#[104, 97, 108, 108]⟩, .string ⟨#[72, 97, 108, 108]⟩, .string ⟨#[]⟩, .string ⟨#[]⟩, .bool true, .slice none 0 0, .slice none 0 0, .slice none 0 0, .slice none 0 0, .slice none 0 0] := by rw [← hW2]; exact bx_new _ _ _ _ hs1.symm
 have hx3 := hx1.below hb2 (by omega)
 have HBW : Hid (Below w.heap.size w W2) := bt hb1 hb2
 have HSM : Hid (SmAt W2 (w.heap.size + 1)) := ⟨by omega, hx2⟩
 obtain ⟨y0, y1, y2, y3, y4, y5, y6, y7, y8, y9, y10, y11, y12⟩ := p12' hx3
 have HW1 := Lib.hid hW1
 have HW2 := Lib.hid hW2
 clear hW1 hW2 hs1 hs2 hb1 hb2 hx1 hx2 hx3
 go_enter Tryz.func34, Tryz.ntmps34
 go_wp2
 rw [HW1.out, HW2.out]
 exact bodyPost_ret (v := .agg #[.string ⟨#[84, 97, 108, 101]⟩, .string ⟨#[110, 111, 98, 111, 100, 121]⟩, .string ⟨#[104, 97, 108, 108]⟩, .int .i64 1, .int .i64 0, .slice none 0 0, .slice none 0 0, .slice none 0 0, .slice (some ⟨w.heap.size + 1, 0, none⟩) 1 1, .slice none 0 0, .slice none 0 0, .slice none 0 0, .slice none 0 0]) (by simp [results, Tryz.results34, go_sem, *]; try rfl) rfl ⟨rfl, HSM.out, HBW.out⟩
theorem text_of {l : List UInt8} (h1 : l.length ≤ 1024) (h2 : ∀ c ∈ l, TextCh c) : IsText ⟨l.toArray⟩ := ⟨h1, fun _i hi => h2 _ (Array.getElem_mem_toList hi)⟩
theorem tx_tale : IsText ⟨#[84, 97, 108, 101]⟩ := text_of (l := [84, 97, 108, 101]) (by decide) (by unfold TextCh; decide)
theorem tx_nobody : IsText ⟨#[110, 111, 98, 111, 100, 121]⟩ := text_of (l := [110, 111, 98, 111, 100, 121]) (by decide) (by unfold TextCh; decide)
theorem tx_hall : IsText ⟨#[72, 97, 108, 108]⟩ := text_of (l := [72, 97, 108, 108]) (by decide) (by unfold TextCh; decide)
theorem tx_none : IsText ⟨#[]⟩ := text_of (l := []) (by decide) (fun _ h => by cases h)
theorem nm_hall : IsNm ⟨#[104, 97, 108, 108]⟩ := by
 refine ⟨⟨by decide, by decide, ⟨by decide, by decide⟩, fun i hi => ?_⟩, by unfold IsKey; decide +kernel⟩
 have hi2 : i < 4 := hi
 match i, hi2 with
 | 0, _ => exact Or.inl ⟨by show 97 ≤ (104 : UInt8).toNat; decide, by show (104 : UInt8).toNat ≤ 122; decide⟩
 | 1, _ => exact Or.inl ⟨by show 97 ≤ (97 : UInt8).toNat; decide, by show (97 : UInt8).toNat ≤ 122; decide⟩
 | 2, _ => exact Or.inl ⟨by show 97 ≤ (108 : UInt8).toNat; decide, by show (108 : UInt8).toNat ≤ 122; decide⟩
 | 3, _ => exact Or.inl ⟨by show 97 ≤ (108 : UInt8).toNat; decide, by show (108 : UInt8).toNat ≤ 122; decide⟩
theorem nm_room : ¬ IsNm ⟨#[114, 111, 111, 109]⟩ := fun h => h.2 (by unfold IsKey; decide +kernel)
theorem right_sm : SrcR (smS ⟨#[104, 97, 108, 108]⟩ []) := by
 have hO : ObjR smO := ⟨fun _ => rfl, fun h => Bool.noConfusion h, ⟨by decide, fun x h => by cases h⟩, ⟨by decide, fun x h => by cases h⟩, nm_hall, tx_hall, tx_none, Or.inl rfl, ⟨by decide, fun x h => by cases h⟩, ⟨by decide, fun x h => by cases h⟩, by decide, fun x h => by cases h⟩
 exact ⟨tx_tale, tx_nobody, nm_hall, ⟨by decide, by decide⟩, ⟨by decide, by decide⟩, ⟨by decide, fun x h => by cases h⟩, ⟨by decide, fun x h => by cases h⟩, ⟨by decide, fun x h => by cases h⟩, ⟨by decide, fun x h => by rw [List.mem_singleton.1 h]; exact hO⟩, ⟨by decide, fun x h => by cases h⟩, ⟨by decide, fun x h => by cases h⟩, ⟨by decide, fun x h => by cases h⟩, ⟨by decide, fun x h => by cases h⟩⟩
theorem nm_take : IsNm ⟨#[116, 97, 107, 101]⟩ := by
 refine ⟨⟨by decide, by decide, ⟨by decide, by decide⟩, fun i hi => ?_⟩, by unfold IsKey; decide +kernel⟩
 have hi2 : i < 4 := hi
 match i, hi2 with
 | 0, _ => exact Or.inl ⟨by show 97 ≤ (116 : UInt8).toNat; decide, by show (116 : UInt8).toNat ≤ 122; decide⟩
 | 1, _ => exact Or.inl ⟨by show 97 ≤ (97 : UInt8).toNat; decide, by show (97 : UInt8).toNat ≤ 122; decide⟩
 | 2, _ => exact Or.inl ⟨by show 97 ≤ (107 : UInt8).toNat; decide, by show (107 : UInt8).toNat ≤ 122; decide⟩
 | 3, _ => exact Or.inl ⟨by show 97 ≤ (101 : UInt8).toNat; decide, by show (101 : UInt8).toNat ≤ 122; decide⟩
theorem nm_lamp : IsNm ⟨#[108, 97, 109, 112]⟩ := by
 refine ⟨⟨by decide, by decide, ⟨by decide, by decide⟩, fun i hi => ?_⟩, by unfold IsKey; decide +kernel⟩
 have hi2 : i < 4 := hi
 match i, hi2 with
 | 0, _ => exact Or.inl ⟨by show 97 ≤ (108 : UInt8).toNat; decide, by show (108 : UInt8).toNat ≤ 122; decide⟩
 | 1, _ => exact Or.inl ⟨by show 97 ≤ (97 : UInt8).toNat; decide, by show (97 : UInt8).toNat ≤ 122; decide⟩
 | 2, _ => exact Or.inl ⟨by show 97 ≤ (109 : UInt8).toNat; decide, by show (109 : UInt8).toNat ≤ 122; decide⟩
 | 3, _ => exact Or.inl ⟨by show 97 ≤ (112 : UInt8).toNat; decide, by show (112 : UInt8).toNat ≤ 122; decide⟩
theorem right_smR : SrcR (smS ⟨#[104, 97, 108, 108]⟩ [smR]) := by
 have h := right_sm
 have hR : RuleR smR := ⟨nm_take, by decide, by decide, Or.inl rfl, Or.inr nm_lamp, ⟨by decide, fun x h => by cases h⟩, ⟨by decide, by unfold Blk; exact ⟨by decide, fun s h => by cases h⟩⟩⟩
 exact ⟨h.1, h.2.1, h.2.2.1, h.2.2.2.1, h.2.2.2.2.1, h.2.2.2.2.2.1, h.2.2.2.2.2.2.1, h.2.2.2.2.2.2.2.1, h.2.2.2.2.2.2.2.2.1, h.2.2.2.2.2.2.2.2.2.1, ⟨by decide, fun x h => by rw [List.mem_singleton.1 h]; exact hR⟩, h.2.2.2.2.2.2.2.2.2.2.2.1, h.2.2.2.2.2.2.2.2.2.2.2.2⟩
theorem txt_sm : srcB (smS ⟨#[104, 97, 108, 108]⟩ []) = ⟨#[115, 116, 111, 114, 121, 32, 34, 84, 97, 108, 101, 34, 32, 98, 121, 32, 34, 110, 111, 98, 111, 100, 121, 34, 32, 114, 101, 108, 101, 97, 115, 101, 32, 49, 32, 109, 97, 120, 32, 48, 32, 115, 116, 97, 114, 116, 32, 104, 97, 108, 108, 59, 10, 114, 111, 111, 109, 32, 104, 97, 108, 108, 32, 34, 72, 97, 108, 108, 34, 32, 123, 10, 125, 10]⟩ := by decide +kernel
theorem txt_sm2 : srcB (smS ⟨#[104, 97, 108, 108]⟩ [smR]) = ⟨#[115, 116, 111, 114, 121, 32, 34, 84, 97, 108, 101, 34, 32, 98, 121, 32, 34, 110, 111, 98, 111, 100, 121, 34, 32, 114, 101, 108, 101, 97, 115, 101, 32, 49, 32, 109, 97, 120, 32, 48, 32, 115, 116, 97, 114, 116, 32, 104, 97, 108, 108, 59, 10, 114, 111, 111, 109, 32, 104, 97, 108, 108, 32, 34, 72, 97, 108, 108, 34, 32, 123, 10, 125, 10, 111, 110, 32, 116, 97, 107, 101, 40, 97, 110, 121, 44, 32, 108, 97, 109, 112, 41, 32, 123, 10, 125, 10]⟩ := by decide +kernel
end Go.Proofs.YtdeecfkipknkbaaGreatDoor
