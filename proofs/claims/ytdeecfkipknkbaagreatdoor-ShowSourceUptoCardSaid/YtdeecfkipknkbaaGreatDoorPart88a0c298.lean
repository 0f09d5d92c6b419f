/- What show.Source needs at sources without exits, conditions and bodies. Printed by gen-show12.py. -/
import Derived.Test.YtdeecfkipknkbaaGreatDoorBdx
import Derived.Test.YtdeecfkipknkbaaGreatDoorPart01a3ceaf
import Derived.Test.YtdeecfkipknkbaaGreatDoorPart80d9ab5d
import Derived.Test.YtdeecfkipknkbaaGreatDoorPart8a88c5f8
import Derived.Test.YtdeecfkipknkbaaGreatDoorPart5907e4d5
import Derived.Test.YtdeecfkipknkbaaGreatDoorPartea8b9fd6
namespace Go.Proofs.YtdeecfkipknkbaaGreatDoor
set_option maxRecDepth 100000
set_option maxHeartbeats 1000000
open Go.RowKit Go.Sort
def phaseB (p : Int) : ByteArray := if p = 1 then ⟨#[98, 101, 102, 111, 114, 101, 32]⟩ else if p = 2 then ⟨#[111, 110, 32]⟩ else ⟨#[97, 102, 116, 101, 114, 32]⟩
theorem phase_calls (p : Int) (w : World) : Calls Tryz.prog 45 #[.int .i64 p] w (Gives w (.string (phaseB p))) := by
 by_cases h1 : p = 1
 · subst h1
   go_enter Tryz.func45, Tryz.ntmps45
   go_wp2
   go_ret
   exact ⟨rfl, Below.refl _ _⟩
 have e1 : (p == 1) = false := by simpa using h1
 by_cases h2 : p = 2
 · subst h2
   clear h1
   go_enter Tryz.func45, Tryz.ntmps45
   go_wp2
   go_ret
   exact ⟨rfl, Below.refl _ _⟩
 have e2 : (p == 2) = false := by simpa using h2
 have hfin : Hid (phaseB p = ⟨#[97, 102, 116, 101, 114, 32]⟩) := by show _ = _; unfold phaseB; rw [if_neg h1, if_neg h2]
 clear h1 h2
 go_enter Tryz.func45, Tryz.ntmps45
 go_wp2
 go_ret
 exact ⟨by rw [hfin.out]; rfl, Below.refl _ _⟩
def whichB (noun second : ByteArray) : ByteArray :=
 if second = ⟨#[]⟩ then (if noun = ⟨#[]⟩ then ⟨#[]⟩ else ⟨#[40]⟩ ++ noun ++ ⟨#[41]⟩)
 else ⟨#[40]⟩ ++ (if noun = ⟨#[]⟩ then ⟨#[97, 110, 121]⟩ else noun) ++ ⟨#[44, 32]⟩ ++ second ++ ⟨#[41]⟩
theorem which_calls (F : Nat → Prop) (w : World) (x : RuleD) (cs : List Value) (hx : Holds.rule.R F w x cs) (hn : x.noun.size ≤ 1000000) (hs : x.second.size ≤ 1000000) :
 Calls Tryz.prog 46 #[.agg cs.toArray] w (Gives w (.string (whichB x.noun x.second))) := by
 obtain ⟨x_verb, x_phase, x_noun, x_second, x_cond, x_body⟩ := x
 obtain ⟨-, -, -, -, v4, v5, rfl, ka4, ka5⟩ := hx
 simp only at ka4 ka5 hn hs
 obtain ⟨d4, f4, rfl⟩ := ka4.shape
 obtain ⟨d5, f5, rfl⟩ := ka5.shape
 obtain ⟨W1, hW1⟩ : ∃ W1, w.alloc (.cells #[.string x_verb, .int .i64 x_phase, .string x_noun, .string x_second, .slice d4 x_cond.length f4, .slice d5 x_body.length f5] 70) = W1 := ⟨_, rfl⟩
 have hs1 := bs' hW1
 have hb1 := ba' hW1
 have hbx1 := bn' hW1
 have hE : Hid (∀ W, Below W1.heap.size W1 W → BoxAt W (w.heap.size) [.string x_verb, .int .i64 x_phase, .string x_noun, .string x_second, .slice d4 x_cond.length f4, .slice d5 x_body.length f5] ∧ Below w.heap.size w W) := fun W h2 => ⟨hbx1.below h2 (by omega), (bt hb1 h2)⟩
 have HZ0 := Lib.hid hs1
 have HW1 := Lib.hid hW1
 clear hW1 hs1 hb1 hbx1
 clear ka4 ka5
 by_cases h1 : x_second = ⟨#[]⟩
 · by_cases h2 : x_noun = ⟨#[]⟩
   · have hfin : Hid (whichB x_noun x_second = ⟨#[]⟩) := by show _ = _; unfold whichB; rw [if_pos h1, if_pos h2]
     have e1 : x_second.toList.isEmpty = true := emp_t h1
     have e2 : x_noun.toList.isEmpty = true := emp_t h2
     clear h1 h2
     go_enter Tryz.func46, Tryz.ntmps46
     go_upto_region 1 with fail
     rw [HW1.out]
     obtain ⟨hq1, hqt0⟩ := hE.out W1 (Below.refl _ _)
     have g2 := e2' hq1.2
     have g3 := e3' hq1.2
     go_wp2_with fail
     go_ret
     exact ⟨by rw [hfin.out]; rfl, hqt0⟩
   have hfin : Hid (whichB x_noun x_second = ⟨#[40]⟩ ++ x_noun ++ ⟨#[41]⟩) := by show _ = _; unfold whichB; rw [if_pos h1, if_neg h2]
   have e1 : x_second.toList.isEmpty = true := emp_t h1
   have e2 : x_noun.toList.isEmpty = false := emp_f h2
   clear h1 h2
   go_enter Tryz.func46, Tryz.ntmps46
   go_upto_region 1 with fail
   rw [HW1.out]
   obtain ⟨hq1, hqt0⟩ := hE.out W1 (Below.refl _ _)
   have g2 := e2' hq1.2
   have g3 := e3' hq1.2
   go_wp2_with fail
   go_ret
   exact ⟨by rw [hfin.out]; rfl, hqt0⟩
 by_cases h2 : x_noun = ⟨#[]⟩
 · have hfin : Hid (whichB x_noun x_second = ⟨#[40]⟩ ++ ⟨#[97, 110, 121]⟩ ++ ⟨#[44, 32]⟩ ++ x_second ++ ⟨#[41]⟩) := by show _ = _; unfold whichB; rw [if_neg h1, if_pos h2]
   have e1 : x_second.toList.isEmpty = false := emp_f h1
   have e2 : x_noun.toList.isEmpty = true := emp_t h2
   clear h1 h2
   go_enter Tryz.func46, Tryz.ntmps46
   go_upto_region 1 with fail
   rw [HW1.out]
   obtain ⟨hq1, hqt0⟩ := hE.out W1 (Below.refl _ _)
   have g2 := e2' hq1.2
   have g3 := e3' hq1.2
   go_wp2_with fail
   go_ret
   exact ⟨by rw [hfin.out]; rfl, hqt0⟩
 have hfin : Hid (whichB x_noun x_second = ⟨#[40]⟩ ++ x_noun ++ ⟨#[44, 32]⟩ ++ x_second ++ ⟨#[41]⟩) := by show _ = _; unfold whichB; rw [if_neg h1, if_neg h2]
 have e1 : x_second.toList.isEmpty = false := emp_f h1
 have e2 : x_noun.toList.isEmpty = false := emp_f h2
 clear h1 h2
 go_enter Tryz.func46, Tryz.ntmps46
 go_upto_region 1 with fail
 rw [HW1.out]
 obtain ⟨hq1, hqt0⟩ := hE.out W1 (Below.refl _ _)
 have g2 := e2' hq1.2
 have g3 := e3' hq1.2
 go_wp2_with fail
 go_ret
 exact ⟨by rw [hfin.out]; rfl, hqt0⟩
end Go.Proofs.YtdeecfkipknkbaaGreatDoor
/- show.putObject at an object of which only the name, the title and whether it is a room are told. Printed by gen-show13.py. -/
namespace Go.Proofs.YtdeecfkipknkbaaGreatDoor
open Go.RowKit Go.Sort
def StB (w : World) (b : Nat) (bx : List (Nat × List Value × TypeId)) (l : List UInt8) (W : World) : Prop :=
 BdH b l W ∧ (∀ t ∈ bx, BoxT W t.1 t.2.1 t.2.2 ∧ t.1 ≠ b ∧ t.2.2 ≠ 5) ∧ Kept b b w W
theorem StB.below {w W W' : World} {b : Nat} {bx : List (Nat × List Value × TypeId)} {l : List UInt8} (h : StB w b bx l W) (hb : Below W.heap.size W W') : StB w b bx l W' :=
 ⟨h.1.keep hb, fun t ht => ⟨(h.2.1 t ht).1.below hb, (h.2.1 t ht).2⟩, h.2.2.trans (Kept.of hb (Nat.le_of_lt h.1.lt))⟩
theorem StB.wrote {w W W' : World} {b : Nat} {bx : List (Nat × List Value × TypeId)} {l l' : List UInt8} (h : StB w b bx l W) (k : Wrote b l' W W') : StB w b bx l' W' :=
 ⟨k.1, fun t ht => ⟨(h.2.1 t ht).1.keep k.2 (h.2.1 t ht).2.2 (h.2.1 t ht).2.1, (h.2.1 t ht).2⟩, h.2.2.trans k.2⟩
theorem StB.cell {w W : World} {b : Nat} {bx : List (Nat × List Value × TypeId)} {l : List UInt8} (h : StB w b bx l W) (n : Nat) (cs : List Value) (T : TypeId) (ht : (n, cs, T) ∈ bx) (j : Nat) : W.cell? ⟨n, j, none⟩ = cs[j]? :=
 (h.2.1 _ ht).1.cell j
theorem StB.text {w W : World} {b : Nat} {bx : List (Nat × List Value × TypeId)} {l : List UInt8} (h : StB w b bx l W) (s : ByteArray) (hl : l.length + s.size ≤ 140737488355328) :
 Calls Tryz.prog 37 #[.pointer (some ⟨b, 0, none⟩), .string s] W fun e w' => e = .returned (.tuple #[.int .i64 s.size, .nilIface]) ∧ StB w b bx (l ++ s.data.toList) w' := by
 refine (h.1.text s hl).mono ?_
 rintro e w' ⟨rfl, h1⟩
 exact ⟨rfl, h.wrote h1⟩
theorem StB.add {w W : World} {b : Nat} {bx : List (Nat × List Value × TypeId)} {l : List UInt8} (h : StB w b bx l W) (cs : List Value) (T : TypeId) (hT : T ≠ 5) : StB w b ((W.heap.size, cs, T) :: bx) l (W.alloc (.cells cs.toArray T)) := by
 have hb : Below W.heap.size W (W.alloc (.cells cs.toArray T)) := (Below.refl _ _).alloc (Nat.le_refl _) _
 obtain ⟨h1, h2, h3⟩ := h.below hb
 refine ⟨h1, fun t ht => ?_, h3⟩
 rcases List.mem_cons.1 ht with rfl | ht
 · exact ⟨BoxT.new W cs T, Nat.ne_of_gt h.1.lt, hT⟩
 exact h2 t ht
theorem StB.start {w : World} {b : Nat} {l : List UInt8} (h : BdH b l w) : StB w b [] l w := ⟨h, fun _ h => (by cases h), Kept.refl _ _ _⟩
theorem StB.done {w W : World} {b : Nat} {bx : List (Nat × List Value × TypeId)} {l : List UInt8} (h : StB w b bx l W) : Wrote b l w W := ⟨h.1, h.2.2⟩
end Go.Proofs.YtdeecfkipknkbaaGreatDoor
/- show.Source at a source of which little is told: objects with a name and a title, rules without condition and statements. Printed by gen-show14.py. -/
namespace Go.Proofs.YtdeecfkipknkbaaGreatDoor
open Go.RowKit Go.Sort
theorem StB.sub {w W : World} {b : Nat} {bx bx' : List (Nat × List Value × TypeId)} {l : List UInt8} (h : StB w b bx l W) (hs : ∀ t ∈ bx', t ∈ bx) : StB w b bx' l W := ⟨h.1, fun t ht => h.2.1 t (hs t ht), h.2.2⟩
theorem StB.same {w W : World} {b : Nat} {bx : List (Nat × List Value × TypeId)} {l l' : List UInt8} (h : StB w b bx l W) (e : l = l') : StB w b bx l' W := e ▸ h
theorem phaseB_size (p : Int) : (phaseB p).size ≤ 10 := by unfold phaseB; split <;> (try split) <;> decide
theorem whichB_size (n s : ByteArray) : (whichB n s).size ≤ n.size + s.size + 10 := by
 have e1 : (⟨#[40]⟩ : ByteArray).size = 1 := rfl
 have e2 : (⟨#[41]⟩ : ByteArray).size = 1 := rfl
 have e3 : (⟨#[44, 32]⟩ : ByteArray).size = 2 := rfl
 have e4 : (⟨#[97, 110, 121]⟩ : ByteArray).size = 3 := rfl
 have e5 : (⟨#[]⟩ : ByteArray).size = 0 := rfl
 unfold whichB
 split <;> split <;> simp only [ByteArray.size_append, e1, e2, e3, e4, e5] <;> omega
end Go.Proofs.YtdeecfkipknkbaaGreatDoor
/- The reference's Right (clewref14) of lists of texts, names, pairs, functions, and of conditions. Printed by gen-show7.py. -/
namespace Go.Proofs.YtdeecfkipknkbaaGreatDoor
set_option maxRecDepth 100000
set_option maxHeartbeats 4000000
open Go.RowKit
theorem rrName0 (s : ByteArray) (w : World) (hs : s.size ≤ maxLen) : Calls Tryz.prog 27 #[.string s] w (Same0 w (.bool (dec (IsNm s)))) := by
 have h1 := isNameR_calls s w hs
 by_cases hn : IsName s
 · have h2 := keyR_calls s w hs
   have e1 : Hid (dec (IsNm s) = !dec (IsKey s)) := by
    show dec (IsNm s) = _
    by_cases hk : IsKey s
    · rw [dec_true hk, dec_false (fun h => h.2 hk)]; rfl
    rw [dec_false hk, dec_true ⟨hn, hk⟩]; rfl
   rw [dec_true hn] at h1
   have H1 := Lib.hid h1
   have H2 := Lib.hid h2
   clear h1 h2 hn
   go_enter Tryz.func27, Tryz.ntmps27
   go_wp2_with (first | (go_at_call 75; refine H1.out.mono ?_; rintro e w' ⟨rfl, rfl⟩) | (go_at_call 76; refine H2.out.mono ?_; rintro e w' ⟨rfl, rfl⟩))
   go_ret
   exact ⟨ret_bool e1.out.symm, rfl⟩
 have e1 : Hid (dec (IsNm s) = false) := dec_false (fun h => hn h.1)
 rw [dec_false hn] at h1
 have H1 := Lib.hid h1
 clear h1 hn
 go_enter Tryz.func27, Tryz.ntmps27
 go_wp2_with (go_at_call 75; refine H1.out.mono ?_; rintro e w' ⟨rfl, rfl⟩)
 go_ret
 exact ⟨ret_bool e1.out.symm, rfl⟩
theorem rrName_calls (s : ByteArray) (w : World) (hs : s.size ≤ maxLen) : Calls Tryz.prog 27 #[.string s] w (Gives w (.bool (dec (IsNm s)))) := Same0.gv (rrName0 s w hs)
theorem rrTexts_calls (F : Nat → Prop) (w : World) (l : List ByteArray) (m : Int) (v : Value) (hF : Inn F w) (hr : RdL Holds.str 1 F w l v) :
 Calls Tryz.prog 77 #[v, .int .i64 m] w (Gives w (.bool (dec (TextsR m l)))) := by
 obtain ⟨a, cap, rfl, hl, hc, ha⟩ := hr.opn
 unfold maxLen at hc
 by_cases hlen : (l.length : Int) ≤ m
 rotate_left
 · have hfin : Hid (dec (TextsR m l) = false) := dec_false (fun h => hlen h.1)
   have e0 : decide (m < (l.length : Int)) = true := decide_eq_true (by omega)
   clear hr ha hlen
   go_enter Tryz.func77, Tryz.ntmps77
   go_wp2
   go_ret
   exact ⟨ret_bool hfin.out.symm, Below.refl _ _⟩
 have hfin1 : Hid ((∀ x ∈ l.take l.length, IsText x) → dec (TextsR m l) = true) := fun h => dec_true ⟨hlen, by rw [List.take_length] at h; exact h⟩
 have e0 : decide (m < (l.length : Int)) = false := decide_eq_false (by omega)
 clear hr hlen
 go_enter Tryz.func77, Tryz.ntmps77
 go_wp2
 go_loopw [5] (fun i wr => ∃ (k : Nat), k ≤ l.length ∧ i = .int .i64 k ∧ Hid (∀ x ∈ l.take k, IsText x) ∧ Below w.heap.size w wr) (fun i _ => l.length - (intOf i).toNat)
 case atStart => exact ⟨0, Nat.zero_le _, rfl, (by show ∀ x ∈ l.take 0, IsText x; rw [List.take_zero]; exact fun _ h => (by cases h)), Below.refl _ _⟩
 case round =>
  obtain ⟨k, hk, rfl, hq, hB⟩ := hrel
  by_cases hlt : k < l.length
  · obtain ⟨b, off, rfl, hFb, hel⟩ := ha (by omega)
    obtain ⟨cs, hx, -, hcell⟩ := hel wr (hB.block b (hF b hFb)) k hlt
    obtain ⟨x, hxe⟩ : ∃ x, l[k] = x := ⟨_, rfl⟩
    rw [hxe] at hx
    obtain ⟨hz, rfl⟩ := hx
    have g0 := hcell 0 _ rfl
    simp only [Nat.add_zero, Nat.mul_one] at g0
    have hki : (k : Int) < (l.length : Int) := by omega
    have hki0 : (0 : Int) ≤ (k : Int) := by omega
    have HB := Lib.hid hB
    have hnx : Hid (IsText x → ∀ y ∈ l.take (k + 1), IsText y) := fun h y hy => by
     rw [List.take_succ_eq_append_getElem hlt, hxe] at hy
     rcases List.mem_append.1 hy with h1 | h1
     · exact hq.out y h1
     rw [List.mem_singleton.1 h1]; exact h
    have hno : Hid (¬ IsText x → dec (TextsR m l) = false) := fun h => dec_false (fun h2 => h (by have := h2.2 _ (List.getElem_mem hlt); rw [hxe] at this; exact this))
    have hc_t := fun (W : World) (hW : Below wr.heap.size wr W) => Same0.gv (isTextR_calls x W hz)
    clear ha hel hcell hxe hB hq hfin1 hz
    by_cases h_t : IsText x
    · have hnx2 := Lib.hid (hnx.out h_t)
      simp only [dec_true h_t] at hc_t
      have HC_t := Lib.hid hc_t
      clear hc_t hno hnx h_t
      have HB0 := b0' wr
      go_wp2_with (go_at_call 26; (with_reducible refine (HC_t.out wr HB0).mono ?_); rintro e91 w1 ⟨rfl, hb1⟩; have HB1 := bt HB0 hb1)
      go_roundw
      case rel => exact ⟨k + 1, by omega, by go_num, hnx2.out, bt HB.out HB1⟩
      case measure => simp [intOf]; omega
    have hfin := Lib.hid (hno.out (fun h => h_t h))
    simp only [dec_false h_t] at hc_t
    have HC_t := Lib.hid hc_t
    clear hc_t hno hnx h_t
    have HB0 := b0' wr
    go_wp2_with (go_at_call 26; (with_reducible refine (HC_t.out wr HB0).mono ?_); rintro e91 w1 ⟨rfl, hb1⟩; have HB1 := bt HB0 hb1)
    go_ret
    exact ⟨ret_bool hfin.out.symm, bt HB.out HB1⟩
  have : k = l.length := by omega
  subst this
  have hfin := Lib.hid (hfin1.out hq.out)
  have hki : decide ((l.length : Int) < (l.length : Int)) = false := by simp
  clear hq ha hfin1
  go_wp2
  go_ret
  exact ⟨ret_bool hfin.out.symm, hB⟩
theorem rrNames_calls (F : Nat → Prop) (w : World) (l : List ByteArray) (m : Int) (v : Value) (hF : Inn F w) (hr : RdL Holds.str 1 F w l v) :
 Calls Tryz.prog 28 #[v, .int .i64 m] w (Gives w (.bool (dec (NamesR m l)))) := by
 obtain ⟨a, cap, rfl, hl, hc, ha⟩ := hr.opn
 unfold maxLen at hc
 by_cases hlen : (l.length : Int) ≤ m
 rotate_left
 · have hfin : Hid (dec (NamesR m l) = false) := dec_false (fun h => hlen h.1)
   have e0 : decide (m < (l.length : Int)) = true := decide_eq_true (by omega)
   clear hr ha hlen
   go_enter Tryz.func28, Tryz.ntmps28
   go_wp2
   go_ret
   exact ⟨ret_bool hfin.out.symm, Below.refl _ _⟩
 have hfin1 : Hid ((∀ x ∈ l.take l.length, IsNm x) → dec (NamesR m l) = true) := fun h => dec_true ⟨hlen, by rw [List.take_length] at h; exact h⟩
 have e0 : decide (m < (l.length : Int)) = false := decide_eq_false (by omega)
 clear hr hlen
 go_enter Tryz.func28, Tryz.ntmps28
 go_wp2
 go_loopw [5] (fun i wr => ∃ (k : Nat), k ≤ l.length ∧ i = .int .i64 k ∧ Hid (∀ x ∈ l.take k, IsNm x) ∧ Below w.heap.size w wr) (fun i _ => l.length - (intOf i).toNat)
 case atStart => exact ⟨0, Nat.zero_le _, rfl, (by show ∀ x ∈ l.take 0, IsNm x; rw [List.take_zero]; exact fun _ h => (by cases h)), Below.refl _ _⟩
 case round =>
  obtain ⟨k, hk, rfl, hq, hB⟩ := hrel
  by_cases hlt : k < l.length
  · obtain ⟨b, off, rfl, hFb, hel⟩ := ha (by omega)
    obtain ⟨cs, hx, -, hcell⟩ := hel wr (hB.block b (hF b hFb)) k hlt
    obtain ⟨x, hxe⟩ : ∃ x, l[k] = x := ⟨_, rfl⟩
    rw [hxe] at hx
    obtain ⟨hz, rfl⟩ := hx
    have g0 := hcell 0 _ rfl
    simp only [Nat.add_zero, Nat.mul_one] at g0
    have hki : (k : Int) < (l.length : Int) := by omega
    have hki0 : (0 : Int) ≤ (k : Int) := by omega
    have HB := Lib.hid hB
    have hnx : Hid (IsNm x → ∀ y ∈ l.take (k + 1), IsNm y) := fun h y hy => by
     rw [List.take_succ_eq_append_getElem hlt, hxe] at hy
     rcases List.mem_append.1 hy with h1 | h1
     · exact hq.out y h1
     rw [List.mem_singleton.1 h1]; exact h
    have hno : Hid (¬ IsNm x → dec (NamesR m l) = false) := fun h => dec_false (fun h2 => h (by have := h2.2 _ (List.getElem_mem hlt); rw [hxe] at this; exact this))
    have hc_t := fun (W : World) (hW : Below wr.heap.size wr W) => rrName_calls x W hz
    clear ha hel hcell hxe hB hq hfin1 hz
    by_cases h_t : IsNm x
    · have hnx2 := Lib.hid (hnx.out h_t)
      simp only [dec_true h_t] at hc_t
      have HC_t := Lib.hid hc_t
      clear hc_t hno hnx h_t
      have HB0 := b0' wr
      go_wp2_with (go_at_call 27; (with_reducible refine (HC_t.out wr HB0).mono ?_); rintro e91 w1 ⟨rfl, hb1⟩; have HB1 := bt HB0 hb1)
      go_roundw
      case rel => exact ⟨k + 1, by omega, by go_num, hnx2.out, bt HB.out HB1⟩
      case measure => simp [intOf]; omega
    have hfin := Lib.hid (hno.out (fun h => h_t h))
    simp only [dec_false h_t] at hc_t
    have HC_t := Lib.hid hc_t
    clear hc_t hno hnx h_t
    have HB0 := b0' wr
    go_wp2_with (go_at_call 27; (with_reducible refine (HC_t.out wr HB0).mono ?_); rintro e91 w1 ⟨rfl, hb1⟩; have HB1 := bt HB0 hb1)
    go_ret
    exact ⟨ret_bool hfin.out.symm, bt HB.out HB1⟩
  have : k = l.length := by omega
  subst this
  have hfin := Lib.hid (hfin1.out hq.out)
  have hki : decide ((l.length : Int) < (l.length : Int)) = false := by simp
  clear hq ha hfin1
  go_wp2
  go_ret
  exact ⟨ret_bool hfin.out.symm, hB⟩
theorem rrPairs_calls (F : Nat → Prop) (w : World) (l : List PairD) (m : Int) (v : Value) (hF : Inn F w) (hr : RdL Holds.pair 2 F w l v) :
 Calls Tryz.prog 29 #[v, .int .i64 m] w (Gives w (.bool (dec (PairsR m l)))) := by
 obtain ⟨a, cap, rfl, hl, hc, ha⟩ := hr.opn
 unfold maxLen at hc
 by_cases hlen : (l.length : Int) ≤ m
 rotate_left
 · have hfin : Hid (dec (PairsR m l) = false) := dec_false (fun h => hlen h.1)
   have e0 : decide (m < (l.length : Int)) = true := decide_eq_true (by omega)
   clear hr ha hlen
   go_enter Tryz.func29, Tryz.ntmps29
   go_wp2
   go_ret
   exact ⟨ret_bool hfin.out.symm, Below.refl _ _⟩
 have hfin1 : Hid ((∀ x ∈ l.take l.length, PairR x) → dec (PairsR m l) = true) := fun h => dec_true ⟨hlen, by rw [List.take_length] at h; exact h⟩
 have e0 : decide (m < (l.length : Int)) = false := decide_eq_false (by omega)
 clear hr hlen
 go_enter Tryz.func29, Tryz.ntmps29
 go_wp2
 go_loopw [5] (fun i wr => ∃ (k : Nat), k ≤ l.length ∧ i = .int .i64 k ∧ Hid (∀ x ∈ l.take k, PairR x) ∧ Below w.heap.size w wr) (fun i _ => l.length - (intOf i).toNat)
 case atStart => exact ⟨0, Nat.zero_le _, rfl, (by show ∀ x ∈ l.take 0, PairR x; rw [List.take_zero]; exact fun _ h => (by cases h)), Below.refl _ _⟩
 case round =>
  obtain ⟨k, hk, rfl, hq, hB⟩ := hrel
  by_cases hlt : k < l.length
  · obtain ⟨b, off, rfl, hFb, hel⟩ := ha (by omega)
    obtain ⟨cs, hx, -, hcell⟩ := hel wr (hB.block b (hF b hFb)) k hlt
    obtain ⟨x, hxe⟩ : ∃ x, l[k] = x := ⟨_, rfl⟩
    rw [hxe] at hx
    obtain ⟨x_name, x_num⟩ := x
    obtain ⟨hz, -, rfl⟩ := hx
    simp only at hz
    have g0 := hcell 0 _ rfl
    have g1 := hcell 1 _ rfl
    simp only [Nat.add_zero] at g0
    have hki : (k : Int) < (l.length : Int) := by omega
    have hki0 : (0 : Int) ≤ (k : Int) := by omega
    have HB := Lib.hid hB
    have hnx : Hid (PairR ⟨x_name, x_num⟩ → ∀ y ∈ l.take (k + 1), PairR y) := fun h y hy => by
     rw [List.take_succ_eq_append_getElem hlt, hxe] at hy
     rcases List.mem_append.1 hy with h1 | h1
     · exact hq.out y h1
     rw [List.mem_singleton.1 h1]; exact h
    have hno : Hid (¬ PairR ⟨x_name, x_num⟩ → dec (PairsR m l) = false) := fun h => dec_false (fun h2 => h (by have := h2.2 _ (List.getElem_mem hlt); rw [hxe] at this; exact this))
    have hc_n := fun (W : World) (hW : Below wr.heap.size wr W) => rrName_calls x_name W hz
    clear ha hel hcell hxe hB hq hfin1 hz
    by_cases h_n : IsNm x_name
    · by_cases h_l : (-32767 : Int) ≤ x_num
      · by_cases h_h : x_num ≤ (32767 : Int)
        · have hnx2 := Lib.hid (hnx.out ⟨h_n, h_l, h_h⟩)
          simp only [dec_true h_n] at hc_n
          have HC_n := Lib.hid hc_n
          have e0 : decide (x_num < (-32767 : Int)) = false := decide_eq_false (by omega)
          have e1 : decide ((32767 : Int) < x_num) = false := decide_eq_false (by omega)
          clear hc_n hno hnx h_n h_l h_h
          have HB0 := b0' wr
          go_wp2_with (go_at_call 27; (with_reducible refine (HC_n.out wr HB0).mono ?_); rintro e91 w1 ⟨rfl, hb1⟩; have HB1 := bt HB0 hb1; have g1_1 := (HB1.cell (World.block_lt_of_cell? _ _ g1)).trans g1)
          go_roundw
          case rel => exact ⟨k + 1, by omega, by go_num, hnx2.out, bt HB.out HB1⟩
          case measure => simp [intOf]; omega
        have hfin := Lib.hid (hno.out (fun h => h_h h.2.2))
        simp only [dec_true h_n] at hc_n
        have HC_n := Lib.hid hc_n
        have e0 : decide (x_num < (-32767 : Int)) = false := decide_eq_false (by omega)
        have e1 : decide ((32767 : Int) < x_num) = true := decide_eq_true (by omega)
        clear hc_n hno hnx h_n h_l h_h
        have HB0 := b0' wr
        go_wp2_with (go_at_call 27; (with_reducible refine (HC_n.out wr HB0).mono ?_); rintro e91 w1 ⟨rfl, hb1⟩; have HB1 := bt HB0 hb1; have g1_1 := (HB1.cell (World.block_lt_of_cell? _ _ g1)).trans g1)
        go_ret
        exact ⟨ret_bool hfin.out.symm, bt HB.out HB1⟩
      have hfin := Lib.hid (hno.out (fun h => h_l h.2.1))
      simp only [dec_true h_n] at hc_n
      have HC_n := Lib.hid hc_n
      have e0 : decide (x_num < (-32767 : Int)) = true := decide_eq_true (by omega)
      clear hc_n hno hnx h_n h_l
      have HB0 := b0' wr
      go_wp2_with (go_at_call 27; (with_reducible refine (HC_n.out wr HB0).mono ?_); rintro e91 w1 ⟨rfl, hb1⟩; have HB1 := bt HB0 hb1; have g1_1 := (HB1.cell (World.block_lt_of_cell? _ _ g1)).trans g1)
      go_ret
      exact ⟨ret_bool hfin.out.symm, bt HB.out HB1⟩
    have hfin := Lib.hid (hno.out (fun h => h_n h.1))
    simp only [dec_false h_n] at hc_n
    have HC_n := Lib.hid hc_n
    clear hc_n hno hnx h_n
    have HB0 := b0' wr
    go_wp2_with (go_at_call 27; (with_reducible refine (HC_n.out wr HB0).mono ?_); rintro e91 w1 ⟨rfl, hb1⟩; have HB1 := bt HB0 hb1)
    go_ret
    exact ⟨ret_bool hfin.out.symm, bt HB.out HB1⟩
  have : k = l.length := by omega
  subst this
  have hfin := Lib.hid (hfin1.out hq.out)
  have hki : decide ((l.length : Int) < (l.length : Int)) = false := by simp
  clear hq ha hfin1
  go_wp2
  go_ret
  exact ⟨ret_bool hfin.out.symm, hB⟩
theorem rrFuncs_calls (F : Nat → Prop) (w : World) (l : List FuncD) (m p : Int) (v : Value) (hF : Inn F w) (hr : RdL Holds.fnc 3 F w l v) :
 Calls Tryz.prog 30 #[v, .int .i64 m, .int .i64 p] w (Gives w (.bool (dec ((l.length : Int) ≤ m ∧ ∀ x ∈ l, FunR p x)))) := by
 obtain ⟨a, cap, rfl, hl, hc, ha⟩ := hr.opn
 unfold maxLen at hc
 by_cases hlen : (l.length : Int) ≤ m
 rotate_left
 · have hfin : Hid (dec ((l.length : Int) ≤ m ∧ ∀ x ∈ l, FunR p x) = false) := dec_false (fun h => hlen h.1)
   have e0 : decide (m < (l.length : Int)) = true := decide_eq_true (by omega)
   clear hr ha hlen
   go_enter Tryz.func30, Tryz.ntmps30
   go_wp2
   go_ret
   exact ⟨ret_bool hfin.out.symm, Below.refl _ _⟩
 have hfin1 : Hid ((∀ x ∈ l.take l.length, FunR p x) → dec ((l.length : Int) ≤ m ∧ ∀ x ∈ l, FunR p x) = true) := fun h => dec_true ⟨hlen, by rw [List.take_length] at h; exact h⟩
 have e0 : decide (m < (l.length : Int)) = false := decide_eq_false (by omega)
 clear hr hlen
 go_enter Tryz.func30, Tryz.ntmps30
 go_wp2
 go_loopw [7] (fun i wr => ∃ (k : Nat), k ≤ l.length ∧ i = .int .i64 k ∧ Hid (∀ x ∈ l.take k, FunR p x) ∧ Below w.heap.size w wr) (fun i _ => l.length - (intOf i).toNat)
 case atStart => exact ⟨0, Nat.zero_le _, rfl, (by show ∀ x ∈ l.take 0, FunR p x; rw [List.take_zero]; exact fun _ h => (by cases h)), Below.refl _ _⟩
 case round =>
  obtain ⟨k, hk, rfl, hq, hB⟩ := hrel
  by_cases hlt : k < l.length
  · obtain ⟨b, off, rfl, hFb, hel⟩ := ha (by omega)
    obtain ⟨cs, hx, -, hcell⟩ := hel wr (hB.block b (hF b hFb)) k hlt
    obtain ⟨x, hxe⟩ : ∃ x, l[k] = x := ⟨_, rfl⟩
    rw [hxe] at hx
    obtain ⟨x_name, x_params, x_body⟩ := x
    obtain ⟨hz, v1, v2, rfl, k1, k2⟩ := hx
    simp only at hz k1 k2
    obtain ⟨d1, f1, rfl⟩ := k1.shape
    obtain ⟨d2, f2, rfl⟩ := k2.shape
    have g0 := hcell 0 _ rfl
    have g1 := hcell 1 _ rfl
    have g2 := hcell 2 _ rfl
    simp only [Nat.add_zero] at g0
    have hki : (k : Int) < (l.length : Int) := by omega
    have hki0 : (0 : Int) ≤ (k : Int) := by omega
    have HB := Lib.hid hB
    have hnx : Hid (FunR p ⟨x_name, x_params, x_body⟩ → ∀ y ∈ l.take (k + 1), FunR p y) := fun h y hy => by
     rw [List.take_succ_eq_append_getElem hlt, hxe] at hy
     rcases List.mem_append.1 hy with h1 | h1
     · exact hq.out y h1
     rw [List.mem_singleton.1 h1]; exact h
    have hno : Hid (¬ FunR p ⟨x_name, x_params, x_body⟩ → dec ((l.length : Int) ≤ m ∧ ∀ x ∈ l, FunR p x) = false) := fun h => dec_false (fun h2 => h (by have := h2.2 _ (List.getElem_mem hlt); rw [hxe] at this; exact this))
    have hc_n := fun (W : World) (hW : Below wr.heap.size wr W) => rrName_calls x_name W hz
    have hc_p := fun (W : World) (hW : Below wr.heap.size wr W) => rrNames_calls F W x_params p _ (hF.below (bt hB hW)) (RdL.below k1 hF (bt hB hW) (Nat.le_refl _))
    have hc_b := fun (W : World) (hW : Below wr.heap.size wr W) => rightBlockR_calls x_body F W _ (hF.below (bt hB hW)) (Sts.below k2 hF (bt hB hW) (Nat.le_refl _))
    clear ha hel hcell hxe hB hq hfin1 k1 k2 hz
    by_cases h_n : IsNm x_name
    · by_cases h_p : NamesR p x_params
      · by_cases h_b : RightB x_body
        · have hnx2 := Lib.hid (hnx.out ⟨h_n, h_p, h_b⟩)
          simp only [dec_true h_n] at hc_n
          have HC_n := Lib.hid hc_n
          simp only [dec_true h_p] at hc_p
          have HC_p := Lib.hid hc_p
          simp only [dec_true h_b] at hc_b
          have HC_b := Lib.hid hc_b
          clear hc_n hc_p hc_b hno hnx h_n h_p h_b
          have HB0 := b0' wr
          go_wp2_with (first | (go_at_call 27; (with_reducible refine (HC_n.out wr HB0).mono ?_); rintro e91 w1 ⟨rfl, hb1⟩; have HB1 := bt HB0 hb1; have g1_1 := (HB1.cell (World.block_lt_of_cell? _ _ g1)).trans g1; have g1_2 := (HB1.cell (World.block_lt_of_cell? _ _ g2)).trans g2) | (go_at_call 28; (with_reducible refine (HC_p.out w1 HB1).mono ?_); rintro e92 w2 ⟨rfl, hb2⟩; have HB2 := bt HB1 hb2; have g2_2 := (HB2.cell (World.block_lt_of_cell? _ _ g2)).trans g2) | (go_at_call 56; (with_reducible refine (HC_b.out w2 HB2).mono ?_); rintro e93 w3 ⟨rfl, hb3⟩; have HB3 := bt HB2 hb3))
          go_roundw
          case rel => exact ⟨k + 1, by omega, by go_num, hnx2.out, bt HB.out HB3⟩
          case measure => simp [intOf]; omega
        have hfin := Lib.hid (hno.out (fun h => h_b h.2.2))
        simp only [dec_true h_n] at hc_n
        have HC_n := Lib.hid hc_n
        simp only [dec_true h_p] at hc_p
        have HC_p := Lib.hid hc_p
        simp only [dec_false h_b] at hc_b
        have HC_b := Lib.hid hc_b
        clear hc_n hc_p hc_b hno hnx h_n h_p h_b
        have HB0 := b0' wr
        go_wp2_with (first | (go_at_call 27; (with_reducible refine (HC_n.out wr HB0).mono ?_); rintro e91 w1 ⟨rfl, hb1⟩; have HB1 := bt HB0 hb1; have g1_1 := (HB1.cell (World.block_lt_of_cell? _ _ g1)).trans g1; have g1_2 := (HB1.cell (World.block_lt_of_cell? _ _ g2)).trans g2) | (go_at_call 28; (with_reducible refine (HC_p.out w1 HB1).mono ?_); rintro e92 w2 ⟨rfl, hb2⟩; have HB2 := bt HB1 hb2; have g2_2 := (HB2.cell (World.block_lt_of_cell? _ _ g2)).trans g2) | (go_at_call 56; (with_reducible refine (HC_b.out w2 HB2).mono ?_); rintro e93 w3 ⟨rfl, hb3⟩; have HB3 := bt HB2 hb3))
        go_ret
        exact ⟨ret_bool hfin.out.symm, bt HB.out HB3⟩
      have hfin := Lib.hid (hno.out (fun h => h_p h.2.1))
      simp only [dec_true h_n] at hc_n
      have HC_n := Lib.hid hc_n
      simp only [dec_false h_p] at hc_p
      have HC_p := Lib.hid hc_p
      clear hc_n hc_p hc_b hno hnx h_n h_p
      have HB0 := b0' wr
      go_wp2_with (first | (go_at_call 27; (with_reducible refine (HC_n.out wr HB0).mono ?_); rintro e91 w1 ⟨rfl, hb1⟩; have HB1 := bt HB0 hb1; have g1_1 := (HB1.cell (World.block_lt_of_cell? _ _ g1)).trans g1) | (go_at_call 28; (with_reducible refine (HC_p.out w1 HB1).mono ?_); rintro e92 w2 ⟨rfl, hb2⟩; have HB2 := bt HB1 hb2))
      go_ret
      exact ⟨ret_bool hfin.out.symm, bt HB.out HB2⟩
    have hfin := Lib.hid (hno.out (fun h => h_n h.1))
    simp only [dec_false h_n] at hc_n
    have HC_n := Lib.hid hc_n
    clear hc_n hc_p hc_b hno hnx h_n
    have HB0 := b0' wr
    go_wp2_with (go_at_call 27; (with_reducible refine (HC_n.out wr HB0).mono ?_); rintro e91 w1 ⟨rfl, hb1⟩; have HB1 := bt HB0 hb1)
    go_ret
    exact ⟨ret_bool hfin.out.symm, bt HB.out HB1⟩
  have : k = l.length := by omega
  subst this
  have hfin := Lib.hid (hfin1.out hq.out)
  have hki : decide ((l.length : Int) < (l.length : Int)) = false := by simp
  clear hq ha hfin1
  go_wp2
  go_ret
  exact ⟨ret_bool hfin.out.symm, hB⟩
end Go.Proofs.YtdeecfkipknkbaaGreatDoor
