/- clause's items at a number and a text. Printed by gen-par15.py. -/
import Derived.Test.YtnbfadgclffgkaaGreatDoorParteab39030
import Derived.Test.YtnbfadgclffgkaaGreatDoorPaK
namespace Go.Proofs.YtnbfadgclffgkaaGreatDoor
open Go.RowKit Go.Sort
theorem Tryz.infoEx9 : (Tryz.prog.info? 73).map (fun i => (i.zero, i.size, i.bytes)) = some (some (.agg #[.int .i64 0, .int .i64 0, .int .i64 0, .string ⟨#[]⟩, .slice none 0 0]), 5, 64) := by kernel_rfl
theorem tok_kind (t0 t2 t3 t4 : Int) (t1 : ByteArray) (W : World) : (Instr.field 53 (.agg #[.int .i64 t0, .string t1, .int .i64 t2, .int .i64 t3, .int .i64 t4]) 0).run Tryz.prog W = .ok (.int .i64 t0) W := by kernel_rfl
theorem own_kept {w' wr : World} {lo n b : Nat} {x : Value} {ys : List Value} (h : wr.ownsRow lo 73 5 x n ys) (hk : Kept b b wr w') (hb : b < lo) : w'.ownsRow lo 73 5 x n ys :=
  ownsRow_blk h (fun g hg => by
    have h1 := (ownsRow_in h g hg).1
    rcases h.2 with ⟨rfl, _⟩ | ⟨g', cap, cur, rfl, h3, h4, h5⟩
    · simp [Value.ownBlock] at hg
    · simp [Value.ownBlock] at hg
      subst hg
      exact hk.2 _ _ _ _ h4 (by decide) (by omega))
theorem Kept.grow {b : Nat} {w w5 w6 : World} {o : Obj} {row : Option Nat} (h : Kept b b w w5) (hb : b < w.heap.size) (hg : (w5.alloc o).grownBy w6 row) (hr : ∀ k, row = some k → w.heap.size ≤ k) : Kept b b w w6 := by
  have hs := h.1.size
  refine ⟨(h.1.alloc (by omega) o).grown hg (by simp; omega) (fun k hk => by have := hr k hk; omega), fun x cs T fr hx hT hne => ?_⟩
  have hlt : x < w.heap.size := by
    rcases Nat.lt_or_ge x w.heap.size with h' | h'
    · exact h'
    · simp [Array.getElem?_eq_none h'] at hx
  rw [hg.block x (by simp; omega) (fun e => by have := hr x e.symm; omega), Below.heap_alloc w5 o x (by omega)]
  exact h.2 x cs T fr hx hT hne
def ItQ (w : World) (b : Nat) (v : Value) (k1 k3 own : Nat) (q : Int) (s2 : ByteArray) (x : Value) (wr : World) : Prop :=
  (∃ s, x = .slice (some ⟨s, 0, none⟩) 1 1 ∧ wr.ownsRow w.heap.size 73 5 x 1 [.int .i64 1, .int .i64 0, .int .i64 q, .string ⟨#[]⟩, .slice none 0 0] ∧ CS wr b v k1 own ∧ Kept b b w wr) ∨ (∃ s cap, x = .slice (some ⟨s, 0, none⟩) 2 cap ∧ wr.ownsRow w.heap.size 73 5 x 2 [.int .i64 1, .int .i64 0, .int .i64 q, .string ⟨#[]⟩, .slice none 0 0, .int .i64 2, .int .i64 0, .int .i64 0, .string s2, .slice none 0 0] ∧ CS wr b v k3 own ∧ Kept b b w wr)
def slLen : Value → Nat
  | .slice _ n _ => n
  | _ => 0
def ItsQ (w : World) (b : Nat) (v : Value) (k3 own : Nat) (q : Int) (s2 : ByteArray) (e : Ending) (w' : World) : Prop :=
  ∃ s cap, e = .returned (.slice (some ⟨s, 0, none⟩) 2 cap) ∧ w'.ownsRow w.heap.size 73 5 (.slice (some ⟨s, 0, none⟩) 2 cap) 2 [.int .i64 1, .int .i64 0, .int .i64 q, .string ⟨#[]⟩, .slice none 0 0, .int .i64 2, .int .i64 0, .int .i64 0, .string s2, .slice none 0 0] ∧ CS w' b v k3 own ∧ Kept b b w w'
set_option maxRecDepth 100000 in
set_option maxHeartbeats 4000000 in
theorem citems_calls (w : World) (b : Nat) (v : Value) (k k1 k2 k3 own : Nat) (l : List TokD) (q : Int) (s2 : ByteArray) (h1 : k1 = k + 1) (h2 : k2 = k1 + 1) (h3 : k3 = k2 + 1) (hk : k ≤ 990) (hE : ReadsX 165 b v l k k1 own (.agg #[.int .i64 1, .int .i64 0, .int .i64 q, .string ⟨#[]⟩, .slice none 0 0])) (hkd : (tokAt l k2).kind = 3) (hs2 : (tokAt l k2).text = s2)
    (c1 : isK 5 (tokAt l k1) ⟨#[44]⟩ = true) (c3 : isK 5 (tokAt l k3) ⟨#[44]⟩ = false) (hp : CS w b v k own) (hl : RdL Holds.tok 5 (fun x => x < b) w l v) : Calls Tryz.prog 144 #[.pointer (some ⟨b, 0, none⟩)] w (ItsQ w b v k3 own q s2) := by
  obtain ⟨i0, hi, hz0, hz1, hz2⟩ := info_parts Tryz.infoEx9
  have hbl := hp.lt
  have hB1 := hE w hp hl
  have hpr : primT (tokAt l k2) = false := by unfold primT; rw [hkd]; simp
  have HB1 := Lib.hid hB1
  have HL := Lib.hid hl
  have HBL := Lib.hid hbl
  have HI := Lib.hid hi; have HZ0 := Lib.hid hz0; have HZ1 := Lib.hid hz1; have HZ2 := Lib.hid hz2
  have H1 := Lib.hid h1; have H2 := Lib.hid h2; have H3 := Lib.hid h3
  have HC1 := Lib.hid c1; have HC3 := Lib.hid c3; have HPR := Lib.hid hpr; have HKD := Lib.hid hkd; have HS2 := Lib.hid hs2
  have hk19 : k1 ≤ 991 := by omega
  have hk29 : k2 ≤ 992 := by omega
  have hk39 : k3 ≤ 993 := by omega
  clear hB1 hl hbl hE hp hi hz0 hz1 hz2 h1 h2 h3 c1 c3 hpr hkd hs2
  go_enter Tryz.func144, Tryz.ntmps144
  go_wp2_with (go_at_call 165; (with_reducible refine HB1.out.mono ?_); rintro e w1 ⟨rfl, hp1, hk1⟩)
  have hs1 := hk1.1.size
  obtain ⟨w2, hw2⟩ : ∃ x, w1.alloc (.cells #[.int .i64 1, .int .i64 0, .int .i64 q, .string ⟨#[]⟩, .slice none 0 0] 73) = x := ⟨_, rfl⟩
  rw [hw2]
  have hb2 : Below w1.heap.size w1 w2 := by rw [← hw2]; exact (Below.refl _ _).alloc (Nat.le_refl _) _
  have hown2 : w2.ownsRow w.heap.size 73 5 (.slice (some ⟨w1.heap.size, 0, none⟩) 1 1) 1 [.int .i64 1, .int .i64 0, .int .i64 q, .string ⟨#[]⟩, .slice none 0 0] := by rw [← hw2]; exact World.ownsRow_lit w1 _ 1 hs1 (by unfold maxLen; omega) rfl
  have hq2 : Hid (ItQ w b v k1 k3 own q s2 (.slice (some ⟨w1.heap.size, 0, none⟩) 1 1) w2) := Or.inl ⟨_, rfl, hown2, CS.below hp1 hb2, hk1.below hb2 (by have := HBL.out; omega)⟩
  clear hs1 hw2 hb2 hown2 hp1 hk1
  generalize w1.heap.size = g1 at hq2 ⊢
  go_loopw [3] (fun x wr => Hid (ItQ w b v k1 k3 own q s2 x wr)) (fun x _ => 2 - slLen x)
  case atStart => exact hq2
  case round =>
    clear hq2
    rcases hrel.out with ⟨s, rfl, hown, hp, hkp⟩ | ⟨s, cap, rfl, hown, hp, hkp⟩
    · have hls := (ownsRow_in hown s rfl).1
      have hcs := csign_calls wr b v k1 own 0 l ⟨#[44]⟩ hp (hkp.toks HL.out) (by omega)
      rw [show k1 + 0 = k1 from rfl, HC1.out] at hcs
      have HCS := Lib.hid (show Calls Tryz.prog 67 #[.pointer (some ⟨b, 0, none⟩), .int .i64 0, .string ⟨#[44]⟩] wr (Gives wr (.bool true)) from hcs)
      clear hcs
      go_upto_region 3 with (go_at_call 67; (with_reducible refine HCS.out.mono ?_); rintro e wa ⟨rfl, hba⟩)
      have hpa := CS.below hp hba
      have hka : Kept b b wr wa := Kept.of hba (Nat.le_of_lt hp.lt)
      obtain ⟨z0, z1, z2⟩ := hpa.cells
      have fz := Lib.frozen_of_heap hpa 1
      have HPA := Lib.hid hpa; have HKA := Lib.hid hka; have HOWN := Lib.hid hown; have HKP := Lib.hid hkp
      clear hp hba hpa hka hrel hown hkp HCS
      go_upto_region 4 with fail
      obtain ⟨wb, hwb⟩ : ∃ x, wa.setCell ⟨b, 1, none⟩ (.int .i64 ((k1 : Int) + 1)) = x := ⟨_, rfl⟩
      rw [hwb]
      have hpb : CS wb b v k2 own := by
        have e : (k2 : Int) = (k1 : Int) + 1 := by have := H2.out; omega
        rw [CS, e, ← hwb]
        exact BoxT.at1 HPA.out
      have hkb : Kept b b wr wb := by rw [← hwb]; exact HKA.out.atB
      have HPB := Lib.hid hpb; have HKB := Lib.hid hkb
      clear hpb hkb hwb z0 z1 z2 fz HPA HKA
      have hlb := (HKB.out.trans (Kept.refl b b wb)).toks (HKP.out.toks HL.out)
      have hpp := cprim_calls wb b v k2 own l HPB.out hlb (by omega)
      rw [HPR.out] at hpp
      have htt := fun W (h : Below wb.heap.size wb W) => ctok_calls W b v k2 own 0 l (CS.below HPB.out h) ((Kept.of h (Nat.le_of_lt HPB.out.lt)).toks hlb) (by omega)
      simp only [show k2 + 0 = k2 from rfl] at htt
      have hit := fun W (h : Below wb.heap.size wb W) => citemT_calls W b v k2 own l (by omega) HKD.out (CS.below HPB.out h) ((Kept.of h (Nat.le_of_lt HPB.out.lt)).toks hlb)
      rw [HS2.out] at hit
      have hkd := HKD.out
      generalize tokAt l k2 = t at htt hkd
      obtain ⟨t0, t1, t2, t3, t4⟩ := t
      simp only at hkd
      subst hkd
      have HPP := Lib.hid hpp
      have HTT := Lib.hid (show ∀ W, Below wb.heap.size wb W → Calls Tryz.prog 98 #[.pointer (some ⟨b, 0, none⟩), .int .i64 0] W (Gives W (.agg #[.int .i64 3, .string t1, .int .i64 t2, .int .i64 t3, .int .i64 t4])) from htt)
      have HIT := Lib.hid (show ∀ W, Below wb.heap.size wb W → Calls Tryz.prog 165 #[.pointer (some ⟨b, 0, none⟩)] W (fun e w' => e = .returned (.agg #[.int .i64 2, .int .i64 0, .int .i64 0, .string s2, .slice none 0 0]) ∧ CS w' b v (k2 + 1) own ∧ Kept b b W w') from hit)
      clear hpp htt hit hlb
      have hfld := fun W => tok_kind 3 t2 t3 t4 t1 W
      go_upto_region 7 with (first | (go_at_call 99; (with_reducible refine HPP.out.mono ?_); rintro e wc ⟨rfl, hbc⟩) | (go_at_call 98; (with_reducible refine (HTT.out _ hbc).mono ?_); rintro e wd ⟨rfl, hbd⟩))
      have hbd2 : Below wb.heap.size wb wd := btK hbc hbd
      clear hfld hbc hbd
      have HBD := Lib.hid hbd2
      clear hbd2
      go_wp2_with (first | (go_at_call 165; (with_reducible refine (HIT.out _ HBD.out).mono ?_); rintro e we ⟨rfl, hpe, hke⟩; have hKe : Kept b b wr we := (HKB.out.below HBD.out (Nat.le_of_lt HPB.out.lt)).trans hke; have howe := own_kept HOWN.out hKe (Nat.lt_of_lt_of_le HBL.out (Nat.le_refl _)); have hkwe := HKP.out.trans hKe; have hle := hkwe.1.size) | (at_builtin; refine wpList_append_own_at _ rfl (.tmp 45) (.tmp 48) 25 rfl w.heap.size 73 i0 _ 5 64 Tryz.underlying25 HI.out HZ0.out HZ1.out HZ2.out rfl (by decide) _ 1 [.int .i64 1, .int .i64 0, .int .i64 q, .string ⟨#[]⟩, .slice none 0 0] rfl (howe.alloc _) ⟨we.heap.size, 0, none⟩ 1 1 [.int .i64 2, .int .i64 0, .int .i64 0, .string s2, .slice none 0 0] rfl rfl (cells_new5 we [.int .i64 2, .int .i64 0, .int .i64 0, .string s2, .slice none 0 0] 73) (by simp [Value.oneCell']) (by unfold maxLen; omega) (by omega) (by have h1 := hkwe.1.size; simp; omega) ?_; intro v' wf hown' hgrow _ hat2))
      have hrow : ∀ k, (some s : Option Nat) = some k → w.heap.size ≤ k := fun k hk => by cases hk; exact hls
      have hkf : Kept b b w wf := hkwe.grow HBL.out hgrow hrow
      have hpf : CS wf b v k3 own := by
        have e : k3 = k2 + 1 := H3.out
        have hlt := hpe.lt
        rw [e]
        show wf.heap[b]? = _
        rw [hgrow.block b (by simp; omega) (fun e => by have h9 : b = s := Option.some.inj e; have := HBL.out; omega), Below.heap_alloc _ _ _ hlt]
        exact hpe
      obtain ⟨g2, cap2, rfl⟩ : ∃ g cap, v' = .slice (some ⟨g, 0, none⟩) 2 cap := by
        rcases hown'.2 with ⟨_, h0⟩ | ⟨g, cap, cur, h0, _⟩
        · omega
        · exact ⟨g, cap, h0⟩
      have hq : Hid (ItQ w b v k1 k3 own q s2 (.slice (some ⟨g2, 0, none⟩) 2 cap2) wf) := Or.inr ⟨_, _, rfl, hown', hpf, hkf⟩
      clear hown' hgrow hat2 hkf hpf hpe hke hKe howe hkwe hle hls hrow
      go_roundw
      case rel => exact hq
      case measure => simp [slLen]
    · have hcs := csign_calls wr b v k3 own 0 l ⟨#[44]⟩ hp (hkp.toks HL.out) (by omega)
      rw [show k3 + 0 = k3 from rfl, HC3.out] at hcs
      have HCS := Lib.hid (show Calls Tryz.prog 67 #[.pointer (some ⟨b, 0, none⟩), .int .i64 0, .string ⟨#[44]⟩] wr (Gives wr (.bool false)) from hcs)
      have HQ : Hid (∀ w', Below wr.heap.size wr w' → ItsQ w b v k3 own q s2 (.returned (.slice (some ⟨s, 0, none⟩) 2 cap)) w') := fun w' h => ⟨_, _, rfl, own_kept hown (Kept.of h (Nat.le_of_lt hp.lt)) HBL.out, CS.below hp h, hkp.below h (Nat.le_of_lt hp.lt)⟩
      clear hcs hown hp hkp hrel
      go_wp2_with (go_at_call 67; (with_reducible refine HCS.out.mono ?_); rintro e wa ⟨rfl, hba⟩)
      go_ret
      exact HQ.out _ hba
end Go.Proofs.YtnbfadgclffgkaaGreatDoor
/- clause's short at say. Printed by gen-par16.py. -/
namespace Go.Proofs.YtnbfadgclffgkaaGreatDoor
open Go.RowKit Go.Sort
theorem BoxT.six {b r : Nat} {w : World} {cs : List Value} {T : TypeId} {u0 u1 u2 u3 u4 u5 : Value} (h : BoxT w b cs T) (hne : b ≠ r) : BoxT ((((((w.setCell ⟨r, 0, none⟩ u0).setCell ⟨r, 1, none⟩ u1).setCell ⟨r, 2, none⟩ u2).setCell ⟨r, 3, none⟩ u3).setCell ⟨r, 4, none⟩ u4).setCell ⟨r, 5, none⟩ u5) b cs T := by
  unfold BoxT at *
  rw [Below.heap_setCell _ ⟨r, 5, none⟩ _ b hne, Below.heap_setCell _ ⟨r, 4, none⟩ _ b hne, Below.heap_setCell _ ⟨r, 3, none⟩ _ b hne, Below.heap_setCell _ ⟨r, 2, none⟩ _ b hne, Below.heap_setCell _ ⟨r, 1, none⟩ _ b hne, Below.heap_setCell _ ⟨r, 0, none⟩ _ b hne]
  exact h
theorem BoxT.fill6 {w : World} {c : Nat} {z0 z1 z2 z3 z4 z5 u0 u1 u2 u3 u4 u5 : Value} {T : TypeId} (h : BoxT w c [z0, z1, z2, z3, z4, z5] T) : BoxT ((((((w.setCell ⟨c, 0, none⟩ u0).setCell ⟨c, 1, none⟩ u1).setCell ⟨c, 2, none⟩ u2).setCell ⟨c, 3, none⟩ u3).setCell ⟨c, 4, none⟩ u4).setCell ⟨c, 5, none⟩ u5) c [u0, u1, u2, u3, u4, u5] T := by
  unfold BoxT at *
  simp [World.setCell, Array.getElem?_modify, h]
theorem six9 {B : Nat} {a w : World} {b : Nat} {u0 u1 u2 u3 u4 u5 : Value} (h : Below B a w) (hb : B ≤ b) : Below B a ((((((w.setCell ⟨b, 0, none⟩ u0).setCell ⟨b, 1, none⟩ u1).setCell ⟨b, 2, none⟩ u2).setCell ⟨b, 3, none⟩ u3).setCell ⟨b, 4, none⟩ u4).setCell ⟨b, 5, none⟩ u5) :=
  (((((h.setCell (p := ⟨b, 0, none⟩) hb _).setCell (p := ⟨b, 1, none⟩) hb _).setCell (p := ⟨b, 2, none⟩) hb _).setCell (p := ⟨b, 3, none⟩) hb _).setCell (p := ⟨b, 4, none⟩) hb _).setCell (p := ⟨b, 5, none⟩) hb _
theorem Kept.six {b r : Nat} {w w' : World} {u0 u1 u2 u3 u4 u5 : Value} (h : Kept b b w w') (hr : w.heap.size ≤ r) (hb : b ≤ r) : Kept b b w ((((((w'.setCell ⟨r, 0, none⟩ u0).setCell ⟨r, 1, none⟩ u1).setCell ⟨r, 2, none⟩ u2).setCell ⟨r, 3, none⟩ u3).setCell ⟨r, 4, none⟩ u4).setCell ⟨r, 5, none⟩ u5) :=
  ⟨six9 h.1 hb, fun x cs T fr hx hT hxb => by
    have hlt : x < w.heap.size := by
      rcases Nat.lt_or_ge x w.heap.size with h' | h'
      · exact h'
      · simp [Array.getElem?_eq_none h'] at hx
    have hne : x ≠ r := by omega
    rw [Below.heap_setCell _ ⟨r, 5, none⟩ _ x hne, Below.heap_setCell _ ⟨r, 4, none⟩ _ x hne, Below.heap_setCell _ ⟨r, 3, none⟩ _ x hne, Below.heap_setCell _ ⟨r, 2, none⟩ _ x hne, Below.heap_setCell _ ⟨r, 1, none⟩ _ x hne, Below.heap_setCell _ ⟨r, 0, none⟩ _ x hne]
    exact h.2 x cs T fr hx hT hxb⟩
theorem own_le {w : World} {lo lo' n : Nat} {x : Value} {ys : List Value} (h : w.ownsRow lo 73 5 x n ys) (hl : lo' ≤ lo) : w.ownsRow lo' 73 5 x n ys :=
  ⟨h.1, h.2.imp id fun ⟨g, cap, cur, h1, h2, h3⟩ => ⟨g, cap, cur, h1, Nat.le_trans hl h2, h3⟩⟩
theorem own_six {w : World} {lo n r : Nat} {x : Value} {ys : List Value} {u0 u1 u2 u3 u4 u5 : Value} (h : w.ownsRow lo 73 5 x n ys) (hr : r < lo) : ((((((w.setCell ⟨r, 0, none⟩ u0).setCell ⟨r, 1, none⟩ u1).setCell ⟨r, 2, none⟩ u2).setCell ⟨r, 3, none⟩ u3).setCell ⟨r, 4, none⟩ u4).setCell ⟨r, 5, none⟩ u5).ownsRow lo 73 5 x n ys := by
  iterate 6 refine ownsRow_setCell_below (a := ⟨r, _, none⟩) ?_ hr _
  exact h
theorem BoxT.cells6 {w : World} {x : Nat} {c0 c1 c2 c3 c4 c5 : Value} {T : TypeId} (h : BoxT w x [c0, c1, c2, c3, c4, c5] T) : w.cell? ⟨x, 0, none⟩ = some c0 ∧ w.cell? ⟨x, 1, none⟩ = some c1 ∧ w.cell? ⟨x, 2, none⟩ = some c2 ∧ w.cell? ⟨x, 3, none⟩ = some c3 ∧ w.cell? ⟨x, 4, none⟩ = some c4 ∧ w.cell? ⟨x, 5, none⟩ = some c5 :=
  ⟨h.cell 0, h.cell 1, h.cell 2, h.cell 3, h.cell 4, h.cell 5⟩
def SayQ (w : World) (b : Nat) (v : Value) (k own : Nat) (q : Int) (s2 : ByteArray) (e : Ending) (w' : World) : Prop :=
  ∃ g cap, e = .returned (.agg #[.int .i64 1, .int .i64 0, .string ⟨#[]⟩, .slice (some ⟨g, 0, none⟩) 2 cap, .slice none 0 0, .slice none 0 0]) ∧ w'.ownsRow w.heap.size 73 5 (.slice (some ⟨g, 0, none⟩) 2 cap) 2 [.int .i64 1, .int .i64 0, .int .i64 q, .string ⟨#[]⟩, .slice none 0 0, .int .i64 2, .int .i64 0, .int .i64 0, .string s2, .slice none 0 0] ∧ CS w' b v k own ∧ Kept b b w w'
set_option maxRecDepth 100000 in
set_option maxHeartbeats 4000000 in
theorem cshort_calls (b : Nat) (v : Value) (k k3 own : Nat) (l : List TokD) (q : Int) (s2 : ByteArray) (hI : ∀ W, CS W b v k own → RdL Holds.tok 5 (fun x => x < b) W l v → Calls Tryz.prog 144 #[.pointer (some ⟨b, 0, none⟩)] W (ItsQ W b v k3 own q s2))
    (w : World) (hp : CS w b v k own) (hl : RdL Holds.tok 5 (fun x => x < b) w l v) : Calls Tryz.prog 102 #[.pointer (some ⟨b, 0, none⟩), .string ⟨#[115, 97, 121]⟩] w (SayQ w b v k3 own q s2) := by
  have hbl := hp.lt
  obtain ⟨W1, hW1⟩ : ∃ x, w.alloc (.cells #[.pointer (some ⟨b, 0, none⟩)] 57) = x := ⟨_, rfl⟩
  obtain ⟨W2, hW2⟩ : ∃ x, W1.alloc (.cells #[.int .i64 0, .int .i64 0, .string ⟨#[]⟩, .slice none 0 0, .slice none 0 0, .slice none 0 0] 27) = x := ⟨_, rfl⟩
  have hz1 : W1.heap.size = w.heap.size + 1 := by rw [← hW1]; simp
  have hz2 : W2.heap.size = w.heap.size + 2 := by rw [← hW2]; simp [hz1]
  have hb1 : Below w.heap.size w W1 := by rw [← hW1]; exact (Below.refl _ _).alloc (Nat.le_refl _) _
  have hb2 : Below W1.heap.size W1 W2 := by rw [← hW2]; exact (Below.refl _ _).alloc (Nat.le_refl _) _
  have hm1 : BoxT W1 w.heap.size [.pointer (some ⟨b, 0, none⟩)] 57 := by rw [← hW1]; exact BoxT.new _ _ _
  have hr2 : BoxT W2 (w.heap.size + 1) [.int .i64 0, .int .i64 0, .string ⟨#[]⟩, .slice none 0 0, .slice none 0 0, .slice none 0 0] 27 := by rw [← hz1, ← hW2]; exact BoxT.new _ _ _
  have hm2 := hm1.below hb2
  have hB2 := btK hb1 hb2
  have hk2 : Kept b b w W2 := Kept.of hB2 (Nat.le_of_lt hbl)
  have hp2 := CS.below hp hB2
  have HI := Lib.hid (hI W2 hp2 (hk2.toks hl))
  have y0 := hm2.cell 0
  simp only [cqz] at y0
  have HW1 := Lib.hid hW1; have HW2 := Lib.hid hW2
  have HR2 := Lib.hid hr2; have HK2 := Lib.hid hk2; have HP2 := Lib.hid hp2; have HZ2 := Lib.hid hz2; have HBL := Lib.hid hbl
  clear hz1 hz2 hb1 hb2 hm1 hm2 hr2 hB2 hk2 hp2 hI hp hl hW1 hW2 hbl
  go_enter Tryz.func102, Tryz.ntmps102
  go_upto_region 1 with fail
  rw [HW1.out, HW2.out]
  go_upto_region 3 with fail
  go_wp2_with (go_at_call 144; (with_reducible refine HI.out.mono ?_); rintro e w3 ⟨g, cap, rfl, hown, hp3, hk3⟩; have hr3 := HR2.out.keep hk3 (by decide) (by have := HBL.out; omega); obtain ⟨q0, q1, q2, q3, q4, q5⟩ := hr3.cells6; have f0 := Lib.frozen_of_heap hr3 0; have f1 := Lib.frozen_of_heap hr3 1; have f2 := Lib.frozen_of_heap hr3 2; have f3 := Lib.frozen_of_heap hr3 3; have f4 := Lib.frozen_of_heap hr3 4; have f5 := Lib.frozen_of_heap hr3 5)
  (try simp only [Exit.inBlock, Exit.then])
  have hz := HZ2.out
  have hs3 := hk3.1.size
  refine bodyPost_ret (v := .agg #[.int .i64 1, .int .i64 0, .string ⟨#[]⟩, .slice (some ⟨g, 0, none⟩) 2 cap, .slice none 0 0, .slice none 0 0]) (by simp [results, Tryz.results102, go_sem, q0, q1, q2, q3, q4, q5]) rfl ⟨g, cap, rfl, ?_, BoxT.six hp3 (by have := HBL.out; omega), (HK2.out.trans hk3).six (Nat.le_succ _) (by have := HBL.out; omega)⟩
  exact own_le (own_six hown (by omega)) (by omega)
end Go.Proofs.YtnbfadgclffgkaaGreatDoor
/- clause's any at say. Printed by gen-par17.py. -/
namespace Go.Proofs.YtnbfadgclffgkaaGreatDoor
open Go.RowKit Go.Sort
theorem own_six' {w : World} {lo lo' n r : Nat} {x : Value} {ys : List Value} {u0 u1 u2 u3 u4 u5 : Value} (h : w.ownsRow lo 73 5 x n ys) (hr : r < lo) (hl : lo' ≤ lo) : ((((((w.setCell ⟨r, 0, none⟩ u0).setCell ⟨r, 1, none⟩ u1).setCell ⟨r, 2, none⟩ u2).setCell ⟨r, 3, none⟩ u3).setCell ⟨r, 4, none⟩ u4).setCell ⟨r, 5, none⟩ u5).ownsRow lo' 73 5 x n ys := own_le (own_six h hr) hl
set_option maxRecDepth 100000 in
set_option maxHeartbeats 4000000 in
theorem cany_calls (b : Nat) (v : Value) (k k1 k3 k4 own : Nat) (l : List TokD) (q : Int) (s2 : ByteArray) (D : Int) (h1 : k1 = k + 1) (h4 : k4 = k3 + 1) (hk : k ≤ 900) (hk3 : k3 ≤ 950) (hkd : (tokAt l k).kind = 4) (htx : (tokAt l k).text = ⟨#[115, 97, 121]⟩) (hbg : begT (tokAt l k) = true) (hpr : primT (tokAt l k) = false)
    (hsc : isK 5 (tokAt l k3) ⟨#[59]⟩ = true) (hI : ∀ W, CS W b v k1 own → RdL Holds.tok 5 (fun x => x < b) W l v → Calls Tryz.prog 102 #[.pointer (some ⟨b, 0, none⟩), .string ⟨#[115, 97, 121]⟩] W (SayQ W b v k3 own q s2))
    (w : World) (hp : CS w b v k own) (hl : RdL Holds.tok 5 (fun x => x < b) w l v) : Calls Tryz.prog 60 #[.pointer (some ⟨b, 0, none⟩), .int .i64 D] w (SayQ w b v k4 own q s2) := by
  have hbl := hp.lt
  obtain ⟨W1, hW1⟩ : ∃ x, w.alloc (.cells #[.int .i64 0, .int .i64 0, .string ⟨#[]⟩, .slice none 0 0, .slice none 0 0, .slice none 0 0] 27) = x := ⟨_, rfl⟩
  have hz1 : W1.heap.size = w.heap.size + 1 := by rw [← hW1]; simp
  have hb1 : Below w.heap.size w W1 := by rw [← hW1]; exact (Below.refl _ _).alloc (Nat.le_refl _) _
  have hr1 : BoxT W1 w.heap.size [.int .i64 0, .int .i64 0, .string ⟨#[]⟩, .slice none 0 0, .slice none 0 0, .slice none 0 0] 27 := by rw [← hW1]; exact BoxT.new _ _ _
  have hk1 : Kept b b w W1 := Kept.of hb1 (Nat.le_of_lt hbl)
  have hp1 := CS.below hp hb1
  have hl1 := hk1.toks hl
  have htk := ctok_calls W1 b v k own 0 l hp1 hl1 (by omega)
  have hbe := fun W (h : Below W1.heap.size W1 W) => cbegins_calls W b v k own l (CS.below hp1 h) ((Kept.of h (Nat.le_of_lt hp1.lt)).toks hl1) (by omega)
  have hpm := fun W (h : Below W1.heap.size W1 W) => cprim_calls W b v k own l (CS.below hp1 h) ((Kept.of h (Nat.le_of_lt hp1.lt)).toks hl1) (by omega)
  rw [show k + 0 = k from rfl] at htk
  simp only [hbg] at hbe
  simp only [hpr] at hpm
  generalize tokAt l k = t at htk hkd htx
  obtain ⟨t0, t1, t2, t3, t4⟩ := t
  simp only at hkd htx
  subst hkd htx
  have HTK := Lib.hid (show Calls Tryz.prog 98 #[.pointer (some ⟨b, 0, none⟩), .int .i64 0] W1 (Gives W1 (.agg #[.int .i64 4, .string ⟨#[115, 97, 121]⟩, .int .i64 t2, .int .i64 t3, .int .i64 t4])) from htk)
  have HBE := Lib.hid (show ∀ W, Below W1.heap.size W1 W → Calls Tryz.prog 69 #[.pointer (some ⟨b, 0, none⟩)] W (Gives W (.bool true)) from hbe)
  have HPM := Lib.hid (show ∀ W, Below W1.heap.size W1 W → Calls Tryz.prog 99 #[.pointer (some ⟨b, 0, none⟩)] W (Gives W (.bool false)) from hpm)
  have HLO := Lib.hid (fun W => clong_calls W b D)
  have HR1 := Lib.hid hr1; have HK1 := Lib.hid hk1; have HP1 := Lib.hid hp1; have HL := Lib.hid hl; have HBL := Lib.hid hbl; have HZ1 := Lib.hid hz1; have HW1 := Lib.hid hW1
  have HI := Lib.hid hI; have HSC := Lib.hid hsc; have H1 := Lib.hid h1; have H4 := Lib.hid h4
  have hk9 : k1 ≤ 901 := by omega
  clear hr1 hk1 hp1 hl hbl hz1 hW1 hI hsc h1 h4 htk hbe hpm hb1 hl1 hbg hpr hp
  go_enter Tryz.func60, Tryz.ntmps60
  go_upto_region 1 with fail
  rw [HW1.out]
  go_upto_region 2 with (go_at_call 98; (with_reducible refine HTK.out.mono ?_); rintro e w1 ⟨rfl, hb1⟩)
  obtain ⟨w2, hw2⟩ : ∃ x, w1.alloc (.cells #[.int .i64 4, .string ⟨#[115, 97, 121]⟩, .int .i64 t2, .int .i64 t3, .int .i64 t4] 53) = x := ⟨_, rfl⟩
  have hb2 : Below W1.heap.size W1 w2 := by rw [← hw2]; exact hb1.alloc hb1.size _
  have hx2 : BoxT w2 w1.heap.size [.int .i64 4, .string ⟨#[115, 97, 121]⟩, .int .i64 t2, .int .i64 t3, .int .i64 t4] 53 := by rw [← hw2]; exact BoxT.new _ _ _
  rw [hw2]
  have hs1 := hb1.size
  generalize w1.heap.size = x at hx2 hs1 ⊢
  have HX2 := Lib.hid hx2; have HB2 := Lib.hid hb2; have hxl := hx2.lt
  clear hx2 hw2 hb1 hb2
  go_upto_region 4 with (go_at_call 69; (with_reducible refine (HBE.out _ HB2.out).mono ?_); rintro e w3 ⟨rfl, hb3⟩)
  have hx3 := HX2.out.below hb3
  have m0 := hx3.cell 0
  have m1 := hx3.cell 1
  have m2 := hx3.cell 2
  have m3 := hx3.cell 3
  have m4 := hx3.cell 4
  simp only [cqs, cqz] at m0 m1 m2 m3 m4
  have HX3 := Lib.hid hx3; have HB3 := Lib.hid (btK HB2.out hb3)
  clear hx3 hb3
  go_upto_region 6 with (go_at_call 99; (with_reducible refine (HPM.out _ HB3.out).mono ?_); rintro e w4 ⟨rfl, hb4⟩)
  clear m0 m1 m2 m3 m4
  have hx4 := HX3.out.below hb4
  have m0 := hx4.cell 0
  have m1 := hx4.cell 1
  have m2 := hx4.cell 2
  have m3 := hx4.cell 3
  have m4 := hx4.cell 4
  simp only [cqs, cqz] at m0 m1 m2 m3 m4
  have HX4 := Lib.hid hx4; have HB4 := Lib.hid (btK HB3.out hb4)
  clear hx4 hb4
  go_upto_region 7 with (go_at_call 101; (with_reducible refine (HLO.out _).mono ?_); rintro e w5 ⟨rfl, hb5⟩)
  obtain ⟨w6, hw6⟩ : ∃ x, w5.alloc (.cells #[.int .i64 0, .int .i64 0, .string ⟨#[]⟩, .slice none 0 0, .slice none 0 0, .slice none 0 0] 27) = x := ⟨_, rfl⟩
  rw [hw6]
  have hs5 := hb5.size
  have hB5 : Below W1.heap.size W1 w5 := btK HB4.out hb5
  have hb6 : Below w5.heap.size w5 w6 := by rw [← hw6]; exact (Below.refl _ _).alloc (Nat.le_refl _) _
  have hy6 : BoxT w6 w5.heap.size [.int .i64 0, .int .i64 0, .string ⟨#[]⟩, .slice none 0 0, .slice none 0 0, .slice none 0 0] 27 := by rw [← hw6]; exact BoxT.new _ _ _
  have hx5 := HX4.out.below hb5
  have hxy : x < w5.heap.size := hx5.lt
  generalize w5.heap.size = y at hy6 hxy ⊢
  have hx6 := hx5.below hb6
  have hB6 := btK hB5 hb6
  have hr6 := HR1.out.below hB6
  have hp6 := CS.below HP1.out hB6
  have hk6 := HK1.out.below hB6 (Nat.le_of_lt HP1.out.lt)
  have hrx : w.heap.size < x := by have := HZ1.out; omega
  have hbr := HBL.out
  obtain ⟨z0, z1, z2⟩ := hp6.cells
  have fz := Lib.frozen_of_heap hp6 1
  have HX6 := Lib.hid hx6; have HY6 := Lib.hid hy6; have HR6 := Lib.hid hr6; have HP6 := Lib.hid hp6; have HK6 := Lib.hid hk6
  clear hw6 hb5 hb6 hB5 hB6 hx5 hx6 hy6 hr6 hp6 hk6 HX2 HX3 HX4 HB2 HB3 HB4 HTK HBE HPM HLO m0 m1 m2 m3 m4 HR1 HP1 HK1 hs1 hs5 hxl
  go_upto_region 10 with fail
  obtain ⟨w7, hw7⟩ : ∃ x, w6.setCell ⟨b, 1, none⟩ (.int .i64 ((k : Int) + 1)) = x := ⟨_, rfl⟩
  rw [hw7]
  have hp7 : CS w7 b v k1 own := by
    have e : (k1 : Int) = (k : Int) + 1 := by have := H1.out; omega
    rw [CS, e, ← hw7]
    exact BoxT.at1 HP6.out
  have hk7 : Kept b b w w7 := by rw [← hw7]; exact HK6.out.atB
  have hx7 : BoxT w7 x [.int .i64 4, .string ⟨#[115, 97, 121]⟩, .int .i64 t2, .int .i64 t3, .int .i64 t4] 53 := by rw [← hw7]; exact HX6.out.farT (by omega)
  have hy7 : BoxT w7 y [.int .i64 0, .int .i64 0, .string ⟨#[]⟩, .slice none 0 0, .slice none 0 0, .slice none 0 0] 27 := by rw [← hw7]; exact HY6.out.farT (by omega)
  have hr7 : BoxT w7 w.heap.size [.int .i64 0, .int .i64 0, .string ⟨#[]⟩, .slice none 0 0, .slice none 0 0, .slice none 0 0] 27 := by rw [← hw7]; exact HR6.out.farT (by omega)
  have hy7l := hy7.lt
  have m0 := hx7.cell 0
  have m1 := hx7.cell 1
  have m2 := hx7.cell 2
  have m3 := hx7.cell 3
  have m4 := hx7.cell 4
  simp only [cqs, cqz] at m0 m1 m2 m3 m4
  have HS := Lib.hid (HI.out w7 hp7 (hk7.toks HL.out))
  have HY7 := Lib.hid hy7; have HR7 := Lib.hid hr7; have HK7 := Lib.hid hk7
  clear hw7 hp7 hk7 hx7 hy7 hr7 z0 z1 z2 fz HX6 HY6 HR6 HP6 HK6 HI H1
  go_upto_region 11 with (go_at_call 102; (with_reducible refine HS.out.mono ?_); rintro e w8 ⟨g, cap, rfl, hown, hp8, hk8⟩; have hy8 := HY7.out.keep hk8 (by decide) (by omega); obtain ⟨q0, q1, q2, q3, q4, q5⟩ := hy8.cells6; have f0 := Lib.frozen_of_heap hy8 0; have f1 := Lib.frozen_of_heap hy8 1; have f2 := Lib.frozen_of_heap hy8 2; have f3 := Lib.frozen_of_heap hy8 3; have f4 := Lib.frozen_of_heap hy8 4; have f5 := Lib.frozen_of_heap hy8 5)
  obtain ⟨w9, hw9⟩ : ∃ x, (((((w8.setCell ⟨y, 0, none⟩ (.int .i64 1)).setCell ⟨y, 1, none⟩ (.int .i64 0)).setCell ⟨y, 2, none⟩ (.string ⟨#[]⟩)).setCell ⟨y, 3, none⟩ (.slice (some ⟨g, 0, none⟩) 2 cap)).setCell ⟨y, 4, none⟩ (.slice none 0 0)).setCell ⟨y, 5, none⟩ (.slice none 0 0) = x := ⟨_, rfl⟩
  rw [hw9]
  have hy9 : BoxT w9 y [.int .i64 1, .int .i64 0, .string ⟨#[]⟩, .slice (some ⟨g, 0, none⟩) 2 cap, .slice none 0 0, .slice none 0 0] 27 := by rw [← hw9]; exact hy8.fill6
  have hr9 : BoxT w9 w.heap.size [.int .i64 0, .int .i64 0, .string ⟨#[]⟩, .slice none 0 0, .slice none 0 0, .slice none 0 0] 27 := by rw [← hw9]; exact (HR7.out.keep hk8 (by decide) (by omega)).six (by omega)
  have hp9 : CS w9 b v k3 own := by rw [← hw9]; exact BoxT.six hp8 (by omega)
  have hk9' : Kept b b w w9 := by rw [← hw9]; exact (HK7.out.trans hk8).six (by omega) (by omega)
  have hown9 : w9.ownsRow w7.heap.size 73 5 (.slice (some ⟨g, 0, none⟩) 2 cap) 2 [.int .i64 1, .int .i64 0, .int .i64 q, .string ⟨#[]⟩, .slice none 0 0, .int .i64 2, .int .i64 0, .int .i64 0, .string s2, .slice none 0 0] := by rw [← hw9]; exact own_six hown hy7l
  have hmu := cmust_calls w9 b v k3 own l ⟨#[59]⟩ (by omega) HSC.out hp9 (hk9'.toks HL.out)
  have HMU := Lib.hid hmu; have HY9 := Lib.hid hy9; have HR9 := Lib.hid hr9; have HK9 := Lib.hid hk9'; have HOWN := Lib.hid hown9
  clear hw9 hown hp8 hk8 hy8 q0 q1 q2 q3 q4 q5 f0 f1 f2 f3 f4 f5 hy9 hr9 hp9 hk9' hown9 hmu m0 m1 m2 m3 m4 HS HY7 HR7
  have hs7 := HK7.out.1.size
  go_upto_region 12 with (go_at_call 68; (with_reducible refine HMU.out.mono ?_); rintro e w10 ⟨rfl, hp10, hk10⟩)
  have hy10 := HY9.out.keep hk10 (by decide) (by omega)
  have hr10 := HR9.out.keep hk10 (by decide) (by omega)
  obtain ⟨n0, n1, n2, n3, n4, n5⟩ := hy10.cells6
  obtain ⟨q0, q1, q2, q3, q4, q5⟩ := hr10.cells6
  have f0 := Lib.frozen_of_heap hr10 0; have f1 := Lib.frozen_of_heap hr10 1; have f2 := Lib.frozen_of_heap hr10 2; have f3 := Lib.frozen_of_heap hr10 3; have f4 := Lib.frozen_of_heap hr10 4; have f5 := Lib.frozen_of_heap hr10 5
  go_wp2
  (try simp only [Exit.inBlock, Exit.then])
  have h4 := H4.out
  subst h4
  exact bodyPost_ret (v := .agg #[.int .i64 1, .int .i64 0, .string ⟨#[]⟩, .slice (some ⟨g, 0, none⟩) 2 cap, .slice none 0 0, .slice none 0 0]) (by simp [results, Tryz.results60, go_sem, q0, q1, q2, q3, q4, q5]) rfl ⟨g, cap, rfl, own_six' (own_kept HOWN.out hk10 (by omega)) (by omega) hs7, BoxT.six hp10 (by omega), (HK9.out.trans hk10).six (Nat.le_refl _) (by omega)⟩
end Go.Proofs.YtnbfadgclffgkaaGreatDoor
