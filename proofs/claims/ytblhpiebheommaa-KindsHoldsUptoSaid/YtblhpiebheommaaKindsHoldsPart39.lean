/- The walk of clewref16.Block; what is wrong with statements has no name where nothing is wrong. -/
import Derived.Test.YtblhpiebheommaaKinds25
import Derived.Test.YtblhpiebheommaaKindsHoldsPart11
import Derived.Test.YtblhpiebheommaaLight2
import Derived.Test.YtblhpiebheommaaKindsHoldsPart33
import Derived.Test.YtblhpiebheommaaKindsHoldsPart26
import Derived.Test.YtblhpiebheommaaKinds12
namespace Go.Proofs.Ytblhpiebheommaa
open Go.RowKit

theorem clean_fresh (t : List NameD) (l : List ByteArray) (n : ByteArray) (m : Int) : Clean (freshW t l n m) := by
  unfold freshW
  split
  · intro h; exact absurd h (show ¬ ((10 : Int) = 0) by decide)
  · split
    · intro h; exact absurd h (show ¬ ((7 : Int) = 0) by decide)
    · intro _; rfl
theorem clean_ownSt (t : List NameD) (l : List ByteArray) (wh m k : Int) (n : ByteArray) : Clean (ownSt t l wh m k n) := by
  unfold ownSt
  split
  · exact clean_fresh _ _ _ _
  split
  · exact clean_fresh _ _ _ _
  split
  · exact clean_either _ _ _ _
  split
  · exact clean_of _ _ _
  split
  · exact clean_of _ _ _
  split
  · exact clean_of _ _ _
  split
  · exact clean_of _ _ _
  split
  · exact clean_of _ _ _
  split
  · split
    · intro _; rfl
    · intro h; exact absurd h (by decide)
  split
  · split
    · intro _; rfl
    · intro h; exact absurd h (by decide)
  · intro _; rfl
theorem clean_kWsS (t : List NameD) (fs : List FuncD) (wh : Int) : ∀ L : List St, ∀ (l : List ByteArray) (m : Int), Clean (St.kWs t fs wh l m L) := by
  refine blocks_ind fun L ih => ?_
  induction L with
  | nil => intro l m _; rfl
  | cons s r ihr =>
    intro l m
    rw [St.kWs_cons]
    obtain ⟨h1, h2⟩ := ih s (List.mem_cons_self ..)
    exact clean_seq (clean_kWs s.args fun x _ => clean_kW t fs l x) (clean_seq (clean_ownSt _ _ _ _ _ _) (clean_seq (h1 _ _) (clean_seq (h2 _ _) (ihr (fun x hx => ih x (List.mem_cons_of_mem _ hx)) _ _))))

theorem lones_of_blk : ∀ L : List St, Blk L → St.lones L := by
  refine blocks_ind fun L ih => ?_
  intro hB
  have h2 := hB.2
  clear hB
  induction L with
  | nil => trivial
  | cons s r ihr =>
    refine ⟨?_, ihr (fun x hx => ih x (List.mem_cons_of_mem _ hx)) fun x hx => h2 x (List.mem_cons_of_mem _ hx)⟩
    have hs := (stOk_eq s).1 (h2 s (List.mem_cons_self ..))
    obtain ⟨h3, h4⟩ := ih s (List.mem_cons_self ..)
    obtain ⟨k, n', n, args, body, els⟩ := s
    simp only [St.kind, St.body, St.els] at hs h3 h4
    refine ⟨fun hk => ?_, h3 hs.2.2.2.1, h4 hs.2.2.2.2⟩
    subst hk
    have hg := hs.1
    unfold StGood at hg
    obtain ⟨-, -, -, hb, he, -⟩ := hg
    constructor
    · rcases hb with hb | hb
      · exact absurd hb (by decide)
      · exact List.eq_nil_of_length_eq_zero hb
    · rcases he with he | he
      · exact absurd he (by decide)
      · exact List.eq_nil_of_length_eq_zero he

set_option maxRecDepth 100000 in
set_option maxHeartbeats 2000000 in
theorem rBlk_calls (t : List NameD) (s : SrcD) (l : List ByteArray) (wh : Int) (L : List St) (F : Nat → Prop) (w : World) (tv lv Lv : Value) (ss : List Value) (hF : Inn F w) (htab : TabOk t s.funcs s.objects.length) (hlone : St.lones L) (hsz : St.sizes L ≤ 1000000) (hlen : l.length ≤ 1000)
    (h0 : RdNames F w t tv) (h1 : Holds.src.R F w s ss) (h2 : RdStrs F w l lv) (h4 : Sts F w L Lv) :
    Calls Try.prog 16 #[tv, .agg ss.toArray, lv, .int .i64 wh, Lv] w (Gives w (.tuple #[.int .i64 (St.kWs t s.funcs wh l 0 L).1, .string (St.kWs t s.funcs wh l 0 L).2])) := by
  have hcall := fun (W : World) (hW : Below w.heap.size w W) => rBlock_calls t s htab L l wh 0 F W tv lv Lv ss (hF.below hW) hlone hsz (RdL.below h0 hF hW (Nat.le_refl _)) (Holds.below _ h1 hF hW (Nat.le_refl _)) (RdL.below h2 hF hW (Nat.le_refl _)) (Sts.below h4 hF hW (Nat.le_refl _)) (by omega) (by omega) (by omega)
  generalize St.kWs t s.funcs wh l 0 L = p at hcall ⊢
  obtain ⟨a0, c0, rfl⟩ := h0.shape
  obtain ⟨a2, c2, rfl⟩ := h2.shape
  obtain ⟨al, cl, rfl⟩ := h4.shape
  obtain ⟨a5, c5, a6, c6, a7, c7, a8, c8, a9, c9, a10, c10, a11, c11, a12, c12, rfl, -⟩ := src_shape h1
  have HB := Lib.hid (fun o => (Below.refl w.heap.size w).alloc (Nat.le_refl _) o)
  have HC := Lib.hid (fun o => hcall (w.alloc o) (HB.out o))
  clear hcall h0 h1 h2 h4 htab
  go_enter Try.func16, Try.ntmps16
  go_upto_region 2 with (go_at_call 40; refine (HC.out _).mono ?_; rintro e0 w1 ⟨rfl, hb⟩; unfold wrongR)
  have hbw := (HB.out _).trans (hb.mono (HB.out _).size)
  have hw := wr_new w1 p.1 p.2 83
  obtain ⟨⟨f0, f1⟩, z0, z1⟩ := hw
  have HD := Lib.hid (hbw.alloc hbw.size (.cells #[.int .i64 p.1, .string p.2] 83))
  clear hb hbw
  go_quiet (fail)
  go_wp2_with fail
  go_ret2
  exact ⟨rfl, below_drewN HD.out _⟩
end Go.Proofs.Ytblhpiebheommaa
/- Appends that KindsHolds makes. -/
namespace Go.Proofs.Ytblhpiebheommaa
open Go.RowKit

/-- One more string; where its array lies then. -/
theorem loc_one2 {B lo : Nat} {w : World} {l : List ByteArray} {v : Value} (h : Loc B lo w l v) (x : ByteArray) (hx : x.size ≤ maxLen) (ad : Addr) (had : w.cell? ad = some (.string x)) (hB : B < w.heap.size) (hlo : lo ≤ w.heap.size) (hl : l.length ≤ 1000000) (ty : TypeId) :
    ∃ v' w', (Builtin.append_ #[22, 22] ty #[v, .slice (some ad) 1 1]).run Try.prog w = .ok v' w' ∧ Loc B lo w' (l ++ [x]) v' ∧ But (fun b => v.ownBlock = some b ∧ lo ≤ b ∧ B < b) w w' ∧ (v'.ownBlock = v.ownBlock ∨ ∀ g, v'.ownBlock = some g → w.heap.size ≤ g) := by
  obtain ⟨i0, hi, hz0, hz1, hz2⟩ := info_parts Try.infoStr
  have hnews : ∀ j u, [Value.string x][j]? = some u → w.cell? (ad.add j) = some u := by
    intro j u hj
    match j, hj with
    | 0, hj =>
      simp at hj; subst hj
      have : ad.add 0 = ad := by cases ad with | mk b o s => cases s <;> simp [Addr.add]
      rw [this]; exact had
  have hsx : ∀ y ∈ l ++ [x], y.size ≤ maxLen := by
    intro y hy
    rcases List.mem_append.1 hy with h' | h'
    · exact h.1 y h'
    · simp at h'; subst h'; exact hx
  rcases h.2 with ⟨rfl, rfl⟩ | ⟨g, cap, rfl, h1, h2, h3, h4, h5, h6, h7⟩
  · obtain ⟨v', w', hr, ho, hgr, _⟩ := run_append_own (P := Try.prog) (w := w) (w.heap.size) 22 ty 9 i0 _ 1 16 Try.underlying22 hi hz0 hz1 hz2 rfl (by decide) (.slice none 0 0) 0 [] (World.ownsRow_nil _ _ _ _) ad 1 1 [.string x] rfl hnews (by simp [Value.oneCell']) (by unfold maxLen; omega) (by omega) (Nat.le_refl _)
    exact ⟨v', w', hr, Loc.ofOwn (base := w.heap.size) (by simpa using ho) hB hlo hsx, ⟨hgr.os, hgr.tape, hgr.output, hgr.size, fun k hk _ => hgr.block k hk (by simp [Value.ownBlock])⟩, (.inr fun g hg => (ho.lt g hg).1)⟩
  · by_cases hroom : l.length + 1 ≤ cap
    · have hlg : lo ≤ g := by omega
      have hr := run_append_room_cells (P := Try.prog) w 22 ty 9 i0 Try.underlying22 hi g 0 l.length cap ad 1 1 [.string x] (by rw [hz1]; rfl) hnews (by simp [Value.oneCell']) hroom (fun j hj => by
        obtain rfl : j = 0 := by simpa using hj
        rw [hz1, show 0 + l.length * 1 + 0 = l.length by omega]; exact (h6 _ (by omega)).1) (fun j hj => by
        obtain rfl : j = 0 := by simpa using hj
        rw [hz1, show 0 + l.length * 1 + 0 = l.length by omega]; exact (h6 _ (by omega)).2)
      rw [hz1, show 0 + l.length * 1 = l.length by omega] at hr
      have hcell : (w.cell? ⟨g, l.length, none⟩).isSome = true := (h6 _ (by omega)).1
      refine ⟨_, _, hr, ⟨hsx, .inr ⟨g, cap, by simp, h1, by simpa [World.setCells] using h2, by simpa using hroom, h4, .inr hlg, fun i hi => ?_, fun i hi => ?_⟩⟩, ?_⟩
      · show ((w.setCell ⟨g, l.length, none⟩ (.string x)).cell? ⟨g, i, none⟩).isSome = true ∧ (w.setCell ⟨g, l.length, none⟩ (.string x)).frozen? ⟨g, i, none⟩ = false
        refine ⟨?_, by rw [World.frozen?_setCell]; exact (h6 i hi).2⟩
        by_cases he : i = l.length
        · subst he; rw [World.cell?_setCell_same' _ _ _ hcell]; rfl
        · rw [cell_other _ _ _ _ (by intro e; cases e; exact he rfl)]; exact (h6 i hi).1
      · show (w.setCell ⟨g, l.length, none⟩ (.string x)).cell? ⟨g, i, none⟩ = _
        by_cases he : i = l.length
        · subst he; rw [World.cell?_setCell_same' _ _ _ hcell]; simp
        · have hil : i < l.length := by simp at hi; omega
          rw [cell_other _ _ _ _ (by intro e; cases e; exact he rfl), h7 i hil, List.getElem_append_left hil]
      · exact ⟨(But.refl _ w).setCell (p := ⟨g, l.length, none⟩) ⟨rfl, hlg, h1⟩ _, .inl rfl⟩
    · obtain ⟨v', w', hr, ho, hgr⟩ := run_append_arg_grows (P := Try.prog) w 22 ty 9 i0 _ 1 16 Try.underlying22 hi hz0 hz1 hz2 rfl (by decide) ⟨g, 0, none⟩ l.length cap (l.map Value.string) (by simp) (fun j u hu => by
        rw [Addr.add_lit, Nat.zero_add]
        have hj : j < l.length := by have := (List.getElem?_eq_some_iff.1 hu).1; simpa using this
        rw [List.getElem?_map, List.getElem?_eq_getElem hj] at hu
        simp at hu; subst hu; exact h7 j hj) ad 1 1 [.string x] rfl hnews (by omega) (by unfold maxLen; omega) (by omega)
      exact ⟨v', w', hr, Loc.ofOwn (base := w.heap.size) (by simpa using ho) hB hlo hsx, ⟨hgr.os, hgr.tape, hgr.output, hgr.size, fun k hk _ => hgr.block k hk (by simp)⟩, (.inr fun g hg => (ho.lt g hg).1)⟩


/-- Strings behind a row of one's own. -/
theorem own_strs {F : Nat → Prop} {w W : World} {l : List ByteArray} {lv : Value} (hr : RdStrs F w l lv) (hF : Inn F w) (hW : Below w.heap.size w W) {v : Value} {n lo : Nat} {olds : List Value} (hown : W.ownsRow lo 9 1 v n olds) (hv : v ≠ .slice none 0 0) (hlo : lo ≤ W.heap.size) (hn : n + l.length ≤ 10000000) (ty : TypeId) :
    ∃ v' w', (Builtin.append_ #[22, 22] ty #[v, lv]).run Try.prog W = .ok v' w' ∧ w'.ownsRow lo 9 1 v' (n + l.length) (olds ++ l.map Value.string) ∧ v' ≠ .slice none 0 0 ∧ Below lo W w' := by
  obtain ⟨i0, hi, hz0, hz1, hz2⟩ := info_parts Try.infoStr
  obtain ⟨c, ⟨a, cap, rfl, hlc, hcm, hel⟩, hrow⟩ := hr
  have hlow : ∀ g, v.ownBlock = some g → lo ≤ g := fun g hg => (ownsRow_in hown g hg).1
  have hcc : ∀ i (hi : i < l.length), c i 0 = .string l[i] := fun i hi => by simpa [rowCells] using (hrow i hi).2
  by_cases h0 : l.length = 0
  · have hl0 : l = [] := List.eq_nil_of_length_eq_zero h0
    subst hl0
    refine ⟨v, W, ?_, by simpa using hown, hv, (Below.refl _ _).mono hlo⟩
    rcases hown.2 with ⟨e, _⟩ | ⟨g, cp, cur, e, h1, h2, h3, h4, h5, h6⟩
    · exact absurd e hv
    · subst e
      cases a <;> simp [Builtin.append_, run_underlying Try.underlying22, sizeOf, typeInfo, hi, Builtin.lenOf, Builtin.firstCells, storeCells, loadCells, loadCellsFrom, h3]
  · obtain ⟨b, off, rfl, hFb, hce⟩ := hel (by omega)
    have hbl := hW.block b (hF b hFb)
    obtain ⟨v', w', hrun, ho, hgr, hiff⟩ := run_append_own (P := Try.prog) (w := W) lo 22 ty 9 i0 _ 1 16 Try.underlying22 hi hz0 hz1 hz2 rfl (by decide) v n olds hown ⟨b, off, none⟩ l.length cap (l.map Value.string) (by simp) (fun j u hj => by
      rw [List.getElem?_map] at hj
      have hjl : j < l.length := by
        by_cases h : j < l.length
        · exact h
        · rw [List.getElem?_eq_none (by omega)] at hj; cases hj
      rw [List.getElem?_eq_getElem hjl] at hj
      simp only [Option.map_some, Option.some.injEq] at hj
      subst hj
      have := hce j hjl 0 (by omega)
      rw [hcc j hjl] at this
      rw [Addr.add_lit]
      refine (World.cell?_of_block (w := w) (w' := W) (a := ⟨b, off + j, none⟩) hbl).trans ?_
      simpa using this) (fun u hu => by
      obtain ⟨j, hj, rfl⟩ := List.mem_map.1 hu
      rfl) (by unfold maxLen; omega) (by omega) hlo
    refine ⟨v', w', hrun, ho, fun e => hv (hiff.1 e).1, ⟨hgr.os, hgr.tape, hgr.output, hgr.size, fun k hk => hgr.block k (Nat.lt_of_lt_of_le hk hlo) (fun e => by have := hlow k e.symm; omega)⟩⟩
theorem own_empty_str (w : World) (lo : Nat) (h : lo ≤ w.heap.size) : (w.alloc (.cells #[] 9)).ownsRow lo 9 1 (.slice (some ⟨w.heap.size, 0, none⟩) 0 0) 0 [] := ⟨rfl, .inr ⟨w.heap.size, 0, #[], rfl, h, by show (w.heap.push _)[w.heap.size]? = _; simp, Nat.le_refl _, Nat.zero_le _, rfl, rfl⟩⟩
end Go.Proofs.Ytblhpiebheommaa
/- Chapter 16's example: what its table of names tells; the walks of example and named. -/
namespace Go.Proofs.Ytblhpiebheommaa
open Go.RowKit

def bX : ByteArray := { data := #[120] }
def bA : ByteArray := { data := #[97] }
def bC : ByteArray := { data := #[99] }
def bWorn : ByteArray := { data := #[119, 111, 114, 110] }
def bHall : ByteArray := { data := #[104, 97, 108, 108] }
def bHallT : ByteArray := { data := #[72, 97, 108, 108] }
def exO : ObjD := ⟨bHall, bHallT, ⟨#[]⟩, ⟨#[]⟩, true, [], [], [], [], []⟩
def exS : SrcD := ⟨⟨#[]⟩, ⟨#[]⟩, bHall, 0, 0, [bWorn], [], [], [exO], [], [], [], []⟩

theorem findN_no {t : List NameD} {n : ByteArray} (h : ∀ y ∈ t, y.name ≠ n) : findN t n = none := List.find?_eq_none.2 fun y hy => by simpa using h y hy

theorem name_worn : IsName bWorn := by
  refine ⟨by decide, by decide, ⟨by decide, by decide⟩, fun i hi => ?_⟩
  have hi2 : i < 4 := hi
  match i, hi2 with
  | 0, _ => exact Or.inl ⟨by show 97 ≤ (119 : UInt8).toNat; decide, by show (119 : UInt8).toNat ≤ 122; decide⟩
  | 1, _ => exact Or.inl ⟨by show 97 ≤ (111 : UInt8).toNat; decide, by show (111 : UInt8).toNat ≤ 122; decide⟩
  | 2, _ => exact Or.inl ⟨by show 97 ≤ (114 : UInt8).toNat; decide, by show (114 : UInt8).toNat ≤ 122; decide⟩
  | 3, _ => exact Or.inl ⟨by show 97 ≤ (110 : UInt8).toNat; decide, by show (110 : UInt8).toNat ≤ 122; decide⟩
theorem name_hall : IsName bHall := by
  refine ⟨by decide, by decide, ⟨by decide, by decide⟩, fun i hi => ?_⟩
  have hi2 : i < 4 := hi
  match i, hi2 with
  | 0, _ => exact Or.inl ⟨by show 97 ≤ (104 : UInt8).toNat; decide, by show (104 : UInt8).toNat ≤ 122; decide⟩
  | 1, _ => exact Or.inl ⟨by show 97 ≤ (97 : UInt8).toNat; decide, by show (97 : UInt8).toNat ≤ 122; decide⟩
  | 2, _ => exact Or.inl ⟨by show 97 ≤ (108 : UInt8).toNat; decide, by show (108 : UInt8).toNat ≤ 122; decide⟩
  | 3, _ => exact Or.inl ⟨by show 97 ≤ (108 : UInt8).toNat; decide, by show (108 : UInt8).toNat ≤ 122; decide⟩
theorem key_worn : ¬ IsKey bWorn := by unfold IsKey; decide +kernel
theorem key_hall : ¬ IsKey bHall := by unfold IsKey; decide +kernel

noncomputable def exT : List NameD := putN (putN namesStart ⟨bWorn, 1, 4⟩) ⟨bHall, 4, 2⟩
theorem exT_mem {y : NameD} : y ∈ exT ↔ y = ⟨bHall, 4, 2⟩ ∨ y = ⟨bWorn, 1, 4⟩ ∨ y ∈ namesStart := by unfold exT; rw [putN_mem, putN_mem]
theorem start_ne (n : ByteArray) (h : namesStart.all (fun y => decide (y.name ≠ n)) = true) : ∀ y ∈ namesStart, y.name ≠ n := fun y hy => by
  have := List.all_eq_true.1 h y hy
  simpa using this
theorem exT_made : mkT exS.ents namesStart = some exT := by
  show mkT [⟨bWorn, 1, 2, 0, 4, 12⟩, ⟨bHall, 4, 5, 0, 2, 126⟩] namesStart = _
  unfold mkT
  rw [if_pos (dec_true ⟨name_worn, key_worn, findN_no (start_ne _ (by decide)), by decide⟩)]
  unfold mkT
  rw [if_pos (dec_true ⟨name_hall, key_hall, findN_no (fun y hy => by
    rcases putN_mem.1 hy with rfl | hy
    · decide
    · exact start_ne _ (by decide) y hy), by decide⟩)]
  rfl
theorem exT_rises : Rises exT := (mkT_ok _ _ _ exT_made start_rises).1
theorem exT_len : exT.length = 6 := (mkT_ok _ _ _ exT_made start_rises).2.1
theorem exT_fit : NamesFit exT := fun y hy => by
  rcases exT_mem.1 hy with rfl | rfl | hy
  · exact ⟨by unfold maxLen; decide, by simp only [I64]; omega, by simp only [I64]; omega⟩
  · exact ⟨by unfold maxLen; decide, by simp only [I64]; omega, by simp only [I64]; omega⟩
  · simp only [namesStart, List.mem_cons, List.not_mem_nil, or_false] at hy
    rcases hy with rfl | rfl | rfl | rfl <;> exact ⟨by unfold maxLen; decide, by simp only [I64]; omega, by simp only [I64]; omega⟩
theorem exT_tab : TabOk exT [] 1 := fun y hy => by
  rcases exT_mem.1 hy with rfl | rfl | hy
  · exact ⟨fun h => absurd h (by decide), fun _ => by decide⟩
  · exact ⟨fun h => absurd h (by decide), fun h => absurd h (by decide)⟩
  · simp only [namesStart, List.mem_cons, List.not_mem_nil, or_false] at hy
    rcases hy with rfl | rfl | rfl | rfl <;> exact ⟨fun h => absurd h (by decide), fun h => absurd h (by decide)⟩
theorem exT_no (n : ByteArray) (h1 : bHall ≠ n) (h2 : bWorn ≠ n) (h : namesStart.all (fun y => decide (y.name ≠ n)) = true) : findN exT n = none := findN_no fun y hy => by
  rcases exT_mem.1 hy with rfl | rfl | hy
  · exact h1
  · exact h2
  · exact start_ne _ h y hy
theorem exT_x : findN exT bX = none := exT_no _ (by decide) (by decide) (by decide)
theorem exT_a : findN exT bA = none := exT_no _ (by decide) (by decide) (by decide)
theorem exT_worn : findN exT bWorn = some ⟨bWorn, 1, 4⟩ := exT_rises.find (x := ⟨bWorn, 1, 4⟩) (exT_mem.2 (.inr (.inl rfl)))
theorem exT_hall : findN exT bHall = some ⟨bHall, 4, 2⟩ := exT_rises.find (x := ⟨bHall, 4, 2⟩) (exT_mem.2 (.inl rfl))

def exName (n : ByteArray) : Ex := .mk 3 0 0 n []
def exOne : Ex := .mk 1 0 1 ⟨#[]⟩ []
def exLet : St := .mk 2 0 bA [exOne] [] []
def exStop : St := .mk 13 0 ⟨#[]⟩ [] [] []
def exEach : St := .mk 11 0 bC [exOne] [exLet] []

theorem ex_w_x : (exName bX).kW exT [] [] = (11, bX) := by
  show seqW (ownEx exT [] [] 3 bX 0) fineW = _
  have : ownEx exT [] [] 3 bX 0 = (11, bX) := by
    show eitherW exT [] [3, 4] bX = _
    unfold eitherW
    rw [if_neg (by rw [dec_false (by simp)]; decide), exT_x]
  rw [this]; rfl
theorem ex_w_worn : (exName bWorn).kW exT [] [] = (12, bWorn) := by
  show seqW (ownEx exT [] [] 3 bWorn 0) fineW = _
  have : ownEx exT [] [] 3 bWorn 0 = (12, bWorn) := by
    show eitherW exT [] [3, 4] bWorn = _
    unfold eitherW
    rw [if_neg (by rw [dec_false (by simp)]; decide), exT_worn]
    rfl
  rw [this]; rfl
theorem ex_w_lets : St.kWs exT [] 7 [] 0 [exLet, exLet] = (10, bA) := by
  rw [St.kWs_cons, St.kWs_cons]
  show seqW fineW (seqW (freshW exT [] bA (0 + 1)) (seqW fineW (seqW fineW (seqW fineW (seqW (freshW exT [bA] bA (0 + 1 + 0 + 0 + 1)) _))))) = _
  have h1 : freshW exT [] bA (0 + 1) = fineW := by
    unfold freshW
    rw [exT_a, dec_false (by simp)]; rfl
  have h2 : freshW exT [bA] bA (0 + 1 + 0 + 0 + 1) = (10, bA) := by
    unfold freshW
    rw [exT_a, dec_true (by simp)]; rfl
  rw [h1, h2]; rfl
theorem ex_w_stop : St.kWs exT [] 8 [] 0 [exStop] = (18, ⟨#[]⟩) := by
  rw [St.kWs_cons]
  rfl
theorem ex_locs : St.locsL [exEach] = 3 := by rfl
theorem ex_room : roomW exT [exO] bHall = fineW := by
  have : ofN exT 4 bHall = (2, 0) := by unfold ofN; rw [exT_hall]; rfl
  unfold roomW
  rw [this]; rfl
end Go.Proofs.Ytblhpiebheommaa
/- The walks of clewlaw16's example and named. -/
namespace Go.Proofs.Ytblhpiebheommaa
open Go.RowKit

def exSS (a b : Nat) : List Value := [.string ⟨#[]⟩, .string ⟨#[]⟩, .string { data := #[104, 97, 108, 108] }, .int .i64 0, .int .i64 0, .slice (some ⟨a, 0, none⟩) 1 1, .slice none 0 0, .slice none 0 0, .slice (some ⟨b, 0, none⟩) 1 1, .slice none 0 0, .slice none 0 0, .slice none 0 0, .slice none 0 0]
def exOO : List Value := [.string { data := #[104, 97, 108, 108] }, .string { data := #[72, 97, 108, 108] }, .string ⟨#[]⟩, .string ⟨#[]⟩, .bool true, .slice none 0 0, .slice none 0 0, .slice none 0 0, .slice none 0 0, .slice none 0 0]
theorem exS_held {F : Nat → Prop} {w : World} {a b : Nat} (ha : F a) (hb : F b) (h1 : Bx w a [.string { data := #[119, 111, 114, 110] }]) (h2 : Bx w b exOO) : Holds.src.R F w exS (exSS a b) := by
  have hn : ∀ {α : Type} (R : Holds α) (sz : Nat), RdL R sz F w [] (.slice none 0 0) := fun R sz => RdL.nil R sz F w none 0 (Nat.zero_le _)
  refine ⟨by unfold maxLen; decide, by unfold maxLen; decide, by unfold maxLen; decide, by simp only [I64]; decide, by simp only [I64]; decide, _, _, _, _, _, _, _, _, rfl, ?_, hn _ _, hn _ _, ?_, hn _ _, hn _ _, hn _ _, hn _ _⟩
  · refine ⟨fun _ _ => .string { data := #[119, 111, 114, 110] }, ⟨_, _, rfl, Nat.le_refl _, by unfold maxLen; decide, fun _ => ⟨a, 0, rfl, ha, fun i hi j hj => ?_⟩⟩, fun i hi => ?_⟩
    · have hi2 : i < 1 := hi
      obtain rfl : i = 0 := by omega
      obtain rfl : j = 0 := by omega
      exact h1 0 (by simp)
    · have hi2 : i < 1 := hi
      obtain rfl : i = 0 := by omega
      exact ⟨show bWorn.size ≤ maxLen by unfold maxLen; decide, rfl⟩
  · refine ⟨fun _ j => exOO.getD j undef, ⟨_, _, rfl, Nat.le_refl _, by unfold maxLen; decide, fun _ => ⟨b, 0, rfl, hb, fun i hi j hj => ?_⟩⟩, fun i hi => ?_⟩
    · have hi2 : i < 1 := hi
      obtain rfl : i = 0 := by omega
      rw [show 0 + 0 * 10 + j = j by omega, h2 j hj]
      show _ = some (exOO.getD j undef)
      rw [List.getD_eq_getElem?_getD, List.getElem?_eq_getElem (show j < exOO.length from hj)]
      rfl
    · have hi2 : i < 1 := hi
      obtain rfl : i = 0 := by omega
      exact ⟨show bHall.size ≤ maxLen by unfold maxLen; decide, show bHallT.size ≤ maxLen by unfold maxLen; decide, Nat.zero_le _, Nat.zero_le _, _, _, _, _, _, rfl, hn _ _, hn _ _, hn _ _, hn _ _, hn _ _⟩

def ExPost (w : World) (e : Ending) (w' : World) : Prop := ∃ a b, e = .returned (.agg (exSS a b).toArray) ∧ Holds.src.R (NewB w.heap.size w'.heap.size) w' exS (exSS a b) ∧ Below w.heap.size w w'

set_option maxRecDepth 100000 in
set_option maxHeartbeats 2000000 in
theorem example_calls (w : World) : Calls Try.prog 30 #[] w (ExPost w) := by
  go_enter Try.func30, Try.ntmps30
  go_wp2
  refine bodyPost_ret (v := .agg (exSS (w.heap.size + 1) (w.heap.size + 1 + 1)).toArray) (by simp [results, Try.results30, go_sem, exSS]; try rfl) rfl ⟨w.heap.size + 1, w.heap.size + 1 + 1, rfl, exS_held ⟨by omega, by simp⟩ ⟨by omega, by simp⟩ ?_ ?_, (((Below.refl _ w).alloc (Nat.le_refl _) _).alloc (by simp) _).alloc (by simp <;> omega) _⟩
  · exact (bx_new _ _ _ _ (by simp)).alloc (by simp) _
  · exact bx_new _ _ _ _ (by simp)

set_option maxRecDepth 100000 in
set_option maxHeartbeats 2000000 in
theorem named_calls (n : ByteArray) (w : World) : Calls Try.prog 31 #[.string n] w (Gives w (.agg #[.int .i64 3, .int .i64 0, .int .i64 0, .string n, .slice none 0 0])) := by
  go_enter Try.func31, Try.ntmps31
  go_wp2
  exact bodyPost_ret (v := .agg #[.int .i64 3, .int .i64 0, .int .i64 0, .string n, .slice none 0 0]) (by simp [results, Try.results31, go_sem]; try rfl) rfl ⟨rfl, (Below.refl _ w).alloc (Nat.le_refl _) _⟩
end Go.Proofs.Ytblhpiebheommaa
/- The walk of clewlaw16.awake: chapter 16's examples hold. -/
namespace Go.Proofs.Ytblhpiebheommaa
open Go.RowKit Go.Sort

/-- What the example has built. -/
structure AwK (w W : World) (b1 bo : Nat) (tv : Value) (ss : List Value) : Prop where
  bel : Below w.heap.size w W
  box : BoxAt W b1 ss
  one : BoxAt W bo [.int .i64 1, .int .i64 0, .int .i64 1, .string ⟨#[]⟩, .slice none 0 0]
  tab : RdNames (fun b => b < W.heap.size) W exT tv
  src : Holds.src.R (fun b => b < W.heap.size) W exS ss
theorem AwK.below {w W W' : World} {b1 bo : Nat} {tv : Value} {ss : List Value} (h : AwK w W b1 bo tv ss) (hb : Below W.heap.size W W') : AwK w W' b1 bo tv ss :=
  ⟨h.bel.trans (hb.mono h.bel.size), h.box.below hb h.box.1, h.one.below hb h.one.1, h.tab.keep (fun b hb' => hb.block b hb') (fun _ hb' => Nat.lt_of_lt_of_le hb' hb.size), Holds.src.keep (fun b hb' => hb.block b hb') (fun _ hb' => Nat.lt_of_lt_of_le hb' hb.size) h.src⟩
theorem AwK.exs {w W : World} {b1 bo : Nat} {tv : Value} {ss : List Value} (h : AwK w W b1 bo tv ss) : Exs (fun b => b < W.heap.size) W [exOne] (.slice (some ⟨bo, 0, none⟩) 1 1) := exs_one (F := fun b => b < W.heap.size) (w := W) (b := bo) (hF := h.one.1) (fun j hj => h.one.2 j hj) (rd_ex (i64 1) (i64 0) (i64 1) (Nat.zero_le _) (exs_nil _ _))

theorem gives_wrong {P : Program} {k : Nat} {args : Array Value} {W : World} {p : Int × ByteArray} {er : Int} {n : ByteArray} (h : Calls P k args W (GivesWrong W p)) (hp : p = (er, n)) (h0 : er ≠ 0) : Calls P k args W (Gives W (.tuple #[.int .i64 er, .string n])) :=
  h.mono fun e w' ⟨nm, h1, _, h3, h4⟩ => by
    subst hp
    have := h3 h0
    subst this
    exact ⟨h1, h4⟩

theorem aw_expr {w W : World} {b1 bo : Nat} {tv : Value} {ss : List Value} (h : AwK w W b1 bo tv ss) (n : ByteArray) (er : Int) (hn : n.size ≤ maxLen) (hk : (exName n).kW exT [] [] = (er, n)) (h0 : er ≠ 0) :
    Calls Try.prog 11 #[tv, .agg ss.toArray, .slice none 0 0, .agg #[.int .i64 3, .int .i64 0, .int .i64 0, .string n, .slice none 0 0]] W (Gives W (.tuple #[.int .i64 er, .string n])) :=
  gives_wrong (kExpr_calls exT exS [] (exName n) (fun b => b < W.heap.size) W tv (.slice none 0 0) ss [.int .i64 3, .int .i64 0, .int .i64 0, .string n, .slice none 0 0] (fun _ h => h) exT_rises (by rw [exT_len]; decide) exT_tab h.tab h.src (RdL.nil _ _ _ _ _ _ (Nat.zero_le _)) (rd_ex (i64 3) (i64 0) (i64 0) hn (exs_nil _ _))) hk h0

theorem aw_block {w W : World} {b1 bo : Nat} {tv : Value} {ss : List Value} (h : AwK w W b1 bo tv ss) (wh : Int) (L : List St) (Lv : Value) (n : ByteArray) (er : Int) (hL : Sts (fun b => b < W.heap.size) W L Lv) (hk : St.kWs exT [] wh [] 0 L = (er, n)) (h0 : er ≠ 0) :
    Calls Try.prog 15 #[tv, .agg ss.toArray, .slice none 0 0, .int .i64 wh, Lv] W (Gives W (.tuple #[.int .i64 er, .string n])) :=
  gives_wrong (kBlock_calls exT exS [] wh L (fun b => b < W.heap.size) W tv (.slice none 0 0) Lv ss (fun _ h => h) exT_rises (by rw [exT_len]; decide) exT_tab (by simp) h.tab h.src (RdL.nil _ _ _ _ _ _ (Nat.zero_le _)) hL) hk h0

theorem aw_check {w W : World} {b1 bo : Nat} {tv : Value} {ss : List Value} (h : AwK w W b1 bo tv ss) :
    Calls Try.prog 20 #[.agg ss.toArray, tv] W (Gives W (.agg #[.int .i64 0, .int .i64 0, .int .i64 0, .string ⟨#[]⟩])) := by
  have hF : Inn (fun b => b < W.heap.size) W := fun _ h => h
  have := kCheck_calls exT exS (fun _ _ => fineW) (fun b => b < W.heap.size) W tv ss hF h.tab h.src (fun p i W' hp hi hW => by
    have hT := RdL.below h.tab hF hW (Nat.le_refl _)
    have hS := Holds.below _ h.src hF hW (Nat.le_refl _)
    have hI := hF.below hW
    simp only [parts6, List.mem_cons, List.not_mem_nil, or_false] at hp
    rcases hp with rfl | rfl | rfl | rfl | rfl | rfl
    · refine chk1_calls exT exS i fineW _ W' tv ss hT hS fun W2 hW2 => ?_
      have := room_calls exT exS bHall _ W2 tv ss (hI.below hW2) exT_rises (by rw [exT_len]; decide) exT_tab (RdL.below hT hI hW2 (Nat.le_refl _)) (Holds.below _ hS hI hW2 (Nat.le_refl _))
      rw [show exS.objects = [exO] from rfl, ex_room] at this
      exact this
    · refine chk5_calls exT exS i fineW _ W' tv ss hT hS fun W2 hW2 => ?_
      have hi1 : i < 1 := hi
      obtain rfl : i = 0 := by omega
      exact obare_calls exT exS 0 _ W2 tv ss (hI.below hW2) (RdL.below hT hI hW2 (Nat.le_refl _)) (Holds.below _ hS hI hW2 (Nat.le_refl _)) (by decide) ⟨rfl, rfl, rfl, rfl, rfl, rfl⟩
    · exact absurd hi (Nat.not_lt_zero _)
    · exact absurd hi (Nat.not_lt_zero _)
    · exact absurd hi (Nat.not_lt_zero _)
    · exact absurd hi (Nat.not_lt_zero _))
  exact this

theorem aw_locs {W : World} (Lv : Value) (hL : Sts (fun b => b < W.heap.size) W [exEach] Lv) :
    Calls Try.prog 17 #[Lv] W (Gives W (.int .i64 3)) := by
  have := locsT_calls [exEach] (fun b => b < W.heap.size) W Lv (fun _ h => h) (by decide) hL
  rwa [ex_locs] at this
end Go.Proofs.Ytblhpiebheommaa
