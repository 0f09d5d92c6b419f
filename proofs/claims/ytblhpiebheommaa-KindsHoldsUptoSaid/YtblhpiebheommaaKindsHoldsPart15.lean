/- The memory that kinds' checker turns: its own cells, the locals that it carries; its method make. -/
import Derived.Test.YtblhpiebheommaaKindsHoldsPart14
import Derived.Deep.RegionLawGrows
import Derived.Laws.AppendOwnNone
import Derived.Test.YtblhpiebheommaaKindsHoldsPart12
import Derived.Deep.RegionHeld
import Derived.StillTailTactics
namespace Go.Proofs.Ytblhpiebheommaa
open Go.RowKit

theorem cell_other (w : World) (a b : Addr) (v : Value) (h : a ≠ b) : (w.setCell a v).cell? b = w.cell? b := by
  apply World.cell?_setCell_other
  exact h

/-- All blocks but those of S are as they were. -/
structure But (S : Nat → Prop) (w w' : World) : Prop where
  os : w'.os = w.os
  tape : w'.tape = w.tape
  output : w'.output = w.output
  size : w.heap.size ≤ w'.heap.size
  block : ∀ k, k < w.heap.size → ¬ S k → w'.heap[k]? = w.heap[k]?
theorem But.refl (S : Nat → Prop) (w : World) : But S w w := ⟨rfl, rfl, rfl, Nat.le_refl _, fun _ _ _ => rfl⟩
theorem But.trans {S : Nat → Prop} {a b c : World} (h : But S a b) (k : But S b c) : But S a c := ⟨k.os.trans h.os, k.tape.trans h.tape, k.output.trans h.output, Nat.le_trans h.size k.size, fun i hi hn => (k.block i (Nat.lt_of_lt_of_le hi h.size) hn).trans (h.block i hi hn)⟩
theorem But.mono {S T : Nat → Prop} {w w' : World} (h : But S w w') (hS : ∀ k, k < w.heap.size → S k → T k) : But T w w' := ⟨h.os, h.tape, h.output, h.size, fun k hk hn => h.block k hk fun hs => hn (hS k hk hs)⟩
theorem But.ofBelow {S : Nat → Prop} {w w' : World} (h : Below w.heap.size w w') : But S w w' := ⟨h.os, h.tape, h.output, h.size, fun k hk _ => h.block k hk⟩
theorem But.toBelow {S : Nat → Prop} {B : Nat} {w w' : World} (h : But S w w') (hB : B ≤ w.heap.size) (hS : ∀ k, S k → B ≤ k) : Below B w w' := ⟨h.os, h.tape, h.output, h.size, fun k hk => h.block k (by omega) fun hs => by have := hS k hs; omega⟩
theorem But.setCell {S : Nat → Prop} {a w : World} (h : But S a w) {p : Addr} (hp : S p.block) (u : Value) : But S a (w.setCell p u) :=
  h.trans ⟨rfl, rfl, rfl, by simp [World.setCell], fun k _ hn => Below.heap_setCell _ _ _ _ (fun e => hn (e ▸ hp))⟩
theorem But.drew {S : Nat → Prop} {a w : World} (h : But S a w) : But S a w.drew := ⟨h.os, h.tape, h.output, h.size, h.block⟩
theorem But.alloc {S : Nat → Prop} {a w : World} (h : But S a w) (o : Obj) : But S a (w.alloc o) := h.trans (.ofBelow ((Below.refl _ w).alloc (Nat.le_refl _) o))

/-- The checker's own cells 14 (its locals) and 16 (how many it has made) may have turned, and blocks of S. -/
structure Turn (B : Nat) (S : Nat → Prop) (w w' : World) : Prop where
  but : But (fun k => k = B ∨ S k) w w'
  cells : ∀ j, j ≠ 14 → j ≠ 16 → w'.cell? ⟨B, j, none⟩ = w.cell? ⟨B, j, none⟩
  frozen : ∀ j, w'.frozen? ⟨B, j, none⟩ = w.frozen? ⟨B, j, none⟩
theorem Turn.refl (B : Nat) (S : Nat → Prop) (w : World) : Turn B S w w := ⟨.refl _ _, fun _ _ _ => rfl, fun _ => rfl⟩
theorem Turn.trans {B : Nat} {S : Nat → Prop} {a b c : World} (h : Turn B S a b) (k : Turn B S b c) : Turn B S a c := ⟨h.but.trans k.but, fun j h1 h2 => (k.cells j h1 h2).trans (h.cells j h1 h2), fun j => (k.frozen j).trans (h.frozen j)⟩
theorem Turn.mono {B : Nat} {S T : Nat → Prop} {w w' : World} (h : Turn B S w w') (hS : ∀ k, k < w.heap.size → S k → T k) : Turn B T w w' := ⟨h.but.mono fun k hk hs => hs.imp id (hS k hk), h.cells, h.frozen⟩
theorem Turn.ofBelow {B : Nat} {S : Nat → Prop} {w w' : World} (h : Below w.heap.size w w') (hB : B < w.heap.size) : Turn B S w w' := ⟨.ofBelow h, fun j _ _ => h.cell (p := ⟨B, j, none⟩) hB, fun j => h.frozen (p := ⟨B, j, none⟩) hB⟩
theorem Turn.drew {B : Nat} {S : Nat → Prop} {a w : World} (h : Turn B S a w) : Turn B S a w.drew := ⟨h.but.drew, h.cells, h.frozen⟩
theorem Turn.store {B : Nat} {S : Nat → Prop} {a w : World} (h : Turn B S a w) {j : Nat} (hj : j = 14 ∨ j = 16) (u : Value) : Turn B S a (w.setCell ⟨B, j, none⟩ u) := by
  refine ⟨h.but.setCell (p := ⟨B, j, none⟩) (.inl rfl) u, fun i h1 h2 => ?_, fun i => ?_⟩
  · rw [← h.cells i h1 h2]
    exact cell_other _ _ _ _ (by intro e; cases e; omega)
  · rw [← h.frozen i]
    simp
theorem Turn.toBelow {B B' : Nat} {S : Nat → Prop} {w w' : World} (h : Turn B S w w') (hB : B' ≤ w.heap.size) (h0 : B' ≤ B) (hS : ∀ k, S k → B' ≤ k) : Below B' w w' := h.but.toBelow hB fun k hk => hk.elim (fun e => e ▸ h0) (hS k)

/-- The locals that the checker carries: an array of its own making; where it has spare cells these are the running block's. -/
def Loc (B lo : Nat) (w : World) (l : List ByteArray) (v : Value) : Prop :=
  (∀ x ∈ l, x.size ≤ maxLen) ∧ ((v = .slice none 0 0 ∧ l = []) ∨ ∃ g cap, v = .slice (some ⟨g, 0, none⟩) l.length cap ∧ B < g ∧ g < w.heap.size ∧ l.length ≤ cap ∧ cap ≤ maxLen ∧ (cap = l.length ∨ lo ≤ g) ∧ (∀ i, i < cap → (w.cell? ⟨g, i, none⟩).isSome = true ∧ w.frozen? ⟨g, i, none⟩ = false) ∧ ∀ i (h : i < l.length), w.cell? ⟨g, i, none⟩ = some (.string l[i]))
theorem Loc.keep {B lo lo' : Nat} {w w' : World} {l : List ByteArray} {v : Value} (h : Loc B lo w l v) (hw : ∀ g, v.ownBlock = some g → g < w.heap.size → B < g → w'.heap[g]? = w.heap[g]?) (hs : w.heap.size ≤ w'.heap.size) (hlo : lo' ≤ lo) : Loc B lo' w' l v := by
  refine ⟨h.1, ?_⟩
  rcases h.2 with h | ⟨g, cap, rfl, h1, h2, h3, h4, h5, h6, h7⟩
  · exact .inl h
  · have hb := hw g rfl h2 h1
    exact .inr ⟨g, cap, rfl, h1, by omega, h3, h4, h5.imp id (by omega), fun i hi => ⟨by rw [World.cell?_of_block (w := w) hb]; exact (h6 i hi).1, by rw [World.frozen?_of_block (w := w) hb]; exact (h6 i hi).2⟩, fun i hi => by rw [World.cell?_of_block (w := w) hb]; exact h7 i hi⟩
theorem Loc.nil (B lo : Nat) (w : World) : Loc B lo w [] (.slice none 0 0) := ⟨by simp, .inl ⟨rfl, rfl⟩⟩
theorem Loc.shape {B lo : Nat} {w : World} {l : List ByteArray} {v : Value} (h : Loc B lo w l v) : ∃ a cap, v = .slice a l.length cap ∧ l.length ≤ cap := by
  rcases h.2 with ⟨rfl, rfl⟩ | ⟨g, cap, rfl, h1, h2, h3, h4, h5, h6, h7⟩
  · exact ⟨_, _, rfl, Nat.le_refl _⟩
  · exact ⟨_, _, rfl, h3⟩
/-- Read as any slice of strings. -/
theorem Loc.rd {B lo : Nat} {w : World} {l : List ByteArray} {v : Value} (h : Loc B lo w l v) {F : Nat → Prop} (hF : ∀ b, B < b → b < w.heap.size → F b) : RdStrs F w l v := by
  rcases h.2 with ⟨rfl, rfl⟩ | ⟨g, cap, rfl, h1, h2, h3, h4, h5, h6, h7⟩
  · exact RdL.nil _ _ _ _ _ _ (Nat.zero_le _)
  · refine ⟨fun i _ => .string (l.getD i ⟨#[]⟩), ⟨_, _, rfl, h3, h4, fun h0 => ⟨g, 0, rfl, hF g h1 h2, fun i hi j hj => ?_⟩⟩, fun i hi => ⟨h.1 _ (List.getElem_mem hi), ?_⟩⟩
    · obtain rfl : j = 0 := by omega
      rw [show 0 + i * 1 + 0 = i by omega, h7 i hi]; simp [hi]
    · simp [rowCells, hi]
theorem Loc.ofOwn {B lo base : Nat} {w : World} {l : List ByteArray} {v : Value} (h : w.ownsRow base 9 1 v l.length (l.map Value.string)) (hB : B < base) (hlo : lo ≤ base) (hs : ∀ x ∈ l, x.size ≤ maxLen) : Loc B lo w l v := by
  refine ⟨hs, ?_⟩
  rcases h.2 with ⟨rfl, h0⟩ | ⟨g, cap, cur, rfl, h1, h2, h3, h4, h5, h6⟩
  · exact .inl ⟨rfl, List.eq_nil_of_length_eq_zero h0⟩
  · refine .inr ⟨g, cap, rfl, by omega, (Array.getElem?_eq_some_iff.1 h2).1, h3, h4, .inr (by omega), fun i hi => ?_, fun i hi => ?_⟩
    · have : i < cur.size := by omega
      simp [World.cell?, World.frozen?, h2, this]
    · have := h.cells (g := g) rfl i (.string l[i]) (by simp [hi])
      rwa [show (⟨g, 0, none⟩ : Addr).add i = ⟨g, i, none⟩ by rw [Addr.add_lit, Nat.zero_add]] at this

/-- Whence the carried locals' array: it is the one that was there (v, n locals), and there are as many locals; or one of the block's own. -/
def Whence (v : Value) (n lo : Nat) (v' : Value) (l' : List ByteArray) : Prop := (v'.ownBlock = v.ownBlock ∧ l'.length = n) ∨ ∀ g, v'.ownBlock = some g → lo ≤ g
theorem Whence.refl (v : Value) (lo : Nat) (l : List ByteArray) : Whence v l.length lo v l := .inl ⟨rfl, rfl⟩
theorem Whence.trans {v vk v' : Value} {n lo lo' : Nat} {lk l' : List ByteArray} (h : Whence v n lo vk lk) (k : Whence vk lk.length lo' v' l') (hl : lo ≤ lo') : Whence v n lo v' l' := by
  rcases k with ⟨e1, e2⟩ | k
  · rcases h with ⟨f1, f2⟩ | h
    · exact .inl ⟨e1.trans f1, e2.trans f2⟩
    · exact .inr fun g hg => h g (by rw [← e1]; exact hg)
  · exact .inr fun g hg => Nat.le_trans hl (k g hg)
theorem Whence.mono {v v' : Value} {n lo lo' : Nat} {l' : List ByteArray} (h : Whence v n lo v' l') (hl : lo' ≤ lo) : Whence v n lo' v' l' := h.imp id fun k g hg => Nat.le_trans hl (k g hg)

/-- An append in a region that draws, by its run. -/
theorem step_run {P : Program} {ops : Array Oper} {o : Oper} {a : Act} {w : World} {K : Act → World → Prop} {Q : Exit → Act → World → Prop} {E : Prop}
    (hg : o.guard = none) (s x : Operand) (t : TypeId) (hop : o.op = Op.call { callee := Callee.builtin Builtin.append, args := #[s, x], argTypes := #[t, t] })
    (v1 v2 v' : Value) (w' : World) (hs : a.eval s = v1) (hx : a.eval x = v2) (hrun : (Builtin.append_ #[t, t] o.type #[v1, v2]).run P w = .ok v' w') (hK : K (a.put o.dst v') w') :
    if Region.wanted o (yielded ops a.tmps) = true then Oper.wp P o a w K Q else E := by
  have hw : Region.wanted o (yielded ops a.tmps) = true := by simp [Region.wanted, hg]
  rw [if_pos hw]
  unfold Oper.wp
  simp [execOp, hop, resolve, invoke, builtin, hs, hx, hrun, Result.andThen]
  exact hK

theorem Try.infoStr : (Try.prog.info? 9).map (fun i => (i.zero, i.size, i.bytes)) = some (some (.string ⟨#[]⟩), 1, 16) := by kernel_rfl

/-- One more local. -/
theorem loc_one {B lo : Nat} {w : World} {l : List ByteArray} {v : Value} (h : Loc B lo w l v) (x : ByteArray) (hx : x.size ≤ maxLen) (ad : Addr) (had : w.cell? ad = some (.string x)) (hB : B < w.heap.size) (hlo : lo ≤ w.heap.size) (hl : l.length ≤ 1000000) (ty : TypeId) :
    ∃ v' w', (Builtin.append_ #[22, 22] ty #[v, .slice (some ad) 1 1]).run Try.prog w = .ok v' w' ∧ Loc B lo w' (l ++ [x]) v' ∧ But (fun b => v.ownBlock = some b ∧ lo ≤ b ∧ B < b) w w' ∧ (∀ g, v'.ownBlock = some g → lo ≤ g) := by
  obtain ⟨i0, hi, hz0, hz1, hz2⟩ := info_parts Try.infoStr
  have hnews : ∀ j u, [Value.string x][j]? = some u → w.cell? (ad.add j) = some u := by
    intro j u hj
    match j, hj with
    | 0, hj =>
      simp at hj; subst hj
      have : ad.add 0 = ad := by cases ad with | mk b o s => cases s <;> simp [Addr.add]
      rw [this]; exact had
  have hsx : ∀ y ∈ l ++ [x], y.size ≤ maxLen := by
    intro y hy
    rcases List.mem_append.1 hy with h' | h'
    · exact h.1 y h'
    · simp at h'; subst h'; exact hx
  rcases h.2 with ⟨rfl, rfl⟩ | ⟨g, cap, rfl, h1, h2, h3, h4, h5, h6, h7⟩
  · obtain ⟨v', w', hr, ho, hgr, _⟩ := run_append_own (P := Try.prog) (w := w) (w.heap.size) 22 ty 9 i0 _ 1 16 Try.underlying22 hi hz0 hz1 hz2 rfl (by decide) (.slice none 0 0) 0 [] (World.ownsRow_nil _ _ _ _) ad 1 1 [.string x] rfl hnews (by simp [Value.oneCell']) (by unfold maxLen; omega) (by omega) (Nat.le_refl _)
    exact ⟨v', w', hr, Loc.ofOwn (base := w.heap.size) (by simpa using ho) hB hlo hsx, ⟨hgr.os, hgr.tape, hgr.output, hgr.size, fun k hk _ => hgr.block k hk (by simp [Value.ownBlock])⟩, fun g hg => Nat.le_trans hlo (ho.lt g hg).1⟩
  · by_cases hroom : l.length + 1 ≤ cap
    · have hlg : lo ≤ g := by omega
      have hr := run_append_room_cells (P := Try.prog) w 22 ty 9 i0 Try.underlying22 hi g 0 l.length cap ad 1 1 [.string x] (by rw [hz1]; rfl) hnews (by simp [Value.oneCell']) hroom (fun j hj => by
        obtain rfl : j = 0 := by simpa using hj
        rw [hz1, show 0 + l.length * 1 + 0 = l.length by omega]; exact (h6 _ (by omega)).1) (fun j hj => by
        obtain rfl : j = 0 := by simpa using hj
        rw [hz1, show 0 + l.length * 1 + 0 = l.length by omega]; exact (h6 _ (by omega)).2)
      rw [hz1, show 0 + l.length * 1 = l.length by omega] at hr
      have hcell : (w.cell? ⟨g, l.length, none⟩).isSome = true := (h6 _ (by omega)).1
      refine ⟨_, _, hr, ⟨hsx, .inr ⟨g, cap, by simp, h1, by simpa [World.setCells] using h2, by simpa using hroom, h4, .inr hlg, fun i hi => ?_, fun i hi => ?_⟩⟩, ?_⟩
      · show ((w.setCell ⟨g, l.length, none⟩ (.string x)).cell? ⟨g, i, none⟩).isSome = true ∧ (w.setCell ⟨g, l.length, none⟩ (.string x)).frozen? ⟨g, i, none⟩ = false
        refine ⟨?_, by rw [World.frozen?_setCell]; exact (h6 i hi).2⟩
        by_cases he : i = l.length
        · subst he; rw [World.cell?_setCell_same' _ _ _ hcell]; rfl
        · rw [cell_other _ _ _ _ (by intro e; cases e; exact he rfl)]; exact (h6 i hi).1
      · show (w.setCell ⟨g, l.length, none⟩ (.string x)).cell? ⟨g, i, none⟩ = _
        by_cases he : i = l.length
        · subst he; rw [World.cell?_setCell_same' _ _ _ hcell]; simp
        · have hil : i < l.length := by simp at hi; omega
          rw [cell_other _ _ _ _ (by intro e; cases e; exact he rfl), h7 i hil, List.getElem_append_left hil]
      · exact ⟨(But.refl _ w).setCell (p := ⟨g, l.length, none⟩) ⟨rfl, hlg, h1⟩ _, fun g' hg => by cases hg; exact hlg⟩
    · obtain ⟨v', w', hr, ho, hgr⟩ := run_append_arg_grows (P := Try.prog) w 22 ty 9 i0 _ 1 16 Try.underlying22 hi hz0 hz1 hz2 rfl (by decide) ⟨g, 0, none⟩ l.length cap (l.map Value.string) (by simp) (fun j u hu => by
        rw [Addr.add_lit, Nat.zero_add]
        have hj : j < l.length := by have := (List.getElem?_eq_some_iff.1 hu).1; simpa using this
        rw [List.getElem?_map, List.getElem?_eq_getElem hj] at hu
        simp at hu; subst hu; exact h7 j hj) ad 1 1 [.string x] rfl hnews (by omega) (by unfold maxLen; omega) (by omega)
      exact ⟨v', w', hr, Loc.ofOwn (base := w.heap.size) (by simpa using ho) hB hlo hsx, ⟨hgr.os, hgr.tape, hgr.output, hgr.size, fun k hk _ => hgr.block k hk (by simp)⟩, fun g hg => Nat.le_trans hlo (ho.lt g hg).1⟩

/-- Locals behind it, where the slice has no spare cells. -/
theorem loc_many {B lo lo' : Nat} {w : World} {l xs : List ByteArray} {a : Option Addr} {sv : Value} {F : Nat → Prop} (h : Loc B lo w l (.slice a l.length l.length)) (hr : RdStrs F w xs sv) (hB : B < w.heap.size) (hlo : lo' ≤ w.heap.size) (hl : l.length + xs.length ≤ 1000000) (ty : TypeId) :
    ∃ v' w', (Builtin.append_ #[22, 22] ty #[.slice a l.length l.length, sv]).run Try.prog w = .ok v' w' ∧ Loc B lo' w' (l ++ xs) v' ∧ Below w.heap.size w w' ∧ Whence (.slice a l.length l.length) l.length lo' v' (l ++ xs) := by
  obtain ⟨i0, hi, hz0, hz1, hz2⟩ := info_parts Try.infoStr
  obtain ⟨c, ⟨sa, cap, rfl, hlc, hcm, hel⟩, hrow⟩ := hr
  have hcell : ∀ i (hi : i < xs.length), c i 0 = .string xs[i] ∧ xs[i].size ≤ maxLen := fun i hi => by
    obtain ⟨h1, h2⟩ := hrow i hi
    exact ⟨by simpa [rowCells] using h2, h1⟩
  by_cases h0 : xs = []
  · subst h0
    refine ⟨.slice a l.length l.length, w, ?_, ?_, Below.refl _ _, .inl ⟨rfl, by simp⟩⟩
    · rcases h.2 with ⟨e, rfl⟩ | ⟨g, cp, e, h1, h2, h3, h4, h5, h6, h7⟩
      · cases e
        cases sa <;> simp [Builtin.append_, run_underlying Try.underlying22, sizeOf, typeInfo, hi, Builtin.lenOf, Builtin.firstCells, loadCells, loadCellsFrom]
      · cases e
        cases sa <;> simp [Builtin.append_, run_underlying Try.underlying22, sizeOf, typeInfo, hi, Builtin.lenOf, Builtin.firstCells, storeCells, loadCells, loadCellsFrom]
    · rw [List.append_nil]
      refine ⟨h.1, ?_⟩
      rcases h.2 with e | ⟨g, cp, e, h1, h2, h3, h4, h5, h6, h7⟩
      · exact .inl e
      · cases e
        exact .inr ⟨g, l.length, rfl, h1, h2, Nat.le_refl _, h4, .inl rfl, h6, h7⟩
  · have hpos : 0 < xs.length := List.length_pos_iff.2 h0
    obtain ⟨b, off, rfl, hFb, hce⟩ := hel hpos
    have hnews : ∀ j u, (xs.map Value.string)[j]? = some u → w.cell? ((⟨b, off, none⟩ : Addr).add j) = some u := by
      intro j u hu
      have hj : j < xs.length := by have := (List.getElem?_eq_some_iff.1 hu).1; simpa using this
      rw [List.getElem?_map, List.getElem?_eq_getElem hj] at hu
      simp at hu; subst hu
      rw [Addr.add_lit, show off + j = off + j * 1 + 0 by omega, hce j hj 0 (by omega), (hcell j hj).1]
    have hsx : ∀ y ∈ l ++ xs, y.size ≤ maxLen := by
      intro y hy
      rcases List.mem_append.1 hy with h' | h'
      · exact h.1 y h'
      · obtain ⟨i, hi, rfl⟩ := List.getElem_of_mem h'
        exact (hcell i hi).2
    have hone : ∀ u ∈ xs.map Value.string, u.oneCell' = true := by
      intro u hu
      obtain ⟨y, _, rfl⟩ := List.mem_map.1 hu
      rfl
    rcases h.2 with ⟨e, rfl⟩ | ⟨g, cp, e, h1, h2, h3, h4, h5, h6, h7⟩
    · cases e
      obtain ⟨v', w', hr, ho, hgr, _⟩ := run_append_own (P := Try.prog) (w := w) (w.heap.size) 22 ty 9 i0 _ 1 16 Try.underlying22 hi hz0 hz1 hz2 rfl (by decide) (.slice none 0 0) 0 [] (World.ownsRow_nil _ _ _ _) ⟨b, off, none⟩ xs.length cap (xs.map Value.string) (by simp) hnews hone (by simp at hl; unfold maxLen; omega) (by simp at hl; omega) (Nat.le_refl _)
      exact ⟨v', w', hr, Loc.ofOwn (base := w.heap.size) (by simpa using ho) hB hlo hsx, ⟨hgr.os, hgr.tape, hgr.output, hgr.size, fun k hk => hgr.block k hk (by simp [Value.ownBlock])⟩, .inr fun g hg => Nat.le_trans hlo (ho.lt g hg).1⟩
    · cases e
      obtain ⟨v', w', hr, ho, hgr⟩ := run_append_arg_grows (P := Try.prog) w 22 ty 9 i0 _ 1 16 Try.underlying22 hi hz0 hz1 hz2 rfl (by decide) ⟨g, 0, none⟩ l.length l.length (l.map Value.string) (by simp) (fun j u hu => by
        rw [Addr.add_lit, Nat.zero_add]
        have hj : j < l.length := by have := (List.getElem?_eq_some_iff.1 hu).1; simpa using this
        rw [List.getElem?_map, List.getElem?_eq_getElem hj] at hu
        simp at hu; subst hu; exact h7 j hj) ⟨b, off, none⟩ xs.length cap (xs.map Value.string) (by simp) hnews (by omega) (by unfold maxLen; omega) (by omega)
      exact ⟨v', w', hr, Loc.ofOwn (base := w.heap.size) (by simpa using ho) hB hlo hsx, ⟨hgr.os, hgr.tape, hgr.output, hgr.size, fun k hk => hgr.block k hk (by simp)⟩, .inr fun g hg => Nat.le_trans hlo (ho.lt g hg).1⟩
end Go.Proofs.Ytblhpiebheommaa
/- The walk of clewref16.Light. Printed by gen-light2.py. -/
namespace Go.Proofs.Ytblhpiebheommaa
open Go.RowKit Go.Sort

def SrcD.parts (s : SrcD) : Nat := s.objects.length + s.verbs.length + s.rules.length + s.funcs.length + s.daemons.length
/-- Few parts, whose conditions and statements are a source's. -/
def LightS (s : SrcD) : Prop := s.parts ≤ 60 ∧ (∀ o ∈ s.objects, ∀ x ∈ o.exits, WhenB x.cond) ∧ (∀ r ∈ s.rules, WhenB r.cond ∧ LightB r.body) ∧ ∀ f ∈ s.funcs ++ s.daemons, LightB f.body ∧ f.params.length ≤ 8

theorem Try.infoFunc : (Try.prog.info? 89).map (fun i => (i.zero, i.size, i.bytes)) = some (some (.agg #[.string ⟨#[]⟩, .slice none 0 0, .slice none 0 0]), 3, 64) := by kernel_rfl
/-- The cells of functions in a row. -/
def FRow (F : Nat → Prop) (w : World) (l : List FuncD) (ns : List Value) : Prop := ns.length = l.length * 3 ∧ ∀ i (hi : i < l.length), ∃ p1 q1 p2 q2, ns[i * 3]? = some (.string l[i].name) ∧ ns[i * 3 + 1]? = some (.slice p1 l[i].params.length q1) ∧ ns[i * 3 + 2]? = some (.slice p2 l[i].body.length q2) ∧ Sts F w l[i].body (.slice p2 l[i].body.length q2)
theorem FRow.append {F : Nat → Prop} {w : World} {l l' : List FuncD} {ns ns' : List Value} (h : FRow F w l ns) (h' : FRow F w l' ns') : FRow F w (l ++ l') (ns ++ ns') := by
  refine ⟨by rw [List.length_append, List.length_append, h.1, h'.1, Nat.add_mul], fun i hi => ?_⟩
  rw [List.length_append] at hi
  by_cases hlt : i < l.length
  · obtain ⟨p1, q1, p2, q2, e0, e1, e2, e3⟩ := h.2 i hlt
    rw [List.getElem_append_left hlt]
    have hl := h.1
    exact ⟨p1, q1, p2, q2, by rw [List.getElem?_append_left (by omega)]; exact e0, by rw [List.getElem?_append_left (by omega)]; exact e1, by rw [List.getElem?_append_left (by omega)]; exact e2, e3⟩
  · obtain ⟨p1, q1, p2, q2, e0, e1, e2, e3⟩ := h'.2 (i - l.length) (by omega)
    have hl := h.1
    have hm : i * 3 = l.length * 3 + (i - l.length) * 3 := by rw [← Nat.add_mul]; congr 1; omega
    rw [List.getElem_append_right (by omega)]
    refine ⟨p1, q1, p2, q2, ?_, ?_, ?_, e3⟩
    · rw [List.getElem?_append_right (by omega), show i * 3 - ns.length = (i - l.length) * 3 by omega]; exact e0
    · rw [List.getElem?_append_right (by omega), show i * 3 + 1 - ns.length = (i - l.length) * 3 + 1 by omega]; exact e1
    · rw [List.getElem?_append_right (by omega), show i * 3 + 2 - ns.length = (i - l.length) * 3 + 2 by omega]; exact e2

/-- Functions behind a row of one's own. -/
theorem own_funcs {F : Nat → Prop} {w W : World} {l : List FuncD} {lv : Value} (hr : RdL Holds.fnc 3 F w l lv) (hF : Inn F w) (hW : Below w.heap.size w W) {v : Value} {n lo : Nat} {olds : List Value} (hown : W.ownsRow lo 89 3 v n olds) (hv : v ≠ .slice none 0 0) (hlo : lo ≤ W.heap.size) (hn : n + l.length ≤ 1000000) (ty : TypeId) :
    ∃ v' w' ns, (Builtin.append_ #[27, 27] ty #[v, lv]).run Try.prog W = .ok v' w' ∧ w'.ownsRow lo 89 3 v' (n + l.length) (olds ++ ns) ∧ v' ≠ .slice none 0 0 ∧ Below lo W w' ∧ FRow F w l ns := by
  obtain ⟨i0, hi, hz0, hz1, hz2⟩ := info_parts Try.infoFunc
  obtain ⟨c, ⟨a, cap, rfl, hlc, hcm, hel⟩, hrow⟩ := hr
  have hlow : ∀ g, v.ownBlock = some g → lo ≤ g := fun g hg => (ownsRow_in hown g hg).1
  have hrw : FRow F w l ((List.range (l.length * 3)).map fun j => c (j / 3) (j % 3)) := by
    refine ⟨by simp, fun i hi' => ?_⟩
    obtain ⟨-, v1, v2, he, h1, h2⟩ := hrow i hi'
    obtain ⟨p1, q1, rfl⟩ := h1.shape
    obtain ⟨p2, q2, rfl⟩ := h2.shape
    have he' : c i 0 = .string l[i].name ∧ c i 1 = .slice p1 l[i].params.length q1 ∧ c i 2 = .slice p2 l[i].body.length q2 := by
      simpa [rowCells, List.range_succ] using he
    refine ⟨p1, q1, p2, q2, ?_, ?_, ?_, h2⟩
    · rw [List.getElem?_map, List.getElem?_range (by omega)]
      simp only [Option.map_some, Option.some.injEq]
      rw [show i * 3 / 3 = i by omega, show i * 3 % 3 = 0 by omega]; exact he'.1
    · rw [List.getElem?_map, List.getElem?_range (by omega)]
      simp only [Option.map_some, Option.some.injEq]
      rw [show (i * 3 + 1) / 3 = i by omega, show (i * 3 + 1) % 3 = 1 by omega]; exact he'.2.1
    · rw [List.getElem?_map, List.getElem?_range (by omega)]
      simp only [Option.map_some, Option.some.injEq]
      rw [show (i * 3 + 2) / 3 = i by omega, show (i * 3 + 2) % 3 = 2 by omega]; exact he'.2.2
  by_cases h0 : l.length = 0
  · have hl0 : l = [] := List.eq_nil_of_length_eq_zero h0
    subst hl0
    refine ⟨v, W, [], ?_, by simpa using hown, hv, (Below.refl _ _).mono hlo, ⟨rfl, fun i hi => absurd hi (by simp)⟩⟩
    rcases hown.2 with ⟨e, _⟩ | ⟨g, cp, cur, e, h1, h2, h3, h4, h5, h6⟩
    · exact absurd e hv
    · subst e
      cases a <;> simp [Builtin.append_, run_underlying Try.underlying27, sizeOf, typeInfo, hi, Builtin.lenOf, Builtin.firstCells, storeCells, loadCells, loadCellsFrom, h3]
  · obtain ⟨b, off, rfl, hFb, hce⟩ := hel (by omega)
    have hbl := hW.block b (hF b hFb)
    obtain ⟨v', w', hrun, ho, hgr, hiff⟩ := run_append_own (P := Try.prog) (w := W) lo 27 ty 89 i0 _ 3 64 Try.underlying27 hi hz0 hz1 hz2 rfl (by decide) v n olds hown ⟨b, off, none⟩ l.length cap _ hrw.1 (fun j u hj => by
      rw [List.getElem?_map] at hj
      have hjl : j < l.length * 3 := by
        by_cases h : j < l.length * 3
        · exact h
        · rw [List.getElem?_eq_none (by simpa using h)] at hj; cases hj
      rw [List.getElem?_range hjl] at hj
      simp only [Option.map_some, Option.some.injEq] at hj
      subst hj
      have := hce (j / 3) (by omega) (j % 3) (by omega)
      rw [Addr.add_lit]
      refine (World.cell?_of_block (w := w) (w' := W) (a := ⟨b, off + j, none⟩) hbl).trans ?_
      rw [show off + j = off + j / 3 * 3 + j % 3 by omega]
      exact this) (fun u hu => by
      obtain ⟨j, hj, rfl⟩ := List.mem_map.1 hu
      have hjl : j < l.length * 3 := by simpa using hj
      obtain ⟨-, v1, v2, he, h1, h2⟩ := hrow (j / 3) (by omega)
      obtain ⟨p1, q1, rfl⟩ := h1.shape
      obtain ⟨p2, q2, rfl⟩ := h2.shape
      have he' : c (j / 3) 0 = .string l[j / 3].name ∧ c (j / 3) 1 = .slice p1 l[j / 3].params.length q1 ∧ c (j / 3) 2 = .slice p2 l[j / 3].body.length q2 := by
        simpa [rowCells, List.range_succ] using he
      have h3 : j % 3 = 0 ∨ j % 3 = 1 ∨ j % 3 = 2 := by omega
      rcases h3 with h3 | h3 | h3
      · rw [h3, he'.1]; rfl
      · rw [h3, he'.2.1]; rfl
      · rw [h3, he'.2.2]; rfl) (by unfold maxLen; omega) (by omega) hlo
    refine ⟨v', w', _, hrun, ho, fun e => by have := (hiff.1 e).1; exact hv this, ⟨hgr.os, hgr.tape, hgr.output, hgr.size, fun k hk => hgr.block k (Nat.lt_of_lt_of_le hk hlo) (fun e => by have := hlow k e.symm; omega)⟩, hrw⟩
end Go.Proofs.Ytblhpiebheommaa
