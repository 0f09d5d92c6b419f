/- The memory that kinds' checker turns: its own cells, the locals that it carries; its method make. -/
import Derived.Test.YtblhpiebheommaaGreatKindsChecksPart10
import Derived.Deep.RegionLawGrows
import Derived.Laws.AppendOwnNone
namespace Go.Proofs.YtblhpiebheommaaGreat
open Go.RowKit

theorem cell_other (w : World) (a b : Addr) (v : Value) (h : a ≠ b) : (w.setCell a v).cell? b = w.cell? b := by
  apply World.cell?_setCell_other
  exact h

/-- All blocks but those of S are as they were. -/
structure But (S : Nat → Prop) (w w' : World) : Prop where
  os : w'.os = w.os
  tape : w'.tape = w.tape
  output : w'.output = w.output
  size : w.heap.size ≤ w'.heap.size
  block : ∀ k, k < w.heap.size → ¬ S k → w'.heap[k]? = w.heap[k]?
theorem But.refl (S : Nat → Prop) (w : World) : But S w w := ⟨rfl, rfl, rfl, Nat.le_refl _, fun _ _ _ => rfl⟩
theorem But.trans {S : Nat → Prop} {a b c : World} (h : But S a b) (k : But S b c) : But S a c := ⟨k.os.trans h.os, k.tape.trans h.tape, k.output.trans h.output, Nat.le_trans h.size k.size, fun i hi hn => (k.block i (Nat.lt_of_lt_of_le hi h.size) hn).trans (h.block i hi hn)⟩
theorem But.mono {S T : Nat → Prop} {w w' : World} (h : But S w w') (hS : ∀ k, k < w.heap.size → S k → T k) : But T w w' := ⟨h.os, h.tape, h.output, h.size, fun k hk hn => h.block k hk fun hs => hn (hS k hk hs)⟩
theorem But.ofBelow {S : Nat → Prop} {w w' : World} (h : Below w.heap.size w w') : But S w w' := ⟨h.os, h.tape, h.output, h.size, fun k hk _ => h.block k hk⟩
theorem But.toBelow {S : Nat → Prop} {B : Nat} {w w' : World} (h : But S w w') (hB : B ≤ w.heap.size) (hS : ∀ k, S k → B ≤ k) : Below B w w' := ⟨h.os, h.tape, h.output, h.size, fun k hk => h.block k (by omega) fun hs => by have := hS k hs; omega⟩
theorem But.setCell {S : Nat → Prop} {a w : World} (h : But S a w) {p : Addr} (hp : S p.block) (u : Value) : But S a (w.setCell p u) :=
  h.trans ⟨rfl, rfl, rfl, by simp [World.setCell], fun k _ hn => Below.heap_setCell _ _ _ _ (fun e => hn (e ▸ hp))⟩
theorem But.drew {S : Nat → Prop} {a w : World} (h : But S a w) : But S a w.drew := ⟨h.os, h.tape, h.output, h.size, h.block⟩
theorem But.alloc {S : Nat → Prop} {a w : World} (h : But S a w) (o : Obj) : But S a (w.alloc o) := h.trans (.ofBelow ((Below.refl _ w).alloc (Nat.le_refl _) o))

/-- The checker's own cells 14 (its locals) and 16 (how many it has made) may have turned, and blocks of S. -/
structure Turn (B : Nat) (S : Nat → Prop) (w w' : World) : Prop where
  but : But (fun k => k = B ∨ S k) w w'
  cells : ∀ j, j ≠ 14 → j ≠ 16 → w'.cell? ⟨B, j, none⟩ = w.cell? ⟨B, j, none⟩
  frozen : ∀ j, w'.frozen? ⟨B, j, none⟩ = w.frozen? ⟨B, j, none⟩
theorem Turn.refl (B : Nat) (S : Nat → Prop) (w : World) : Turn B S w w := ⟨.refl _ _, fun _ _ _ => rfl, fun _ => rfl⟩
theorem Turn.trans {B : Nat} {S : Nat → Prop} {a b c : World} (h : Turn B S a b) (k : Turn B S b c) : Turn B S a c := ⟨h.but.trans k.but, fun j h1 h2 => (k.cells j h1 h2).trans (h.cells j h1 h2), fun j => (k.frozen j).trans (h.frozen j)⟩
theorem Turn.mono {B : Nat} {S T : Nat → Prop} {w w' : World} (h : Turn B S w w') (hS : ∀ k, k < w.heap.size → S k → T k) : Turn B T w w' := ⟨h.but.mono fun k hk hs => hs.imp id (hS k hk), h.cells, h.frozen⟩
theorem Turn.ofBelow {B : Nat} {S : Nat → Prop} {w w' : World} (h : Below w.heap.size w w') (hB : B < w.heap.size) : Turn B S w w' := ⟨.ofBelow h, fun j _ _ => h.cell (p := ⟨B, j, none⟩) hB, fun j => h.frozen (p := ⟨B, j, none⟩) hB⟩
theorem Turn.drew {B : Nat} {S : Nat → Prop} {a w : World} (h : Turn B S a w) : Turn B S a w.drew := ⟨h.but.drew, h.cells, h.frozen⟩
theorem Turn.store {B : Nat} {S : Nat → Prop} {a w : World} (h : Turn B S a w) {j : Nat} (hj : j = 14 ∨ j = 16) (u : Value) : Turn B S a (w.setCell ⟨B, j, none⟩ u) := by
  refine ⟨h.but.setCell (p := ⟨B, j, none⟩) (.inl rfl) u, fun i h1 h2 => ?_, fun i => ?_⟩
  · rw [← h.cells i h1 h2]
    exact cell_other _ _ _ _ (by intro e; cases e; omega)
  · rw [← h.frozen i]
    simp
theorem Turn.toBelow {B B' : Nat} {S : Nat → Prop} {w w' : World} (h : Turn B S w w') (hB : B' ≤ w.heap.size) (h0 : B' ≤ B) (hS : ∀ k, S k → B' ≤ k) : Below B' w w' := h.but.toBelow hB fun k hk => hk.elim (fun e => e ▸ h0) (hS k)

/-- The locals that the checker carries: an array of its own making; where it has spare cells these are the running block's. -/
def Loc (B lo : Nat) (w : World) (l : List ByteArray) (v : Value) : Prop :=
  (∀ x ∈ l, x.size ≤ maxLen) ∧ ((v = .slice none 0 0 ∧ l = []) ∨ ∃ g cap, v = .slice (some ⟨g, 0, none⟩) l.length cap ∧ B < g ∧ g < w.heap.size ∧ l.length ≤ cap ∧ cap ≤ maxLen ∧ (cap = l.length ∨ lo ≤ g) ∧ (∀ i, i < cap → (w.cell? ⟨g, i, none⟩).isSome = true ∧ w.frozen? ⟨g, i, none⟩ = false) ∧ ∀ i (h : i < l.length), w.cell? ⟨g, i, none⟩ = some (.string l[i]))
theorem Loc.keep {B lo lo' : Nat} {w w' : World} {l : List ByteArray} {v : Value} (h : Loc B lo w l v) (hw : ∀ g, v.ownBlock = some g → g < w.heap.size → B < g → w'.heap[g]? = w.heap[g]?) (hs : w.heap.size ≤ w'.heap.size) (hlo : lo' ≤ lo) : Loc B lo' w' l v := by
  refine ⟨h.1, ?_⟩
  rcases h.2 with h | ⟨g, cap, rfl, h1, h2, h3, h4, h5, h6, h7⟩
  · exact .inl h
  · have hb := hw g rfl h2 h1
    exact .inr ⟨g, cap, rfl, h1, by omega, h3, h4, h5.imp id (by omega), fun i hi => ⟨by rw [World.cell?_of_block (w := w) hb]; exact (h6 i hi).1, by rw [World.frozen?_of_block (w := w) hb]; exact (h6 i hi).2⟩, fun i hi => by rw [World.cell?_of_block (w := w) hb]; exact h7 i hi⟩
theorem Loc.nil (B lo : Nat) (w : World) : Loc B lo w [] (.slice none 0 0) := ⟨by simp, .inl ⟨rfl, rfl⟩⟩
theorem Loc.shape {B lo : Nat} {w : World} {l : List ByteArray} {v : Value} (h : Loc B lo w l v) : ∃ a cap, v = .slice a l.length cap ∧ l.length ≤ cap := by
  rcases h.2 with ⟨rfl, rfl⟩ | ⟨g, cap, rfl, h1, h2, h3, h4, h5, h6, h7⟩
  · exact ⟨_, _, rfl, Nat.le_refl _⟩
  · exact ⟨_, _, rfl, h3⟩
/-- Read as any slice of strings. -/
theorem Loc.rd {B lo : Nat} {w : World} {l : List ByteArray} {v : Value} (h : Loc B lo w l v) {F : Nat → Prop} (hF : ∀ b, B < b → b < w.heap.size → F b) : RdStrs F w l v := by
  rcases h.2 with ⟨rfl, rfl⟩ | ⟨g, cap, rfl, h1, h2, h3, h4, h5, h6, h7⟩
  · exact RdL.nil _ _ _ _ _ _ (Nat.zero_le _)
  · refine ⟨fun i _ => .string (l.getD i ⟨#[]⟩), ⟨_, _, rfl, h3, h4, fun h0 => ⟨g, 0, rfl, hF g h1 h2, fun i hi j hj => ?_⟩⟩, fun i hi => ⟨h.1 _ (List.getElem_mem hi), ?_⟩⟩
    · obtain rfl : j = 0 := by omega
      rw [show 0 + i * 1 + 0 = i by omega, h7 i hi]; simp [hi]
    · simp [rowCells, hi]
theorem Loc.ofOwn {B lo base : Nat} {w : World} {l : List ByteArray} {v : Value} (h : w.ownsRow base 9 1 v l.length (l.map Value.string)) (hB : B < base) (hlo : lo ≤ base) (hs : ∀ x ∈ l, x.size ≤ maxLen) : Loc B lo w l v := by
  refine ⟨hs, ?_⟩
  rcases h.2 with ⟨rfl, h0⟩ | ⟨g, cap, cur, rfl, h1, h2, h3, h4, h5, h6⟩
  · exact .inl ⟨rfl, List.eq_nil_of_length_eq_zero h0⟩
  · refine .inr ⟨g, cap, rfl, by omega, (Array.getElem?_eq_some_iff.1 h2).1, h3, h4, .inr (by omega), fun i hi => ?_, fun i hi => ?_⟩
    · have : i < cur.size := by omega
      simp [World.cell?, World.frozen?, h2, this]
    · have := h.cells (g := g) rfl i (.string l[i]) (by simp [hi])
      rwa [show (⟨g, 0, none⟩ : Addr).add i = ⟨g, i, none⟩ by rw [Addr.add_lit, Nat.zero_add]] at this

/-- Whence the carried locals' array: it is the one that was there (v, n locals), and there are as many locals; or one of the block's own. -/
def Whence (v : Value) (n lo : Nat) (v' : Value) (l' : List ByteArray) : Prop := (v'.ownBlock = v.ownBlock ∧ l'.length = n) ∨ ∀ g, v'.ownBlock = some g → lo ≤ g
theorem Whence.refl (v : Value) (lo : Nat) (l : List ByteArray) : Whence v l.length lo v l := .inl ⟨rfl, rfl⟩
theorem Whence.trans {v vk v' : Value} {n lo lo' : Nat} {lk l' : List ByteArray} (h : Whence v n lo vk lk) (k : Whence vk lk.length lo' v' l') (hl : lo ≤ lo') : Whence v n lo v' l' := by
  rcases k with ⟨e1, e2⟩ | k
  · rcases h with ⟨f1, f2⟩ | h
    · exact .inl ⟨e1.trans f1, e2.trans f2⟩
    · exact .inr fun g hg => h g (by rw [← e1]; exact hg)
  · exact .inr fun g hg => Nat.le_trans hl (k g hg)
theorem Whence.mono {v v' : Value} {n lo lo' : Nat} {l' : List ByteArray} (h : Whence v n lo v' l') (hl : lo' ≤ lo) : Whence v n lo' v' l' := h.imp id fun k g hg => Nat.le_trans hl (k g hg)

/-- An append in a region that draws, by its run. -/
theorem step_run {P : Program} {ops : Array Oper} {o : Oper} {a : Act} {w : World} {K : Act → World → Prop} {Q : Exit → Act → World → Prop} {E : Prop}
    (hg : o.guard = none) (s x : Operand) (t : TypeId) (hop : o.op = Op.call { callee := Callee.builtin Builtin.append, args := #[s, x], argTypes := #[t, t] })
    (v1 v2 v' : Value) (w' : World) (hs : a.eval s = v1) (hx : a.eval x = v2) (hrun : (Builtin.append_ #[t, t] o.type #[v1, v2]).run P w = .ok v' w') (hK : K (a.put o.dst v') w') :
    if Region.wanted o (yielded ops a.tmps) = true then Oper.wp P o a w K Q else E := by
  have hw : Region.wanted o (yielded ops a.tmps) = true := by simp [Region.wanted, hg]
  rw [if_pos hw]
  unfold Oper.wp
  simp [execOp, hop, resolve, invoke, builtin, hs, hx, hrun, Result.andThen]
  exact hK

theorem Tryz.infoStr : (Tryz.prog.info? 9).map (fun i => (i.zero, i.size, i.bytes)) = some (some (.string ⟨#[]⟩), 1, 16) := by kernel_rfl

/-- One more local. -/
theorem loc_one {B lo : Nat} {w : World} {l : List ByteArray} {v : Value} (h : Loc B lo w l v) (x : ByteArray) (hx : x.size ≤ maxLen) (ad : Addr) (had : w.cell? ad = some (.string x)) (hB : B < w.heap.size) (hlo : lo ≤ w.heap.size) (hl : l.length ≤ 1000000) (ty : TypeId) :
    ∃ v' w', (Builtin.append_ #[22, 22] ty #[v, .slice (some ad) 1 1]).run Tryz.prog w = .ok v' w' ∧ Loc B lo w' (l ++ [x]) v' ∧ But (fun b => v.ownBlock = some b ∧ lo ≤ b ∧ B < b) w w' ∧ (∀ g, v'.ownBlock = some g → lo ≤ g) := by
  obtain ⟨i0, hi, hz0, hz1, hz2⟩ := info_parts Tryz.infoStr
  have hnews : ∀ j u, [Value.string x][j]? = some u → w.cell? (ad.add j) = some u := by
    intro j u hj
    match j, hj with
    | 0, hj =>
      simp at hj; subst hj
      have : ad.add 0 = ad := by cases ad with | mk b o s => cases s <;> simp [Addr.add]
      rw [this]; exact had
  have hsx : ∀ y ∈ l ++ [x], y.size ≤ maxLen := by
    intro y hy
    rcases List.mem_append.1 hy with h' | h'
    · exact h.1 y h'
    · simp at h'; subst h'; exact hx
  rcases h.2 with ⟨rfl, rfl⟩ | ⟨g, cap, rfl, h1, h2, h3, h4, h5, h6, h7⟩
  · obtain ⟨v', w', hr, ho, hgr, _⟩ := run_append_own (P := Tryz.prog) (w := w) (w.heap.size) 22 ty 9 i0 _ 1 16 Tryz.underlying22 hi hz0 hz1 hz2 rfl (by decide) (.slice none 0 0) 0 [] (World.ownsRow_nil _ _ _ _) ad 1 1 [.string x] rfl hnews (by simp [Value.oneCell']) (by unfold maxLen; omega) (by omega) (Nat.le_refl _)
    exact ⟨v', w', hr, Loc.ofOwn (base := w.heap.size) (by simpa using ho) hB hlo hsx, ⟨hgr.os, hgr.tape, hgr.output, hgr.size, fun k hk _ => hgr.block k hk (by simp [Value.ownBlock])⟩, fun g hg => Nat.le_trans hlo (ho.lt g hg).1⟩
  · by_cases hroom : l.length + 1 ≤ cap
    · have hlg : lo ≤ g := by omega
      have hr := run_append_room_cells (P := Tryz.prog) w 22 ty 9 i0 Tryz.underlying22 hi g 0 l.length cap ad 1 1 [.string x] (by rw [hz1]; rfl) hnews (by simp [Value.oneCell']) hroom (fun j hj => by
        obtain rfl : j = 0 := by simpa using hj
        rw [hz1, show 0 + l.length * 1 + 0 = l.length by omega]; exact (h6 _ (by omega)).1) (fun j hj => by
        obtain rfl : j = 0 := by simpa using hj
        rw [hz1, show 0 + l.length * 1 + 0 = l.length by omega]; exact (h6 _ (by omega)).2)
      rw [hz1, show 0 + l.length * 1 = l.length by omega] at hr
      have hcell : (w.cell? ⟨g, l.length, none⟩).isSome = true := (h6 _ (by omega)).1
      refine ⟨_, _, hr, ⟨hsx, .inr ⟨g, cap, by simp, h1, by simpa [World.setCells] using h2, by simpa using hroom, h4, .inr hlg, fun i hi => ?_, fun i hi => ?_⟩⟩, ?_⟩
      · show ((w.setCell ⟨g, l.length, none⟩ (.string x)).cell? ⟨g, i, none⟩).isSome = true ∧ (w.setCell ⟨g, l.length, none⟩ (.string x)).frozen? ⟨g, i, none⟩ = false
        refine ⟨?_, by rw [World.frozen?_setCell]; exact (h6 i hi).2⟩
        by_cases he : i = l.length
        · subst he; rw [World.cell?_setCell_same' _ _ _ hcell]; rfl
        · rw [cell_other _ _ _ _ (by intro e; cases e; exact he rfl)]; exact (h6 i hi).1
      · show (w.setCell ⟨g, l.length, none⟩ (.string x)).cell? ⟨g, i, none⟩ = _
        by_cases he : i = l.length
        · subst he; rw [World.cell?_setCell_same' _ _ _ hcell]; simp
        · have hil : i < l.length := by simp at hi; omega
          rw [cell_other _ _ _ _ (by intro e; cases e; exact he rfl), h7 i hil, List.getElem_append_left hil]
      · exact ⟨(But.refl _ w).setCell (p := ⟨g, l.length, none⟩) ⟨rfl, hlg, h1⟩ _, fun g' hg => by cases hg; exact hlg⟩
    · obtain ⟨v', w', hr, ho, hgr⟩ := run_append_arg_grows (P := Tryz.prog) w 22 ty 9 i0 _ 1 16 Tryz.underlying22 hi hz0 hz1 hz2 rfl (by decide) ⟨g, 0, none⟩ l.length cap (l.map Value.string) (by simp) (fun j u hu => by
        rw [Addr.add_lit, Nat.zero_add]
        have hj : j < l.length := by have := (List.getElem?_eq_some_iff.1 hu).1; simpa using this
        rw [List.getElem?_map, List.getElem?_eq_getElem hj] at hu
        simp at hu; subst hu; exact h7 j hj) ad 1 1 [.string x] rfl hnews (by omega) (by unfold maxLen; omega) (by omega)
      exact ⟨v', w', hr, Loc.ofOwn (base := w.heap.size) (by simpa using ho) hB hlo hsx, ⟨hgr.os, hgr.tape, hgr.output, hgr.size, fun k hk _ => hgr.block k hk (by simp)⟩, fun g hg => Nat.le_trans hlo (ho.lt g hg).1⟩

/-- Locals behind it, where the slice has no spare cells. -/
theorem loc_many {B lo lo' : Nat} {w : World} {l xs : List ByteArray} {a : Option Addr} {sv : Value} {F : Nat → Prop} (h : Loc B lo w l (.slice a l.length l.length)) (hr : RdStrs F w xs sv) (hB : B < w.heap.size) (hlo : lo' ≤ w.heap.size) (hl : l.length + xs.length ≤ 1000000) (ty : TypeId) :
    ∃ v' w', (Builtin.append_ #[22, 22] ty #[.slice a l.length l.length, sv]).run Tryz.prog w = .ok v' w' ∧ Loc B lo' w' (l ++ xs) v' ∧ Below w.heap.size w w' ∧ Whence (.slice a l.length l.length) l.length lo' v' (l ++ xs) := by
  obtain ⟨i0, hi, hz0, hz1, hz2⟩ := info_parts Tryz.infoStr
  obtain ⟨c, ⟨sa, cap, rfl, hlc, hcm, hel⟩, hrow⟩ := hr
  have hcell : ∀ i (hi : i < xs.length), c i 0 = .string xs[i] ∧ xs[i].size ≤ maxLen := fun i hi => by
    obtain ⟨h1, h2⟩ := hrow i hi
    exact ⟨by simpa [rowCells] using h2, h1⟩
  by_cases h0 : xs = []
  · subst h0
    refine ⟨.slice a l.length l.length, w, ?_, ?_, Below.refl _ _, .inl ⟨rfl, by simp⟩⟩
    · rcases h.2 with ⟨e, rfl⟩ | ⟨g, cp, e, h1, h2, h3, h4, h5, h6, h7⟩
      · cases e
        cases sa <;> simp [Builtin.append_, run_underlying Tryz.underlying22, sizeOf, typeInfo, hi, Builtin.lenOf, Builtin.firstCells, loadCells, loadCellsFrom]
      · cases e
        cases sa <;> simp [Builtin.append_, run_underlying Tryz.underlying22, sizeOf, typeInfo, hi, Builtin.lenOf, Builtin.firstCells, storeCells, loadCells, loadCellsFrom]
    · rw [List.append_nil]
      refine ⟨h.1, ?_⟩
      rcases h.2 with e | ⟨g, cp, e, h1, h2, h3, h4, h5, h6, h7⟩
      · exact .inl e
      · cases e
        exact .inr ⟨g, l.length, rfl, h1, h2, Nat.le_refl _, h4, .inl rfl, h6, h7⟩
  · have hpos : 0 < xs.length := List.length_pos_iff.2 h0
    obtain ⟨b, off, rfl, hFb, hce⟩ := hel hpos
    have hnews : ∀ j u, (xs.map Value.string)[j]? = some u → w.cell? ((⟨b, off, none⟩ : Addr).add j) = some u := by
      intro j u hu
      have hj : j < xs.length := by have := (List.getElem?_eq_some_iff.1 hu).1; simpa using this
      rw [List.getElem?_map, List.getElem?_eq_getElem hj] at hu
      simp at hu; subst hu
      rw [Addr.add_lit, show off + j = off + j * 1 + 0 by omega, hce j hj 0 (by omega), (hcell j hj).1]
    have hsx : ∀ y ∈ l ++ xs, y.size ≤ maxLen := by
      intro y hy
      rcases List.mem_append.1 hy with h' | h'
      · exact h.1 y h'
      · obtain ⟨i, hi, rfl⟩ := List.getElem_of_mem h'
        exact (hcell i hi).2
    have hone : ∀ u ∈ xs.map Value.string, u.oneCell' = true := by
      intro u hu
      obtain ⟨y, _, rfl⟩ := List.mem_map.1 hu
      rfl
    rcases h.2 with ⟨e, rfl⟩ | ⟨g, cp, e, h1, h2, h3, h4, h5, h6, h7⟩
    · cases e
      obtain ⟨v', w', hr, ho, hgr, _⟩ := run_append_own (P := Tryz.prog) (w := w) (w.heap.size) 22 ty 9 i0 _ 1 16 Tryz.underlying22 hi hz0 hz1 hz2 rfl (by decide) (.slice none 0 0) 0 [] (World.ownsRow_nil _ _ _ _) ⟨b, off, none⟩ xs.length cap (xs.map Value.string) (by simp) hnews hone (by simp at hl; unfold maxLen; omega) (by simp at hl; omega) (Nat.le_refl _)
      exact ⟨v', w', hr, Loc.ofOwn (base := w.heap.size) (by simpa using ho) hB hlo hsx, ⟨hgr.os, hgr.tape, hgr.output, hgr.size, fun k hk => hgr.block k hk (by simp [Value.ownBlock])⟩, .inr fun g hg => Nat.le_trans hlo (ho.lt g hg).1⟩
    · cases e
      obtain ⟨v', w', hr, ho, hgr⟩ := run_append_arg_grows (P := Tryz.prog) w 22 ty 9 i0 _ 1 16 Tryz.underlying22 hi hz0 hz1 hz2 rfl (by decide) ⟨g, 0, none⟩ l.length l.length (l.map Value.string) (by simp) (fun j u hu => by
        rw [Addr.add_lit, Nat.zero_add]
        have hj : j < l.length := by have := (List.getElem?_eq_some_iff.1 hu).1; simpa using this
        rw [List.getElem?_map, List.getElem?_eq_getElem hj] at hu
        simp at hu; subst hu; exact h7 j hj) ⟨b, off, none⟩ xs.length cap (xs.map Value.string) (by simp) hnews (by omega) (by unfold maxLen; omega) (by omega)
      exact ⟨v', w', hr, Loc.ofOwn (base := w.heap.size) (by simpa using ho) hB hlo hsx, ⟨hgr.os, hgr.tape, hgr.output, hgr.size, fun k hk => hgr.block k hk (by simp)⟩, .inr fun g hg => Nat.le_trans hlo (ho.lt g hg).1⟩
end Go.Proofs.YtblhpiebheommaaGreat
/- The walk of kinds' checker.make. -/
namespace Go.Proofs.YtblhpiebheommaaGreat
open Go.RowKit

/-- The checker at block B. -/
structure Ck (F : Nat → Prop) (w : World) (B : Nat) (t : List NameD) (fs : List FuncD) (wh m : Int) (lo : Nat) (l : List ByteArray) (v : Value) : Prop where
  inn : ∀ b, F b → b < B
  ct : CkT F w B t
  cf : CkF F w B fs
  wh : w.cell? ⟨B, 15, none⟩ = some (.int .i64 wh)
  made : w.cell? ⟨B, 16, none⟩ = some (.int .i64 m)
  cl : w.cell? ⟨B, 14, none⟩ = some v
  loc : Loc B lo w l v
  z14 : w.frozen? ⟨B, 14, none⟩ = false
  z16 : w.frozen? ⟨B, 16, none⟩ = false
theorem Ck.lt {F : Nat → Prop} {w : World} {B lo : Nat} {t : List NameD} {fs : List FuncD} {wh m : Int} {l : List ByteArray} {v : Value} (h : Ck F w B t fs wh m lo l v) : B < w.heap.size := h.ct.1
theorem Ck.inw {F : Nat → Prop} {w : World} {B lo : Nat} {t : List NameD} {fs : List FuncD} {wh m : Int} {l : List ByteArray} {v : Value} (h : Ck F w B t fs wh m lo l v) : Inn F w := fun b hb => Nat.lt_trans (h.inn b hb) h.lt
theorem Ck.turn {F S : Nat → Prop} {w w' : World} {B lo lo' : Nat} {t : List NameD} {fs : List FuncD} {wh m m' : Int} {l l' : List ByteArray} {v v' : Value} (h : Ck F w B t fs wh m lo l v) (ht : Turn B S w w') (hS : ∀ k, S k → B < k) (hm : w'.cell? ⟨B, 16, none⟩ = some (.int .i64 m')) (hv : w'.cell? ⟨B, 14, none⟩ = some v') (hl : Loc B lo' w' l' v') : Ck F w' B t fs wh m' lo' l' v' := by
  have hk : ∀ b, F b → w'.heap[b]? = w.heap[b]? := fun b hb => ht.but.block b (h.inw b hb) fun hs => by
    have := h.inn b hb
    rcases hs with e | e
    · omega
    · have := hS b e; omega
  obtain ⟨t1, tv, t2, t3⟩ := h.ct
  obtain ⟨f1, fv, f2, f3⟩ := h.cf
  exact ⟨h.inn, ⟨Nat.lt_of_lt_of_le t1 ht.but.size, tv, (ht.cells 0 (by decide) (by decide)).trans t2, t3.keep hk (fun _ h => h)⟩, ⟨Nat.lt_of_lt_of_le f1 ht.but.size, fv, (ht.cells 12 (by decide) (by decide)).trans f2, f3.keep hk (fun _ h => h)⟩, (ht.cells 15 (by decide) (by decide)).trans h.wh, hm, hv, hl, (ht.frozen 14).trans h.z14, (ht.frozen 16).trans h.z16⟩
theorem Ck.below {F : Nat → Prop} {w w' : World} {B lo lo' : Nat} {t : List NameD} {fs : List FuncD} {wh m : Int} {l : List ByteArray} {v : Value} (h : Ck F w B t fs wh m lo l v) (hb : Below w.heap.size w w') (hlo : lo' ≤ lo) : Ck F w' B t fs wh m lo' l v :=
  h.turn (S := fun _ => False) (.ofBelow hb h.lt) (fun _ h => h.elim) ((hb.cell (p := ⟨B, 16, none⟩) h.lt).trans h.made) ((hb.cell (p := ⟨B, 14, none⟩) h.lt).trans h.cl) (h.loc.keep (fun g _ hg _ => hb.block g hg) hb.size hlo)

/-- The checker's locals are a slice with room for n. -/
def Held (w : World) (B n : Nat) : Prop := ∃ a k cap, w.cell? ⟨B, 14, none⟩ = some (.slice a k cap) ∧ n ≤ cap
theorem Ck.held {F : Nat → Prop} {w : World} {B lo : Nat} {t : List NameD} {fs : List FuncD} {wh m : Int} {l : List ByteArray} {v : Value} (h : Ck F w B t fs wh m lo l v) : Held w B l.length := by
  obtain ⟨a, cap, e, hc⟩ := h.loc.shape
  exact ⟨a, _, cap, by rw [h.cl, e], hc⟩

/-- A post: where nothing is wrong the call ends well and R holds; else what is wrong is thrown; the checker has turned. -/
def PostW (B : Nat) (S : Nat → Prop) (w : World) (p : Int × ByteArray) (n : Nat) (R : World → Prop) (e : Ending) (w' : World) : Prop :=
  (p.1 = 0 → e = .returned (.tuple #[]) ∧ R w') ∧ (p.1 ≠ 0 → e = .panicked [{ v := wrongV p.1 p.2, recovered := false }] ∧ Held w' B n) ∧ Turn B S w w'
theorem post_ok {P : Program} {k : Nat} {args : Array Value} {B n : Nat} {S : Nat → Prop} {w : World} {p : Int × ByteArray} {R : World → Prop} (h : Calls P k args w (PostW B S w p n R)) (hp : p.1 = 0) : Calls P k args w fun e w' => e = .returned (.tuple #[]) ∧ R w' ∧ Turn B S w w' := h.mono fun _ _ ⟨h1, _, h3⟩ => ⟨(h1 hp).1, (h1 hp).2, h3⟩
theorem post_bad {P : Program} {k : Nat} {args : Array Value} {B n : Nat} {S : Nat → Prop} {w : World} {p : Int × ByteArray} {R : World → Prop} (h : Calls P k args w (PostW B S w p n R)) (hp : p.1 ≠ 0) : Calls P k args w fun e w' => e = .panicked [{ v := .iface 104 (.agg #[.int .i64 p.1, .string p.2]), recovered := false }] ∧ Held w' B n ∧ Turn B S w w' := h.mono fun _ _ ⟨_, h2, h3⟩ => ⟨(h2 hp).1, (h2 hp).2, h3⟩
theorem PostW.fine {B n : Nat} {S : Nat → Prop} {w w' : World} {p : Int × ByteArray} {R : World → Prop} {e : Ending} (hp : p.1 = 0) (he : e = .returned (.tuple #[])) (hR : R w') (ht : Turn B S w w') : PostW B S w p n R e w' := ⟨fun _ => ⟨he, hR⟩, fun h => absurd hp h, ht⟩
theorem PostW.thrown {B n : Nat} {S : Nat → Prop} {w w' : World} {p : Int × ByteArray} {R : World → Prop} {e : Ending} {er : Int} {nm : ByteArray} (hp : p = (er, nm)) (h0 : er ≠ 0) (he : e = .panicked [{ v := .iface 104 (.agg #[.int .i64 er, .string nm]), recovered := false }]) (hh : Held w' B n) (ht : Turn B S w w') : PostW B S w p n R e w' := by
  subst hp; exact ⟨fun h => absurd h h0, fun _ => ⟨he, hh⟩, ht⟩
theorem Held.below {w w' : World} {B n : Nat} (h : Held w B n) (hb : Below w.heap.size w w') (hB : B < w.heap.size) : Held w' B n := by
  obtain ⟨a, k, cap, h1, h2⟩ := h
  exact ⟨a, k, cap, (hb.cell (p := ⟨B, 14, none⟩) hB).trans h1, h2⟩

/-- What is wrong with the name of new locals; made: how many there are with them. -/
noncomputable def freshW (t : List NameD) (l : List ByteArray) (n : ByteArray) (made : Int) : Int × ByteArray :=
  if ((findN t n).isSome || dec (n ∈ l)) = true then (10, n) else if 16 < made then (7, n) else fineW

/-- The blocks that the walks read: those that came in, and the checker's own. -/
def FB (F : Nat → Prop) (w : World) (B : Nat) (b : Nat) : Prop := F b ∨ (B < b ∧ b < w.heap.size)
theorem Ck.ckl {F : Nat → Prop} {w : World} {B lo : Nat} {t : List NameD} {fs : List FuncD} {wh m : Int} {l : List ByteArray} {v : Value} (h : Ck F w B t fs wh m lo l v) : CkL (FB F w B) w B l := ⟨h.lt, v, h.cl, h.loc.rd fun _ h1 h2 => .inr ⟨h1, h2⟩⟩
theorem Ck.ckt {F : Nat → Prop} {w : World} {B lo : Nat} {t : List NameD} {fs : List FuncD} {wh m : Int} {l : List ByteArray} {v : Value} (h : Ck F w B t fs wh m lo l v) : CkT (FB F w B) w B t := let ⟨h1, v, h2, h3⟩ := h.ct; ⟨h1, v, h2, h3.keep (fun _ _ => rfl) (fun _ h => .inl h)⟩
theorem Ck.ckf {F : Nat → Prop} {w : World} {B lo : Nat} {t : List NameD} {fs : List FuncD} {wh m : Int} {l : List ByteArray} {v : Value} (h : Ck F w B t fs wh m lo l v) : CkF (FB F w B) w B fs := let ⟨h1, v, h2, h3⟩ := h.cf; ⟨h1, v, h2, h3.keep (fun _ _ => rfl) (fun _ h => .inl h)⟩
theorem Ck.fin {F : Nat → Prop} {w : World} {B lo : Nat} {t : List NameD} {fs : List FuncD} {wh m : Int} {l : List ByteArray} {v : Value} (h : Ck F w B t fs wh m lo l v) : Inn (FB F w B) w := fun b hb => hb.elim (h.inw b) (·.2)

set_option maxRecDepth 20000 in
set_option maxHeartbeats 2000000 in
theorem make_calls (t : List NameD) (fs : List FuncD) (l : List ByteArray) (n : ByteArray) (wh m many : Int) (F : Nat → Prop) (w : World) (B lo : Nat) (v : Value) (h : Ck F w B t fs wh m lo l v) (hri : Rises t) (ht : t.length ≤ 1000000000000) (hm0 : 0 ≤ m) (hm1 : m ≤ 16) (hq0 : 1 ≤ many) (hq1 : many ≤ 2) :
    Calls Tryz.prog 89 #[.pointer (some ⟨B, 0, none⟩), .string n, .int .i64 many] w (PostW B (fun _ => False) w (freshW t l n (m + many)) l.length (fun w' => w'.cell? ⟨B, 14, none⟩ = some v ∧ w'.cell? ⟨B, 16, none⟩ = some (.int .i64 (m + many)))) := by
  have hlt := h.lt
  have hlc := local_calls l n _ w B h.ckl
  obtain ⟨-, tv, htv, htr⟩ := h.ct
  have hfd := findT_calls t n F w tv h.inw htr hri ht
  obtain ⟨a, cap, rfl⟩ := htr.shape
  have hheld := Lib.hid h.held
  have hcl := h.cl
  have hmd := h.made
  have hz := h.z16
  have hlt' := Lib.hid hlt
  unfold freshW
  cases ho : findN t n with
  | some x =>
    rw [ho] at hfd
    have HD := Lib.hid (found_some hfd)
    rw [if_pos (by simp)]
    clear ho hfd htr hri hlc h hmd hz hcl hm0 hm1 hq0 hq1
    go_enter Tryz.func89, Tryz.ntmps89
    go_wp2_with (go_at_call 76; refine HD.out.mono ?_; rintro e w1 ⟨rfl, hb⟩)
    have hb1 := hb.alloc hb.size (.cells #[.string x.name, .int .i64 x.kind, .int .i64 x.num] 63)
    exact ⟨rfl, PostW.thrown rfl (by decide) rfl (hheld.out.below hb1 hlt'.out) (.ofBelow hb1 hlt'.out)⟩
  | none =>
    rw [ho] at hfd
    have HD := Lib.hid (found_none hfd)
    clear ho hfd htr hri
    have hlc1 : ∀ o W, Below w.heap.size w W → Calls Tryz.prog 87 #[.pointer (some ⟨B, 0, none⟩), .string n] (W.alloc o) (Same0 (W.alloc o) (.bool (dec (n ∈ l)))) := fun o W hW => local_calls l n _ _ B (h.ckl.below h.fin (hW.alloc hW.size o))
    by_cases hm : n ∈ l
    · rw [dec_true hm] at hlc1
      rw [if_pos (by simp [dec_true hm])]
      have HL := Lib.hid hlc1
      clear hlc hlc1 hm h hmd hz hcl hm0 hm1 hq0 hq1
      go_enter Tryz.func89, Tryz.ntmps89
      go_wp2_with (first | (go_at_call 76; refine HD.out.mono ?_; rintro e w1 ⟨rfl, hb⟩) | (go_at_call 87; refine (HL.out _ _ hb).mono ?_; rintro e w2 ⟨rfl, rfl⟩))
      have hb1 := hb.alloc hb.size (.cells #[.string ⟨#[]⟩, .int .i64 0, .int .i64 0] 63)
      exact ⟨rfl, PostW.thrown rfl (by decide) rfl (hheld.out.below hb1 hlt'.out) (.ofBelow hb1 hlt'.out)⟩
    · rw [dec_false hm] at hlc1
      rw [if_neg (by simp [dec_false hm])]
      have HL := Lib.hid hlc1
      clear hlc hlc1 hm h
      have hread : ∀ W, Below w.heap.size w W → W.cell? ⟨B, 16, none⟩ = some (.int .i64 m) ∧ W.frozen? ⟨B, 16, none⟩ = false ∧ W.cell? ⟨B, 14, none⟩ = some v := fun W hW => ⟨(hW.cell (p := ⟨B, 16, none⟩) hlt).trans hmd, (hW.frozen (p := ⟨B, 16, none⟩) hlt).trans hz, (hW.cell (p := ⟨B, 14, none⟩) hlt).trans hcl⟩
      have HR := Lib.hid hread
      clear hread hz hcl hlt hmd
      have hwr : IntKind.i64.wrap (m + many) = m + many := by rw [IntKind.wrap_i64]; omega
      by_cases hbig : 16 < m + many
      · rw [if_pos hbig]
        have hbg : decide (m + many > 16) = true := by simpa using hbig
        go_enter Tryz.func89, Tryz.ntmps89
        go_wp2_with (first | (go_at_call 76; refine HD.out.mono ?_; rintro e w1 ⟨rfl, hb⟩) | (go_at_call 87; refine (HL.out _ _ hb).mono ?_; rintro e w2 ⟨rfl, rfl⟩; obtain ⟨r0, r1, r2⟩ := HR.out _ (hb.alloc hb.size (.cells #[.string ⟨#[]⟩, .int .i64 0, .int .i64 0] 63))))
        have hb1 := hb.alloc hb.size (.cells #[.string ⟨#[]⟩, .int .i64 0, .int .i64 0] 63)
        refine ⟨rfl, PostW.thrown rfl (by decide) rfl ?_ ((Turn.ofBelow hb1 hlt'.out).store (.inr rfl) _)⟩
        obtain ⟨a', k', cap', q1, q2⟩ := hheld.out.below hb1 hlt'.out
        exact ⟨a', k', cap', by rw [cell_other _ _ _ _ (by simp)]; exact q1, q2⟩
      · rw [if_neg hbig]
        have hbg : decide (m + many > 16) = false := by simpa using hbig
        go_enter Tryz.func89, Tryz.ntmps89
        go_wp2_with (first | (go_at_call 76; refine HD.out.mono ?_; rintro e w1 ⟨rfl, hb⟩) | (go_at_call 87; refine (HL.out _ _ hb).mono ?_; rintro e w2 ⟨rfl, rfl⟩; obtain ⟨r0, r1, r2⟩ := HR.out _ (hb.alloc hb.size (.cells #[.string ⟨#[]⟩, .int .i64 0, .int .i64 0] 63))))
        have hb1 := hb.alloc hb.size (.cells #[.string ⟨#[]⟩, .int .i64 0, .int .i64 0] 63)
        go_end0
        refine PostW.fine rfl rfl ⟨?_, ?_⟩ ((Turn.ofBelow hb1 hlt'.out).store (.inr rfl) _)
        · rw [cell_other _ _ _ _ (by simp)]; exact r2
        · exact World.cell?_setCell_same' _ _ _ (by rw [r0]; rfl)
end Go.Proofs.YtblhpiebheommaaGreat
