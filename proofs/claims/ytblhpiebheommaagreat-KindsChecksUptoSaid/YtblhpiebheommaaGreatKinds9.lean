/- The walk of kinds' checker.block. -/
import Derived.Test.YtblhpiebheommaaGreatKindsChecksPart13
namespace Go.Proofs.YtblhpiebheommaaGreat
open Go.RowKit

/-- The running block's own two variables, and what it has turned so far. -/
structure Fr (B n : Nat) (w wr : World) : Prop where
  turn : Turn B (fun b => w.heap.size ≤ b) w wr
  size : w.heap.size + 2 ≤ wr.heap.size
  b0 : wr.cell? ⟨w.heap.size, 0, none⟩ = some (.pointer (some ⟨B, 0, none⟩))
  b1 : wr.cell? ⟨w.heap.size + 1, 0, none⟩ = some (.int .i64 n)
theorem Fr.step {B n : Nat} {S : Nat → Prop} {w wr w' : World} (h : Fr B n w wr) (hB : B < w.heap.size) (ht : Turn B S wr w') (hS : ∀ k, k < wr.heap.size → S k → w.heap.size + 2 ≤ k) : Fr B n w w' := by
  have hs := h.size
  refine ⟨h.turn.trans (ht.mono fun k hk hs => by have := hS k hk hs; show w.heap.size ≤ k; omega), Nat.le_trans h.size ht.but.size, ?_, ?_⟩
  · rw [World.cell?_of_block (w := wr) (a := ⟨w.heap.size, 0, none⟩) (ht.but.block _ (by show w.heap.size < _; omega) fun hs => ?_)]
    · exact h.b0
    · rcases hs with e | e
      · have : w.heap.size = B := e; omega
      · have : w.heap.size + 2 ≤ w.heap.size := hS _ (by show w.heap.size < _; omega) e; omega
  · rw [World.cell?_of_block (w := wr) (a := ⟨w.heap.size + 1, 0, none⟩) (ht.but.block _ (by show w.heap.size + 1 < _; omega) fun hs => ?_)]
    · exact h.b1
    · rcases hs with e | e
      · have : w.heap.size + 1 = B := e; omega
      · have : w.heap.size + 2 ≤ w.heap.size + 1 := hS _ (by show w.heap.size + 1 < _; omega) e; omega
theorem Fr.below {B n : Nat} {w wr w' : World} (h : Fr B n w wr) (hB : B < w.heap.size) (hb : Below wr.heap.size wr w') : Fr B n w w' := h.step (S := fun _ => False) hB (.ofBelow hb (by have := h.size; omega)) (fun _ _ h => h.elim)

theorem Loc.clip {B lo lo' : Nat} {w : World} {l : List ByteArray} {a : Option Addr} {cap : Nat} (h : Loc B lo w l (.slice a l.length cap)) : Loc B lo' w l (.slice a l.length l.length) := by
  refine ⟨h.1, ?_⟩
  rcases h.2 with ⟨e, rfl⟩ | ⟨g, c, e, h1, h2, h3, h4, h5, h6, h7⟩
  · cases e; exact .inl ⟨rfl, rfl⟩
  · cases e; exact .inr ⟨g, _, rfl, h1, h2, Nat.le_refl _, Nat.le_trans h3 h4, .inl rfl, fun i hi => h6 i (by omega), h7⟩

/-- The locals that a block begins with. -/
theorem seen_step {F G : Nat → Prop} {w : World} {B lo : Nat} {t : List NameD} {fs : List FuncD} {wh m : Int} {l seen : List ByteArray} {a : Option Addr} {cap : Nat} {sv : Value} (h : Ck F w B t fs wh m lo l (.slice a l.length cap)) (hs : RdStrs G w seen sv) (hl : l.length + seen.length ≤ 1000000) :
    ∃ v' w2, (Builtin.append_ #[22, 22] 22 #[.slice a l.length l.length, sv]).run Tryz.prog w.drew = .ok v' w2 ∧ w2.cell? ⟨B, 14, none⟩ = some (.slice a l.length cap) ∧ w2.frozen? ⟨B, 14, none⟩ = false ∧ Below w.heap.size w w2 ∧
      Ck F (w2.setCell ⟨B, 14, none⟩ v') B t fs wh m w.heap.size (l ++ seen) v' ∧ Turn B (fun _ => False) w (w2.setCell ⟨B, 14, none⟩ v') ∧ Whence (.slice a l.length cap) l.length w.heap.size v' (l ++ seen) := by
  have hd : Below w.heap.size w w.drew := (Below.refl _ w).drew
  obtain ⟨v', w2, hrun, hl2, hb2, hwn⟩ := loc_many (B := B) (lo' := w.heap.size) ((h.below hd (Nat.le_refl _)).loc.clip (lo' := lo)) (hs.keep (w' := w.drew) (fun _ _ => rfl) (fun _ h => h)) h.lt (Nat.le_refl _) hl 22
  have hb : Below w.heap.size w w2 := hd.trans hb2
  have hT : Turn B (fun _ => False) w w2 := .ofBelow hb h.lt
  have h14 : w2.cell? ⟨B, 14, none⟩ = some (.slice a l.length cap) := (hb.cell (p := ⟨B, 14, none⟩) h.lt).trans h.cl
  have hT2 := hT.store (j := 14) (.inl rfl) v'
  refine ⟨v', w2, hrun, h14, (hT.frozen 14).trans h.z14, hb, h.turn hT2 (fun _ h => h.elim) ?_ ?_ ?_, hT2, hwn.imp (fun hh => ⟨hh.1.trans (by cases a <;> rfl), hh.2⟩) id⟩
  · rw [cell_other _ _ _ _ (by simp)]; exact (hb.cell (p := ⟨B, 16, none⟩) h.lt).trans h.made
  · exact World.cell?_setCell_same' _ _ _ (by rw [h14]; rfl)
  · exact hl2.keep (fun g _ _ hg => Below.heap_setCell _ _ _ g (Nat.ne_of_gt hg)) (by simp) (Nat.le_refl _)

theorem Ck.below' {F : Nat → Prop} {w : World} {B lo lo' : Nat} {t : List NameD} {fs : List FuncD} {wh m : Int} {l : List ByteArray} {v : Value} (h : Ck F w B t fs wh m lo l v) (hlo : lo' ≤ lo) : Ck F w B t fs wh m lo' l v := h.below (Below.refl _ _) hlo
theorem built_strs (w : World) (l : List ByteArray) (hl : l.length ≤ 1000) (h : ∀ x ∈ l, x.size ≤ maxLen) : RdStrs (fun b => b = w.heap.size) (w.alloc (.cells (l.map Value.string).toArray 9)) l (.slice (some ⟨w.heap.size, 0, none⟩) l.length l.length) := by
  refine ⟨fun i _ => (l.map Value.string).getD i undef, ⟨_, _, rfl, Nat.le_refl _, by unfold maxLen; omega, fun _ => ⟨w.heap.size, 0, rfl, rfl, fun i hi j hj => ?_⟩⟩, fun i hi => ⟨h _ (List.getElem_mem hi), ?_⟩⟩
  · have := bx_new w (l.map Value.string) 9 _ rfl i (by simpa using hi)
    rw [show 0 + i * 1 + j = i by omega, this]
    show _ = some ((l.map Value.string).getD i undef)
    rw [List.getD_eq_getElem?_getD, List.getElem?_eq_getElem (by simpa using hi)]
    rfl
  · simp [rowCells, hi]

/-- What the block defers. -/
def blkD (w : World) : List Deferred := [⟨.fn (.func 67) #[.pointer (some ⟨w.heap.size, 0, none⟩), .pointer (some ⟨w.heap.size + 1, 0, none⟩)], #[]⟩]

/-- The block ends well. -/
theorem blk_good {F : Nat → Prop} {w w' : World} {B lo0 : Nat} {t : List NameD} {fs : List FuncD} {wh m m' : Int} {l lk : List ByteArray} {v vk : Value} {p : Int × ByteArray} {tmps : Array Value} (h : Ck F w B t fs wh m lo0 l v) (hF : Fr B l.length w w') (hC : Ck F w' B t fs wh m' (w.heap.size + 2) lk vk) (hW : Whence v l.length (w.heap.size + 2) vk lk) (hp : l <+: lk) (hz : p.1 = 0) :
    Leaves Tryz.prog Tryz.f39 tmps (PostW B (fun _ => False) w p l.length (fun w' => ∃ v', Ck F w' B t fs wh m' w.heap.size l v' ∧ Whence v l.length w.heap.size v' l)) (blkD w) .returning w' := by
  obtain ⟨a2, cap2, rfl, hc2⟩ := hC.loc.shape
  have hll := hp.length_le
  have hT : Turn B (fun b => w.heap.size ≤ b) w (w'.drew.setCell ⟨B, 14, none⟩ (.slice a2 l.length cap2)) := (hF.turn.drew).store (j := 14) (.inl rfl) _
  refine leaves_cons (f := 67) (args := #[.pointer (some ⟨w.heap.size, 0, none⟩), .pointer (some ⟨w.heap.size + 1, 0, none⟩)]) (by simp) (by simp [go_sem]) ?_
  refine (block1_calls w.heap.size (w.heap.size + 1) B l.length lk.length cap2 a2 .returning w' hF.b0 hF.b1 hC.cl hC.z14 (by omega)).mono ?_
  rintro e u' w'' ⟨rfl, rfl, rfl⟩
  refine leaves_done (v := .tuple #[]) (by simp [results, Tryz.f39, go_sem]) ?_
  have hd := hC.below (w' := w'.drew) (Below.refl _ _).drew (Nat.le_refl _)
  refine PostW.fine hz rfl ⟨.slice a2 l.length cap2, hd.turn (S := fun _ => False) ((Turn.refl _ _ _).store (j := 14) (.inl rfl) _) (fun _ h => h.elim) ?_ ?_ ?_, ?_⟩ (hT.mono fun k hk hs => absurd hs (by omega))
  · rw [cell_other _ _ _ _ (by simp)]; exact hd.made
  · exact World.cell?_setCell_same' _ _ _ (by rw [hd.cl]; rfl)
  · refine ⟨h.loc.1, ?_⟩
    rcases hd.loc.2 with ⟨e, e2⟩ | ⟨g, c, e, h1, h2, h3, h4, h5, h6, h7⟩
    · subst e2
      simp at e
      obtain ⟨rfl, rfl⟩ := e
      have : l = [] := by simpa using hp
      subst this
      exact .inl ⟨rfl, rfl⟩
    · cases e
      refine .inr ⟨g, _, rfl, h1, by simpa using h2, by omega, h4, ?_, fun i hi => ?_, fun i hi => ?_⟩
      · rcases hW with ⟨_, e⟩ | hW
        · omega
        · have := hW g rfl; omega
      · rw [World.cell?_of_block (w := w'.drew) (a := ⟨g, i, none⟩) (Below.heap_setCell _ _ _ g (Nat.ne_of_gt h1)), World.frozen?_of_block (w := w'.drew) (a := ⟨g, i, none⟩) (Below.heap_setCell _ _ _ g (Nat.ne_of_gt h1))]
        exact h6 i hi
      · rw [World.cell?_of_block (w := w'.drew) (a := ⟨g, i, none⟩) (Below.heap_setCell _ _ _ g (Nat.ne_of_gt h1)), h7 i (by omega)]
        rw [List.IsPrefix.getElem hp hi]
  · rcases hW with ⟨e1, e⟩ | hW
    · exact .inl ⟨(by cases a2 <;> rfl : (Value.slice a2 l.length cap2).ownBlock = (Value.slice a2 lk.length cap2).ownBlock).trans e1, rfl⟩
    · exact .inr fun g hg => by have := hW g (by cases a2 <;> first | exact hg | cases hg); omega

/-- The block throws. -/
theorem blk_bad {w w' : World} {B n n' : Nat} {p : Int × ByteArray} {er : Int} {nm : ByteArray} {R : World → Prop} {tmps : Array Value} (hF : Fr B n w w') (hh : Held w' B n') (hn : n ≤ n') (hz : w'.frozen? ⟨B, 14, none⟩ = false) (hp : p = (er, nm)) (h0 : er ≠ 0) :
    Leaves Tryz.prog Tryz.f39 tmps (PostW B (fun _ => False) w p n R) (blkD w) (.panicking [{ v := .iface 104 (.agg #[.int .i64 er, .string nm]), recovered := false }]) w' := by
  obtain ⟨a2, k2, cap2, hcl, hc2⟩ := hh
  have hT : Turn B (fun b => w.heap.size ≤ b) w (w'.drew.setCell ⟨B, 14, none⟩ (.slice a2 n cap2)) := (hF.turn.drew).store (j := 14) (.inl rfl) _
  refine leaves_cons (f := 67) (args := #[.pointer (some ⟨w.heap.size, 0, none⟩), .pointer (some ⟨w.heap.size + 1, 0, none⟩)]) (by simp) (by simp [go_sem]) ?_
  refine (block1_calls w.heap.size (w.heap.size + 1) B n k2 cap2 a2 _ w' hF.b0 hF.b1 hcl hz (by omega)).mono ?_
  rintro e u' w'' ⟨rfl, rfl, rfl⟩
  show PostW _ _ _ _ _ _ _ _
  exact PostW.thrown hp h0 rfl ⟨a2, n, cap2, World.cell?_setCell_same' _ _ _ (by show (w'.cell? _).isSome = true; rw [hcl]; rfl), by omega⟩ (hT.mono fun k hk hs => absurd hs (by omega))
end Go.Proofs.YtblhpiebheommaaGreat
