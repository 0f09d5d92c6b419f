/- The walk of clewref15.Make: the table of a source's names, or a fault. -/
import Derived.Test.YtblhpiebheommaaGreatPut
import Derived.Test.YtblhpiebheommaaGreatKindsChecksPart5
import Derived.StillTailTactics
import Derived.Deep.DeepCutAuto
import Derived.BigRegion
namespace Go.Proofs.YtblhpiebheommaaGreat
open Go.RowKit Go.Sort

theorem cellsAt_row {ys : List Value} {n sz i : Nat} (hy : ys.length = n * sz) (hi : i < n) : cellsAt sz ys i = rowCells (fun i j => ys.getD (i * sz + j) undef) sz i := by
  have hle : i * sz + sz ≤ ys.length := by rw [hy, ← Nat.succ_mul]; exact Nat.mul_le_mul_right _ hi
  apply List.ext_getElem
  · simp [cellsAt, rowCells]; omega
  · intro j h1 h2
    have hj : j < sz := by simpa [rowCells] using h2
    simp only [cellsAt, rowCells, List.getElem_take, List.getElem_drop, List.getElem_map, List.getElem_range]
    rw [List.getD_eq_getElem?_getD, List.getElem?_eq_getElem (by omega)]
    rfl
theorem OwnR.rdl {α : Type} {R : Holds α} {te sz lo : Nat} {w : World} {xs : List α} {v : Value} (h : OwnR R te sz lo w xs v) : RdL R sz (NewB lo w.heap.size) w xs v := by
  obtain ⟨ys, hy, h1, h2⟩ := h.sl
  exact ⟨_, h1, fun i hi => by have := h2 i hi; rwa [cellsAt_row hy hi] at this⟩

theorem OwnN.lo {lo lo' : Nat} {w : World} {l : List NameD} {v : Value} (h : OwnN lo' w l v) (hl : lo ≤ lo') : OwnN lo w l v := by
  refine ⟨h.1, ?_⟩
  rcases h.2 with h2 | ⟨g, cap, cur, rfl, h3, h4⟩
  · exact .inl h2
  · exact .inr ⟨g, cap, cur, rfl, Nat.le_trans hl h3, h4⟩
theorem start_own (W : World) : OwnN W.heap.size (W.alloc (.cells (namesCells namesStart).toArray 63)) namesStart (.slice (some ⟨W.heap.size, 0, none⟩) 4 4) := by
  refine ⟨rfl, .inr ⟨W.heap.size, 4, (namesCells namesStart).toArray, rfl, Nat.le_refl _, ?_, by show 4 ≤ 4; omega, by unfold maxLen; omega, rfl, ?_⟩⟩
  · show (W.heap.push _)[W.heap.size]? = _
    rw [Array.getElem?_push, if_pos rfl]
  · rfl
theorem OwnN.four {lo : Nat} {w : World} {l : List NameD} {v : Value} {b : Nat} {u0 u1 u2 u3 : Value} (h : OwnN lo w l v) (hb : v.ownBlock ≠ some b) : OwnN lo ((((w.setCell ⟨b, 0, none⟩ u0).setCell ⟨b, 1, none⟩ u1).setCell ⟨b, 2, none⟩ u2).setCell ⟨b, 3, none⟩ u3) l v :=
  ownsRow_blk h fun g hg => by
    have hne : g ≠ b := fun e => hb (by rw [hg, e])
    rw [Below.heap_setCell _ _ _ g hne, Below.heap_setCell _ _ _ g hne, Below.heap_setCell _ _ _ g hne, Below.heap_setCell _ _ _ g hne]
theorem start_fit : NamesFit namesStart := by
  intro x hx
  simp only [namesStart, List.mem_cons, List.not_mem_nil, or_false] at hx
  rcases hx with rfl | rfl | rfl | rfl <;> exact ⟨by unfold maxLen; decide, by simp only [I64]; omega, by simp only [I64]; omega⟩

/-- The fault's box. -/
def FaultAt (w : World) (B : Nat) : Prop := (w.cell? ⟨B, 0, none⟩ = some (.int .i64 0) ∧ w.cell? ⟨B, 1, none⟩ = some (.int .i64 0) ∧ w.cell? ⟨B, 2, none⟩ = some (.int .i64 0) ∧ w.cell? ⟨B, 3, none⟩ = some (.string ⟨#[]⟩)) ∧
  w.frozen? ⟨B, 0, none⟩ = false ∧ w.frozen? ⟨B, 1, none⟩ = false ∧ w.frozen? ⟨B, 2, none⟩ = false ∧ w.frozen? ⟨B, 3, none⟩ = false
theorem fault_new (W : World) : FaultAt (W.alloc (.cells #[.int .i64 0, .int .i64 0, .int .i64 0, .string ⟨#[]⟩] 35)) W.heap.size := by
  unfold FaultAt
  simp
theorem fault_kept {w w' : World} {B D : Nat} (h : FaultAt w B) (hB : B < D) (hb : Below D w w') : FaultAt w' B := by
  unfold FaultAt at h ⊢
  simp only [hb.cell (p := ⟨B, _, none⟩) hB, hb.frozen (p := ⟨B, _, none⟩) hB]
  exact h
theorem four_set {w0 X : World} {b : Nat} {u0 u1 u2 u3 : Value} (hB : Below w0.heap.size w0 X) (hb : w0.heap.size ≤ b) : Below w0.heap.size w0 ((((X.setCell ⟨b, 0, none⟩ u0).setCell ⟨b, 1, none⟩ u1).setCell ⟨b, 2, none⟩ u2).setCell ⟨b, 3, none⟩ u3) :=
  (((hB.setCell (p := ⟨b, 0, none⟩) hb _).setCell (p := ⟨b, 1, none⟩) hb _).setCell (p := ⟨b, 2, none⟩) hb _).setCell (p := ⟨b, 3, none⟩) hb _

/-- What Make hands back, if it is told what becomes of the table. -/
def MakePost (w : World) (o : Option (List NameD)) (e : Ending) (w' : World) : Prop :=
  ∃ (a : Option Addr) (n c : Nat) (er pt nm : Int) (s : ByteArray), e = .returned (.tuple #[.slice a n c, .agg #[.int .i64 er, .int .i64 pt, .int .i64 nm, .string s]]) ∧ Below w.heap.size w w' ∧
    ((er ≠ 0 ∧ o = none) ∨ (er = 0 ∧ ∃ t, o = some t ∧ OwnN w.heap.size w' t (.slice a n c)))

theorem found_any {P : Program} {k : Nat} {args : Array Value} {w : World} {o : Option NameD} (h : Calls P k args w (GivesFound w o)) : Calls P k args w fun e w' => ∃ (s : ByteArray) (a b : Int), e = .returned (.tuple #[.agg #[.string s, .int .i64 a, .int .i64 b], .bool o.isSome]) ∧ Below w.heap.size w w' :=
  h.mono fun e w' ⟨h1, h2⟩ => by
    cases o with
    | none => exact ⟨_, _, _, h1, h2⟩
    | some x => exact ⟨_, _, _, h1, h2⟩

set_option maxRecDepth 100000 in
set_option maxHeartbeats 4000000 in
theorem makeR_calls (s : SrcD) (F : Nat → Prop) (w : World) (cs : List Value) (hF : Inn F w) (hr : Holds.src.R F w s cs) (hsz : s.flags.length + s.props.length + s.globals.length + s.objects.length + s.verbs.length + s.funcs.length + s.daemons.length ≤ 100000000) :
    Calls Tryz.prog 6 #[.agg cs.toArray] w (MakePost w (mkT s.ents namesStart)) := by
  have hall := fun W (hW : Below w.heap.size w W) => allR_calls s F W cs (hF.below hW) (Holds.src.below hr hF hW (Nat.le_refl _)) hsz
  obtain ⟨a5, c5, a6, c6, a7, c7, a8, c8, a9, c9, a10, c10, a11, c11, a12, c12, rfl, -⟩ := src_shape hr
  have hlen : s.ents.length ≤ 100000000 := by unfold SrcD.ents; simp only [List.length_append, ents_len]; omega
  generalize s.ents = l at hall hlen ⊢
  have HA := Lib.hid hall
  clear hall hr
  go_enter Tryz.func6, Tryz.ntmps6
  have hW3 : Below w.heap.size w (((w.alloc (.cells #[.string s.title, .string s.author, .string s.start, .int .i64 s.release, .int .i64 s.most, .slice a5 s.flags.length c5, .slice a6 s.props.length c6, .slice a7 s.globals.length c7, .slice a8 s.objects.length c8, .slice a9 s.verbs.length c9, .slice a10 s.rules.length c10, .slice a11 s.funcs.length c11, .slice a12 s.daemons.length c12] 29)).alloc (.cells #[.int .i64 0, .int .i64 0, .int .i64 0, .string ⟨#[]⟩] 35)).alloc (.cells (namesCells namesStart).toArray 63)) := ((((Below.refl _ w).alloc (Nat.le_refl _) _).alloc (by simp) _).alloc (by simp; omega) _)
  have hst := start_own ((w.alloc (.cells #[.string s.title, .string s.author, .string s.start, .int .i64 s.release, .int .i64 s.most, .slice a5 s.flags.length c5, .slice a6 s.props.length c6, .slice a7 s.globals.length c7, .slice a8 s.objects.length c8, .slice a9 s.verbs.length c9, .slice a10 s.rules.length c10, .slice a11 s.funcs.length c11, .slice a12 s.daemons.length c12] 29)).alloc (.cells #[.int .i64 0, .int .i64 0, .int .i64 0, .string ⟨#[]⟩] 35))
  have hz3 : ((w.alloc (.cells #[.string s.title, .string s.author, .string s.start, .int .i64 s.release, .int .i64 s.most, .slice a5 s.flags.length c5, .slice a6 s.props.length c6, .slice a7 s.globals.length c7, .slice a8 s.objects.length c8, .slice a9 s.verbs.length c9, .slice a10 s.rules.length c10, .slice a11 s.funcs.length c11, .slice a12 s.daemons.length c12] 29)).alloc (.cells #[.int .i64 0, .int .i64 0, .int .i64 0, .string ⟨#[]⟩] 35)).heap.size = w.heap.size + 2 := by simp
  have hcl : FaultAt (((w.alloc (.cells #[.string s.title, .string s.author, .string s.start, .int .i64 s.release, .int .i64 s.most, .slice a5 s.flags.length c5, .slice a6 s.props.length c6, .slice a7 s.globals.length c7, .slice a8 s.objects.length c8, .slice a9 s.verbs.length c9, .slice a10 s.rules.length c10, .slice a11 s.funcs.length c11, .slice a12 s.daemons.length c12] 29)).alloc (.cells #[.int .i64 0, .int .i64 0, .int .i64 0, .string ⟨#[]⟩] 35)).alloc (.cells (namesCells namesStart).toArray 63)) (w.heap.size + 1) := by
    have h1 := fault_new (w.alloc (.cells #[.string s.title, .string s.author, .string s.start, .int .i64 s.release, .int .i64 s.most, .slice a5 s.flags.length c5, .slice a6 s.props.length c6, .slice a7 s.globals.length c7, .slice a8 s.objects.length c8, .slice a9 s.verbs.length c9, .slice a10 s.rules.length c10, .slice a11 s.funcs.length c11, .slice a12 s.daemons.length c12] 29))
    rw [World.size_alloc] at h1
    exact fault_kept (D := ((w.alloc (.cells #[.string s.title, .string s.author, .string s.start, .int .i64 s.release, .int .i64 s.most, .slice a5 s.flags.length c5, .slice a6 s.props.length c6, .slice a7 s.globals.length c7, .slice a8 s.objects.length c8, .slice a9 s.verbs.length c9, .slice a10 s.rules.length c10, .slice a11 s.funcs.length c11, .slice a12 s.daemons.length c12] 29)).alloc (.cells #[.int .i64 0, .int .i64 0, .int .i64 0, .string ⟨#[]⟩] 35)).heap.size) h1 (by simp) ((Below.refl _ _).alloc (Nat.le_refl _) _)
  have HW := Lib.hid (And.intro hW3 (And.intro hst (And.intro hz3 hcl)))
  clear hW3 hst hz3 hcl
  go_wp2_with (go_at_call 16; refine (HA.out (((w.alloc (.cells #[.string s.title, .string s.author, .string s.start, .int .i64 s.release, .int .i64 s.most, .slice a5 s.flags.length c5, .slice a6 s.props.length c6, .slice a7 s.globals.length c7, .slice a8 s.objects.length c8, .slice a9 s.verbs.length c9, .slice a10 s.rules.length c10, .slice a11 s.funcs.length c11, .slice a12 s.daemons.length c12] 29)).alloc (.cells #[.int .i64 0, .int .i64 0, .int .i64 0, .string ⟨#[]⟩] 35)).alloc (.cells (namesCells namesStart).toArray 63)) HW.out.1).mono ?_; rintro e w1 ⟨v, rfl, hown, hb1⟩; obtain ⟨hW3, hst, hz3, hcl⟩ := HW.out; have hsz1 := hb1.size; have hst1 := (hst.below hb1).lo (lo := w.heap.size + 2) (by rw [hz3]; omega); have hb1' : Below w.heap.size w w1 := hW3.trans (hb1.mono hW3.size); have hF1 : w.heap.size + 2 < w1.heap.size := (by rw [World.size_alloc, hz3] at hsz1; omega); have HFL := Lib.hid (fault_kept (D := (((w.alloc (.cells #[.string s.title, .string s.author, .string s.start, .int .i64 s.release, .int .i64 s.most, .slice a5 s.flags.length c5, .slice a6 s.props.length c6, .slice a7 s.globals.length c7, .slice a8 s.objects.length c8, .slice a9 s.verbs.length c9, .slice a10 s.rules.length c10, .slice a11 s.funcs.length c11, .slice a12 s.daemons.length c12] 29)).alloc (.cells #[.int .i64 0, .int .i64 0, .int .i64 0, .string ⟨#[]⟩] 35)).alloc (.cells (namesCells namesStart).toArray 63)).heap.size) hcl (by rw [World.size_alloc, hz3]; omega) hb1); rw [hz3] at hst1; clear HW hW3 hst hz3 hcl hb1 hsz1; have hrd := hown.rdl; obtain ⟨a1, c1, rfl⟩ := hown.shape)
  go_loopw [4, 6] (fun u i wr => ∃ (k : Nat) (t : List NameD), k ≤ l.length ∧ i = .int .i64 k ∧ OwnN (w.heap.size + 2) wr t u ∧ Hid (mkT l namesStart = mkT (l.drop k) t) ∧ Hid (NamesFit t) ∧ t.length = 4 + k ∧ Below w1.heap.size w1 wr) (fun _ i _ => l.length - (intOf i).toNat)
  case atStart => exact ⟨0, namesStart, Nat.zero_le _, rfl, hst1, by show _ = _; rw [List.drop_zero], start_fit, rfl, Below.refl _ _⟩
  case round =>
    obtain ⟨k, t, hk, rfl, hot, hq, hft, htl, hB⟩ := hrel
    by_cases hlt : k < l.length
    · obtain ⟨_, _, hsl, hl1, hc1, ha⟩ := hrd.opn
      cases hsl
      obtain ⟨b, off, rfl, hFb, hel⟩ := ha (by omega)
      unfold maxLen at hc1
      obtain ⟨cs, ⟨x1, x2, x3, x4, x5, x6, rfl⟩, -, -⟩ := hel wr (hB.block b hFb.2) k hlt
      obtain ⟨x, hx⟩ : ∃ x, x = l[k] := ⟨_, rfl⟩
      rw [← hx] at x1 x2 x3 x4 x5 x6
      have hc2 : ∀ W, Below wr.heap.size wr W → W.cell? ⟨b, off + k * 6, none⟩ = some (.string x.name) ∧ W.cell? ⟨b, off + k * 6 + 1, none⟩ = some (.int .i64 x.kind) ∧ W.cell? ⟨b, off + k * 6 + 2, none⟩ = some (.int .i64 x.part) ∧ W.cell? ⟨b, off + k * 6 + 3, none⟩ = some (.int .i64 x.place) ∧ W.cell? ⟨b, off + k * 6 + 4, none⟩ = some (.int .i64 x.num) ∧ W.cell? ⟨b, off + k * 6 + 5, none⟩ = some (.int .i64 x.most) := fun W hW => by
        obtain ⟨cs, ⟨-, -, -, -, -, -, rfl⟩, -, hcell⟩ := hel W ((hW.block b (Nat.lt_of_lt_of_le hFb.2 hB.size)).trans (hB.block b hFb.2)) k hlt
        rw [hx]
        exact ⟨hcell 0 _ rfl, hcell 1 _ rfl, hcell 2 _ rfl, hcell 3 _ rfl, hcell 4 _ rfl, hcell 5 _ rfl⟩
      obtain ⟨z0, z1, z2, z3, z4, z5⟩ := hc2 wr (Below.refl _ _)
      have HC2 := Lib.hid hc2
      have hdk : l.drop k = x :: l.drop (k + 1) := by rw [hx]; exact List.drop_eq_getElem_cons hlt
      have hfd := found_any (findR_calls t x.name (NewB (w.heap.size + 2) wr.heap.size) wr u4 (fun b hb => hb.2) (hot.rd hft.out))
      have hin := fun W => isNameR_calls x.name W x1
      have hky := fun W => keyR_calls x.name W x1
      have hput := fun W (hW : Below wr.heap.size wr W) => putR_calls t ⟨x.name, x.kind, x.num⟩ (NewB (w.heap.size + 2) wr.heap.size) W u4 (fun b hb => Nat.lt_of_lt_of_le hb.2 hW.size) ((hot.rd hft.out).below (fun b hb => hb.2) hW (Nat.le_refl _)) (by omega) (by omega)
      have hok : EntOk t x ↔ (findN t x.name).isSome = false ∧ dec (IsName x.name) = true ∧ dec (IsKey x.name) = false ∧ x.place < x.most := by
        unfold EntOk
        rw [dec_iff, Option.isSome_eq_false_iff, Option.isNone_iff_eq_none]
        constructor
        · rintro ⟨h1, h2, h3, h4⟩; exact ⟨h3, h1, dec_false h2, h4⟩
        · rintro ⟨h1, h2, h3, h4⟩; exact ⟨h2, (fun h => by rw [dec_true h] at h3; cases h3), h1, h4⟩
      have hyes : Hid (EntOk t x → mkT l namesStart = mkT (l.drop (k + 1)) (putN t ⟨x.name, x.kind, x.num⟩)) := fun h => by
        rw [hq.out, hdk]
        show (if dec (EntOk t x) = true then _ else _) = _
        rw [if_pos (dec_true h)]
      have hnot : Hid (¬ EntOk t x → mkT l namesStart = none) := fun h => by
        rw [hq.out, hdk]
        show (if dec (EntOk t x) = true then _ else _) = _
        rw [if_neg (by rw [dec_false h]; decide)]
      have hftp : Hid (NamesFit (putN t ⟨x.name, x.kind, x.num⟩)) := fun y hy => by
        rcases putN_mem.1 hy with rfl | hy
        · exact ⟨x1, x2, x5⟩
        · exact hft.out y hy
      have HX := Lib.hid hx
      have HOK := Lib.hid hok
      have HX1 := Lib.hid x1
      have HPUT := Lib.hid hput
      obtain ⟨au, cu, rfl⟩ := (hot.rd hft.out).shape
      have HTL := Lib.hid htl
      have htl1 : 0 < t.length := by omega
      have htl2 : t.length ≤ 200000000 := by omega
      clear hel ha hc2 hdk hq hok hput x1 x2 x3 x6 hft hx htl
      generalize mkT l namesStart = o at hyes hnot ⊢
      generalize (findN t x.name).isSome = th at hfd HOK
      generalize dec (IsName x.name) = bn at hin HOK
      generalize dec (IsKey x.name) = bk at hky HOK
      have HFD := Lib.hid hfd
      have HIN := Lib.hid hin
      have HKY := Lib.hid hky
      have hth : ∀ e : Int, e = (if th = true then 10 else 0) → 0 ≤ e := fun e h => by subst h; split <;> omega
      clear hfd hin hky
      go_upto_if 33 with (go_at_call 17; (with_reducible refine (HFD.out).mono ?_); rintro e w2 ⟨sn, n1, n2, rfl, hb2⟩; have hB2 := below_on (Below.refl _ wr) (Nat.le_refl _) hb2; obtain ⟨y0, y1, y2, y3, y4, y5⟩ := HC2.out w2 hB2; have hbl : b < w2.heap.size := Nat.lt_of_lt_of_le (Nat.lt_of_lt_of_le hFb.2 hB.size) hb2.size)
      obtain ⟨wa, hwa⟩ : ∃ wa, w2.alloc (.cells #[.string sn, .int .i64 n1, .int .i64 n2] 63) = wa := ⟨_, rfl⟩
      have hBa : Below wr.heap.size wr wa := by rw [← hwa]; exact hB2.alloc hb2.size _
      rw [hwa]
      clear hwa y0 y1 y2 y3 y4 y5 hbl hB2 hb2 HFD hth
      obtain ⟨y0, y1, y2, y3, y4, y5⟩ := HC2.out wa hBa
      go_cut [7] (fun v wc => ∃ e1 : Int, v = .int .i64 e1 ∧ Hid (e1 = 0 ↔ th = false) ∧ wa = wc)
      case first =>
        cases th
        all_goals (go_wp2_with fail; go_meet; exact ⟨_, rfl, by show _ ↔ _; simp, rfl⟩)
      case rest =>
        obtain ⟨e1, rfl, he1, rfl⟩ := hcut
        go_upto_region 10 with fail
        go_cut [48] (fun v wc => v = .bool (!bn || bk) ∧ wa = wc)
        case first =>
          cases bn
          all_goals (go_wp2_with (first | (go_at_call 18; (with_reducible refine (HIN.out _).mono ?_); rintro e w4 ⟨rfl, rfl⟩) | (go_at_call 19; (with_reducible refine (HKY.out _).mono ?_); rintro e w5 ⟨rfl, rfl⟩)); go_meet; exact ⟨by simp, rfl⟩)
        case rest =>
          obtain ⟨rfl, rfl⟩ := hcut
          have hbb : Hid ((!bn || bk) = false ↔ bn = true ∧ bk = false) := by show _ ↔ _; cases bn <;> cases bk <;> simp
          generalize (!bn || bk) = bb at hbb ⊢
          go_upto_if 48 with fail
          go_cut [7] (fun v wc => ∃ e2 : Int, v = .int .i64 e2 ∧ Hid (e2 = 0 ↔ e1 = 0 ∧ bb = false) ∧ wa = wc)
          case first =>
            cases bb
            all_goals (go_wp2_with fail; go_meet; exact ⟨_, rfl, by show _ ↔ _; simp, rfl⟩)
          case rest =>
            obtain ⟨e2, rfl, he2, rfl⟩ := hcut
            go_upto_region 12 with fail
            go_quiet (fail)
            obtain ⟨wq, hwq⟩ : ∃ wq, wa.drewN nq = wq := ⟨_, rfl⟩
            rw [hwq]
            have hB4 : Below wr.heap.size wr wq := by rw [← hwq]; exact below_drewN hBa nq
            clear hwq y0 y1 y2 y3 y4 y5 hBa
            obtain ⟨y0, y1, y2, y3, y4, y5⟩ := HC2.out wq hB4
            go_upto_if 59 with fail
            go_cut [7] (fun v wc => ∃ e3 : Int, v = .int .i64 e3 ∧ Hid (e3 = 0 ↔ e2 = 0 ∧ x.place < x.most) ∧ wq = wc)
            case first =>
              by_cases hpm : x.place < x.most
              · have d1 : decide (x.most ≤ x.place) = false := by simpa using hpm
                go_wp2_with fail
                go_meet
                exact ⟨_, rfl, by show _ ↔ _; simp [hpm], rfl⟩
              · have d1 : decide (x.most ≤ x.place) = true := by simpa using hpm
                go_wp2_with fail
                go_meet
                exact ⟨_, rfl, by show _ ↔ _; simp [hpm], rfl⟩
            case rest =>
              obtain ⟨e3, rfl, he3, rfl⟩ := hcut
              have hiff : Hid (e3 = 0 ↔ EntOk t x) := by
                show _ ↔ _
                rw [he3.out, he2.out, he1.out, hbb.out, HOK.out]
                constructor
                · rintro ⟨⟨h1, h2, h3⟩, h4⟩; exact ⟨h1, h2, h3, h4⟩
                · rintro ⟨h1, h2, h3, h4⟩; exact ⟨⟨h1, h2, h3⟩, h4⟩
              clear he1 he2 he3 hbb HOK HIN HKY
              by_cases hz : e3 = 0
              · have HYES := Lib.hid (hyes.out (hiff.out.1 hz))
                subst hz
                clear hyes hnot hiff
                go_wp2_with fail
                go_still_tail 17, (by kernel_rfl)
                change wpList _ _ _ _ _ wq.drew
                have hB5 : Below wr.heap.size wr wq.drew := hB4.drew
                go_wp2_with (go_at_call 20; refine (HPUT.out _ hB5).mono ?_; rintro e w6 ⟨up, rfl, hop, hb6⟩)
                have hB6 := below_on hB5 (Nat.le_refl _) hb6
                go_roundw
                case rel => exact ⟨k + 1, _, by omega, by go_num, hop.lo (by have h1 := hB.size; have h2 := hB5.size; omega), HYES, hftp, by rw [putN_len]; have := HTL.out; omega, hB.trans (hB6.mono hB.size)⟩
                case measure => simp [intOf]; omega
              · have HNOT := Lib.hid (hnot.out (fun h => hz (hiff.out.2 h)))
                have e0 : (e3 != 0) = true := by simpa using hz
                have HZ := Lib.hid hz
                clear hyes hnot hiff hz HPUT
                have hbq := hB.trans (hB4.mono hB.size)
                obtain ⟨⟨f0, f1, f2, f3⟩, g0, g1, g2, g3⟩ := fault_kept HFL.out (by omega) hbq
                go_wp2_with fail
                go_region
                all_goals
                  go_wp2_with fail
                  exact bodyPost_ret (v := .tuple #[.slice none 0 0, .agg #[.int .i64 e3, .int .i64 x.part, .int .i64 x.place, .string x.name]]) (by simp [results, Tryz.results6, go_sem, f0, f1, f2, f3]; try rfl) rfl ⟨none, 0, 0, _, _, _, _, rfl, four_set (hb1'.trans ((hbq.drew).mono hb1'.size)) (by omega), .inl ⟨HZ.out, HNOT.out⟩⟩
    · have hkl : k = l.length := by omega
      have hfin : Hid (mkT l namesStart = some t) := by
        show _ = _
        rw [hq.out, hkl, List.drop_length]; rfl
      obtain ⟨au, cu, rfl⟩ := (hot.rd hft.out).shape
      obtain ⟨⟨f0, f1, f2, f3⟩, g0, g1, g2, g3⟩ := fault_kept HFL.out (by omega) hB
      clear hq hft hkl
      go_wp2_with fail
      exact bodyPost_ret (v := .tuple #[.slice au t.length cu, .agg #[.int .i64 0, .int .i64 0, .int .i64 0, .string ⟨#[]⟩]]) (by simp [results, Tryz.results6, go_sem, f0, f1, f2, f3]; try rfl) rfl ⟨au, t.length, cu, 0, 0, 0, ⟨#[]⟩, rfl, four_set (hb1'.trans (hB.mono hb1'.size)) (by omega), .inr ⟨rfl, t, hfin.out, (OwnN.four hot (fun e => by have := (ownsRow_in hot _ e).1; omega)).lo (by omega)⟩⟩
end Go.Proofs.YtblhpiebheommaaGreat
