/- The walk of fold.Expr: an expression, folded. -/
import Derived.Test.YtimdnamhccipjaaFoldX
import Derived.Deep.CutRange
import Derived.Deep.CutBlock
namespace Go.Proofs.Ytimdnamhccipjaa
open Go.RowKit

theorem Exs.keep {F G : Nat → Prop} {w w' : World} {l : List Ex} {v : Value} (hw : ∀ b, F b → w'.heap[b]? = w.heap[b]?) (hG : ∀ b, F b → G b) (h : Exs F w l v) : Exs G w' l v := let ⟨c, h1, h2⟩ := h; ⟨c, h1.keep hw hG, h2.keep hw hG⟩
theorem Sts.keep {F G : Nat → Prop} {w w' : World} {l : List St} {v : Value} (hw : ∀ b, F b → w'.heap[b]? = w.heap[b]?) (hG : ∀ b, F b → G b) (h : Sts F w l v) : Sts G w' l v := let ⟨c, h1, h2⟩ := h; ⟨c, h1.keep hw hG, h2.keep hw hG⟩

theorem atT_below {F : Nat → Prop} {W : World} {b : Nat} {zs : List Ex} {a : Option Addr} {cap : Nat} (hb : W.cell? ⟨b, 4, none⟩ = some (.slice a zs.length cap)) (hlt : b < W.heap.size) (hz : Exs F W zs (.slice a zs.length cap)) (hF : Inn F W) (i : Nat) (hi : i < zs.length) (hl : zs.length ≤ 2199023255488) :
    ∀ w', Below W.heap.size W w' → Calls Try.prog 53 #[.int .i64 (i : Int), .pointer (some ⟨b, 0, none⟩)] w' (Gives w' (.tuple #[.int .i64 (zs[i]).num, .bool ((zs[i]).kind == 1)])) := by
  intro w' hB
  obtain ⟨_, _, _, hel⟩ := hz.opn
  obtain ⟨c, off, rfl, hFc, hel⟩ := hel (by omega)
  obtain ⟨kd, o, n, s, a', m', cap', hx, g0, g1, g2, g3, g4⟩ := hel w' (hB.block c (hF c hFc)) i hi
  obtain ⟨ek, _, en, _⟩ := hx.parts
  rw [ek, en]
  exact atT_calls i b c off zs.length cap kd o n s a' m' cap' w' hi (by rw [hB.cell (p := ⟨b, 4, none⟩) hlt]; exact hb) g0 g1 g2 g3 g4

theorem numE_rd {F : Nat → Prop} {w : World} {n : Int} (h : -32768 ≤ n ∧ n ≤ 32767) : RdEx F w (numE n) [.int .i64 1, .int .i64 0, .int .i64 n, .string ⟨#[]⟩, .slice none 0 0] :=
  rd_ex (i64 1) (i64 0) (i64 n) (Nat.zero_le _) (exs_nil _ _)

theorem five_set {B : Nat} {a w : World} {b : Nat} {u0 u1 u2 u3 u4 : Value} (h : Below B a w) (hb : B ≤ b) : Below B a (((((w.setCell ⟨b, 0, none⟩ u0).setCell ⟨b, 1, none⟩ u1).setCell ⟨b, 2, none⟩ u2).setCell ⟨b, 3, none⟩ u3).setCell ⟨b, 4, none⟩ u4) :=
  ((((h.setCell (p := ⟨b, 0, none⟩) hb _).setCell (p := ⟨b, 1, none⟩) hb _).setCell (p := ⟨b, 2, none⟩) hb _).setCell (p := ⟨b, 3, none⟩) hb _).setCell (p := ⟨b, 4, none⟩) hb _
theorem five_blk {w : World} {b k : Nat} {u0 u1 u2 u3 u4 : Value} (hb : k ≠ b) : (((((w.setCell ⟨b, 0, none⟩ u0).setCell ⟨b, 1, none⟩ u1).setCell ⟨b, 2, none⟩ u2).setCell ⟨b, 3, none⟩ u3).setCell ⟨b, 4, none⟩ u4).heap[k]? = w.heap[k]? := by
  rw [Below.heap_setCell _ _ _ _ hb, Below.heap_setCell _ _ _ _ hb, Below.heap_setCell _ _ _ _ hb, Below.heap_setCell _ _ _ _ hb, Below.heap_setCell _ _ _ _ hb]
theorem beq_t {a b : Int} (h : (a == b) = true) : a = b := by simpa using h
theorem beq_f {a b : Int} (h : (a == b) = false) : a ≠ b := by simpa using h
theorem bne_t {a b : Int} (h : (a != b) = true) : a ≠ b := by simpa using h
theorem bne_f {a b : Int} (h : (a != b) = false) : a = b := by simpa using h
theorem no_tf {b : Bool} (h : b = true) (h2 : b = false) : False := by rw [h] at h2; cases h2
theorem rd_exo {F : Nat → Prop} {w : World} {k o o' n : Int} {s : ByteArray} {args : List Ex} {v : Value} (ho : o = o') (h1 : I64 k) (h2 : I64 o) (h3 : I64 n) (h4 : s.size ≤ maxLen) (ha : Exs F w args v) : RdEx F w (.mk k o n s args) [.int .i64 k, .int .i64 o', .int .i64 n, .string s, v] := by
  subst ho; exact rd_ex h1 h2 h3 h4 ha
theorem two_of {α : Type} {l : List α} (h : l.length = 2) : ∃ x y, l = [x, y] := by
  match l, h with
  | [x, y], _ => exact ⟨x, y, rfl⟩

/-- The folded Args, behind a store of the result. -/
theorem exs_five {lo : Nat} {W w2 : World} {b : Nat} {u0 u1 u2 u3 u4 : Value} {l : List Ex} {v : Value} (h : Exs (NewB (lo + 2) W.heap.size) W l v) (hb2 : Below W.heap.size W w2) (hb : b = lo + 1) :
    Exs (NewB lo (((((w2.setCell ⟨b, 0, none⟩ u0).setCell ⟨b, 1, none⟩ u1).setCell ⟨b, 2, none⟩ u2).setCell ⟨b, 3, none⟩ u3).setCell ⟨b, 4, none⟩ u4).heap.size) (((((w2.setCell ⟨b, 0, none⟩ u0).setCell ⟨b, 1, none⟩ u1).setCell ⟨b, 2, none⟩ u2).setCell ⟨b, 3, none⟩ u3).setCell ⟨b, 4, none⟩ u4) l v := by
  refine h.keep (fun c hc => ?_) (fun c hc => ⟨by have := hc.1; omega, by have := hc.2; have := hb2.size; simp; omega⟩)
  rw [five_blk (by have := hc.1; omega)]
  exact hb2.block c hc.2

set_option maxRecDepth 20000 in
set_option maxHeartbeats 1000000 in
theorem exprT_calls (e : Ex) : ExprTC e := by
  induction e using Ex.ind with
  | h k o n s args ih =>
  intro F w cs hF hsh hr
  obtain ⟨kd, op, nm, st, a, m, cap, rfl⟩ := hr.shape
  obtain ⟨ek, eo, en, es, h1, h2, h3, h4, hargs⟩ := hr.parts
  simp only [Ex.kind, Ex.op, Ex.num, Ex.name, Ex.args] at ek eo en es hargs
  subst ek eo en es
  have HC := Lib.hid (fun o o2 => exprsT_calls args ih F ((w.alloc o).alloc o2) _ ((hF.alloc _).alloc _) hsh.2.2.2.2 hsh.2.2.2.1 ((hargs.alloc hF _).alloc (hF.alloc _) _))
  have hln : (Ex.folds args).length ≤ 2199023255488 := by rw [Ex.folds_length]; exact hsh.2.2.2.1
  have hsf : (Ex.mk k o n s (Ex.folds args)).shp := by
    obtain ⟨h1, h2, h3, h5, h4⟩ := hsh
    refine ⟨by rwa [Ex.folds_length], by rwa [Ex.folds_length], fun hk => ⟨by rw [(h3 hk).1]; rfl, (h3 hk).2⟩, by rwa [Ex.folds_length], ?_⟩
    rw [Ex.folds_eq]
    refine Ex.shps_of fun x hx => ?_
    obtain ⟨y, hy, rfl⟩ := List.mem_map.1 hx
    exact y.fold_shp (Ex.shps_mem h4 y hy)
  simp only [Ex.fold]
  generalize Ex.folds args = zs at *
  clear hr hargs ih hsh
  have HSF := Lib.hid hsf
  clear hsf
  go_enter Try.func20, Try.ntmps20
  go_upto_region 2 with (go_at_call 52; refine (HC.out _ _).mono ?_; rintro e w1 ⟨v, rfl, hv, hb⟩; obtain ⟨hcl, hfz⟩ := bcell hb; obtain ⟨hz1, hz2⟩ := two_new' hb; obtain ⟨a1, c1, rfl⟩ := hv.shape)
  have hB1 := below_on2 (Below.refl w.heap.size w) (Nat.le_refl _) hb
  have q0 : (w1.setCell ⟨w.heap.size, 4, none⟩ (.slice a1 zs.length c1)).cell? ⟨w.heap.size, 0, none⟩ = some (.int .i64 k) := by go_simp
  have q1 : (w1.setCell ⟨w.heap.size, 4, none⟩ (.slice a1 zs.length c1)).cell? ⟨w.heap.size, 1, none⟩ = some (.int .i64 o) := by go_simp
  have q2 : (w1.setCell ⟨w.heap.size, 4, none⟩ (.slice a1 zs.length c1)).cell? ⟨w.heap.size, 2, none⟩ = some (.int .i64 n) := by go_simp
  have q3 : (w1.setCell ⟨w.heap.size, 4, none⟩ (.slice a1 zs.length c1)).cell? ⟨w.heap.size, 3, none⟩ = some (.string s) := by go_simp
  have q4 : (w1.setCell ⟨w.heap.size, 4, none⟩ (.slice a1 zs.length c1)).cell? ⟨w.heap.size, 4, none⟩ = some (.slice a1 zs.length c1) := World.cell?_setCell_same' _ _ _ (by go_simp)
  have hn : ∀ j, j < 5 → ∃ v, (w1.setCell ⟨w.heap.size, 4, none⟩ (.slice a1 zs.length c1)).cell? ⟨w.heap.size + 1, j, none⟩ = some v ∧ (w1.setCell ⟨w.heap.size, 4, none⟩ (.slice a1 zs.length c1)).frozen? ⟨w.heap.size + 1, j, none⟩ = false := by
    intro j hj
    match j, hj with
    | 0, _ | 1, _ | 2, _ | 3, _ | 4, _ => exact ⟨_, by go_simp; rfl, by go_simp⟩
  have hB2 : Below w.heap.size w (w1.setCell ⟨w.heap.size, 4, none⟩ (.slice a1 zs.length c1)) := hB1.setCell (Nat.le_refl _) _
  have hsW : (w1.setCell ⟨w.heap.size, 4, none⟩ (.slice a1 zs.length c1)).heap.size = w1.heap.size := by simp
  have hv2 : Exs (NewB (w.heap.size + 2) w1.heap.size) (w1.setCell ⟨w.heap.size, 4, none⟩ (.slice a1 zs.length c1)) zs (.slice a1 zs.length c1) := by
    refine hv.keep (fun b hb' => ?_) (fun b hb' => ⟨by have := hb'.1; simp at this; omega, hb'.2⟩)
    have h1 := hb'.1
    simp at h1
    exact Below.heap_setCell _ _ _ _ (by show b ≠ w.heap.size; omega)
  generalize w1.setCell ⟨w.heap.size, 4, none⟩ (.slice a1 zs.length c1) = W at *
  rw [← hsW] at hv2 hz1 hz2
  clear hsW hv hb hcl hfz hB1 HC
  obtain ⟨v0, p0, f0⟩ := hn 0 (by omega)
  obtain ⟨v1, p1, f1⟩ := hn 1 (by omega)
  obtain ⟨v2, p2, f2⟩ := hn 2 (by omega)
  obtain ⟨v3, p3, f3⟩ := hn 3 (by omega)
  obtain ⟨v4, p4, f4⟩ := hn 4 (by omega)
  have hIW : Inn (NewB (w.heap.size + 2) W.heap.size) W := fun b hb => hb.2
  have HAT := Lib.hid (fun i hi => atT_below q4 hz1 hv2 hIW i hi hln)
  have HV := Lib.hid hv2
  clear hn hv2 hln
  by_cases hk5 : k = 5
  · subst hk5
    obtain ⟨x, rfl⟩ : ∃ x, zs = [x] := List.length_eq_one_iff.1 (HSF.out.1 (by omega))
    have HA0 : Hid (∀ w', Below W.heap.size W w' → Calls Try.prog 53 #[.int .i64 0, .pointer (some ⟨w.heap.size, 0, none⟩)] w' (Gives w' (.tuple #[.int .i64 x.num, .bool (x.kind == 1)]))) := HAT.out 0 (by simp)
    clear HAT
    go_wp2_with (first | (go_at_call 53; (with_reducible refine (HA0.out _ (Below.refl _ _)).mono ?_); rintro e w2 ⟨rfl, hb2⟩; obtain ⟨hcl2, hfz2⟩ := bcell hb2; have hz3 := Nat.lt_of_lt_of_le hz1 hb2.size; have hz4 := Nat.lt_of_lt_of_le hz2 hb2.size) | (go_at_call 57; refine (wrapT_calls _ _).mono ?_; rintro e w' ⟨rfl, rfl⟩) | (go_at_call 58; refine (negT_calls _ _).mono ?_; rintro e w' ⟨rfl, rfl⟩) | (go_at_call 56; refine (bitT_calls _ _).mono ?_; rintro e w' ⟨rfl, rfl⟩) | (go_at_call 55; refine (numberT_calls _ _).mono ?_; rintro e w3 ⟨rfl, hb3⟩; obtain ⟨hcl3, hfz3⟩ := bcell hb3; have hz5 := Nat.lt_of_lt_of_le hz3 hb3.size; have hz6 := Nat.lt_of_lt_of_le hz4 hb3.size))
    · have hx : x.kind = 1 := by have h : (x.kind == 1) = true := by assumption
                                 simpa using h
      have e : foldTop 5 o n s [x] = numE (bitI (wr x.num == 0)) := by simp [foldTop, hx]
      rw [e]
      refine bodyPost_ret (v := .agg (numCells (bitI (wr x.num == 0)))) (by simp [results, Try.results20, go_sem, hcl3, hcl2, hz2, hz4, p0, p1, p2, p3, p4]) rfl ⟨_, rfl, numE_rd (bitI_in _), ?_⟩
      exact five_set (hB2.trans ((hb2.mono hB2.size).trans (hb3.mono (by omega)))) (by omega)
    · have hx : ¬ x.kind = 1 := by have h : (x.kind == 1) = false := by assumption
                                   simpa using h
      have e : foldTop 5 o n s [x] = .mk 5 o n s [x] := by simp [foldTop, hx]
      rw [e]
      refine bodyPost_ret (v := .agg #[.int .i64 5, .int .i64 o, .int .i64 n, .string s, .slice a1 1 c1]) (by simp [results, Try.results20, go_sem, hcl2, hz2, p0, p1, p2, p3, p4]) rfl ⟨_, rfl, rd_ex h1 h2 h3 h4 (exs_five HV.out hb2 rfl), ?_⟩
      exact five_set (hB2.trans (hb2.mono hB2.size)) (by omega)
  by_cases hk4 : k = 4
  · subst hk4
    obtain ⟨x, rfl⟩ : ∃ x, zs = [x] := List.length_eq_one_iff.1 (HSF.out.1 (by omega))
    have HA0 : Hid (∀ w', Below W.heap.size W w' → Calls Try.prog 53 #[.int .i64 0, .pointer (some ⟨w.heap.size, 0, none⟩)] w' (Gives w' (.tuple #[.int .i64 x.num, .bool (x.kind == 1)]))) := HAT.out 0 (by simp)
    clear HAT
    go_wp2_with (first | (go_at_call 53; (with_reducible refine (HA0.out _ (Below.refl _ _)).mono ?_); rintro e w2 ⟨rfl, hb2⟩; obtain ⟨hcl2, hfz2⟩ := bcell hb2; have hz3 := Nat.lt_of_lt_of_le hz1 hb2.size; have hz4 := Nat.lt_of_lt_of_le hz2 hb2.size) | (go_at_call 57; refine (wrapT_calls _ _).mono ?_; rintro e w' ⟨rfl, rfl⟩) | (go_at_call 58; refine (negT_calls _ _).mono ?_; rintro e w' ⟨rfl, rfl⟩) | (go_at_call 56; refine (bitT_calls _ _).mono ?_; rintro e w' ⟨rfl, rfl⟩) | (go_at_call 55; refine (numberT_calls _ _).mono ?_; rintro e w3 ⟨rfl, hb3⟩; obtain ⟨hcl3, hfz3⟩ := bcell hb3; have hz5 := Nat.lt_of_lt_of_le hz3 hb3.size; have hz6 := Nat.lt_of_lt_of_le hz4 hb3.size))
    · have hx : x.kind = 1 := by have h : (x.kind == 1) = true := by assumption
                                 simpa using h
      have e : foldTop 4 o n s [x] = numE (wr (-(wr x.num))) := by simp [foldTop, hx]
      rw [e]
      refine bodyPost_ret (v := .agg (numCells (wr (-(wr x.num))))) (by simp [results, Try.results20, go_sem, hcl3, hcl2, hz2, hz4, p0, p1, p2, p3, p4]) rfl ⟨_, rfl, numE_rd (wr_range _), ?_⟩
      exact five_set (hB2.trans ((hb2.mono hB2.size).trans (hb3.mono (by omega)))) (by omega)
    · have hx : ¬ x.kind = 1 := by have h : (x.kind == 1) = false := by assumption
                                   simpa using h
      have e : foldTop 4 o n s [x] = .mk 4 o n s [x] := by simp [foldTop, hx]
      rw [e]
      refine bodyPost_ret (v := .agg #[.int .i64 4, .int .i64 o, .int .i64 n, .string s, .slice a1 1 c1]) (by simp [results, Try.results20, go_sem, hcl2, hz2, p0, p1, p2, p3, p4]) rfl ⟨_, rfl, rd_ex h1 h2 h3 h4 (exs_five HV.out hb2 rfl), ?_⟩
      exact five_set (hB2.trans (hb2.mono hB2.size)) (by omega)
  by_cases hk6 : k = 6
  rotate_left
  · have e : foldTop k o n s zs = .mk k o n s zs := by
      unfold foldTop
      repeat' split
      all_goals first | rfl | omega
    have E := Lib.hid e
    have q5 : (k == 5) = false := by simpa using hk5
    have q6 : (k == 4) = false := by simpa using hk4
    have q7 : (k == 6) = false := by simpa using hk6
    clear HAT e
    go_wp2
    rw [E.out]
    refine bodyPost_ret (v := .agg #[.int .i64 k, .int .i64 o, .int .i64 n, .string s, .slice a1 zs.length c1]) (by simp [results, Try.results20, go_sem, p0, p1, p2, p3, p4]) rfl ⟨_, rfl, rd_ex h1 h2 h3 h4 (exs_five HV.out (Below.refl _ _) rfl), ?_⟩
    exact five_set hB2 (by omega)
  subst hk6
  obtain ⟨x, y, rfl⟩ : ∃ x y, zs = [x, y] := two_of (HSF.out.2.1 rfl)
  have hsx : Hid (x.kind = 1 → -32768 ≤ x.num ∧ x.num ≤ 32767) := fun h => shp_num (Ex.shps_mem HSF.out.2.2.2.2 x (by simp)) h
  have HA0 : Hid (∀ w', Below W.heap.size W w' → Calls Try.prog 53 #[.int .i64 0, .pointer (some ⟨w.heap.size, 0, none⟩)] w' (Gives w' (.tuple #[.int .i64 x.num, .bool (x.kind == 1)]))) := HAT.out 0 (by simp)
  have HA1 : Hid (∀ w', Below W.heap.size W w' → Calls Try.prog 53 #[.int .i64 1, .pointer (some ⟨w.heap.size, 0, none⟩)] w' (Gives w' (.tuple #[.int .i64 y.num, .bool (y.kind == 1)]))) := HAT.out 1 (by simp)
  clear HAT
  by_cases hx : x.kind = 1
  rotate_left
  · have e : foldTop 6 o n s [x, y] = .mk 6 o n s [x, y] := by simp [foldTop, hx]
    have E := Lib.hid e
    have hx2 : (x.kind == 1) = false := by simpa using hx
    clear e hx
    go_wp2_with (first | (go_at_call 53; (with_reducible refine (HA0.out _ (Below.refl _ _)).mono ?_); rintro e w2 ⟨rfl, hb2⟩; obtain ⟨hcl2, hfz2⟩ := bcell hb2; have hz3 := Nat.lt_of_lt_of_le hz1 hb2.size; have hz4 := Nat.lt_of_lt_of_le hz2 hb2.size) | (go_at_call 53; (with_reducible refine (HA1.out _ hb2).mono ?_); rintro e w4 ⟨rfl, hb4⟩; obtain ⟨hcl4, hfz4⟩ := bcell hb4; have hz7 := Nat.lt_of_lt_of_le hz3 hb4.size; have hz8 := Nat.lt_of_lt_of_le hz4 hb4.size) | (go_at_call 59; refine (binT_calls _ _ _ _).mono ?_; rintro e w' ⟨rfl, rfl⟩) | (go_at_call 55; refine (numberT_calls _ _).mono ?_; rintro e w3 ⟨rfl, hb3⟩; obtain ⟨hcl3, hfz3⟩ := bcell hb3; have hz5 := Nat.lt_of_lt_of_le hz7 hb3.size; have hz6 := Nat.lt_of_lt_of_le hz8 hb3.size))
    all_goals
      rw [E.out]
      refine bodyPost_ret (v := .agg #[.int .i64 6, .int .i64 o, .int .i64 n, .string s, .slice a1 2 c1]) (by simp [results, Try.results20, go_sem, hcl2, hz2, hcl4, hz4, p0, p1, p2, p3, p4]) rfl ⟨_, rfl, rd_ex h1 h2 h3 h4 (exs_five HV.out (hb2.trans (hb4.mono hb2.size)) rfl), ?_⟩
      exact five_set ((hB2.trans (hb2.mono hB2.size)).trans (hb4.mono (by omega))) (by omega)
  have hwx : wr x.num = x.num := wr_id (hsx.out hx)
  have hx2 : (x.kind == 1) = true := by simpa using hx
  have FT : Hid (∀ m, (y.kind = 1 ∧ (binV o x.num y.num).2 = true ∧ m = (binV o x.num y.num).1) ∨ (¬ (y.kind = 1 ∧ (binV o x.num y.num).2 = true) ∧ ((o = 2 ∧ x.num = 0 ∧ m = 0) ∨ (o = 1 ∧ x.num ≠ 0 ∧ m = 1))) → foldTop 6 o n s [x, y] = numE m) := by
    intro m h
    simp only [foldTop, hx, hwx, and_self, if_true]
    rcases h with ⟨h1, h2, rfl⟩ | ⟨h1, ⟨h2, h3, rfl⟩ | ⟨h2, h3, rfl⟩⟩
    · split
      · rename_i h4; obtain ⟨rfl, h5⟩ := h4; simp [binV, h5, bitI, wr]
      · split
        · rename_i h4; obtain ⟨rfl, h5⟩ := h4; simp [binV, hwx, h5, bitI]
        · simp [h1, h2]
    · simp [h2, h3]
    · simp [h2, h3]
  have FM : Hid (¬ (y.kind = 1 ∧ (binV o x.num y.num).2 = true) → ¬ (o = 2 ∧ x.num = 0) → ¬ (o = 1 ∧ x.num ≠ 0) → foldTop 6 o n s [x, y] = .mk 6 o n s [x, y]) := by
    intro h1 h2 h3
    simp only [foldTop, hx, hwx, and_self, if_true]
    rw [if_neg h2, if_neg h3, if_neg h1]
  clear hx hwx
  by_cases hy : y.kind = 1
  · have hy2 : (y.kind == 1) = true := by simpa using hy
    have HY := Lib.hid hy
    clear hy
    go_wp2_with (first | (go_at_call 53; (with_reducible refine (HA0.out _ (Below.refl _ _)).mono ?_); rintro e w2 ⟨rfl, hb2⟩; obtain ⟨hcl2, hfz2⟩ := bcell hb2; have hz3 := Nat.lt_of_lt_of_le hz1 hb2.size; have hz4 := Nat.lt_of_lt_of_le hz2 hb2.size) | (go_at_call 53; (with_reducible refine (HA1.out _ hb2).mono ?_); rintro e w4 ⟨rfl, hb4⟩; obtain ⟨hcl4, hfz4⟩ := bcell hb4; have hz7 := Nat.lt_of_lt_of_le hz3 hb4.size; have hz8 := Nat.lt_of_lt_of_le hz4 hb4.size) | (go_at_call 59; refine (binT_calls _ _ _ _).mono ?_; rintro e w' ⟨rfl, rfl⟩) | (go_at_call 55; refine (numberT_calls _ _).mono ?_; rintro e w3 ⟨rfl, hb3⟩; obtain ⟨hcl3, hfz3⟩ := bcell hb3; have hz5 := Nat.lt_of_lt_of_le hz7 hb3.size; have hz6 := Nat.lt_of_lt_of_le hz8 hb3.size))
    all_goals first
      | (rw [FT.out _ (.inl ⟨HY.out, by assumption, rfl⟩)]; (refine bodyPost_ret (v := .agg (numCells ((binV _ x.num y.num).1))) (by simp [results, Try.results20, go_sem, hcl3, hcl2, hcl4, hz2, hz4, hz8, p0, p1, p2, p3, p4]) rfl ⟨_, rfl, numE_rd (binV_in _ _ _), ?_⟩; exact five_set (((hB2.trans (hb2.mono hB2.size)).trans (hb4.mono (by omega))).trans (hb3.mono (by omega))) (by omega)))
      | (rw [FT.out 0 (.inr ⟨(fun h => no_tf h.2 (by assumption)), .inl ⟨by first | rfl | omega, beq_t (by assumption), rfl⟩⟩)]; (refine bodyPost_ret (v := .agg (numCells (0))) (by simp [results, Try.results20, go_sem, hcl3, hcl2, hcl4, hz2, hz4, hz8, p0, p1, p2, p3, p4]) rfl ⟨_, rfl, numE_rd (by omega), ?_⟩; exact five_set (((hB2.trans (hb2.mono hB2.size)).trans (hb4.mono (by omega))).trans (hb3.mono (by omega))) (by omega)))
      | (rw [FT.out 1 (.inr ⟨(fun h => no_tf h.2 (by assumption)), .inr ⟨by first | rfl | omega, bne_t (by assumption), rfl⟩⟩)]; (refine bodyPost_ret (v := .agg (numCells (1))) (by simp [results, Try.results20, go_sem, hcl3, hcl2, hcl4, hz2, hz4, hz8, p0, p1, p2, p3, p4]) rfl ⟨_, rfl, numE_rd (by omega), ?_⟩; exact five_set (((hB2.trans (hb2.mono hB2.size)).trans (hb4.mono (by omega))).trans (hb3.mono (by omega))) (by omega)))
      | (rw [FM.out (fun h => no_tf h.2 (by assumption)) (fun h => by first | omega | exact beq_f (by assumption) h.2) (fun h => by first | omega | exact h.2 (bne_f (by assumption)))]; (first | refine bodyPost_ret (v := .agg #[.int .i64 6, .int .i64 2, .int .i64 n, .string s, .slice a1 2 c1]) (by simp [results, Try.results20, go_sem, hcl2, hz2, hcl4, hz4, p0, p1, p2, p3, p4]) rfl ⟨_, rfl, rd_exo (show o = 2 by assumption) h1 h2 h3 h4 (exs_five HV.out (hb2.trans (hb4.mono hb2.size)) rfl), ?_⟩ | refine bodyPost_ret (v := .agg #[.int .i64 6, .int .i64 1, .int .i64 n, .string s, .slice a1 2 c1]) (by simp [results, Try.results20, go_sem, hcl2, hz2, hcl4, hz4, p0, p1, p2, p3, p4]) rfl ⟨_, rfl, rd_exo (show o = 1 by assumption) h1 h2 h3 h4 (exs_five HV.out (hb2.trans (hb4.mono hb2.size)) rfl), ?_⟩ | refine bodyPost_ret (v := .agg #[.int .i64 6, .int .i64 o, .int .i64 n, .string s, .slice a1 2 c1]) (by simp [results, Try.results20, go_sem, hcl2, hz2, hcl4, hz4, p0, p1, p2, p3, p4]) rfl ⟨_, rfl, rd_ex h1 h2 h3 h4 (exs_five HV.out (hb2.trans (hb4.mono hb2.size)) rfl), ?_⟩); exact five_set ((hB2.trans (hb2.mono hB2.size)).trans (hb4.mono (by omega))) (by omega))
  · have hy2 : (y.kind == 1) = false := by simpa using hy
    have HNY := Lib.hid hy
    clear hy
    go_wp2_with (first | (go_at_call 53; (with_reducible refine (HA0.out _ (Below.refl _ _)).mono ?_); rintro e w2 ⟨rfl, hb2⟩; obtain ⟨hcl2, hfz2⟩ := bcell hb2; have hz3 := Nat.lt_of_lt_of_le hz1 hb2.size; have hz4 := Nat.lt_of_lt_of_le hz2 hb2.size) | (go_at_call 53; (with_reducible refine (HA1.out _ hb2).mono ?_); rintro e w4 ⟨rfl, hb4⟩; obtain ⟨hcl4, hfz4⟩ := bcell hb4; have hz7 := Nat.lt_of_lt_of_le hz3 hb4.size; have hz8 := Nat.lt_of_lt_of_le hz4 hb4.size) | (go_at_call 59; refine (binT_calls _ _ _ _).mono ?_; rintro e w' ⟨rfl, rfl⟩) | (go_at_call 55; refine (numberT_calls _ _).mono ?_; rintro e w3 ⟨rfl, hb3⟩; obtain ⟨hcl3, hfz3⟩ := bcell hb3; have hz5 := Nat.lt_of_lt_of_le hz7 hb3.size; have hz6 := Nat.lt_of_lt_of_le hz8 hb3.size))
    all_goals first
      | (rw [FT.out _ (.inl ⟨absurd (rfl : (1:Nat)=1) (by assumption), by assumption, rfl⟩)]; (refine bodyPost_ret (v := .agg (numCells ((binV _ x.num y.num).1))) (by simp [results, Try.results20, go_sem, hcl3, hcl2, hcl4, hz2, hz4, hz8, p0, p1, p2, p3, p4]) rfl ⟨_, rfl, numE_rd (binV_in _ _ _), ?_⟩; exact five_set (((hB2.trans (hb2.mono hB2.size)).trans (hb4.mono (by omega))).trans (hb3.mono (by omega))) (by omega)))
      | (rw [FT.out 0 (.inr ⟨(fun h => HNY.out h.1), .inl ⟨by first | rfl | omega, beq_t (by assumption), rfl⟩⟩)]; (refine bodyPost_ret (v := .agg (numCells (0))) (by simp [results, Try.results20, go_sem, hcl3, hcl2, hcl4, hz2, hz4, hz8, p0, p1, p2, p3, p4]) rfl ⟨_, rfl, numE_rd (by omega), ?_⟩; exact five_set (((hB2.trans (hb2.mono hB2.size)).trans (hb4.mono (by omega))).trans (hb3.mono (by omega))) (by omega)))
      | (rw [FT.out 1 (.inr ⟨(fun h => HNY.out h.1), .inr ⟨by first | rfl | omega, bne_t (by assumption), rfl⟩⟩)]; (refine bodyPost_ret (v := .agg (numCells (1))) (by simp [results, Try.results20, go_sem, hcl3, hcl2, hcl4, hz2, hz4, hz8, p0, p1, p2, p3, p4]) rfl ⟨_, rfl, numE_rd (by omega), ?_⟩; exact five_set (((hB2.trans (hb2.mono hB2.size)).trans (hb4.mono (by omega))).trans (hb3.mono (by omega))) (by omega)))
      | (rw [FM.out (fun h => HNY.out h.1) (fun h => by first | omega | exact beq_f (by assumption) h.2) (fun h => by first | omega | exact h.2 (bne_f (by assumption)))]; (first | refine bodyPost_ret (v := .agg #[.int .i64 6, .int .i64 2, .int .i64 n, .string s, .slice a1 2 c1]) (by simp [results, Try.results20, go_sem, hcl2, hz2, hcl4, hz4, p0, p1, p2, p3, p4]) rfl ⟨_, rfl, rd_exo (show o = 2 by assumption) h1 h2 h3 h4 (exs_five HV.out (hb2.trans (hb4.mono hb2.size)) rfl), ?_⟩ | refine bodyPost_ret (v := .agg #[.int .i64 6, .int .i64 1, .int .i64 n, .string s, .slice a1 2 c1]) (by simp [results, Try.results20, go_sem, hcl2, hz2, hcl4, hz4, p0, p1, p2, p3, p4]) rfl ⟨_, rfl, rd_exo (show o = 1 by assumption) h1 h2 h3 h4 (exs_five HV.out (hb2.trans (hb4.mono hb2.size)) rfl), ?_⟩ | refine bodyPost_ret (v := .agg #[.int .i64 6, .int .i64 o, .int .i64 n, .string s, .slice a1 2 c1]) (by simp [results, Try.results20, go_sem, hcl2, hz2, hcl4, hz4, p0, p1, p2, p3, p4]) rfl ⟨_, rfl, rd_ex h1 h2 h3 h4 (exs_five HV.out (hb2.trans (hb4.mono hb2.size)) rfl), ?_⟩); exact five_set ((hB2.trans (hb2.mono hB2.size)).trans (hb4.mono (by omega))) (by omega))
end Go.Proofs.Ytimdnamhccipjaa
