/- The walk of clewref15.put: a name put in its place. -/
import Derived.Test.YtblhpiebheommaaGreatPutP
import Derived.Test.YtblhpiebheommaaGreatKindsChecksPart7
import Derived.Test.YtblhpiebheommaaGreatMakeAll
namespace Go.Proofs.YtblhpiebheommaaGreat
open Go.RowKit

theorem Tryz.infoName : (Tryz.prog.info? 63).map (fun i => (i.zero, i.size, i.bytes)) = some (some (.agg #[.string ⟨#[]⟩, .int .i64 0, .int .i64 0]), 3, 32) := by kernel_rfl

def nameCells (x : NameD) : List Value := [.string x.name, .int .i64 x.kind, .int .i64 x.num]
def namesCells : List NameD → List Value
  | [] => []
  | x :: l => nameCells x ++ namesCells l
theorem namesCells_len : ∀ l : List NameD, (namesCells l).length = l.length * 3
  | [] => rfl
  | x :: l => by simp [namesCells, nameCells, namesCells_len l]; omega
theorem namesCells_append : ∀ a b : List NameD, namesCells (a ++ b) = namesCells a ++ namesCells b
  | [], _ => rfl
  | x :: a, b => by simp [namesCells, namesCells_append a b]
theorem namesCells_get : ∀ (l : List NameD) (i : Nat) (hi : i < l.length) (j : Nat), j < 3 → (namesCells l)[i * 3 + j]? = (nameCells l[i])[j]?
  | x :: l, 0, _, j, hj => by
    show (nameCells x ++ namesCells l)[0 * 3 + j]? = _
    rw [List.getElem?_append_left (by simp [nameCells]; omega)]; simp
  | x :: l, i + 1, hi, j, hj => by
    show (nameCells x ++ namesCells l)[(i + 1) * 3 + j]? = _
    rw [List.getElem?_append_right (by simp [nameCells]; omega)]
    have := namesCells_get l i (by simpa using hi) j hj
    rw [show (i + 1) * 3 + j - (nameCells x).length = i * 3 + j by simp [nameCells]; omega]
    simpa using this
theorem namesCells_one (l : List NameD) : ∀ u ∈ namesCells l, u.oneCell' = true := by
  induction l with
  | nil => intro u hu; cases hu
  | cons x l ih =>
    intro u hu
    rcases List.mem_append.1 hu with h | h
    · simp [nameCells] at h; rcases h with rfl | rfl | rfl <;> rfl
    · exact ih u h

/-- A slice of the call's own holds these names. -/
def OwnN (lo : Nat) (w : World) (l : List NameD) (v : Value) : Prop := w.ownsRow lo 63 3 v l.length (namesCells l)
theorem OwnN.below {lo : Nat} {w w' : World} {l : List NameD} {v : Value} (h : OwnN lo w l v) (hb : Below w.heap.size w w') : OwnN lo w' l v := ownsRow_blk h fun g hg => hb.block g (ownsRow_in h g hg).2

/-- All their names and numbers are Go's. -/
def NamesFit (l : List NameD) : Prop := ∀ x ∈ l, x.name.size ≤ maxLen ∧ I64 x.kind ∧ I64 x.num

theorem OwnN.rd {lo : Nat} {w : World} {l : List NameD} {v : Value} (h : OwnN lo w l v) (hf : NamesFit l) : RdNames (NewB lo w.heap.size) w l v := by
  have h' := h
  rcases h.2 with ⟨rfl, e0⟩ | ⟨g, cap, cur, rfl, hg, hb, hn, hc, _⟩
  · have : l = [] := List.eq_nil_of_length_eq_zero e0
    subst this
    exact RdL.nil _ _ _ _ _ _ (Nat.zero_le _)
  · refine ⟨fun i j => (namesCells l).getD (i * 3 + j) undef, ⟨_, _, rfl, hn, hc, fun h0 => ⟨g, 0, rfl, ⟨hg, (Array.getElem?_eq_some_iff.1 hb).1⟩, fun i hi j hj => ?_⟩⟩, fun i hi => ?_⟩
    · have := own_cell h' (i * 3 + j) (by omega)
      rw [show 0 + i * 3 + j = i * 3 + j by omega]
      exact this
    · have hm := hf l[i] (List.getElem_mem hi)
      refine ⟨hm.1, hm.2.1, hm.2.2, ?_⟩
      have e : ∀ j, j < 3 → (namesCells l).getD (i * 3 + j) undef = ((nameCells l[i])[j]?).getD undef := fun j hj => by
        rw [List.getD_eq_getElem?_getD, namesCells_get l i hi j hj]
      simp only [rowCells, List.range_succ, List.range_zero, List.nil_append, List.cons_append, List.map_cons, List.map_nil]
      rw [e 0 (by omega), e 1 (by omega), e 2 (by omega)]
      rfl

theorem names_cells {F : Nat → Prop} {w wr : World} {t : List NameD} {b off : Nat} (hel : ∀ (wr : World), wr.heap[b]? = w.heap[b]? → ∀ k (hk : k < t.length), ∃ cs : List Value, Holds.name.R F w t[k] cs ∧ cs.length = 3 ∧ ∀ j u, cs[j]? = some u → wr.cell? ⟨b, off + k * 3 + j, none⟩ = some u)
    (hwr : wr.heap[b]? = w.heap[b]?) (p : Nat) (l : List NameD) (hl : ∀ i (hi : i < l.length), ∃ h : p + i < t.length, l[i] = t[p + i]) (o2 : Nat) (ho : o2 = off + p * 3) : ∀ j u, (namesCells l)[j]? = some u → wr.cell? ((⟨b, o2, none⟩ : Addr).add j) = some u := fun j u hu => by
  have hj : j < l.length * 3 := by rw [← namesCells_len]; exact (List.getElem?_eq_some_iff.1 hu).1
  have hadd : (⟨b, o2, none⟩ : Addr).add j = ⟨b, o2 + j, none⟩ := Addr.add_lit _ _ _
  rw [hadd]
  have hi : j / 3 < l.length := by omega
  obtain ⟨h, e⟩ := hl (j / 3) hi
  have e2 := namesCells_get l (j / 3) hi (j % 3) (Nat.mod_lt _ (by omega))
  rw [show j / 3 * 3 + j % 3 = j by omega, hu, e] at e2
  obtain ⟨cs, ⟨-, -, -, rfl⟩, -, hc⟩ := hel wr hwr (p + j / 3) h
  have := hc (j % 3) u e2.symm
  rw [← this]
  congr 2
  rw [ho, Nat.add_mul]
  omega

set_option maxRecDepth 20000 in
set_option maxHeartbeats 2000000 in
theorem putR_calls (t : List NameD) (x : NameD) (F : Nat → Prop) (w : World) (v : Value) (hF : Inn F w) (hr : RdNames F w t v) (h0 : 0 < t.length) (ht : t.length ≤ 1000000000) :
    Calls Tryz.prog 20 #[v, .agg #[.string x.name, .int .i64 x.kind, .int .i64 x.num]] w (fun e w' => ∃ u, e = .returned u ∧ OwnN w.heap.size w' (putN t x) u ∧ Below w.heap.size w w') := by
  obtain ⟨i0, hi, hz0, hz1, hz2⟩ := info_parts Tryz.infoName
  obtain ⟨a, cap, rfl, hl, hc, ha⟩ := hr.opn
  obtain ⟨b, off, rfl, hFb, hel⟩ := ha h0
  unfold maxLen at hc
  have HE := Lib.hid hel
  have hB0 : Below w.heap.size w (w.alloc (.cells #[.string x.name, .int .i64 x.kind, .int .i64 x.num] 63)) := (Below.refl _ w).alloc (Nat.le_refl _) _
  have hfb := hF b hFb
  clear hr ha hel
  go_enter Tryz.func20, Tryz.ntmps20
  go_wp2
  obtain ⟨W0, hW0⟩ : ∃ W0, w.alloc (.cells #[.string x.name, .int .i64 x.kind, .int .i64 x.num] 63) = W0 := ⟨_, rfl⟩
  have hlt0 : W0.heap.size = w.heap.size + 1 := by rw [← hW0]; simp
  have x0 : W0.cell? ⟨w.heap.size, 0, none⟩ = some (.string x.name) := by rw [← hW0]; simp
  have x1 : W0.cell? ⟨w.heap.size, 1, none⟩ = some (.int .i64 x.kind) := by rw [← hW0]; simp
  have x2 : W0.cell? ⟨w.heap.size, 2, none⟩ = some (.int .i64 x.num) := by rw [← hW0]; simp
  rw [hW0] at hB0
  simp only [hW0]
  clear hW0
  go_loopw [5] (fun i wr => ∃ (k : Nat), k ≤ t.length ∧ i = .int .i64 k ∧ Hid (∀ i (hi : i < t.length), i < k → ltS t[i].name x.name) ∧ Below W0.heap.size W0 wr) (fun i _ => t.length - (intOf i).toNat)
  case atStart => exact ⟨0, Nat.zero_le _, rfl, fun i _ h => absurd h (by omega), Below.refl _ _⟩
  case round =>
    obtain ⟨k, hk, rfl, hq, hB⟩ := hrel
    have y0 := (hB.cell (p := ⟨w.heap.size, 0, none⟩) (by show w.heap.size < W0.heap.size; omega)).trans x0
    have hwr : wr.heap[b]? = w.heap[b]? := (hB.block b (by omega)).trans (hB0.block b hfb)
    by_cases hlt : k < t.length
    · obtain ⟨cs, ⟨h1, h2, h3, rfl⟩, -, hcell⟩ := HE.out wr hwr k hlt
      have g0 := hcell 0 _ rfl
      simp only [Nat.add_zero] at g0
      clear hcell h1 h2 h3
      by_cases hls : ltS t[k].name x.name
      · have e1 : Op.bytesLess t[k].name.toList x.name.toList = true := by rw [less_eq]; exact dec_true hls
        have hnx : Hid (∀ i (hi : i < t.length), i < k + 1 → ltS t[i].name x.name) := fun i hi h => by
          by_cases hik : i = k
          · subst hik; exact hls
          · exact hq.out i hi (by omega)
        clear hq hls hwr
        go_wp2_with fail
        go_quiet (fail)
        go_wp2_with fail
        go_roundw
        case rel => exact ⟨k + 1, by omega, by go_num, hnx, hB.trans (below_drewN (Below.refl _ _) _)⟩
        case measure => simp [intOf]; omega
      · have e1 : Op.bytesLess t[k].name.toList x.name.toList = false := by rw [less_eq]; exact dec_false hls
        have hhd : Hid (headN t x.name = k) := headN_eq hq.out (fun _ => hls) (by omega)
        clear hq hls
        go_wp2_with fail
        go_quiet (fail)
        have hbl0 : (wr.drewN nq).heap[b]? = w.heap[b]? := hwr
        clear hwr
        have hszr := hB.size
        go_wp2_with (first | (at_builtin; refine wpList_append_own_at _ rfl _ _ 32 rfl w.heap.size 63 i0 _ 3 32 Tryz.underlying32 hi hz0 hz1 hz2 rfl (by decide) _ _ _ rfl hown2 _ (t.length - k) _ (namesCells (t.drop k)) rfl (by rw [namesCells_len, List.length_drop]) (names_cells HE.out hbl2 k (t.drop k) (fun i hi => ⟨by rw [List.length_drop] at hi; omega, List.getElem_drop⟩) (off + k * 3) rfl) (namesCells_one _) (by unfold maxLen; omega) (by omega) (by omega) ?_; intro v3 w3 hown3 hgrow3 _ hat3) | (at_builtin; refine wpList_append_own_at _ rfl _ _ 32 rfl w.heap.size 63 i0 _ 3 32 Tryz.underlying32 hi hz0 hz1 hz2 rfl (by decide) _ _ _ rfl (ownsRow_blk hown1 fun g hg => Below.heap_alloc w1 _ g (ownsRow_in hown1 g hg).2) ⟨w1.heap.size, 0, none⟩ 1 1 (nameCells x) rfl rfl (cells_new w1 [_, _, _] 63) (by simp [nameCells, Value.oneCell']) (by unfold maxLen; omega) (by omega) (by simp; omega) ?_; intro v2 w2 hown2 hgrow2 _ hat2; have HO1 := Lib.hid hown1; clear hown1; have hB2 : Below w.heap.size w w2 := ((hB0.trans (hB1.mono (by omega))).alloc (by omega) _).grown hgrow2 (by simp; omega) (fun g e => by have := (ownsRow_in HO1.out g e).1; omega); have hbl2 : w2.heap[b]? = w.heap[b]? := hB2.block b hfb; have hsz2 := hB2.size) | (at_builtin; refine wpList_append_own_at _ rfl _ _ 32 rfl w.heap.size 63 i0 _ 3 32 Tryz.underlying32 hi hz0 hz1 hz2 rfl (by decide) _ _ _ rfl (World.ownsRow_nil _ _ _ _) ⟨b, off, none⟩ k cap (namesCells (t.take k)) rfl (by rw [namesCells_len, List.length_take, Nat.min_eq_left hk]) (names_cells HE.out hbl0 0 (t.take k) (fun i hi => ⟨by rw [List.length_take] at hi; omega, by rw [List.getElem_take]; congr 1; omega⟩) off (by omega)) (namesCells_one _) (by unfold maxLen; omega) (by omega) (by show w.heap.size ≤ wr.heap.size; omega) ?_; intro v1 w1 hown1 hgrow1 _ hat1; rw [Nat.zero_add, List.nil_append] at hown1; have hB1 : Below W0.heap.size W0 w1 := (hB.trans (below_drewN (Below.refl _ _) _)).grown hgrow1 (by show W0.heap.size ≤ wr.heap.size; omega) (fun k e => by cases e); have z0 := (hB1.cell (p := ⟨w.heap.size, 0, none⟩) (by show w.heap.size < W0.heap.size; omega)).trans x0; have z1 := (hB1.cell (p := ⟨w.heap.size, 1, none⟩) (by show w.heap.size < W0.heap.size; omega)).trans x1; have z2 := (hB1.cell (p := ⟨w.heap.size, 2, none⟩) (by show w.heap.size < W0.heap.size; omega)).trans x2; have hsz1 := hB1.size))
        go_ret
        have hB3 : Below w.heap.size w w3 := hB2.grown hgrow3 (by omega) (fun g e => (ownsRow_in hown2 g e).1)
        refine ⟨_, rfl, ?_, hB3⟩
        unfold OwnN putN
        rw [hhd.out, namesCells_append, List.length_append, List.length_take, List.length_cons, List.length_drop, Nat.min_eq_left hk]
        have e : namesCells (x :: t.drop k) = nameCells x ++ namesCells (t.drop k) := rfl
        rw [e, ← List.append_assoc]
        have e2 : k + (t.length - k + 1) = k + 1 + (t.length - k) := by omega
        rw [e2]
        exact hown3
    · have hhd : Hid (headN t x.name = k) := headN_eq hq.out (fun h => absurd h hlt) (by omega)
      have hkt : k = t.length := by omega
      clear hq
      subst hkt
      by_cases hkc : t.length = cap
      · subst hkc
        go_wp2_with fail
        go_quiet (fail)
        have hdr : namesCells (t.drop t.length) = [] := by rw [List.drop_eq_nil_of_le (by omega)]; rfl
        have hbl0 : (wr.drewN nq).heap[b]? = w.heap[b]? := hwr
        clear hwr
        have hszr := hB.size
        go_wp2_with (first | (at_builtin; refine wpList_append_own_at _ rfl _ _ 32 rfl w.heap.size 63 i0 _ 3 32 Tryz.underlying32 hi hz0 hz1 hz2 rfl (by decide) _ _ _ rfl hown2 _ 0 _ (namesCells (t.drop t.length)) rfl (by rw [namesCells_len, List.length_drop]; omega) (fun j u hu => by rw [hdr] at hu; cases hu) (namesCells_one _) (by unfold maxLen; omega) (by omega) (by omega) ?_; intro v3 w3 hown3 hgrow3 _ hat3) | (at_builtin; refine wpList_append_own_at _ rfl _ _ 32 rfl w.heap.size 63 i0 _ 3 32 Tryz.underlying32 hi hz0 hz1 hz2 rfl (by decide) _ _ _ rfl (ownsRow_blk hown1 fun g hg => Below.heap_alloc w1 _ g (ownsRow_in hown1 g hg).2) ⟨w1.heap.size, 0, none⟩ 1 1 (nameCells x) rfl rfl (cells_new w1 [_, _, _] 63) (by simp [nameCells, Value.oneCell']) (by unfold maxLen; omega) (by omega) (by simp; omega) ?_; intro v2 w2 hown2 hgrow2 _ hat2; have HO1 := Lib.hid hown1; clear hown1; have hB2 : Below w.heap.size w w2 := ((hB0.trans (hB1.mono (by omega))).alloc (by omega) _).grown hgrow2 (by simp; omega) (fun g e => by have := (ownsRow_in HO1.out g e).1; omega); have hbl2 : w2.heap[b]? = w.heap[b]? := hB2.block b hfb; have hsz2 := hB2.size) | (at_builtin; refine wpList_append_own_at _ rfl _ _ 32 rfl w.heap.size 63 i0 _ 3 32 Tryz.underlying32 hi hz0 hz1 hz2 rfl (by decide) _ _ _ rfl (World.ownsRow_nil _ _ _ _) ⟨b, off, none⟩ t.length t.length (namesCells (t.take t.length)) rfl (by rw [namesCells_len, List.length_take, Nat.min_eq_left hk]) (names_cells HE.out hbl0 0 (t.take t.length) (fun i hi => ⟨by rw [List.length_take] at hi; omega, by rw [List.getElem_take]; congr 1; omega⟩) off (by omega)) (namesCells_one _) (by unfold maxLen; omega) (by omega) (by show w.heap.size ≤ wr.heap.size; omega) ?_; intro v1 w1 hown1 hgrow1 _ hat1; rw [Nat.zero_add, List.nil_append] at hown1; have hB1 : Below W0.heap.size W0 w1 := (hB.trans (below_drewN (Below.refl _ _) _)).grown hgrow1 (by show W0.heap.size ≤ wr.heap.size; omega) (fun k e => by cases e); have z0 := (hB1.cell (p := ⟨w.heap.size, 0, none⟩) (by show w.heap.size < W0.heap.size; omega)).trans x0; have z1 := (hB1.cell (p := ⟨w.heap.size, 1, none⟩) (by show w.heap.size < W0.heap.size; omega)).trans x1; have z2 := (hB1.cell (p := ⟨w.heap.size, 2, none⟩) (by show w.heap.size < W0.heap.size; omega)).trans x2; have hsz1 := hB1.size))
        go_ret
        have hB3 : Below w.heap.size w w3 := hB2.grown hgrow3 (by omega) (fun g e => (ownsRow_in hown2 g e).1)
        refine ⟨_, rfl, ?_, hB3⟩
        unfold OwnN putN
        rw [hhd.out, namesCells_append, List.length_append, List.length_take, List.length_cons, List.length_drop, Nat.min_eq_left hk]
        have e : namesCells (x :: t.drop t.length) = nameCells x ++ namesCells (t.drop t.length) := rfl
        rw [e, ← List.append_assoc]
        have e2 : t.length + (t.length - t.length + 1) = t.length + 1 + 0 := by omega
        rw [e2]
        exact hown3
      · go_wp2_with fail
        go_quiet (fail)
        have hdr : namesCells (t.drop t.length) = [] := by rw [List.drop_eq_nil_of_le (by omega)]; rfl
        have hbl0 : (wr.drewN nq).heap[b]? = w.heap[b]? := hwr
        clear hwr
        have hszr := hB.size
        go_wp2_with (first | (at_builtin; refine wpList_append_own_at _ rfl _ _ 32 rfl w.heap.size 63 i0 _ 3 32 Tryz.underlying32 hi hz0 hz1 hz2 rfl (by decide) _ _ _ rfl hown2 _ 0 _ (namesCells (t.drop t.length)) rfl (by rw [namesCells_len, List.length_drop]; omega) (fun j u hu => by rw [hdr] at hu; cases hu) (namesCells_one _) (by unfold maxLen; omega) (by omega) (by omega) ?_; intro v3 w3 hown3 hgrow3 _ hat3) | (at_builtin; refine wpList_append_own_at _ rfl _ _ 32 rfl w.heap.size 63 i0 _ 3 32 Tryz.underlying32 hi hz0 hz1 hz2 rfl (by decide) _ _ _ rfl (ownsRow_blk hown1 fun g hg => Below.heap_alloc w1 _ g (ownsRow_in hown1 g hg).2) ⟨w1.heap.size, 0, none⟩ 1 1 (nameCells x) rfl rfl (cells_new w1 [_, _, _] 63) (by simp [nameCells, Value.oneCell']) (by unfold maxLen; omega) (by omega) (by simp; omega) ?_; intro v2 w2 hown2 hgrow2 _ hat2; have HO1 := Lib.hid hown1; clear hown1; have hB2 : Below w.heap.size w w2 := ((hB0.trans (hB1.mono (by omega))).alloc (by omega) _).grown hgrow2 (by simp; omega) (fun g e => by have := (ownsRow_in HO1.out g e).1; omega); have hbl2 : w2.heap[b]? = w.heap[b]? := hB2.block b hfb; have hsz2 := hB2.size) | (at_builtin; refine wpList_append_own_at _ rfl _ _ 32 rfl w.heap.size 63 i0 _ 3 32 Tryz.underlying32 hi hz0 hz1 hz2 rfl (by decide) _ _ _ rfl (World.ownsRow_nil _ _ _ _) ⟨b, off, none⟩ t.length cap (namesCells (t.take t.length)) rfl (by rw [namesCells_len, List.length_take, Nat.min_eq_left hk]) (names_cells HE.out hbl0 0 (t.take t.length) (fun i hi => ⟨by rw [List.length_take] at hi; omega, by rw [List.getElem_take]; congr 1; omega⟩) off (by omega)) (namesCells_one _) (by unfold maxLen; omega) (by omega) (by show w.heap.size ≤ wr.heap.size; omega) ?_; intro v1 w1 hown1 hgrow1 _ hat1; rw [Nat.zero_add, List.nil_append] at hown1; have hB1 : Below W0.heap.size W0 w1 := (hB.trans (below_drewN (Below.refl _ _) _)).grown hgrow1 (by show W0.heap.size ≤ wr.heap.size; omega) (fun k e => by cases e); have z0 := (hB1.cell (p := ⟨w.heap.size, 0, none⟩) (by show w.heap.size < W0.heap.size; omega)).trans x0; have z1 := (hB1.cell (p := ⟨w.heap.size, 1, none⟩) (by show w.heap.size < W0.heap.size; omega)).trans x1; have z2 := (hB1.cell (p := ⟨w.heap.size, 2, none⟩) (by show w.heap.size < W0.heap.size; omega)).trans x2; have hsz1 := hB1.size))
        go_ret
        have hB3 : Below w.heap.size w w3 := hB2.grown hgrow3 (by omega) (fun g e => (ownsRow_in hown2 g e).1)
        refine ⟨_, rfl, ?_, hB3⟩
        unfold OwnN putN
        rw [hhd.out, namesCells_append, List.length_append, List.length_take, List.length_cons, List.length_drop, Nat.min_eq_left hk]
        have e : namesCells (x :: t.drop t.length) = nameCells x ++ namesCells (t.drop t.length) := rfl
        rw [e, ← List.append_assoc]
        have e2 : t.length + (t.length - t.length + 1) = t.length + 1 + 0 := by omega
        rw [e2]
        exact hown3
end Go.Proofs.YtblhpiebheommaaGreat
