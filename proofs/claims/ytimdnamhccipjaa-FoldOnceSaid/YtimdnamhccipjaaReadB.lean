/- A Bit: from a row's reading to what the walks take. -/
import Derived.Test.YtimdnamhccipjaaRowBase
import Derived.Test.YtimdnamhccipjaaFoldL
namespace Go.Proofs.Ytimdnamhccipjaa
open Go.ChangeShapes Go.WideShapes Go.ChangeAt Go.RowKit

theorem ce_bit : Try.prog.cellsOf 38 = 22 := by kernel_rfl
theorem ce_tab : Try.prog.cellsOf 32 = 15 := by kernel_rfl
theorem ce_strs : Try.prog.cellsOf 24 = 1 := by kernel_rfl
theorem ce_ths : Try.prog.cellsOf 28 = 1 := by kernel_rfl
theorem ce_acts : Try.prog.cellsOf 29 = 1 := by kernel_rfl
theorem ce_dds : Try.prog.cellsOf 30 = 1 := by kernel_rfl
theorem ce_ints : Try.prog.cellsOf 27 = 1 := by kernel_rfl

section
variable {H : Type} {enc : TypeId × Value → H} {W : World} {sp : Nat → Bool} {held : Bool}

theorem rd_int1 : ∀ m cs (y : DataW H × List MemPlace), DataW.trod enc Try.prog W 0 sp held m 3 cs = some y → ∃ n : Int, I64 n ∧ cs = [.int .i64 n] := by
  intro m cs y h
  obtain ⟨k, hk, _, wk⟩ := DataW.trod_int Try.underlying3 h
  exact ⟨k, i64_wf wk, hk⟩

instance : Inhabited Int := ⟨0⟩

theorem rd_ints {fuel : Nat} {cs : List Value} {x : DataW H × List MemPlace} (h : DataW.trod enc Try.prog W 0 sp held fuel 27 cs = some x) : ∃ v n f, cs = [v] ∧ Ints (fun b => b < W.heap.size) W v n f := by
  obtain ⟨v, n, c, hv, hsl, E, hE⟩ := sl_of Try.underlying27 ce_int (by omega) h (R := fun (n : Int) cs => I64 n ∧ cs = [.int .i64 n]) (α := Int) (fun m cs y _ => rd_int1 m cs y)
  refine ⟨v, n, fun i => if i < n then E i else 0, hv, ?_, fun i => ?_⟩
  · obtain ⟨a, cap, rfl, h1, h2, h3⟩ := hsl
    refine ⟨a, cap, rfl, h1, h2, fun h0 => ?_⟩
    obtain ⟨b, off, rfl, hF, hc⟩ := h3 h0
    refine ⟨b, off, rfl, hF, fun i hi j hj => ?_⟩
    have hj0 : j = 0 := by omega
    subst hj0
    have h4 := (hE i hi).2
    simp at h4
    rw [hc i hi 0 (by omega), h4]
    simp only []
    rw [if_pos hi]
  · by_cases hi : i < n
    · simp only []; rw [if_pos hi]; exact (hE i hi).1
    · simp only []; rw [if_neg hi]; exact i64 0

/-- Whatever slice: its length is one. -/
theorem rd_any {fuel : Nat} {t e : TypeId} {cs : List Value} {x : DataW H × List MemPlace} (ht : Try.prog.underlying t = some (.slice e)) (h : DataW.trod enc Try.prog W 0 sp held fuel t cs = some x) : ∃ v, cs = [v] ∧ ∃ a n c, v = .slice a n c ∧ n ≤ c ∧ c ≤ maxLen := by
  rcases DataW.trod_slice ht h with ⟨rfl, _⟩ | ⟨a, len, cap, elems, rest, n, rfl, rfl, _, _, hl, hm, _⟩
  · exact ⟨_, rfl, none, 0, 0, rfl, Nat.le_refl _, by unfold maxLen; omega⟩
  · exact ⟨_, rfl, some a, len, cap, rfl, hl, hm⟩

set_option maxRecDepth 20000 in
theorem rd_tab {fuel : Nat} {cs : List Value} {x : DataW H × List MemPlace} (h : DataW.trod enc Try.prog W 0 sp held fuel 32 cs = some x) : Tab (fun b => b < W.heap.size) W cs := by
  obtain ⟨xs, n, rfl, _, hl, hlen, hf⟩ := DataW.trod_struct Try.underlying32 h
  rw [ce_tab] at hl
  have hlen : xs.length = 15 := hlen
  match cs, hl, xs, hlen with
  | [c0, c1, c2, c3, c4, c5, c6, c7, c8, c9, c10, c11, c12, c13, c14], _, [y0, y1, y2, y3, y4, y5, y6, y7, y8, y9, y10, y11, y12, y13, y14], _ =>
    obtain ⟨i0, e0, _, _⟩ := DataW.trod_int Try.underlying3 (hf 0 _ rfl)
    obtain ⟨i1, e1, _, _⟩ := DataW.trod_int Try.underlying3 (hf 1 _ rfl)
    obtain ⟨i2, e2, _, _⟩ := DataW.trod_int Try.underlying3 (hf 2 _ rfl)
    obtain ⟨i3, e3, _, _⟩ := DataW.trod_int Try.underlying3 (hf 3 _ rfl)
    obtain ⟨v4, e4, h4⟩ := rd_any Try.underlying24 (hf 4 _ rfl)
    obtain ⟨i5, e5, _, _⟩ := DataW.trod_int Try.underlying3 (hf 5 _ rfl)
    obtain ⟨v6, e6, h6⟩ := rd_any Try.underlying27 (hf 6 _ rfl)
    obtain ⟨v7, e7, h7⟩ := rd_any Try.underlying27 (hf 7 _ rfl)
    obtain ⟨v8, e8, h8⟩ := rd_any Try.underlying28 (hf 8 _ rfl)
    obtain ⟨v9, e9, h9⟩ := rd_any Try.underlying29 (hf 9 _ rfl)
    obtain ⟨v10, e10, h10⟩ := rd_any Try.underlying30 (hf 10 _ rfl)
    obtain ⟨v11, n11, f11, e11, h11⟩ := rd_ints (hf 11 _ rfl)
    obtain ⟨v12, e12, h12⟩ := rd_any Try.underlying27 (hf 12 _ rfl)
    obtain ⟨v13, n13, f13, e13, h13⟩ := rd_ints (hf 13 _ rfl)
    obtain ⟨v14, e14, h14⟩ := rd_any Try.underlying27 (hf 14 _ rfl)
    have g0 : c0 = .int .i64 i0 := by simpa [ce_int] using e0
    have g1 : c1 = .int .i64 i1 := by simpa [ce_int] using e1
    have g2 : c2 = .int .i64 i2 := by simpa [ce_int] using e2
    have g3 : c3 = .int .i64 i3 := by simpa [ce_int] using e3
    have g4 : c4 = v4 := by simpa [ce_strs] using e4
    have g5 : c5 = .int .i64 i5 := by simpa [ce_int] using e5
    have g6 : c6 = v6 := by simpa [ce_ints] using e6
    have g7 : c7 = v7 := by simpa [ce_ints] using e7
    have g8 : c8 = v8 := by simpa [ce_ths] using e8
    have g9 : c9 = v9 := by simpa [ce_acts] using e9
    have g10 : c10 = v10 := by simpa [ce_dds] using e10
    have g11 : c11 = v11 := by simpa [ce_ints] using e11
    have g12 : c12 = v12 := by simpa [ce_ints] using e12
    have g13 : c13 = v13 := by simpa [ce_ints] using e13
    have g14 : c14 = v14 := by simpa [ce_ints] using e14
    subst g0 g1 g2 g3 g4 g5 g6 g7 g8 g9 g10 g11 g12 g13 g14
    refine ⟨⟨i0, i1, i2, i3, i5, _, _, _, _, _, _, _, _, _, _, rfl, fun v hv => ?_, ⟨n11, f11, h11⟩, n13, f13, h13⟩⟩
    simp only [List.mem_cons, List.not_mem_nil, or_false] at hv
    rcases hv with rfl | rfl | rfl | rfl | rfl | rfl | rfl | rfl
    · exact h4
    · exact h6
    · exact h7
    · exact h8
    · exact h9
    · exact h10
    · exact h12
    · exact h14

set_option maxRecDepth 20000 in
theorem rd_bit {fuel : Nat} {cs : List Value} {x : DataW H × List MemPlace} (h : DataW.trod enc Try.prog W 0 sp held fuel 38 cs = some x) : ∃ e l, BitAt (fun b => b < W.heap.size) W cs e l ∧ (Reached Try.prog 38 x.1 → e.fit ∧ St.fits l) := by
  obtain ⟨xs, n, rfl, hxe, hl, hlen, hf⟩ := DataW.trod_struct Try.underlying38 h
  rw [ce_bit] at hl
  have hlen : xs.length = 4 := hlen
  match cs, hl, xs, hlen, hxe, hf with
  | [c0, c1, c2, c3, c4, c5, c6, c7, c8, c9, c10, c11, c12, c13, c14, c15, c16, c17, c18, c19, c20, c21], _, [y0, y1, y2, y3], _, hxe, hf =>
    have h0 := hf 0 _ rfl
    have h1 := hf 1 _ rfl
    have h2 := hf 2 _ rfl
    have h3 := hf 3 _ rfl
    have ht := rd_tab h0
    obtain ⟨e, he, hfe⟩ := fit_ex _ _ _ h1
    obtain ⟨v, l, hv, hl, hfl⟩ := fit_sts h2
    obtain ⟨i, hi, _, wi⟩ := DataW.trod_int Try.underlying3 h3
    have a0 : c20 = v := by simpa [ce_sts] using hv
    have a1 : c21 = .int .i64 i := by simpa [ce_int] using hi
    subst a0 a1
    refine ⟨e, l, ⟨_, _, _, _, ?_, ht, he, hl, i64_wf wi⟩, fun hr => ?_⟩
    · simp [ce_tab, ce_ex]
    · rw [hxe] at hr
      exact ⟨hfe (reached_part Try.underlying38 hr (j := 1) (y := y1) rfl rfl), hfl (reached_part Try.underlying38 hr (j := 2) (y := y2) rfl rfl)⟩
end
end Go.Proofs.Ytimdnamhccipjaa
