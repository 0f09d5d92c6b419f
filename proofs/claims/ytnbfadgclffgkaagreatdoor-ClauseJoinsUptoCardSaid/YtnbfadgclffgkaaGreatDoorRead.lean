/- From a row's reading of its arguments to expressions and statements, as the walks take them. -/
import Derived.Test.YtnbfadgclffgkaaGreatDoorPart68311049
import Derived.Test.YtnbfadgclffgkaaGreatDoorRows
import Derived.ProofKit
import Derived.Deep.Slices
namespace Go.Proofs.YtnbfadgclffgkaaGreatDoor
open Go.RowKit Go.ChangeShapes Go.WideShapes
theorem addr_add {b off n : Nat} : (⟨b, off, none⟩ : Addr).add n = ⟨b, off + n, none⟩ := by
  unfold Addr.add
  by_cases h : n = 0 <;> simp [h]
theorem cell_in {W : World} {a : Addr} {v : Value} (h : W.cell? a = some v) : a.block < W.heap.size := by
  unfold World.cell? at h
  split at h
  · rename_i hh
    exact (Array.getElem?_eq_some_iff.1 hh).1
  · cases h
theorem sl_of {H : Type} {enc : TypeId × Value → H} {P : Program} {W : World} {sp : Nat → Bool} {held : Bool} {te tt : TypeId} {sz fuel : Nat} {cs : List Value} {x : DataW H × List MemPlace} (ht : P.underlying tt = some (.slice te)) (hc : P.cellsOf te = sz) (hsz : 0 < sz)
    (h : DataW.trod enc P W 0 sp held fuel tt cs = some x) {α : Type} [Inhabited α] (R : α → List Value → Prop) (hR : ∀ m cs y, m < fuel → DataW.trod enc P W 0 sp held m te cs = some y → ∃ e, R e cs) :
    ∃ v n c, cs = [v] ∧ SlAt (fun b => b < W.heap.size) W sz v n c ∧ ∃ E : Nat → α, ∀ i, i < n → R (E i) ((List.range sz).map (c i)) := by
  rcases DataW.trod_slice ht h with ⟨rfl, _⟩ | ⟨a, len, cap, elems, rest, n, rfl, rfl, _, _, hl, hm, hlen, hel, _, _⟩
  · exact ⟨_, 0, fun _ _ => undef, rfl, ⟨none, 0, rfl, Nat.le_refl _, by unfold maxLen; omega, fun h => absurd h (by simp)⟩, fun _ => default, fun i hi => absurd hi (by simp)⟩
  · rw [hc] at hel
    haveI : Inhabited (List Value) := ⟨[]⟩
    obtain ⟨F, hF⟩ := Deep.choose_lt (α := α × List Value) (n := len) (p := fun i y => W.cells? 0 (a.add (i * sz)) sz = some y.2 ∧ R y.1 y.2) (fun i hi => by
      have h1 := hel i hi
      rw [List.getElem?_eq_getElem (show i < elems.length by omega)] at h1
      obtain ⟨cs', h2, h3⟩ := Option.bind_eq_some_iff.1 h1
      obtain ⟨e, he⟩ := hR n cs' _ (Nat.lt_succ_self n) h3
      exact ⟨(e, cs'), h2, he⟩)
    refine ⟨_, len, fun i j => (F i).2.getD j undef, rfl, ⟨some a, cap, rfl, hl, hm, fun h0 => ?_⟩, fun i => (F i).1, fun i hi => ?_⟩
    · obtain ⟨b, off, spot⟩ := a
      have hc0 := (World.cells?_some (hF 0 h0).1)
      have hz : W.cell? ⟨b, off, spot⟩ = some ((F 0).2.getD 0 undef) := by
        have := hc0.2.2 0 hsz
        rw [List.getElem?_eq_getElem (by rw [hc0.2.1]; exact hsz)] at this
        simpa [Addr.add, List.getD, List.getElem?_eq_getElem (show 0 < (F 0).2.length by rw [hc0.2.1]; exact hsz)] using this
      have hspot : spot = none := by simpa using World.cell?_spot hz
      subst hspot
      refine ⟨b, off, rfl, cell_in hz, fun i hi j hj => ?_⟩
      have hci := World.cells?_some (hF i hi).1
      have := hci.2.2 j hj
      rw [addr_add, addr_add] at this
      show _ = some ((F i).2.getD j undef)
      rw [this, List.getD_eq_getElem?_getD, List.getElem?_eq_getElem (show j < (F i).2.length by rw [hci.2.1]; exact hj)]
      rfl
    · have hci := World.cells?_some (hF i hi).1
      have : (List.range sz).map (fun j => (F i).2.getD j undef) = (F i).2 := by
        apply List.ext_getElem?
        intro j
        by_cases hj : j < sz
        · rw [List.getElem?_map, List.getElem?_range hj, Option.map_some, List.getD_eq_getElem?_getD, List.getElem?_eq_getElem (show j < (F i).2.length by rw [hci.2.1]; exact hj)]
          rfl
        · rw [List.getElem?_eq_none (by simp; omega), List.getElem?_eq_none (by rw [hci.2.1]; omega)]
      rw [this]
      exact (hF i hi).2
theorem i64_wf {n : Int} (h : (Lit.int .i64 n).wf = true) : I64 n := by
  simp [Lit.wf, IntKind.min, IntKind.max] at h
  have h1 := of_decide_eq_true h.1
  have h2 := of_decide_eq_true h.2
  exact ⟨h1, h2⟩
theorem exs_of_sl {F : Nat → Prop} {w : World} {v : Value} {n : Nat} {c : Nat → Nat → Value} {E : Nat → Ex} (hs : SlAt F w 5 v n c) (h : ∀ i, i < n → RdEx F w (E i) ((List.range 5).map (c i))) : Exs F w ((List.range n).map E) v := by
  refine ⟨c, by simpa using hs, RdRow.of fun i hi => ?_⟩
  have := h i (by simpa using hi)
  rw [List.getElem_map, List.getElem_range]
  exact this
theorem sts_of_sl {F : Nat → Prop} {w : World} {v : Value} {n : Nat} {c : Nat → Nat → Value} {E : Nat → St} (hs : SlAt F w 6 v n c) (h : ∀ i, i < n → RdSt F w (E i) ((List.range 6).map (c i))) : Sts F w ((List.range n).map E) v := by
  refine ⟨c, by simpa using hs, RdSts.of fun i hi => ?_⟩
  have := h i (by simpa using hi)
  rw [List.getElem_map, List.getElem_range]
  exact this
theorem ce_ex : Tryz.prog.cellsOf 73 = 5 := by kernel_rfl
theorem ce_st : Tryz.prog.cellsOf 27 = 6 := by kernel_rfl
theorem ce_int : Tryz.prog.cellsOf 3 = 1 := by kernel_rfl
theorem ce_str : Tryz.prog.cellsOf 9 = 1 := by kernel_rfl
theorem ce_exs : Tryz.prog.cellsOf 25 = 1 := by kernel_rfl
theorem ce_sts : Tryz.prog.cellsOf 22 = 1 := by kernel_rfl
instance : Inhabited Ex := ⟨.mk 0 0 0 ⟨#[]⟩ []⟩
instance : Inhabited St := ⟨.mk 0 0 ⟨#[]⟩ [] [] []⟩
section
variable {H : Type} {enc : TypeId × Value → H} {W : World} {sp : Nat → Bool} {held : Bool}
set_option maxRecDepth 20000 in
theorem read_ex : ∀ (fuel : Nat) (cs : List Value) (x : DataW H × List MemPlace), DataW.trod enc Tryz.prog W 0 sp held fuel 73 cs = some x → ∃ e, RdEx (fun b => b < W.heap.size) W e cs := by
  intro fuel
  induction fuel using Nat.strongRecOn with
  | _ fuel ih =>
    intro cs x h
    obtain ⟨xs, n, rfl, _, hl, hlen, hf⟩ := DataW.trod_struct Tryz.underlying73 h
    rw [ce_ex] at hl
    have hlen : xs.length = 5 := hlen
    match cs, hl, xs, hlen with
    | [c0, c1, c2, c3, c4], _, [y0, y1, y2, y3, y4], _ =>
      have h0 := hf 0 _ rfl
      have h1 := hf 1 _ rfl
      have h2 := hf 2 _ rfl
      have h3 := hf 3 _ rfl
      have h4 := hf 4 _ rfl
      obtain ⟨k, hk, _, wk⟩ := DataW.trod_int Tryz.underlying3 h0
      obtain ⟨o, ho, _, wo⟩ := DataW.trod_int Tryz.underlying3 h1
      obtain ⟨m, hm, _, wm⟩ := DataW.trod_int Tryz.underlying3 h2
      obtain ⟨s, hs, _, ws⟩ := DataW.trod_string Tryz.underlying9 h3
      obtain ⟨v, len, c, hv, hsl, E, hE⟩ := sl_of Tryz.underlying25 ce_ex (by omega) h4 (R := RdEx (fun b => b < W.heap.size) W) (α := Ex) (fun m cs y hm => ih m (by omega) cs y)
      have e0 : c0 = .int .i64 k := by simpa [ce_int] using hk
      have e1 : c1 = .int .i64 o := by simpa [ce_int] using ho
      have e2 : c2 = .int .i64 m := by simpa [ce_int] using hm
      have e3 : c3 = .string s := by simpa [ce_str] using hs
      have e4 : c4 = v := by simpa [ce_exs] using hv
      subst e0 e1 e2 e3 e4
      exact ⟨_, rd_ex (i64_wf wk) (i64_wf wo) (i64_wf wm) ws (exs_of_sl hsl hE)⟩
theorem read_exs {fuel : Nat} {cs : List Value} {x : DataW H × List MemPlace} (h : DataW.trod enc Tryz.prog W 0 sp held fuel 25 cs = some x) : ∃ v l, cs = [v] ∧ Exs (fun b => b < W.heap.size) W l v := by
  obtain ⟨v, len, c, hv, hsl, E, hE⟩ := sl_of Tryz.underlying25 ce_ex (by omega) h (R := RdEx (fun b => b < W.heap.size) W) (α := Ex) (fun m cs y _ => read_ex m cs y)
  exact ⟨v, _, hv, exs_of_sl hsl hE⟩
set_option maxRecDepth 20000 in
theorem read_st : ∀ (fuel : Nat) (cs : List Value) (x : DataW H × List MemPlace), DataW.trod enc Tryz.prog W 0 sp held fuel 27 cs = some x → ∃ e, RdSt (fun b => b < W.heap.size) W e cs := by
  intro fuel
  induction fuel using Nat.strongRecOn with
  | _ fuel ih =>
    intro cs x h
    obtain ⟨xs, n, rfl, _, hl, hlen, hf⟩ := DataW.trod_struct Tryz.underlying27 h
    rw [ce_st] at hl
    have hlen : xs.length = 6 := hlen
    match cs, hl, xs, hlen with
    | [c0, c1, c2, c3, c4, c5], _, [y0, y1, y2, y3, y4, y5], _ =>
      have h0 := hf 0 _ rfl
      have h1 := hf 1 _ rfl
      have h2 := hf 2 _ rfl
      have h3 := hf 3 _ rfl
      have h4 := hf 4 _ rfl
      have h5 := hf 5 _ rfl
      obtain ⟨k, hk, _, wk⟩ := DataW.trod_int Tryz.underlying3 h0
      obtain ⟨m, hm, _, wm⟩ := DataW.trod_int Tryz.underlying3 h1
      obtain ⟨s, hs, _, ws⟩ := DataW.trod_string Tryz.underlying9 h2
      obtain ⟨v, l, hv, hx⟩ := read_exs h3
      obtain ⟨v2, len, c, hv2, hsl, E, hE⟩ := sl_of Tryz.underlying22 ce_st (by omega) h4 (R := RdSt (fun b => b < W.heap.size) W) (α := St) (fun m cs y hm => ih m (by omega) cs y)
      obtain ⟨v3, len3, c', hv3, hsl3, E3, hE3⟩ := sl_of Tryz.underlying22 ce_st (by omega) h5 (R := RdSt (fun b => b < W.heap.size) W) (α := St) (fun m cs y hm => ih m (by omega) cs y)
      have e0 : c0 = .int .i64 k := by simpa [ce_int] using hk
      have e1 : c1 = .int .i64 m := by simpa [ce_int] using hm
      have e2 : c2 = .string s := by simpa [ce_str] using hs
      have e3 : c3 = v := by simpa [ce_exs] using hv
      have e4 : c4 = v2 := by simpa [ce_sts] using hv2
      have e5 : c5 = v3 := by simpa [ce_sts] using hv3
      subst e0 e1 e2 e3 e4 e5
      exact ⟨_, rd_st (i64_wf wk) (i64_wf wm) ws hx (sts_of_sl hsl hE) (sts_of_sl hsl3 hE3)⟩
theorem read_sts {fuel : Nat} {cs : List Value} {x : DataW H × List MemPlace} (h : DataW.trod enc Tryz.prog W 0 sp held fuel 22 cs = some x) : ∃ v l, cs = [v] ∧ Sts (fun b => b < W.heap.size) W l v := by
  obtain ⟨v, len, c, hv, hsl, E, hE⟩ := sl_of Tryz.underlying22 ce_st (by omega) h (R := RdSt (fun b => b < W.heap.size) W) (α := St) (fun m cs y _ => read_st m cs y)
  exact ⟨v, _, hv, sts_of_sl hsl hE⟩
end
end Go.Proofs.YtnbfadgclffgkaaGreatDoor
