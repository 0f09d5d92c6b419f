/- From a row's reading of its arguments to expressions and statements, as the walks take them. -/
import Derived.Test.YtapjglpiofpbmaaPart46f78eed
import Derived.Test.YtapjglpiofpbmaaRows
import Derived.ProofKit
import Derived.Deep.Slices
namespace Go.Proofs.Ytapjglpiofpbmaa
open Go.RowKit Go.ChangeShapes Go.WideShapes

theorem addr_add {b off n : Nat} : (⟨b, off, none⟩ : Addr).add n = ⟨b, off + n, none⟩ := by
  unfold Addr.add
  by_cases h : n = 0 <;> simp [h]

theorem cell_in {W : World} {a : Addr} {v : Value} (h : W.cell? a = some v) : a.block < W.heap.size := by
  unfold World.cell? at h
  split at h
  · rename_i hh
    exact (Array.getElem?_eq_some_iff.1 hh).1
  · cases h

/-- A slice, read: an element for each index. -/
theorem sl_of {H : Type} {enc : TypeId × Value → H} {P : Program} {W : World} {sp : Nat → Bool} {held : Bool} {te tt : TypeId} {sz fuel : Nat} {cs : List Value} {x : DataW H × List MemPlace} (ht : P.underlying tt = some (.slice te)) (hc : P.cellsOf te = sz) (hsz : 0 < sz)
    (h : DataW.trod enc P W 0 sp held fuel tt cs = some x) {α : Type} [Inhabited α] (R : α → List Value → Prop) (hR : ∀ m cs y, m < fuel → DataW.trod enc P W 0 sp held m te cs = some y → ∃ e, R e cs) :
    ∃ v n c, cs = [v] ∧ SlAt (fun b => b < W.heap.size) W sz v n c ∧ ∃ E : Nat → α, ∀ i, i < n → R (E i) ((List.range sz).map (c i)) := by
  rcases DataW.trod_slice ht h with ⟨rfl, _⟩ | ⟨a, len, cap, elems, rest, n, rfl, rfl, _, _, hl, hm, hlen, hel, _, _⟩
  · exact ⟨_, 0, fun _ _ => undef, rfl, ⟨none, 0, rfl, Nat.le_refl _, by unfold maxLen; omega, fun h => absurd h (by simp)⟩, fun _ => default, fun i hi => absurd hi (by simp)⟩
  · rw [hc] at hel
    haveI : Inhabited (List Value) := ⟨[]⟩
    obtain ⟨F, hF⟩ := Deep.choose_lt (α := α × List Value) (n := len) (p := fun i y => W.cells? 0 (a.add (i * sz)) sz = some y.2 ∧ R y.1 y.2) (fun i hi => by
      have h1 := hel i hi
      rw [List.getElem?_eq_getElem (show i < elems.length by omega)] at h1
      obtain ⟨cs', h2, h3⟩ := Option.bind_eq_some_iff.1 h1
      obtain ⟨e, he⟩ := hR n cs' _ (Nat.lt_succ_self n) h3
      exact ⟨(e, cs'), h2, he⟩)
    refine ⟨_, len, fun i j => (F i).2.getD j undef, rfl, ⟨some a, cap, rfl, hl, hm, fun h0 => ?_⟩, fun i => (F i).1, fun i hi => ?_⟩
    · obtain ⟨b, off, spot⟩ := a
      have hc0 := (World.cells?_some (hF 0 h0).1)
      have hz : W.cell? ⟨b, off, spot⟩ = some ((F 0).2.getD 0 undef) := by
        have := hc0.2.2 0 hsz
        rw [List.getElem?_eq_getElem (by rw [hc0.2.1]; exact hsz)] at this
        simpa [Addr.add, List.getD, List.getElem?_eq_getElem (show 0 < (F 0).2.length by rw [hc0.2.1]; exact hsz)] using this
      have hspot : spot = none := by simpa using World.cell?_spot hz
      subst hspot
      refine ⟨b, off, rfl, cell_in hz, fun i hi j hj => ?_⟩
      have hci := World.cells?_some (hF i hi).1
      have := hci.2.2 j hj
      rw [addr_add, addr_add] at this
      show _ = some ((F i).2.getD j undef)
      rw [this, List.getD_eq_getElem?_getD, List.getElem?_eq_getElem (show j < (F i).2.length by rw [hci.2.1]; exact hj)]
      rfl
    · have hci := World.cells?_some (hF i hi).1
      have : (List.range sz).map (fun j => (F i).2.getD j undef) = (F i).2 := by
        apply List.ext_getElem?
        intro j
        by_cases hj : j < sz
        · rw [List.getElem?_map, List.getElem?_range hj, Option.map_some, List.getD_eq_getElem?_getD, List.getElem?_eq_getElem (show j < (F i).2.length by rw [hci.2.1]; exact hj)]
          rfl
        · rw [List.getElem?_eq_none (by simp; omega), List.getElem?_eq_none (by rw [hci.2.1]; omega)]
      rw [this]
      exact (hF i hi).2

theorem i64_wf {n : Int} (h : (Lit.int .i64 n).wf = true) : I64 n := by
  simp [Lit.wf, IntKind.min, IntKind.max] at h
  have h1 := of_decide_eq_true h.1
  have h2 := of_decide_eq_true h.2
  exact ⟨h1, h2⟩

theorem exs_of_sl {F : Nat → Prop} {w : World} {v : Value} {n : Nat} {c : Nat → Nat → Value} {E : Nat → Ex} (hs : SlAt F w 5 v n c) (h : ∀ i, i < n → RdEx F w (E i) ((List.range 5).map (c i))) : Exs F w ((List.range n).map E) v := by
  refine ⟨c, by simpa using hs, RdRow.of fun i hi => ?_⟩
  have := h i (by simpa using hi)
  rw [List.getElem_map, List.getElem_range]
  exact this
theorem sts_of_sl {F : Nat → Prop} {w : World} {v : Value} {n : Nat} {c : Nat → Nat → Value} {E : Nat → St} (hs : SlAt F w 6 v n c) (h : ∀ i, i < n → RdSt F w (E i) ((List.range 6).map (c i))) : Sts F w ((List.range n).map E) v := by
  refine ⟨c, by simpa using hs, RdSts.of fun i hi => ?_⟩
  have := h i (by simpa using hi)
  rw [List.getElem_map, List.getElem_range]
  exact this

theorem ce_int : Try.prog.cellsOf 3 = 1 := by kernel_rfl
theorem ce_str : Try.prog.cellsOf 9 = 1 := by kernel_rfl

instance : Inhabited Ex := ⟨.mk 0 0 0 ⟨#[]⟩ []⟩
instance : Inhabited St := ⟨.mk 0 0 ⟨#[]⟩ [] [] []⟩

section
variable {H : Type} {enc : TypeId × Value → H} {W : World} {sp : Nat → Bool} {held : Bool}



end
end Go.Proofs.Ytapjglpiofpbmaa
