/- What the rows of the Clause laws share: a listed table, the statements of an argument with their bulk, a uint8. Printed by gen-rowcl.py. -/
import Derived.Test.YtnbfadgclffgkaaGreatDoorPart42809fa6
import Derived.Test.YtnbfadgclffgkaaGreatDoorPart928eedb6
import Derived.Test.YtnbfadgclffgkaaGreatDoorLawC
import Derived.Lib.LaidTab
namespace Go.Proofs.YtnbfadgclffgkaaGreatDoor
open Go.ChangeShapes Go.WideShapes Go.ChangeAt Go.RowKit
theorem tabIs_of_vars {P : Program} {W : World} {name : String} {k : IntKind} {zs : List Int} {g : Nat} {t e : TypeId} {n : Nat}
    (hg : P.globalNamed name = some g) (hty : (P.globals[g]?).map (·.type) = some t) (ht : P.underlying t = some (.array n e)) (he : P.underlying e = some (.int k)) (hce : P.cellsOf e = 1) (hct : P.cellsOf t = n) :
    ∀ (laid : List (String × DataW Unit)) (ps : List MemPlace), DataW.LaidVars P W laid ps → (name, Lib.tabData k zs) ∈ laid → Lib.TabIs P W name k zs
  | [], _, _, hm => by cases hm
  | (m, d) :: rest, ps, ⟨g', t', cs, fuel, p, q, hg', ht', hvar, hd, hr, _⟩, hm => by
    rcases List.mem_cons.1 hm with h | h
    · cases h
      obtain rfl := Option.some.inj (hg.symm.trans hg')
      obtain rfl := Option.some.inj (hty.symm.trans ht')
      unfold Lib.TabIs
      rw [hvar, ← Lib.cells_of_tab ht he hce hct hd]
    · exact tabIs_of_vars hg hty ht he hce hct rest q hr h
set_option maxRecDepth 100000 in
theorem arg_u8 {W : World} {base : Nat} {v : Value} (hv : Value.okWide Tryz.prog W .any base 5 v) : ∃ n : Nat, n ≤ 255 ∧ v = .int .u8 n := by
  have ht := Tryz.underlying5
  simp only [Value.okWide, ht, Cell.okWide] at hv
  cases v <;> simp_all [Cell.ok]
  obtain ⟨rfl, h⟩ := hv
  simp [IntKind.has, IntKind.min, IntKind.max, IntKind.signed, IntKind.bits] at h
  rename_i n
  exact ⟨n.toNat, by omega, by simp; omega⟩
section
variable {H : Type} {enc : TypeId × Value → H} {W : World} {v : Value} {d : DataW H} {p : List MemPlace}
set_option maxRecDepth 100000 in
theorem same_u8 {W' : World} (h : DataW.Trod enc Tryz.prog W 0 (fun _ => true) true 5 v d p) (hb : Below W.heap.size W W') (hlt : ∀ x ∈ p, x.block < W.heap.size) : DataW.Trod enc Tryz.prog W' 0 (fun b => decide (b < W.heap.size)) true 5 v d p :=
  Below.trod Tryz.laidOut (by kernel_rfl) (of_decide_eq_true (by kernel_rfl)) h hb hlt
set_option maxRecDepth 100000 in
theorem arg_sts_bulk {base : Nat} (hv : Value.okWide Tryz.prog W .any base 22 v) (h : DataW.Trod enc Tryz.prog W 0 (fun _ => true) true 22 v d p) : ∃ (l : List St), Sts (fun b => b < W.heap.size) W l v ∧ St.totals l ≤ Rows.uptoBulk d := by
  obtain ⟨a, len, cap, rfl⟩ := okWide_slice Tryz.underlying22 hv
  obtain ⟨fuel, hf⟩ := h
  obtain ⟨v', l, hv', hl⟩ := read_sts hf
  have : Value.slice a len cap = v' := by simpa [Value.cells] using hv'
  subst this
  exact ⟨l, hl, sts_bulk fuel l _ _ hf hl⟩
end
end Go.Proofs.YtnbfadgclffgkaaGreatDoor
