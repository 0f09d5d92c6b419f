/- The law ShowSource returns true at every source whose bulk is within the given bound, and leaves it as it was. Conditions: the listed variables of Go's library read as the program's own text lays them (the card ties them); none else beyond the given row. Printed by gen-rowlaidu.py. -/
import Derived.Test.YtdeecfkipknkbaaGreatDoorPartd1389636
import Derived.Test.YtdeecfkipknkbaaGreatDoorLawShowSource
import Derived.Test.YtdeecfkipknkbaaGreatDoorCards
import Derived.Test.YtdeecfkipknkbaaGreatDoorTie
import Derived.Stop.Joined
import Derived.SevenTiedAt
import Derived.Lib.LaidTab
namespace Go.Proofs.YtdeecfkipknkbaaGreatDoor
set_option maxRecDepth 100000
open Go.ChangeShapes Go.WideShapes Go.ChangeAt Go.RowKit
theorem tabIs_of_vars {P : Program} {W : World} {name : String} {k : IntKind} {zs : List Int} {g : Nat} {t e : TypeId} {n : Nat}
 (hg : P.globalNamed name = some g) (hty : (P.globals[g]?).map (·.type) = some t) (ht : P.underlying t = some (.array n e)) (he : P.underlying e = some (.int k)) (hce : P.cellsOf e = 1) (hct : P.cellsOf t = n) :
 ∀ (laid : List (String × DataW Unit)) (ps : List MemPlace), DataW.LaidVars P W laid ps → (name, Lib.tabData k zs) ∈ laid → Lib.TabIs P W name k zs
 | [], _, _, hm => by cases hm
 | (m, d) :: rest, ps, ⟨g', t', cs, fuel, p, q, hg', ht', hvar, hd, hr, _⟩, hm => by
  rcases List.mem_cons.1 hm with h | h
  · cases h
    obtain rfl := Option.some.inj (hg.symm.trans hg')
    obtain rfl := Option.some.inj (hty.symm.trans ht')
    unfold Lib.TabIs
    rw [hvar, ← Lib.cells_of_tab ht he hce hct hd]
  exact tabIs_of_vars hg hty ht he hce hct rest q hr h
theorem showSource_door (os : Os) (args : Array Value) : laidMetH Tryz.prog Rows.showSourceUptoRow.laid ((World.doorLaid Tryz.prog 48 os).forCall (fun _ _ => 0) ⟨#[], args, []⟩).memory :=
 laidMetH_of_parts3 (fuel := 8) (laidMet_of_run' 8 (by kernel_rfl) (by kernel_rfl)) (by kernel_rfl) (by kernel_rfl)
theorem showSource_vars {W : World} (h : laidMetH Tryz.prog Rows.showSourceUptoRow.laid W) : TB W ∧ TA W := by
 have h2 : laidMet Tryz.prog (Rows.showSourceUptoRow.laid.filter fun x => x.2.handleName?.isNone) W := by
  unfold laidMetH at h
  split at h
  · rename_i e
    have e2 : (Rows.showSourceUptoRow.laid.filter fun x => x.2.handleName?.isNone) = Rows.showSourceUptoRow.laid := by kernel_rfl
    rw [e2]
    exact h
  exact h.1
 obtain ⟨ps, hv, -⟩ := h2
 refine ⟨tabIs_of_vars (g := 2) (by kernel_rfl) (by kernel_rfl) Tryz.underlying305 Tryz.underlying157 (by kernel_rfl) (by kernel_rfl) _ _ hv ?_, tabIs_of_vars (g := 0) (by kernel_rfl) (by kernel_rfl) Tryz.underlying254 Tryz.underlying5 (by kernel_rfl) (by kernel_rfl) _ _ hv ?_⟩
 · refine List.mem_of_getElem? (i := 2) ?_
   kernel_rfl
 refine List.mem_of_getElem? (i := 4) ?_
 kernel_rfl
theorem showSource_lifted (os : Os) (started : os.Started) (H : Type) (enc : TypeId × Value → H) (I : Stop.Interp) :
 ReturnsInHanded {} Tryz.checked os 3 .any (fun w args => ((Rows.OpenSpec.upto Rows.showSourceSpec).pre enc Tryz.prog Tryz.f3 Rows.showSourceUptoRow.domain false w args ∧ laidMetH Tryz.prog Rows.showSourceUptoRow.laid w) ∧ sizedMet enc Tryz.prog Tryz.f3 (Rows.OpenSpec.upto Rows.showSourceSpec) false w args)
  (((Rows.OpenSpec.upto Rows.showSourceSpec).at I).post enc Tryz.prog Tryz.f3 false true false false) := by
 refine returnsInHanded_laid_bounded (C := Tryz.checked) (s := (Rows.OpenSpec.upto Rows.showSourceSpec)) (k := Rows.uptoSmall) rfl (X := (fun w _ => laidMetH Tryz.prog Rows.showSourceUptoRow.laid w)) (fun _ _ _ hh h => h.of_heap hh) Tryz.own started (by kernel_rfl) Tryz.func3
  (OpenSpec.witness_laid (enc := enc) (C := Tryz.checked) (s := (Rows.OpenSpec.upto Rows.showSourceSpec)) (k := Rows.uptoSmall) (X := (fun w _ => laidMetH Tryz.prog Rows.showSourceUptoRow.laid w)) rfl false (World.doorLaid Tryz.prog 48 os) #[.agg #[.string ⟨#[]⟩, .string ⟨#[]⟩, .string ⟨#[]⟩, .int .i64 0, .int .i64 0, .slice none 0 0, .slice none 0 0, .slice none 0 0, .slice none 0 0, .slice none 0 0, .slice none 0 0, .slice none 0 0, .slice none 0 0]] 8 rfl (World.shaped_of_RefB (by kernel_rfl) (by kernel_rfl)) (by kernel_rfl)
   (x := ([.agg [.lit (.string []), .lit (.string []), .lit (.string []), .lit (.int .i64 0), .lit (.int .i64 0), .nil, .nil, .nil, .nil, .nil, .nil, .nil, .nil]], [], [])) (by kernel_rfl) rfl (by kernel_rfl) (by kernel_rfl) (showSource_door os _)) ?_
 intro W base args ds gs before hval0 hW hk hX hsh
 have hval : ∀ (j : Nat) t v, Tryz.f3.params[j]? = some t → args[j]? = some v → Value.okWide Tryz.prog W .any base t v := hval0
 have hW' := hW
 obtain ⟨p, q, hA0, hV, rfl, hfz, hnd⟩ := hW
 have hA : DataW.TrodAll enc Tryz.prog W 0 (fun _ => true) true Tryz.f3.params.toList args.toList ds p := hA0
 rw [Tryz.params3] at hA hval
 obtain ⟨v0, d0, rfl, rfl, h0⟩ := trodAll_one hA
 obtain ⟨rfl, rfl⟩ := trodVars_none hV
 clear hA0 hval0
 simp only [List.append_nil] at hW' hk
 have hlt : ∀ x ∈ p, x.block < W.heap.size := fun x hx => by simpa using hW'.lt x (by simpa using hx)
 obtain ⟨e0, cs0, rfl, he0, hb0⟩ := arg_src_nodes (hval 0 _ v0 rfl rfl) h0
 have hk0 : Rows.uptoBulk d0 ≤ 1048576 := Nat.le_trans (bulk_le (l := [d0]) (by simp)) (bulk_bound hk)
 obtain ⟨hTB, hTA⟩ := showSource_vars hX
 refine (showSource_calls _ W e0 _ (inn W) (mx_of hsh) hTB hTA (Nat.le_trans hb0 hk0) he0).mono fun r W' ⟨hr, hb⟩ => ?_
 subst hr
 exact ⟨_, rfl, ⟨_, _, _, [], _, [], hW', shut_true, trodAll_mk1 (same_src h0 hb fun x hx => hlt x hx), rfl, hb.frame _, fun h => by cases h⟩⟩
end Go.Proofs.YtdeecfkipknkbaaGreatDoor
