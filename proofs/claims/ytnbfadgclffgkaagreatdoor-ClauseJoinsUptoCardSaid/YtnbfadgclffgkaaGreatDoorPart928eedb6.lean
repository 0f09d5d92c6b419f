/- What the rows of the layer tree share: the program's own facts, and each kind of argument as the walks take it. -/
import Derived.Test.YtnbfadgclffgkaaGreatDoorRows
import Derived.Test.YtnbfadgclffgkaaGreatDoorRead
import Derived.Test.YtnbfadgclffgkaaGreatDoorPartfd454d89
import Derived.HandedShaped
import Derived.Shelf.Vars
import Derived.ProofKit
import Derived.Test.YtnbfadgclffgkaaGreatDoorPart6ffdb4af
namespace Go.Proofs.YtnbfadgclffgkaaGreatDoor
open Go.ChangeShapes Go.WideShapes Go.ChangeAt Go.RowKit
theorem Tryz.own : ownKnob Tryz.prog.godebug = none := by kernel_rfl
theorem Tryz.laidOut : laidOutB Tryz.prog = true := by kernel_rfl
theorem inn (W : World) : Inn (fun b => b < W.heap.size) W := fun _ h => h
section
variable {H : Type} {enc : TypeId × Value → H} {W : World} {base : Nat} {v : Value} {d : DataW H} {p : List MemPlace}
set_option maxRecDepth 100000 in
theorem same_sts {W' : World} (h : DataW.Trod enc Tryz.prog W 0 (fun _ => true) true 22 v d p) (hb : Below W.heap.size W W') (hlt : ∀ x ∈ p, x.block < W.heap.size) : DataW.Trod enc Tryz.prog W' 0 (fun b => decide (b < W.heap.size)) true 22 v d p :=
  Below.trod Tryz.laidOut (by kernel_rfl) (of_decide_eq_true (by kernel_rfl)) h hb hlt
theorem shut_true {W' : World} {b : Nat} {sp : Nat → Bool} {hd : Bool} : DataW.TrodAll enc Tryz.prog W' b sp hd [4] [.bool true] [.lit (.bool true)] [] := trodAll_mk1 (shut_bool Tryz.underlying4 _)
end
end Go.Proofs.YtnbfadgclffgkaaGreatDoor
/- A row's arguments that are a Source or a slice of strings. -/
namespace Go.Proofs.YtnbfadgclffgkaaGreatDoor
open Go.ChangeShapes Go.WideShapes Go.ChangeAt Go.RowKit
section
variable {H : Type} {enc : TypeId × Value → H} {W : World} {base : Nat} {v : Value} {d : DataW H} {p : List MemPlace}
end
end Go.Proofs.YtnbfadgclffgkaaGreatDoor
/- The bulk of a Source's reading bounds the lengths of its declarations. -/
namespace Go.Proofs.YtnbfadgclffgkaaGreatDoor
open Go.RowKit Go.ChangeShapes Go.WideShapes
section
variable {H : Type} {enc : TypeId × Value → H} {W : World}
set_option maxRecDepth 100000 in
theorem arg_int {v : Value} {base : Nat} (hv : Value.okWide Tryz.prog W .any base 3 v) : ∃ n, v = .int .i64 n := okWide_int Tryz.underlying3 hv
set_option maxRecDepth 100000 in
theorem same_int {v : Value} {d : DataW H} {p : List MemPlace} {W' : World} (h : DataW.Trod enc Tryz.prog W 0 (fun _ => true) true 3 v d p) (hb : Below W.heap.size W W') (hlt : ∀ x ∈ p, x.block < W.heap.size) : DataW.Trod enc Tryz.prog W' 0 (fun b => decide (b < W.heap.size)) true 3 v d p :=
  Below.trod Tryz.laidOut (by kernel_rfl) (of_decide_eq_true (by kernel_rfl)) h hb hlt
theorem bulk_le {d : DataW H} : ∀ {l : List (DataW H)}, d ∈ l → Rows.uptoBulk d ≤ Rows.uptoBulkAll l
  | x :: r, h => by
    simp only [Rows.uptoBulkAll]
    rcases List.mem_cons.1 h with rfl | h
    · omega
    · have := bulk_le h
      omega
theorem bulk_bound {l : List (DataW H)} (hk : Rows.uptoSmall H l = true) : Rows.uptoBulkAll l ≤ 1048576 := of_decide_eq_true hk
end
end Go.Proofs.YtnbfadgclffgkaaGreatDoor
/- The bulk of a reading bounds how many expressions and statements there are. -/
namespace Go.Proofs.YtnbfadgclffgkaaGreatDoor
open Go.RowKit Go.ChangeShapes Go.WideShapes
section
variable {H : Type} {enc : TypeId × Value → H} {W : World} {sp : Nat → Bool} {held : Bool}
theorem sum_bulk {α : Type} (f : α → Nat) : ∀ (l : List α) (ds : List (DataW H)), l.length = ds.length → (∀ i (h : i < l.length) (h' : i < ds.length), f l[i] ≤ Rows.uptoBulk ds[i]) → (l.map f).sum ≤ Rows.uptoBulkAll ds
  | [], _, _, _ => Nat.zero_le _
  | x :: l, [], h, _ => by simp at h
  | x :: l, d :: ds, h, hf => by
    have h1 := hf 0 (by simp) (by simp)
    have h2 := sum_bulk f l ds (by simpa using h) (fun i hi hi' => by
      have := hf (i + 1) (by simpa using hi) (by simpa using hi')
      simpa using this)
    simp only [List.getElem_cons_zero] at h1
    simp only [List.map_cons, List.sum_cons, Rows.uptoBulkAll]
    omega
theorem rdl_bulk {α : Type} {R : Holds α} {P : Program} {te tt : TypeId} {sz fuel : Nat} {F : Nat → Prop} {l : List α} {v : Value} {x : DataW H × List MemPlace} (ht : P.underlying tt = some (.slice te)) (hc : P.cellsOf te = sz) (hr : RdL R sz F W l v)
    (h : DataW.trod enc P W 0 sp held fuel tt [v] = some x) (f : α → Nat) (hf : ∀ m e cs y, m < fuel → DataW.trod enc P W 0 sp held m te cs = some y → R.R F W e cs → f e ≤ Rows.uptoBulk y.1) : (l.map f).sum ≤ Rows.uptoBulk x.1 := by
  obtain ⟨a, cap, rfl, hl, hcap, ha⟩ := hr.opn
  rcases DataW.trod_slice ht h with ⟨e, _⟩ | ⟨a', len, cap', elems, rest, n, rfl, e, rfl, _, hl', hm, hlen, hel', _, _⟩
  · simp only [List.cons.injEq, Value.slice.injEq, and_true] at e
    rw [List.eq_nil_of_length_eq_zero e.2.1]
    exact Nat.zero_le _
  · simp only [List.cons.injEq, Value.slice.injEq, and_true] at e
    obtain ⟨rfl, rfl, rfl⟩ := e
    have h1 : (l.map f).sum ≤ Rows.uptoBulkAll (elems.map (·.1)) := by
      refine sum_bulk f l _ (by simp [hlen]) (fun i hi hi' => ?_)
      obtain ⟨b, off, hab, hFb, hel⟩ := ha (by omega)
      cases hab
      obtain ⟨cs, hcs, hlc, hcell⟩ := hel W rfl i hi
      have h1 := hel' i hi
      have hie : i < elems.length := by omega
      rw [hc, List.getElem?_eq_getElem hie] at h1
      obtain ⟨cs', h2, h3⟩ := Option.bind_eq_some_iff.1 h1
      have hci := World.cells?_some h2
      have hcc : cs' = cs := by
        apply List.ext_getElem?
        intro j
        by_cases hj : j < sz
        · have h4 := hci.2.2 j hj
          rw [addr_add, addr_add] at h4
          have h5 := hcell j cs[j] (List.getElem?_eq_getElem (by omega))
          rw [← h4, h5, List.getElem?_eq_getElem (by omega)]
        · rw [List.getElem?_eq_none (by rw [hci.2.1]; omega), List.getElem?_eq_none (by omega)]
      subst hcc
      have h6 := hf n _ cs' _ (Nat.lt_succ_self n) h3 hcs
      simpa using h6
    have h2 : Rows.uptoBulkAll (elems.map (·.1)) ≤ Rows.uptoBulk (DataW.slice (elems.map (·.1)) (rest.map (·.1))) := by
      simp only [Rows.uptoBulk]
      omega
    exact Nat.le_trans h1 h2
theorem Exs.rdl {F : Nat → Prop} {w : World} {l : List Ex} {v : Value} (h : Exs F w l v) : RdL Holds.ex 5 F w l v := by
  obtain ⟨c, h1, h2⟩ := h
  exact ⟨c, h1, fun i hi => h2.get i hi⟩
theorem Sts.rdl {F : Nat → Prop} {w : World} {l : List St} {v : Value} (h : Sts F w l v) : RdL Holds.st 6 F w l v := by
  obtain ⟨c, h1, h2⟩ := h
  exact ⟨c, h1, fun i hi => h2.get i hi⟩
theorem Ex.sizes_sum (l : List Ex) : Ex.sizes l = (l.map Ex.size).sum := by
  induction l with
  | nil => rfl
  | cons e l ih => simp [Ex.sizes, ih]
theorem St.totals_sum (l : List St) : St.totals l = (l.map St.total).sum := by
  induction l with
  | nil => rfl
  | cons e l ih => simp [St.totals, ih]
set_option maxRecDepth 20000 in
theorem ex_bulk {F : Nat → Prop} : ∀ (fuel : Nat) (e : Ex) (cs : List Value) (x : DataW H × List MemPlace), DataW.trod enc Tryz.prog W 0 sp held fuel 73 cs = some x → RdEx F W e cs → e.size ≤ Rows.uptoBulk x.1 := by
  intro fuel
  induction fuel using Nat.strongRecOn with
  | _ fuel ih =>
    intro e cs x h hr
    obtain ⟨k, o, n, s, args⟩ := e
    obtain ⟨-, -, -, -, v, c, rfl, hsl, hrow⟩ := hr
    obtain ⟨xs, m, rfl, rfl, hl, hlen, hf⟩ := DataW.trod_struct Tryz.underlying73 h
    have hlen : xs.length = 5 := hlen
    match xs, hlen with
    | [y0, y1, y2, y3, y4], _ =>
      have h4 := hf 4 _ rfl
      have h4' : DataW.trod enc Tryz.prog W 0 sp held m 25 [v] = some y4 := by simpa [ce_exs] using h4
      have hb := rdl_bulk Tryz.underlying25 ce_ex (Exs.rdl ⟨c, hsl, hrow⟩) h4' Ex.size (fun m' e cs y hm hy hR => ih m' (by omega) e cs y hy hR)
      rw [← Ex.sizes_sum] at hb
      show 1 + Ex.sizes args ≤ Rows.uptoBulk (DataW.agg [y0.1, y1.1, y2.1, y3.1, y4.1])
      simp only [Rows.uptoBulk, Rows.uptoBulkAll]
      have := bulk_one y0.1
      omega
theorem exs_bulk {F : Nat → Prop} (fuel : Nat) (l : List Ex) (v : Value) (x : DataW H × List MemPlace) (h : DataW.trod enc Tryz.prog W 0 sp held fuel 25 [v] = some x) (hr : Exs F W l v) : Ex.sizes l ≤ Rows.uptoBulk x.1 := by
  have hb := rdl_bulk Tryz.underlying25 ce_ex hr.rdl h Ex.size (fun m' e cs y _ hy hR => ex_bulk m' e cs y hy hR)
  rw [← Ex.sizes_sum] at hb
  exact hb
set_option maxRecDepth 20000 in
theorem st_bulk {F : Nat → Prop} : ∀ (fuel : Nat) (e : St) (cs : List Value) (x : DataW H × List MemPlace), DataW.trod enc Tryz.prog W 0 sp held fuel 27 cs = some x → RdSt F W e cs → e.total ≤ Rows.uptoBulk x.1 := by
  intro fuel
  induction fuel using Nat.strongRecOn with
  | _ fuel ih =>
    intro e cs x h hr
    obtain ⟨k, n, s, args, body, els⟩ := e
    obtain ⟨-, -, -, v, c, v2, c2, v3, c3, rfl, hsl, hrow, hsl2, hrow2, hsl3, hrow3⟩ := hr
    obtain ⟨xs, m, rfl, rfl, hl, hlen, hf⟩ := DataW.trod_struct Tryz.underlying27 h
    have hlen : xs.length = 6 := hlen
    match xs, hlen with
    | [y0, y1, y2, y3, y4, y5], _ =>
      have h3 := hf 3 _ rfl
      have h4 := hf 4 _ rfl
      have h5 := hf 5 _ rfl
      have h3' : DataW.trod enc Tryz.prog W 0 sp held m 25 [v] = some y3 := by simpa [ce_exs] using h3
      have h4' : DataW.trod enc Tryz.prog W 0 sp held m 22 [v2] = some y4 := by simpa [ce_sts] using h4
      have h5' : DataW.trod enc Tryz.prog W 0 sp held m 22 [v3] = some y5 := by simpa [ce_sts] using h5
      have hb3 := exs_bulk m args v y3 h3' ⟨c, hsl, hrow⟩
      have hb4 := rdl_bulk Tryz.underlying22 ce_st (Sts.rdl ⟨c2, hsl2, hrow2⟩) h4' St.total (fun m' e cs y hm hy hR => ih m' (by omega) e cs y hy hR)
      have hb5 := rdl_bulk Tryz.underlying22 ce_st (Sts.rdl ⟨c3, hsl3, hrow3⟩) h5' St.total (fun m' e cs y hm hy hR => ih m' (by omega) e cs y hy hR)
      rw [← St.totals_sum] at hb4 hb5
      show 1 + Ex.sizes args + St.totals body + St.totals els ≤ Rows.uptoBulk (DataW.agg [y0.1, y1.1, y2.1, y3.1, y4.1, y5.1])
      simp only [Rows.uptoBulk, Rows.uptoBulkAll]
      have := bulk_one y0.1
      omega
theorem sts_bulk {F : Nat → Prop} (fuel : Nat) (l : List St) (v : Value) (x : DataW H × List MemPlace) (h : DataW.trod enc Tryz.prog W 0 sp held fuel 22 [v] = some x) (hr : Sts F W l v) : St.totals l ≤ Rows.uptoBulk x.1 := by
  have hb := rdl_bulk Tryz.underlying22 ce_st hr.rdl h St.total (fun m' e cs y _ hy hR => st_bulk m' e cs y hy hR)
  rw [← St.totals_sum] at hb
  exact hb
end
end Go.Proofs.YtnbfadgclffgkaaGreatDoor
