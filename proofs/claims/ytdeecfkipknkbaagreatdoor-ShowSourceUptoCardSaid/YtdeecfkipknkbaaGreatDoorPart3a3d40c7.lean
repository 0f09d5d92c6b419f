/- What the rows of the layer tree share: the program's own facts, and each kind of argument as the walks take it. -/
import Derived.Test.YtdeecfkipknkbaaGreatDoorRows
import Derived.Test.YtdeecfkipknkbaaGreatDoorRead
import Derived.Test.YtdeecfkipknkbaaGreatDoorPart48d84781
import Derived.HandedShaped
import Derived.Shelf.Vars
import Derived.ProofKit
import Derived.Test.YtdeecfkipknkbaaGreatDoorPart56a1163f
namespace Go.Proofs.YtdeecfkipknkbaaGreatDoor
set_option maxRecDepth 100000
open Go.ChangeShapes Go.WideShapes Go.ChangeAt Go.RowKit
theorem Tryz.own : ownKnob Tryz.prog.godebug = none := by kernel_rfl
theorem Tryz.laidOut : laidOutB Tryz.prog = true := by kernel_rfl
theorem mx_of {W : World} (h : W.ShapedOpen Tryz.prog) : MX W :=
 cell_of_shapedOpen_int (zero := #[.int .i64 0]) (t := 3) h (of_decide_eq_true (by kernel_rfl)) (by kernel_rfl) rfl (by kernel_rfl) (by kernel_rfl) Tryz.underlying3
theorem inn (W : World) : Inn (fun b => b < W.heap.size) W := fun _ h => h
section
variable {H : Type} {enc : TypeId × Value → H} {W : World} {base : Nat} {v : Value} {d : DataW H} {p : List MemPlace}
theorem shut_true {W' : World} {b : Nat} {sp : Nat → Bool} {hd : Bool} : DataW.TrodAll enc Tryz.prog W' b sp hd [4] [.bool true] [.lit (.bool true)] [] := trodAll_mk1 (shut_bool Tryz.underlying4 _)
end
end Go.Proofs.YtdeecfkipknkbaaGreatDoor
/- A row's arguments that are a Source or a slice of strings. -/
namespace Go.Proofs.YtdeecfkipknkbaaGreatDoor
set_option maxRecDepth 100000
open Go.ChangeShapes Go.WideShapes Go.ChangeAt Go.RowKit
section
variable {H : Type} {enc : TypeId × Value → H} {W : World} {base : Nat} {v : Value} {d : DataW H} {p : List MemPlace}
theorem same_src {W' : World} (h : DataW.Trod enc Tryz.prog W 0 (fun _ => true) true 29 v d p) (hb : Below W.heap.size W W') (hlt : ∀ x ∈ p, x.block < W.heap.size) : DataW.Trod enc Tryz.prog W' 0 (fun b => decide (b < W.heap.size)) true 29 v d p :=
 Below.trod Tryz.laidOut (by kernel_rfl) (of_decide_eq_true (by kernel_rfl)) h hb hlt
end
end Go.Proofs.YtdeecfkipknkbaaGreatDoor
/- The bulk of a Source's reading bounds the lengths of its declarations. -/
namespace Go.Proofs.YtdeecfkipknkbaaGreatDoor
open Go.RowKit Go.ChangeShapes Go.WideShapes
section
variable {H : Type} {enc : TypeId × Value → H} {W : World}
theorem bulk_le {d : DataW H} : ∀ {l : List (DataW H)}, d ∈ l → Rows.uptoBulk d ≤ Rows.uptoBulkAll l
 | x :: r, h => by
  simp only [Rows.uptoBulkAll]
  rcases List.mem_cons.1 h with rfl | h
  · omega
  have := bulk_le h
  omega
theorem bulk_bound {l : List (DataW H)} (hk : Rows.uptoSmall H l = true) : Rows.uptoBulkAll l ≤ 1048576 := of_decide_eq_true hk
end
end Go.Proofs.YtdeecfkipknkbaaGreatDoor
/- The bulk of a reading bounds how many expressions and statements there are. -/
namespace Go.Proofs.YtdeecfkipknkbaaGreatDoor
set_option maxRecDepth 100000
open Go.RowKit Go.ChangeShapes Go.WideShapes
section
variable {H : Type} {enc : TypeId × Value → H} {W : World} {sp : Nat → Bool} {held : Bool}
theorem sum_bulk {α : Type} (f : α → Nat) : ∀ (l : List α) (ds : List (DataW H)), l.length = ds.length → (∀ i (h : i < l.length) (h' : i < ds.length), f l[i] ≤ Rows.uptoBulk ds[i]) → (l.map f).sum ≤ Rows.uptoBulkAll ds
 | [], _, _, _ => Nat.zero_le _
 | x :: l, [], h, _ => by simp at h
 | x :: l, d :: ds, h, hf => by
  have h1 := hf 0 (by simp) (by simp)
  have h2 := sum_bulk f l ds (by simpa using h) (fun i hi hi' => by
   have := hf (i + 1) (by simpa using hi) (by simpa using hi')
   simpa using this)
  simp only [List.getElem_cons_zero] at h1
  simp only [List.map_cons, List.sum_cons, Rows.uptoBulkAll]
  omega
theorem rdl_bulk {α : Type} {R : Holds α} {P : Program} {te tt : TypeId} {sz fuel : Nat} {F : Nat → Prop} {l : List α} {v : Value} {x : DataW H × List MemPlace} (ht : P.underlying tt = some (.slice te)) (hc : P.cellsOf te = sz) (hr : RdL R sz F W l v)
 (h : DataW.trod enc P W 0 sp held fuel tt [v] = some x) (f : α → Nat) (hf : ∀ m e cs y, m < fuel → DataW.trod enc P W 0 sp held m te cs = some y → R.R F W e cs → f e ≤ Rows.uptoBulk y.1) : (l.map f).sum ≤ Rows.uptoBulk x.1 := by
 obtain ⟨a, cap, rfl, hl, hcap, ha⟩ := hr.opn
 rcases DataW.trod_slice ht h with ⟨e, _⟩ | ⟨a', len, cap', elems, rest, n, rfl, e, rfl, _, hl', hm, hlen, hel', _, _⟩
 · simp only [List.cons.injEq, Value.slice.injEq, and_true] at e
   rw [List.eq_nil_of_length_eq_zero e.2.1]
   exact Nat.zero_le _
 simp only [List.cons.injEq, Value.slice.injEq, and_true] at e
 obtain ⟨rfl, rfl, rfl⟩ := e
 have h1 : (l.map f).sum ≤ Rows.uptoBulkAll (elems.map (·.1)) := by
  refine sum_bulk f l _ (by simp [hlen]) (fun i hi hi' => ?_)
  obtain ⟨b, off, hab, hFb, hel⟩ := ha (by omega)
  cases hab
  obtain ⟨cs, hcs, hlc, hcell⟩ := hel W rfl i hi
  have h1 := hel' i hi
  have hie : i < elems.length := by omega
  rw [hc, List.getElem?_eq_getElem hie] at h1
  obtain ⟨cs', h2, h3⟩ := Option.bind_eq_some_iff.1 h1
  have hci := World.cells?_some h2
  have hcc : cs' = cs := by
   apply List.ext_getElem?
   intro j
   by_cases hj : j < sz
   · have h4 := hci.2.2 j hj
     rw [addr_add, addr_add] at h4
     have h5 := hcell j cs[j] (List.getElem?_eq_getElem (by omega))
     rw [← h4, h5, List.getElem?_eq_getElem (by omega)]
   rw [List.getElem?_eq_none (by rw [hci.2.1]; omega), List.getElem?_eq_none (by omega)]
  subst hcc
  have h6 := hf n _ cs' _ (Nat.lt_succ_self n) h3 hcs
  simpa using h6
 have h2 : Rows.uptoBulkAll (elems.map (·.1)) ≤ Rows.uptoBulk (DataW.slice (elems.map (·.1)) (rest.map (·.1))) := by
  simp only [Rows.uptoBulk]
  omega
 exact Nat.le_trans h1 h2
theorem Exs.rdl {F : Nat → Prop} {w : World} {l : List Ex} {v : Value} (h : Exs F w l v) : RdL Holds.ex 5 F w l v := by
 obtain ⟨c, h1, h2⟩ := h
 exact ⟨c, h1, fun i hi => h2.get i hi⟩
theorem Sts.rdl {F : Nat → Prop} {w : World} {l : List St} {v : Value} (h : Sts F w l v) : RdL Holds.st 6 F w l v := by
 obtain ⟨c, h1, h2⟩ := h
 exact ⟨c, h1, fun i hi => h2.get i hi⟩
theorem Ex.sizes_sum (l : List Ex) : Ex.sizes l = (l.map Ex.size).sum := by
 induction l with
 | nil => rfl
 | cons e l ih => simp [Ex.sizes, ih]
theorem St.totals_sum (l : List St) : St.totals l = (l.map St.total).sum := by
 induction l with
 | nil => rfl
 | cons e l ih => simp [St.totals, ih]
theorem ex_bulk {F : Nat → Prop} : ∀ (fuel : Nat) (e : Ex) (cs : List Value) (x : DataW H × List MemPlace), DataW.trod enc Tryz.prog W 0 sp held fuel 153 cs = some x → RdEx F W e cs → e.size ≤ Rows.uptoBulk x.1 := by
 intro fuel
 induction fuel using Nat.strongRecOn with
 | _ fuel ih =>
  intro e cs x h hr
  obtain ⟨k, o, n, s, args⟩ := e
  obtain ⟨-, -, -, -, v, c, rfl, hsl, hrow⟩ := hr
  obtain ⟨xs, m, rfl, rfl, hl, hlen, hf⟩ := DataW.trod_struct Tryz.underlying153 h
  have hlen : xs.length = 5 := hlen
  match xs, hlen with
  | [y0, y1, y2, y3, y4], _ =>
   have h4 := hf 4 _ rfl
   have h4' : DataW.trod enc Tryz.prog W 0 sp held m 35 [v] = some y4 := by simpa [ce_exs] using h4
   have hb := rdl_bulk Tryz.underlying35 ce_ex (Exs.rdl ⟨c, hsl, hrow⟩) h4' Ex.size (fun m' e cs y hm hy hR => ih m' (by omega) e cs y hy hR)
   rw [← Ex.sizes_sum] at hb
   show 1 + Ex.sizes args ≤ Rows.uptoBulk (DataW.agg [y0.1, y1.1, y2.1, y3.1, y4.1])
   simp only [Rows.uptoBulk, Rows.uptoBulkAll]
   have := bulk_one y0.1
   omega
theorem exs_bulk {F : Nat → Prop} (fuel : Nat) (l : List Ex) (v : Value) (x : DataW H × List MemPlace) (h : DataW.trod enc Tryz.prog W 0 sp held fuel 35 [v] = some x) (hr : Exs F W l v) : Ex.sizes l ≤ Rows.uptoBulk x.1 := by
 have hb := rdl_bulk Tryz.underlying35 ce_ex hr.rdl h Ex.size (fun m' e cs y _ hy hR => ex_bulk m' e cs y hy hR)
 rw [← Ex.sizes_sum] at hb
 exact hb
theorem st_bulk {F : Nat → Prop} : ∀ (fuel : Nat) (e : St) (cs : List Value) (x : DataW H × List MemPlace), DataW.trod enc Tryz.prog W 0 sp held fuel 37 cs = some x → RdSt F W e cs → e.total ≤ Rows.uptoBulk x.1 := by
 intro fuel
 induction fuel using Nat.strongRecOn with
 | _ fuel ih =>
  intro e cs x h hr
  obtain ⟨k, n, s, args, body, els⟩ := e
  obtain ⟨-, -, -, v, c, v2, c2, v3, c3, rfl, hsl, hrow, hsl2, hrow2, hsl3, hrow3⟩ := hr
  obtain ⟨xs, m, rfl, rfl, hl, hlen, hf⟩ := DataW.trod_struct Tryz.underlying37 h
  have hlen : xs.length = 6 := hlen
  match xs, hlen with
  | [y0, y1, y2, y3, y4, y5], _ =>
   have h3 := hf 3 _ rfl
   have h4 := hf 4 _ rfl
   have h5 := hf 5 _ rfl
   have h3' : DataW.trod enc Tryz.prog W 0 sp held m 35 [v] = some y3 := by simpa [ce_exs] using h3
   have h4' : DataW.trod enc Tryz.prog W 0 sp held m 33 [v2] = some y4 := by simpa [ce_sts] using h4
   have h5' : DataW.trod enc Tryz.prog W 0 sp held m 33 [v3] = some y5 := by simpa [ce_sts] using h5
   have hb3 := exs_bulk m args v y3 h3' ⟨c, hsl, hrow⟩
   have hb4 := rdl_bulk Tryz.underlying33 ce_st (Sts.rdl ⟨c2, hsl2, hrow2⟩) h4' St.total (fun m' e cs y hm hy hR => ih m' (by omega) e cs y hy hR)
   have hb5 := rdl_bulk Tryz.underlying33 ce_st (Sts.rdl ⟨c3, hsl3, hrow3⟩) h5' St.total (fun m' e cs y hm hy hR => ih m' (by omega) e cs y hy hR)
   rw [← St.totals_sum] at hb4 hb5
   show 1 + Ex.sizes args + St.totals body + St.totals els ≤ Rows.uptoBulk (DataW.agg [y0.1, y1.1, y2.1, y3.1, y4.1, y5.1])
   simp only [Rows.uptoBulk, Rows.uptoBulkAll]
   have := bulk_one y0.1
   omega
theorem sts_bulk {F : Nat → Prop} (fuel : Nat) (l : List St) (v : Value) (x : DataW H × List MemPlace) (h : DataW.trod enc Tryz.prog W 0 sp held fuel 33 [v] = some x) (hr : Sts F W l v) : St.totals l ≤ Rows.uptoBulk x.1 := by
 have hb := rdl_bulk Tryz.underlying33 ce_st hr.rdl h St.total (fun m' e cs y _ hy hR => st_bulk m' e cs y hy hR)
 rw [← St.totals_sum] at hb
 exact hb
theorem exit_bulk {F : Nat → Prop} (fuel : Nat) (e : ExitD) (cs : List Value) (x : DataW H × List MemPlace) (h : DataW.trod enc Tryz.prog W 0 sp held fuel 121 cs = some x) (hr : Holds.exit.R F W e cs) : Ex.sizes e.cond ≤ Rows.uptoBulk x.1 := by
 obtain ⟨-, -, -, v3, rfl, g3⟩ := hr
 obtain ⟨xs, m, rfl, rfl, hl, hlen, hf⟩ := DataW.trod_struct Tryz.underlying121 h
 have hlen : xs.length = 4 := hlen
 match xs, hlen with
 | [y0, y1, y2, y3], _ =>
  have h3 := hf 3 _ rfl
  have h3' : DataW.trod enc Tryz.prog W 0 sp held m 35 [v3] = some y3 := by simpa [ce_exs] using h3
  have hb3 := exs_bulk m e.cond v3 y3 h3' g3
  show Ex.sizes e.cond ≤ Rows.uptoBulk (DataW.agg [y0.1, y1.1, y2.1, y3.1])
  simp only [Rows.uptoBulk, Rows.uptoBulkAll]
  omega
def ObjD.nodes (o : ObjD) : Nat := (o.exits.map fun x => Ex.sizes x.cond).sum
def RuleD.nodes (r : RuleD) : Nat := Ex.sizes r.cond + St.totals r.body
def FuncD.nodes (f : FuncD) : Nat := St.totals f.body
def SrcD.nodes (s : SrcD) : Nat := (s.objects.map ObjD.nodes).sum + (s.rules.map RuleD.nodes).sum + (s.funcs.map FuncD.nodes).sum + (s.daemons.map FuncD.nodes).sum
theorem objn_bulk {F : Nat → Prop} (fuel : Nat) (e : ObjD) (cs : List Value) (x : DataW H × List MemPlace) (h : DataW.trod enc Tryz.prog W 0 sp held fuel 63 cs = some x) (hr : Holds.obj.R F W e cs) : (e.exits.map fun x => Ex.sizes x.cond).sum ≤ Rows.uptoBulk x.1 := by
 obtain ⟨-, -, -, -, v5, v6, v7, v8, v9, rfl, g5, g6, g7, g8, g9⟩ := hr
 obtain ⟨xs, m, rfl, rfl, hl, hlen, hf⟩ := DataW.trod_struct Tryz.underlying63 h
 have hlen : xs.length = 10 := hlen
 match xs, hlen with
 | [y0, y1, y2, y3, y4, y5, y6, y7, y8, y9], _ =>
  have h9 := hf 9 _ rfl
  have h9' : DataW.trod enc Tryz.prog W 0 sp held m 61 [v9] = some y9 := by simpa [cz11] using h9
  have hb9 := rdl_bulk Tryz.underlying61 cz1 g9 h9' (fun x => Ex.sizes x.cond) (fun m e cs y _ hy hR => exit_bulk m e cs y hy hR)
  show (e.exits.map fun x => Ex.sizes x.cond).sum ≤ Rows.uptoBulk (DataW.agg [y0.1, y1.1, y2.1, y3.1, y4.1, y5.1, y6.1, y7.1, y8.1, y9.1])
  simp only [Rows.uptoBulk, Rows.uptoBulkAll]
  omega
theorem rulen_bulk {F : Nat → Prop} (fuel : Nat) (e : RuleD) (cs : List Value) (x : DataW H × List MemPlace) (h : DataW.trod enc Tryz.prog W 0 sp held fuel 70 cs = some x) (hr : Holds.rule.R F W e cs) : Ex.sizes e.cond + St.totals e.body ≤ Rows.uptoBulk x.1 := by
 obtain ⟨-, -, -, -, v4, v5, rfl, g4, g5⟩ := hr
 obtain ⟨xs, m, rfl, rfl, hl, hlen, hf⟩ := DataW.trod_struct Tryz.underlying70 h
 have hlen : xs.length = 6 := hlen
 match xs, hlen with
 | [y0, y1, y2, y3, y4, y5], _ =>
  have h4 := hf 4 _ rfl
  have h4' : DataW.trod enc Tryz.prog W 0 sp held m 35 [v4] = some y4 := by simpa [ce_exs] using h4
  have hb4 := exs_bulk m e.cond v4 y4 h4' g4
  have h5 := hf 5 _ rfl
  have h5' : DataW.trod enc Tryz.prog W 0 sp held m 33 [v5] = some y5 := by simpa [ce_sts] using h5
  have hb5 := sts_bulk m e.body v5 y5 h5' g5
  show Ex.sizes e.cond + St.totals e.body ≤ Rows.uptoBulk (DataW.agg [y0.1, y1.1, y2.1, y3.1, y4.1, y5.1])
  simp only [Rows.uptoBulk, Rows.uptoBulkAll]
  omega
theorem fncn_bulk {F : Nat → Prop} (fuel : Nat) (e : FuncD) (cs : List Value) (x : DataW H × List MemPlace) (h : DataW.trod enc Tryz.prog W 0 sp held fuel 91 cs = some x) (hr : Holds.fnc.R F W e cs) : St.totals e.body ≤ Rows.uptoBulk x.1 := by
 obtain ⟨-, v1, v2, rfl, g1, g2⟩ := hr
 obtain ⟨xs, m, rfl, rfl, hl, hlen, hf⟩ := DataW.trod_struct Tryz.underlying91 h
 have hlen : xs.length = 3 := hlen
 match xs, hlen with
 | [y0, y1, y2], _ =>
  have h2 := hf 2 _ rfl
  have h2' : DataW.trod enc Tryz.prog W 0 sp held m 33 [v2] = some y2 := by simpa [ce_sts] using h2
  have hb2 := sts_bulk m e.body v2 y2 h2' g2
  show St.totals e.body ≤ Rows.uptoBulk (DataW.agg [y0.1, y1.1, y2.1])
  simp only [Rows.uptoBulk, Rows.uptoBulkAll]
  omega
theorem srcn_bulk {F : Nat → Prop} (fuel : Nat) (e : SrcD) (cs : List Value) (x : DataW H × List MemPlace) (h : DataW.trod enc Tryz.prog W 0 sp held fuel 29 cs = some x) (hr : Holds.src.R F W e cs) : (e.objects.map ObjD.nodes).sum + (e.rules.map RuleD.nodes).sum + (e.funcs.map FuncD.nodes).sum + (e.daemons.map FuncD.nodes).sum ≤ Rows.uptoBulk x.1 := by
 obtain ⟨-, -, -, -, -, v5, v6, v7, v8, v9, v10, v11, v12, rfl, g5, g6, g7, g8, g9, g10, g11, g12⟩ := hr
 obtain ⟨xs, m, rfl, rfl, hl, hlen, hf⟩ := DataW.trod_struct Tryz.underlying29 h
 have hlen : xs.length = 13 := hlen
 match xs, hlen with
 | [y0, y1, y2, y3, y4, y5, y6, y7, y8, y9, y10, y11, y12], _ =>
  have h8 := hf 8 _ rfl
  have h8' : DataW.trod enc Tryz.prog W 0 sp held m 24 [v8] = some y8 := by simpa [cz14] using h8
  have hb8 := rdl_bulk Tryz.underlying24 cz2 g8 h8' ObjD.nodes (fun m e cs y _ hy hR => objn_bulk m e cs y hy hR)
  have h10 := hf 10 _ rfl
  have h10' : DataW.trod enc Tryz.prog W 0 sp held m 26 [v10] = some y10 := by simpa [cz16] using h10
  have hb10 := rdl_bulk Tryz.underlying26 cz5 g10 h10' RuleD.nodes (fun m e cs y _ hy hR => rulen_bulk m e cs y hy hR)
  have h11 := hf 11 _ rfl
  have h11' : DataW.trod enc Tryz.prog W 0 sp held m 27 [v11] = some y11 := by simpa [cz17] using h11
  have hb11 := rdl_bulk Tryz.underlying27 cz6 g11 h11' FuncD.nodes (fun m e cs y _ hy hR => fncn_bulk m e cs y hy hR)
  have h12 := hf 12 _ rfl
  have h12' : DataW.trod enc Tryz.prog W 0 sp held m 27 [v12] = some y12 := by simpa [cz17] using h12
  have hb12 := rdl_bulk Tryz.underlying27 cz6 g12 h12' FuncD.nodes (fun m e cs y _ hy hR => fncn_bulk m e cs y hy hR)
  show (e.objects.map ObjD.nodes).sum + (e.rules.map RuleD.nodes).sum + (e.funcs.map FuncD.nodes).sum + (e.daemons.map FuncD.nodes).sum ≤ Rows.uptoBulk (DataW.agg [y0.1, y1.1, y2.1, y3.1, y4.1, y5.1, y6.1, y7.1, y8.1, y9.1, y10.1, y11.1, y12.1])
  simp only [Rows.uptoBulk, Rows.uptoBulkAll]
  omega
theorem arg_src_nodes {v : Value} {d : DataW H} {p : List MemPlace} {base : Nat} (hv : Value.okWide Tryz.prog W .any base 29 v) (h : DataW.Trod enc Tryz.prog W 0 (fun _ => true) true 29 v d p) :
 ∃ (s : SrcD) (cs : List Value), v = .agg cs.toArray ∧ Holds.src.R (fun b => b < W.heap.size) W s cs ∧ s.nodes ≤ Rows.uptoBulk d := by
 obtain ⟨cs, rfl, _⟩ := okWide_struct Tryz.underlying29 hv
 obtain ⟨fuel, hf⟩ := h
 obtain ⟨e, he⟩ := read_src fuel _ _ hf
 exact ⟨e, cs.toList, by simp, he, srcn_bulk fuel e _ _ hf he⟩
end
end Go.Proofs.YtdeecfkipknkbaaGreatDoor
