/- From a row's reading of its arguments, and the reach of each slice that is read, to the lengths of the lists in expressions and statements. -/
import Derived.Test.YtimdnamhccipjaaRead
import Derived.SizedLaws
namespace Go.Proofs.Ytimdnamhccipjaa
open Go.RowKit Go.ChangeShapes Go.WideShapes

mutual
/-- Each list of Args is one that a slice can hold. -/
def Ex.fit : Ex → Prop
  | .mk _ _ _ _ args => args.length ≤ 2199023255488 ∧ Ex.fits args
def Ex.fits : List Ex → Prop
  | [] => True
  | e :: l => e.fit ∧ Ex.fits l
end
mutual
def St.fit : St → Prop
  | .mk _ _ _ args body els => args.length ≤ 2199023255488 ∧ Ex.fits args ∧ St.fits body ∧ St.fits els
def St.fits : List St → Prop
  | [] => True
  | e :: l => e.fit ∧ St.fits l
end
theorem Ex.fits_of {l : List Ex} (h : ∀ x ∈ l, x.fit) : Ex.fits l := by
  induction l with
  | nil => trivial
  | cons e l ih => exact ⟨h e (by simp), ih fun x hx => h x (by simp [hx])⟩
theorem St.fits_of {l : List St} (h : ∀ x ∈ l, x.fit) : St.fits l := by
  induction l with
  | nil => trivial
  | cons e l ih => exact ⟨h e (by simp), ih fun x hx => h x (by simp [hx])⟩

/-- All that is read takes no more than the reach. -/
def Reached {H : Type} (P : Program) (t : TypeId) (d : DataW H) : Prop := ∀ n ∈ d.weights P t, n ≤ reachBytes

theorem reached_part {H : Type} {P : Program} {t : TypeId} {fs : Array Field} {xs : List (DataW H × List MemPlace)} (hu : P.underlying t = some (.struct fs)) (h : Reached P t (.agg (xs.map (·.1)))) {j : Nat} {f : Field} {y : DataW H × List MemPlace} (hf : fs[j]? = some f) (hy : xs[j]? = some y) : Reached P f.type y.1 := by
  intro n hn
  refine h n ?_
  simp only [DataW.weights, hu]
  exact DataW.weights_mem_each (ts := fs.toList.map (·.type)) (j := j) (by rw [List.getElem?_map, Array.getElem?_toList, hf]; rfl) (by rw [List.getElem?_map, hy]; rfl) n hn

theorem weights_mem_all {H : Type} {P : Program} {e : TypeId} : ∀ {l : List (DataW H)} {d : DataW H}, d ∈ l → ∀ n ∈ d.weights P e, n ∈ DataW.weightsAll P e l
  | x :: l, d, hd, n, hn => by
    simp only [DataW.weightsAll, List.mem_append]
    rcases List.mem_cons.1 hd with rfl | hd
    · exact .inl hn
    · exact .inr (weights_mem_all hd n hn)

/-- A slice, read: an element for each index, and the lengths. -/
theorem sl_fit {H : Type} {enc : TypeId × Value → H} {P : Program} {W : World} {sp : Nat → Bool} {held : Bool} {te tt : TypeId} {sz fuel : Nat} {cs : List Value} {x : DataW H × List MemPlace} (ht : P.underlying tt = some (.slice te)) (hc : P.cellsOf te = sz) (hsz : 0 < sz)
    (h : DataW.trod enc P W 0 sp held fuel tt cs = some x) {α : Type} [Inhabited α] (R : α → List Value → Prop) (Q : α → Prop) (hR : ∀ m cs y, m < fuel → DataW.trod enc P W 0 sp held m te cs = some y → ∃ e, R e cs ∧ (Reached P te y.1 → Q e)) :
    ∃ v n c, cs = [v] ∧ SlAt (fun b => b < W.heap.size) W sz v n c ∧ ∃ E : Nat → α, (∀ i, i < n → R (E i) ((List.range sz).map (c i))) ∧ (Reached P tt x.1 → n * P.bytesOf te ≤ reachBytes ∧ ∀ i, i < n → Q (E i)) := by
  rcases DataW.trod_slice ht h with ⟨rfl, _⟩ | ⟨a, len, cap, elems, rest, n, rfl, rfl, hx, _, hl, hm, hlen, hel, _, _⟩
  · exact ⟨_, 0, fun _ _ => undef, rfl, ⟨none, 0, rfl, Nat.le_refl _, by unfold maxLen; omega, fun h => absurd h (by simp)⟩, fun _ => default, fun i hi => absurd hi (by simp), fun _ => ⟨by simp, fun i hi => absurd hi (by simp)⟩⟩
  · rw [hc] at hel
    haveI : Inhabited (List Value) := ⟨[]⟩
    obtain ⟨F, hF⟩ := Deep.choose_lt (α := α × List Value) (n := len) (p := fun i y => W.cells? 0 (a.add (i * sz)) sz = some y.2 ∧ R y.1 y.2 ∧ (Reached P tt x.1 → Q y.1)) (fun i hi => by
      have h1 := hel i hi
      rw [List.getElem?_eq_getElem (show i < elems.length by omega)] at h1
      obtain ⟨cs', h2, h3⟩ := Option.bind_eq_some_iff.1 h1
      obtain ⟨e, he, hq⟩ := hR n cs' _ (Nat.lt_succ_self n) h3
      refine ⟨(e, cs'), h2, he, fun hr => hq fun k hk => hr k ?_⟩
      rw [hx]
      simp only [DataW.weights, ht, List.mem_cons, List.mem_append]
      exact .inr (.inl (weights_mem_all (List.mem_map.2 ⟨_, List.getElem_mem (show i < elems.length by omega), rfl⟩) k hk)))
    refine ⟨_, len, fun i j => (F i).2.getD j undef, rfl, ⟨some a, cap, rfl, hl, hm, fun h0 => ?_⟩, fun i => (F i).1, fun i hi => ?_, fun hr => ⟨?_, fun i hi => (hF i hi).2.2 hr⟩⟩
    · obtain ⟨b, off, spot⟩ := a
      have hc0 := (World.cells?_some (hF 0 h0).1)
      have hz : W.cell? ⟨b, off, spot⟩ = some ((F 0).2.getD 0 undef) := by
        have := hc0.2.2 0 hsz
        rw [List.getElem?_eq_getElem (by rw [hc0.2.1]; exact hsz)] at this
        simpa [Addr.add, List.getD, List.getElem?_eq_getElem (show 0 < (F 0).2.length by rw [hc0.2.1]; exact hsz)] using this
      have hspot : spot = none := by simpa using World.cell?_spot hz
      subst hspot
      refine ⟨b, off, rfl, cell_in hz, fun i hi j hj => ?_⟩
      have hci := World.cells?_some (hF i hi).1
      have := hci.2.2 j hj
      rw [addr_add, addr_add] at this
      show _ = some ((F i).2.getD j undef)
      rw [this, List.getD_eq_getElem?_getD, List.getElem?_eq_getElem (show j < (F i).2.length by rw [hci.2.1]; exact hj)]
      rfl
    · have hci := World.cells?_some (hF i hi).1
      have : (List.range sz).map (fun j => (F i).2.getD j undef) = (F i).2 := by
        apply List.ext_getElem?
        intro j
        by_cases hj : j < sz
        · rw [List.getElem?_map, List.getElem?_range hj, Option.map_some, List.getD_eq_getElem?_getD, List.getElem?_eq_getElem (show j < (F i).2.length by rw [hci.2.1]; exact hj)]
          rfl
        · rw [List.getElem?_eq_none (by simp; omega), List.getElem?_eq_none (by rw [hci.2.1]; omega)]
      rw [this]
      exact (hF i hi).2.1
    · have := hr ((elems.length + rest.length) * P.bytesOf te) (by
        rw [hx]
        simp only [DataW.weights, ht, List.mem_cons, List.length_map]
        exact .inl trivial)
      refine Nat.le_trans (Nat.mul_le_mul_right _ ?_) this
      omega

theorem by_ex : Try.prog.bytesOf 35 = 64 := by kernel_rfl

section
variable {H : Type} {enc : TypeId × Value → H} {W : World} {sp : Nat → Bool} {held : Bool}

set_option maxRecDepth 20000 in
theorem fit_ex : ∀ (fuel : Nat) (cs : List Value) (x : DataW H × List MemPlace), DataW.trod enc Try.prog W 0 sp held fuel 35 cs = some x → ∃ e, RdEx (fun b => b < W.heap.size) W e cs ∧ (Reached Try.prog 35 x.1 → e.fit) := by
  intro fuel
  induction fuel using Nat.strongRecOn with
  | _ fuel ih =>
    intro cs x h
    obtain ⟨xs, n, rfl, hxe, hl, hlen, hf⟩ := DataW.trod_struct Try.underlying35 h
    rw [ce_ex] at hl
    have hlen : xs.length = 5 := hlen
    match cs, hl, xs, hlen, hxe, hf with
    | [c0, c1, c2, c3, c4], _, [y0, y1, y2, y3, y4], _, hxe, hf =>
      have h0 := hf 0 _ rfl
      have h1 := hf 1 _ rfl
      have h2 := hf 2 _ rfl
      have h3 := hf 3 _ rfl
      have h4 := hf 4 _ rfl
      obtain ⟨k, hk, _, wk⟩ := DataW.trod_int Try.underlying3 h0
      obtain ⟨o, ho, _, wo⟩ := DataW.trod_int Try.underlying3 h1
      obtain ⟨m, hm, _, wm⟩ := DataW.trod_int Try.underlying3 h2
      obtain ⟨s, hs, _, ws⟩ := DataW.trod_string Try.underlying9 h3
      obtain ⟨v, len, c, hv, hsl, E, hE, hQ⟩ := sl_fit Try.underlying33 ce_ex (by omega) h4 (R := RdEx (fun b => b < W.heap.size) W) (α := Ex) Ex.fit (fun m cs y hm => ih m (by omega) cs y)
      have e0 : c0 = .int .i64 k := by simpa [ce_int] using hk
      have e1 : c1 = .int .i64 o := by simpa [ce_int] using ho
      have e2 : c2 = .int .i64 m := by simpa [ce_int] using hm
      have e3 : c3 = .string s := by simpa [ce_str] using hs
      have e4 : c4 = v := by simpa [ce_exs] using hv
      subst e0 e1 e2 e3 e4
      refine ⟨_, rd_ex (i64_wf wk) (i64_wf wo) (i64_wf wm) ws (exs_of_sl hsl hE), fun hr => ?_⟩
      rw [hxe] at hr
      have hr4 := reached_part Try.underlying35 hr (j := 4) (y := y4) rfl rfl
      obtain ⟨hb, hq⟩ := hQ hr4
      rw [by_ex] at hb
      unfold reachBytes at hb
      refine ⟨by simp; omega, Ex.fits_of fun z hz => ?_⟩
      obtain ⟨i, hi, rfl⟩ := List.mem_map.1 hz
      exact hq i (by simpa using hi)

theorem fit_exs {fuel : Nat} {cs : List Value} {x : DataW H × List MemPlace} (h : DataW.trod enc Try.prog W 0 sp held fuel 33 cs = some x) : ∃ v l, cs = [v] ∧ Exs (fun b => b < W.heap.size) W l v ∧ (Reached Try.prog 33 x.1 → l.length ≤ 2199023255488 ∧ Ex.fits l) := by
  obtain ⟨v, len, c, hv, hsl, E, hE, hQ⟩ := sl_fit Try.underlying33 ce_ex (by omega) h (R := RdEx (fun b => b < W.heap.size) W) (α := Ex) Ex.fit (fun m cs y _ => fit_ex m cs y)
  refine ⟨v, _, hv, exs_of_sl hsl hE, fun hr => ?_⟩
  obtain ⟨hb, hq⟩ := hQ hr
  rw [by_ex] at hb
  unfold reachBytes at hb
  refine ⟨by simp; omega, Ex.fits_of fun z hz => ?_⟩
  obtain ⟨i, hi, rfl⟩ := List.mem_map.1 hz
  exact hq i (by simpa using hi)

set_option maxRecDepth 20000 in
theorem fit_st : ∀ (fuel : Nat) (cs : List Value) (x : DataW H × List MemPlace), DataW.trod enc Try.prog W 0 sp held fuel 62 cs = some x → ∃ e, RdSt (fun b => b < W.heap.size) W e cs ∧ (Reached Try.prog 62 x.1 → e.fit) := by
  intro fuel
  induction fuel using Nat.strongRecOn with
  | _ fuel ih =>
    intro cs x h
    obtain ⟨xs, n, rfl, hxe, hl, hlen, hf⟩ := DataW.trod_struct Try.underlying62 h
    rw [ce_st] at hl
    have hlen : xs.length = 6 := hlen
    match cs, hl, xs, hlen, hxe, hf with
    | [c0, c1, c2, c3, c4, c5], _, [y0, y1, y2, y3, y4, y5], _, hxe, hf =>
      have h0 := hf 0 _ rfl
      have h1 := hf 1 _ rfl
      have h2 := hf 2 _ rfl
      have h3 := hf 3 _ rfl
      have h4 := hf 4 _ rfl
      have h5 := hf 5 _ rfl
      obtain ⟨k, hk, _, wk⟩ := DataW.trod_int Try.underlying3 h0
      obtain ⟨m, hm, _, wm⟩ := DataW.trod_int Try.underlying3 h1
      obtain ⟨s, hs, _, ws⟩ := DataW.trod_string Try.underlying9 h2
      obtain ⟨v, l, hv, hx, hq1⟩ := fit_exs h3
      obtain ⟨v2, len, c, hv2, hsl, E, hE, hQ2⟩ := sl_fit Try.underlying36 ce_st (by omega) h4 (R := RdSt (fun b => b < W.heap.size) W) (α := St) St.fit (fun m cs y hm => ih m (by omega) cs y)
      obtain ⟨v3, len3, c', hv3, hsl3, E3, hE3, hQ3⟩ := sl_fit Try.underlying36 ce_st (by omega) h5 (R := RdSt (fun b => b < W.heap.size) W) (α := St) St.fit (fun m cs y hm => ih m (by omega) cs y)
      have e0 : c0 = .int .i64 k := by simpa [ce_int] using hk
      have e1 : c1 = .int .i64 m := by simpa [ce_int] using hm
      have e2 : c2 = .string s := by simpa [ce_str] using hs
      have e3 : c3 = v := by simpa [ce_exs] using hv
      have e4 : c4 = v2 := by simpa [ce_sts] using hv2
      have e5 : c5 = v3 := by simpa [ce_sts] using hv3
      subst e0 e1 e2 e3 e4 e5
      refine ⟨_, rd_st (i64_wf wk) (i64_wf wm) ws hx (sts_of_sl hsl hE) (sts_of_sl hsl3 hE3), fun hr => ?_⟩
      rw [hxe] at hr
      obtain ⟨q1, q2⟩ := hq1 (reached_part Try.underlying62 hr (j := 3) (y := y3) rfl rfl)
      obtain ⟨_, q3⟩ := hQ2 (reached_part Try.underlying62 hr (j := 4) (y := y4) rfl rfl)
      obtain ⟨_, q4⟩ := hQ3 (reached_part Try.underlying62 hr (j := 5) (y := y5) rfl rfl)
      refine ⟨q1, q2, St.fits_of fun z hz => ?_, St.fits_of fun z hz => ?_⟩
      · obtain ⟨i, hi, rfl⟩ := List.mem_map.1 hz
        exact q3 i (by simpa using hi)
      · obtain ⟨i, hi, rfl⟩ := List.mem_map.1 hz
        exact q4 i (by simpa using hi)

theorem fit_sts {fuel : Nat} {cs : List Value} {x : DataW H × List MemPlace} (h : DataW.trod enc Try.prog W 0 sp held fuel 36 cs = some x) : ∃ v l, cs = [v] ∧ Sts (fun b => b < W.heap.size) W l v ∧ (Reached Try.prog 36 x.1 → St.fits l) := by
  obtain ⟨v, len, c, hv, hsl, E, hE, hQ⟩ := sl_fit Try.underlying36 ce_st (by omega) h (R := RdSt (fun b => b < W.heap.size) W) (α := St) St.fit (fun m cs y _ => fit_st m cs y)
  refine ⟨v, _, hv, sts_of_sl hsl hE, fun hr => ?_⟩
  obtain ⟨_, hq⟩ := hQ hr
  refine St.fits_of fun z hz => ?_
  obtain ⟨i, hi, rfl⟩ := List.mem_map.1 hz
  exact hq i (by simpa using hi)
end
end Go.Proofs.Ytimdnamhccipjaa
