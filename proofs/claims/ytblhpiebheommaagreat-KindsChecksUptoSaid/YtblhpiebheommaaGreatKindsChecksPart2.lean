/- Expressions and statements that a function has built: how their cells are read. -/
import Derived.Test.YtblhpiebheommaaGreatData
import Derived.Test.YtblhpiebheommaaGreatRows
import Derived.ProofKit
import Derived.Deep.Slices
import Derived.Maps.AppendAt
namespace Go.Proofs.YtblhpiebheommaaGreat
open Go.RowKit

/-- Block b holds these cells. -/
def Bx (w : World) (b : Nat) (cs : List Value) : Prop := ∀ j, j < cs.length → w.cell? ⟨b, j, none⟩ = cs[j]?
theorem bx_of_heap {w : World} {b : Nat} {cs : List Value} {t : TypeId} {fr : Nat × Nat} (h : w.heap[b]? = some (.cells cs.toArray t fr)) : Bx w b cs := fun j _ => by simp [World.cell?, h]
theorem Bx.below {B : Nat} {w w' : World} {b : Nat} {cs : List Value} (h : Bx w b cs) (hb : Below B w w') (hB : b < B) : Bx w' b cs := fun j hj => by rw [hb.cell (p := ⟨b, j, none⟩) hB]; exact h j hj

theorem bx_new (w : World) (cs : List Value) (t : TypeId) (b : Nat) (h : b = w.heap.size) : Bx (w.alloc (.cells cs.toArray t)) b cs :=
  bx_of_heap (t := t) (fr := (0, 0)) (by subst h; show (w.heap.push _)[w.heap.size]? = _; rw [Array.getElem?_push, if_pos rfl])
theorem Bx.alloc {w : World} {b : Nat} {cs : List Value} (h : Bx w b cs) (hb : b < w.heap.size) (o : Obj) : Bx (w.alloc o) b cs := h.below ((Below.refl w.heap.size w).alloc (Nat.le_refl _) o) hb

theorem RdRow.of {F : Nat → Prop} {w : World} : ∀ {l : List Ex} {c : Nat → Nat → Value}, (∀ i (h : i < l.length), RdEx F w l[i] [c i 0, c i 1, c i 2, c i 3, c i 4]) → RdRow F w l c
  | [], _, _ => trivial
  | _ :: l, c, h => ⟨h 0 (by simp), RdRow.of (l := l) (c := fun i => c (i + 1)) (fun i hi => h (i + 1) (by simpa using hi))⟩
theorem RdSts.of {F : Nat → Prop} {w : World} : ∀ {l : List St} {c : Nat → Nat → Value}, (∀ i (h : i < l.length), RdSt F w l[i] [c i 0, c i 1, c i 2, c i 3, c i 4, c i 5]) → RdSts F w l c
  | [], _, _ => trivial
  | _ :: l, c, h => ⟨h 0 (by simp), RdSts.of (l := l) (c := fun i => c (i + 1)) (fun i hi => h (i + 1) (by simpa using hi))⟩

theorem rd_exs {F : Nat → Prop} {w : World} {b : Nat} (hF : F b) {l : List Ex} {cs : List Value} {cap : Nat} (hl : cs.length = l.length * 5) (hb : Bx w b cs) (hc : l.length ≤ cap) (hc2 : cap ≤ 1000000)
    (hrd : ∀ i (h : i < l.length), RdEx F w l[i] [cs.getD (i * 5 + 0) undef, cs.getD (i * 5 + 1) undef, cs.getD (i * 5 + 2) undef, cs.getD (i * 5 + 3) undef, cs.getD (i * 5 + 4) undef]) : Exs F w l (.slice (some ⟨b, 0, none⟩) l.length cap) := by
  refine ⟨fun i j => cs.getD (i * 5 + j) undef, ⟨_, _, rfl, hc, by unfold maxLen; omega, fun _ => ⟨b, 0, rfl, hF, fun i hi j hj => ?_⟩⟩, RdRow.of hrd⟩
  have hlt : i * 5 + j < cs.length := by rw [hl]; omega
  have := hb (i * 5 + j) hlt
  rw [show (0 : Nat) + i * 5 + j = i * 5 + j by omega, this]
  show _ = some (cs.getD (i * 5 + j) undef)
  rw [List.getD_eq_getElem?_getD, List.getElem?_eq_getElem hlt]
  rfl

theorem rd_sts {F : Nat → Prop} {w : World} {b : Nat} (hF : F b) {l : List St} {cs : List Value} {cap : Nat} (hl : cs.length = l.length * 6) (hb : Bx w b cs) (hc : l.length ≤ cap) (hc2 : cap ≤ 1000000)
    (hrd : ∀ i (h : i < l.length), RdSt F w l[i] [cs.getD (i * 6 + 0) undef, cs.getD (i * 6 + 1) undef, cs.getD (i * 6 + 2) undef, cs.getD (i * 6 + 3) undef, cs.getD (i * 6 + 4) undef, cs.getD (i * 6 + 5) undef]) : Sts F w l (.slice (some ⟨b, 0, none⟩) l.length cap) := by
  refine ⟨fun i j => cs.getD (i * 6 + j) undef, ⟨_, _, rfl, hc, by unfold maxLen; omega, fun _ => ⟨b, 0, rfl, hF, fun i hi j hj => ?_⟩⟩, RdSts.of hrd⟩
  have hlt : i * 6 + j < cs.length := by rw [hl]; omega
  have := hb (i * 6 + j) hlt
  rw [show (0 : Nat) + i * 6 + j = i * 6 + j by omega, this]
  show _ = some (cs.getD (i * 6 + j) undef)
  rw [List.getD_eq_getElem?_getD, List.getElem?_eq_getElem hlt]
  rfl

theorem exs_nil (F : Nat → Prop) (w : World) : Exs F w [] (.slice none 0 0) := ⟨fun _ _ => undef, ⟨none, 0, rfl, Nat.le_refl _, by unfold maxLen; omega, fun h => absurd h (by simp)⟩, trivial⟩
theorem sts_nil (F : Nat → Prop) (w : World) : Sts F w [] (.slice none 0 0) := ⟨fun _ _ => undef, ⟨none, 0, rfl, Nat.le_refl _, by unfold maxLen; omega, fun h => absurd h (by simp)⟩, trivial⟩

theorem rd_ex {F : Nat → Prop} {w : World} {k o n : Int} {s : ByteArray} {args : List Ex} {v : Value} (h1 : I64 k) (h2 : I64 o) (h3 : I64 n) (h4 : s.size ≤ maxLen) (ha : Exs F w args v) : RdEx F w (.mk k o n s args) [.int .i64 k, .int .i64 o, .int .i64 n, .string s, v] := by
  obtain ⟨c, hs, hr⟩ := ha
  exact ⟨h1, h2, h3, h4, v, c, rfl, hs, hr⟩
theorem rd_st {F : Nat → Prop} {w : World} {k n : Int} {s : ByteArray} {args : List Ex} {body els : List St} {v1 v2 v3 : Value} (h1 : I64 k) (h2 : I64 n) (h4 : s.size ≤ maxLen) (ha : Exs F w args v1) (hb : Sts F w body v2) (he : Sts F w els v3) :
    RdSt F w (.mk k n s args body els) [.int .i64 k, .int .i64 n, .string s, v1, v2, v3] := by
  obtain ⟨c, hs, hr⟩ := ha
  obtain ⟨c2, hs2, hr2⟩ := hb
  obtain ⟨c3, hs3, hr3⟩ := he
  exact ⟨h1, h2, h4, v1, c, v2, c2, v3, c3, rfl, hs, hr, hs2, hr2, hs3, hr3⟩

theorem exs_one {F : Nat → Prop} {w : World} {b : Nat} (hF : F b) {e : Ex} {c0 c1 c2 c3 c4 : Value} (hb : Bx w b [c0, c1, c2, c3, c4]) (h : RdEx F w e [c0, c1, c2, c3, c4]) : Exs F w [e] (.slice (some ⟨b, 0, none⟩) 1 1) :=
  rd_exs (l := [e]) hF rfl hb (Nat.le_refl _) (by simp) (fun i hi => by obtain rfl : i = 0 := (by simpa using hi); exact h)
theorem exs_two {F : Nat → Prop} {w : World} {b : Nat} (hF : F b) {e e2 : Ex} {c0 c1 c2 c3 c4 d0 d1 d2 d3 d4 : Value} (hb : Bx w b [c0, c1, c2, c3, c4, d0, d1, d2, d3, d4]) (h : RdEx F w e [c0, c1, c2, c3, c4]) (h2 : RdEx F w e2 [d0, d1, d2, d3, d4]) : Exs F w [e, e2] (.slice (some ⟨b, 0, none⟩) 2 2) :=
  rd_exs (l := [e, e2]) hF rfl hb (Nat.le_refl _) (by simp) (fun i hi => by
    have : i = 0 ∨ i = 1 := by simp at hi; omega
    rcases this with rfl | rfl
    · exact h
    · exact h2)
theorem sts_one {F : Nat → Prop} {w : World} {b : Nat} (hF : F b) {e : St} {c0 c1 c2 c3 c4 c5 : Value} (hb : Bx w b [c0, c1, c2, c3, c4, c5]) (h : RdSt F w e [c0, c1, c2, c3, c4, c5]) : Sts F w [e] (.slice (some ⟨b, 0, none⟩) 1 1) :=
  rd_sts (l := [e]) hF rfl hb (Nat.le_refl _) (by simp) (fun i hi => by obtain rfl : i = 0 := (by simpa using hi); exact h)

theorem three_new {B : Nat} {w w' : World} {o o2 o3 : Obj} (hb : Below B (((w.alloc o).alloc o2).alloc o3) w') : w.heap.size < w'.heap.size ∧ w.heap.size + 1 < w'.heap.size ∧ w.heap.size + 1 + 1 < w'.heap.size := by
  have := hb.size
  simp at this
  omega
theorem two_new' {B : Nat} {w w' : World} {o o2 : Obj} (hb : Below B ((w.alloc o).alloc o2) w') : w.heap.size < w'.heap.size ∧ w.heap.size + 1 < w'.heap.size := by
  have := hb.size
  simp at this
  omega

theorem i64 (n : Int) (h : -1000000 ≤ n ∧ n ≤ 1000000 := by omega) : I64 n := by unfold I64; omega

end Go.Proofs.YtblhpiebheommaaGreat
/- From a row's reading of its arguments to expressions and statements, as the walks take them. -/
namespace Go.Proofs.YtblhpiebheommaaGreat
open Go.RowKit Go.ChangeShapes Go.WideShapes

theorem addr_add {b off n : Nat} : (⟨b, off, none⟩ : Addr).add n = ⟨b, off + n, none⟩ := by
  unfold Addr.add
  by_cases h : n = 0 <;> simp [h]

theorem cell_in {W : World} {a : Addr} {v : Value} (h : W.cell? a = some v) : a.block < W.heap.size := by
  unfold World.cell? at h
  split at h
  · rename_i hh
    exact (Array.getElem?_eq_some_iff.1 hh).1
  · cases h

/-- A slice, read: an element for each index. -/
theorem sl_of {H : Type} {enc : TypeId × Value → H} {P : Program} {W : World} {sp : Nat → Bool} {held : Bool} {te tt : TypeId} {sz fuel : Nat} {cs : List Value} {x : DataW H × List MemPlace} (ht : P.underlying tt = some (.slice te)) (hc : P.cellsOf te = sz) (hsz : 0 < sz)
    (h : DataW.trod enc P W 0 sp held fuel tt cs = some x) {α : Type} [Inhabited α] (R : α → List Value → Prop) (hR : ∀ m cs y, m < fuel → DataW.trod enc P W 0 sp held m te cs = some y → ∃ e, R e cs) :
    ∃ v n c, cs = [v] ∧ SlAt (fun b => b < W.heap.size) W sz v n c ∧ ∃ E : Nat → α, ∀ i, i < n → R (E i) ((List.range sz).map (c i)) := by
  rcases DataW.trod_slice ht h with ⟨rfl, _⟩ | ⟨a, len, cap, elems, rest, n, rfl, rfl, _, _, hl, hm, hlen, hel, _, _⟩
  · exact ⟨_, 0, fun _ _ => undef, rfl, ⟨none, 0, rfl, Nat.le_refl _, by unfold maxLen; omega, fun h => absurd h (by simp)⟩, fun _ => default, fun i hi => absurd hi (by simp)⟩
  · rw [hc] at hel
    haveI : Inhabited (List Value) := ⟨[]⟩
    obtain ⟨F, hF⟩ := Deep.choose_lt (α := α × List Value) (n := len) (p := fun i y => W.cells? 0 (a.add (i * sz)) sz = some y.2 ∧ R y.1 y.2) (fun i hi => by
      have h1 := hel i hi
      rw [List.getElem?_eq_getElem (show i < elems.length by omega)] at h1
      obtain ⟨cs', h2, h3⟩ := Option.bind_eq_some_iff.1 h1
      obtain ⟨e, he⟩ := hR n cs' _ (Nat.lt_succ_self n) h3
      exact ⟨(e, cs'), h2, he⟩)
    refine ⟨_, len, fun i j => (F i).2.getD j undef, rfl, ⟨some a, cap, rfl, hl, hm, fun h0 => ?_⟩, fun i => (F i).1, fun i hi => ?_⟩
    · obtain ⟨b, off, spot⟩ := a
      have hc0 := (World.cells?_some (hF 0 h0).1)
      have hz : W.cell? ⟨b, off, spot⟩ = some ((F 0).2.getD 0 undef) := by
        have := hc0.2.2 0 hsz
        rw [List.getElem?_eq_getElem (by rw [hc0.2.1]; exact hsz)] at this
        simpa [Addr.add, List.getD, List.getElem?_eq_getElem (show 0 < (F 0).2.length by rw [hc0.2.1]; exact hsz)] using this
      have hspot : spot = none := by simpa using World.cell?_spot hz
      subst hspot
      refine ⟨b, off, rfl, cell_in hz, fun i hi j hj => ?_⟩
      have hci := World.cells?_some (hF i hi).1
      have := hci.2.2 j hj
      rw [addr_add, addr_add] at this
      show _ = some ((F i).2.getD j undef)
      rw [this, List.getD_eq_getElem?_getD, List.getElem?_eq_getElem (show j < (F i).2.length by rw [hci.2.1]; exact hj)]
      rfl
    · have hci := World.cells?_some (hF i hi).1
      have : (List.range sz).map (fun j => (F i).2.getD j undef) = (F i).2 := by
        apply List.ext_getElem?
        intro j
        by_cases hj : j < sz
        · rw [List.getElem?_map, List.getElem?_range hj, Option.map_some, List.getD_eq_getElem?_getD, List.getElem?_eq_getElem (show j < (F i).2.length by rw [hci.2.1]; exact hj)]
          rfl
        · rw [List.getElem?_eq_none (by simp; omega), List.getElem?_eq_none (by rw [hci.2.1]; omega)]
      rw [this]
      exact (hF i hi).2

theorem i64_wf {n : Int} (h : (Lit.int .i64 n).wf = true) : I64 n := by
  simp [Lit.wf, IntKind.min, IntKind.max] at h
  have h1 := of_decide_eq_true h.1
  have h2 := of_decide_eq_true h.2
  exact ⟨h1, h2⟩

theorem exs_of_sl {F : Nat → Prop} {w : World} {v : Value} {n : Nat} {c : Nat → Nat → Value} {E : Nat → Ex} (hs : SlAt F w 5 v n c) (h : ∀ i, i < n → RdEx F w (E i) ((List.range 5).map (c i))) : Exs F w ((List.range n).map E) v := by
  refine ⟨c, by simpa using hs, RdRow.of fun i hi => ?_⟩
  have := h i (by simpa using hi)
  rw [List.getElem_map, List.getElem_range]
  exact this
theorem sts_of_sl {F : Nat → Prop} {w : World} {v : Value} {n : Nat} {c : Nat → Nat → Value} {E : Nat → St} (hs : SlAt F w 6 v n c) (h : ∀ i, i < n → RdSt F w (E i) ((List.range 6).map (c i))) : Sts F w ((List.range n).map E) v := by
  refine ⟨c, by simpa using hs, RdSts.of fun i hi => ?_⟩
  have := h i (by simpa using hi)
  rw [List.getElem_map, List.getElem_range]
  exact this

theorem ce_ex : Tryz.prog.cellsOf 54 = 5 := by kernel_rfl
theorem ce_st : Tryz.prog.cellsOf 60 = 6 := by kernel_rfl
theorem ce_int : Tryz.prog.cellsOf 3 = 1 := by kernel_rfl
theorem ce_str : Tryz.prog.cellsOf 9 = 1 := by kernel_rfl
theorem ce_exs : Tryz.prog.cellsOf 42 = 1 := by kernel_rfl
theorem ce_sts : Tryz.prog.cellsOf 46 = 1 := by kernel_rfl

instance : Inhabited Ex := ⟨.mk 0 0 0 ⟨#[]⟩ []⟩
instance : Inhabited St := ⟨.mk 0 0 ⟨#[]⟩ [] [] []⟩

section
variable {H : Type} {enc : TypeId × Value → H} {W : World} {sp : Nat → Bool} {held : Bool}

set_option maxRecDepth 20000 in
theorem read_ex : ∀ (fuel : Nat) (cs : List Value) (x : DataW H × List MemPlace), DataW.trod enc Tryz.prog W 0 sp held fuel 54 cs = some x → ∃ e, RdEx (fun b => b < W.heap.size) W e cs := by
  intro fuel
  induction fuel using Nat.strongRecOn with
  | _ fuel ih =>
    intro cs x h
    obtain ⟨xs, n, rfl, _, hl, hlen, hf⟩ := DataW.trod_struct Tryz.underlying54 h
    rw [ce_ex] at hl
    have hlen : xs.length = 5 := hlen
    match cs, hl, xs, hlen with
    | [c0, c1, c2, c3, c4], _, [y0, y1, y2, y3, y4], _ =>
      have h0 := hf 0 _ rfl
      have h1 := hf 1 _ rfl
      have h2 := hf 2 _ rfl
      have h3 := hf 3 _ rfl
      have h4 := hf 4 _ rfl
      obtain ⟨k, hk, _, wk⟩ := DataW.trod_int Tryz.underlying3 h0
      obtain ⟨o, ho, _, wo⟩ := DataW.trod_int Tryz.underlying3 h1
      obtain ⟨m, hm, _, wm⟩ := DataW.trod_int Tryz.underlying3 h2
      obtain ⟨s, hs, _, ws⟩ := DataW.trod_string Tryz.underlying9 h3
      obtain ⟨v, len, c, hv, hsl, E, hE⟩ := sl_of Tryz.underlying42 ce_ex (by omega) h4 (R := RdEx (fun b => b < W.heap.size) W) (α := Ex) (fun m cs y hm => ih m (by omega) cs y)
      have e0 : c0 = .int .i64 k := by simpa [ce_int] using hk
      have e1 : c1 = .int .i64 o := by simpa [ce_int] using ho
      have e2 : c2 = .int .i64 m := by simpa [ce_int] using hm
      have e3 : c3 = .string s := by simpa [ce_str] using hs
      have e4 : c4 = v := by simpa [ce_exs] using hv
      subst e0 e1 e2 e3 e4
      exact ⟨_, rd_ex (i64_wf wk) (i64_wf wo) (i64_wf wm) ws (exs_of_sl hsl hE)⟩
theorem read_exs {fuel : Nat} {cs : List Value} {x : DataW H × List MemPlace} (h : DataW.trod enc Tryz.prog W 0 sp held fuel 42 cs = some x) : ∃ v l, cs = [v] ∧ Exs (fun b => b < W.heap.size) W l v := by
  obtain ⟨v, len, c, hv, hsl, E, hE⟩ := sl_of Tryz.underlying42 ce_ex (by omega) h (R := RdEx (fun b => b < W.heap.size) W) (α := Ex) (fun m cs y _ => read_ex m cs y)
  exact ⟨v, _, hv, exs_of_sl hsl hE⟩

set_option maxRecDepth 20000 in
theorem read_st : ∀ (fuel : Nat) (cs : List Value) (x : DataW H × List MemPlace), DataW.trod enc Tryz.prog W 0 sp held fuel 60 cs = some x → ∃ e, RdSt (fun b => b < W.heap.size) W e cs := by
  intro fuel
  induction fuel using Nat.strongRecOn with
  | _ fuel ih =>
    intro cs x h
    obtain ⟨xs, n, rfl, _, hl, hlen, hf⟩ := DataW.trod_struct Tryz.underlying60 h
    rw [ce_st] at hl
    have hlen : xs.length = 6 := hlen
    match cs, hl, xs, hlen with
    | [c0, c1, c2, c3, c4, c5], _, [y0, y1, y2, y3, y4, y5], _ =>
      have h0 := hf 0 _ rfl
      have h1 := hf 1 _ rfl
      have h2 := hf 2 _ rfl
      have h3 := hf 3 _ rfl
      have h4 := hf 4 _ rfl
      have h5 := hf 5 _ rfl
      obtain ⟨k, hk, _, wk⟩ := DataW.trod_int Tryz.underlying3 h0
      obtain ⟨m, hm, _, wm⟩ := DataW.trod_int Tryz.underlying3 h1
      obtain ⟨s, hs, _, ws⟩ := DataW.trod_string Tryz.underlying9 h2
      obtain ⟨v, l, hv, hx⟩ := read_exs h3
      obtain ⟨v2, len, c, hv2, hsl, E, hE⟩ := sl_of Tryz.underlying46 ce_st (by omega) h4 (R := RdSt (fun b => b < W.heap.size) W) (α := St) (fun m cs y hm => ih m (by omega) cs y)
      obtain ⟨v3, len3, c', hv3, hsl3, E3, hE3⟩ := sl_of Tryz.underlying46 ce_st (by omega) h5 (R := RdSt (fun b => b < W.heap.size) W) (α := St) (fun m cs y hm => ih m (by omega) cs y)
      have e0 : c0 = .int .i64 k := by simpa [ce_int] using hk
      have e1 : c1 = .int .i64 m := by simpa [ce_int] using hm
      have e2 : c2 = .string s := by simpa [ce_str] using hs
      have e3 : c3 = v := by simpa [ce_exs] using hv
      have e4 : c4 = v2 := by simpa [ce_sts] using hv2
      have e5 : c5 = v3 := by simpa [ce_sts] using hv3
      subst e0 e1 e2 e3 e4 e5
      exact ⟨_, rd_st (i64_wf wk) (i64_wf wm) ws hx (sts_of_sl hsl hE) (sts_of_sl hsl3 hE3)⟩

theorem read_sts {fuel : Nat} {cs : List Value} {x : DataW H × List MemPlace} (h : DataW.trod enc Tryz.prog W 0 sp held fuel 46 cs = some x) : ∃ v l, cs = [v] ∧ Sts (fun b => b < W.heap.size) W l v := by
  obtain ⟨v, len, c, hv, hsl, E, hE⟩ := sl_of Tryz.underlying46 ce_st (by omega) h (R := RdSt (fun b => b < W.heap.size) W) (α := St) (fun m cs y _ => read_st m cs y)
  exact ⟨v, _, hv, sts_of_sl hsl hE⟩
end
end Go.Proofs.YtblhpiebheommaaGreat
/- A slice that a call makes for itself by append: what it holds, element by element, and what one more element makes of it. No program in sight. -/
namespace Go.Proofs.YtblhpiebheommaaGreat
open Go.RowKit

/-- The blocks from one number up to another one. -/
def NewB (lo hi : Nat) (b : Nat) : Prop := lo ≤ b ∧ b < hi

/-- How cells hold a datum; it goes on to hold where the blocks that are read stay. -/
structure Holds (α : Type) where
  R : (Nat → Prop) → World → α → List Value → Prop
  keep : ∀ {F G : Nat → Prop} {w w' : World} {x : α} {cs : List Value}, (∀ b, F b → w'.heap[b]? = w.heap[b]?) → (∀ b, F b → G b) → R F w x cs → R G w' x cs

def Holds.ex : Holds Ex := ⟨RdEx, fun h1 h2 h => h.keep h1 h2⟩
def Holds.st : Holds St := ⟨RdSt, fun h1 h2 h => h.keep h1 h2⟩

/-- The sz cells of element i. -/
def cellsAt (sz : Nat) (ys : List Value) (i : Nat) : List Value := (ys.drop (i * sz)).take sz

/-- A slice that the call has made itself (its blocks: from lo on) holds these data; its array is read by none of them. -/
def OwnR {α : Type} (R : Holds α) (te sz lo : Nat) (w : World) (xs : List α) (v : Value) : Prop :=
  ∃ (ys : List Value) (G : Nat → Prop), w.ownsRow lo te sz v xs.length ys ∧ (∀ b, G b → lo ≤ b ∧ b < w.heap.size ∧ v.ownBlock ≠ some b) ∧ ∀ i (h : i < xs.length), R.R G w xs[i] (cellsAt sz ys i)

section
variable {α : Type} {R : Holds α} {te sz lo : Nat} {w w' : World} {xs : List α} {v : Value}

theorem OwnR.nil (R : Holds α) (te sz lo : Nat) (w : World) : OwnR R te sz lo w [] (.slice none 0 0) :=
  ⟨[], fun _ => False, World.ownsRow_nil _ _ _ _, fun _ h => h.elim, fun i h => absurd h (by simp)⟩

theorem ownsRow_blk {ys : List Value} {n : Nat} (h : w.ownsRow lo te sz v n ys) (hb : ∀ g, v.ownBlock = some g → w'.heap[g]? = w.heap[g]?) : w'.ownsRow lo te sz v n ys := by
  obtain ⟨h1, h2⟩ := h
  refine ⟨h1, ?_⟩
  rcases h2 with h2 | ⟨g, cap, cur, rfl, h3, h4, h5⟩
  · exact .inl h2
  · exact .inr ⟨g, cap, cur, rfl, h3, by rw [hb g rfl]; exact h4, h5⟩

theorem ownsRow_in {ys : List Value} {n : Nat} (h : w.ownsRow lo te sz v n ys) : ∀ g, v.ownBlock = some g → lo ≤ g ∧ g < w.heap.size := by
  intro g hg
  rcases h.2 with ⟨rfl, _⟩ | ⟨g', cap, cur, rfl, h3, h4, h5⟩
  · simp [Value.ownBlock] at hg
  · simp [Value.ownBlock] at hg
    subst hg
    exact ⟨h3, (Array.getElem?_eq_some_iff.1 h4).1⟩

theorem OwnR.below (h : OwnR R te sz lo w xs v) (hb : Below w.heap.size w w') : OwnR R te sz lo w' xs v := by
  obtain ⟨ys, G, h1, h2, h3⟩ := h
  have hk : ∀ b, G b → w'.heap[b]? = w.heap[b]? := fun b hG => hb.block b (h2 b hG).2.1
  exact ⟨ys, G, ownsRow_blk h1 fun g hg => hb.block g (ownsRow_in h1 g hg).2, fun b hG => ⟨(h2 b hG).1, Nat.lt_of_lt_of_le (h2 b hG).2.1 hb.size, (h2 b hG).2.2⟩, fun i hi => R.keep hk (fun _ h => h) (h3 i hi)⟩

theorem OwnR.owns (h : OwnR R te sz lo w xs v) : ∃ ys, w.ownsRow lo te sz v xs.length ys := let ⟨ys, _, h1, _⟩ := h; ⟨ys, h1⟩

theorem OwnR.shape (h : OwnR R te sz lo w xs v) : ∃ a cap, v = .slice a xs.length cap := by
  obtain ⟨ys, G, h1, _⟩ := h
  rcases h1.2 with ⟨rfl, h0⟩ | ⟨g', cap, cur, rfl, h3, h4, h5⟩
  · exact ⟨_, _, by rw [h0]⟩
  · exact ⟨_, _, rfl⟩

/-- What append makes of it: the elements zs behind it, whose cells are ns. -/
theorem OwnR.more {zs : List α} {ns : List Value} {G2 : Nat → Prop} {v' : Value} (h : ∃ G, (∀ b, G b → lo ≤ b ∧ b < w.heap.size ∧ v.ownBlock ≠ some b) ∧ ∃ ys : List Value, ys.length = xs.length * sz ∧ (∀ i (h : i < xs.length), R.R G w xs[i] (cellsAt sz ys i)) ∧ w'.ownsRow lo te sz v' (xs.length + zs.length) (ys ++ ns))
    (_hn : ns.length = zs.length * sz) (hg : w.grownBy w' v.ownBlock) (hat : v'.ownBlock = v.ownBlock ∨ v'.ownBlock = some w.heap.size)
    (hG2 : ∀ b, G2 b → lo ≤ b ∧ b < w.heap.size ∧ v.ownBlock ≠ some b) (hz : ∀ i (h : i < zs.length), R.R G2 w zs[i] (cellsAt sz ns i)) : OwnR R te sz lo w' (xs ++ zs) v' := by
  obtain ⟨G, h2, ys, hy, h3, hown⟩ := h
  have hk : ∀ b, (G b ∨ G2 b) → lo ≤ b ∧ b < w.heap.size ∧ v.ownBlock ≠ some b := fun b hb => hb.elim (h2 b) (hG2 b)
  have hw : ∀ b, (G b ∨ G2 b) → w'.heap[b]? = w.heap[b]? := fun b hb => hg.block b (hk b hb).2.1 (fun e => (hk b hb).2.2 e.symm)
  refine ⟨ys ++ ns, fun b => G b ∨ G2 b, by rw [List.length_append]; exact hown, fun b hb => ⟨(hk b hb).1, Nat.lt_of_lt_of_le (hk b hb).2.1 hg.size, ?_⟩, fun i hi => ?_⟩
  · rcases hat with e | e
    · rw [e]; exact (hk b hb).2.2
    · rw [e]; have := (hk b hb).2.1; intro e2; simp at e2; omega
  · rw [List.length_append] at hi
    by_cases hlt : i < xs.length
    · have e1 : cellsAt sz (ys ++ ns) i = cellsAt sz ys i := by
        unfold cellsAt
        have hle : i * sz + sz ≤ ys.length := by rw [hy, ← Nat.succ_mul]; exact Nat.mul_le_mul_right _ hlt
        rw [List.drop_append_of_le_length (by omega), List.take_append_of_le_length (by simp; omega)]
      rw [e1, List.getElem_append_left hlt]
      exact R.keep (fun b hb => hw b (.inl hb)) (fun b hb => .inl hb) (h3 i hlt)
    · have e1 : cellsAt sz (ys ++ ns) i = cellsAt sz ns (i - xs.length) := by
        unfold cellsAt
        have e2 : i * sz = ys.length + (i - xs.length) * sz := by rw [hy, ← Nat.add_mul]; congr 1; omega
        rw [e2, List.drop_append, List.drop_eq_nil_of_le (by omega)]
        simp
      rw [e1, List.getElem_append_right (by omega)]
      exact R.keep (fun b hb => hw b (.inr hb)) (fun b hb => .inr hb) (hz _ (by omega))

theorem ownsRow_eq {ys ys2 : List Value} {n : Nat} (h1 : w.ownsRow lo te sz v n ys2) (hy : w.ownsRow lo te sz v n ys) : ys2 = ys := by
  rcases h1.2 with ⟨rfl, h0⟩ | ⟨g, cap, cur, rfl, _, h4, _, _, _, h5⟩
  · have a1 := h1.1; have a2 := hy.1
    rw [h0] at a1 a2
    have b1 : ys2 = [] := List.eq_nil_of_length_eq_zero (by simpa using a1)
    have b2 : ys = [] := List.eq_nil_of_length_eq_zero (by simpa using a2)
    rw [b1, b2]
  · rcases hy.2 with ⟨e0, _⟩ | ⟨g', cap', cur', e0, _, h4', _, _, _, h5'⟩
    · cases e0
    · cases e0
      rw [h4] at h4'
      cases h4'
      rw [← h5, ← h5']

/-- Elements behind it. -/
theorem OwnR.many {zs : List α} {ns : List Value} {G2 : Nat → Prop} {v' : Value} {ys : List Value} (h : OwnR R te sz lo w xs v) (hy : w.ownsRow lo te sz v xs.length ys)
    (hown : w'.ownsRow lo te sz v' (xs.length + zs.length) (ys ++ ns)) (hn : ns.length = zs.length * sz) (hg : w.grownBy w' v.ownBlock) (hat : v'.ownBlock = v.ownBlock ∨ v'.ownBlock = some w.heap.size)
    (hG2 : ∀ b, G2 b → lo ≤ b ∧ b < w.heap.size ∧ v.ownBlock ≠ some b) (hz : ∀ i (h : i < zs.length), R.R G2 w zs[i] (cellsAt sz ns i)) : OwnR R te sz lo w' (xs ++ zs) v' := by
  obtain ⟨ys2, G, h1, h2, h3⟩ := h
  have e : ys2 = ys := ownsRow_eq h1 hy
  subst e
  exact OwnR.more (zs := zs) (ns := ns) (G2 := G2) ⟨G, h2, ys2, h1.1, h3, hown⟩ hn hg hat hG2 hz

/-- One more element. -/
theorem OwnR.push {x : α} {cs : List Value} {G2 : Nat → Prop} {v' : Value} {ys : List Value} (h : OwnR R te sz lo w xs v) (hy : w.ownsRow lo te sz v xs.length ys)
    (hown : w'.ownsRow lo te sz v' (xs.length + 1) (ys ++ cs)) (hn : cs.length = sz) (hg : w.grownBy w' v.ownBlock) (hat : v'.ownBlock = v.ownBlock ∨ v'.ownBlock = some w.heap.size)
    (hG2 : ∀ b, G2 b → lo ≤ b ∧ b < w.heap.size ∧ v.ownBlock ≠ some b) (hz : R.R G2 w x cs) : OwnR R te sz lo w' (xs ++ [x]) v' := by
  refine OwnR.many (zs := [x]) (ns := cs) (G2 := G2) h hy (by simpa using hown) (by simp [hn]) hg hat hG2 fun i hi => ?_
  have : i = 0 := by simpa using hi
  subst this
  have e2 : cellsAt sz cs 0 = cs := by unfold cellsAt; simp [← hn]
  rw [e2]; exact hz
end
end Go.Proofs.YtblhpiebheommaaGreat
/- Slices of structs, of whatever struct: how they read, and how one of their elements is opened. No program in sight. -/
namespace Go.Proofs.YtblhpiebheommaaGreat
open Go.RowKit

/-- The sz cells of element i. -/
def rowCells (c : Nat → Nat → Value) (sz i : Nat) : List Value := (List.range sz).map (c i)

/-- A slice value whose elements hold these data. -/
def RdL {α : Type} (R : Holds α) (sz : Nat) (F : Nat → Prop) (w : World) (l : List α) (v : Value) : Prop := ∃ c, SlAt F w sz v l.length c ∧ ∀ i (h : i < l.length), R.R F w l[i] (rowCells c sz i)

section
variable {α : Type} {R : Holds α} {sz : Nat} {F G : Nat → Prop} {w w' : World} {l : List α} {v : Value}

theorem RdL.keep (hw : ∀ b, F b → w'.heap[b]? = w.heap[b]?) (hG : ∀ b, F b → G b) (h : RdL R sz F w l v) : RdL R sz G w' l v := by
  obtain ⟨c, h1, h2⟩ := h
  exact ⟨c, h1.keep hw hG, fun i hi => R.keep hw hG (h2 i hi)⟩
theorem RdL.below {B : Nat} (h : RdL R sz F w l v) (hF : Inn F w) (hb : Below B w w') (hB : w.heap.size ≤ B) : RdL R sz F w' l v := h.keep (fun b hb' => hb.block b (Nat.lt_of_lt_of_le (hF b hb') hB)) (fun _ h => h)
theorem RdL.alloc (h : RdL R sz F w l v) (hF : Inn F w) (o : Obj) : RdL R sz F (w.alloc o) l v := h.below hF ((Below.refl w.heap.size w).alloc (Nat.le_refl _) o) (Nat.le_refl _)

theorem RdL.shape (h : RdL R sz F w l v) : ∃ a cap, v = .slice a l.length cap := by
  obtain ⟨c, ⟨a, cap, rfl, _⟩, _⟩ := h
  exact ⟨a, cap, rfl⟩
theorem RdL.len (h : RdL R sz F w l v) : l.length ≤ maxLen := by
  obtain ⟨c, ⟨a, cap, rfl, h1, h2, _⟩, _⟩ := h
  omega

/-- The slice, opened: its array; and each element's cells, in any world in which that block is as it was. -/
theorem RdL.opn (h : RdL R sz F w l v) : ∃ a cap, v = .slice a l.length cap ∧ l.length ≤ cap ∧ cap ≤ maxLen ∧ (0 < l.length → ∃ b off, a = some ⟨b, off, none⟩ ∧ F b ∧ ∀ (wr : World), wr.heap[b]? = w.heap[b]? → ∀ k (hk : k < l.length), ∃ cs : List Value,
    R.R F w l[k] cs ∧ cs.length = sz ∧ ∀ j u, cs[j]? = some u → wr.cell? ⟨b, off + k * sz + j, none⟩ = some u) := by
  obtain ⟨c, ⟨a, cap, rfl, h1, h2, h3⟩, h4⟩ := h
  refine ⟨a, cap, rfl, h1, h2, fun h0 => ?_⟩
  obtain ⟨b, off, rfl, hb, hc⟩ := h3 h0
  refine ⟨b, off, rfl, hb, fun wr hwr k hk => ⟨rowCells c sz k, h4 k hk, by simp [rowCells], fun j u hu => ?_⟩⟩
  rw [World.cell?_of_block (w := w) hwr]
  unfold rowCells at hu
  rw [List.getElem?_map] at hu
  by_cases hj : j < sz
  · rw [List.getElem?_range hj] at hu
    simp at hu
    rw [← hu]
    exact hc k hk j hj
  · rw [List.getElem?_eq_none (by simp; omega)] at hu
    cases hu

theorem RdL.nil (R : Holds α) (sz : Nat) (F : Nat → Prop) (w : World) (a : Option Addr) (cap : Nat) (hc : cap ≤ maxLen) : RdL R sz F w [] (.slice a 0 cap) :=
  ⟨fun _ _ => undef, ⟨a, cap, rfl, Nat.zero_le _, hc, fun h => absurd h (by simp)⟩, fun i h => absurd h (by simp)⟩
end

/-- A struct's field that is a slice. -/
def Holds.sl {α : Type} (R : Holds α) (sz : Nat) : Holds (List α) := ⟨fun F w l cs => ∃ v, cs = [v] ∧ RdL R sz F w l v, fun h1 h2 ⟨v, h3, h4⟩ => ⟨v, h3, h4.keep h1 h2⟩⟩

/-- A string. -/
def Holds.str : Holds ByteArray := ⟨fun _ _ s cs => s.size ≤ maxLen ∧ cs = [.string s], fun _ _ h => h⟩
/-- A slice of strings. -/
abbrev RdStrs (F : Nat → Prop) (w : World) (l : List ByteArray) (v : Value) : Prop := RdL Holds.str 1 F w l v

/-- What a name stands for. -/
structure NameD where
  name : ByteArray
  kind : Int
  num : Int
def Holds.name : Holds NameD := ⟨fun _ _ x cs => x.name.size ≤ maxLen ∧ I64 x.kind ∧ I64 x.num ∧ cs = [.string x.name, .int .i64 x.kind, .int .i64 x.num], fun _ _ h => h⟩
abbrev RdNames (F : Nat → Prop) (w : World) (l : List NameD) (v : Value) : Prop := RdL Holds.name 3 F w l v
end Go.Proofs.YtblhpiebheommaaGreat
