/- append onto a slice of the call's own, of a slice wherever it lies (nil or not); a slice that the call has made, read as one that came in. -/
import Derived.Test.YtapjglpiofpbmaaPartd43a9619
import Derived.Laws.AppendOwnNone
namespace Go.Proofs.Ytapjglpiofpbmaa
open Go.RowKit

theorem run_append_own_zero {P : Program} {w : World} (base : Nat) (t ty e : TypeId) (i : TypeInfo) (size : Nat) (c : Nat) (ht : P.underlying t = some (.slice e)) (hi : P.info? e = some i)
    (v : Value) (n : Nat) (xs : List Value) (hown : w.ownsRow base e size v n xs) :
    (Builtin.append_ #[t, t] ty #[v, .slice none 0 c]).run P w = .ok v w := by
  rcases hown.2 with ⟨rfl, rfl⟩ | ⟨g, cap, cur, rfl, _, _, hnc, _⟩
  · simp [Builtin.append_, run_underlying ht, sizeOf, typeInfo, hi, Builtin.lenOf, Builtin.firstCells]
  · simp [Builtin.append_, run_underlying ht, sizeOf, typeInfo, hi, Builtin.lenOf, Builtin.firstCells, hnc, storeCells]

theorem wpList_append_own_opt {P : Program} {w : World} {ops : Array Oper} {rest : List Oper} {o : Oper} {a : Act} {Q : Exit → Act → World → Prop} (hgd : o.guard = none) (s x : Operand) (t : TypeId)
    (ho : o.op = .call { callee := .builtin .append, args := #[s, x], argTypes := #[t, t] })
    (base : Nat) (e : TypeId) (i : TypeInfo) (z : Value) (size bytes : Nat) (ht : P.underlying t = some (.slice e)) (hi : P.info? e = some i) (hz : i.zero = some z)
    (hsize : i.size = size) (hby : i.bytes = bytes) (hzs : z.cells.size = size) (hsz : 0 < size)
    (v : Value) (n : Nat) (xs : List Value) (hs : a.eval s = v) (hown : w.ownsRow base e size v n xs)
    (ad : Option Addr) (m c : Nat) (news : List Value) (hx : a.eval x = .slice ad m c) (hl : news.length = m * size) (hnews : 0 < m → ∃ p, ad = some p ∧ ∀ j u, news[j]? = some u → w.cell? (p.add j) = some u) (h1 : ∀ u ∈ news, u.oneCell' = true)
    (h63 : n + m ≤ maxLen) (hbytes : (n + m) * bytes ≤ 140737488355328) (hbase : base ≤ w.heap.size)
    (h : ∀ v' w', w'.ownsRow base e size v' (n + m) (xs ++ news) → w.grownBy w' v.ownBlock → (v'.ownBlock = v.ownBlock ∨ v'.ownBlock = some w.heap.size) → wpList P ops Q rest (a.put o.dst v') w') :
    wpList P ops Q (o :: rest) a w := by
  cases ad with
  | none =>
    have hm : m = 0 := by
      rcases Nat.eq_zero_or_pos m with h0 | h0
      · exact h0
      · obtain ⟨p, hp, _⟩ := hnews h0
        cases hp
    subst hm
    obtain rfl : news = [] := List.eq_nil_of_length_eq_zero (by simpa using hl)
    refine wpList_plain hgd fun K hK => ?_
    have hrun := run_append_own_zero (P := P) (w := w) base t o.type e i size c ht hi v n xs hown
    have hk := h v w (by simpa using hown) ⟨rfl, rfl, rfl, Nat.le_refl _, fun _ _ _ => rfl⟩ (Or.inl rfl)
    unfold Oper.wp
    simp [execOp, ho, resolve, invoke, builtin, hs, hx, hrun, Result.andThen]
    exact hK _ _ hk
  | some p =>
    refine wpList_append_own_at w hgd s x t ho base e i z size bytes ht hi hz hsize hby hzs hsz v n xs hs hown p m c news hx hl (fun j u hj => ?_) h1 h63 hbytes hbase fun v' w' q1 q2 _ q4 => h v' w' q1 q2 q4
    have h0 : 0 < m := by
      rcases Nat.eq_zero_or_pos m with h0 | h0
      · subst h0
        have hz0 : news = [] := List.eq_nil_of_length_eq_zero (by simpa using hl)
        rw [hz0] at hj
        simp at hj
      · exact h0
    obtain ⟨p', hp, hq⟩ := hnews h0
    cases hp
    exact hq j u hj

theorem cellsAt_row {ys : List Value} {n sz i : Nat} (hy : ys.length = n * sz) (hi : i < n) : cellsAt sz ys i = rowCells (fun i j => ys.getD (i * sz + j) undef) sz i := by
  have hle : i * sz + sz ≤ ys.length := by rw [hy, ← Nat.succ_mul]; exact Nat.mul_le_mul_right _ hi
  apply List.ext_getElem
  · simp [cellsAt, rowCells]; omega
  · intro j h1 h2
    have hj : j < sz := by simpa [rowCells] using h2
    simp only [cellsAt, rowCells, List.getElem_take, List.getElem_drop, List.getElem_map, List.getElem_range]
    rw [List.getD_eq_getElem?_getD, List.getElem?_eq_getElem (by omega)]
    rfl
theorem OwnR.rdl {α : Type} {R : Holds α} {te sz lo : Nat} {w : World} {xs : List α} {v : Value} (h : OwnR R te sz lo w xs v) : RdL R sz (NewB lo w.heap.size) w xs v := by
  obtain ⟨ys, hy, h1, h2⟩ := h.sl
  exact ⟨_, h1, fun i hi => by have := h2 i hi; rwa [cellsAt_row hy hi] at this⟩
/-- A slice that came in, as the cells that append copies. -/
theorem RdL.news {α : Type} {R : Holds α} {sz : Nat} {F : Nat → Prop} {w : World} {l : List α} {a : Option Addr} {n cap : Nat} (hsz : 0 < sz) (h : RdL R sz F w l (.slice a n cap))
    (h1 : ∀ x cs, R.R F w x cs → ∀ u ∈ cs, u.oneCell' = true) : ∃ ns : List Value, n = l.length ∧ ns.length = l.length * sz ∧ (∀ u ∈ ns, u.oneCell' = true) ∧ (∀ i (h : i < l.length), R.R F w l[i] (cellsAt sz ns i)) ∧
      (0 < l.length → ∃ p, a = some p ∧ F p.block ∧ ∀ wr : World, wr.heap[p.block]? = w.heap[p.block]? → ∀ j u, ns[j]? = some u → wr.cell? (p.add j) = some u) := by
  obtain ⟨c, ⟨a', cap', e, h2, h3, h4⟩, h5⟩ := h
  cases e
  have hl : ∀ j, j < l.length * sz → j / sz < l.length ∧ j % sz < sz := fun j hj => ⟨Nat.div_lt_of_lt_mul (by rwa [Nat.mul_comm]), Nat.mod_lt _ hsz⟩
  have hat : ∀ i, i < l.length → cellsAt sz ((List.range (l.length * sz)).map fun j => c (j / sz) (j % sz)) i = rowCells c sz i := by
    intro i hi
    have hle : i * sz + sz ≤ l.length * sz := by rw [← Nat.succ_mul]; exact Nat.mul_le_mul_right _ hi
    apply List.ext_getElem
    · simp [cellsAt, rowCells]; omega
    · intro j h1 h2
      have hj : j < sz := by simpa [rowCells] using h2
      simp only [cellsAt, rowCells, List.getElem_take, List.getElem_drop, List.getElem_map, List.getElem_range]
      rw [Nat.mul_comm i sz, Nat.mul_add_div hsz, Nat.div_eq_of_lt hj, Nat.mul_add_mod, Nat.mod_eq_of_lt hj, Nat.add_zero]
  refine ⟨(List.range (l.length * sz)).map fun j => c (j / sz) (j % sz), rfl, by simp, fun u hu => ?_, fun i hi => by rw [hat i hi]; exact h5 i hi, fun h0 => ?_⟩
  · obtain ⟨j, hj, rfl⟩ := List.mem_map.1 hu
    obtain ⟨q1, q2⟩ := hl j (List.mem_range.1 hj)
    exact h1 _ _ (h5 _ q1) _ (List.mem_map.2 ⟨_, List.mem_range.2 q2, rfl⟩)
  · obtain ⟨b, off, rfl, hb, hc⟩ := h4 h0
    refine ⟨_, rfl, hb, fun wr hwr j u hu => ?_⟩
    rw [List.getElem?_map] at hu
    by_cases hj : j < l.length * sz
    · obtain ⟨q1, q2⟩ := hl j hj
      rw [List.getElem?_range hj] at hu
      simp at hu
      have ha : (⟨b, off, none⟩ : Addr).add j = ⟨b, off + j / sz * sz + j % sz, none⟩ := by
        rw [Nat.add_assoc, Nat.div_add_mod']
        unfold Addr.add
        split <;> simp_all
      have hwr' : wr.heap[b]? = w.heap[b]? := hwr
      rw [ha, World.cell?_of_block (w := w) hwr', hc _ q1 _ q2, hu]
    · rw [List.getElem?_eq_none (by simp; omega)] at hu
      cases hu

theorem str_one (F : Nat → Prop) (w : World) (x : ByteArray) (cs : List Value) (h : Holds.str.R F w x cs) : ∀ u ∈ cs, u.oneCell' = true := by
  obtain ⟨-, rfl⟩ := h
  simp [Value.oneCell']
theorem pair_one (F : Nat → Prop) (w : World) (x : PairD) (cs : List Value) (h : Holds.pair.R F w x cs) : ∀ u ∈ cs, u.oneCell' = true := by
  obtain ⟨-, -, rfl⟩ := h
  simp [Value.oneCell']
end Go.Proofs.Ytapjglpiofpbmaa
