/- The map that is keyed by commands, as acts.All uses it. -/
import Derived.Test.YtapjglpiofpbmaaPart7a33d1b2
import Derived.MapKept
import Derived.WideKeyEntry
import Derived.RangeFuncLeaves
import Derived.Sort.Grow
import Derived.Deep.Draws
namespace Go.Proofs.Ytapjglpiofpbmaa
open Go.RowKit Go.Sort Go.MapKept

theorem cmd_check (em : Bool) (c : CmdD) (w : World) : (Instr.checkKey em 10000 23 c.val).run Try.prog w = .ok () w := by
  unfold CmdD.val
  kernel_rfl
theorem cmd_equal (a b : CmdD) (w : World) : (Op.equal 23 a.val b.val).run Try.prog w = .ok (decide (a = b)) w := cmd_equalIn a b w
theorem val_inj {a b : CmdD} (h : a.val = b.val) : a = b := by
  unfold CmdD.val at h
  simp only [Value.agg.injEq, Array.mk.injEq, List.cons.injEq, Value.int.injEq, true_and, and_true] at h
  exact CmdD.ext' h.1 h.2.1 h.2.2.1 h.2.2.2.1 h.2.2.2.2
theorem same_val (c : CmdD) : Instr.sameBits 10000 c.val c.val = true := by
  unfold CmdD.val
  simp [Instr.sameBits]
theorem find_asking (w : World) (c : CmdD) : ∀ (es : List MapEntry) (i : Nat), (∀ e ∈ es, ∃ d : CmdD, e.key = d.val) →
    ((∀ e ∈ es, e.key ≠ c.val) ∧ (Instr.findAsking 23 c.val es i).run Try.prog w = .ok none w) ∨
      ∃ j e, es[j]? = some e ∧ e.key = c.val ∧ (Instr.findAsking 23 c.val es i).run Try.prog w = .ok (some (i + j, e.val)) w
  | [], i, _ => .inl ⟨fun e h => absurd h (by simp), rfl⟩
  | e :: es, i, h => by
    obtain ⟨d, hd⟩ := h e (by simp)
    by_cases hc : c = d
    · refine .inr ⟨0, e, rfl, by rw [hd, hc], ?_⟩
      unfold Instr.findAsking
      rw [hd]
      simp only [Sem.run_bind, cmd_equal, Result.andThen, hc, decide_true]
      rfl
    · have hne : e.key ≠ c.val := fun e' => hc (val_inj (by rw [← e', hd]))
      have hrun : (Instr.findAsking 23 c.val (e :: es) i).run Try.prog w = (Instr.findAsking 23 c.val es (i + 1)).run Try.prog w := by
        rw [Instr.findAsking, hd]
        simp only [Sem.run_bind, cmd_equal, Result.andThen, hc, decide_false]
        rfl
      rcases find_asking w c es (i + 1) (fun e' he => h e' (by simp [he])) with ⟨h1, h2⟩ | ⟨j, e', h1, h2, h3⟩
      · refine .inl ⟨fun e' he => ?_, by rw [hrun, h2]⟩
        rcases List.mem_cons.1 he with rfl | he
        · exact hne
        · exact h1 e' he
      · exact .inr ⟨j + 1, e', by simpa using h1, h2, by rw [hrun, h3, show i + 1 + j = i + (j + 1) by omega]⟩
theorem find_key (w : World) (c : CmdD) (es : List MapEntry) (h : ∀ e ∈ es, ∃ d : CmdD, e.key = d.val) :
    ((∀ e ∈ es, e.key ≠ c.val) ∧ (Instr.findKey 23 c.val es).run Try.prog w = .ok none w) ∨
      ∃ j e, es[j]? = some e ∧ e.key = c.val ∧ (Instr.findKey 23 c.val es).run Try.prog w = .ok (some (j, e.val)) w := by
  have h9 := find_asking w c es 0 h
  have e : (Instr.findKey 23 c.val es).run Try.prog w = (Instr.findAsking 23 c.val es 0).run Try.prog w := by
    unfold Instr.findKey
    simp only [Sem.run_bind, run_underlying Try.underlying23, Result.andThen]
    cases es with
    | nil => rfl
    | cons e es => rfl
  rw [e]
  simpa using h9

/-- The map in block b: command c has met f c times (0: perhaps it stands there, perhaps not). -/
def MapC (W : World) (b : Nat) (f : CmdD → Int) (es : Array MapEntry) (clock : Nat) : Prop :=
  W.heap[b]? = some (.map es clock) ∧ (∀ e ∈ es.toList, ∃ d : CmdD, e.key = d.val ∧ e.val = .int .i64 (f d)) ∧ (∀ d, f d ≠ 0 → ∃ e ∈ es.toList, e.key = d.val) ∧
    (es.toList.map (·.key)).Nodup ∧ (∀ e ∈ es.toList, e.born < clock) ∧ (es.toList.map (·.born)).Nodup
theorem MapC.kept {W W' : World} {b : Nat} {f : CmdD → Int} {es : Array MapEntry} {clock : Nat} (h : MapC W b f es clock) (hb : W'.heap[b]? = W.heap[b]?) : MapC W' b f es clock := ⟨hb.trans h.1, h.2⟩
theorem MapC.keys {W : World} {b : Nat} {f : CmdD → Int} {es : Array MapEntry} {clock : Nat} (h : MapC W b f es clock) : ∀ e ∈ es.toList, ∃ d : CmdD, e.key = d.val := fun e he => let ⟨d, h1, _⟩ := h.2.1 e he; ⟨d, h1⟩
theorem MapC.new (W : World) : MapC (W.alloc (.map #[] 0)) W.heap.size (fun _ => 0) #[] 0 :=
  ⟨World.alloc_heap_new W _, fun e h => absurd h (by simp), fun d h => absurd rfl h, by simp, fun e h => absurd h (by simp), by simp⟩
theorem map_lookup {W : World} {b : Nat} {f : CmdD → Int} {es : Array MapEntry} {clock : Nat} (h : MapC W b f es clock) (c : CmdD) : (Instr.lookup 55 (.map (some b)) c.val false).run Try.prog W = .ok (.int .i64 (f c)) W := by
  have hz : (zeroValue 3).run Try.prog W = .ok (.int .i64 0) W := Try.zeroValue3 W
  rcases find_key W c es.toList h.keys with ⟨h1, h2⟩ | ⟨j, e, h1, h2, h3⟩
  · have h0 : f c = 0 := Classical.byContradiction fun h0 => by
      obtain ⟨e, he, h9⟩ := h.2.2.1 c h0
      exact h1 e he h9
    simp [Instr.lookup, run_underlying Try.underlying55, Go.MapKept.run_getObj_map h.1, cmd_check, h2, hz, Result.andThen, h0]
  · obtain ⟨d, h4, h5⟩ := h.2.1 e (List.mem_of_getElem? h1)
    obtain rfl : d = c := val_inj (by rw [← h4, h2])
    simp [Instr.lookup, run_underlying Try.underlying55, Go.MapKept.run_getObj_map h.1, cmd_check, h3, Result.andThen, h5]
theorem grown_map (W : World) (b : Nat) (o : Obj) : W.grownBy { W with heap := W.heap.setIfInBounds b o } (some b) :=
  ⟨rfl, rfl, rfl, by simp, fun k _ hk => by
    have : b ≠ k := fun e => hk (by rw [e])
    simp [this]⟩
/-- The entry of a command: it stands there, its stamp is st. -/
def MapAt (W : World) (b : Nat) (f : CmdD → Int) (c : CmdD) (st : Nat) : Prop := ∃ es clock, MapC W b f es clock ∧ ∃ (j : Nat) (e : MapEntry), es.toList[j]? = some e ∧ e.key = c.val ∧ e.born = st
theorem map_entry {W : World} {b : Nat} {f : CmdD → Int} {es : Array MapEntry} {clock : Nat} (h : MapC W b f es clock) (c : CmdD) :
    ∃ (st : Nat) (W' : World), (Instr.mapEntry 55 (.map (some b)) c.val).run Try.prog W = .ok (.tuple #[.int .i64 (f c), goInt st]) W' ∧ MapAt W' b f c st ∧ W.grownBy W' (some b) := by
  have hz : (zeroValue 3).run Try.prog W = .ok (.int .i64 0) W := Try.zeroValue3 W
  have hblt : b < W.heap.size := (Array.getElem?_eq_some_iff.1 h.1).1
  rcases find_key W c es.toList h.keys with ⟨h1, h2⟩ | ⟨j, e, h1, h2, h3⟩
  · have h0 : f c = 0 := Classical.byContradiction fun h0 => by
      obtain ⟨e, he, h9⟩ := h.2.2.1 c h0
      exact h1 e he h9
    refine ⟨clock, { W with heap := W.heap.setIfInBounds b (.map (es.push ⟨c.val, .int .i64 0, clock⟩) (clock + 1)) }, ?_, ⟨es.push ⟨c.val, .int .i64 0, clock⟩, clock + 1, ⟨?_, ?_, ?_, ?_, ?_, ?_⟩, es.toList.length, ⟨c.val, .int .i64 0, clock⟩, by simp, rfl, rfl⟩, grown_map _ _ _⟩
    · simp [Instr.mapEntry, run_underlying Try.underlying55, Go.MapKept.run_getObj_map h.1, cmd_check, h2, hz, Go.MapKept.run_setObj_map _ h.1, Result.andThen, h0]
    · simp [hblt]
    · intro e he
      rw [Array.toList_push] at he
      rcases List.mem_append.1 he with he | he
      · exact h.2.1 e he
      · obtain rfl : e = ⟨c.val, .int .i64 0, clock⟩ := by simpa using he
        exact ⟨c, rfl, by rw [h0]⟩
    · intro d hd
      obtain ⟨e, he, h9⟩ := h.2.2.1 d hd
      exact ⟨e, by rw [Array.toList_push]; exact List.mem_append.2 (.inl he), h9⟩
    · rw [Array.toList_push, List.map_append]
      refine List.nodup_append.2 ⟨h.2.2.2.1, by simp, fun a ha d hd e1 => ?_⟩
      obtain rfl : d = c.val := by simpa using hd
      obtain ⟨x, hx, rfl⟩ := List.mem_map.1 ha
      exact h1 x hx e1
    · intro e he
      rw [Array.toList_push] at he
      rcases List.mem_append.1 he with he | he
      · have := h.2.2.2.2.1 e he
        omega
      · obtain rfl : e = ⟨c.val, .int .i64 0, clock⟩ := by simpa using he
        simp
    · rw [Array.toList_push, List.map_append]
      refine List.nodup_append.2 ⟨h.2.2.2.2.2, by simp, fun a ha d hd e1 => ?_⟩
      obtain rfl : d = clock := by simpa using hd
      obtain ⟨x, hx, rfl⟩ := List.mem_map.1 ha
      have := h.2.2.2.2.1 x hx
      omega
  · obtain ⟨d, h4, h5⟩ := h.2.1 e (List.mem_of_getElem? h1)
    obtain rfl : d = c := val_inj (by rw [← h4, h2])
    have hj : es[j]? = some e := by rw [← Array.getElem?_toList]; exact h1
    have hsame : es.modify j (fun e => { e with key := d.val }) = es := by
      apply Array.ext'
      rw [Array.toList_modify]
      apply List.ext_getElem?
      intro i
      rw [List.getElem?_modify]
      by_cases hi : j = i
      · subst hi
        rw [h1]
        simp [← h2]
      · simp [hi]
    have hst : (Instr.keyThatStays d.val d.val).run Try.prog W = .ok d.val W := by simp [Instr.keyThatStays, same_val]
    refine ⟨e.born, { W with heap := W.heap.setIfInBounds b (.map es clock) }, ?_, ⟨es, clock, ⟨?_, h.2⟩, j, e, h1, h2, rfl⟩, grown_map _ _ _⟩
    · simp [Instr.mapEntry, run_underlying Try.underlying55, Go.MapKept.run_getObj_map h.1, cmd_check, h3, hj, h4, hst, hsame, Go.MapKept.run_setObj_map _ h.1, Result.andThen, h5]
    · simp [hblt]
theorem map_store {W : World} {b : Nat} {f : CmdD → Int} {c : CmdD} {st : Nat} (h : MapAt W b f c st) (n : Int) (_hn : n ≠ 0) :
    ∃ (W' : World) (es : Array MapEntry) (clock : Nat), (Instr.entryStore 55 (.map (some b)) (goInt st) (.int .i64 n)).run Try.prog W = .ok () W' ∧ MapC W' b (fun d => if d = c then n else f d) es clock ∧ W.grownBy W' (some b) := by
  obtain ⟨es, clock, hm, j, e, h1, h2, h3⟩ := h
  have hblt : b < W.heap.size := (Array.getElem?_eq_some_iff.1 hm.1).1
  have hidx : es.findIdx? (fun x => ((x.born : Nat) : Int) == ((st : Nat) : Int)) = some j := by
    rw [Go.WideElems.findIdx_arr, ← h3]
    exact Go.WideElems.findIdx_born hm.2.2.2.2.2 h1
  have hge : ∀ (i : Nat) (x : MapEntry), (es.modify j (fun e => { e with val := Value.int .i64 n })).toList[i]? = some x → ∃ y, es.toList[i]? = some y ∧ x.key = y.key ∧ x.born = y.born ∧ (i = j → x.val = .int .i64 n) ∧ (i ≠ j → x.val = y.val) := fun i x hx => by
    rw [Array.toList_modify, List.getElem?_modify] at hx
    by_cases hi : j = i
    · subst hi
      rw [h1] at hx
      simp at hx
      subst hx
      exact ⟨e, h1, rfl, rfl, fun _ => rfl, fun h => absurd rfl h⟩
    · cases hy : es.toList[i]? with
      | none => rw [hy] at hx; cases hx
      | some y =>
        rw [hy] at hx
        obtain rfl : y = x := by simpa [hi] using hx
        exact ⟨y, rfl, rfl, rfl, fun h => absurd h.symm hi, fun _ => rfl⟩
  have hkeys : (es.modify j (fun e => { e with val := Value.int .i64 n })).toList.map (·.key) = es.toList.map (·.key) := by
    rw [Array.toList_modify]
    apply List.ext_getElem?
    intro i
    rw [List.getElem?_map, List.getElem?_map, List.getElem?_modify]
    by_cases hi : j = i <;> cases es.toList[i]? <;> simp [hi]
  have hborn : (es.modify j (fun e => { e with val := Value.int .i64 n })).toList.map (·.born) = es.toList.map (·.born) := by
    rw [Array.toList_modify]
    apply List.ext_getElem?
    intro i
    rw [List.getElem?_map, List.getElem?_map, List.getElem?_modify]
    by_cases hi : j = i <;> cases es.toList[i]? <;> simp [hi]
  refine ⟨{ W with heap := W.heap.setIfInBounds b (.map (es.modify j (fun e => { e with val := Value.int .i64 n })) clock) }, es.modify j (fun e => { e with val := Value.int .i64 n }), clock, ?_, ⟨?_, ?_, ?_, ?_, ?_, ?_⟩, grown_map _ _ _⟩
  · simp [Instr.entryStore, Go.MapKept.run_getObj_map hm.1, asInt, asIntOf, goInt, hidx, Go.MapKept.run_setObj_map _ hm.1, Result.andThen]
  · simp [hblt]
  · intro x hx
    obtain ⟨i, hi, rfl⟩ := List.getElem_of_mem hx
    obtain ⟨y, hy, e1, e2, e3, e4⟩ := hge i _ (List.getElem?_eq_getElem hi)
    obtain ⟨d, hd1, hd2⟩ := hm.2.1 y (List.mem_of_getElem? hy)
    refine ⟨d, by rw [e1, hd1], ?_⟩
    by_cases hij : i = j
    · subst hij
      rw [h1] at hy
      cases hy
      obtain rfl : d = c := val_inj (by rw [← hd1, h2])
      rw [e3 rfl]
      simp
    · have hdc : d ≠ c := fun e9 => by
        subst e9
        have hki : (es.toList.map (·.key))[i]? = some d.val := by rw [List.getElem?_map, hy]; simp [hd1]
        have hkj : (es.toList.map (·.key))[j]? = some d.val := by rw [List.getElem?_map, h1]; simp [h2]
        exact hij ((List.getElem?_inj (List.getElem?_eq_some_iff.1 hki).1 hm.2.2.2.1).1 (hki.trans hkj.symm))
      rw [e4 hij, hd2]
      simp [hdc]
  · intro d hd
    by_cases hdc : d = c
    · subst hdc
      have hm9 : d.val ∈ (es.modify j (fun e => { e with val := Value.int .i64 n })).toList.map (·.key) := by
        rw [hkeys]
        exact List.mem_map.2 ⟨e, List.mem_of_getElem? h1, h2⟩
      obtain ⟨x, hx, e9⟩ := List.mem_map.1 hm9
      exact ⟨x, hx, e9⟩
    · have hd : f d ≠ 0 := by simpa [hdc] using hd
      obtain ⟨y, hy, e9⟩ := hm.2.2.1 d hd
      have hm9 : d.val ∈ (es.modify j (fun e => { e with val := Value.int .i64 n })).toList.map (·.key) := by
        rw [hkeys]
        exact List.mem_map.2 ⟨y, hy, e9⟩
      obtain ⟨x, hx, e9⟩ := List.mem_map.1 hm9
      exact ⟨x, hx, e9⟩
  · rw [hkeys]; exact hm.2.2.2.1
  · intro x hx
    obtain ⟨i, hi, rfl⟩ := List.getElem_of_mem hx
    obtain ⟨y, hy, e1, e2, e3, e4⟩ := hge i _ (List.getElem?_eq_getElem hi)
    rw [e2]
    exact hm.2.2.2.2.1 y (List.mem_of_getElem? hy)
  · rw [hborn]; exact hm.2.2.2.2.2
end Go.Proofs.Ytapjglpiofpbmaa
/- acts.by; the marks that ranges over a function leave; operations in a fence. Printed by gen-ac32.py. -/
namespace Go.Proofs.Ytapjglpiofpbmaa
open Go.RowKit Go.Sort
attribute [local go_sem] Oper.semAt_some

section
variable {F : Fence} {n : Nat} {P : Program} {Q : Exit → Act → World → Prop} {a : Act} {w w' : World} {K : Act → World → Prop} {o : Oper}
theorem oper_val {v : Value} (hab : ∀ f, o.about P w a.eval = some f → F.fn f) (hd : ∀ c, o.op ≠ .defer c) (h : (execOp a.eval o).run P w = .ok (.value v) w') (hk : K (a.put o.dst v) w') : Oper.wpIn F n P o a w K Q :=
  ⟨hab, by rw [Oper.semAt_eq _ _ _ hd, h]; exact hk⟩
theorem oper_skip (hab : ∀ f, o.about P w a.eval = some f → F.fn f) (hd : ∀ c, o.op ≠ .defer c) (h : (execOp a.eval o).run P w = .ok .skip w') (hk : K (a.put o.dst undef) w') : Oper.wpIn F n P o a w K Q :=
  ⟨hab, by rw [Oper.semAt_eq _ _ _ hd, h]; exact hk⟩
theorem in_load (ty : TypeId) (x : Operand) (p : Value) (v : Value) (ho : o.op = .load ty x) (hx : a.eval x = p) (hL : (Instr.loadAt ty p).run P w = .ok v w) (hk : K (a.put o.dst v) w) : Oper.wpIn F n P o a w K Q :=
  oper_val (fun f hf => by simp [Oper.about, ho] at hf) (fun c => by rw [ho]; intro h; cases h) (by simp only [execOp, ho, hx, Sem.run_bind, hL, Result.andThen_ok, Sem.run_pure]) hk
theorem in_lookup (t : TypeId) (m x : Operand) (ok : Bool) (mv xv v : Value) (ho : o.op = .lookup t m x ok) (hm : a.eval m = mv) (hx : a.eval x = xv) (hL : (Instr.lookup t mv xv ok).run P w = .ok v w) (hk : K (a.put o.dst v) w) : Oper.wpIn F n P o a w K Q :=
  oper_val (fun f hf => by simp [Oper.about, ho] at hf) (fun c => by rw [ho]; intro h; cases h) (by simp only [execOp, ho, hm, hx, Sem.run_bind, hL, Result.andThen_ok, Sem.run_pure]) hk
theorem in_entry (t : TypeId) (m x : Operand) (mv xv v : Value) (ho : o.op = .mapEntry t m x) (hm : a.eval m = mv) (hx : a.eval x = xv) (hL : (Instr.mapEntry t mv xv).run P w = .ok v w') (hk : K (a.put o.dst v) w') : Oper.wpIn F n P o a w K Q :=
  oper_val (fun f hf => by simp [Oper.about, ho] at hf) (fun c => by rw [ho]; intro h; cases h) (by simp only [execOp, ho, hm, hx, Sem.run_bind, hL, Result.andThen_ok, Sem.run_pure]) hk
theorem in_store (t : TypeId) (m s x : Operand) (mv sv xv : Value) (ho : o.op = .entryStore t m s x) (hm : a.eval m = mv) (hs : a.eval s = sv) (hx : a.eval x = xv) (hL : (Instr.entryStore t mv sv xv).run P w = .ok () w') (hk : K (a.put o.dst undef) w') : Oper.wpIn F n P o a w K Q :=
  oper_skip (fun f hf => by simp [Oper.about, ho] at hf) (fun c => by rw [ho]; intro h; cases h) (by simp only [execOp, ho, hm, hs, hx, Sem.run_bind, hL, Result.andThen_ok, Sem.run_pure]) hk
theorem in_pure (v : Value) (hn : o.about P w a.eval = none) (hd : ∀ c, o.op ≠ .defer c) (hL : (execOp a.eval o).run P w = .ok (.value v) w) (hk : K (a.put o.dst v) w) : Oper.wpIn F n P o a w K Q :=
  oper_val (fun f hf => by rw [hn] at hf; cases hf) hd hL hk
end

/-- The mark of a range over a function that is over. -/
abbrev markAt (D : Nat) : Deferred := { target := .collected D, args := #[] }
/-- Marks whose blocks hold no call. -/
def Marks (lo : Nat) (W : World) (Ds : List Nat) : Prop := Ds.Nodup ∧ ∀ D ∈ Ds, lo ≤ D ∧ W.heap[D]? = some (.deferred (some []))
theorem Marks.grown {lo : Nat} {W W' : World} {Ds : List Nat} {row : Option Nat} (h : Marks lo W Ds) (g : W.grownBy W' row) (hr : ∀ r, row = some r → W.heap[r]? ≠ some (.deferred (some []))) : Marks lo W' Ds :=
  ⟨h.1, fun D hD => ⟨(h.2 D hD).1, (g.block D (lt_of_some (h.2 D hD).2) (fun e => hr D e.symm (h.2 D hD).2)).trans (h.2 D hD).2⟩⟩
theorem Marks.below {lo : Nat} {W W' : World} {Ds : List Nat} (h : Marks lo W Ds) (g : Below W.heap.size W W') : Marks lo W' Ds := h.grown (grown_of g) (fun r e => by cases e)
theorem marks_own {β : Type} {lo s : Nat} {Ds : List Nat} (hs : ∀ D ∈ Ds, D < s) : OwnFrom s (fun (_ : β) W => Marks lo W Ds) := fun _ W W' row h g hr =>
  ⟨h.1, fun D hD => ⟨(h.2 D hD).1, (g.block D (lt_of_some (h.2 D hD).2) (fun e => by have := (hr D e.symm).1; have := hs D hD; omega)).trans (h.2 D hD).2⟩⟩
/-- What the marks' going leaves as it was. -/
def KeepM (lo : Nat) (W W' : World) : Prop := Below lo W W' ∧ ∀ (b : Nat) (o : Obj), W.heap[b]? = some o → o.isCells = true → W'.heap[b]? = some o
theorem leaves_marks {F : Fence} {n : Nat} {P : Program} {fn : Func} {tmps : Array Value} {R : Ending → World → Prop} {w : World} : ∀ (Ds : List Nat) (W : World), Marks w.heap.size W Ds →
    (∀ W', KeepM w.heap.size W W' → LeavesInM F n P fn tmps R [] .returning W') → LeavesInM F n P fn tmps R (Ds.map markAt) .returning W
  | [], W, _, h => h W ⟨Below.refl _ _, fun _ _ h _ => h⟩
  | D :: Ds, W, hM, h => by
    have hD := hM.2 D (by simp)
    have hnd := List.nodup_cons.1 hM.1
    refine ⟨by simp, .inl ⟨D, _, rfl, run_takeDeferred hD.2, ?_⟩⟩
    refine leaves_marks (w := w) Ds _ ⟨hnd.2, fun D' hD' => ⟨(hM.2 D' (by simp [hD'])).1, ?_⟩⟩ (fun W' hK => h W' ⟨?_, fun b o hb ho => hK.2 b o ?_ ho⟩)
    · rw [World.putObj_heap_other (by rintro rfl; exact hnd.1 hD')]
      exact (hM.2 D' (by simp [hD'])).2
    · exact (belowK_b (w := w) (Nat.le_refl _) W D _ _ hD.1 hD.2 rfl rfl).trans hK.1
    · rw [World.putObj_heap_other (by rintro rfl; rw [hD.2] at hb; cases hb; cases ho)]
      exact hb
set_option maxRecDepth 100000 in
set_option maxHeartbeats 2000000 in
/-- The maker of the iterator. -/
theorem by_calls (w : World) (verb : Int) (lv ev : Value) (hlv : ∃ a n c, lv = .slice a n c) (hev : ∃ a n c, ev = .slice a n c) : Calls Try.prog 14 #[.int .i64 verb, lv, ev] w (fun e w' => ∃ bl bs bv, e = .returned (.func (.func 26) #[] #[.pointer (some ⟨bl, 0, none⟩), .pointer (some ⟨bs, 0, none⟩), .pointer (some ⟨bv, 0, none⟩)]) ∧ BoxT w' bl [lv] 50 ∧ BoxT w' bs [ev] 27 ∧ BoxT w' bv [.int .i64 verb] 3 ∧ w.heap.size ≤ bl ∧ w.heap.size ≤ bs ∧ w.heap.size ≤ bv ∧ Below w.heap.size w w') := by
  obtain ⟨la, ln, lc, rfl⟩ := hlv
  obtain ⟨sa, sn, sc, rfl⟩ := hev
  obtain ⟨W1, hW1⟩ : ∃ z, w.alloc (.cells #[.int .i64 verb] 3) = z := ⟨_, rfl⟩
  obtain ⟨W2, hW2⟩ : ∃ z, W1.alloc (.cells #[.slice la ln lc] 50) = z := ⟨_, rfl⟩
  obtain ⟨W3, hW3⟩ : ∃ z, W2.alloc (.cells #[.slice sa sn sc] 27) = z := ⟨_, rfl⟩
  have hb1 : Below w.heap.size w W1 := by rw [← hW1]; exact (Below.refl _ _).alloc (Nat.le_refl _) _
  have hb2 : Below W1.heap.size W1 W2 := by rw [← hW2]; exact (Below.refl _ _).alloc (Nat.le_refl _) _
  have hb3 : Below W2.heap.size W2 W3 := by rw [← hW3]; exact (Below.refl _ _).alloc (Nat.le_refl _) _
  have hx1 : BoxT W1 w.heap.size [.int .i64 verb] 3 := by rw [← hW1]; exact BoxT.new _ _ _
  have hx2 : BoxT W2 W1.heap.size [.slice la ln lc] 50 := by rw [← hW2]; exact BoxT.new _ _ _
  have hx3 : BoxT W3 W2.heap.size [.slice sa sn sc] 27 := by rw [← hW3]; exact BoxT.new _ _ _
  have HX1 := Lib.hid ((hx1.below hb2).below hb3); have HX2 := Lib.hid (hx2.below hb3); have HX3 := Lib.hid hx3
  have HB := Lib.hid (btK (btK hb1 hb2) hb3)
  have HW1 := Lib.hid hW1; have HW2 := Lib.hid hW2; have HW3 := Lib.hid hW3
  have hs1 := hb1.size; have hs2 := hb2.size
  have hz1 : W1.heap.size = w.heap.size + 1 := by rw [← hW1]; simp
  have hz2 : W2.heap.size = w.heap.size + 1 + 1 := by rw [← hW2]; simp [hz1]
  rw [hz1] at HX2
  rw [hz2] at HX3
  clear hW1 hW2 hW3 hb1 hb2 hb3 hx1 hx2 hx3 hs1 hs2 hz1 hz2
  go_enter Try.func14, Try.ntmps14
  go_upto_region 1 with fail
  rw [HW1.out, HW2.out, HW3.out]
  clear HW1 HW2 HW3
  go_wp2
  go_ret
  exact ⟨_, _, _, rfl, HX2.out, HX3.out, HX1.out, by omega, by omega, Nat.le_refl _, HB.out⟩
end Go.Proofs.Ytapjglpiofpbmaa
/- acts.Less and the closure that acts.All sorts by. Printed by gen-ac35.py. -/
namespace Go.Proofs.Ytapjglpiofpbmaa
open Go.RowKit Go.Sort

/-- What lay below B is as it was, and the draws went on. -/
def Near (B : Nat) (W W' : World) : Prop := Below B W W' ∧ W.drawn ≤ W'.drawn
theorem nearK {a b c : World} (h : Near a.heap.size a b) (k : Near b.heap.size b c) : Near a.heap.size a c := ⟨btK h.1 k.1, Nat.le_trans h.2 k.2⟩
theorem Near.drew (W : World) : Near W.heap.size W W.drew := ⟨(Below.refl _ _).drew, Nat.le_succ _⟩
theorem Near.grow {W W' : World} (h : Near W.heap.size W W') : ∃ q os, W' = Sort.grow (W.drewN q) os := by
  obtain ⟨⟨h1, h2, h3, h4, h5⟩, h6⟩ := h
  refine ⟨W'.drawn - W.drawn, W'.heap.extract W.heap.size W'.heap.size, ?_⟩
  obtain ⟨hp, tp, dr, os, ou⟩ := W'
  simp only at h1 h2 h3 h4 h5 h6
  subst h1 h2 h3
  simp only [Sort.grow, World.drewN, World.mk.injEq, true_and, and_true]
  refine ⟨?_, by omega⟩
  apply Array.ext_getElem?
  intro k
  by_cases hk : k < W.heap.size
  · rw [h5 k hk, Array.getElem?_append_left hk]
  · rw [Array.getElem?_append_right (by omega), Array.getElem?_extract]
    by_cases h7 : k < hp.size
    · rw [if_pos (by omega)]; congr 1; omega
    · rw [if_neg (by omega), Array.getElem?_eq_none (by omega)]
set_option maxRecDepth 100000 in
set_option maxHeartbeats 2000000 in
theorem compareN (F G : Nat → Prop) (w : World) (la lb : List Int) (va vb : Value) (hF : Inn F w) (hG : Inn G w) (ha : RdInts F w la va) (hb : RdInts G w lb vb) : Calls Try.prog 8 #[va, vb] w (fun e w9 => e = .returned (.int .i64 (cmpL la lb)) ∧ w9 = w) := by
  have hll := ha.len; have hlm := hb.len
  unfold maxLen at hll hlm
  obtain ⟨aA, cA, rfl, -, -, hA⟩ := ha.elem hF
  obtain ⟨aB, cB, rfl, -, -, hB⟩ := hb.elem hG
  have HA := Lib.hid hA; have HB := Lib.hid hB
  obtain ⟨R, hR⟩ : ∃ r, cmpL la lb = r := ⟨_, rfl⟩
  rw [hR]
  have HQ0 : Hid (cmpL (la.drop 0) (lb.drop 0) = R) := hR
  clear ha hb hA hB hR
  go_enter Try.func8, Try.ntmps8
  go_wp2
  go_loopw [11] (fun i wr => ∃ (k : Nat), k ≤ la.length ∧ k ≤ lb.length ∧ i = .int .i64 k ∧ Hid (cmpL (la.drop k) (lb.drop k) = R) ∧ w = wr) (fun i _ => la.length - (intOf i).toNat)
  case atStart => exact ⟨0, Nat.zero_le _, Nat.zero_le _, rfl, HQ0.out, rfl⟩
  case round =>
    obtain ⟨k, hk, hkb, rfl, HQ, rfl⟩ := hrel
    have h2 : (0 : Int) ≤ (k : Int) := by omega
    by_cases hlt : k < la.length
    rotate_left
    · have h1 : ¬ (k : Int) < (la.length : Int) := by omega
      have hq := HQ.out
      rw [List.drop_eq_nil_of_le (by omega)] at hq
      by_cases hlb : k < lb.length
      · have e1 : (la.length : Int) < (lb.length : Int) := by omega
        rw [List.drop_eq_getElem_cons hlb] at hq
        have HF : Hid (R = -1) := hq.symm
        clear hq
        go_wp2
        go_ret
        exact ⟨congrArg (fun q : Int => Ending.returned (.int .i64 q)) HF.out.symm, rfl⟩
      · have e1 : ¬ (la.length : Int) < (lb.length : Int) := by omega
        rw [List.drop_eq_nil_of_le (by omega)] at hq
        have HF : Hid (R = 0) := hq.symm
        clear hq
        go_wp2
        go_ret
        exact ⟨congrArg (fun q : Int => Ending.returned (.int .i64 q)) HF.out.symm, rfl⟩
    have h1 : (k : Int) < (la.length : Int) := by omega
    obtain ⟨bA, offA, rfl, helA⟩ := HA.out (by omega)
    have p0 := helA w (Below.refl _ _) k hlt
    have hq := HQ.out
    rw [List.drop_eq_getElem_cons hlt] at hq
    by_cases hlb : k < lb.length
    rotate_left
    · have e1 : ¬ (k : Int) < (lb.length : Int) := by omega
      have e2 : (lb.length : Int) ≤ (k : Int) := by omega
      rw [show lb.drop k = [] from List.drop_eq_nil_of_le (by omega)] at hq
      have HF : Hid (R = 1) := hq.symm
      generalize la[k] = x at p0
      clear hq helA
      go_wp2
      go_ret
      exact ⟨congrArg (fun q : Int => Ending.returned (.int .i64 q)) HF.out.symm, rfl⟩
    have e1 : (k : Int) < (lb.length : Int) := by omega
    have e2 : ¬ (lb.length : Int) ≤ (k : Int) := by omega
    obtain ⟨bB, offB, rfl, helB⟩ := HB.out (by omega)
    have p1 := helB w (Below.refl _ _) k hlb
    rw [List.drop_eq_getElem_cons hlb] at hq
    change (if Lib.compareInt la[k] lb[k] ≠ 0 then Lib.compareInt la[k] lb[k] else cmpL (la.drop (k + 1)) (lb.drop (k + 1))) = R at hq
    generalize la[k] = x at p0 hq
    generalize lb[k] = y at p1 hq
    have HCI := Lib.hid (Try.cmp_Compare_int x y w)
    generalize Lib.compareInt x y = z at hq HCI
    clear helA helB
    by_cases hz : z = 0
    · have HQN : Hid (cmpL (la.drop (k + 1)) (lb.drop (k + 1)) = R) := by show _ = R; rw [if_neg (by simpa using hz)] at hq; exact hq
      subst hz
      clear hq
      go_wp2_with (go_at_call 12; (with_reducible refine HCI.out.mono ?_); rintro e w1 ⟨rfl, rfl⟩)
      go_roundw
      case rel => exact ⟨k + 1, by omega, by omega, by go_num, HQN.out, by first | rfl | trivial⟩
      case measure => simp [intOf] <;> omega
    · have HF : Hid (z = R) := by show _ = R; rw [if_pos hz] at hq; exact hq
      have z1 : (z == 0) = false := by simpa using hz
      have z2 : (z != 0) = true := by simpa using hz
      clear hq hz
      go_wp2_with (go_at_call 12; (with_reducible refine HCI.out.mono ?_); rintro e w1 ⟨rfl, rfl⟩)
      go_ret
      exact ⟨congrArg (fun q : Int => Ending.returned (.int .i64 q)) HF.out, rfl⟩
set_option maxRecDepth 100000 in
set_option maxHeartbeats 2000000 in
theorem less1N (c : CmdD) (hc : c.Fit) (w : World) : Calls Try.prog 7 #[c.val] w (fun e w9 => ∃ v, e = .returned v ∧ OwnI w.heap.size w9 [c.verb, c.noun, c.second, c.number, c.dir] v ∧ Near w.heap.size w w9) := by
  have HFC := Lib.hid hc
  unfold CmdD.val
  obtain ⟨W1, hW1⟩ : ∃ z, w.alloc (.cells #[.int .i64 c.verb, .int .i64 c.noun, .int .i64 c.second, .int .i64 c.number, .int .i64 c.dir] 23) = z := ⟨_, rfl⟩
  have hb1 : Below w.heap.size w W1 := by rw [← hW1]; exact (Below.refl _ _).alloc (Nat.le_refl _) _
  have hx1 : BoxT W1 w.heap.size [.int .i64 c.verb, .int .i64 c.noun, .int .i64 c.second, .int .i64 c.number, .int .i64 c.dir] 23 := by rw [← hW1]; exact BoxT.new _ _ _
  have y0 := hx1.cell 0
  have y1 := hx1.cell 1
  have y2 := hx1.cell 2
  have y3 := hx1.cell 3
  have y4 := hx1.cell 4
  simp only [List.getElem?_cons_succ, List.getElem?_cons_zero] at y0 y1 y2 y3 y4
  have HD1 : Hid (w.drawn ≤ W1.drawn) := by rw [← hW1]; exact Nat.le_refl _
  have HW1 := Lib.hid hW1; have HB1 := Lib.hid hb1
  clear hW1 hb1 hx1 hc
  go_enter Try.func7, Try.ntmps7
  go_upto_region 1 with fail
  rw [HW1.out]
  clear HW1
  go_wp2
  go_ret
  exact ⟨_, rfl, (own_lit5 W1 c.verb c.noun c.second c.number c.dir HFC.out).lower HB1.out.size, HB1.out.trans (((Below.refl _ W1).alloc (Nat.le_refl _) _).mono HB1.out.size), HD1.out⟩
set_option maxRecDepth 100000 in
set_option maxHeartbeats 4000000 in
theorem lessN (a b : CmdD) (ha : a.Fit) (hb : b.Fit) (w : World) : Calls Try.prog 4 #[a.val, b.val] w (fun e w9 => e = .returned (.bool (decide (a.lt b))) ∧ Near w.heap.size w w9) := by
  have HCA0 := Lib.hid (less1N a ha)
  have HCB0 := Lib.hid (less1N b hb)
  have HRR := Lib.hid (cmp_less a b)
  obtain ⟨va, hva⟩ : ∃ v, a.val = v := ⟨_, rfl⟩
  obtain ⟨vb, hvb⟩ : ∃ v, b.val = v := ⟨_, rfl⟩
  have HCA : Hid (∀ W, Calls Try.prog 7 #[va] W (fun e w9 => ∃ v, e = .returned v ∧ OwnI W.heap.size w9 [a.verb, a.noun, a.second, a.number, a.dir] v ∧ Near W.heap.size W w9)) := fun W => hva ▸ HCA0.out W
  have HCB : Hid (∀ W, Calls Try.prog 7 #[vb] W (fun e w9 => ∃ v, e = .returned v ∧ OwnI W.heap.size w9 [b.verb, b.noun, b.second, b.number, b.dir] v ∧ Near W.heap.size W w9)) := fun W => hvb ▸ HCB0.out W
  obtain ⟨W1, hW1⟩ : ∃ z, w.alloc (.cells #[.int .i64 a.verb, .int .i64 a.noun, .int .i64 a.second, .int .i64 a.number, .int .i64 a.dir] 23) = z := ⟨_, rfl⟩
  obtain ⟨W2, hW2⟩ : ∃ z, W1.alloc (.cells #[.int .i64 b.verb, .int .i64 b.noun, .int .i64 b.second, .int .i64 b.number, .int .i64 b.dir] 23) = z := ⟨_, rfl⟩
  have hz1 : W1.heap.size = w.heap.size + 1 := by rw [← hW1]; simp
  have hb1 : Below w.heap.size w W1 := by rw [← hW1]; exact (Below.refl _ _).alloc (Nat.le_refl _) _
  have hb2 : Below W1.heap.size W1 W2 := by rw [← hW2]; exact (Below.refl _ _).alloc (Nat.le_refl _) _
  have hx1 : BoxT W1 w.heap.size [.int .i64 a.verb, .int .i64 a.noun, .int .i64 a.second, .int .i64 a.number, .int .i64 a.dir] 23 := by rw [← hW1]; exact BoxT.new _ _ _
  have hx2 : BoxT W2 (w.heap.size + 1) [.int .i64 b.verb, .int .i64 b.noun, .int .i64 b.second, .int .i64 b.number, .int .i64 b.dir] 23 := by rw [← hz1, ← hW2]; exact BoxT.new _ _ _
  have HB : Hid (Near w.heap.size w W2) := ⟨btK hb1 hb2, by rw [← hW2, ← hW1]; exact Nat.le_refl _⟩
  have HXa := Lib.hid (hx1.below hb2); have HXb := Lib.hid hx2
  have HLA : Hid (∀ W, BoxT W w.heap.size [.int .i64 a.verb, .int .i64 a.noun, .int .i64 a.second, .int .i64 a.number, .int .i64 a.dir] 23 → (Instr.loadAt 23 (.pointer (some ⟨w.heap.size, 0, none⟩))).run Try.prog W = .ok va W) := fun W h => hva ▸ run_loadAt_mid W _ 0 23 _ _ h.range Try.underlying23 rfl (by kernel_rfl)
  have HLB : Hid (∀ W, BoxT W (w.heap.size + 1) [.int .i64 b.verb, .int .i64 b.noun, .int .i64 b.second, .int .i64 b.number, .int .i64 b.dir] 23 → (Instr.loadAt 23 (.pointer (some ⟨w.heap.size + 1, 0, none⟩))).run Try.prog W = .ok vb W) := fun W h => hvb ▸ run_loadAt_mid W _ 0 23 _ _ h.range Try.underlying23 rfl (by kernel_rfl)
  have HW1 := Lib.hid hW1; have HW2 := Lib.hid hW2
  clear hW1 hW2 hz1 hb1 hb2 hx1 hx2 HCA0 HCB0 ha hb
  unfold CmdD.val at hva hvb ⊢
  have HVA := Lib.hid hva; have HVB := Lib.hid hvb
  clear hva hvb
  go_enter Try.func4, Try.ntmps4
  go_upto_region 2 with fail
  rw [HW1.out, HW2.out, HVA.out, HVB.out]
  clear HW1 HW2 HVA HVB
  refine wp_region_held_drew (S := fun W => Near W2.heap.size W2 W) (by kernel_rfl) (Near.drew _) (fun hHeld => ?_)
  have h0 : Near W2.heap.size W2 W2.drew := Near.drew _
  refine wpAnyH_take (i := 0) (v := .func (.func 7) #[] #[]) rfl (by kernel_rfl) (by kernel_rfl) (by kernel_rfl) (fun _ _ _ h => h) (Or.inl ⟨by rfl, ?_⟩) (by assumption) ?_
  · intro W hW
    go_simp
  simp only [Act.put]
  refine wpAnyH_take (i := 1) (v := va) rfl (by kernel_rfl) (by kernel_rfl) (by kernel_rfl) (fun _ _ _ h => h) (Or.inl ⟨by rfl, ?_⟩) (by assumption) ?_
  · intro W hW
    exact load_run 23 (.tmp 2) rfl ⟨w.heap.size, 0, none⟩ rfl va W (HLA.out W (HXa.out.below hW.1))
  simp only [Act.put]
  refine wpAnyH_take (i := 3) (v := .func (.func 7) #[] #[]) rfl (by kernel_rfl) (by kernel_rfl) (by kernel_rfl) (fun _ _ _ h => h) (Or.inl ⟨by rfl, ?_⟩) (by assumption) ?_
  · intro W hW
    go_simp
  simp only [Act.put]
  refine wpAnyH_take (i := 4) (v := vb) rfl (by kernel_rfl) (by kernel_rfl) (by kernel_rfl) (fun _ _ _ h => h) (Or.inl ⟨by rfl, ?_⟩) (by assumption) ?_
  · intro W hW
    exact load_run 23 (.tmp 3) rfl ⟨w.heap.size + 1, 0, none⟩ rfl vb W (HLB.out W (HXb.out.below hW.1))
  simp only [Act.put]
  refine wpAnyH_ready (rs := [2]) (by kernel_rfl) (by simp) ?_
  refine AllReadyH.cons rfl (fun K hK => ?_) (AllReadyH.nil)
  · go_simp
    refine (HCA.out _).mono ?_
    rintro e v1 ⟨v1, rfl, ho1, hbv1⟩
    have Hv1 := nearK h0 hbv1
    refine hK.out _ _ Hv1 (fun hHeld => ?_)
    clear hK K
    refine wpAnyH_ready (rs := [5]) (by kernel_rfl) (by simp) ?_
    refine AllReadyH.cons rfl (fun K hK => ?_) (AllReadyH.nil)
    · go_simp
      refine (HCB.out _).mono ?_
      rintro e v2 ⟨v2, rfl, ho2, hbv2⟩
      have Hv2 := nearK Hv1 hbv2
      have HCM := Lib.hid (compareN _ _ _ _ _ _ _ (newB_inn _ _) (newB_inn _ _) (ho1.below hbv2.1).rdl ho2.rdl)
      refine hK.out _ _ Hv2 (fun hHeld => ?_)
      clear hK K
      refine wpAnyH_ready (rs := [6]) (by kernel_rfl) (by simp) ?_
      refine AllReadyH.cons rfl (fun K hK => ?_) (AllReadyH.nil)
      · go_simp
        refine (HCM.out).mono ?_
        rintro e v3 ⟨rfl, rfl⟩
        have Hv3 := Hv2
        refine hK.out _ _ Hv3 (fun hHeld => ?_)
        clear hK K
        refine wpAnyH_take (i := 7) (v := .bool (decide (cmpL [a.verb, a.noun, a.second, a.number, a.dir] [b.verb, b.noun, b.second, b.number, b.dir] < 0))) rfl (by kernel_rfl) (by kernel_rfl) (by kernel_rfl) (fun _ _ _ h => h) (Or.inl ⟨by rfl, ?_⟩) (by assumption) ?_
        · intro W hW
          go_simp
        simp only [Act.put]
        refine wpAnyH_take (i := 8) (v := .bool (decide (cmpL [a.verb, a.noun, a.second, a.number, a.dir] [b.verb, b.noun, b.second, b.number, b.dir] < 0))) rfl (by kernel_rfl) (by kernel_rfl) (by kernel_rfl) (fun _ _ _ h => h) (Or.inl ⟨by rfl, ?_⟩) (by assumption) ?_
        · intro W hW
          go_simp
        simp only [Act.put]
        refine wpAnyH_done (by kernel_rfl) ?_ _
        go_simp
        go_wp2
        go_ret
        exact ⟨ret_bool HRR.out, nearK HB.out Hv3⟩
/-- How the closure compares. -/
def cmpD (a b : CmdD) : Int := if a.lt b then -1 else if a = b then 0 else 1
set_option maxRecDepth 100000 in
set_option maxHeartbeats 4000000 in
theorem cmpN (a b : CmdD) (ha : a.Fit) (hb : b.Fit) (w : World) : Calls Try.prog 16 #[a.val, b.val] w (fun e w9 => e = .returned (.int .i64 (cmpD a b)) ∧ Near w.heap.size w w9) := by
  obtain ⟨va, hva⟩ : ∃ v, a.val = v := ⟨_, rfl⟩
  obtain ⟨vb, hvb⟩ : ∃ v, b.val = v := ⟨_, rfl⟩
  have HLE : Hid (∀ W, Calls Try.prog 4 #[va, vb] W (fun e w9 => e = .returned (.bool (decide (a.lt b))) ∧ Near W.heap.size W w9)) := fun W => by rw [← hva, ← hvb]; exact lessN a b ha hb W
  have HEQ : Hid (∀ W, (binOp .eql 23 va vb).run Try.prog W = .ok (.bool (decide (a = b))) W) := fun W => by rw [← hva, ← hvb]; exact cmd_eql a b W
  have HGD : Hid (∀ W x y, (eqGuard .eql 23 x y va vb).run Try.prog W = .ok () W) := fun W x y => by rw [← hva, ← hvb]; exact cmd_guard .eql x y a b W
  obtain ⟨W1, hW1⟩ : ∃ z, w.alloc (.cells #[.int .i64 a.verb, .int .i64 a.noun, .int .i64 a.second, .int .i64 a.number, .int .i64 a.dir] 23) = z := ⟨_, rfl⟩
  obtain ⟨W2, hW2⟩ : ∃ z, W1.alloc (.cells #[.int .i64 b.verb, .int .i64 b.noun, .int .i64 b.second, .int .i64 b.number, .int .i64 b.dir] 23) = z := ⟨_, rfl⟩
  have hz1 : W1.heap.size = w.heap.size + 1 := by rw [← hW1]; simp
  have hb1 : Below w.heap.size w W1 := by rw [← hW1]; exact (Below.refl _ _).alloc (Nat.le_refl _) _
  have hb2 : Below W1.heap.size W1 W2 := by rw [← hW2]; exact (Below.refl _ _).alloc (Nat.le_refl _) _
  have hx1 : BoxT W1 w.heap.size [.int .i64 a.verb, .int .i64 a.noun, .int .i64 a.second, .int .i64 a.number, .int .i64 a.dir] 23 := by rw [← hW1]; exact BoxT.new _ _ _
  have hx2 : BoxT W2 (w.heap.size + 1) [.int .i64 b.verb, .int .i64 b.noun, .int .i64 b.second, .int .i64 b.number, .int .i64 b.dir] 23 := by rw [← hz1, ← hW2]; exact BoxT.new _ _ _
  have HB : Hid (Near w.heap.size w W2) := ⟨btK hb1 hb2, by rw [← hW2, ← hW1]; exact Nat.le_refl _⟩
  have HXa := Lib.hid (hx1.below hb2); have HXb := Lib.hid hx2
  have HLA : Hid (∀ W, BoxT W w.heap.size [.int .i64 a.verb, .int .i64 a.noun, .int .i64 a.second, .int .i64 a.number, .int .i64 a.dir] 23 → (Instr.loadAt 23 (.pointer (some ⟨w.heap.size, 0, none⟩))).run Try.prog W = .ok va W) := fun W h => hva ▸ run_loadAt_mid W _ 0 23 _ _ h.range Try.underlying23 rfl (by kernel_rfl)
  have HLB : Hid (∀ W, BoxT W (w.heap.size + 1) [.int .i64 b.verb, .int .i64 b.noun, .int .i64 b.second, .int .i64 b.number, .int .i64 b.dir] 23 → (Instr.loadAt 23 (.pointer (some ⟨w.heap.size + 1, 0, none⟩))).run Try.prog W = .ok vb W) := fun W h => hvb ▸ run_loadAt_mid W _ 0 23 _ _ h.range Try.underlying23 rfl (by kernel_rfl)
  have HW1 := Lib.hid hW1; have HW2 := Lib.hid hW2
  clear hW1 hW2 hz1 hb1 hb2 hx1 hx2 ha hb
  unfold CmdD.val at hva hvb ⊢
  have HVA := Lib.hid hva; have HVB := Lib.hid hvb
  clear hva hvb
  obtain ⟨R, hR⟩ : ∃ r, cmpD a b = r := ⟨_, rfl⟩
  rw [hR]
  unfold cmpD at hR
  have HR := Lib.hid hR
  clear hR
  go_enter Try.func16, Try.ntmps16
  go_upto_region 2 with fail
  rw [HW1.out, HW2.out, HVA.out, HVB.out]
  clear HW1 HW2 HVA HVB
  by_cases hlt : a.lt b
  · have HT : Hid (∀ W, Calls Try.prog 4 #[va, vb] W (fun e w9 => e = .returned (.bool true) ∧ Near W.heap.size W w9)) := fun W => by have := HLE.out W; rwa [decide_eq_true hlt] at this
    have HF : Hid (R = -1) := by have := HR.out; rw [if_pos hlt] at this; exact this.symm
    clear hlt
    go_wp2_with (first | ((with_reducible refine wpList_load_T 23 (.tmp 2) ?hw9 ⟨w.heap.size, 0, none⟩ ?hx9 _ (HLA.out _ HXa.out) ?_); (case hw9 => rfl); (case hx9 => first | rfl | (exact rfl))) | ((with_reducible refine wpList_load_T 23 (.tmp 3) ?hw9 ⟨w.heap.size + 1, 0, none⟩ ?hx9 _ (HLB.out _ HXb.out) ?_); (case hw9 => rfl); (case hx9 => first | rfl | (exact rfl))) | (go_at_call 4; (with_reducible refine (HT.out _).mono ?_); rintro e w1 ⟨rfl, hn1⟩))
    go_ret
    exact ⟨congrArg (fun q : Int => Ending.returned (.int .i64 q)) HF.out.symm, nearK HB.out hn1⟩
  have HT : Hid (∀ W, Calls Try.prog 4 #[va, vb] W (fun e w9 => e = .returned (.bool false) ∧ Near W.heap.size W w9)) := fun W => by have := HLE.out W; rwa [decide_eq_false hlt] at this
  have HR1 : Hid ((if a = b then 0 else 1) = R) := by have := HR.out; rwa [if_neg hlt] at this
  clear hlt HLE
  obtain ⟨q, hq⟩ : ∃ q, decide (a = b) = q := ⟨_, rfl⟩
  have hqe : ∀ W, (binOp .eql 23 va vb).run Try.prog W = .ok (.bool q) W := fun W => hq ▸ HEQ.out W
  have hqg : ∀ W x y, (eqGuard .eql 23 x y va vb).run Try.prog W = .ok () W := HGD.out
  have HF : Hid (R = if q then 0 else 1) := by show _ = _; rw [← HR1.out, ← hq]; simp
  clear hq HEQ HGD HR1 HR
  cases q
  all_goals
    go_wp2_with (first | ((with_reducible refine wpList_load_T 23 (.tmp 2) ?hw9 ⟨w.heap.size, 0, none⟩ ?hx9 _ (HLA.out _ HXa.out) ?_); (case hw9 => rfl); (case hx9 => first | rfl | (exact rfl))) | ((with_reducible refine wpList_load_T 23 (.tmp 3) ?hw9 ⟨w.heap.size + 1, 0, none⟩ ?hx9 _ (HLB.out _ HXb.out) ?_); (case hw9 => rfl); (case hx9 => first | rfl | (exact rfl))) | ((with_reducible refine wpList_load_T 23 (.tmp 2) ?hw9 ⟨w.heap.size, 0, none⟩ ?hx9 _ (HLA.out _ (HXa.out.below hb1)) ?_); (case hw9 => rfl); (case hx9 => first | rfl | (exact rfl))) | ((with_reducible refine wpList_load_T 23 (.tmp 3) ?hw9 ⟨w.heap.size + 1, 0, none⟩ ?hx9 _ (HLB.out _ (HXb.out.below hb1)) ?_); (case hw9 => rfl); (case hx9 => first | rfl | (exact rfl))) | (go_at_call 4; (with_reducible refine (HT.out _).mono ?_); rintro e w1 ⟨rfl, hb1, hd1⟩))
    go_ret
    exact ⟨congrArg (fun q : Int => Ending.returned (.int .i64 q)) HF.out.symm, nearK HB.out ⟨hb1, hd1⟩⟩
end Go.Proofs.Ytapjglpiofpbmaa
/- acts.All: the state of its loops, in plain words. -/
namespace Go.Proofs.Ytapjglpiofpbmaa
open Go.RowKit Go.Sort

/-- The commands, each where it first stands. -/
def nubC (l : List CmdD) : List CmdD := l.foldl (fun acc c => if c ∈ acc then acc else acc ++ [c]) []
theorem nubC_snoc (l : List CmdD) (c : CmdD) : nubC (l ++ [c]) = if c ∈ nubC l then nubC l else nubC l ++ [c] := by
  unfold nubC
  rw [List.foldl_append]
  rfl
theorem list_snoc_ind {α : Type} {p : List α → Prop} (h0 : p []) (h : ∀ l a, p l → p (l ++ [a])) (l : List α) : p l := by
  have h9 : ∀ l : List α, p l.reverse := fun l => by
    induction l with
    | nil => exact h0
    | cons a l ih => rw [List.reverse_cons]; exact h _ _ ih
  rw [← List.reverse_reverse l]
  exact h9 _
theorem nubC_mem (x : CmdD) (l : List CmdD) : x ∈ nubC l ↔ x ∈ l := by
  induction l using list_snoc_ind with
  | h0 => simp [nubC]
  | h l a ih =>
    rw [nubC_snoc, List.mem_append, List.mem_singleton]
    split
    · rename_i hm
      rw [ih]
      constructor
      · exact Or.inl
      · rintro (h | rfl)
        · exact h
        · exact ih.1 hm
    · rw [List.mem_append, List.mem_singleton, ih]
theorem nubC_nodup (l : List CmdD) : (nubC l).Nodup := by
  induction l using list_snoc_ind with
  | h0 => simp [nubC]
  | h l a ih =>
    rw [nubC_snoc]
    split
    · exact ih
    · rename_i hm
      refine List.nodup_append.2 ⟨ih, by simp, fun x hx y hy e => hm ?_⟩
      obtain rfl : y = a := by simpa using hy
      exact e ▸ hx
theorem nubC_len (l : List CmdD) : (nubC l).length ≤ l.length := by
  induction l using list_snoc_ind with
  | h0 => simp [nubC]
  | h l a ih =>
    rw [nubC_snoc, List.length_append]
    split
    · omega
    · rw [List.length_append]; simp; omega
/-- How often a command has come. -/
def cntC (l : List CmdD) (c : CmdD) : Int := ((l.filter fun d => decide (d = c)).length : Nat)
theorem cntC_nil : cntC [] = fun _ => 0 := rfl
theorem cntC_snoc (l : List CmdD) (c : CmdD) : (fun d => if d = c then cntC l c + 1 else cntC l d) = cntC (l ++ [c]) := by
  funext d
  unfold cntC
  rw [List.filter_append, List.length_append]
  by_cases h : d = c
  · subst h
    rw [if_pos rfl, List.filter_cons_of_pos (by simp)]
    simp
  · rw [if_neg h, List.filter_cons_of_neg (by simpa using fun e => h e.symm)]
    simp
theorem cntC_le (l : List CmdD) (c : CmdD) : 0 ≤ cntC l c ∧ cntC l c ≤ l.length := by
  unfold cntC
  have := List.length_filter_le (fun d => decide (d = c)) l
  omega
theorem cntC_zero (l : List CmdD) (c : CmdD) : cntC l c = 0 ↔ c ∉ l := by
  unfold cntC
  constructor
  · intro h hm
    have h0 : (l.filter fun d => decide (d = c)) = [] := List.length_eq_zero_iff.1 (by omega)
    have h1 : c ∈ l.filter fun d => decide (d = c) := List.mem_filter.2 ⟨hm, by simp⟩
    rw [h0] at h1
    cases h1
  · intro h
    have h0 : (l.filter fun d => decide (d = c)) = [] := List.filter_eq_nil_iff.2 fun d hd => by
      intro e
      obtain rfl : d = c := by simpa using e
      exact h hd
    rw [h0]
    rfl

theorem kpB_own {β : Type} {lo B s : Nat} {w0 : World} (hlo : lo ≤ w0.heap.size) (hs : lo ≤ s) (hB : B < w0.heap.size) (hBs : B < s) : OwnFrom s (fun (_ : β) W => KpB lo B w0 W) := fun _ W W' row h g hr => by
  have hne : ∀ (b : Nat) (o : Obj), W.heap[b]? = some o → o.isCells = true → W'.heap[b]? = some o := fun b o hb ho => (g.block b (lt_of_some hb) (fun e => by
    obtain ⟨o', h1, h2⟩ := (hr b e.symm).2
    rw [hb] at h1; cases h1; rw [ho] at h2; cases h2)).trans hb
  have hown : ownB W' B = ownB W B := ownB_of (g.block B (Nat.lt_of_lt_of_le hB h.below.size) (fun e => by have := (hr B e.symm).1; omega))
  refine ⟨h.below.grown g (Nat.le_trans hlo h.below.size) (fun k e => Nat.le_trans hs (hr k e).1), fun b o hb ho h1 h2 => hne b o (h.keep b o hb ho h1 h2) ho, ?_⟩
  rcases h.own with e | ⟨g', e, h1, h2⟩
  · exact .inl (hown.trans e)
  · exact .inr ⟨g', hown.trans e, h1, Nat.lt_of_lt_of_le h2 g.size⟩

/-- The state of acts.All when the commands l have come. -/
structure AllS (lo bm bmb B : Nat) (W : World) (l : List CmdD) : Prop where
  map : ∃ es clock, MapC W bm (cntC l) es clock
  mbox : Boxed W bmb 55 (.map (some bm))
  out : ∃ v, Boxed W B 41 v ∧ OwnC (B + 1) W (nubC l) v
section
variable {lo bm bmb B : Nat} {W W' : World} {l : List CmdD}
/-- A step that turns at most a block that is none of these. -/
theorem AllS.grown (h : AllS lo bm bmb B W l) {row : Option Nat} (g : W.grownBy W' row) (hr : ∀ r, row = some r → r ≠ bm ∧ r ≠ bmb ∧ r ≠ B ∧ ownB W B ≠ some r) : AllS lo bm bmb B W' l := by
  obtain ⟨⟨es, clock, hm⟩, hx, v, hv, ho⟩ := h
  refine ⟨⟨es, clock, hm.kept (g.block bm (lt_of_some hm.1) (fun e => (hr bm e.symm).1 rfl))⟩, ?_, v, ?_, ?_⟩
  · exact (g.block bmb hx.lt (fun e => (hr bmb e.symm).2.1 rfl)).trans hx
  · exact (g.block B hv.lt (fun e => (hr B e.symm).2.2.1 rfl)).trans hv
  · obtain ⟨ys, G, h1, h2, h3⟩ := ho
    have hvo : ∀ k, v.ownBlock = some k → W'.heap[k]? = W.heap[k]? := fun k hk => g.block k (ownsRow_in h1 k hk).2 (fun e => (hr k e.symm).2.2.2 (by unfold ownB; rw [hv.cell]; exact hk))
    refine ⟨ys, fun _ => False, ownsRow_blk h1 hvo, fun _ h => h.elim, fun i hi => ?_⟩
    exact h3 i hi
theorem AllS.below (h : AllS lo bm bmb B W l) (g : Below W.heap.size W W') : AllS lo bm bmb B W' l := h.grown (grown_of g) (fun r e => by cases e)
theorem allS_own {s : Nat} {lf : List CmdF → List CmdD} : OwnFrom s (fun (p : List CmdF) W => AllS lo bm bmb B W (lf p) ∧ (bm < s ∧ bmb < s ∧ B < s)) := fun p W W' row h g hr => by
  refine ⟨h.1.grown g (fun r e => ?_), h.2⟩
  obtain ⟨hs, o, ho, hc⟩ := hr r e
  refine ⟨by omega, by omega, by omega, fun e' => ?_⟩
  obtain ⟨-, -, v, hv, how⟩ := h.1
  have e2 : v.ownBlock = some r := by unfold ownB at e'; rw [hv.cell] at e'; exact e'
  obtain ⟨ys, G, ⟨-, hy⟩, -⟩ := how
  rcases hy with ⟨rfl, -⟩ | ⟨g', cap, cur, rfl, -, hg, -⟩
  · cases e2
  · cases e2
    rw [ho] at hg
    cases hg
    cases hc
end
end Go.Proofs.Ytapjglpiofpbmaa
/- A round of acts.All, in plain words. -/
namespace Go.Proofs.Ytapjglpiofpbmaa
open Go.RowKit Go.Sort

theorem RdB.ofOwn2 {s B : Nat} {W : World} {N : List Int} {v : Value} (h : OwnI s W N v) (hB : ∀ g, v.ownBlock = some g → g ≠ B ∧ ownB W B ≠ some g) : RdB B W N v := by
  have hr := h.rdl
  have hln := hr.len
  unfold maxLen at hln
  obtain ⟨a, cap, rfl, h1, h2, h3⟩ := RdInts.opn hr
  refine ⟨a, cap, rfl, hln, fun h0 => ?_⟩
  obtain ⟨b, off, rfl, hb, hc⟩ := h3 h0
  have := hB b rfl
  exact ⟨b, off, rfl, this.1, this.2, fun k hk => (hc W rfl k hk).2⟩
/-- Command c has been counted, and does not yet stand in the slice. -/
structure AllH (lo bm bmb B : Nat) (W : World) (l : List CmdD) (c : CmdD) : Prop where
  map : ∃ es clock, MapC W bm (cntC (l ++ [c])) es clock
  mbox : Boxed W bmb 55 (.map (some bm))
  out : ∃ v, Boxed W B 41 v ∧ OwnC (B + 1) W (nubC l) v
section
variable {lo bm bmb B : Nat} {W W' : World} {l : List CmdD} {c : CmdD}
theorem box_not_map {es : Array MapEntry} {clock b b' : Nat} {T : TypeId} {v : Value} (h : W.heap[b]? = some (.map es clock)) (hx : Boxed W b' T v) : b' ≠ b := by
  rintro rfl
  rw [show W.heap[b']? = _ from hx] at h
  cases h
theorem AllS.counted (h : AllS lo bm bmb B W l) {es : Array MapEntry} {clock : Nat} (g : W.grownBy W' (some bm)) (hm : MapC W' bm (cntC (l ++ [c])) es clock) : AllH lo bm bmb B W' l c := by
  obtain ⟨⟨es0, clock0, hm0⟩, hx, v, hv, ho⟩ := h
  refine ⟨⟨es, clock, hm⟩, (g.block bmb hx.lt (fun e => by cases e; exact box_not_map hm0.1 hx rfl)).trans hx, v, (g.block B hv.lt (fun e => by cases e; exact box_not_map hm0.1 hv rfl)).trans hv, ?_⟩
  obtain ⟨ys, G, h1, h2, h3⟩ := ho
  refine ⟨ys, fun _ => False, ownsRow_blk h1 (fun k hk => g.block k (ownsRow_in h1 k hk).2 (fun e => ?_)), fun _ h => h.elim, fun i hi => h3 i hi⟩
  cases e
  rcases h1.2 with ⟨rfl, -⟩ | ⟨g', cap, cur, rfl, -, hg, -⟩
  · cases hk
  · cases hk
    rw [hm0.1] at hg
    cases hg
theorem AllH.stay (h : AllH lo bm bmb B W l c) (hc : c ∈ nubC l) : AllS lo bm bmb B W (l ++ [c]) := by
  obtain ⟨hm, hx, v, hv, ho⟩ := h
  exact ⟨hm, hx, v, hv, by rw [nubC_snoc, if_pos hc]; exact ho⟩
theorem Marks.others {Ds : List Nat} (h : Marks lo W Ds) (g : KeepsOthers W W') : Marks lo W' Ds := ⟨h.1, fun D hD => ⟨(h.2 D hD).1, g.same D _ (h.2 D hD).2 rfl⟩⟩
/-- What comes of the append and of the store behind it. -/
def Pushed (lo bm bmb B : Nat) (W : World) (l : List CmdD) (c : CmdD) (v v' : Value) (w' : World) : Prop :=
  (∃ ad n cap, v' = .slice ad n cap) ∧ w'.cell? ⟨B, 0, none⟩ = some v ∧ w'.frozen? ⟨B, 0, none⟩ = false ∧ AllS lo bm bmb B (w'.setCell ⟨B, 0, none⟩ v') (l ++ [c]) ∧ KpB lo B W (w'.setCell ⟨B, 0, none⟩ v') ∧ KeepsOthers W (w'.setCell ⟨B, 0, none⟩ v')
theorem AllH.push (h : AllH lo bm bmb B W l c) (hlo : lo ≤ B) (hbb : bmb < B) (hc : c ∉ nubC l) (hf : c.Fit) (hl : l.length ≤ 2000000000) (T ty : TypeId) {v : Value} (hv : Boxed W B 41 v) :
    ∃ v' w', (Builtin.append_ #[41, 41] ty #[v, .slice (some ⟨W.heap.size, 0, none⟩) 1 1]).run Try.prog (W.alloc (.cells #[.int .i64 c.verb, .int .i64 c.noun, .int .i64 c.second, .int .i64 c.number, .int .i64 c.dir] T)) = .ok v' w' ∧ Pushed lo bm bmb B W l c v v' w' := by
  obtain ⟨⟨es, clock, hm⟩, hx, v0, hv0, ho⟩ := h
  obtain rfl : v0 = v := by
    have h1 := (show W.heap[B]? = _ from hv0).symm.trans hv
    simpa using h1
  have hnl := nubC_len l
  have hBW : B + 1 ≤ W.heap.size := hv.lt
  obtain ⟨v', w', hrun, ho', hb', hg⟩ := cmds_grow ho hf hBW (by omega) T ty
  have hob := own_lt ho
  have hob' := own_lt ho'
  have hne : some B ≠ v0.ownBlock := fun e => by have := (hob B e.symm).1; omega
  have hvw : Boxed w' B 41 v0 := (hg.1.block B hv.lt hne).trans hv
  have hne' : ∀ k, v'.ownBlock = some k → k ≠ B := fun k e => by have := (hob' k e).1; omega
  have hmm : v0.ownBlock ≠ some bm := fun e => by
    obtain ⟨ys, G, ⟨-, hy⟩, -⟩ := ho
    rcases hy with ⟨rfl, -⟩ | ⟨g', cap, cur, rfl, -, hg, -⟩
    · cases e
    · cases e
      rw [hm.1] at hg
      cases hg
  have hmx : v0.ownBlock ≠ some bmb := fun e => by have := (hob bmb e).1; omega
  have hcl : ∀ (j : Nat) (o : Obj), v0.ownBlock = some j → W.heap[j]? = some o → o.isCells = true := fun j o e hj => by
    obtain ⟨ys, G, ⟨-, hy⟩, -⟩ := ho
    rcases hy with ⟨rfl, -⟩ | ⟨g', cap, cur, rfl, -, hg, -⟩
    · cases e
    · cases e
      rw [hg] at hj
      cases hj
      rfl
  have hmB : bm ≠ B := fun e => box_not_map hm.1 hv e.symm
  refine ⟨v', w', hrun, ?_, hvw.cell, hvw.frozen, ?_, ?_, ?_⟩
  · obtain ⟨a, cap, e⟩ := ho'.shape
    exact ⟨a, _, cap, e⟩
  · refine ⟨⟨es, clock, hm.kept ?_⟩, ?_, v', hvw.set v', ?_⟩
    · rw [Below.heap_setCell _ _ _ _ hmB]
      exact hg.1.block bm (lt_of_some hm.1) (fun e => hmm e.symm)
    · show (w'.setCell ⟨B, 0, none⟩ v').heap[bmb]? = _
      rw [Below.heap_setCell _ _ _ _ (show bmb ≠ B by omega)]
      exact (hg.1.block bmb hx.lt (fun e => hmx e.symm)).trans hx
    · rw [nubC_snoc, if_neg hc]
      obtain ⟨ys, G, h1, h2, h3⟩ := ho'
      exact ⟨ys, fun _ => False, ownsRow_blk h1 (fun k hk => Below.heap_setCell _ _ _ _ (hne' k hk)), fun _ h => h.elim, fun i hi => h3 i hi⟩
  · refine ⟨(hb'.mono (by omega)).setCell (p := ⟨B, 0, none⟩) hlo v', fun b o hb ho hne9 hno => ?_, ?_⟩
    · have hno' : some b ≠ v0.ownBlock := fun e => hno (by unfold ownB; rw [hv.cell]; exact e.symm)
      rw [Below.heap_setCell _ _ _ _ hne9]
      exact (hg.1.block b (lt_of_some hb) hno').trans hb
    · have e1 : ownB (w'.setCell ⟨B, 0, none⟩ v') B = v'.ownBlock := by unfold ownB; rw [(hvw.set v').cell]; rfl
      have e2 : ownB W B = v0.ownBlock := by unfold ownB; rw [hv.cell]; rfl
      rcases hg.2 with e | ⟨j, e, hj⟩
      · exact .inl (by rw [e1, e2, e])
      · exact .inr ⟨j, by rw [e1, e], hj, by have := (hob' j e).2; simpa [World.setCell] using this⟩
  · exact (KeepsOthers.of_grownBy hg.1 hcl).trans (KeepsOthers.setCell _ _ _)
end
theorem allS_new (lo : Nat) (w1 w4 : World) (h : (((w1.alloc (.map #[] 0)).alloc (.cells #[.map (some w1.heap.size)] 55)).alloc (.cells #[.slice none 0 0] 41)) = w4) :
    AllS lo w1.heap.size (w1.heap.size + 1) (w1.heap.size + 1 + 1) w4 [] ∧ Boxed w4 (w1.heap.size + 1 + 1) 41 (.slice none 0 0) ∧ w4.heap.size = w1.heap.size + 1 + 1 + 1 ∧ Below w1.heap.size w1 w4 := by
  obtain ⟨X1, hX1⟩ : ∃ z, w1.alloc (.map #[] 0) = z := ⟨_, rfl⟩
  obtain ⟨X2, hX2⟩ : ∃ z, X1.alloc (.cells #[.map (some w1.heap.size)] 55) = z := ⟨_, rfl⟩
  rw [hX1, hX2] at h
  have z1 : X1.heap.size = w1.heap.size + 1 := by rw [← hX1]; simp
  have z2 : X2.heap.size = w1.heap.size + 1 + 1 := by rw [← hX2]; simp [z1]
  have z4 : w4.heap.size = w1.heap.size + 1 + 1 + 1 := by rw [← h]; simp [z2]
  have b1 : Below w1.heap.size w1 X1 := by rw [← hX1]; exact (Below.refl _ _).alloc (Nat.le_refl _) _
  have b2 : Below X1.heap.size X1 X2 := by rw [← hX2]; exact (Below.refl _ _).alloc (Nat.le_refl _) _
  have b4 : Below X2.heap.size X2 w4 := by rw [← h]; exact (Below.refl _ _).alloc (Nat.le_refl _) _
  have hm : MapC X1 w1.heap.size (cntC []) #[] 0 := by rw [← hX1]; exact MapC.new w1
  have hx : Boxed X2 (w1.heap.size + 1) 55 (.map (some w1.heap.size)) := by rw [← z1, ← hX2]; exact Boxed.new _ _ _
  have hv : Boxed w4 (w1.heap.size + 1 + 1) 41 (.slice none 0 0) := by rw [← z2, ← h]; exact Boxed.new _ _ _
  have b24 := btK b2 b4
  exact ⟨⟨⟨#[], 0, hm.kept (b24.block _ (by omega))⟩, (b4.block _ (by omega)).trans hx, .slice none 0 0, hv, OwnR.nil _ _ _ _ _⟩, hv, z4, btK b1 b24⟩
end Go.Proofs.Ytapjglpiofpbmaa
