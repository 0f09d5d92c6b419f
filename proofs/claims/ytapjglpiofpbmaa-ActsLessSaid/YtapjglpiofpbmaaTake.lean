/- A region that draws its order, walked in the text's order: every operation but the calls of Go functions is taken first. -/
import Derived.Test.YtapjglpiofpbmaaAcX
import Derived.Deep.RegionHeld
namespace Go.Proofs.Ytapjglpiofpbmaa
/-- The first j operations have come up. -/
def lis (n : Nat) : Nat → Array Bool
  | 0 => Array.replicate n false
  | j + 1 => (lis n j).setIfInBounds j true
/-- In the text's order each operation may come up, free of what comes behind; at each of js nothing else may. -/
def okAll (md : Region.Mode) (ops : Array Oper) (js : List Nat) : Bool :=
  Region.noSelect ops && ((List.range ops.size).all fun j => js.contains j || (Region.free md ops (lis ops.size j) j && (Region.ready md ops (lis ops.size j)).contains j)) && js.all fun j => Region.ready md ops (lis ops.size j) == [j]
/-- Operation j may be taken: it stands ahead of a call, or it does not run. -/
def okFree (md : Region.Mode) (ops : Array Oper) (js : List Nat) : Bool := js.all fun j => Region.free md ops (lis ops.size j) j
section
variable {P : Program} {ops : Array Oper} {Q : Exit → Act → World → Prop} {S : World → Prop} {md : Region.Mode} {js : List Nat}
theorem okAt (h : okAll md ops js = true) {j : Nat} {oi : Oper} (hi : ops[j]? = some oi) (hj : js.contains j = false) : Region.noSelect ops = true ∧ Region.free md ops (lis ops.size j) j = true ∧ (Region.ready md ops (lis ops.size j)).contains j = true := by
  simp only [okAll, Bool.and_eq_true, List.all_eq_true, Bool.or_eq_true, List.mem_range] at h
  have hlt : j < ops.size := by
    rcases Nat.lt_or_ge j ops.size with h' | h'
    · exact h'
    · simp [Array.getElem?_eq_none h'] at hi
  rcases h.1.2 j hlt with h' | h'
  · rw [h'] at hj; exact absurd hj (by decide)
  · exact ⟨h.1.1, h'.1, h'.2⟩
theorem okCall (h : okAll md ops js = true) {j : Nat} (hj : js.contains j = true) : Region.noSelect ops = true ∧ Region.ready md ops (lis ops.size j) = [j] := by
  simp only [okAll, Bool.and_eq_true, List.all_eq_true] at h
  have := h.2 j (by simpa using hj)
  exact ⟨h.1.1, by simpa using this⟩
theorem tkStart {id : Nat} {a : Act} {w : World} (hok : okAll .any ops js = true) (hf : okFree .any ops js = true) (hm : P.follows .mixedOrders = true) (hS : S w.drew)
    (h : ∀ v, S v → okAll .any ops js = true → okFree .any ops js = true → wpAnyH P .any ops Q S ops.size (lis ops.size 0) a v) : (Code.region id ops true).wp P Q a w :=
  wp_region_held_drew hm hS (fun h' => h _ h' hok hf)
theorem tkU {j : Nat} {oi : Oper} {fuel : Nat} {a : Act} {w : World} (hok : okAll md ops js = true) (hi : ops[j]? = some oi) (hj : js.contains j = false) (hw : Region.wanted oi (yielded ops a.tmps) = false) (hS : S w) (h : wpAnyH P md ops Q S fuel (lis ops.size (j + 1)) (a.put oi.dst undef) w) (hQ : ∀ c a w, Q (.panic c) (a.put oi.dst undef) w → Q (.panic c) a w := by exact fun _ _ _ h => h) : wpAnyH P md ops Q S (fuel + 1) (lis ops.size j) a w :=
  have hb := okAt hok hi hj
  wpAnyH_take hi hb.1 hb.2.1 hb.2.2 hQ (Or.inr ⟨hw, rfl⟩) hS h
theorem tkV {j : Nat} {oi : Oper} {fuel : Nat} {a : Act} {w : World} (hok : okAll md ops js = true) (hf : okFree md ops js = true) (hi : ops[j]? = some oi) (hj : js.contains j = true) (hw : Region.wanted oi (yielded ops a.tmps) = false) (hS : S w) (h : wpAnyH P md ops Q S fuel (lis ops.size (j + 1)) (a.put oi.dst undef) w) (hQ : ∀ c a w, Q (.panic c) (a.put oi.dst undef) w → Q (.panic c) a w := by exact fun _ _ _ h => h) : wpAnyH P md ops Q S (fuel + 1) (lis ops.size j) a w := by
  have hb := okCall hok hj
  simp only [okFree, List.all_eq_true] at hf
  exact wpAnyH_take hi hb.1 (hf j (by simpa using hj)) (by rw [hb.2]; simp) hQ (Or.inr ⟨hw, rfl⟩) hS h
theorem tkW {j : Nat} {oi : Oper} {v : Value} {fuel : Nat} {a : Act} {w : World} (hok : okAll md ops js = true) (hi : ops[j]? = some oi) (hj : js.contains j = false) (hw : Region.wanted oi (yielded ops a.tmps) = true) (hy : ∀ w, S w → (execOp a.eval oi).run P w = .ok (.value v) w) (hS : S w) (h : wpAnyH P md ops Q S fuel (lis ops.size (j + 1)) (a.put oi.dst v) w) (hQ : ∀ c a w, Q (.panic c) (a.put oi.dst v) w → Q (.panic c) a w := by exact fun _ _ _ h => h) : wpAnyH P md ops Q S (fuel + 1) (lis ops.size j) a w :=
  have hb := okAt hok hi hj
  wpAnyH_take hi hb.1 hb.2.1 hb.2.2 hQ (Or.inl ⟨hw, hy⟩) hS h
theorem tkC {j : Nat} {oi : Oper} {fuel : Nat} {a : Act} {w : World} (hok : okAll md ops js = true) (hi : ops[j]? = some oi) (hj : js.contains j = true)
    (h : ∀ K' : Act → World → Prop, Shut (∀ a w, S w → wpAnyH P md ops Q S fuel (lis ops.size (j + 1)) a w → K' a w) → if Region.wanted oi (yielded ops a.tmps) = true then Oper.wp P oi a w K' Q else K' (a.put oi.dst undef) w) : wpAnyH P md ops Q S (fuel + 1) (lis ops.size j) a w :=
  wpAnyH_ready (okCall hok hj).2 (by simp) (AllReadyH.cons hi (fun K hK => h K (fun a w hS hA => hK.out a w hS (fun _ => hA))) AllReadyH.nil)
/-- A cut inside the region: what is left from operation j on, for every list of slots that meets R. -/
theorem tkCut {i j f fuel : Nat} {df : List Deferred} {a : Act} {w : World} (R : List Value → World → Prop) (hr : ∀ l w, R l w → wpAnyH P md ops Q S f (lis ops.size j) ⟨l.toArray, df⟩ w)
    (hs : Shut (∀ l w, R l w → wpAnyH P md ops Q S f (lis ops.size j) ⟨l.toArray, df⟩ w) → wpAnyH P md ops Q S fuel (lis ops.size i) a w) : wpAnyH P md ops Q S fuel (lis ops.size i) a w := hs hr
theorem tkE {a : Act} {w : World} (hr : (Region.ready md ops (lis ops.size ops.size)).isEmpty = true) (h : Q .normal a w) (fuel : Nat) : wpAnyH P md ops Q S fuel (lis ops.size ops.size) a w :=
  wpAnyH_done (by simpa using hr) h fuel
end
end Go.Proofs.Ytapjglpiofpbmaa
