/- The walks of clewref16: fine, of, either. -/
import Derived.Test.YtblhpiebheommaaKindsHoldsPart13
namespace Go.Proofs.Ytblhpiebheommaa
open Go.RowKit

/-- What is wrong, as a value. -/
def wrongR (p : Int × ByteArray) : Value := .agg #[.int .i64 p.1, .string p.2]
theorem cell_oth (w : World) (a b : Addr) (v : Value) (h : a ≠ b) : (w.setCell a v).cell? b = w.cell? b := by
  apply World.cell?_setCell_other
  exact h
theorem two_set {w0 X : World} {b : Nat} {u0 u1 : Value} (hB : Below w0.heap.size w0 X) (hb : w0.heap.size ≤ b) : Below w0.heap.size w0 ((X.setCell ⟨b, 0, none⟩ u0).setCell ⟨b, 1, none⟩ u1) :=
  (hB.setCell (p := ⟨b, 0, none⟩) hb _).setCell (p := ⟨b, 1, none⟩) hb _
/-- The box of what is wrong. -/
def WrAt (w : World) (B : Nat) (p : Int × ByteArray) : Prop := (w.cell? ⟨B, 0, none⟩ = some (.int .i64 p.1) ∧ w.cell? ⟨B, 1, none⟩ = some (.string p.2)) ∧ w.frozen? ⟨B, 0, none⟩ = false ∧ w.frozen? ⟨B, 1, none⟩ = false
theorem wr_new (W : World) (a : Int) (n : ByteArray) (t : TypeId) : WrAt (W.alloc (.cells #[.int .i64 a, .string n] t)) W.heap.size (a, n) := by
  unfold WrAt
  simp
theorem wr_kept {w w' : World} {B D : Nat} {p : Int × ByteArray} (h : WrAt w B p) (hB : B < D) (hb : Below D w w') : WrAt w' B p := by
  unfold WrAt at h ⊢
  simp only [hb.cell (p := ⟨B, _, none⟩) hB, hb.frozen (p := ⟨B, _, none⟩) hB]
  exact h

set_option maxRecDepth 100000 in
theorem fineR_calls (w : World) : Calls Try.prog 59 #[] w (Gives w (wrongR fineW)) := by
  go_enter Try.func59, Try.ntmps59
  go_wp2
  exact bodyPost_ret (v := wrongR fineW) (by simp [results, Try.results59, go_sem, wrongR, fineW]; try rfl) rfl ⟨rfl, (Below.refl _ w).alloc (Nat.le_refl _) _⟩

set_option maxRecDepth 100000 in
set_option maxHeartbeats 1000000 in
theorem ofW_calls (t : List NameD) (kind : Int) (n : ByteArray) (F : Nat → Prop) (w : World) (tv : Value) (hF : Inn F w) (hr : RdNames F w t tv) :
    Calls Try.prog 61 #[tv, .int .i64 kind, .string n] w (Gives w (wrongR (ofW t kind n))) := by
  have hf := fun o => ofR_calls t kind n F (w.alloc o) tv (hF.alloc o) (hr.alloc hF o)
  obtain ⟨a, cap, rfl⟩ := hr.shape
  unfold ofW
  generalize ofN t kind n = p at hf ⊢
  obtain ⟨p1, p2⟩ := p
  have HC := Lib.hid hf
  have HW := Lib.hid (wr_new w 0 ⟨#[]⟩ 83)
  have HB := Lib.hid ((Below.refl w.heap.size w).alloc (Nat.le_refl _) (.cells #[.int .i64 0, .string ⟨#[]⟩] 83))
  have HF := Lib.hid fineR_calls
  clear hf hr
  by_cases he : p2 = 0
  · subst he
    rw [if_pos rfl]
    go_enter Try.func61, Try.ntmps61
    go_upto_region 4 with (go_at_call 62; refine (HC.out _).mono ?_; rintro e w1 ⟨rfl, hb⟩)
    have hfin : Hid (∀ w2, Below w1.heap.size w1 w2 → WrAt w2 w.heap.size (0, ⟨#[]⟩) ∧ Below w.heap.size w w2) := fun w2 hb2 => ⟨wr_kept HW.out (by simp) (hb.trans (hb2.mono hb.size)), HB.out.trans ((hb.trans (hb2.mono hb.size)).mono HB.out.size)⟩
    go_wp2_with (go_at_call 59; refine (HF.out _).mono ?_; rintro e w2 ⟨rfl, hb2⟩; obtain ⟨⟨⟨f0, f1⟩, z0, z1⟩, hbw⟩ := hfin.out w2 hb2; unfold wrongR fineW)
    exact bodyPost_ret (v := wrongR fineW) (by simp [results, Try.results61, go_sem, wrongR, fineW, f0, f1]; try rfl) rfl ⟨rfl, two_set hbw (Nat.le_refl _)⟩
  · have e0 : (p2 != 0) = true := by simpa using he
    rw [if_neg he]
    clear he
    go_enter Try.func61, Try.ntmps61
    go_upto_region 2 with (go_at_call 62; refine (HC.out _).mono ?_; rintro e w1 ⟨rfl, hb⟩)
    obtain ⟨⟨f0, f1⟩, z0, z1⟩ := wr_kept HW.out (by simp) hb
    have hbw := HB.out.trans (hb.mono HB.out.size)
    go_wp2_with fail
    exact bodyPost_ret (v := wrongR (p2, n)) (by simp [results, Try.results61, go_sem, wrongR, f0, f1]; try rfl) rfl ⟨rfl, two_set hbw (Nat.le_refl _)⟩
/-- The kinds that a name may be of. -/
def ksOf (things : Bool) : List Int := if things then [3, 4] else [3]

set_option maxRecDepth 100000 in
set_option maxHeartbeats 2000000 in
theorem eitherR_calls (t : List NameD) (l : List ByteArray) (things : Bool) (n : ByteArray) (F : Nat → Prop) (w : World) (tv lv : Value) (hF : Inn F w) (hr : RdNames F w t tv) (hl : RdStrs F w l lv) :
    Calls Try.prog 60 #[tv, lv, .bool things, .string n] w (Gives w (wrongR (eitherW t l (ksOf things) n))) := by
  have hB : Below w.heap.size w (w.alloc (.cells #[.int .i64 0, .string ⟨#[]⟩] 83)) := (Below.refl w.heap.size w).alloc (Nat.le_refl _) _
  have HB := Lib.hid hB
  have hfd := findR_calls t n F (w.alloc (.cells #[.int .i64 0, .string ⟨#[]⟩] 83)) tv (hF.alloc _) (hr.alloc hF _)
  have HW := Lib.hid (wr_new w 0 ⟨#[]⟩ 83)
  have HFI := Lib.hid fineR_calls
  obtain ⟨a0, c0, rfl⟩ := hr.shape
  obtain ⟨la, lc, rfl, hll, hlc, hla⟩ := hl.opn
  unfold maxLen at hlc
  have hyes : Hid (n ∈ l → eitherW t l (ksOf things) n = fineW) := fun h => by show _ = _; unfold eitherW; rw [if_pos (dec_true h)]
  have hno : Hid ((∀ i (hi : i < l.length), l[i] ≠ n) → eitherW t l (ksOf things) n = match findN t n with | none => (11, n) | some x => if x.kind ∈ ksOf things then fineW else (12, n)) := fun h => by
    have hm : n ∉ l := fun hm => by
      obtain ⟨i, hi, e⟩ := List.getElem_of_mem hm
      exact h i hi e
    show _ = _
    unfold eitherW
    rw [if_neg (by rw [dec_false hm]; decide)]
    cases findN t n <;> rfl
  generalize eitherW t l (ksOf things) n = r at hyes hno ⊢
  have hfin : Hid (∀ w1 w2, Below (w.alloc (.cells #[.int .i64 0, .string ⟨#[]⟩] 83)).heap.size (w.alloc (.cells #[.int .i64 0, .string ⟨#[]⟩] 83)) w1 → Below w1.heap.size w1 w2 → WrAt w2 w.heap.size (0, ⟨#[]⟩) ∧ Below w.heap.size w w2) := fun w1 w2 hb hb2 => ⟨wr_kept HW.out (by simp) (hb.trans (hb2.mono hb.size)), HB.out.trans ((hb.trans (hb2.mono hb.size)).mono HB.out.size)⟩
  clear hr hl hB
  go_enter Try.func60, Try.ntmps60
  go_wp2
  go_loop [9] (fun i => ∃ (k : Nat), k ≤ l.length ∧ i = .int .i64 k ∧ Hid (∀ i (hi : i < l.length), i < k → l[i] ≠ n)) (fun i => l.length - (intOf i).toNat)
  case atStart => exact ⟨0, Nat.zero_le _, rfl, fun i _ h => absurd h (by omega)⟩
  case round =>
    obtain ⟨k, hk, rfl, hq⟩ := hrel
    by_cases hlt : k < l.length
    · obtain ⟨b, off, rfl, hFb, hel⟩ := hla (by omega)
      obtain ⟨cs, ⟨h1, rfl⟩, -, hcell⟩ := hel _ (HB.out.block b (hF b hFb)) k hlt
      have g0 := hcell 0 _ rfl
      simp only [Nat.add_zero, Nat.mul_one] at g0
      obtain ⟨x, hx⟩ : ∃ x, x = l[k] := ⟨_, rfl⟩
      rw [← hx] at g0
      have hm : x ∈ l := by rw [hx]; exact List.getElem_mem hlt
      have HX := Lib.hid hx
      clear hel hcell hla h1 hx hfd
      by_cases he : x = n
      · subst he
        have hfn := Lib.hid (hyes.out hm)
        clear hq hyes hno hm
        go_wp2_with (go_at_call 59; refine (HFI.out _).mono ?_; rintro e w2 ⟨rfl, hb2⟩; obtain ⟨⟨⟨f0, f1⟩, z0, z1⟩, hbw⟩ := hfin.out _ w2 (Below.refl _ _) hb2; unfold wrongR fineW)
        exact bodyPost_ret (v := wrongR fineW) (by simp [results, Try.results60, go_sem, wrongR, fineW, f0, f1]; try rfl) rfl ⟨by rw [hfn.out], two_set hbw (Nat.le_refl _)⟩
      · have e1 : (x.toList == n.toList) = false := by rw [beq_str]; simpa using he
        have hnx : Hid (∀ i (hi : i < l.length), i < k + 1 → l[i] ≠ n) := fun i hi h => by
          by_cases hik : i = k
          · subst hik; rw [← HX.out]; exact he
          · exact hq.out i hi (by omega)
        clear hq hyes hno he hm
        go_wp2
        go_round
        case rel => exact ⟨k + 1, by omega, by go_num, hnx⟩
        case measure => simp [intOf]; omega
    · have hfn := Lib.hid (hno.out (fun i hi => hq.out i hi (by omega)))
      clear hq hyes hno hla
      cases ho : findN t n with
      | none =>
        rw [ho] at hfd hfn
        have HD := Lib.hid (found_none hfd)
        clear ho hfd
        go_wp2_with (go_at_call 24; refine HD.out.mono ?_; rintro e w1 ⟨rfl, hb⟩; obtain ⟨⟨⟨f0, f1⟩, z0, z1⟩, hbw⟩ := hfin.out w1 (w1.alloc (.cells #[.string ⟨#[]⟩, .int .i64 0, .int .i64 0] 63)) hb ((Below.refl _ _).alloc (Nat.le_refl _) _))
        exact bodyPost_ret (v := wrongR (11, n)) (by simp [results, Try.results60, go_sem, wrongR, f0, f1]; try rfl) rfl ⟨by rw [hfn.out], two_set hbw (Nat.le_refl _)⟩
      | some x =>
        rw [ho] at hfd hfn
        have HD := Lib.hid (found_some hfd)
        clear ho hfd
        have hcase : (Hid (r = fineW) ∧ ((x.kind = 3) ∨ ((x.kind != 3) = true ∧ things = true ∧ x.kind = 4))) ∨ (Hid (r = (12, n)) ∧ (x.kind != 3) = true ∧ (things = false ∨ (things = true ∧ (x.kind != 4) = true))) := by
          have hf := hfn.out
          simp only at hf
          by_cases h3 : x.kind = 3
          · exact .inl ⟨by show _ = _; rw [hf, if_pos (by rw [h3]; cases things <;> simp [ksOf])], .inl h3⟩
          · cases things
            · exact .inr ⟨by show _ = _; rw [hf, if_neg (by simp [ksOf, h3])], by simpa using h3, .inl rfl⟩
            · by_cases h4 : x.kind = 4
              · exact .inl ⟨by show _ = _; rw [hf, if_pos (by rw [h4]; simp [ksOf])], .inr ⟨by simpa using h3, rfl, h4⟩⟩
              · exact .inr ⟨by show _ = _; rw [hf, if_neg (by simp [ksOf, h3, h4])], by simpa using h3, .inr ⟨rfl, by simpa using h4⟩⟩
        clear hfn
        obtain ⟨xn, xk, xm⟩ := x
        simp only at hcase HD
        rcases hcase with ⟨hr, hc⟩ | ⟨hr, e3, hc⟩
        · rcases hc with rfl | ⟨e3, rfl, rfl⟩
          all_goals (
            go_wp2_with (first | (go_at_call 24; refine HD.out.mono ?_; rintro e w1 ⟨rfl, hb⟩) | (go_at_call 59; refine (HFI.out _).mono ?_; rintro e w2 ⟨rfl, hb2⟩; obtain ⟨⟨⟨f0, f1⟩, z0, z1⟩, hbw⟩ := hfin.out w1 w2 hb (below_on1 (Below.refl _ _) (Nat.le_refl _) hb2); unfold wrongR fineW))
            exact bodyPost_ret (v := wrongR fineW) (by simp [results, Try.results60, go_sem, wrongR, fineW, f0, f1]; try rfl) rfl ⟨by rw [hr.out], two_set hbw (Nat.le_refl _)⟩)
        · rcases hc with rfl | ⟨rfl, e4⟩
          all_goals (
            go_wp2_with (go_at_call 24; refine HD.out.mono ?_; rintro e w1 ⟨rfl, hb⟩; obtain ⟨⟨⟨f0, f1⟩, z0, z1⟩, hbw⟩ := hfin.out w1 (w1.alloc (.cells #[.string xn, .int .i64 xk, .int .i64 xm] 63)) hb ((Below.refl _ _).alloc (Nat.le_refl _) _))
            exact bodyPost_ret (v := wrongR (12, n)) (by simp [results, Try.results60, go_sem, wrongR, f0, f1]; try rfl) rfl ⟨by rw [hr.out], two_set hbw (Nat.le_refl _)⟩)
end Go.Proofs.Ytblhpiebheommaa
