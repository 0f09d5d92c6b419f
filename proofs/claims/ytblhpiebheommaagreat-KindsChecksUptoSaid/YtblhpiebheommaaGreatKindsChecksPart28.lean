/- The walk of kinds.line; how often each kind is met, kept in a map. Printed by gen-kinds33.py. -/
import Derived.Test.YtblhpiebheommaaGreatKinds32
import Derived.Maps.OwnOps
namespace Go.Proofs.YtblhpiebheommaaGreat
open Go.RowKit Go.Maps

/-- How often. -/
def cnt (x : Int) (ks : List Int) : Int := ((ks.filter (fun y => y == x)).length : Int)
theorem cnt_snoc (x y : Int) (ks : List Int) : cnt x (ks ++ [y]) = cnt x ks + (if y = x then 1 else 0) := by
  unfold cnt
  rw [List.filter_append]
  by_cases h : y = x
  · simp [h]
  · simp [h]
theorem cnt_le (x : Int) (ks : List Int) : 0 ≤ cnt x ks ∧ cnt x ks ≤ ks.length := by
  unfold cnt
  have := List.length_filter_le (fun y => y == x) ks
  omega
theorem cnt_two (x y : Int) (hxy : x ≠ y) : ∀ ks : List Int, cnt x ks + cnt y ks ≤ ks.length
  | [] => by simp [cnt]
  | z :: r => by
    have ih := cnt_two x y hxy r
    have h1 : ∀ a, cnt a (z :: r) = (if z = a then 1 else 0) + cnt a r := fun a => by
      unfold cnt
      by_cases h : z = a
      · simp [h]; omega
      · simp [h]
    rw [h1 x, h1 y, List.length_cons]
    by_cases h2 : z = x
    · rw [if_pos h2, if_neg (fun h => hxy (h2.symm.trans h))]; omega
    · rw [if_neg h2]; split <;> omega
theorem law_int : Keyed Tryz.prog 3 := int_keyed Tryz.underlying3
theorem zero_int (w : World) : (zeroValue 3).run Tryz.prog w = .ok (.int .i64 0) w := by kernel_rfl
/-- A map of the call's own that holds how often each key has been met. -/
def CountM (w : World) (b n : Nat) (ks : List Int) : Prop := ∃ D : DataW Unit, w.ownsMap Tryz.prog 3 (plainElem Tryz.prog 3) b n D ∧ IsMap D ∧ ∀ x : Int, D.atKey (.int .i64 x) (.lit (.int .i64 0)) = .lit (.int .i64 (cnt x ks))
theorem CountM.made (w : World) : CountM (w.alloc (.map #[] 0)) w.heap.size 0 [] := ⟨.map [], World.ownsMap_made _ _ _ _, isMap_empty, fun _ => rfl⟩
theorem CountM.keep {w w' : World} {b n : Nat} {ks : List Int} (h : CountM w b n ks) (hb : w'.heap[b]? = w.heap[b]?) : CountM w' b n ks := by
  obtain ⟨D, ⟨es, clock, h1, h2⟩, h3⟩ := h
  exact ⟨D, ⟨es, clock, hb.trans h1, h2⟩, h3⟩
theorem CountM.lt {w : World} {b n : Nat} {ks : List Int} (h : CountM w b n ks) : b < w.heap.size := h.choose_spec.1.lt
theorem i64_wf' {x : Int} (h : I64 x) : (Lit.int .i64 x).wf = true := WalkArith.wf_i64 h
theorem CountM.look {w : World} {b n : Nat} {ks : List Int} (h : CountM w b n ks) {x : Int} (hx : I64 x) : (Instr.lookup 139 (.map (some b)) (.int .i64 x) false).run Tryz.prog w = .ok (.int .i64 (cnt x ks)) w := by
  obtain ⟨D, h1, h2, h3⟩ := h
  obtain ⟨c, hrun, hat, _⟩ := h1.lookup_int law_int Tryz.underlying139 Tryz.underlying3 (zero_int _) (keyOf_int_mk Tryz.underlying3 (i64_wf' hx))
  rw [h3 x] at hat
  simp only [DataW.lit.injEq, Lit.int.injEq, true_and] at hat
  rw [hat]; exact hrun
theorem CountM.upd {w : World} {b n : Nat} {ks : List Int} (h : CountM w b n ks) {x : Int} (hx : I64 x) (hn : n < maxLen) (hk : (ks.length : Int) < 9223372036854775807) :
    ∃ w', (Instr.mapUpdate 139 (.map (some b)) (.int .i64 x) (.int .i64 (cnt x ks + 1))).run Tryz.prog w = .ok () w' ∧ CountM w' b (n + 1) (ks ++ [x]) ∧ Below b w w' := by
  obtain ⟨D, h1, h2, h3⟩ := h
  have hc := cnt_le x ks
  obtain ⟨w', hrun, r1, r2⟩ := h1.update law_int Tryz.underlying139 hn (keyOf_int_mk Tryz.underlying3 (i64_wf' hx)) (plainElem_int Tryz.underlying3 (i64_wf' (x := cnt x ks + 1) ⟨by omega, by omega⟩))
  refine ⟨w', hrun, ⟨_, r1, h2.put _ _, fun y => ?_⟩, ⟨r2.os, r2.tape, r2.output, r2.size, fun k hk => r2.block k (Nat.lt_trans hk h1.lt) (by simp; omega)⟩⟩
  rw [cnt_snoc]
  by_cases hxy : x = y
  · subst hxy
    rw [atKey_put_same h2 (by simp [WideAt.IsKeyLit]), if_pos rfl]
  · rw [atKey_put_other (by simp; omega), h3 y, if_neg hxy, Int.add_zero]

/-- What is wrong with the words of slots. -/
noncomputable def slotsW : List SlotD → Int × ByteArray
  | [] => fineW
  | x :: r => seqW (wordsW x.words) (slotsW r)
/-- A line whose slots are too many, or which begins with none of those that may begin it. -/
def badL (l : List SlotD) : Prop := (∀ x ∈ l.head?, x.kind ≠ 1 ∧ x.kind ≠ 5) ∨ cnt 2 (l.map SlotD.kind) + cnt 3 (l.map SlotD.kind) > 2 ∨ cnt 4 (l.map SlotD.kind) > 1 ∨ cnt 5 (l.map SlotD.kind) > 1
/-- What is wrong with a line. -/
noncomputable def lineW (name : ByteArray) (l : List SlotD) : Int × ByteArray :=
  if dec (l = [] ∨ ∃ x ∈ l, x.kind = 1 ∧ x.words = []) = true then (2, name) else (seqW (slotsW l) (if dec (badL l) = true then (18, name) else fineW))

set_option maxRecDepth 100000 in
set_option maxHeartbeats 8000000 in
theorem line_calls (name : ByteArray) (l : List SlotD) (F : Nat → Prop) (w : World) (lv : Value) (hF : Inn F w) (hr : RdL Holds.slot 2 F w l lv) :
    Calls Tryz.prog 73 #[.string name, lv] w (Judged w (lineW name l) (.tuple #[])) := by
  have HWD := Lib.hid (fun (l : List ByteArray) (lv : Value) (hr : RdStrs F w l lv) W (hW : Below w.heap.size w W) => words_calls l F W lv (hF.below hW) (RdL.below hr hF hW (Nat.le_refl _)))
  obtain ⟨a, cap, rfl, hl, hc, ha⟩ := hr.opn
  unfold maxLen at hc
  have HF := Lib.hid hF
  obtain ⟨q, hq⟩ : ∃ q, lineW name l = q := ⟨_, rfl⟩
  rw [hq]
  have HQ := Lib.hid hq
  have hmm := @run_makeMap Tryz.prog
  by_cases h0 : l = []
  · have hfin : Hid (q = (2, name)) := by show _ = _; rw [← HQ.out]; unfold lineW; rw [dec_true (.inl h0), if_pos rfl]
    have hl0 : ((l.length : Int) == 0) = true := by rw [h0]; rfl
    clear hr hq hF ha h0
    go_enter Tryz.func73, Tryz.ntmps73
    go_wp2
    exact ⟨rfl, Judged.thrown hfin.out (by decide) rfl (Below.refl _ _)⟩
  have hpos : 0 < l.length := List.length_pos_iff.2 h0
  have hl0 : ((l.length : Int) == 0) = false := by simp; omega
  obtain ⟨b, off, rfl, hFb, hel⟩ := ha hpos
  have hrd : Hid (∀ W, Below w.heap.size w W → ∀ j (hj : j < l.length), ∃ d5 f5, W.cell? ⟨b, off + j * 2, none⟩ = some (.int .i64 l[j].kind) ∧ W.cell? ⟨b, off + j * 2 + 1, none⟩ = some (.slice d5 l[j].words.length f5) ∧ I64 l[j].kind ∧ RdStrs F w l[j].words (.slice d5 l[j].words.length f5)) := fun W hW j hj => by
    obtain ⟨cs, ⟨hi, v, rfl, hex⟩, -, hcell⟩ := hel w rfl j hj
    obtain ⟨d5, f5, rfl⟩ := hex.shape
    have hbl := hW.block b (HF.out b hFb)
    exact ⟨d5, f5, (World.cell?_of_block (w := w) (a := ⟨b, off + j * 2, none⟩) hbl).trans (by simpa using hcell 0 _ rfl), (World.cell?_of_block (w := w) (a := ⟨b, off + j * 2 + 1, none⟩) hbl).trans (hcell 1 _ rfl), hi, hex⟩
  have hM := CountM.made w
  have HM := Lib.hid hM
  have HBM : Hid (Below w.heap.size w (w.alloc (.map #[] 0))) := (Below.refl _ w).alloc (Nat.le_refl _) _
  clear hr hq hF ha hel h0 hM
  go_enter Tryz.func73, Tryz.ntmps73
  go_wp2
  go_loopw [19] (fun i wr => ∃ k : Nat, k ≤ l.length ∧ i = .int .i64 k ∧ Hid (CountM wr w.heap.size k ((l.map SlotD.kind).take k)) ∧ Hid (∀ m (hm : m < l.length), m < k → ¬ (l[m].kind = 1 ∧ l[m].words = [])) ∧ Below w.heap.size w wr) (fun i _ => l.length - (intOf i).toNat)
  case atStart => exact ⟨0, Nat.zero_le _, rfl, by rw [List.take_zero]; exact HM.out, fun m hm h => absurd h (by omega), HBM.out⟩
  case round =>
    clear hmm
    obtain ⟨k, hk, rfl, hcm, hno, hB⟩ := hrel
    by_cases hlt : k < l.length
    · obtain ⟨d5, f5, g0, g1, hi64, -⟩ := hrd.out wr hB k hlt
      have htk : (l.map SlotD.kind).take (k + 1) = (l.map SlotD.kind).take k ++ [l[k].kind] := by rw [List.take_succ_eq_append_getElem (by simpa using hlt), List.getElem_map]
      have hno2 : ¬ (l[k].kind = 1 ∧ l[k].words = []) → ∀ m (hm : m < l.length), m < k + 1 → ¬ (l[m].kind = 1 ∧ l[m].words = []) := fun h m hm hmk => by
        by_cases hmk2 : m = k
        · subst hmk2; exact h
        · exact hno.out m hm (by omega)
      have hyes : (l[k].kind = 1 ∧ l[k].words = []) → q = (2, name) := fun h => by
        rw [← HQ.out]; unfold lineW; rw [dec_true (.inr ⟨l[k], List.getElem_mem hlt, h⟩), if_pos rfl]
      have hlm : ((l.map SlotD.kind).take k).length = k := by simp; omega
      generalize (l.map SlotD.kind).take k = ks at hcm htk hlm
      generalize l[k] = x at g0 g1 hi64 htk hno2 hyes
      have hA : Hid (∃ wx bx, wr.alloc (.cells #[.int .i64 x.kind, .slice d5 x.words.length f5] 131) = wx ∧ wr.heap.size = bx ∧ Below wr.heap.size wr wx ∧ BoxAt wx bx [.int .i64 x.kind, .slice d5 x.words.length f5]) := ⟨_, _, rfl, rfl, (Below.refl _ wr).alloc (Nat.le_refl _) _, BoxAt.new _ _ _⟩
      have hki : (k : Int) < (l.length : Int) := by omega
      have hki0 : (0 : Int) ≤ (k : Int) := by omega
      have HB := Lib.hid hB
      have HNO := Lib.hid hno2
      have HYES := Lib.hid hyes
      have HTK := Lib.hid htk
      have HI := Lib.hid hi64
      clear hno hno2 hyes htk hi64 hB
      go_upto_region 6 with fail
      obtain ⟨wx, bx, hwx, hbx, hBx0, hbox⟩ := hA.out
      rw [hwx]
      simp only [hbx]
      have hBx : Below w.heap.size w wx := HB.out.trans (hBx0.mono HB.out.size)
      have hcx := hcm.out.keep (hBx0.block _ hcm.out.lt)
      obtain ⟨w2, hup, hcm2, hB2⟩ := hcx.upd HI.out (by unfold maxLen; omega) (by rw [hlm]; omega)
      have hlk := hcx.look HI.out
      have HBx := Lib.hid hBx
      have HC2 := Lib.hid (And.intro hcm2 (hBx.trans (hB2.mono (Nat.le_refl _))))
      have hcn : cnt x.kind ks + 1 ≤ 9223372036854775807 := by have := (cnt_le x.kind ks).2; omega
      have hcn0 := (cnt_le x.kind ks).1
      have y0 := hbox.2 0 (by simp)
      have y1 := hbox.2 1 (by simp)
      simp only [List.getElem?_cons_succ, List.getElem?_cons_zero] at y0 y1
      generalize cnt x.kind ks = cc at hup hlk hcn hcn0
      clear hA hwx hbx hBx0 hbox hcm hcx hcm2 hB2 g0 g1 hBx
      by_cases hk1 : x.kind = 1
      · have e1 : (x.kind == 1) = true := by simp [hk1]
        by_cases hw0 : x.words = []
        · have e2 : ((x.words.length : Int) == 0) = true := by rw [hw0]; rfl
          have hfin := Lib.hid (HYES.out ⟨hk1, hw0⟩)
          clear hk1 hw0 hup hlk
          go_wp2_with fail
          exact ⟨rfl, Judged.thrown hfin.out (by decide) rfl HBx.out⟩
        · have e2 : ((x.words.length : Int) == 0) = false := by have := List.length_pos_iff.2 hw0; simp; omega
          have hnx := Lib.hid (HNO.out (fun h => hw0 h.2))
          clear hk1 hw0
          go_wp2_with fail
          go_roundw
          case rel => exact ⟨k + 1, by omega, by go_num, by rw [HTK.out]; exact HC2.out.1, hnx.out, HC2.out.2⟩
          case measure => simp [intOf]; omega
      · have e1 : (x.kind == 1) = false := by simpa using hk1
        have hnx := Lib.hid (HNO.out (fun h => hk1 h.1))
        clear hk1
        go_wp2_with fail
        go_roundw
        case rel => exact ⟨k + 1, by omega, by go_num, by rw [HTK.out]; exact HC2.out.1, hnx.out, HC2.out.2⟩
        case measure => simp [intOf]; omega
    · have HQ2 : Hid (q = (seqW (slotsW l) (if dec (badL l) = true then (18, name) else fineW))) := by
        show _ = _
        rw [← HQ.out]
        unfold lineW
        rw [dec_false (p := l = [] ∨ ∃ x ∈ l, x.kind = 1 ∧ x.words = []) (fun h => h.elim (fun h => by rw [h] at hpos; simp at hpos) fun ⟨x, hx, hx2⟩ => by
          obtain ⟨m, hm, rfl⟩ := List.getElem_of_mem hx
          exact hno.out m hm (by omega) hx2)]
        rfl
      have hcm2 : CountM wr w.heap.size l.length (l.map SlotD.kind) := by
        have := hcm.out
        rw [show k = l.length by omega, List.take_of_length_le (by simp)] at this
        exact this
      have HCM := Lib.hid hcm2
      have HBo := Lib.hid hB
      have hki : decide ((k : Int) < (l.length : Int)) = false := by simpa using hlt
      clear hcm hno hB hcm2
      go_wp2_with fail
      obtain ⟨wo, rfl⟩ : ∃ wo : World, wo = wr := ⟨_, rfl⟩
      go_loopw [43] (fun i wr => ∃ k2 : Nat, k2 ≤ l.length ∧ i = .int .i64 k2 ∧ Hid (q = seqW (slotsW (l.drop k2)) (if dec (badL l) = true then (18, name) else fineW)) ∧ Below wo.heap.size wo wr) (fun i _ => l.length - (intOf i).toNat)
      case atStart => exact ⟨0, Nat.zero_le _, rfl, by show _ = _; rw [List.drop_zero]; exact HQ2.out, Below.refl _ _⟩
      case round =>
        clear hki
        obtain ⟨k2, hk2, rfl, hinv, hB⟩ := hrel
        have hBw : Below w.heap.size w wr := HBo.out.trans (hB.mono HBo.out.size)
        have HB := Lib.hid hB
        have HBw := Lib.hid hBw
        by_cases hlt2 : k2 < l.length
        · obtain ⟨d5, f5, g0, g1, -, hex⟩ := hrd.out wr hBw k2 hlt2
          have hdk : slotsW (l.drop k2) = seqW (wordsW l[k2].words) (slotsW (l.drop (k2 + 1))) := by rw [List.drop_eq_getElem_cons hlt2]; rfl
          have hq2 := hinv.out
          rw [hdk] at hq2
          have hwd := fun W hW => HWD.out l[k2].words _ hex W hW
          generalize l[k2] = x at g0 g1 hex hq2 hwd
          generalize wordsW x.words = p at hq2 hwd
          have hki : (k2 : Int) < (l.length : Int) := by omega
          have hki0 : (0 : Int) ≤ (k2 : Int) := by omega
          have hal : ∀ o, Below w.heap.size w (wr.alloc o) := fun o => hBw.alloc hBw.size o
          have HAL := Lib.hid hal
          clear hdk hinv hB hBw hex hal
          by_cases hz : p.1 = 0
          · have hnx : Hid (q = seqW (slotsW (l.drop (k2 + 1))) (if dec (badL l) = true then (18, name) else fineW)) := by show _ = _; rw [hq2, seqW_fine hz]
            have HC := Lib.hid (fun o => judged_ok (hwd (wr.alloc o) (HAL.out o)) hz)
            clear hwd hz hq2
            go_wp2_with (go_at_call 71; refine (HC.out _).mono ?_; rintro e w3 ⟨rfl, hb3⟩)
            go_roundw
            case rel => exact ⟨k2 + 1, by omega, by go_num, hnx.out, below_on1 HB.out (Nat.le_refl _) hb3⟩
            case measure => simp [intOf]; omega
          · have hfin : Hid (q = (p.1, p.2)) := by show _ = _; rw [hq2, seqW_bad (by rw [seqW_bad hz]; exact hz), seqW_bad hz]
            have HZ := Lib.hid hz
            have HC := Lib.hid (fun o => judged_bad (hwd (wr.alloc o) (HAL.out o)) hz)
            clear hwd hz hq2
            go_wp2_with (go_at_call 71; refine (HC.out _).mono ?_; rintro e w3 ⟨rfl, hb3⟩)
            exact ⟨rfl, Judged.thrown hfin.out HZ.out rfl (below_on1 HBw.out (Nat.le_refl _) hb3)⟩
        · have HQ3 : Hid (q = if dec (badL l) = true then (18, name) else fineW) := by show _ = _; rw [hinv.out, List.drop_eq_nil_of_le (by omega)]; exact seqW_fine rfl
          have hki : decide ((k2 : Int) < (l.length : Int)) = false := by simpa using hlt2
          have hcr := HCM.out.keep (hB.block _ HCM.out.lt)
          have l2 := hcr.look (x := 2) (by unfold I64; omega)
          have l3 := hcr.look (x := 3) (by unfold I64; omega)
          have l4 := hcr.look (x := 4) (by unfold I64; omega)
          have l5 := hcr.look (x := 5) (by unfold I64; omega)
          obtain ⟨d5, f5, g0, -, -, -⟩ := hrd.out wr hBw 0 hpos
          have hb2 := cnt_two 2 3 (by decide) (l.map SlotD.kind)
          have hb20 := (cnt_le 2 (l.map SlotD.kind)).1
          have hb30 := (cnt_le 3 (l.map SlotD.kind)).1
          rw [List.length_map] at hb2
          have hbad : badL l ↔ ((l[0].kind ≠ 1 ∧ l[0].kind ≠ 5) ∨ cnt 2 (l.map SlotD.kind) + cnt 3 (l.map SlotD.kind) > 2 ∨ cnt 4 (l.map SlotD.kind) > 1 ∨ cnt 5 (l.map SlotD.kind) > 1) := by
            unfold badL
            rw [List.head?_eq_getElem?, List.getElem?_eq_getElem hpos]
            simp
          have HBAD := Lib.hid hbad
          simp only [Nat.zero_mul, Nat.add_zero] at g0
          generalize l[0].kind = kz at g0 HBAD
          generalize cnt 2 (l.map SlotD.kind) = c2 at l2 HBAD hb2 hb20
          generalize cnt 3 (l.map SlotD.kind) = c3 at l3 HBAD hb2 hb30
          generalize cnt 4 (l.map SlotD.kind) = c4 at l4 HBAD
          generalize cnt 5 (l.map SlotD.kind) = c5 at l5 HBAD
          have HBT := HBw
          have hp0 : (0 : Int) < (l.length : Int) := by omega
          have hsum : IntKind.i64.wrap (c2 + c3) = c2 + c3 := by rw [IntKind.wrap_i64]; omega
          clear hinv hB hBw hcr hbad
          have hhd : (kz == 1) = true ∨ ((kz == 1) = false ∧ (kz == 5) = true) ∨ ((kz == 1) = false ∧ (kz == 5) = false) := by
            by_cases h1 : kz = 1
            · left; simp [h1]
            · by_cases h5 : kz = 5
              · right; left; simp [h5]
              · right; right; simp [h1, h5]
          have hok : Hid (((kz == 1) = true ∨ (kz == 5) = true) → ¬ (kz ≠ 1 ∧ kz ≠ 5)) := fun h hh => by
            rcases h with h | h
            · exact hh.1 (by simpa using h)
            · exact hh.2 (by simpa using h)
          rcases hhd with e1 | ⟨e1, e5⟩ | ⟨e1, e5⟩
          · have hnh := hok.out (.inl e1)
            by_cases h23 : c2 + c3 > 2
            · have hfin : Hid (q = (18, name)) := by show _ = _; rw [HQ3.out, dec_true (p := badL l) (HBAD.out.2 (.inr (.inl h23))), if_pos rfl]
              have d23 : decide (c2 + c3 > 2) = true := by simpa using h23
              clear hok hnh h23
              go_wp2_with fail
              exact ⟨rfl, Judged.thrown hfin.out (by decide) rfl HBT.out⟩
            have d23 : decide (c2 + c3 > 2) = false := by simpa using h23
            by_cases h4 : c4 > 1
            · have hfin : Hid (q = (18, name)) := by show _ = _; rw [HQ3.out, dec_true (p := badL l) (HBAD.out.2 (.inr (.inr (.inl h4)))), if_pos rfl]
              have d4 : decide (c4 > 1) = true := by simpa using h4
              clear hok hnh h23 h4
              go_wp2_with fail
              exact ⟨rfl, Judged.thrown hfin.out (by decide) rfl HBT.out⟩
            have d4 : decide (c4 > 1) = false := by simpa using h4
            by_cases h5 : c5 > 1
            · have hfin : Hid (q = (18, name)) := by show _ = _; rw [HQ3.out, dec_true (p := badL l) (HBAD.out.2 (.inr (.inr (.inr h5)))), if_pos rfl]
              have d5 : decide (c5 > 1) = true := by simpa using h5
              clear hok hnh h23 h4 h5
              go_wp2_with fail
              exact ⟨rfl, Judged.thrown hfin.out (by decide) rfl HBT.out⟩
            have d5 : decide (c5 > 1) = false := by simpa using h5
            have hfin : Hid (q = fineW) := by
              show _ = _
              rw [HQ3.out, dec_false (p := badL l) (fun h => (HBAD.out.1 h).elim hnh fun h => h.elim h23 fun h => h.elim h4 h5)]
              rfl
            clear hok hnh h23 h4 h5
            go_wp2_with fail
            go_end0
            exact Judged.fine (by rw [hfin.out]; rfl) rfl HBT.out
          · have hnh := hok.out (.inr e5)
            by_cases h23 : c2 + c3 > 2
            · have hfin : Hid (q = (18, name)) := by show _ = _; rw [HQ3.out, dec_true (p := badL l) (HBAD.out.2 (.inr (.inl h23))), if_pos rfl]
              have d23 : decide (c2 + c3 > 2) = true := by simpa using h23
              clear hok hnh h23
              go_wp2_with fail
              exact ⟨rfl, Judged.thrown hfin.out (by decide) rfl HBT.out⟩
            have d23 : decide (c2 + c3 > 2) = false := by simpa using h23
            by_cases h4 : c4 > 1
            · have hfin : Hid (q = (18, name)) := by show _ = _; rw [HQ3.out, dec_true (p := badL l) (HBAD.out.2 (.inr (.inr (.inl h4)))), if_pos rfl]
              have d4 : decide (c4 > 1) = true := by simpa using h4
              clear hok hnh h23 h4
              go_wp2_with fail
              exact ⟨rfl, Judged.thrown hfin.out (by decide) rfl HBT.out⟩
            have d4 : decide (c4 > 1) = false := by simpa using h4
            by_cases h5 : c5 > 1
            · have hfin : Hid (q = (18, name)) := by show _ = _; rw [HQ3.out, dec_true (p := badL l) (HBAD.out.2 (.inr (.inr (.inr h5)))), if_pos rfl]
              have d5 : decide (c5 > 1) = true := by simpa using h5
              clear hok hnh h23 h4 h5
              go_wp2_with fail
              exact ⟨rfl, Judged.thrown hfin.out (by decide) rfl HBT.out⟩
            have d5 : decide (c5 > 1) = false := by simpa using h5
            have hfin : Hid (q = fineW) := by
              show _ = _
              rw [HQ3.out, dec_false (p := badL l) (fun h => (HBAD.out.1 h).elim hnh fun h => h.elim h23 fun h => h.elim h4 h5)]
              rfl
            clear hok hnh h23 h4 h5
            go_wp2_with fail
            go_end0
            exact Judged.fine (by rw [hfin.out]; rfl) rfl HBT.out
          · have hfin : Hid (q = (18, name)) := by show _ = _; rw [HQ3.out, dec_true (p := badL l) (HBAD.out.2 (.inl ⟨by simpa using e1, by simpa using e5⟩)), if_pos rfl]
            clear hok
            go_wp2_with fail
            exact ⟨rfl, Judged.thrown hfin.out (by decide) rfl HBT.out⟩
end Go.Proofs.YtblhpiebheommaaGreat
/- The walk of a whole's verb. Printed by gen-kinds34.py. -/
namespace Go.Proofs.YtblhpiebheommaaGreat
open Go.RowKit

noncomputable def linesW (name : ByteArray) : List (List SlotD) → Int × ByteArray
  | [] => fineW
  | l :: r => seqW (lineW name l) (linesW name r)
/-- What is wrong with a verb. -/
noncomputable def verbW (o : VerbD) : Int × ByteArray := if o.lines = [] then (2, o.name) else linesW o.name o.lines

set_option maxRecDepth 100000 in
set_option maxHeartbeats 4000000 in
theorem verb_calls (t : List NameD) (s : SrcD) (i : Nat) (o : VerbD) (F : Nat → Prop) (w : World) (tv : Value) (ss : List Value) (hF : Inn F w) (h0 : RdNames F w t tv) (h1 : Holds.src.R F w s ss) (hi : s.verbs[i]? = some o) :
    Calls Tryz.prog 46 #[.agg (tv :: ss).toArray, .int .i64 i] w (Judged w (verbW o) (.tuple #[])) := by
  obtain ⟨hi1, hi2⟩ := List.getElem?_eq_some_iff.1 hi
  have HLI := Lib.hid (fun (l : List SlotD) (lv : Value) (hr : RdL Holds.slot 2 F w l lv) W (hW : Below w.heap.size w W) => line_calls o.name l F W lv (hF.below hW) (RdL.below hr hF hW (Nat.le_refl _)))
  obtain ⟨a0, c0, rfl⟩ := h0.shape
  obtain ⟨a5, c5, a6, c6, a7, c7, a8, c8, a9, c9, a10, c10, a11, c11, a12, c12, rfl, g5, g6, g7, g8, g9, g10, g11, g12⟩ := src_shape h1
  obtain ⟨_, _, he9, hl9, hc9, h9⟩ := g9.opn
  cases he9
  obtain ⟨ob, off, rfl, hFob, hel⟩ := h9 (by omega)
  obtain ⟨cs, ⟨-, v2, rfl, k2⟩, -, hcell⟩ := hel w rfl i hi1
  rw [hi2] at k2 hcell
  obtain ⟨p2, q2, rfl⟩ := k2.shape
  have HF := Lib.hid hF
  have hrow : Hid (∀ W, Below w.heap.size w W → ∀ j (u : Value), ([.string o.name, .bool o.isMeta, .slice p2 o.lines.length q2] : List Value)[j]? = some u → W.cell? ⟨ob, off + i * 3 + j, none⟩ = some u) := fun W hW j u hj => (World.cell?_of_block (w := w) (a := ⟨ob, off + i * 3 + j, none⟩) (hW.block ob (hF ob hFob))).trans (hcell j u hj)
  obtain ⟨q, hq⟩ : ∃ q, verbW o = q := ⟨_, rfl⟩
  rw [hq]
  have HQ := Lib.hid hq
  have K2 := Lib.hid k2
  have hil : (i : Int) < (s.verbs.length : Int) := by omega
  have hi0 : (0 : Int) ≤ (i : Int) := by omega
  have hcap : c9 ≤ 9223372036854775807 := by unfold maxLen at hc9; omega
  have hA : Hid (∃ W0, w.alloc (.cells #[.slice a0 t.length c0, .string s.title, .string s.author, .string s.start, .int .i64 s.release, .int .i64 s.most, .slice a5 s.flags.length c5, .slice a6 s.props.length c6, .slice a7 s.globals.length c7, .slice a8 s.objects.length c8, .slice (some ⟨ob, off, none⟩) s.verbs.length c9, .slice a10 s.rules.length c10, .slice a11 s.funcs.length c11, .slice a12 s.daemons.length c12] 73) = W0 ∧ Below w.heap.size w W0 ∧ BoxAt W0 w.heap.size [.slice a0 t.length c0, .string s.title, .string s.author, .string s.start, .int .i64 s.release, .int .i64 s.most, .slice a5 s.flags.length c5, .slice a6 s.props.length c6, .slice a7 s.globals.length c7, .slice a8 s.objects.length c8, .slice (some ⟨ob, off, none⟩) s.verbs.length c9, .slice a10 s.rules.length c10, .slice a11 s.funcs.length c11, .slice a12 s.daemons.length c12] ∧ w.heap.size < W0.heap.size) := ⟨_, rfl, (Below.refl _ w).alloc (Nat.le_refl _) _, BoxAt.new _ _ _, by simp⟩
  clear h0 h1 hq hF g5 g6 g7 g8 g9 g10 g11 g12 hel h9 hc9 hi hi1 hi2 hcell k2
  go_enter Tryz.func46, Tryz.ntmps46
  go_upto_region 1 with fail
  obtain ⟨W0, hW0, hB0, hbox, hz0⟩ := hA.out
  rw [hW0]
  have HB0 := Lib.hid hB0
  have HBOX := Lib.hid hbox
  clear hA hW0 hB0 hbox
  have z10 := HBOX.out.2 10 (by simp)
  simp only [List.getElem?_cons_succ, List.getElem?_cons_zero] at z10
  have y0 := hrow.out W0 HB0.out 0 _ rfl
  have y1 := hrow.out W0 HB0.out 1 _ rfl
  have y2 := hrow.out W0 HB0.out 2 _ rfl
  simp only [Nat.add_zero] at y0
  have hA : Hid (∃ W1 bo, W0.alloc (.cells #[.string o.name, .bool o.isMeta, .slice p2 o.lines.length q2] 86) = W1 ∧ W0.heap.size = bo ∧ Below W0.heap.size W0 W1 ∧ BoxAt W1 bo [.string o.name, .bool o.isMeta, .slice p2 o.lines.length q2]) := ⟨_, _, rfl, rfl, (Below.refl _ W0).alloc (Nat.le_refl _) _, BoxAt.new _ _ _⟩
  go_upto_region 2 with fail
  obtain ⟨W1, bo, hW1, hbo, hB1, hobj⟩ := hA.out
  rw [hW1]
  simp only [hbo]
  have HB1 := Lib.hid (HB0.out.trans (hB1.mono HB0.out.size))
  have HOBJ := Lib.hid hobj
  have t0 := hobj.2 0 (by simp)
  have t2 := hobj.2 2 (by simp)
  simp only [List.getElem?_cons_succ, List.getElem?_cons_zero] at t0 t2
  clear hA hW1 hbo hobj hB1 y0 y1 y2 z10 HBOX hrow
  by_cases hn : o.lines = []
  · have hfin : Hid (q = (2, o.name)) := by show _ = _; rw [← HQ.out]; unfold verbW; rw [if_pos hn]
    have hl0 : ((o.lines.length : Int) == 0) = true := by rw [hn]; rfl
    clear hn
    go_wp2_with fail
    exact ⟨rfl, Judged.thrown hfin.out (by decide) rfl HB1.out⟩
  have hl0 : ((o.lines.length : Int) == 0) = false := by have := List.length_pos_iff.2 hn; simp; omega
  have HQ1 : Hid (q = linesW o.name o.lines) := by show _ = _; rw [← HQ.out]; unfold verbW; rw [if_neg hn]
  obtain ⟨_, _, he2, hl2, hc2, h2⟩ := (K2.out).opn
  cases he2
  unfold maxLen at hc2
  clear hn HQ
  go_wp2_with fail
  go_loopw [24] (fun i wr => ∃ k : Nat, k ≤ o.lines.length ∧ i = .int .i64 k ∧ Hid (q = linesW o.name (o.lines.drop k)) ∧ Below W1.heap.size W1 wr) (fun i _ => o.lines.length - (intOf i).toNat)
  case atStart => exact ⟨0, Nat.zero_le _, rfl, by show _ = _; rw [List.drop_zero]; exact HQ1.out, Below.refl _ _⟩
  case round =>
    clear t0 t2
    obtain ⟨k, hk, rfl, hinv, hB⟩ := hrel
    have hBw : Below w.heap.size w wr := HB1.out.trans (hB.mono HB1.out.size)
    have HB := Lib.hid hB
    have HBw := Lib.hid hBw
    by_cases hlt : k < o.lines.length
    · obtain ⟨b2, off2, rfl, hFb2, hel2⟩ := h2 (by omega)
      obtain ⟨cs2, ⟨v, rfl, hex⟩, -, hcell2⟩ := hel2 w rfl k hlt
      have g0 := (World.cell?_of_block (w := w) (a := ⟨b2, off2 + k * 1 + 0, none⟩) (hBw.block b2 (HF.out b2 hFb2))).trans (hcell2 0 _ rfl)
      simp only [Nat.add_zero, Nat.mul_one] at g0
      have hdk : linesW o.name (o.lines.drop k) = seqW (lineW o.name o.lines[k]) (linesW o.name (o.lines.drop (k + 1))) := by rw [List.drop_eq_getElem_cons hlt]; rfl
      have hq2 := hinv.out
      rw [hdk] at hq2
      have hwd := HLI.out o.lines[k] _ hex wr hBw
      obtain ⟨d5, f5, rfl⟩ := hex.shape
      generalize o.lines[k] = x at g0 hq2 hwd hex
      generalize lineW o.name x = p at hq2 hwd
      have t0 := (HOBJ.out.below hB HOBJ.out.1).2 0 (by simp)
      simp only [List.getElem?_cons_zero] at t0
      have hki : (k : Int) < (o.lines.length : Int) := by omega
      have hki0 : (0 : Int) ≤ (k : Int) := by omega
      clear hdk hinv hB hBw hex hel2 h2 hcell2
      by_cases hz : p.1 = 0
      · have hnx : Hid (q = linesW o.name (o.lines.drop (k + 1))) := by show _ = _; rw [hq2, seqW_fine hz]
        have HC := Lib.hid (judged_ok hwd hz)
        clear hwd hz hq2
        go_wp2_with (go_at_call 73; refine HC.out.mono ?_; rintro e w3 ⟨rfl, hb3⟩)
        go_roundw
        case rel => exact ⟨k + 1, by omega, by go_num, hnx.out, below_on HB.out (Nat.le_refl _) hb3⟩
        case measure => simp [intOf]; omega
      · have hfin : Hid (q = (p.1, p.2)) := by show _ = _; rw [hq2, seqW_bad hz]
        have HZ := Lib.hid hz
        have HC := Lib.hid (judged_bad hwd hz)
        clear hwd hz hq2
        go_wp2_with (go_at_call 73; refine HC.out.mono ?_; rintro e w3 ⟨rfl, hb3⟩)
        exact ⟨rfl, Judged.thrown hfin.out HZ.out rfl (below_on HBw.out (Nat.le_refl _) hb3)⟩
    · have hfin : Hid (q = fineW) := by show _ = _; rw [hinv.out, List.drop_eq_nil_of_le (by omega)]; rfl
      have hki : decide ((k : Int) < (o.lines.length : Int)) = false := by simpa using hlt
      clear hinv hB h2
      go_wp2_with fail
      go_end0
      exact Judged.fine (by rw [hfin.out]; rfl) rfl HBw.out
end Go.Proofs.YtblhpiebheommaaGreat
