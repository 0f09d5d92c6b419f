/- The walk of kinds' checker.expr: what is wrong with an expression is thrown. -/
import Derived.Test.YtblhpiebheommaaGreatKindsChecksPart8
import Derived.Deep.DeepCutAuto
import Derived.Deep.CutBlock
namespace Go.Proofs.YtblhpiebheommaaGreat
open Go.RowKit

def seqW (a b : Int × ByteArray) : Int × ByteArray := if a.1 = 0 then b else a
theorem seqW_fine {a b : Int × ByteArray} (h : a.1 = 0) : seqW a b = b := if_pos h
theorem seqW_bad {a b : Int × ByteArray} (h : a.1 ≠ 0) : seqW a b = a := if_neg h

/-- What is wrong with a call of a function. -/
def callW (t : List NameD) (fs : List FuncD) (n : ByteArray) (many : Nat) : Int × ByteArray :=
  if (ofN t 6 n).2 = 0 then (if ((fs.map (fun f => f.params.length))[(ofN t 6 n).1.toNat]?.getD many) = many then fineW else (7, n)) else ((ofN t 6 n).2, n)
/-- What is wrong with an expression itself. -/
noncomputable def ownEx (t : List NameD) (fs : List FuncD) (l : List ByteArray) (k : Int) (n : ByteArray) (many : Nat) : Int × ByteArray :=
  if k = 3 then eitherW t l [3, 4] n else if k = 7 then ofW t 1 n else if k = 8 then ofW t 2 n else if k = 9 then callW t fs n many else fineW
mutual
noncomputable def Ex.kW (t : List NameD) (fs : List FuncD) (l : List ByteArray) : Ex → Int × ByteArray
  | .mk k _ _ s args => seqW (ownEx t fs l k s args.length) (Ex.kWs t fs l args)
noncomputable def Ex.kWs (t : List NameD) (fs : List FuncD) (l : List ByteArray) : List Ex → Int × ByteArray
  | [] => fineW
  | e :: es => seqW (e.kW t fs l) (Ex.kWs t fs l es)
end

/-- A table's functions and things are the source's. -/
def TabOk (t : List NameD) (fs : List FuncD) (things : Nat) : Prop := ∀ x ∈ t, (x.kind = 6 → 0 ≤ x.num ∧ x.num < fs.length) ∧ (x.kind = 4 → 2 ≤ x.num ∧ x.num < things + 2)
theorem ofN_ok {t : List NameD} {kind z : Int} {n : ByteArray} (h : ofN t kind n = (z, 0)) : ∃ x ∈ t, x.kind = kind ∧ x.num = z := by
  unfold ofN at h
  cases hf : findN t n with
  | none => rw [hf] at h; simp at h
  | some x =>
    rw [hf] at h
    by_cases hk : x.kind = kind
    · simp [hk] at h; exact ⟨x, (findN_some hf).1, hk, h⟩
    · simp [hk] at h

/-- The checker's cell that holds the functions. -/
def CkF (F : Nat → Prop) (w : World) (B : Nat) (fs : List FuncD) : Prop := B < w.heap.size ∧ ∃ v, w.cell? ⟨B, 12, none⟩ = some v ∧ RdL Holds.fnc 3 F w fs v
theorem CkF.below {F : Nat → Prop} {w w' : World} {B : Nat} {t : List FuncD} (h : CkF F w B t) (hF : Inn F w) (hb : Below w.heap.size w w') : CkF F w' B t := by
  obtain ⟨h1, v, h2, h3⟩ := h
  exact ⟨Nat.lt_of_lt_of_le h1 hb.size, v, by rw [hb.cell (p := ⟨B, 12, none⟩) h1]; exact h2, h3.below hF hb (Nat.le_refl _)⟩

theorem built_ints (w : World) (l : List Int) (hl : l.length ≤ 1000) (h : ∀ x ∈ l, I64 x) : RdL Holds.int 1 (fun b => b = w.heap.size) (w.alloc (.cells (l.map (Value.int .i64)).toArray 3)) l (.slice (some ⟨w.heap.size, 0, none⟩) l.length l.length) := by
  refine ⟨fun i _ => (l.map (Value.int .i64)).getD i undef, ⟨_, _, rfl, Nat.le_refl _, by unfold maxLen; omega, fun _ => ⟨w.heap.size, 0, rfl, rfl, fun i hi j hj => ?_⟩⟩, fun i hi => ⟨h _ (List.getElem_mem hi), ?_⟩⟩
  · have := bx_new w (l.map (Value.int .i64)) 3 _ rfl i (by simpa using hi)
    rw [show 0 + i * 1 + j = i by omega, this]
    show _ = some ((l.map (Value.int .i64)).getD i undef)
    rw [List.getD_eq_getElem?_getD, List.getElem?_eq_getElem (by simpa using hi)]
    rfl
  · simp [rowCells, hi]

def KExC (t : List NameD) (fs : List FuncD) (e : Ex) : Prop := ∀ (l : List ByteArray) (F : Nat → Prop) (w : World) (B : Nat) (cs : List Value), Inn F w → CkT F w B t → CkL F w B l → CkF F w B fs → RdEx F w e cs →
  Calls Tryz.prog 37 #[.pointer (some ⟨B, 0, none⟩), .agg cs.toArray] w (Judged w (e.kW t fs l) (.tuple #[]))

set_option maxRecDepth 20000 in
set_option maxHeartbeats 4000000 in
theorem kexpr_calls (t : List NameD) (fs : List FuncD) (things : Nat) (hri : Rises t) (ht : t.length ≤ 1000000000000) (htab : TabOk t fs things) : ∀ e, KExC t fs e := by
  refine Ex.ind ?_
  intro k o n s args ih l F w B cs hF hct hcl hcf hr
  obtain ⟨i1, i2, i3, hss, v, c, rfl, hsl, hrow⟩ := hr
  have hargs : Exs F w args v := ⟨c, hsl, hrow⟩
  obtain ⟨a, cap, rfl⟩ := hargs.shape
  have HO := Lib.hid (fun kind W (hW : Below w.heap.size w W) => of_calls t kind s F W B (hF.below hW) (hct.below hF hW) hri ht)
  have HS := Lib.hid (fun (W : World) (hW : Below w.heap.size w W) => stands_calls t l [3, 4] s F (fun b => b = W.heap.size) (W.alloc (.cells #[.int .i64 3, .int .i64 4] 3)) B (.slice (some ⟨W.heap.size, 0, none⟩) 2 2) (hF.below (hW.alloc hW.size _)) (hct.below hF (hW.alloc hW.size _)) (hcl.below hF (hW.alloc hW.size _)) (fun b hb => by subst hb; simp) (built_ints W [3, 4] (by simp) (by simp [I64])) hri ht)
  have hfin : Hid ((Ex.mk k o n s args).kW t fs l = seqW (ownEx t fs l k s args.length) (Ex.kWs t fs l args)) := rfl
  generalize (Ex.mk k o n s args).kW t fs l = r at hfin ⊢
  obtain ⟨hB, fv, hfv, hfr⟩ := hcf
  obtain ⟨fa, fcap, rfl, hfl, hfc, hfa⟩ := hfr.opn
  unfold maxLen at hfc
  have hB0 : Below w.heap.size w (w.alloc (.cells #[.int .i64 k, .int .i64 o, .int .i64 n, .string s, .slice a args.length cap] 54)) := (Below.refl _ w).alloc (Nat.le_refl _) _
  go_enter Tryz.func37, Tryz.ntmps37
  go_upto_block 0 with fail
  obtain ⟨W0, hW0⟩ : ∃ W0, (w.alloc (.cells #[.int .i64 k, .int .i64 o, .int .i64 n, .string s, .slice a args.length cap] 54)) = W0 := ⟨_, rfl⟩
  have hz0 : w.heap.size < W0.heap.size := by rw [← hW0]; simp
  have b3 : W0.cell? ⟨w.heap.size, 3, none⟩ = some (.string s) := by rw [← hW0]; simp
  have b4 : W0.cell? ⟨w.heap.size, 4, none⟩ = some (.slice a args.length cap) := by rw [← hW0]; simp
  rw [hW0] at hB0 ⊢
  clear hW0
  have hf0 : W0.cell? ⟨B, 12, none⟩ = some (.slice fa fs.length fcap) := by rw [hB0.cell (p := ⟨B, 12, none⟩) hB]; exact hfv
  go_cut [] (fun wc => Hid ((ownEx t fs l k s args.length).1 = 0) ∧ Below W0.heap.size W0 wc)
  case first =>
    by_cases h3 : k = 3
    · subst h3
      have how : Hid (ownEx t fs l 3 s args.length = eitherW t l [3, 4] s) := rfl
      by_cases hz : (eitherW t l [3, 4] s).1 = 0
      · have hq : Hid ((ownEx t fs l 3 s args.length).1 = 0) := by show _ = _; rw [how.out]; exact hz
        have HC := Lib.hid (judged_ok (HS.out _ hB0) hz)
        clear hz how
        go_wp2_with (go_at_call 65; refine HC.out.mono ?_; rintro e w1 ⟨rfl, hb⟩)
        go_meet
        exact ⟨hq, below_on1 (Below.refl _ _) (Nat.le_refl _) hb⟩
      · have HC := Lib.hid (judged_bad (HS.out _ hB0) hz)
        have hq : Hid (r = ((eitherW t l [3, 4] s).1, (eitherW t l [3, 4] s).2)) := by show _ = _; rw [hfin.out, how.out, seqW_bad hz]
        have HZ := Lib.hid hz
        clear hz how hfin
        generalize eitherW t l [3, 4] s = p at HC HZ hq
        go_wp2_with (go_at_call 65; refine HC.out.mono ?_; rintro e w1 ⟨rfl, hb⟩)
        exact ⟨rfl, Judged.thrown hq.out HZ.out rfl (hB0.trans ((below_on1 (Below.refl _ _) (Nat.le_refl _) hb).mono hB0.size))⟩
    have e3 : (k == 3) = false := by simpa using h3
    by_cases h7 : k = 7
    · subst h7
      have how : Hid (ownEx t fs l 7 s args.length = ofW t 1 s) := rfl
      by_cases hz : (ofW t 1 s).1 = 0
      · have hq : Hid ((ownEx t fs l 7 s args.length).1 = 0) := by show _ = _; rw [how.out]; exact hz
        have HC := Lib.hid (judged_ok (HO.out 1 _ hB0) hz)
        clear hz how
        go_wp2_with (go_at_call 66; refine HC.out.mono ?_; rintro e w1 ⟨rfl, hb⟩)
        go_meet
        exact ⟨hq, hb⟩
      · have HC := Lib.hid (judged_bad (HO.out 1 _ hB0) hz)
        have hq : Hid (r = ((ofW t 1 s).1, (ofW t 1 s).2)) := by show _ = _; rw [hfin.out, how.out, seqW_bad hz]
        have HZ := Lib.hid hz
        clear hz how hfin
        generalize ofW t 1 s = p at HC HZ hq
        go_wp2_with (go_at_call 66; refine HC.out.mono ?_; rintro e w1 ⟨rfl, hb⟩)
        exact ⟨rfl, Judged.thrown hq.out HZ.out rfl (hB0.trans (hb.mono hB0.size))⟩
    have e7 : (k == 7) = false := by simpa using h7
    by_cases h8 : k = 8
    · subst h8
      have how : Hid (ownEx t fs l 8 s args.length = ofW t 2 s) := rfl
      by_cases hz : (ofW t 2 s).1 = 0
      · have hq : Hid ((ownEx t fs l 8 s args.length).1 = 0) := by show _ = _; rw [how.out]; exact hz
        have HC := Lib.hid (judged_ok (HO.out 2 _ hB0) hz)
        clear hz how
        go_wp2_with (go_at_call 66; refine HC.out.mono ?_; rintro e w1 ⟨rfl, hb⟩)
        go_meet
        exact ⟨hq, hb⟩
      · have HC := Lib.hid (judged_bad (HO.out 2 _ hB0) hz)
        have hq : Hid (r = ((ofW t 2 s).1, (ofW t 2 s).2)) := by show _ = _; rw [hfin.out, how.out, seqW_bad hz]
        have HZ := Lib.hid hz
        clear hz how hfin
        generalize ofW t 2 s = p at HC HZ hq
        go_wp2_with (go_at_call 66; refine HC.out.mono ?_; rintro e w1 ⟨rfl, hb⟩)
        exact ⟨rfl, Judged.thrown hq.out HZ.out rfl (hB0.trans (hb.mono hB0.size))⟩
    have e8 : (k == 8) = false := by simpa using h8
    by_cases h9 : k = 9
    · subst h9
      have how : Hid (ownEx t fs l 9 s args.length = callW t fs s args.length) := rfl
      have hcall := HO.out 6 _ hB0
      unfold ofW at hcall
      unfold callW at how
      obtain ⟨z, er, hze⟩ : ∃ z er, ofN t 6 s = (z, er) := ⟨_, _, rfl⟩
      rw [hze] at hcall how
      simp only at hcall how
      by_cases hz : er = 0
      · subst hz
        obtain ⟨x, hxm, hxk, hxz⟩ := ofN_ok hze
        obtain ⟨hx0, hx1⟩ := (htab x hxm).1 hxk
        rw [hxz] at hx0 hx1
        obtain ⟨j, rfl⟩ : ∃ j : Nat, z = (j : Int) := ⟨z.toNat, by omega⟩
        have hj : j < fs.length := by omega
        obtain ⟨fb, foff, rfl, hFfb, hfel⟩ := hfa (by omega)
        have hpm0 : ∀ W, Below W0.heap.size W0 W → W.cell? ⟨fb, foff + j * 3 + 1, none⟩ = W0.cell? ⟨fb, foff + j * 3 + 1, none⟩ := fun W hW => hW.cell (p := ⟨fb, foff + j * 3 + 1, none⟩) (by show fb < W0.heap.size; have := hF fb hFfb; omega)
        have hpm := Lib.hid hpm0
        clear hpm0
        obtain ⟨cs, ⟨-, v1, v2, rfl, hps, -⟩, -, hcell⟩ := hfel W0 (hB0.block fb (hF fb hFfb)) j hj
        have q1 := hcell 1 _ rfl
        obtain ⟨pa, pc, rfl⟩ := hps.shape
        have HC := Lib.hid (judged_ok hcall rfl)
        have hge : (fs.map (fun f => f.params.length))[(j : Int).toNat]?.getD args.length = fs[j].params.length := by simp [hj]
        rw [if_pos rfl, hge] at how
        clear hcall hfel hcell hze hps hxm hxk hxz hfa
        by_cases hpl : fs[j].params.length = args.length
        · have hq : Hid ((ownEx t fs l 9 s args.length).1 = 0) := by show _ = _; rw [how.out, if_pos hpl]; rfl
          rw [hpl] at q1
          clear how hge hpl
          go_wp2_with (go_at_call 66; refine HC.out.mono ?_; rintro e w1 ⟨rfl, hb⟩; have q2 := (hpm.out w1 hb).trans q1; have hf1 := (hb.cell (p := ⟨B, 12, none⟩) (by show B < W0.heap.size; omega)).trans hf0; have b3' := (hb.cell (p := ⟨w.heap.size, 3, none⟩) (by show w.heap.size < W0.heap.size; omega)).trans b3; have b4' := (hb.cell (p := ⟨w.heap.size, 4, none⟩) (by show w.heap.size < W0.heap.size; omega)).trans b4)
          go_quiet (fail)
          go_wp2_with fail
          go_meet
          exact ⟨hq, below_drewN hb _⟩
        · have hq : Hid (r = (7, s)) := by show _ = _; rw [hfin.out, how.out, if_neg hpl, seqW_bad (by simp)]
          have e7' : (((fs[j].params.length : Nat) : Int) != ((args.length : Nat) : Int)) = true := by simp; omega
          have HPL := Lib.hid hpl
          clear how hge hfin hpl
          generalize fs[j].params.length = pl at q1 e7'
          go_wp2_with (go_at_call 66; refine HC.out.mono ?_; rintro e w1 ⟨rfl, hb⟩; have q2 := (hpm.out w1 hb).trans q1; have hf1 := (hb.cell (p := ⟨B, 12, none⟩) (by show B < W0.heap.size; omega)).trans hf0; have b3' := (hb.cell (p := ⟨w.heap.size, 3, none⟩) (by show w.heap.size < W0.heap.size; omega)).trans b3; have b4' := (hb.cell (p := ⟨w.heap.size, 4, none⟩) (by show w.heap.size < W0.heap.size; omega)).trans b4)
          go_quiet (fail)
          go_wp2_with fail
          exact ⟨rfl, Judged.thrown hq.out (by decide) rfl (hB0.trans ((below_drewN hb _).mono hB0.size))⟩
      · rw [if_neg hz] at hcall how
        have HC := Lib.hid (judged_bad hcall hz)
        have hq : Hid (r = (er, s)) := by show _ = _; rw [hfin.out, how.out, seqW_bad hz]
        have HZ := Lib.hid hz
        clear hz how hfin hcall hze
        go_wp2_with (go_at_call 66; refine HC.out.mono ?_; rintro e w1 ⟨rfl, hb⟩)
        exact ⟨rfl, Judged.thrown hq.out HZ.out rfl (hB0.trans (hb.mono hB0.size))⟩
    have e9 : (k == 9) = false := by simpa using h9
    have hq : Hid ((ownEx t fs l k s args.length).1 = 0) := by
      show _ = _
      unfold ownEx
      rw [if_neg h3, if_neg h7, if_neg h8, if_neg h9]; rfl
    clear h3 h7 h8 h9
    go_wp2_with fail
    go_meet
    exact ⟨hq, Below.refl _ _⟩
  case rest =>
    obtain ⟨hown, hBc⟩ := hcut
    have hfin2 : Hid (r = Ex.kWs t fs l args) := by show _ = _; rw [hfin.out, seqW_fine hown.out]
    have hBw : Below w.heap.size w wc := hB0.trans (hBc.mono hB0.size)
    have b4c := (hBc.cell (p := ⟨w.heap.size, 4, none⟩) hz0).trans b4
    obtain ⟨_, hal, hac, haa⟩ := hargs.opn
    have HIH := Lib.hid (fun (x : Ex) (hx : x ∈ args) (W : World) (cs : List Value) (hW : Below w.heap.size w W) (hrx : RdEx F W x cs) => ih x hx l F W B cs (hF.below hW) (hct.below hF hW) (hcl.below hF hW) (CkF.below ⟨hB, _, hfv, hfr⟩ hF hW) hrx)
    clear hown hfin hcl hct hsl hrow HS HO ih hfa hfv hfr hargs
    go_wp2_with fail
    go_loopw [55] (fun i wr => ∃ kk : Nat, kk ≤ args.length ∧ i = .int .i64 kk ∧ Hid (Ex.kWs t fs l args = Ex.kWs t fs l (args.drop kk)) ∧ Below wc.heap.size wc wr) (fun i _ => args.length - (intOf i).toNat)
    case atStart => exact ⟨0, Nat.zero_le _, rfl, by show _ = _; rw [List.drop_zero], Below.refl _ _⟩
    case round =>
      obtain ⟨kk, hk, rfl, hq, hB⟩ := hrel
      have hBr : Below w.heap.size w wr := hBw.trans (hB.mono hBw.size)
      by_cases hlt : kk < args.length
      · obtain ⟨b, off, rfl, hFb, hel⟩ := haa (by omega)
        obtain ⟨kd', o', n', s', a', m', cap', hx, g0, g1, g2, g3, g4⟩ := hel wr (hBr.block b (hF b hFb)) kk hlt
        have hmem := List.getElem_mem hlt
        have hcall := fun o => HIH.out args[kk] hmem (wr.alloc o) _ (hBr.alloc hBr.size o) ((hx.below hF hBr (Nat.le_refl _)).alloc (hF.below hBr) o)
        have hdk : Ex.kWs t fs l (args.drop kk) = seqW (args[kk].kW t fs l) (Ex.kWs t fs l (args.drop (kk + 1))) := by rw [List.drop_eq_getElem_cons hlt]; rfl
        clear hel haa hx hmem
        by_cases hz : (args[kk].kW t fs l).1 = 0
        · have hnx : Hid (Ex.kWs t fs l args = Ex.kWs t fs l (args.drop (kk + 1))) := by show _ = _; rw [hq.out, hdk, seqW_fine hz]
          have HC := Lib.hid (fun o => judged_ok (hcall o) hz)
          clear hcall hdk hz hq
          go_wp2_with (go_at_call 37; refine (HC.out _).mono ?_; rintro e w1 ⟨rfl, hb⟩)
          go_roundw
          case rel => exact ⟨kk + 1, by omega, by go_num, hnx, below_on1 hB (Nat.le_refl _) hb⟩
          case measure => simp [intOf]; omega
        · have hnx : Hid (r = ((args[kk].kW t fs l).1, (args[kk].kW t fs l).2)) := by show _ = _; rw [hfin2.out, hq.out, hdk, seqW_bad hz]
          have HC := Lib.hid (fun o => judged_bad (hcall o) hz)
          have HZ := Lib.hid hz
          clear hcall hdk hz hq hfin2
          generalize args[kk].kW t fs l = p at HC HZ hnx
          go_wp2_with (go_at_call 37; refine (HC.out _).mono ?_; rintro e w1 ⟨rfl, hb⟩)
          exact ⟨rfl, Judged.thrown hnx.out HZ.out rfl (below_on1 hBr (Nat.le_refl _) hb)⟩
      · have hend : Hid (r = fineW) := by
          show _ = _
          rw [hfin2.out, hq.out, List.drop_eq_nil_of_le (by omega)]; rfl
        clear hq hfin2
        go_wp2_with fail
        go_end0
        exact Judged.fine (by rw [hend.out]; rfl) rfl hBr
end Go.Proofs.YtblhpiebheommaaGreat
/- The walks of clewref16: fine, of, either. -/
namespace Go.Proofs.YtblhpiebheommaaGreat
open Go.RowKit

/-- What is wrong, as a value. -/
def wrongR (p : Int × ByteArray) : Value := .agg #[.int .i64 p.1, .string p.2]
theorem cell_oth (w : World) (a b : Addr) (v : Value) (h : a ≠ b) : (w.setCell a v).cell? b = w.cell? b := by
  apply World.cell?_setCell_other
  exact h
theorem two_set {w0 X : World} {b : Nat} {u0 u1 : Value} (hB : Below w0.heap.size w0 X) (hb : w0.heap.size ≤ b) : Below w0.heap.size w0 ((X.setCell ⟨b, 0, none⟩ u0).setCell ⟨b, 1, none⟩ u1) :=
  (hB.setCell (p := ⟨b, 0, none⟩) hb _).setCell (p := ⟨b, 1, none⟩) hb _
/-- The box of what is wrong. -/
def WrAt (w : World) (B : Nat) (p : Int × ByteArray) : Prop := (w.cell? ⟨B, 0, none⟩ = some (.int .i64 p.1) ∧ w.cell? ⟨B, 1, none⟩ = some (.string p.2)) ∧ w.frozen? ⟨B, 0, none⟩ = false ∧ w.frozen? ⟨B, 1, none⟩ = false
theorem wr_new (W : World) (a : Int) (n : ByteArray) (t : TypeId) : WrAt (W.alloc (.cells #[.int .i64 a, .string n] t)) W.heap.size (a, n) := by
  unfold WrAt
  simp
theorem wr_kept {w w' : World} {B D : Nat} {p : Int × ByteArray} (h : WrAt w B p) (hB : B < D) (hb : Below D w w') : WrAt w' B p := by
  unfold WrAt at h ⊢
  simp only [hb.cell (p := ⟨B, _, none⟩) hB, hb.frozen (p := ⟨B, _, none⟩) hB]
  exact h

set_option maxRecDepth 100000 in
theorem fineR_calls (w : World) : Calls Tryz.prog 52 #[] w (Gives w (wrongR fineW)) := by
  go_enter Tryz.func52, Tryz.ntmps52
  go_wp2
  exact bodyPost_ret (v := wrongR fineW) (by simp [results, Tryz.results52, go_sem, wrongR, fineW]; try rfl) rfl ⟨rfl, (Below.refl _ w).alloc (Nat.le_refl _) _⟩

set_option maxRecDepth 100000 in
set_option maxHeartbeats 1000000 in
theorem ofW_calls (t : List NameD) (kind : Int) (n : ByteArray) (F : Nat → Prop) (w : World) (tv : Value) (hF : Inn F w) (hr : RdNames F w t tv) :
    Calls Tryz.prog 50 #[tv, .int .i64 kind, .string n] w (Gives w (wrongR (ofW t kind n))) := by
  have hf := fun o => ofR_calls t kind n F (w.alloc o) tv (hF.alloc o) (hr.alloc hF o)
  obtain ⟨a, cap, rfl⟩ := hr.shape
  unfold ofW
  generalize ofN t kind n = p at hf ⊢
  obtain ⟨p1, p2⟩ := p
  have HC := Lib.hid hf
  have HW := Lib.hid (wr_new w 0 ⟨#[]⟩ 79)
  have HB := Lib.hid ((Below.refl w.heap.size w).alloc (Nat.le_refl _) (.cells #[.int .i64 0, .string ⟨#[]⟩] 79))
  have HF := Lib.hid fineR_calls
  clear hf hr
  by_cases he : p2 = 0
  · subst he
    rw [if_pos rfl]
    go_enter Tryz.func50, Tryz.ntmps50
    go_upto_region 4 with (go_at_call 51; refine (HC.out _).mono ?_; rintro e w1 ⟨rfl, hb⟩)
    have hfin : Hid (∀ w2, Below w1.heap.size w1 w2 → WrAt w2 w.heap.size (0, ⟨#[]⟩) ∧ Below w.heap.size w w2) := fun w2 hb2 => ⟨wr_kept HW.out (by simp) (hb.trans (hb2.mono hb.size)), HB.out.trans ((hb.trans (hb2.mono hb.size)).mono HB.out.size)⟩
    go_wp2_with (go_at_call 52; refine (HF.out _).mono ?_; rintro e w2 ⟨rfl, hb2⟩; obtain ⟨⟨⟨f0, f1⟩, z0, z1⟩, hbw⟩ := hfin.out w2 hb2; unfold wrongR fineW)
    exact bodyPost_ret (v := wrongR fineW) (by simp [results, Tryz.results50, go_sem, wrongR, fineW, f0, f1]; try rfl) rfl ⟨rfl, two_set hbw (Nat.le_refl _)⟩
  · have e0 : (p2 != 0) = true := by simpa using he
    rw [if_neg he]
    clear he
    go_enter Tryz.func50, Tryz.ntmps50
    go_upto_region 2 with (go_at_call 51; refine (HC.out _).mono ?_; rintro e w1 ⟨rfl, hb⟩)
    obtain ⟨⟨f0, f1⟩, z0, z1⟩ := wr_kept HW.out (by simp) hb
    have hbw := HB.out.trans (hb.mono HB.out.size)
    go_wp2_with fail
    exact bodyPost_ret (v := wrongR (p2, n)) (by simp [results, Tryz.results50, go_sem, wrongR, f0, f1]; try rfl) rfl ⟨rfl, two_set hbw (Nat.le_refl _)⟩
/-- The kinds that a name may be of. -/
def ksOf (things : Bool) : List Int := if things then [3, 4] else [3]

set_option maxRecDepth 100000 in
set_option maxHeartbeats 2000000 in
theorem eitherR_calls (t : List NameD) (l : List ByteArray) (things : Bool) (n : ByteArray) (F : Nat → Prop) (w : World) (tv lv : Value) (hF : Inn F w) (hr : RdNames F w t tv) (hl : RdStrs F w l lv) :
    Calls Tryz.prog 78 #[tv, lv, .bool things, .string n] w (Gives w (wrongR (eitherW t l (ksOf things) n))) := by
  have hB : Below w.heap.size w (w.alloc (.cells #[.int .i64 0, .string ⟨#[]⟩] 79)) := (Below.refl w.heap.size w).alloc (Nat.le_refl _) _
  have HB := Lib.hid hB
  have hfd := findR_calls t n F (w.alloc (.cells #[.int .i64 0, .string ⟨#[]⟩] 79)) tv (hF.alloc _) (hr.alloc hF _)
  have HW := Lib.hid (wr_new w 0 ⟨#[]⟩ 79)
  have HFI := Lib.hid fineR_calls
  obtain ⟨a0, c0, rfl⟩ := hr.shape
  obtain ⟨la, lc, rfl, hll, hlc, hla⟩ := hl.opn
  unfold maxLen at hlc
  have hyes : Hid (n ∈ l → eitherW t l (ksOf things) n = fineW) := fun h => by show _ = _; unfold eitherW; rw [if_pos (dec_true h)]
  have hno : Hid ((∀ i (hi : i < l.length), l[i] ≠ n) → eitherW t l (ksOf things) n = match findN t n with | none => (11, n) | some x => if x.kind ∈ ksOf things then fineW else (12, n)) := fun h => by
    have hm : n ∉ l := fun hm => by
      obtain ⟨i, hi, e⟩ := List.getElem_of_mem hm
      exact h i hi e
    show _ = _
    unfold eitherW
    rw [if_neg (by rw [dec_false hm]; decide)]
    cases findN t n <;> rfl
  generalize eitherW t l (ksOf things) n = r at hyes hno ⊢
  have hfin : Hid (∀ w1 w2, Below (w.alloc (.cells #[.int .i64 0, .string ⟨#[]⟩] 79)).heap.size (w.alloc (.cells #[.int .i64 0, .string ⟨#[]⟩] 79)) w1 → Below w1.heap.size w1 w2 → WrAt w2 w.heap.size (0, ⟨#[]⟩) ∧ Below w.heap.size w w2) := fun w1 w2 hb hb2 => ⟨wr_kept HW.out (by simp) (hb.trans (hb2.mono hb.size)), HB.out.trans ((hb.trans (hb2.mono hb.size)).mono HB.out.size)⟩
  clear hr hl hB
  go_enter Tryz.func78, Tryz.ntmps78
  go_wp2
  go_loop [9] (fun i => ∃ (k : Nat), k ≤ l.length ∧ i = .int .i64 k ∧ Hid (∀ i (hi : i < l.length), i < k → l[i] ≠ n)) (fun i => l.length - (intOf i).toNat)
  case atStart => exact ⟨0, Nat.zero_le _, rfl, fun i _ h => absurd h (by omega)⟩
  case round =>
    obtain ⟨k, hk, rfl, hq⟩ := hrel
    by_cases hlt : k < l.length
    · obtain ⟨b, off, rfl, hFb, hel⟩ := hla (by omega)
      obtain ⟨cs, ⟨h1, rfl⟩, -, hcell⟩ := hel _ (HB.out.block b (hF b hFb)) k hlt
      have g0 := hcell 0 _ rfl
      simp only [Nat.add_zero, Nat.mul_one] at g0
      obtain ⟨x, hx⟩ : ∃ x, x = l[k] := ⟨_, rfl⟩
      rw [← hx] at g0
      have hm : x ∈ l := by rw [hx]; exact List.getElem_mem hlt
      have HX := Lib.hid hx
      clear hel hcell hla h1 hx hfd
      by_cases he : x = n
      · subst he
        have hfn := Lib.hid (hyes.out hm)
        clear hq hyes hno hm
        go_wp2_with (go_at_call 52; refine (HFI.out _).mono ?_; rintro e w2 ⟨rfl, hb2⟩; obtain ⟨⟨⟨f0, f1⟩, z0, z1⟩, hbw⟩ := hfin.out _ w2 (Below.refl _ _) hb2; unfold wrongR fineW)
        exact bodyPost_ret (v := wrongR fineW) (by simp [results, Tryz.results78, go_sem, wrongR, fineW, f0, f1]; try rfl) rfl ⟨by rw [hfn.out], two_set hbw (Nat.le_refl _)⟩
      · have e1 : (x.toList == n.toList) = false := by rw [beq_str]; simpa using he
        have hnx : Hid (∀ i (hi : i < l.length), i < k + 1 → l[i] ≠ n) := fun i hi h => by
          by_cases hik : i = k
          · subst hik; rw [← HX.out]; exact he
          · exact hq.out i hi (by omega)
        clear hq hyes hno he hm
        go_wp2
        go_round
        case rel => exact ⟨k + 1, by omega, by go_num, hnx⟩
        case measure => simp [intOf]; omega
    · have hfn := Lib.hid (hno.out (fun i hi => hq.out i hi (by omega)))
      clear hq hyes hno hla
      cases ho : findN t n with
      | none =>
        rw [ho] at hfd hfn
        have HD := Lib.hid (found_none hfd)
        clear ho hfd
        go_wp2_with (go_at_call 17; refine HD.out.mono ?_; rintro e w1 ⟨rfl, hb⟩; obtain ⟨⟨⟨f0, f1⟩, z0, z1⟩, hbw⟩ := hfin.out w1 (w1.alloc (.cells #[.string ⟨#[]⟩, .int .i64 0, .int .i64 0] 63)) hb ((Below.refl _ _).alloc (Nat.le_refl _) _))
        exact bodyPost_ret (v := wrongR (11, n)) (by simp [results, Tryz.results78, go_sem, wrongR, f0, f1]; try rfl) rfl ⟨by rw [hfn.out], two_set hbw (Nat.le_refl _)⟩
      | some x =>
        rw [ho] at hfd hfn
        have HD := Lib.hid (found_some hfd)
        clear ho hfd
        have hcase : (Hid (r = fineW) ∧ ((x.kind = 3) ∨ ((x.kind != 3) = true ∧ things = true ∧ x.kind = 4))) ∨ (Hid (r = (12, n)) ∧ (x.kind != 3) = true ∧ (things = false ∨ (things = true ∧ (x.kind != 4) = true))) := by
          have hf := hfn.out
          simp only at hf
          by_cases h3 : x.kind = 3
          · exact .inl ⟨by show _ = _; rw [hf, if_pos (by rw [h3]; cases things <;> simp [ksOf])], .inl h3⟩
          · cases things
            · exact .inr ⟨by show _ = _; rw [hf, if_neg (by simp [ksOf, h3])], by simpa using h3, .inl rfl⟩
            · by_cases h4 : x.kind = 4
              · exact .inl ⟨by show _ = _; rw [hf, if_pos (by rw [h4]; simp [ksOf])], .inr ⟨by simpa using h3, rfl, h4⟩⟩
              · exact .inr ⟨by show _ = _; rw [hf, if_neg (by simp [ksOf, h3, h4])], by simpa using h3, .inr ⟨rfl, by simpa using h4⟩⟩
        clear hfn
        obtain ⟨xn, xk, xm⟩ := x
        simp only at hcase HD
        rcases hcase with ⟨hr, hc⟩ | ⟨hr, e3, hc⟩
        · rcases hc with rfl | ⟨e3, rfl, rfl⟩
          all_goals (
            go_wp2_with (first | (go_at_call 17; refine HD.out.mono ?_; rintro e w1 ⟨rfl, hb⟩) | (go_at_call 52; refine (HFI.out _).mono ?_; rintro e w2 ⟨rfl, hb2⟩; obtain ⟨⟨⟨f0, f1⟩, z0, z1⟩, hbw⟩ := hfin.out w1 w2 hb (below_on1 (Below.refl _ _) (Nat.le_refl _) hb2); unfold wrongR fineW))
            exact bodyPost_ret (v := wrongR fineW) (by simp [results, Tryz.results78, go_sem, wrongR, fineW, f0, f1]; try rfl) rfl ⟨by rw [hr.out], two_set hbw (Nat.le_refl _)⟩)
        · rcases hc with rfl | ⟨rfl, e4⟩
          all_goals (
            go_wp2_with (go_at_call 17; refine HD.out.mono ?_; rintro e w1 ⟨rfl, hb⟩; obtain ⟨⟨⟨f0, f1⟩, z0, z1⟩, hbw⟩ := hfin.out w1 (w1.alloc (.cells #[.string xn, .int .i64 xk, .int .i64 xm] 63)) hb ((Below.refl _ _).alloc (Nat.le_refl _) _))
            exact bodyPost_ret (v := wrongR (12, n)) (by simp [results, Tryz.results78, go_sem, wrongR, f0, f1]; try rfl) rfl ⟨by rw [hr.out], two_set hbw (Nat.le_refl _)⟩)
end Go.Proofs.YtblhpiebheommaaGreat
