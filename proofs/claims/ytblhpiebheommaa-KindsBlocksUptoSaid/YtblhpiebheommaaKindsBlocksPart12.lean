/- The walk of kinds' checker.expr: what is wrong with an expression is thrown. -/
import Derived.Test.YtblhpiebheommaaKindsBlocksPart11
import Derived.Deep.DeepCutAuto
import Derived.Deep.CutBlock
import Derived.Test.YtblhpiebheommaaKindsBlocksPart10
import Derived.Recover
import Derived.RegionTactic
import Derived.BigRegion
namespace Go.Proofs.Ytblhpiebheommaa
open Go.RowKit

def seqW (a b : Int × ByteArray) : Int × ByteArray := if a.1 = 0 then b else a
theorem seqW_fine {a b : Int × ByteArray} (h : a.1 = 0) : seqW a b = b := if_pos h
theorem seqW_bad {a b : Int × ByteArray} (h : a.1 ≠ 0) : seqW a b = a := if_neg h

/-- What is wrong with a call of a function. -/
def callW (t : List NameD) (fs : List FuncD) (n : ByteArray) (many : Nat) : Int × ByteArray :=
  if (ofN t 6 n).2 = 0 then (if ((fs.map (fun f => f.params.length))[(ofN t 6 n).1.toNat]?.getD many) = many then fineW else (7, n)) else ((ofN t 6 n).2, n)
/-- What is wrong with an expression itself. -/
noncomputable def ownEx (t : List NameD) (fs : List FuncD) (l : List ByteArray) (k : Int) (n : ByteArray) (many : Nat) : Int × ByteArray :=
  if k = 3 then eitherW t l [3, 4] n else if k = 7 then ofW t 1 n else if k = 8 then ofW t 2 n else if k = 9 then callW t fs n many else fineW
mutual
noncomputable def Ex.kW (t : List NameD) (fs : List FuncD) (l : List ByteArray) : Ex → Int × ByteArray
  | .mk k _ _ s args => seqW (ownEx t fs l k s args.length) (Ex.kWs t fs l args)
noncomputable def Ex.kWs (t : List NameD) (fs : List FuncD) (l : List ByteArray) : List Ex → Int × ByteArray
  | [] => fineW
  | e :: es => seqW (e.kW t fs l) (Ex.kWs t fs l es)
end

/-- A table's functions and things are the source's. -/
def TabOk (t : List NameD) (fs : List FuncD) (things : Nat) : Prop := ∀ x ∈ t, (x.kind = 6 → 0 ≤ x.num ∧ x.num < fs.length) ∧ (x.kind = 4 → 2 ≤ x.num ∧ x.num < things + 2)
theorem ofN_ok {t : List NameD} {kind z : Int} {n : ByteArray} (h : ofN t kind n = (z, 0)) : ∃ x ∈ t, x.kind = kind ∧ x.num = z := by
  unfold ofN at h
  cases hf : findN t n with
  | none => rw [hf] at h; simp at h
  | some x =>
    rw [hf] at h
    by_cases hk : x.kind = kind
    · simp [hk] at h; exact ⟨x, (findN_some hf).1, hk, h⟩
    · simp [hk] at h

/-- The checker's cell that holds the functions. -/
def CkF (F : Nat → Prop) (w : World) (B : Nat) (fs : List FuncD) : Prop := B < w.heap.size ∧ ∃ v, w.cell? ⟨B, 12, none⟩ = some v ∧ RdL Holds.fnc 3 F w fs v
theorem CkF.below {F : Nat → Prop} {w w' : World} {B : Nat} {t : List FuncD} (h : CkF F w B t) (hF : Inn F w) (hb : Below w.heap.size w w') : CkF F w' B t := by
  obtain ⟨h1, v, h2, h3⟩ := h
  exact ⟨Nat.lt_of_lt_of_le h1 hb.size, v, by rw [hb.cell (p := ⟨B, 12, none⟩) h1]; exact h2, h3.below hF hb (Nat.le_refl _)⟩

theorem built_ints (w : World) (l : List Int) (hl : l.length ≤ 1000) (h : ∀ x ∈ l, I64 x) : RdL Holds.int 1 (fun b => b = w.heap.size) (w.alloc (.cells (l.map (Value.int .i64)).toArray 3)) l (.slice (some ⟨w.heap.size, 0, none⟩) l.length l.length) := by
  refine ⟨fun i _ => (l.map (Value.int .i64)).getD i undef, ⟨_, _, rfl, Nat.le_refl _, by unfold maxLen; omega, fun _ => ⟨w.heap.size, 0, rfl, rfl, fun i hi j hj => ?_⟩⟩, fun i hi => ⟨h _ (List.getElem_mem hi), ?_⟩⟩
  · have := bx_new w (l.map (Value.int .i64)) 3 _ rfl i (by simpa using hi)
    rw [show 0 + i * 1 + j = i by omega, this]
    show _ = some ((l.map (Value.int .i64)).getD i undef)
    rw [List.getD_eq_getElem?_getD, List.getElem?_eq_getElem (by simpa using hi)]
    rfl
  · simp [rowCells, hi]

def KExC (t : List NameD) (fs : List FuncD) (e : Ex) : Prop := ∀ (l : List ByteArray) (F : Nat → Prop) (w : World) (B : Nat) (cs : List Value), Inn F w → CkT F w B t → CkL F w B l → CkF F w B fs → RdEx F w e cs →
  Calls Try.prog 34 #[.pointer (some ⟨B, 0, none⟩), .agg cs.toArray] w (Judged w (e.kW t fs l) (.tuple #[]))

set_option maxRecDepth 20000 in
set_option maxHeartbeats 4000000 in
theorem kexpr_calls (t : List NameD) (fs : List FuncD) (things : Nat) (hri : Rises t) (ht : t.length ≤ 1000000000000) (htab : TabOk t fs things) : ∀ e, KExC t fs e := by
  refine Ex.ind ?_
  intro k o n s args ih l F w B cs hF hct hcl hcf hr
  obtain ⟨i1, i2, i3, hss, v, c, rfl, hsl, hrow⟩ := hr
  have hargs : Exs F w args v := ⟨c, hsl, hrow⟩
  obtain ⟨a, cap, rfl⟩ := hargs.shape
  have HO := Lib.hid (fun kind W (hW : Below w.heap.size w W) => of_calls t kind s F W B (hF.below hW) (hct.below hF hW) hri ht)
  have HS := Lib.hid (fun (W : World) (hW : Below w.heap.size w W) => stands_calls t l [3, 4] s F (fun b => b = W.heap.size) (W.alloc (.cells #[.int .i64 3, .int .i64 4] 3)) B (.slice (some ⟨W.heap.size, 0, none⟩) 2 2) (hF.below (hW.alloc hW.size _)) (hct.below hF (hW.alloc hW.size _)) (hcl.below hF (hW.alloc hW.size _)) (fun b hb => by subst hb; simp) (built_ints W [3, 4] (by simp) (by simp [I64])) hri ht)
  have hfin : Hid ((Ex.mk k o n s args).kW t fs l = seqW (ownEx t fs l k s args.length) (Ex.kWs t fs l args)) := rfl
  generalize (Ex.mk k o n s args).kW t fs l = r at hfin ⊢
  obtain ⟨hB, fv, hfv, hfr⟩ := hcf
  obtain ⟨fa, fcap, rfl, hfl, hfc, hfa⟩ := hfr.opn
  unfold maxLen at hfc
  have hB0 : Below w.heap.size w (w.alloc (.cells #[.int .i64 k, .int .i64 o, .int .i64 n, .string s, .slice a args.length cap] 32)) := (Below.refl _ w).alloc (Nat.le_refl _) _
  go_enter Try.func34, Try.ntmps34
  go_upto_block 0 with fail
  obtain ⟨W0, hW0⟩ : ∃ W0, (w.alloc (.cells #[.int .i64 k, .int .i64 o, .int .i64 n, .string s, .slice a args.length cap] 32)) = W0 := ⟨_, rfl⟩
  have hz0 : w.heap.size < W0.heap.size := by rw [← hW0]; simp
  have b3 : W0.cell? ⟨w.heap.size, 3, none⟩ = some (.string s) := by rw [← hW0]; simp
  have b4 : W0.cell? ⟨w.heap.size, 4, none⟩ = some (.slice a args.length cap) := by rw [← hW0]; simp
  rw [hW0] at hB0 ⊢
  clear hW0
  have hf0 : W0.cell? ⟨B, 12, none⟩ = some (.slice fa fs.length fcap) := by rw [hB0.cell (p := ⟨B, 12, none⟩) hB]; exact hfv
  go_cut [] (fun wc => Hid ((ownEx t fs l k s args.length).1 = 0) ∧ Below W0.heap.size W0 wc)
  case first =>
    by_cases h3 : k = 3
    · subst h3
      have how : Hid (ownEx t fs l 3 s args.length = eitherW t l [3, 4] s) := rfl
      by_cases hz : (eitherW t l [3, 4] s).1 = 0
      · have hq : Hid ((ownEx t fs l 3 s args.length).1 = 0) := by show _ = _; rw [how.out]; exact hz
        have HC := Lib.hid (judged_ok (HS.out _ hB0) hz)
        clear hz how
        go_wp2_with (go_at_call 57; refine HC.out.mono ?_; rintro e w1 ⟨rfl, hb⟩)
        go_meet
        exact ⟨hq, below_on1 (Below.refl _ _) (Nat.le_refl _) hb⟩
      · have HC := Lib.hid (judged_bad (HS.out _ hB0) hz)
        have hq : Hid (r = ((eitherW t l [3, 4] s).1, (eitherW t l [3, 4] s).2)) := by show _ = _; rw [hfin.out, how.out, seqW_bad hz]
        have HZ := Lib.hid hz
        clear hz how hfin
        generalize eitherW t l [3, 4] s = p at HC HZ hq
        go_wp2_with (go_at_call 57; refine HC.out.mono ?_; rintro e w1 ⟨rfl, hb⟩)
        exact ⟨rfl, Judged.thrown hq.out HZ.out rfl (hB0.trans ((below_on1 (Below.refl _ _) (Nat.le_refl _) hb).mono hB0.size))⟩
    have e3 : (k == 3) = false := by simpa using h3
    by_cases h7 : k = 7
    · subst h7
      have how : Hid (ownEx t fs l 7 s args.length = ofW t 1 s) := rfl
      by_cases hz : (ofW t 1 s).1 = 0
      · have hq : Hid ((ownEx t fs l 7 s args.length).1 = 0) := by show _ = _; rw [how.out]; exact hz
        have HC := Lib.hid (judged_ok (HO.out 1 _ hB0) hz)
        clear hz how
        go_wp2_with (go_at_call 58; refine HC.out.mono ?_; rintro e w1 ⟨rfl, hb⟩)
        go_meet
        exact ⟨hq, hb⟩
      · have HC := Lib.hid (judged_bad (HO.out 1 _ hB0) hz)
        have hq : Hid (r = ((ofW t 1 s).1, (ofW t 1 s).2)) := by show _ = _; rw [hfin.out, how.out, seqW_bad hz]
        have HZ := Lib.hid hz
        clear hz how hfin
        generalize ofW t 1 s = p at HC HZ hq
        go_wp2_with (go_at_call 58; refine HC.out.mono ?_; rintro e w1 ⟨rfl, hb⟩)
        exact ⟨rfl, Judged.thrown hq.out HZ.out rfl (hB0.trans (hb.mono hB0.size))⟩
    have e7 : (k == 7) = false := by simpa using h7
    by_cases h8 : k = 8
    · subst h8
      have how : Hid (ownEx t fs l 8 s args.length = ofW t 2 s) := rfl
      by_cases hz : (ofW t 2 s).1 = 0
      · have hq : Hid ((ownEx t fs l 8 s args.length).1 = 0) := by show _ = _; rw [how.out]; exact hz
        have HC := Lib.hid (judged_ok (HO.out 2 _ hB0) hz)
        clear hz how
        go_wp2_with (go_at_call 58; refine HC.out.mono ?_; rintro e w1 ⟨rfl, hb⟩)
        go_meet
        exact ⟨hq, hb⟩
      · have HC := Lib.hid (judged_bad (HO.out 2 _ hB0) hz)
        have hq : Hid (r = ((ofW t 2 s).1, (ofW t 2 s).2)) := by show _ = _; rw [hfin.out, how.out, seqW_bad hz]
        have HZ := Lib.hid hz
        clear hz how hfin
        generalize ofW t 2 s = p at HC HZ hq
        go_wp2_with (go_at_call 58; refine HC.out.mono ?_; rintro e w1 ⟨rfl, hb⟩)
        exact ⟨rfl, Judged.thrown hq.out HZ.out rfl (hB0.trans (hb.mono hB0.size))⟩
    have e8 : (k == 8) = false := by simpa using h8
    by_cases h9 : k = 9
    · subst h9
      have how : Hid (ownEx t fs l 9 s args.length = callW t fs s args.length) := rfl
      have hcall := HO.out 6 _ hB0
      unfold ofW at hcall
      unfold callW at how
      obtain ⟨z, er, hze⟩ : ∃ z er, ofN t 6 s = (z, er) := ⟨_, _, rfl⟩
      rw [hze] at hcall how
      simp only at hcall how
      by_cases hz : er = 0
      · subst hz
        obtain ⟨x, hxm, hxk, hxz⟩ := ofN_ok hze
        obtain ⟨hx0, hx1⟩ := (htab x hxm).1 hxk
        rw [hxz] at hx0 hx1
        obtain ⟨j, rfl⟩ : ∃ j : Nat, z = (j : Int) := ⟨z.toNat, by omega⟩
        have hj : j < fs.length := by omega
        obtain ⟨fb, foff, rfl, hFfb, hfel⟩ := hfa (by omega)
        have hpm0 : ∀ W, Below W0.heap.size W0 W → W.cell? ⟨fb, foff + j * 3 + 1, none⟩ = W0.cell? ⟨fb, foff + j * 3 + 1, none⟩ := fun W hW => hW.cell (p := ⟨fb, foff + j * 3 + 1, none⟩) (by show fb < W0.heap.size; have := hF fb hFfb; omega)
        have hpm := Lib.hid hpm0
        clear hpm0
        obtain ⟨cs, ⟨-, v1, v2, rfl, hps, -⟩, -, hcell⟩ := hfel W0 (hB0.block fb (hF fb hFfb)) j hj
        have q1 := hcell 1 _ rfl
        obtain ⟨pa, pc, rfl⟩ := hps.shape
        have HC := Lib.hid (judged_ok hcall rfl)
        have hge : (fs.map (fun f => f.params.length))[(j : Int).toNat]?.getD args.length = fs[j].params.length := by simp [hj]
        rw [if_pos rfl, hge] at how
        clear hcall hfel hcell hze hps hxm hxk hxz hfa
        by_cases hpl : fs[j].params.length = args.length
        · have hq : Hid ((ownEx t fs l 9 s args.length).1 = 0) := by show _ = _; rw [how.out, if_pos hpl]; rfl
          rw [hpl] at q1
          clear how hge hpl
          go_wp2_with (go_at_call 58; refine HC.out.mono ?_; rintro e w1 ⟨rfl, hb⟩; have q2 := (hpm.out w1 hb).trans q1; have hf1 := (hb.cell (p := ⟨B, 12, none⟩) (by show B < W0.heap.size; omega)).trans hf0; have b3' := (hb.cell (p := ⟨w.heap.size, 3, none⟩) (by show w.heap.size < W0.heap.size; omega)).trans b3; have b4' := (hb.cell (p := ⟨w.heap.size, 4, none⟩) (by show w.heap.size < W0.heap.size; omega)).trans b4)
          go_quiet (fail)
          go_wp2_with fail
          go_meet
          exact ⟨hq, below_drewN hb _⟩
        · have hq : Hid (r = (7, s)) := by show _ = _; rw [hfin.out, how.out, if_neg hpl, seqW_bad (by simp)]
          have e7' : (((fs[j].params.length : Nat) : Int) != ((args.length : Nat) : Int)) = true := by simp; omega
          have HPL := Lib.hid hpl
          clear how hge hfin hpl
          generalize fs[j].params.length = pl at q1 e7'
          go_wp2_with (go_at_call 58; refine HC.out.mono ?_; rintro e w1 ⟨rfl, hb⟩; have q2 := (hpm.out w1 hb).trans q1; have hf1 := (hb.cell (p := ⟨B, 12, none⟩) (by show B < W0.heap.size; omega)).trans hf0; have b3' := (hb.cell (p := ⟨w.heap.size, 3, none⟩) (by show w.heap.size < W0.heap.size; omega)).trans b3; have b4' := (hb.cell (p := ⟨w.heap.size, 4, none⟩) (by show w.heap.size < W0.heap.size; omega)).trans b4)
          go_quiet (fail)
          go_wp2_with fail
          exact ⟨rfl, Judged.thrown hq.out (by decide) rfl (hB0.trans ((below_drewN hb _).mono hB0.size))⟩
      · rw [if_neg hz] at hcall how
        have HC := Lib.hid (judged_bad hcall hz)
        have hq : Hid (r = (er, s)) := by show _ = _; rw [hfin.out, how.out, seqW_bad hz]
        have HZ := Lib.hid hz
        clear hz how hfin hcall hze
        go_wp2_with (go_at_call 58; refine HC.out.mono ?_; rintro e w1 ⟨rfl, hb⟩)
        exact ⟨rfl, Judged.thrown hq.out HZ.out rfl (hB0.trans (hb.mono hB0.size))⟩
    have e9 : (k == 9) = false := by simpa using h9
    have hq : Hid ((ownEx t fs l k s args.length).1 = 0) := by
      show _ = _
      unfold ownEx
      rw [if_neg h3, if_neg h7, if_neg h8, if_neg h9]; rfl
    clear h3 h7 h8 h9
    go_wp2_with fail
    go_meet
    exact ⟨hq, Below.refl _ _⟩
  case rest =>
    obtain ⟨hown, hBc⟩ := hcut
    have hfin2 : Hid (r = Ex.kWs t fs l args) := by show _ = _; rw [hfin.out, seqW_fine hown.out]
    have hBw : Below w.heap.size w wc := hB0.trans (hBc.mono hB0.size)
    have b4c := (hBc.cell (p := ⟨w.heap.size, 4, none⟩) hz0).trans b4
    obtain ⟨_, hal, hac, haa⟩ := hargs.opn
    have HIH := Lib.hid (fun (x : Ex) (hx : x ∈ args) (W : World) (cs : List Value) (hW : Below w.heap.size w W) (hrx : RdEx F W x cs) => ih x hx l F W B cs (hF.below hW) (hct.below hF hW) (hcl.below hF hW) (CkF.below ⟨hB, _, hfv, hfr⟩ hF hW) hrx)
    clear hown hfin hcl hct hsl hrow HS HO ih hfa hfv hfr hargs
    go_wp2_with fail
    go_loopw [55] (fun i wr => ∃ kk : Nat, kk ≤ args.length ∧ i = .int .i64 kk ∧ Hid (Ex.kWs t fs l args = Ex.kWs t fs l (args.drop kk)) ∧ Below wc.heap.size wc wr) (fun i _ => args.length - (intOf i).toNat)
    case atStart => exact ⟨0, Nat.zero_le _, rfl, by show _ = _; rw [List.drop_zero], Below.refl _ _⟩
    case round =>
      obtain ⟨kk, hk, rfl, hq, hB⟩ := hrel
      have hBr : Below w.heap.size w wr := hBw.trans (hB.mono hBw.size)
      by_cases hlt : kk < args.length
      · obtain ⟨b, off, rfl, hFb, hel⟩ := haa (by omega)
        obtain ⟨kd', o', n', s', a', m', cap', hx, g0, g1, g2, g3, g4⟩ := hel wr (hBr.block b (hF b hFb)) kk hlt
        have hmem := List.getElem_mem hlt
        have hcall := fun o => HIH.out args[kk] hmem (wr.alloc o) _ (hBr.alloc hBr.size o) ((hx.below hF hBr (Nat.le_refl _)).alloc (hF.below hBr) o)
        have hdk : Ex.kWs t fs l (args.drop kk) = seqW (args[kk].kW t fs l) (Ex.kWs t fs l (args.drop (kk + 1))) := by rw [List.drop_eq_getElem_cons hlt]; rfl
        clear hel haa hx hmem
        by_cases hz : (args[kk].kW t fs l).1 = 0
        · have hnx : Hid (Ex.kWs t fs l args = Ex.kWs t fs l (args.drop (kk + 1))) := by show _ = _; rw [hq.out, hdk, seqW_fine hz]
          have HC := Lib.hid (fun o => judged_ok (hcall o) hz)
          clear hcall hdk hz hq
          go_wp2_with (go_at_call 34; refine (HC.out _).mono ?_; rintro e w1 ⟨rfl, hb⟩)
          go_roundw
          case rel => exact ⟨kk + 1, by omega, by go_num, hnx, below_on1 hB (Nat.le_refl _) hb⟩
          case measure => simp [intOf]; omega
        · have hnx : Hid (r = ((args[kk].kW t fs l).1, (args[kk].kW t fs l).2)) := by show _ = _; rw [hfin2.out, hq.out, hdk, seqW_bad hz]
          have HC := Lib.hid (fun o => judged_bad (hcall o) hz)
          have HZ := Lib.hid hz
          clear hcall hdk hz hq hfin2
          generalize args[kk].kW t fs l = p at HC HZ hnx
          go_wp2_with (go_at_call 34; refine (HC.out _).mono ?_; rintro e w1 ⟨rfl, hb⟩)
          exact ⟨rfl, Judged.thrown hnx.out HZ.out rfl (below_on1 hBr (Nat.le_refl _) hb)⟩
      · have hend : Hid (r = fineW) := by
          show _ = _
          rw [hfin2.out, hq.out, List.drop_eq_nil_of_le (by omega)]; rfl
        clear hq hfin2
        go_wp2_with fail
        go_end0
        exact Judged.fine (by rw [hend.out]; rfl) rfl hBr
end Go.Proofs.Ytblhpiebheommaa
/- What a table that Make has made tells: its names fit, its functions and things are the source's. No program in sight. -/
namespace Go.Proofs.Ytblhpiebheommaa
open Go.RowKit

theorem ents_mem {α : Type} (nm : α → ByteArray) (kd pt sh mo : Int) : ∀ (l : List α) (k : Nat) (x : EntD), x ∈ ents nm kd pt sh mo k l → x.kind = kd ∧ x.most = mo ∧ ∃ i : Nat, i < l.length ∧ x.place = ((k + i : Nat) : Int) ∧ x.num = ((k + i : Nat) : Int) + sh
  | [], _, x, h => by cases h
  | a :: l, k, x, h => by
    rcases List.mem_cons.1 h with rfl | h
    · exact ⟨rfl, rfl, 0, by simp, by simp, by simp⟩
    · obtain ⟨h1, h2, i, h3, h4, h5⟩ := ents_mem nm kd pt sh mo l (k + 1) x h
      exact ⟨h1, h2, i + 1, by simp; omega, by rw [h4]; congr 1; omega, by rw [h5]; congr 2; omega⟩

/-- What a source's declaration is. -/
theorem ent_of (s : SrcD) (x : EntD) (h : x ∈ s.ents) : (1 ≤ x.kind ∧ x.kind ≤ 7) ∧ x.most ≤ 126 ∧ (∃ i : Nat, x.place = (i : Int) ∧ ∃ sh : Int, 0 ≤ sh ∧ sh ≤ 4 ∧ x.num = (i : Int) + sh) ∧ (x.kind = 6 → 0 ≤ x.num ∧ x.num < s.funcs.length) ∧ (x.kind = 4 → 2 ≤ x.num ∧ x.num < s.objects.length + 2) := by
  unfold SrcD.ents at h
  simp only [List.mem_append] at h
  rcases h with (((((h | h) | h) | h) | h) | h) | h <;> (obtain ⟨h1, h2, i, h3, h4, h5⟩ := ents_mem _ _ _ _ _ _ _ _ h; refine ⟨by omega, by omega, ⟨i, by omega, x.num - i, by omega, by omega, by omega⟩, fun hk => by omega, fun hk => by omega⟩)

theorem mkT_names : ∀ (l : List EntD) (t u : List NameD), mkT l t = some u → ∀ x ∈ l, IsName x.name
  | [], _, _, _, x, hx => by cases hx
  | y :: l, t, u, h, x, hx => by
    unfold mkT at h
    split at h
    · rename_i hok
      rcases List.mem_cons.1 hx with rfl | hx
      · exact (dec_iff.1 hok).1
      · exact mkT_names l _ u h x hx
    · cases h

theorem made_tab {s : SrcD} {t : List NameD} (h : mkT s.ents namesStart = some t) : TabOk t s.funcs s.objects.length ∧ NamesFit t ∧ Rises t := by
  obtain ⟨h1, h2, h3, h4⟩ := mkT_ok _ _ _ h start_rises
  refine ⟨fun y hy => ?_, fun y hy => ?_, h1⟩
  · rcases h3 y hy with hs | ⟨x, hx, rfl⟩
    · simp only [namesStart, List.mem_cons, List.not_mem_nil, or_false] at hs
      rcases hs with rfl | rfl | rfl | rfl <;> exact ⟨fun h => absurd h (by decide), fun h => absurd h (by decide)⟩
    · obtain ⟨_, _, _, h6, h7⟩ := ent_of s x hx
      exact ⟨h6, h7⟩
  · rcases h3 y hy with hs | ⟨x, hx, rfl⟩
    · simp only [namesStart, List.mem_cons, List.not_mem_nil, or_false] at hs
      rcases hs with rfl | rfl | rfl | rfl <;> exact ⟨by unfold maxLen; decide, by simp only [I64]; omega, by simp only [I64]; omega⟩
    · obtain ⟨h5, h6, ⟨i, h7, sh, h8, h9, h10⟩, _⟩ := ent_of s x hx
      have h11 := h4 x hx
      obtain ⟨_, hn, _⟩ := mkT_names _ _ _ h x hx
      exact ⟨by show x.name.size ≤ maxLen; unfold maxLen; omega, by show I64 x.kind; unfold I64; omega, by show I64 x.num; unfold I64; omega⟩
end Go.Proofs.Ytblhpiebheommaa
/- The walks of kinds' caught, of the closures that it defers and calls, and of kinds.Expr. -/
namespace Go.Proofs.Ytblhpiebheommaa
open Go.RowKit

theorem wrong_asserted (er : Int) (nm : ByteArray) (w : World) : (Instr.typeAssert (.iface 106 (.agg #[.int .i64 er, .string nm])) 20 106 true).run Try.prog w = .ok (.tuple #[.agg #[.int .i64 er, .string nm], .bool true]) w := by kernel_rfl

/-- How the deferred closure ends where something was thrown. -/
def Caught1 (p q : Nat) (er : Int) (nm : ByteArray) (w : World) : Exit → Act → World → Prop
  | .normal, a, w' => a.defers = [] ∧ w'.cell? ⟨p, 0, none⟩ = some (.int .i64 er) ∧ w'.cell? ⟨q, 0, none⟩ = some (.string nm) ∧ ∀ B, B ≤ p → B ≤ q → B ≤ w.heap.size → Below B w w'
  | _, _, _ => False
theorem Caught1.mk {p q : Nat} {er : Int} {nm : ByteArray} {w w' : World} {a : Act} (hd : a.defers = []) (h1 : w'.cell? ⟨p, 0, none⟩ = some (.int .i64 er)) (h2 : w'.cell? ⟨q, 0, none⟩ = some (.string nm)) (h3 : ∀ B, B ≤ p → B ≤ q → B ≤ w.heap.size → Below B w w') : Caught1 p q er nm w .normal a w' := ⟨hd, h1, h2, h3⟩

set_option maxRecDepth 100000 in
set_option maxHeartbeats 1000000 in
theorem caught1_panicking (p q : Nat) (er : Int) (nm : ByteArray) (older : List PanicEntry) (w : World) (hpq : p ≠ q) (hc : w.cell? ⟨p, 0, none⟩ = some (.int .i64 0)) (hz : w.frozen? ⟨p, 0, none⟩ = false) (hd : w.cell? ⟨q, 0, none⟩ = some (.string ⟨#[]⟩)) (hy : w.frozen? ⟨q, 0, none⟩ = false) (hp : p < w.heap.size) (hq : q < w.heap.size) :
    CallsD Try.prog 56 #[.pointer (some ⟨p, 0, none⟩), .pointer (some ⟨q, 0, none⟩)] (.panicking ({ v := .iface 106 (.agg #[.int .i64 er, .string nm]), recovered := false } :: older)) w fun e u' w' =>
      e = .returned (.tuple #[]) ∧ u' = .panicking ({ v := .iface 106 (.agg #[.int .i64 er, .string nm]), recovered := true } :: older) ∧
        w'.cell? ⟨p, 0, none⟩ = some (.int .i64 er) ∧ w'.cell? ⟨q, 0, none⟩ = some (.string nm) ∧ ∀ B, B ≤ p → B ≤ q → B ≤ w.heap.size → Below B w w' := by
  refine callsD_of_wpS Try.func56 rfl fun c₀ cs hu => ?_
  apply wpS_seq
  apply wpS_region
  simp [wpOpsS, go_sem, recoverD, hu, Try.ntmps56, Exit.thenS]
  refine wpS_of_wp ?_
  refine wp_mono (Q := Caught1 p q er nm w) ?_ ?_
  · clear hu
    simp only [Array.replicate_succ, Array.replicate_zero, List.push_toArray, List.setIfInBounds_toArray, List.set_cons_succ, List.set_cons_zero, List.append_toArray, List.nil_append, List.cons_append]
    have hta := wrong_asserted er nm
    go_wp2_with fail
    obtain ⟨W1, hW1⟩ : ∃ W1, w.alloc (.cells #[.int .i64 er, .string nm] 106) = W1 := ⟨_, rfl⟩
    obtain ⟨N, hN⟩ : ∃ N, w.heap.size = N := ⟨_, rfl⟩
    have n0 : W1.cell? ⟨N, 0, none⟩ = some (.int .i64 er) := by rw [← hW1, ← hN]; simp
    have n1 : W1.cell? ⟨N, 1, none⟩ = some (.string nm) := by rw [← hW1, ← hN]; simp
    have c0 : W1.cell? ⟨p, 0, none⟩ = some (.int .i64 0) := by rw [← hW1, World.cell?_of_block (Below.heap_alloc w _ p hp)]; exact hc
    have c1 : W1.cell? ⟨q, 0, none⟩ = some (.string ⟨#[]⟩) := by rw [← hW1, World.cell?_of_block (Below.heap_alloc w _ q hq)]; exact hd
    have z0 : W1.frozen? ⟨p, 0, none⟩ = false := by rw [← hW1, World.frozen?_of_block (Below.heap_alloc w _ p hp)]; exact hz
    have z1 : W1.frozen? ⟨q, 0, none⟩ = false := by rw [← hW1, World.frozen?_of_block (Below.heap_alloc w _ q hq)]; exact hy
    have hBl : ∀ B, B ≤ p → B ≤ q → B ≤ w.heap.size → Below B w W1 := fun B _ _ h => by rw [← hW1]; exact (Below.refl _ _).alloc h _
    have hpN : p ≠ N := by omega
    have hqN : q ≠ N := by omega
    simp only [hN, hW1]
    clear hW1 hc hd hz hy hN hp hq
    go_region
    have hne : ∀ (X : World) (v : Value), (X.setCell ⟨q, 0, none⟩ v).cell? ⟨p, 0, none⟩ = X.cell? ⟨p, 0, none⟩ := fun X v => World.cell?_of_block (Below.heap_setCell X _ v p hpq)
    have hne2 : ∀ (X : World) (v : Value), (X.setCell ⟨p, 0, none⟩ v).cell? ⟨q, 0, none⟩ = X.cell? ⟨q, 0, none⟩ := fun X v => World.cell?_of_block (Below.heap_setCell X _ v q (Ne.symm hpq))
    refine Caught1.mk rfl ?_ ?_ (fun B h1 h2 h3 => ((((hBl B h1 h2 h3).setCell (p := ⟨p, 0, none⟩) h1 _).setCell (p := ⟨q, 0, none⟩) h2 _)).drew)
    · show ((W1.setCell ⟨p, 0, none⟩ (.int .i64 er)).setCell ⟨q, 0, none⟩ (.string nm)).cell? ⟨p, 0, none⟩ = _
      rw [hne]
      exact World.cell?_setCell_same' _ _ _ (by rw [c0]; rfl)
    · show ((W1.setCell ⟨p, 0, none⟩ (.int .i64 er)).setCell ⟨q, 0, none⟩ (.string nm)).cell? ⟨q, 0, none⟩ = _
      exact World.cell?_setCell_same' _ _ _ (by rw [hne2, c1]; rfl)
  · intro e a' w' h
    cases e with
    | normal =>
      obtain ⟨h1, h2, h3, h4⟩ := h
      cases c₀
      simp_all [bodyPostS, results, Try.results56]
    | _ => exact h.elim

theorem caught1_idle (p q : Value) (w : World) : CallsD Try.prog 56 #[p, q] .returning w fun e u' w' => e = .returned (.tuple #[]) ∧ u' = .returning ∧ w' = w := by
  refine callsD_of_wpS Try.func56 rfl fun c₀ cs hu => ?_
  apply wpS_seq
  apply wpS_region
  simp [wpOpsS, go_sem, recoverD, hu, Try.ntmps56, Exit.thenS]
  apply wpS_seq
  apply wpS_region
  simp [wpOpsS, go_sem, Exit.thenS]
  refine wpS_cond (t := false) (by simp [Act.eval, Array.replicate]) ?_
  simp only [Bool.false_eq_true, if_false]
  refine wpS_of_wp (wp_skip ?_)
  cases c₀
  simp_all [bodyPostS, results, Try.results56]

theorem leaves_done {P : Program} {fn : Func} {tmps : Array Value} {R : Ending → World → Prop} {w : World} {v : Value} (h : (results fn tmps).run P w = .ok v w) (hR : R (.returned v) w) : Leaves P fn tmps R [] .returning w := ⟨v, h, hR⟩

theorem caught_read (X : World) (b : Nat) (v v2 : Value) (h : (X.cell? ⟨b, 0, none⟩).isSome = true) (h2 : (X.cell? ⟨b + 1, 0, none⟩).isSome = true) :
    ((X.setCell ⟨b, 0, none⟩ v).setCell ⟨b + 1, 0, none⟩ v2).cell? ⟨b, 0, none⟩ = some v ∧ ((X.setCell ⟨b, 0, none⟩ v).setCell ⟨b + 1, 0, none⟩ v2).cell? ⟨b + 1, 0, none⟩ = some v2 := by
  have hne : ∀ (X : World) (v : Value), (X.setCell ⟨b + 1, 0, none⟩ v).cell? ⟨b, 0, none⟩ = X.cell? ⟨b, 0, none⟩ := fun X v => World.cell?_of_block (Below.heap_setCell X _ v b (by show b ≠ b + 1; omega))
  have hne2 : ∀ (X : World) (v : Value), (X.setCell ⟨b, 0, none⟩ v).cell? ⟨b + 1, 0, none⟩ = X.cell? ⟨b + 1, 0, none⟩ := fun X v => World.cell?_of_block (Below.heap_setCell X _ v (b + 1) (by show b + 1 ≠ b; omega))
  refine ⟨?_, ?_⟩
  · rw [hne]; exact World.cell?_setCell_same' _ _ _ h
  · exact World.cell?_setCell_same' _ _ _ (by rw [hne2]; exact h2)

/-- What caught hands back. -/
def GivesWrong (w : World) (p : Int × ByteArray) (e : Ending) (w' : World) : Prop := ∃ nm : ByteArray, e = .returned (.tuple #[.int .i64 p.1, .string nm]) ∧ (p.1 = 0 → nm = ⟨#[]⟩) ∧ (p.1 ≠ 0 → nm = p.2) ∧ Below w.heap.size w w'

set_option maxRecDepth 100000 in
set_option maxHeartbeats 1000000 in
theorem caught_calls (g : Nat) (caps : Array Value) (p : Int × ByteArray) (w : World) (hen : ∀ w, (callFunc g caps).run Try.prog w = .ok (.enter g caps) w) (H : ∀ W, Below w.heap.size w W → Calls Try.prog g caps W (Judged W p (.tuple #[]))) :
    Calls Try.prog 32 #[.func (.func g) #[] caps] w (GivesWrong w p) := by
  have hmf : ∀ (fn : Fn) (first cap : Array Value) (w : World), (Instr.makeFunc fn first cap).run Try.prog w = .ok (.func fn first cap) w := fun _ _ _ _ => rfl
  have hB0 : Below w.heap.size w ((w.alloc (.cells #[.int .i64 0] 34)).alloc (.cells #[.string ⟨#[]⟩] 9)) := ((Below.refl _ w).alloc (Nat.le_refl _) _).alloc (by simp) _
  by_cases hp : p.1 = 0
  · have HC := Lib.hid (judged_ok (H _ hB0) hp)
    have HP := Lib.hid hp
    clear H hp
    go_enter_defers Try.func32, Try.ntmps32
    go_wp2_with (refine HC.out.mono ?_; rintro e w1 ⟨rfl, hb⟩; obtain ⟨hcl, hfz⟩ := bcell hb)
    have hB1 := below_on hB0 (Nat.le_refl _) hb
    have a0 : w1.cell? ⟨w.heap.size, 0, none⟩ = some (.int .i64 0) := by rw [hcl _ _ (by simp; omega)]; simp
    have a1 : w1.cell? ⟨w.heap.size + 1, 0, none⟩ = some (.string ⟨#[]⟩) := by rw [hcl _ _ (by simp)]; simp
    have f0 := caught_read w1 w.heap.size (.int .i64 0) (.string ⟨#[]⟩) (by rw [a0]; rfl) (by rw [a1]; rfl)
    refine leaves_cons (f := 56) (args := #[.pointer (some ⟨w.heap.size, 0, none⟩), .pointer (some ⟨w.heap.size + 1, 0, none⟩)]) (by simp) (by simp [go_sem]) ?_
    refine (caught1_idle _ _ _).mono ?_
    rintro e u' w'' ⟨rfl, rfl, rfl⟩
    refine leaves_done (v := .tuple #[.int .i64 0, .string ⟨#[]⟩]) ?_ ⟨⟨#[]⟩, by rw [HP.out], fun _ => rfl, fun h => absurd HP.out h, (hB1.setCell (p := ⟨w.heap.size, 0, none⟩) (Nat.le_refl _) _).setCell (p := ⟨w.heap.size + 1, 0, none⟩) (Nat.le_succ _) _⟩
    simp [results, Try.results32, go_sem, f0.1, f0.2]
  · have HC := Lib.hid (judged_bad (H _ hB0) hp)
    have HP := Lib.hid hp
    clear H hp
    go_enter_defers Try.func32, Try.ntmps32
    go_wp2_with (refine HC.out.mono ?_; rintro e w1 ⟨rfl, hb⟩; obtain ⟨hcl, hfz⟩ := bcell hb)
    have hB1 := below_on hB0 (Nat.le_refl _) hb
    have a0 : w1.cell? ⟨w.heap.size, 0, none⟩ = some (.int .i64 0) := by rw [hcl _ _ (by simp; omega)]; simp
    have a1 : w1.cell? ⟨w.heap.size + 1, 0, none⟩ = some (.string ⟨#[]⟩) := by rw [hcl _ _ (by simp)]; simp
    have z0 : w1.frozen? ⟨w.heap.size, 0, none⟩ = false := by rw [hfz _ _ (by simp; omega)]; simp
    have z1 : w1.frozen? ⟨w.heap.size + 1, 0, none⟩ = false := by rw [hfz _ _ (by simp)]; simp
    have hsz := hb.size
    simp only [World.size_alloc] at hsz
    refine leaves_cons (f := 56) (args := #[.pointer (some ⟨w.heap.size, 0, none⟩), .pointer (some ⟨w.heap.size + 1, 0, none⟩)]) (by simp) (by simp [go_sem]) ?_
    refine (caught1_panicking w.heap.size (w.heap.size + 1) p.1 p.2 [] w1 (by omega) a0 z0 a1 z1 (by omega) (by omega)).mono ?_
    rintro e u' w'' ⟨rfl, rfl, h1, h2, h3⟩
    refine leaves_done (v := .tuple #[.int .i64 p.1, .string p.2]) ?_ ⟨p.2, rfl, fun h => absurd h HP.out, fun _ => rfl, hB1.trans (h3 w.heap.size (Nat.le_refl _) (Nat.le_succ _) (by omega))⟩
    simp [results, Try.results32, go_sem, h1, h2]
end Go.Proofs.Ytblhpiebheommaa
