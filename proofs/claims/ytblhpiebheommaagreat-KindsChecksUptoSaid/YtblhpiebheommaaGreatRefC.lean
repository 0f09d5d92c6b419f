/- The walk of clewref16's object. Printed by gen-refc.py. -/
import Derived.Test.YtblhpiebheommaaGreatKindsChecksPart24
namespace Go.Proofs.YtblhpiebheommaaGreat
open Go.RowKit

theorem seqW_assoc (a b c : Int × ByteArray) : seqW (seqW a b) c = seqW a (seqW b c) := by
  by_cases h : a.1 = 0
  · rw [seqW_fine h, seqW_fine h]
  · rw [seqW_bad h, seqW_bad h, seqW_bad h]
/-- The box of what is wrong so far, what is left to be checked being given. -/
def StgAt (W0 : World) (b : Nat) (q rest : Int × ByteArray) (W : World) : Prop := ∃ p, q = seqW p rest ∧ Clean p ∧ WrAt W b p ∧ Below b W0 W ∧ b < W.heap.size
theorem stg_put {W0 W w3 : World} {b : Nat} {q p p' rest : Int × ByteArray} (hq : q = seqW p' rest) (hc : Clean p') (h : WrAt W b p) (hb : Below b W0 W) (hz : b < W.heap.size) (h3 : Below W.heap.size W w3) : StgAt W0 b q rest ((w3.setCell ⟨b, 0, none⟩ (.int .i64 p'.1)).setCell ⟨b, 1, none⟩ (.string p'.2)) :=
  ⟨p', hq, hc, wr_set p' (wr_kept h hz h3), ((hb.trans (h3.mono (by omega))).setCell (p := ⟨b, 0, none⟩) (Nat.le_refl _) _).setCell (p := ⟨b, 1, none⟩) (Nat.le_refl _) _, by have := h3.size; simp [World.setCell]; omega⟩
theorem clean_words : ∀ l : List ByteArray, Clean (wordsW l)
  | [] => fun _ => rfl
  | x :: r => clean_seq (by split; exact fun _ => rfl; exact fun h => absurd h (show ¬ ((9 : Int) = 0) by decide)) (clean_words r)
theorem clean_room (t : List NameD) (os : List ObjD) (n : ByteArray) : Clean (roomW t os n) := fun h => by
  unfold roomW at h ⊢
  split
  · rename_i h0
    rw [if_pos h0] at h
    split
    · rfl
    · rename_i h1; rw [if_neg h1] at h; exact absurd h (show ¬ ((12 : Int) = 0) by decide)
  · rename_i h0; rw [if_neg h0] at h; exact absurd h h0
theorem clean_exits (t : List NameD) (fs : List FuncD) (os : List ObjD) : ∀ (l seen : List ExitD), Clean (exitsW t fs os seen l)
  | [], _ => fun _ => rfl
  | x :: r, seen => clean_seq (by split; exact fun h => absurd h (show ¬ ((10 : Int) = 0) by decide); exact fun _ => rfl) (clean_seq (clean_room _ _ _) (clean_seq (clean_kWs _ fun e _ => clean_kW _ _ _ e) (clean_exits t fs os r _)))
theorem step_lt {t : List NameD} {fs : List FuncD} {os : List ObjD} (htab : TabOk t fs os.length) (a b : Nat) (h : stepN t os a = some b) : b < os.length := by
  unfold stepN at h
  split at h
  · rename_i he
    cases h
    obtain ⟨z, er, hze⟩ : ∃ z er, ofN t 4 ((os.map ObjD.inn)[a]?.getD ⟨#[]⟩) = (z, er) := ⟨_, _, rfl⟩
    rw [hze] at he ⊢
    simp only at he ⊢
    subst he
    obtain ⟨x, hxm, hxk, hxz⟩ := ofN_ok hze
    obtain ⟨hx0, hx1⟩ := (htab x hxm).2 hxk
    rw [hxz] at hx0 hx1
    omega
  · cases h
theorem inn_eq {t : List NameD} {fs : List FuncD} {os : List ObjD} (htab : TabOk t fs os.length) (hne : (ofN t 4 ⟨#[]⟩).2 ≠ 0) {i : Nat} {o : ObjD} (hi : os[i]? = some o) :
    innW t os i o.inn = seqW (if o.inn = ⟨#[]⟩ then fineW else ofW t 4 o.inn) (if roundN t os i (os.length + 1) i = true then (18, o.inn) else fineW) := by
  obtain ⟨hi1, hi2⟩ := List.getElem?_eq_some_iff.1 hi
  rw [roundN_more t os i hi1 (step_lt htab)]
  unfold innW
  split
  · rename_i he
    have hs : stepN t os i = none := by
      unfold stepN
      rw [if_neg]
      rw [List.getElem?_map, hi]
      simp only [Option.map_some, Option.getD_some, he]
      exact hne
    have : roundN t os i os.length i = false := by
      cases hn : os.length with
      | zero => rfl
      | succ m => unfold roundN; rw [hs]
    rw [this]
    rfl
  · rfl

set_option maxRecDepth 100000 in
set_option maxHeartbeats 8000000 in
theorem objectR_calls (t : List NameD) (s : SrcD) (i : Nat) (o : ObjD) (F : Nat → Prop) (w : World) (tv : Value) (ss : List Value) (hF : Inn F w) (htab : TabOk t s.funcs s.objects.length) (h0 : RdNames F w t tv) (h1 : Holds.src.R F w s ss) (hne : (ofN t 4 ⟨#[]⟩).2 ≠ 0) (hi : s.objects[i]? = some o) (hone : ∀ x ∈ o.exits, x.cond.length ≤ 1) (hsm : s.objects.length ≤ 1000000) :
    Calls Tryz.prog 27 #[tv, .agg ss.toArray, .int .i64 i] w (Gives w (wrongR (objW t s.funcs s.objects i o))) := by
  have hiq := inn_eq htab hne hi
  obtain ⟨hi1, hi2⟩ := List.getElem?_eq_some_iff.1 hi
  have HOF := Lib.hid (fun (kind : Int) (n : ByteArray) (W : World) (hW : Below w.heap.size w W) => ofW_calls t kind n F W tv (hF.below hW) (RdL.below h0 hF hW (Nat.le_refl _)))
  have HTU := Lib.hid (fun (W : World) (hW : Below w.heap.size w W) => turnedR_calls t s i F W tv ss (hF.below hW) htab (RdL.below h0 hF hW (Nat.le_refl _)) (Holds.below _ h1 hF hW (Nat.le_refl _)) hne hi1 hsm)
  have HWD := Lib.hid (fun (l : List ByteArray) (lv : Value) (hr : RdStrs F w l lv) (W : World) (hW : Below w.heap.size w W) => wordsR_calls l F W lv (hF.below hW) (RdL.below hr hF hW (Nat.le_refl _)))
  have HXI := Lib.hid (fun (lv : Value) (hr : RdL Holds.exit 4 F w o.exits lv) (W : World) (hW : Below w.heap.size w W) => exitsR_calls t s o.exits F W tv lv ss (hF.below hW) htab (RdL.below h0 hF hW (Nat.le_refl _)) (Holds.below _ h1 hF hW (Nat.le_refl _)) (RdL.below hr hF hW (Nat.le_refl _)) hone)
  obtain ⟨a0, c0, rfl⟩ := h0.shape
  obtain ⟨a5, c5, a6, c6, a7, c7, a8, c8, a9, c9, a10, c10, a11, c11, a12, c12, rfl, g5, g6, g7, g8, g9, g10, g11, g12⟩ := src_shape h1
  obtain ⟨_, _, he8, hl8, hc8, h8⟩ := g8.opn
  cases he8
  obtain ⟨ob, off, rfl, hFob, hel⟩ := h8 (by omega)
  obtain ⟨cs, ⟨-, -, -, -, v5, v6, v7, v8, v9, rfl, k5, k6, k7, k8, k9⟩, -, hcell⟩ := hel w rfl i hi1
  obtain ⟨d5, f5, rfl⟩ := k5.shape
  obtain ⟨d6, f6, rfl⟩ := k6.shape
  obtain ⟨d7, f7, rfl⟩ := k7.shape
  obtain ⟨d8, f8, rfl⟩ := k8.shape
  obtain ⟨d9, f9, rfl⟩ := k9.shape
  rw [hi2] at hcell k5 k6 k7 k8 k9
  have HF := Lib.hid hF
  have hrow : Hid (∀ W, Below w.heap.size w W → ∀ j (u : Value), ([.string o.name, .string o.title, .string o.inn, .string o.text, .bool o.room, .slice d5 o.words.length f5, .slice d6 o.adjs.length f6, .slice d7 o.flags.length f7, .slice d8 o.props.length f8, .slice d9 o.exits.length f9] : List Value)[j]? = some u → W.cell? ⟨ob, off + i * 10 + j, none⟩ = some u) := fun W hW j u hj => (World.cell?_of_block (w := w) (a := ⟨ob, off + i * 10 + j, none⟩) (hW.block ob (hF ob hFob))).trans (hcell j u hj)
  obtain ⟨q, hq⟩ : ∃ q, objW t s.funcs s.objects i o = q := ⟨_, rfl⟩
  rw [hq]
  obtain ⟨R, hR⟩ : ∃ R, roundN t s.objects i (s.objects.length + 1) i = R := ⟨_, rfl⟩
  rw [hR] at HTU hiq
  have HQ : Hid (q = seqW (if o.inn = ⟨#[]⟩ then fineW else ofW t 4 o.inn) (seqW (if R = true then (18, o.inn) else fineW) (seqW (wordsW o.words) (seqW (wordsW o.adjs) (seqW (ofsW t 1 o.flags) (seqW (ofsW t 2 (o.props.map PairD.name)) (exitsW t s.funcs s.objects [] o.exits))))))) := by
    show _ = _
    rw [← hq, ← seqW_assoc, ← hiq]
    rfl
  have HX9 := Lib.hid (HXI.out _ k9)
  have HW5 := Lib.hid (HWD.out o.words _ k5)
  have HW6 := Lib.hid (HWD.out o.adjs _ k6)
  have K7 := Lib.hid k7
  have K8 := Lib.hid k8
  have HFI := Lib.hid fineR_calls
  have hil : (i : Int) < (s.objects.length : Int) := by omega
  have hi0 : (0 : Int) ≤ (i : Int) := by omega
  have hcap : c8 ≤ 9223372036854775807 := by unfold maxLen at hc8; omega
  have hA : Hid (∃ W0, ((w.alloc (.cells #[.string s.title, .string s.author, .string s.start, .int .i64 s.release, .int .i64 s.most, .slice a5 s.flags.length c5, .slice a6 s.props.length c6, .slice a7 s.globals.length c7, .slice (some ⟨ob, off, none⟩) s.objects.length c8, .slice a9 s.verbs.length c9, .slice a10 s.rules.length c10, .slice a11 s.funcs.length c11, .slice a12 s.daemons.length c12] 29)).alloc (.cells #[.int .i64 0, .string ⟨#[]⟩] 79)) = W0 ∧ Below w.heap.size w W0 ∧ W0.heap.size = w.heap.size + 1 + 1 ∧ BoxAt W0 w.heap.size [.string s.title, .string s.author, .string s.start, .int .i64 s.release, .int .i64 s.most, .slice a5 s.flags.length c5, .slice a6 s.props.length c6, .slice a7 s.globals.length c7, .slice (some ⟨ob, off, none⟩) s.objects.length c8, .slice a9 s.verbs.length c9, .slice a10 s.rules.length c10, .slice a11 s.funcs.length c11, .slice a12 s.daemons.length c12] ∧ WrAt W0 (w.heap.size + 1) (0, ⟨#[]⟩)) := by
    refine ⟨_, rfl, ((Below.refl _ w).alloc (Nat.le_refl _) _).alloc (by simp) _, by simp, ?_, ?_⟩
    · exact (BoxAt.new w [.string s.title, .string s.author, .string s.start, .int .i64 s.release, .int .i64 s.most, .slice a5 s.flags.length c5, .slice a6 s.props.length c6, .slice a7 s.globals.length c7, .slice (some ⟨ob, off, none⟩) s.objects.length c8, .slice a9 s.verbs.length c9, .slice a10 s.rules.length c10, .slice a11 s.funcs.length c11, .slice a12 s.daemons.length c12] 29).below ((Below.refl _ _).alloc (Nat.le_refl _) _) (by simp)
    · have := wr_new (w.alloc (.cells #[.string s.title, .string s.author, .string s.start, .int .i64 s.release, .int .i64 s.most, .slice a5 s.flags.length c5, .slice a6 s.props.length c6, .slice a7 s.globals.length c7, .slice (some ⟨ob, off, none⟩) s.objects.length c8, .slice a9 s.verbs.length c9, .slice a10 s.rules.length c10, .slice a11 s.funcs.length c11, .slice a12 s.daemons.length c12] 29)) 0 ⟨#[]⟩ 79
      rw [show (w.alloc (.cells #[.string s.title, .string s.author, .string s.start, .int .i64 s.release, .int .i64 s.most, .slice a5 s.flags.length c5, .slice a6 s.props.length c6, .slice a7 s.globals.length c7, .slice (some ⟨ob, off, none⟩) s.objects.length c8, .slice a9 s.verbs.length c9, .slice a10 s.rules.length c10, .slice a11 s.funcs.length c11, .slice a12 s.daemons.length c12] 29)).heap.size = w.heap.size + 1 by simp] at this
      exact this
  clear h0 h1 hq hR hiq hF htab g5 g6 g7 g8 g9 g10 g11 g12 hel h8 hc8 hi hi1 hi2 hne hone hcell k5 k6 k7 k8 k9 HWD HXI
  go_enter Tryz.func27, Tryz.ntmps27
  go_upto_region 1 with fail
  obtain ⟨W0, hW0, hB0, hz0, hsb, hwr0⟩ := hA.out
  rw [hW0]
  have HB0 := Lib.hid hB0
  have HZ0 := Lib.hid hz0
  have hE : Hid (∀ W, Below W0.heap.size W0 W → BoxAt W w.heap.size [.string s.title, .string s.author, .string s.start, .int .i64 s.release, .int .i64 s.most, .slice a5 s.flags.length c5, .slice a6 s.props.length c6, .slice a7 s.globals.length c7, .slice (some ⟨ob, off, none⟩) s.objects.length c8, .slice a9 s.verbs.length c9, .slice a10 s.rules.length c10, .slice a11 s.funcs.length c11, .slice a12 s.daemons.length c12] ∧ WrAt W (w.heap.size + 1) (0, ⟨#[]⟩) ∧ Below w.heap.size w W) := fun W hW => ⟨hsb.below hW (by omega), wr_kept hwr0 (by omega) hW, hB0.trans (hW.mono hB0.size)⟩
  clear hA hW0 hB0 hz0 hsb hwr0
  obtain ⟨hbx, -, -⟩ := hE.out W0 (Below.refl _ _)
  have z8 := hbx.2 8 (by simp)
  simp only [List.getElem?_cons_succ, List.getElem?_cons_zero] at z8
  have y0 := hrow.out W0 HB0.out 0 _ rfl
  have y1 := hrow.out W0 HB0.out 1 _ rfl
  have y2 := hrow.out W0 HB0.out 2 _ rfl
  have y3 := hrow.out W0 HB0.out 3 _ rfl
  have y4 := hrow.out W0 HB0.out 4 _ rfl
  have y5 := hrow.out W0 HB0.out 5 _ rfl
  have y6 := hrow.out W0 HB0.out 6 _ rfl
  have y7 := hrow.out W0 HB0.out 7 _ rfl
  have y8 := hrow.out W0 HB0.out 8 _ rfl
  have y9 := hrow.out W0 HB0.out 9 _ rfl
  simp only [Nat.add_zero] at y0
  have hA : Hid (∃ W1 bo, W0.alloc (.cells #[.string o.name, .string o.title, .string o.inn, .string o.text, .bool o.room, .slice d5 o.words.length f5, .slice d6 o.adjs.length f6, .slice d7 o.flags.length f7, .slice d8 o.props.length f8, .slice d9 o.exits.length f9] 41) = W1 ∧ W0.heap.size = bo ∧ Below W0.heap.size W0 W1 ∧ BoxAt W1 bo [.string o.name, .string o.title, .string o.inn, .string o.text, .bool o.room, .slice d5 o.words.length f5, .slice d6 o.adjs.length f6, .slice d7 o.flags.length f7, .slice d8 o.props.length f8, .slice d9 o.exits.length f9]) := ⟨_, _, rfl, rfl, (Below.refl _ W0).alloc (Nat.le_refl _) _, BoxAt.new _ _ _⟩
  clear hbx
  go_upto_region 2 with fail
  obtain ⟨W1, bo, hW1, hbo, hB1, hobj⟩ := hA.out
  rw [hW1]
  simp only [hbo]
  have HB1 := Lib.hid hB1
  have HOBJ := Lib.hid hobj
  clear hA hW1 hbo hobj hB1 y0 y1 y2 y3 y4 y5 y6 y7 y8 y9 z8 hrow
  go_upto_region 3 with (go_at_call 52; refine (HFI.out _).mono ?_; rintro e w1 ⟨rfl, hb1⟩; unfold wrongR fineW)
  have hAb : Hid (∃ wb b8, w1.alloc (.cells #[.int .i64 0, .string ⟨#[]⟩] 79) = wb ∧ w1.heap.size = b8 ∧ Below b8 w1 wb ∧ b8 < wb.heap.size ∧ WrAt wb b8 (0, ⟨#[]⟩)) := ⟨_, _, rfl, rfl, (Below.refl _ _).alloc (Nat.le_refl _) _, by simp, wr_new _ _ _ _⟩
  obtain ⟨wb, b8, hwb, hb8, hBw, hz8, hwr8⟩ := hAb.out
  rw [hwb]
  simp only [hb8]
  have hALL : Hid (∀ W, Below b8 w1 W → BoxAt W w.heap.size [.string s.title, .string s.author, .string s.start, .int .i64 s.release, .int .i64 s.most, .slice a5 s.flags.length c5, .slice a6 s.props.length c6, .slice a7 s.globals.length c7, .slice (some ⟨ob, off, none⟩) s.objects.length c8, .slice a9 s.verbs.length c9, .slice a10 s.rules.length c10, .slice a11 s.funcs.length c11, .slice a12 s.daemons.length c12] ∧ WrAt W (w.heap.size + 1) (0, ⟨#[]⟩) ∧ BoxAt W bo [.string o.name, .string o.title, .string o.inn, .string o.text, .bool o.room, .slice d5 o.words.length f5, .slice d6 o.adjs.length f6, .slice d7 o.flags.length f7, .slice d8 o.props.length f8, .slice d9 o.exits.length f9] ∧ Below w.heap.size w W) := fun W hW => by
    have h1 : Below W1.heap.size W1 W := hb1.trans (hW.mono (by have := hb1.size; omega))
    have h2 : Below W0.heap.size W0 W := HB1.out.trans (h1.mono HB1.out.size)
    exact ⟨(hE.out W h2).1, (hE.out W h2).2.1, HOBJ.out.below h1 HOBJ.out.1, (hE.out W h2).2.2⟩
  have hLE : Hid (w.heap.size + 1 + 1 ≤ b8) := by show _ ≤ _; have h1 := hb1.size; have h2 := HB1.out.size; have h3 := HZ0.out; omega
  have HBW := Lib.hid hBw
  have HZ8 := Lib.hid hz8
  have HWR8 := Lib.hid hwr8
  obtain ⟨-, -, hbo, hbt⟩ := hALL.out wb hBw
  have HBT := Lib.hid hbt
  have y2 := hbo.2 2 (by simp)
  simp only [List.getElem?_cons_succ, List.getElem?_cons_zero] at y2
  clear hAb hwb hb8 hb1 hBw hz8 HB1 HOBJ hbo hbt
  obtain ⟨⟨q0, q1⟩, z0, z1⟩ := hwr8
  go_upto_if 19 with fail
  generalize hbe : (!o.inn.toList.isEmpty) = be
  rw [emp_str] at hbe
  have HBE := Lib.hid hbe
  clear hbe
  have hkp : Hid (∀ w3, Below wb.heap.size wb w3 → WrAt w3 b8 (0, ⟨#[]⟩)) := fun w3 h3 => wr_kept HWR8.out HZ8.out h3
  go_cut [] (fun wc => Hid (StgAt w1 b8 q (seqW (if R = true then (18, o.inn) else fineW) (seqW (wordsW o.words) (seqW (wordsW o.adjs) (seqW (ofsW t 1 o.flags) (seqW (ofsW t 2 (o.props.map PairD.name)) (exitsW t s.funcs s.objects [] o.exits)))))) wc))
  case first =>
    cases be
    · have hin : o.inn = ⟨#[]⟩ := by simpa using HBE.out
      have hnx : Hid (q = seqW (0, ⟨#[]⟩) (seqW (if R = true then (18, o.inn) else fineW) (seqW (wordsW o.words) (seqW (wordsW o.adjs) (seqW (ofsW t 1 o.flags) (seqW (ofsW t 2 (o.props.map PairD.name)) (exitsW t s.funcs s.objects [] o.exits))))))) := by show _ = _; rw [HQ.out, if_pos hin]; rfl
      clear hin HBE
      go_wp2_with fail
      go_meet
      exact ⟨(0, ⟨#[]⟩), hnx.out, fun _ => rfl, HWR8.out, HBW.out, HZ8.out⟩
    · have hin : ¬ o.inn = ⟨#[]⟩ := by simpa using HBE.out
      have hnx : Hid (q = seqW (ofW t 4 o.inn) (seqW (if R = true then (18, o.inn) else fineW) (seqW (wordsW o.words) (seqW (wordsW o.adjs) (seqW (ofsW t 1 o.flags) (seqW (ofsW t 2 (o.props.map PairD.name)) (exitsW t s.funcs s.objects [] o.exits))))))) := by show _ = _; rw [HQ.out, if_neg hin]
      have hc := HOF.out 4 o.inn wb HBT.out
      have hcn := clean_of t 4 o.inn
      generalize ofW t 4 o.inn = p' at hc hcn hnx
      have HC := Lib.hid hc
      have HCN := Lib.hid hcn
      clear hin HBE hc hcn
      go_wp2_with (go_at_call 50; refine (HC.out).mono ?_; rintro e w3 ⟨rfl, hb3⟩; obtain ⟨⟨f0', f1'⟩, s0, s1⟩ := hkp.out w3 hb3; unfold wrongR)
      go_meet
      exact stg_put hnx.out HCN.out HWR8.out HBW.out HZ8.out hb3
  case rest =>
    clear q0 q1 z0 z1 y2 hkp HWR8 HBW HZ8 HBE HQ HBT
    obtain ⟨p, hq, hcl, hwr, hB, hz8⟩ := hcut.out
    have HQ := Lib.hid hq
    have HCL := Lib.hid hcl
    have HWR := Lib.hid hwr
    have HB := Lib.hid hB
    have HZ := Lib.hid hz8
    obtain ⟨⟨q0, q1⟩, z0, z1⟩ := hwr
    obtain ⟨hbx, hrw, hbo, hbt⟩ := hALL.out wc hB
    have HBT := Lib.hid hbt
    have hkp : Hid (∀ w3, Below wc.heap.size wc w3 → WrAt w3 b8 p) := fun w3 h3 => wr_kept HWR.out HZ.out h3
    have x0 := hbx.2 0 (by simp)
    have x1 := hbx.2 1 (by simp)
    have x2 := hbx.2 2 (by simp)
    have x3 := hbx.2 3 (by simp)
    have x4 := hbx.2 4 (by simp)
    have x5 := hbx.2 5 (by simp)
    have x6 := hbx.2 6 (by simp)
    have x7 := hbx.2 7 (by simp)
    have x8 := hbx.2 8 (by simp)
    have x9 := hbx.2 9 (by simp)
    have x10 := hbx.2 10 (by simp)
    have x11 := hbx.2 11 (by simp)
    have x12 := hbx.2 12 (by simp)
    simp only [List.getElem?_cons_succ, List.getElem?_cons_zero] at x0 x1 x2 x3 x4 x5 x6 x7 x8 x9 x10 x11 x12
    clear hcut hq hcl hB hz8 hrw hbt hbx hbo
    have hc := HTU.out wc HBT.out
    have HC := Lib.hid hc
    clear hc
    go_upto_region 5 with fail
    go_cut [32] (fun v wc => Hid (∃ b : Bool, v = .bool b ∧ (q = seqW (if b = true then (18, o.inn) else p) (seqW (wordsW o.words) (seqW (wordsW o.adjs) (seqW (ofsW t 1 o.flags) (seqW (ofsW t 2 (o.props.map PairD.name)) (exitsW t s.funcs s.objects [] o.exits)))))) ∧ (b = true → p.1 = 0) ∧ Clean p ∧ WrAt wc b8 p ∧ Below b8 w1 wc ∧ b8 < wc.heap.size))
    case first =>
      by_cases hz : p.1 = 0
      · have hp1 : (p.1 == 0) = true := by simpa using hz
        have hnx : Hid (q = seqW (if R = true then (18, o.inn) else p) (seqW (wordsW o.words) (seqW (wordsW o.adjs) (seqW (ofsW t 1 o.flags) (seqW (ofsW t 2 (o.props.map PairD.name)) (exitsW t s.funcs s.objects [] o.exits)))))) := by
          show _ = _
          rw [HQ.out, seqW_fine hz]
          cases R
          · rw [HCL.out hz]
          · rfl
        have HZZ := Lib.hid hz
        clear hz
        go_wp2_with (go_at_call 53; refine HC.out.mono ?_; rintro e w3 ⟨rfl, hb3⟩)
        go_meet
        exact ⟨R, rfl, hnx.out, fun _ => HZZ.out, HCL.out, wr_kept HWR.out HZ.out hb3, HB.out.trans (hb3.mono (Nat.le_of_lt HZ.out)), Nat.lt_of_lt_of_le HZ.out hb3.size⟩
      · have hp1 : (p.1 == 0) = false := by simpa using hz
        have hnx : Hid (q = seqW p (seqW (wordsW o.words) (seqW (wordsW o.adjs) (seqW (ofsW t 1 o.flags) (seqW (ofsW t 2 (o.props.map PairD.name)) (exitsW t s.funcs s.objects [] o.exits)))))) := by show _ = _; rw [HQ.out, seqW_bad hz, seqW_bad hz]
        clear hz
        go_wp2_with fail
        go_meet
        exact ⟨false, rfl, hnx.out, fun h => absurd h (by decide), HCL.out, HWR.out, HB.out, HZ.out⟩
    case rest =>
      clear q0 q1 z0 z1 x0 x1 x2 x3 x4 x5 x6 x7 x8 x9 x10 x11 x12 HC hkp HQ HCL HWR HB HZ HBT
      obtain ⟨b, rfl, hq, hbp, hcl, hwr, hB, hz8⟩ := hcut.out
      have HQ := Lib.hid hq
      have HCL := Lib.hid hcl
      have HWR := Lib.hid hwr
      have HB := Lib.hid hB
      have HZ := Lib.hid hz8
      obtain ⟨⟨q0, q1⟩, z0, z1⟩ := hwr
      obtain ⟨-, -, hbo, -⟩ := hALL.out wc hB
      have y2 := hbo.2 2 (by simp)
      simp only [List.getElem?_cons_succ, List.getElem?_cons_zero] at y2
      clear hcut hq hcl hB hz8 hbo hbp
      go_upto_if 32 with fail
      go_cut [] (fun wc => Hid (StgAt w1 b8 q (seqW (wordsW o.words) (seqW (wordsW o.adjs) (seqW (ofsW t 1 o.flags) (seqW (ofsW t 2 (o.props.map PairD.name)) (exitsW t s.funcs s.objects [] o.exits))))) wc))
      case first =>
        cases b
        · go_wp2_with fail
          go_meet
          exact ⟨p, HQ.out, HCL.out, HWR.out, HB.out, HZ.out⟩
        · go_wp2_with fail
          go_meet
          exact stg_put (p' := (18, o.inn)) HQ.out (fun h => absurd h (show ¬ ((18 : Int) = 0) by decide)) HWR.out HB.out HZ.out (Below.refl _ _)
      case rest =>
        clear q0 q1 z0 z1 y2 HQ HCL HWR HB HZ
        obtain ⟨p, hq, hcl, hwr, hB, hz8⟩ := hcut.out
        have HQ := Lib.hid hq
        have HCL := Lib.hid hcl
        have HWR := Lib.hid hwr
        have HB := Lib.hid hB
        have HZ := Lib.hid hz8
        obtain ⟨⟨q0, q1⟩, z0, z1⟩ := hwr
        obtain ⟨hbx, hrw, hbo, hbt⟩ := hALL.out wc hB
        have HBT := Lib.hid hbt
        have hkp : Hid (∀ w3, Below wc.heap.size wc w3 → WrAt w3 b8 p) := fun w3 h3 => wr_kept HWR.out HZ.out h3
        have y5 := hbo.2 5 (by simp)
        simp only [List.getElem?_cons_succ, List.getElem?_cons_zero] at y5
        clear hcut hq hcl hB hz8 hrw hbt hbx hbo
        go_upto_if 38 with fail
        have hc := HW5.out wc HBT.out
        have hcl2 := clean_words o.words
        generalize wordsW o.words = p' at hc hcl2 HQ
        have HC := Lib.hid hc
        have HCL2 := Lib.hid hcl2
        clear hc hcl2
        go_cut [] (fun wc => Hid (StgAt w1 b8 q (seqW (wordsW o.adjs) (seqW (ofsW t 1 o.flags) (seqW (ofsW t 2 (o.props.map PairD.name)) (exitsW t s.funcs s.objects [] o.exits)))) wc))
        case first =>
          by_cases hz : p.1 = 0
          · have hp1 : (p.1 == 0) = true := by simpa using hz
            have hnx : Hid (q = seqW p' (seqW (wordsW o.adjs) (seqW (ofsW t 1 o.flags) (seqW (ofsW t 2 (o.props.map PairD.name)) (exitsW t s.funcs s.objects [] o.exits))))) := by show _ = _; rw [HQ.out, seqW_fine hz]
            clear hz
            go_wp2_with (go_at_call 54; refine (HC.out).mono ?_; rintro e w3 ⟨rfl, hb3⟩; obtain ⟨⟨f0', f1'⟩, s0, s1⟩ := hkp.out w3 hb3; unfold wrongR)
            go_meet
            exact stg_put hnx.out HCL2.out HWR.out HB.out HZ.out hb3
          · have hp1 : (p.1 == 0) = false := by simpa using hz
            have hnx : Hid (q = seqW p (seqW (wordsW o.adjs) (seqW (ofsW t 1 o.flags) (seqW (ofsW t 2 (o.props.map PairD.name)) (exitsW t s.funcs s.objects [] o.exits))))) := by show _ = _; rw [HQ.out, seqW_bad hz, seqW_bad hz]
            clear hz
            go_wp2_with fail
            go_meet
            exact ⟨p, hnx.out, HCL.out, HWR.out, HB.out, HZ.out⟩
        case rest =>
          clear q0 q1 z0 z1 y5 HQ HCL HWR HB HZ HBT hkp HC HCL2
          obtain ⟨p, hq, hcl, hwr, hB, hz8⟩ := hcut.out
          have HQ := Lib.hid hq
          have HCL := Lib.hid hcl
          have HWR := Lib.hid hwr
          have HB := Lib.hid hB
          have HZ := Lib.hid hz8
          obtain ⟨⟨q0, q1⟩, z0, z1⟩ := hwr
          obtain ⟨hbx, hrw, hbo, hbt⟩ := hALL.out wc hB
          have HBT := Lib.hid hbt
          have hkp : Hid (∀ w3, Below wc.heap.size wc w3 → WrAt w3 b8 p) := fun w3 h3 => wr_kept HWR.out HZ.out h3
          have y6 := hbo.2 6 (by simp)
          simp only [List.getElem?_cons_succ, List.getElem?_cons_zero] at y6
          clear hcut hq hcl hB hz8 hrw hbt hbx hbo
          go_upto_if 44 with fail
          have hc := HW6.out wc HBT.out
          have hcl2 := clean_words o.adjs
          generalize wordsW o.adjs = p' at hc hcl2 HQ
          have HC := Lib.hid hc
          have HCL2 := Lib.hid hcl2
          clear hc hcl2
          go_cut [] (fun wc => Hid (StgAt w1 b8 q (seqW (ofsW t 1 o.flags) (seqW (ofsW t 2 (o.props.map PairD.name)) (exitsW t s.funcs s.objects [] o.exits))) wc))
          case first =>
            by_cases hz : p.1 = 0
            · have hp1 : (p.1 == 0) = true := by simpa using hz
              have hnx : Hid (q = seqW p' (seqW (ofsW t 1 o.flags) (seqW (ofsW t 2 (o.props.map PairD.name)) (exitsW t s.funcs s.objects [] o.exits)))) := by show _ = _; rw [HQ.out, seqW_fine hz]
              clear hz
              go_wp2_with (go_at_call 54; refine (HC.out).mono ?_; rintro e w3 ⟨rfl, hb3⟩; obtain ⟨⟨f0', f1'⟩, s0, s1⟩ := hkp.out w3 hb3; unfold wrongR)
              go_meet
              exact stg_put hnx.out HCL2.out HWR.out HB.out HZ.out hb3
            · have hp1 : (p.1 == 0) = false := by simpa using hz
              have hnx : Hid (q = seqW p (seqW (ofsW t 1 o.flags) (seqW (ofsW t 2 (o.props.map PairD.name)) (exitsW t s.funcs s.objects [] o.exits)))) := by show _ = _; rw [HQ.out, seqW_bad hz, seqW_bad hz]
              clear hz
              go_wp2_with fail
              go_meet
              exact ⟨p, hnx.out, HCL.out, HWR.out, HB.out, HZ.out⟩
          case rest =>
            clear q0 q1 z0 z1 y6 HQ HCL HWR HB HZ HBT hkp HC HCL2
            obtain ⟨p, hq, hcl, hwr, hB, hz8⟩ := hcut.out
            have HQ := Lib.hid hq
            have HCL := Lib.hid hcl
            have HWR := Lib.hid hwr
            have HB := Lib.hid hB
            have HZ := Lib.hid hz8
            obtain ⟨⟨q0, q1⟩, z0, z1⟩ := hwr
            obtain ⟨hbx, hrw, hbo, hbt⟩ := hALL.out wc hB
            have HBT := Lib.hid hbt
            have hkp : Hid (∀ w3, Below wc.heap.size wc w3 → WrAt w3 b8 p) := fun w3 h3 => wr_kept HWR.out HZ.out h3
            clear hcut hq hcl hB hz8 hrw hbt hbx hbo
            go_upto_block 0 with fail
            go_cut [] (fun wc => Hid (StgAt w1 b8 q (seqW (ofsW t 2 (o.props.map PairD.name)) (exitsW t s.funcs s.objects [] o.exits)) wc))
            case first =>
              clear q0 q1 z0 z1 hkp
              obtain ⟨wo, rfl⟩ : ∃ x : World, x = wc := ⟨_, rfl⟩
              go_wp2_with fail
              go_loopw [9] (fun j wr => ∃ k : Nat, k ≤ o.flags.length ∧ j = .int .i64 k ∧ Hid (StgAt w1 b8 q (seqW (ofsW t 1 ((o.flags).drop k)) (seqW (ofsW t 2 (o.props.map PairD.name)) (exitsW t s.funcs s.objects [] o.exits))) wr)) (fun j _ => o.flags.length - (intOf j).toNat)
              case atStart => exact ⟨0, Nat.zero_le _, rfl, p, by rw [List.drop_zero]; exact HQ.out, HCL.out, HWR.out, HB.out, HZ.out⟩
              case round =>
                obtain ⟨k, hk, rfl, hinv⟩ := hrel
                obtain ⟨p2, hq2, hcl2, hwr2, hB2, hz2⟩ := hinv.out
                have HQ2 := Lib.hid hq2
                have HCL2 := Lib.hid hcl2
                have HWR2 := Lib.hid hwr2
                have HB2 := Lib.hid hB2
                have HZ2 := Lib.hid hz2
                have hkp : Hid (∀ w3, Below wr.heap.size wr w3 → WrAt w3 b8 p2) := fun w3 h3 => wr_kept HWR2.out HZ2.out h3
                obtain ⟨⟨q0, q1⟩, z0, z1⟩ := hwr2
                obtain ⟨-, -, hbo, hbt⟩ := hALL.out wr hB2
                have y := hbo.2 7 (by simp)
                simp only [List.getElem?_cons_succ, List.getElem?_cons_zero] at y
                by_cases hlt : k < o.flags.length
                · by_cases hz : p2.1 = 0
                  · have hp1 : (p2.1 == 0) = true := by simpa using hz
                    obtain ⟨_, _, he, hl7, hc7, h7⟩ := (K7.out).opn
                    cases he
                    unfold maxLen at hc7
                    obtain ⟨eb, eo, rfl, hFe, hel⟩ := h7 (by omega)
                    obtain ⟨cs, ⟨-, rfl⟩, -, hcell⟩ := hel wr (hbt.block eb (HF.out eb hFe)) k hlt
                    have g0 := hcell 0 _ rfl
                    simp only [Nat.add_zero, Nat.mul_one] at g0
                    clear hel hcell h7
                    have hdk : ofsW t 1 ((o.flags).drop k) = seqW (ofW t 1 o.flags[k]) (ofsW t 1 ((o.flags).drop (k + 1))) := by rw [List.drop_eq_getElem_cons (by simpa using hlt)]; (try rw [List.getElem_map]); rfl
                    have hc := HOF.out 1 o.flags[k] wr hbt
                    have hcn := clean_of t 1 o.flags[k]
                    have hnx : Hid (q = seqW (ofW t 1 o.flags[k]) (seqW (ofsW t 1 ((o.flags).drop (k + 1))) (seqW (ofsW t 2 (o.props.map PairD.name)) (exitsW t s.funcs s.objects [] o.exits)))) := by show _ = _; rw [HQ2.out, seqW_fine hz, hdk, seqW_assoc]
                    generalize o.flags[k] = x at g0 hc hcn hnx
                    generalize ofW t 1 x = p' at hc hcn hnx
                    have HC := Lib.hid hc
                    have HCN := Lib.hid hcn
                    clear hz hdk hc hcn hq2 hcl2 hB2 hz2 hbo hbt hinv
                    go_wp2_with (go_at_call 50; refine (HC.out).mono ?_; rintro e w3 ⟨rfl, hb3⟩; obtain ⟨⟨f0', f1'⟩, s0, s1⟩ := hkp.out w3 hb3; unfold wrongR)
                    go_roundw
                    case rel => exact ⟨k + 1, by omega, by go_num, stg_put hnx.out HCN.out HWR2.out HB2.out HZ2.out hb3⟩
                    case measure => simp [intOf]; omega
                  · have hp1 : (p2.1 == 0) = false := by simpa using hz
                    have hnx : Hid (q = seqW p2 (seqW (ofsW t 2 (o.props.map PairD.name)) (exitsW t s.funcs s.objects [] o.exits))) := by show _ = _; rw [HQ2.out, seqW_bad hz, seqW_bad hz]
                    clear hz hq2 hcl2 hB2 hz2 hbo hbt hinv
                    go_wp2_with fail
                    go_meet
                    exact ⟨p2, hnx.out, HCL2.out, HWR2.out, HB2.out, HZ2.out⟩
                · have hnx : Hid (q = seqW p2 (seqW (ofsW t 2 (o.props.map PairD.name)) (exitsW t s.funcs s.objects [] o.exits))) := by show _ = _; rw [HQ2.out, List.drop_eq_nil_of_le (by (try simp only [List.length_map]); omega)]; rfl
                  clear hq2 hcl2 hB2 hz2 hbo hbt hinv
                  go_wp2_with fail
                  go_meet
                  exact ⟨p2, hnx.out, HCL2.out, HWR2.out, HB2.out, HZ2.out⟩
            case rest =>
              clear q0 q1 z0 z1 HQ HCL HWR HB HZ HBT hkp
              obtain ⟨p, hq, hcl, hwr, hB, hz8⟩ := hcut.out
              have HQ := Lib.hid hq
              have HCL := Lib.hid hcl
              have HWR := Lib.hid hwr
              have HB := Lib.hid hB
              have HZ := Lib.hid hz8
              obtain ⟨⟨q0, q1⟩, z0, z1⟩ := hwr
              obtain ⟨hbx, hrw, hbo, hbt⟩ := hALL.out wc hB
              have HBT := Lib.hid hbt
              have hkp : Hid (∀ w3, Below wc.heap.size wc w3 → WrAt w3 b8 p) := fun w3 h3 => wr_kept HWR.out HZ.out h3
              clear hcut hq hcl hB hz8 hrw hbt hbx hbo
              go_upto_block 2 with fail
              go_cut [] (fun wc => Hid (StgAt w1 b8 q (exitsW t s.funcs s.objects [] o.exits) wc))
              case first =>
                clear q0 q1 z0 z1 hkp
                obtain ⟨wo, rfl⟩ : ∃ x : World, x = wc := ⟨_, rfl⟩
                go_wp2_with fail
                go_loopw [10] (fun j wr => ∃ k : Nat, k ≤ o.props.length ∧ j = .int .i64 k ∧ Hid (StgAt w1 b8 q (seqW (ofsW t 2 ((o.props.map PairD.name).drop k)) (exitsW t s.funcs s.objects [] o.exits)) wr)) (fun j _ => o.props.length - (intOf j).toNat)
                case atStart => exact ⟨0, Nat.zero_le _, rfl, p, by rw [List.drop_zero]; exact HQ.out, HCL.out, HWR.out, HB.out, HZ.out⟩
                case round =>
                  obtain ⟨k, hk, rfl, hinv⟩ := hrel
                  obtain ⟨p2, hq2, hcl2, hwr2, hB2, hz2⟩ := hinv.out
                  have HQ2 := Lib.hid hq2
                  have HCL2 := Lib.hid hcl2
                  have HWR2 := Lib.hid hwr2
                  have HB2 := Lib.hid hB2
                  have HZ2 := Lib.hid hz2
                  have hkp : Hid (∀ w3, Below wr.heap.size wr w3 → WrAt w3 b8 p2) := fun w3 h3 => wr_kept HWR2.out HZ2.out h3
                  obtain ⟨⟨q0, q1⟩, z0, z1⟩ := hwr2
                  obtain ⟨-, -, hbo, hbt⟩ := hALL.out wr hB2
                  have y := hbo.2 8 (by simp)
                  simp only [List.getElem?_cons_succ, List.getElem?_cons_zero] at y
                  by_cases hlt : k < o.props.length
                  · by_cases hz : p2.1 = 0
                    · have hp1 : (p2.1 == 0) = true := by simpa using hz
                      obtain ⟨_, _, he, hl8, hc8, h8⟩ := (K8.out).opn
                      cases he
                      unfold maxLen at hc8
                      obtain ⟨eb, eo, rfl, hFe, hel⟩ := h8 (by omega)
                      obtain ⟨cs, ⟨-, -, rfl⟩, -, hcell⟩ := hel wr (hbt.block eb (HF.out eb hFe)) k hlt
                      have g0 := hcell 0 _ rfl
                      simp only [Nat.add_zero] at g0
                      clear hel hcell h8
                      have hdk : ofsW t 2 ((o.props.map PairD.name).drop k) = seqW (ofW t 2 o.props[k].name) (ofsW t 2 ((o.props.map PairD.name).drop (k + 1))) := by rw [List.drop_eq_getElem_cons (by simpa using hlt)]; (try rw [List.getElem_map]); rfl
                      have hc := HOF.out 2 o.props[k].name wr hbt
                      have hcn := clean_of t 2 o.props[k].name
                      have hnx : Hid (q = seqW (ofW t 2 o.props[k].name) (seqW (ofsW t 2 ((o.props.map PairD.name).drop (k + 1))) (exitsW t s.funcs s.objects [] o.exits))) := by show _ = _; rw [HQ2.out, seqW_fine hz, hdk, seqW_assoc]
                      generalize o.props[k].name = x at g0 hc hcn hnx
                      generalize ofW t 2 x = p' at hc hcn hnx
                      have HC := Lib.hid hc
                      have HCN := Lib.hid hcn
                      clear hz hdk hc hcn hq2 hcl2 hB2 hz2 hbo hbt hinv
                      go_wp2_with (go_at_call 50; refine (HC.out).mono ?_; rintro e w3 ⟨rfl, hb3⟩; obtain ⟨⟨f0', f1'⟩, s0, s1⟩ := hkp.out w3 hb3; unfold wrongR)
                      go_roundw
                      case rel => exact ⟨k + 1, by omega, by go_num, stg_put hnx.out HCN.out HWR2.out HB2.out HZ2.out hb3⟩
                      case measure => simp [intOf]; omega
                    · have hp1 : (p2.1 == 0) = false := by simpa using hz
                      have hnx : Hid (q = seqW p2 (exitsW t s.funcs s.objects [] o.exits)) := by show _ = _; rw [HQ2.out, seqW_bad hz, seqW_bad hz]
                      clear hz hq2 hcl2 hB2 hz2 hbo hbt hinv
                      go_wp2_with fail
                      go_meet
                      exact ⟨p2, hnx.out, HCL2.out, HWR2.out, HB2.out, HZ2.out⟩
                  · have hnx : Hid (q = seqW p2 (exitsW t s.funcs s.objects [] o.exits)) := by show _ = _; rw [HQ2.out, List.drop_eq_nil_of_le (by (try simp only [List.length_map]); omega)]; rfl
                    clear hq2 hcl2 hB2 hz2 hbo hbt hinv
                    go_wp2_with fail
                    go_meet
                    exact ⟨p2, hnx.out, HCL2.out, HWR2.out, HB2.out, HZ2.out⟩
              case rest =>
                clear q0 q1 z0 z1 HQ HCL HWR HB HZ HBT hkp
                obtain ⟨p, hq, hcl, hwr, hB, hz8⟩ := hcut.out
                have HQ := Lib.hid hq
                have HCL := Lib.hid hcl
                have HWR := Lib.hid hwr
                have HB := Lib.hid hB
                have HZ := Lib.hid hz8
                obtain ⟨⟨q0, q1⟩, z0, z1⟩ := hwr
                obtain ⟨hbx, hrw, hbo, hbt⟩ := hALL.out wc hB
                have HBT := Lib.hid hbt
                have hkp : Hid (∀ w3, Below wc.heap.size wc w3 → WrAt w3 b8 p) := fun w3 h3 => wr_kept HWR.out HZ.out h3
                have y9 := hbo.2 9 (by simp)
                simp only [List.getElem?_cons_succ, List.getElem?_cons_zero] at y9
                have x0 := hbx.2 0 (by simp)
                have x1 := hbx.2 1 (by simp)
                have x2 := hbx.2 2 (by simp)
                have x3 := hbx.2 3 (by simp)
                have x4 := hbx.2 4 (by simp)
                have x5 := hbx.2 5 (by simp)
                have x6 := hbx.2 6 (by simp)
                have x7 := hbx.2 7 (by simp)
                have x8 := hbx.2 8 (by simp)
                have x9 := hbx.2 9 (by simp)
                have x10 := hbx.2 10 (by simp)
                have x11 := hbx.2 11 (by simp)
                have x12 := hbx.2 12 (by simp)
                simp only [List.getElem?_cons_succ, List.getElem?_cons_zero] at x0 x1 x2 x3 x4 x5 x6 x7 x8 x9 x10 x11 x12
                clear hcut hq hcl hB hz8 hrw hbt hbx hbo
                go_upto_if 89 with fail
                have hc := HX9.out wc HBT.out
                have hcl2 := clean_exits t s.funcs s.objects o.exits []
                generalize exitsW t s.funcs s.objects [] o.exits = p' at hc hcl2 HQ
                have HC := Lib.hid hc
                have HCL2 := Lib.hid hcl2
                clear hc hcl2
                go_cut [] (fun wc => Hid (StgAt w1 b8 q fineW wc))
                case first =>
                  by_cases hz : p.1 = 0
                  · have hp1 : (p.1 == 0) = true := by simpa using hz
                    have hnx : Hid (q = seqW p' fineW) := by show _ = _; rw [HQ.out, seqW_fine hz]; exact (seqW_idR HCL2.out).symm
                    clear hz
                    go_wp2_with (go_at_call 55; refine (HC.out).mono ?_; rintro e w3 ⟨rfl, hb3⟩; obtain ⟨⟨f0', f1'⟩, s0, s1⟩ := hkp.out w3 hb3; unfold wrongR)
                    go_meet
                    exact stg_put hnx.out HCL2.out HWR.out HB.out HZ.out hb3
                  · have hp1 : (p.1 == 0) = false := by simpa using hz
                    have hnx : Hid (q = seqW p fineW) := by show _ = _; rw [HQ.out, seqW_bad hz, seqW_bad hz]
                    clear hz
                    go_wp2_with fail
                    go_meet
                    exact ⟨p, hnx.out, HCL.out, HWR.out, HB.out, HZ.out⟩
                case rest =>
                  clear q0 q1 z0 z1 y9 x0 x1 x2 x3 x4 x5 x6 x7 x8 x9 x10 x11 x12 HQ HCL HWR HB HZ HBT hkp HC HCL2
                  obtain ⟨p, hq, hcl, hwr, hB, hz8⟩ := hcut.out
                  obtain ⟨⟨q0, q1⟩, z0, z1⟩ := hwr
                  obtain ⟨-, ⟨⟨f0, f1⟩, s0, s1⟩, -, hbt⟩ := hALL.out wc hB
                  have hfin : Hid (q = p) := by show _ = _; rw [hq]; exact seqW_idR hcl
                  have HBT := Lib.hid hbt
                  clear hcut hq hcl hB hz8 hbt
                  go_wp2_with fail
                  exact bodyPost_ret (v := wrongR p) (by simp [results, Tryz.results27, go_sem, wrongR, f0, f1]; try rfl) rfl ⟨by rw [hfin.out], two_set HBT.out (by omega)⟩
end Go.Proofs.YtblhpiebheommaaGreat
