/- The walk of a whole's object. Printed by gen-kinds29.py. -/
import Derived.Test.YtblhpiebheommaaGreatKinds28
import Derived.Deep.DeepCutAuto
import Derived.Deep.CutBlock
namespace Go.Proofs.YtblhpiebheommaaGreat
open Go.RowKit

/-- What is wrong with names of a kind. -/
def ofsW (t : List NameD) (kind : Int) : List ByteArray → Int × ByteArray
  | [] => fineW
  | n :: r => seqW (ofW t kind n) (ofsW t kind r)
/-- What is wrong with an object's exits; those ahead of them. -/
noncomputable def exitsW (t : List NameD) (fs : List FuncD) (os : List ObjD) (seen : List ExitD) : List ExitD → Int × ByteArray
  | [] => fineW
  | x :: r => seqW (if dec (∃ y ∈ seen, y.dir = x.dir) = true then (10, x.to) else fineW) (seqW (roomW t os x.to) (seqW (Ex.kWs t fs [] x.cond) (exitsW t fs os (seen ++ [x]) r)))
/-- What is wrong with what an object is in. -/
def innW (t : List NameD) (os : List ObjD) (i : Nat) (n : ByteArray) : Int × ByteArray :=
  if n = ⟨#[]⟩ then fineW else seqW (ofW t 4 n) (if roundN t os i os.length i = true then (18, n) else fineW)
/-- What is wrong with an object. -/
noncomputable def objW (t : List NameD) (fs : List FuncD) (os : List ObjD) (i : Nat) (o : ObjD) : Int × ByteArray :=
  seqW (innW t os i o.inn) (seqW (wordsW o.words) (seqW (wordsW o.adjs) (seqW (ofsW t 1 o.flags) (seqW (ofsW t 2 (o.props.map PairD.name)) (exitsW t fs os [] o.exits)))))
theorem alloc_cell1 {w : World} {a : Addr} {v : Value} (h : w.cell? a = some v) (o : Obj) : (w.alloc o).cell? a = some v := (World.cell?_of_block (w := w) (a := a) (Below.heap_alloc w o _ (World.block_lt_of_cell? w a h))).trans h
theorem emp_str (a : ByteArray) : a.toList.isEmpty = decide (a = ⟨#[]⟩) := by
  have h : (a.toList == (⟨#[]⟩ : ByteArray).toList) = decide (a = ⟨#[]⟩) := beq_str
  rw [show (⟨#[]⟩ : ByteArray).toList = [] by simp] at h
  rw [← h]
  cases a.toList <;> rfl

set_option maxRecDepth 100000 in
set_option maxHeartbeats 8000000 in
theorem object_calls (t : List NameD) (s : SrcD) (i : Nat) (o : ObjD) (F : Nat → Prop) (w : World) (tv : Value) (ss : List Value) (hF : Inn F w) (hri : Rises t) (ht : t.length ≤ 1000000000000) (htab : TabOk t s.funcs s.objects.length) (h0 : RdNames F w t tv) (h1 : Holds.src.R F w s ss) (hi : s.objects[i]? = some o) :
    Calls Tryz.prog 45 #[.agg (tv :: ss).toArray, .int .i64 i] w (Judged w (objW t s.funcs s.objects i o) (.tuple #[])) := by
  obtain ⟨hi1, hi2⟩ := List.getElem?_eq_some_iff.1 hi
  have HCH := Lib.hid (fun W (hW : Below w.heap.size w W) => checker_calls t s 0 F W tv ss (hF.below hW) (h0.below hF hW (Nat.le_refl _)) (Holds.below _ h1 hF hW (Nat.le_refl _)))
  have HOF := Lib.hid (fun (kind : Int) (n : ByteArray) (W : World) (B : Nat) (v : Value) (hck : Ck F W B t s.funcs 0 0 0 [] v) => of_calls t kind n (FB F W B) W B hck.fin hck.ckt hri ht)
  have HRO := Lib.hid (fun W (hW : Below w.heap.size w W) => round_calls t s i F W tv ss (hF.below hW) hri ht htab (h0.below hF hW (Nat.le_refl _)) (Holds.below _ h1 hF hW (Nat.le_refl _)) hi1)
  have HRM := Lib.hid (fun (n : ByteArray) W (hW : Below w.heap.size w W) => room_calls t s n F W tv ss (hF.below hW) hri ht htab (h0.below hF hW (Nat.le_refl _)) (Holds.below _ h1 hF hW (Nat.le_refl _)))
  have HWN := Lib.hid (fun (l : List Ex) (lv : Value) (hr : Exs F w l lv) W (hW : Below w.heap.size w W) => when_calls t s l F W tv lv ss (hF.below hW) hri ht htab (h0.below hF hW (Nat.le_refl _)) (Holds.below _ h1 hF hW (Nat.le_refl _)) (Exs.below hr hF hW (Nat.le_refl _)))
  have HWD := Lib.hid (fun (l : List ByteArray) (lv : Value) (hr : RdStrs F w l lv) W (hW : Below w.heap.size w W) => words_calls l F W lv (hF.below hW) (RdL.below hr hF hW (Nat.le_refl _)))
  obtain ⟨a0, c0, rfl⟩ := h0.shape
  obtain ⟨a5, c5, a6, c6, a7, c7, a8, c8, a9, c9, a10, c10, a11, c11, a12, c12, rfl, g5, g6, g7, g8, g9, g10, g11, g12⟩ := src_shape h1
  obtain ⟨_, _, he8, hl8, hc8, h8⟩ := g8.opn
  cases he8
  obtain ⟨ob, off, rfl, hFob, hel⟩ := h8 (by omega)
  obtain ⟨cs, ⟨-, -, -, -, v5, v6, v7, v8, v9, rfl, k5, k6, k7, k8, k9⟩, -, hcell⟩ := hel w rfl i hi1
  obtain ⟨d5, f5, rfl⟩ := k5.shape
  obtain ⟨d6, f6, rfl⟩ := k6.shape
  obtain ⟨d7, f7, rfl⟩ := k7.shape
  obtain ⟨d8, f8, rfl⟩ := k8.shape
  obtain ⟨d9, f9, rfl⟩ := k9.shape
  rw [hi2] at hcell k5 k6 k7 k8 k9
  have HF := Lib.hid hF
  have hrow : Hid (∀ W, Below w.heap.size w W → ∀ j (u : Value), ([.string o.name, .string o.title, .string o.inn, .string o.text, .bool o.room, .slice d5 o.words.length f5, .slice d6 o.adjs.length f6, .slice d7 o.flags.length f7, .slice d8 o.props.length f8, .slice d9 o.exits.length f9] : List Value)[j]? = some u → W.cell? ⟨ob, off + i * 10 + j, none⟩ = some u) := fun W hW j u hj => (World.cell?_of_block (w := w) (a := ⟨ob, off + i * 10 + j, none⟩) (hW.block ob (hF ob hFob))).trans (hcell j u hj)
  obtain ⟨q, hq⟩ : ∃ q, objW t s.funcs s.objects i o = q := ⟨_, rfl⟩
  rw [hq]
  have HQ : Hid (q = seqW (innW t s.objects i o.inn) (seqW (wordsW o.words) (seqW (wordsW o.adjs) (seqW (ofsW t 1 o.flags) (seqW (ofsW t 2 (o.props.map PairD.name)) (exitsW t s.funcs s.objects [] o.exits)))))) := hq.symm
  have K5 := Lib.hid k5
  have K6 := Lib.hid k6
  have K7 := Lib.hid k7
  have K8 := Lib.hid k8
  have K9 := Lib.hid k9
  have hil : (i : Int) < (s.objects.length : Int) := by omega
  have hi0 : (0 : Int) ≤ (i : Int) := by omega
  have hcap : c8 ≤ 9223372036854775807 := by unfold maxLen at hc8; omega
  have hA : Hid (∃ W0, w.alloc (.cells #[.slice a0 t.length c0, .string s.title, .string s.author, .string s.start, .int .i64 s.release, .int .i64 s.most, .slice a5 s.flags.length c5, .slice a6 s.props.length c6, .slice a7 s.globals.length c7, .slice (some ⟨ob, off, none⟩) s.objects.length c8, .slice a9 s.verbs.length c9, .slice a10 s.rules.length c10, .slice a11 s.funcs.length c11, .slice a12 s.daemons.length c12] 73) = W0 ∧ Below w.heap.size w W0 ∧ BoxAt W0 w.heap.size [.slice a0 t.length c0, .string s.title, .string s.author, .string s.start, .int .i64 s.release, .int .i64 s.most, .slice a5 s.flags.length c5, .slice a6 s.props.length c6, .slice a7 s.globals.length c7, .slice (some ⟨ob, off, none⟩) s.objects.length c8, .slice a9 s.verbs.length c9, .slice a10 s.rules.length c10, .slice a11 s.funcs.length c11, .slice a12 s.daemons.length c12] ∧ w.heap.size < W0.heap.size) := ⟨_, rfl, (Below.refl _ w).alloc (Nat.le_refl _) _, BoxAt.new _ _ _, by simp⟩
  clear h0 h1 hq hF htab hri g5 g6 g7 g8 g9 g10 g11 g12 hel h8 hc8 hi hi1 hi2 ht hcell k5 k6 k7 k8 k9
  go_enter Tryz.func45, Tryz.ntmps45
  go_upto_region 1 with fail
  obtain ⟨W0, hW0, hB0, hbox, hz0⟩ := hA.out
  rw [hW0]
  have HB0 := Lib.hid hB0
  have HBOX := Lib.hid hbox
  clear hA hW0 hB0 hbox
  have z9 := HBOX.out.2 9 (by simp)
  simp only [List.getElem?_cons_succ, List.getElem?_cons_zero] at z9
  have y0 := hrow.out W0 HB0.out 0 _ rfl
  have y1 := hrow.out W0 HB0.out 1 _ rfl
  have y2 := hrow.out W0 HB0.out 2 _ rfl
  have y3 := hrow.out W0 HB0.out 3 _ rfl
  have y4 := hrow.out W0 HB0.out 4 _ rfl
  have y5 := hrow.out W0 HB0.out 5 _ rfl
  have y6 := hrow.out W0 HB0.out 6 _ rfl
  have y7 := hrow.out W0 HB0.out 7 _ rfl
  have y8 := hrow.out W0 HB0.out 8 _ rfl
  have y9 := hrow.out W0 HB0.out 9 _ rfl
  simp only [Nat.add_zero] at y0
  have hA : Hid (∃ W1 bo, W0.alloc (.cells #[.string o.name, .string o.title, .string o.inn, .string o.text, .bool o.room, .slice d5 o.words.length f5, .slice d6 o.adjs.length f6, .slice d7 o.flags.length f7, .slice d8 o.props.length f8, .slice d9 o.exits.length f9] 41) = W1 ∧ W0.heap.size = bo ∧ Below W0.heap.size W0 W1 ∧ BoxAt W1 bo [.string o.name, .string o.title, .string o.inn, .string o.text, .bool o.room, .slice d5 o.words.length f5, .slice d6 o.adjs.length f6, .slice d7 o.flags.length f7, .slice d8 o.props.length f8, .slice d9 o.exits.length f9]) := ⟨_, _, rfl, rfl, (Below.refl _ W0).alloc (Nat.le_refl _) _, BoxAt.new _ _ _⟩
  go_upto_region 2 with fail
  obtain ⟨W1, bo, hW1, hbo, hB1, hobj⟩ := hA.out
  rw [hW1]
  simp only [hbo]
  have HB1 := Lib.hid (HB0.out.trans (hB1.mono HB0.out.size))
  have HBX1 := Lib.hid (HBOX.out.below hB1 HBOX.out.1)
  have HOBJ := Lib.hid hobj
  clear hA hW1 hbo hobj hB1 y0 y1 y2 y3 y4 y5 y6 y7 y8 y9 z9 HBOX hrow
  have y2 := HOBJ.out.2 2 (by simp)
  simp only [List.getElem?_cons_succ, List.getElem?_cons_zero] at y2
  go_upto_if 21 with fail
  have hALL : Hid (∀ W, Below W1.heap.size W1 W → BoxAt W w.heap.size [.slice a0 t.length c0, .string s.title, .string s.author, .string s.start, .int .i64 s.release, .int .i64 s.most, .slice a5 s.flags.length c5, .slice a6 s.props.length c6, .slice a7 s.globals.length c7, .slice (some ⟨ob, off, none⟩) s.objects.length c8, .slice a9 s.verbs.length c9, .slice a10 s.rules.length c10, .slice a11 s.funcs.length c11, .slice a12 s.daemons.length c12] ∧ BoxAt W bo [.string o.name, .string o.title, .string o.inn, .string o.text, .bool o.room, .slice d5 o.words.length f5, .slice d6 o.adjs.length f6, .slice d7 o.flags.length f7, .slice d8 o.props.length f8, .slice d9 o.exits.length f9] ∧ Below w.heap.size w W) := fun W hW => ⟨HBX1.out.below hW HBX1.out.1, HOBJ.out.below hW HOBJ.out.1, HB1.out.trans (hW.mono HB1.out.size)⟩
  generalize hbe : (!o.inn.toList.isEmpty) = be
  rw [emp_str] at hbe
  have HBE := Lib.hid hbe
  clear hbe
  go_cut [] (fun wc => Hid (q = (seqW (wordsW o.words) (seqW (wordsW o.adjs) (seqW (ofsW t 1 o.flags) (seqW (ofsW t 2 (o.props.map PairD.name)) (exitsW t s.funcs s.objects [] o.exits))))) ∧ Below W1.heap.size W1 wc))
  case first =>
    cases be
    · have hin : o.inn = ⟨#[]⟩ := by simpa using HBE.out
      clear HBE
      have hfin : Hid (q = (seqW (wordsW o.words) (seqW (wordsW o.adjs) (seqW (ofsW t 1 o.flags) (seqW (ofsW t 2 (o.props.map PairD.name)) (exitsW t s.funcs s.objects [] o.exits))))) ∧ Below W1.heap.size W1 W1) := ⟨by rw [HQ.out]; unfold innW; rw [if_pos hin]; exact seqW_fine rfl, Below.refl _ _⟩
      clear hin
      go_wp2_with fail
      go_meet
      exact hfin.out
    · have hin : ¬ o.inn = ⟨#[]⟩ := by simpa using HBE.out
      clear HBE
      obtain ⟨R, hR⟩ : ∃ R, roundN t s.objects i s.objects.length i = R := ⟨_, rfl⟩
      have HQ2 : Hid (q = seqW (seqW (ofW t 4 o.inn) (if R = true then (18, o.inn) else fineW)) (seqW (wordsW o.words) (seqW (wordsW o.adjs) (seqW (ofsW t 1 o.flags) (seqW (ofsW t 2 (o.props.map PairD.name)) (exitsW t s.funcs s.objects [] o.exits)))))) := by show _ = _; rw [HQ.out]; unfold innW; rw [if_neg hin, hR]
      have hcf := fun (W : World) (B : Nat) (v : Value) (hck : Ck F W B t s.funcs 0 0 0 [] v) => HOF.out 4 o.inn W B v hck
      rw [hR] at HRO
      obtain ⟨nm, hnm⟩ : ∃ nm, o.inn = nm := ⟨_, rfl⟩
      obtain ⟨z1, hz1⟩ : ∃ z1, (ofN t 4 nm).1 = z1 := ⟨_, rfl⟩
      rw [hnm, hz1] at hcf
      have HNM := Lib.hid hnm
      generalize hp4 : ofW t 4 o.inn = p at HQ2
      rw [hnm] at hp4
      rw [hp4] at hcf
      have HCF := Lib.hid hcf
      clear hcf hR hin hp4 hnm hz1
      go_upto_region 3 with fail
      refine wp_region_held_drew (S := fun W => Below W1.heap.size W1 W) (by kernel_rfl) (Below.refl _ _).drew (fun hHeld => ?_)
      refine wpAnyH_take (i := 0) (v := .agg #[.slice a0 t.length c0, .string s.title, .string s.author, .string s.start, .int .i64 s.release, .int .i64 s.most, .slice a5 s.flags.length c5, .slice a6 s.props.length c6, .slice a7 s.globals.length c7, .slice (some ⟨ob, off, none⟩) s.objects.length c8, .slice a9 s.verbs.length c9, .slice a10 s.rules.length c10, .slice a11 s.funcs.length c11, .slice a12 s.daemons.length c12]) rfl (by kernel_rfl) (by kernel_rfl) (by kernel_rfl) (fun _ _ _ h => h) (Or.inl ⟨by rfl, ?_⟩) (by assumption) ?_
      · intro W hW
        obtain ⟨hb, -, -⟩ := hALL.out W hW
        have x0 := hb.2 0 (by simp)
        have x1 := hb.2 1 (by simp)
        have x2 := hb.2 2 (by simp)
        have x3 := hb.2 3 (by simp)
        have x4 := hb.2 4 (by simp)
        have x5 := hb.2 5 (by simp)
        have x6 := hb.2 6 (by simp)
        have x7 := hb.2 7 (by simp)
        have x8 := hb.2 8 (by simp)
        have x9 := hb.2 9 (by simp)
        have x10 := hb.2 10 (by simp)
        have x11 := hb.2 11 (by simp)
        have x12 := hb.2 12 (by simp)
        have x13 := hb.2 13 (by simp)
        simp only [List.getElem?_cons_succ, List.getElem?_cons_zero] at x0 x1 x2 x3 x4 x5 x6 x7 x8 x9 x10 x11 x12 x13
        go_simp
      simp only [Act.put]
      refine wpAnyH_take (i := 2) (v := .pointer (some ⟨bo, 2, none⟩)) rfl (by kernel_rfl) (by kernel_rfl) (by kernel_rfl) (fun _ _ _ h => h) (Or.inl ⟨by rfl, ?_⟩) (by assumption) ?_
      · intro W hW
        go_simp
      simp only [Act.put]
      refine wpAnyH_take (i := 3) (v := .string nm) rfl (by kernel_rfl) (by kernel_rfl) (by kernel_rfl) (fun _ _ _ h => h) (Or.inl ⟨by rfl, ?_⟩) (by assumption) ?_
      · intro W hW
        obtain ⟨-, hb, -⟩ := hALL.out W hW
        have y := hb.2 2 (by simp)
        simp only [List.getElem?_cons_succ, List.getElem?_cons_zero, HNM.out] at y
        go_simp
      simp only [Act.put]
      refine wpAnyH_ready (rs := [1]) (by kernel_rfl) (by simp) ?_
      refine AllReadyH.cons rfl (fun K hK => ?_) AllReadyH.nil
      go_simp
      refine (HCH.out _ (HB1.out).drew).mono ?_
      rintro e w1 ⟨B, rfl, hB, hck, hb⟩
      have hb1 : Below W1.heap.size W1 w1 := (Below.refl _ W1).drew.trans hb
      refine hK.out _ _ hb1 (fun hHeld => ?_)
      clear hK K
      refine wpAnyH_ready (rs := [4]) (by kernel_rfl) (by simp) ?_
      refine AllReadyH.cons rfl (fun K hK => ?_) AllReadyH.nil
      go_simp
      by_cases hz : p.1 = 0
      · refine (judged_ok (HCF.out w1 B _ hck) hz).mono ?_
        rintro e w2 ⟨rfl, hb2⟩
        have hb2x : Below W1.heap.size W1 w2 := hb1.trans (hb2.mono hb1.size)
        refine hK.out _ _ hb2x (fun hHeld => ?_)
        clear hK K
        refine wpAnyH_done (by kernel_rfl) ?_ _
        obtain ⟨hbw, hbo2, hbt⟩ := hALL.out w2 hb2x
        have x0 := hbw.2 0 (by simp)
        have x1 := hbw.2 1 (by simp)
        have x2 := hbw.2 2 (by simp)
        have x3 := hbw.2 3 (by simp)
        have x4 := hbw.2 4 (by simp)
        have x5 := hbw.2 5 (by simp)
        have x6 := hbw.2 6 (by simp)
        have x7 := hbw.2 7 (by simp)
        have x8 := hbw.2 8 (by simp)
        have x9 := hbw.2 9 (by simp)
        have x10 := hbw.2 10 (by simp)
        have x11 := hbw.2 11 (by simp)
        have x12 := hbw.2 12 (by simp)
        have x13 := hbw.2 13 (by simp)
        simp only [List.getElem?_cons_succ, List.getElem?_cons_zero] at x0 x1 x2 x3 x4 x5 x6 x7 x8 x9 x10 x11 x12 x13
        have HB2 := Lib.hid hb2x
        cases R
        · have hfin : Hid (q = (seqW (wordsW o.words) (seqW (wordsW o.adjs) (seqW (ofsW t 1 o.flags) (seqW (ofsW t 2 (o.props.map PairD.name)) (exitsW t s.funcs s.objects [] o.exits)))))) := by show _ = _; rw [HQ2.out, seqW_fine (by rw [seqW_fine hz]; rfl)]
          have hcr := Lib.hid (HRO.out w2 hbt)
          clear hbw hbo2 hbt hb hb1 hb2 hb2x hck hz HQ2 y2
          go_wp2_with (go_at_call 70; refine hcr.out.mono ?_; rintro e w3 ⟨rfl, hb3⟩)
          go_meet
          exact ⟨hfin.out, HB2.out.trans (hb3.mono HB2.out.size)⟩
        · have hfin : Hid (q = (18, nm)) := by show _ = _; rw [HQ2.out, seqW_fine hz, HNM.out]; exact seqW_bad (show ¬ ((18 : Int) = 0) by decide)
          have hcr := Lib.hid (HRO.out w2 hbt)
          clear hbw hbo2 hbt hb hb1 hb2 hb2x hck hz HQ2 y2
          go_wp2_with (go_at_call 70; refine hcr.out.mono ?_; rintro e w3 ⟨rfl, hb3⟩; obtain ⟨-, hb3o, hb3t⟩ := hALL.out w3 (HB2.out.trans (hb3.mono HB2.out.size)); have y2 := hb3o.2 2 (by simp); simp only [List.getElem?_cons_succ, List.getElem?_cons_zero, HNM.out] at y2)
          exact ⟨rfl, Judged.thrown hfin.out (by decide) rfl hb3t⟩
      · refine (judged_bad (HCF.out w1 B _ hck) hz).mono ?_
        rintro e w2 ⟨rfl, hb2⟩
        have hb2x : Below W1.heap.size W1 w2 := hb1.trans (hb2.mono hb1.size)
        have hfin : q = (p.1, p.2) := by rw [HQ2.out, seqW_bad (by rw [seqW_bad hz]; exact hz), seqW_bad hz]
        exact ⟨rfl, Judged.thrown hfin hz rfl (hALL.out w2 hb2x).2.2⟩

  case rest =>
    obtain ⟨hq0, hbc⟩ := hcut.out
    clear hcut HBE HRO HQ y2
    obtain ⟨hbw, hbo, hbt⟩ := hALL.out wc hbc
    have HBC := Lib.hid hbc
    have hw5 := fun W (hW : Below wc.heap.size wc W) => HWD.out o.words _ K5.out W (hbt.trans (hW.mono hbt.size))
    have hw6 := fun W (hW : Below wc.heap.size wc W) => HWD.out o.adjs _ K6.out W (hbt.trans (hW.mono hbt.size))
    have hkp : Hid (∀ W, Below wc.heap.size wc W → BoxAt W bo [.string o.name, .string o.title, .string o.inn, .string o.text, .bool o.room, .slice d5 o.words.length f5, .slice d6 o.adjs.length f6, .slice d7 o.flags.length f7, .slice d8 o.props.length f8, .slice d9 o.exits.length f9] ∧ Below w.heap.size w W) := fun W hW => ⟨(hALL.out W (HBC.out.trans (hW.mono HBC.out.size))).2.1, (hALL.out W (HBC.out.trans (hW.mono HBC.out.size))).2.2⟩
    clear HWD K5 K6
    have y5 := hbo.2 5 (by simp)
    have y6 := hbo.2 6 (by simp)
    simp only [List.getElem?_cons_succ, List.getElem?_cons_zero] at y5 y6
    generalize wordsW o.words = p5 at hq0 hw5
    generalize wordsW o.adjs = p6 at hq0 hw6
    by_cases hz5 : p5.1 = 0
    rotate_left
    · have hfin : Hid (q = (p5.1, p5.2)) := by show _ = _; rw [hq0, seqW_bad hz5]
      have HZ := Lib.hid hz5
      have HC := Lib.hid (judged_bad (hw5 wc (Below.refl _ _)) hz5)
      clear hq0 hw5 hw6 hz5 hbw hbo hbt hbc
      go_wp2_with (go_at_call 71; refine HC.out.mono ?_; rintro e w1 ⟨rfl, hb⟩)
      exact ⟨rfl, Judged.thrown hfin.out HZ.out rfl (hkp.out _ hb).2⟩
    rw [seqW_fine hz5] at hq0
    have HC5 := Lib.hid (judged_ok (hw5 wc (Below.refl _ _)) hz5)
    by_cases hz6 : p6.1 = 0
    rotate_left
    · have hfin : Hid (q = (p6.1, p6.2)) := by show _ = _; rw [hq0, seqW_bad hz6]
      have HZ := Lib.hid hz6
      have HC6 := Lib.hid (fun W hW => judged_bad (hw6 W hW) hz6)
      clear hq0 hw5 hw6 hz5 hz6 hbw hbo hbt hbc
      go_wp2_with (first | (go_at_call 71; (with_reducible refine HC5.out.mono ?_); rintro e w1 ⟨rfl, hb⟩; obtain ⟨hb3o, -⟩ := hkp.out w1 hb; have y6' := hb3o.2 6 (by simp); simp only [List.getElem?_cons_succ, List.getElem?_cons_zero] at y6') | (go_at_call 71; (with_reducible refine (HC6.out _ hb).mono ?_); rintro e w2 ⟨rfl, hb2⟩))
      exact ⟨rfl, Judged.thrown hfin.out HZ.out rfl (hkp.out _ (hb.trans (hb2.mono hb.size))).2⟩
    rw [seqW_fine hz6] at hq0
    have HC6 := Lib.hid (fun W hW => judged_ok (hw6 W hW) hz6)
    have HQ0 := Lib.hid hq0
    clear hq0 hw5 hw6 hz5 hz6 hbw hbo hbt hbc
    go_upto_region 8 with (first | (go_at_call 71; (with_reducible refine HC5.out.mono ?_); rintro e w1 ⟨rfl, hb⟩; obtain ⟨hb3o, -⟩ := hkp.out w1 hb; have y6' := hb3o.2 6 (by simp); simp only [List.getElem?_cons_succ, List.getElem?_cons_zero] at y6') | (go_at_call 71; (with_reducible refine (HC6.out _ hb).mono ?_); rintro e w2 ⟨rfl, hb2⟩))
    have HB2 := Lib.hid (HBC.out.trans ((hb.trans (hb2.mono hb.size)).mono HBC.out.size))
    obtain ⟨-, hbo, hbt⟩ := hALL.out w2 HB2.out
    have y7 := hbo.2 7 (by simp)
    simp only [List.getElem?_cons_succ, List.getElem?_cons_zero] at y7
    clear y5 y6 y6' hb3o hb hb2 HC5 HC6 hkp hbo hbt
    obtain ⟨_, _, he7, hl7, hc7, h7⟩ := (K7.out).opn
    cases he7
    unfold maxLen at hc7
    go_wp2_with fail
    go_loopw [43] (fun i wr => ∃ k : Nat, k ≤ o.flags.length ∧ i = .int .i64 k ∧ Hid (q = seqW (ofsW t 1 (o.flags.drop k)) (seqW (ofsW t 2 (o.props.map PairD.name)) (exitsW t s.funcs s.objects [] o.exits))) ∧ Below W1.heap.size W1 wr) (fun i _ => o.flags.length - (intOf i).toNat)
    case atStart => exact ⟨0, Nat.zero_le _, rfl, by show _ = _; rw [List.drop_zero]; exact HQ0.out, HB2.out⟩
    case round =>
      obtain ⟨k, hk, rfl, hinv, hB⟩ := hrel
      obtain ⟨hbw, hbo, hbt⟩ := hALL.out wr hB
      have HB := Lib.hid hB
      by_cases hlt : k < o.flags.length
      · obtain ⟨b7, off7, rfl, hFb7, hel7⟩ := h7 (by omega)
        obtain ⟨cs7, ⟨-, rfl⟩, -, hcell7⟩ := hel7 wr (hbt.block b7 (HF.out b7 hFb7)) k hlt
        have g0 := hcell7 0 _ rfl
        simp only [Nat.add_zero, Nat.mul_one] at g0
        have hdk : ofsW t 1 (o.flags.drop k) = seqW (ofW t 1 o.flags[k]) (ofsW t 1 (o.flags.drop (k + 1))) := by rw [List.drop_eq_getElem_cons hlt]; rfl
        have hq1 := hinv.out
        rw [hdk] at hq1
        have hcf := fun (W : World) (B : Nat) (v : Value) (hck : Ck F W B t s.funcs 0 0 0 [] v) => HOF.out 1 o.flags[k] W B v hck
        generalize (ofN t 1 o.flags[k]).1 = z1 at hcf
        generalize ofW t 1 o.flags[k] = p at hq1 hcf
        generalize o.flags[k] = x at g0 hcf
        have x0 := hbw.2 0 (by simp)
        have x1 := hbw.2 1 (by simp)
        have x2 := hbw.2 2 (by simp)
        have x3 := hbw.2 3 (by simp)
        have x4 := hbw.2 4 (by simp)
        have x5 := hbw.2 5 (by simp)
        have x6 := hbw.2 6 (by simp)
        have x7 := hbw.2 7 (by simp)
        have x8 := hbw.2 8 (by simp)
        have x9 := hbw.2 9 (by simp)
        have x10 := hbw.2 10 (by simp)
        have x11 := hbw.2 11 (by simp)
        have x12 := hbw.2 12 (by simp)
        have x13 := hbw.2 13 (by simp)
        simp only [List.getElem?_cons_succ, List.getElem?_cons_zero] at x0 x1 x2 x3 x4 x5 x6 x7 x8 x9 x10 x11 x12 x13
        have hch := HCH.out wr hbt
        have HCH2 := Lib.hid hch
        have HBT := Lib.hid hbt
        have hki : (k : Int) < (o.flags.length : Int) := by omega
        have hki0 : (0 : Int) ≤ (k : Int) := by omega
        clear hel7 h7 hcell7 hdk hinv hch hbw hbo hbt hB y7
        by_cases hz : p.1 = 0
        · have hnx : Hid (q = seqW (ofsW t 1 (o.flags.drop (k + 1))) (seqW (ofsW t 2 (o.props.map PairD.name)) (exitsW t s.funcs s.objects [] o.exits))) := by show _ = _; rw [hq1, seqW_fine hz]
          have HJ := Lib.hid (fun W B v hck => judged_ok (hcf W B v hck) hz)
          clear hcf hq1 hz
          go_wp2_with (first | (go_at_call 69; refine HCH2.out.mono ?_; rintro e w1 ⟨B, rfl, hB, hck, hb⟩; have HCK := Lib.hid hck; clear hck) | (go_at_call 66; refine (HJ.out _ B _ HCK.out).mono ?_; rintro e w3 ⟨rfl, hb3⟩))
          go_roundw
          case rel => exact ⟨k + 1, by omega, by go_num, hnx, HB.out.trans ((hb.trans (hb3.mono hb.size)).mono HB.out.size)⟩
          case measure => simp [intOf]; omega
        · have hfin : Hid (q = (p.1, p.2)) := by show _ = _; rw [hq1, seqW_bad (by rw [seqW_bad hz]; exact hz), seqW_bad hz]
          have HZ := Lib.hid hz
          have HJ := Lib.hid (fun W B v hck => judged_bad (hcf W B v hck) hz)
          clear hcf hq1 hz
          go_wp2_with (first | (go_at_call 69; refine HCH2.out.mono ?_; rintro e w1 ⟨B, rfl, hB, hck, hb⟩; have HCK := Lib.hid hck; clear hck) | (go_at_call 66; refine (HJ.out _ B _ HCK.out).mono ?_; rintro e w3 ⟨rfl, hb3⟩))
          exact ⟨rfl, Judged.thrown hfin.out HZ.out rfl (HBT.out.trans ((hb.trans (hb3.mono hb.size)).mono HBT.out.size))⟩
      · have HQ1 : Hid (q = (seqW (ofsW t 2 (o.props.map PairD.name)) (exitsW t s.funcs s.objects [] o.exits))) := by show _ = _; rw [hinv.out, List.drop_eq_nil_of_le (by omega)]; exact seqW_fine rfl
        have hki : decide ((k : Int) < (o.flags.length : Int)) = false := by simpa using hlt
        have y8 := hbo.2 8 (by simp)
        simp only [List.getElem?_cons_succ, List.getElem?_cons_zero] at y8
        obtain ⟨_, _, he8, hl8', hc8, h8⟩ := (K8.out).opn
        cases he8
        unfold maxLen at hc8
        clear hinv hbw hbo hbt hB h7 y7
        go_wp2_with fail
        obtain ⟨wo, rfl⟩ : ∃ wo : World, wo = wr := ⟨_, rfl⟩
        go_loopw [55] (fun i wr => ∃ k : Nat, k ≤ o.props.length ∧ i = .int .i64 k ∧ Hid (q = seqW (ofsW t 2 ((o.props.drop k).map PairD.name)) (exitsW t s.funcs s.objects [] o.exits)) ∧ Below W1.heap.size W1 wr) (fun i _ => o.props.length - (intOf i).toNat)
        case atStart => exact ⟨0, Nat.zero_le _, rfl, by show _ = _; rw [List.drop_zero]; exact HQ1.out, HB.out⟩
        case round =>
          clear HQ1 HB hk hlt hki y8
          obtain ⟨k2, hk, rfl, hinv, hB⟩ := hrel
          obtain ⟨hbw, hbo, hbt⟩ := hALL.out wr hB
          have HBo := Lib.hid hB
          by_cases hlt : k2 < o.props.length
          · obtain ⟨b8, off8, rfl, hFb8, hel8⟩ := h8 (by omega)
            obtain ⟨cs8, ⟨-, -, rfl⟩, -, hcell8⟩ := hel8 wr (hbt.block b8 (HF.out b8 hFb8)) k2 hlt
            have g0 := hcell8 0 _ rfl
            have g1 := hcell8 1 _ rfl
            simp only [Nat.add_zero] at g0
            have hdk : ofsW t 2 ((o.props.drop k2).map PairD.name) = seqW (ofW t 2 o.props[k2].name) (ofsW t 2 ((o.props.drop (k2 + 1)).map PairD.name)) := by rw [List.drop_eq_getElem_cons hlt]; rfl
            have hq1 := hinv.out
            rw [hdk] at hq1
            have hcf := fun (W : World) (B : Nat) (v : Value) (hck : Ck F W B t s.funcs 0 0 0 [] v) => HOF.out 2 o.props[k2].name W B v hck
            generalize (ofN t 2 o.props[k2].name).1 = z1 at hcf
            generalize ofW t 2 o.props[k2].name = p at hq1 hcf
            generalize o.props[k2].name = x at g0 hcf
            generalize o.props[k2].num = x2 at g1
            have HCF := Lib.hid hcf
            have HQ2 := Lib.hid hq1
            have hA : Hid (∃ wx bp, wr.alloc (.cells #[.string x, .int .i64 x2] 99) = wx ∧ wr.heap.size = bp ∧ Below wr.heap.size wr wx ∧ BoxAt wx bp [.string x, .int .i64 x2]) := ⟨_, _, rfl, rfl, (Below.refl _ wr).alloc (Nat.le_refl _) _, BoxAt.new _ _ _⟩
            have hki : (k2 : Int) < (o.props.length : Int) := by omega
            have hki0 : (0 : Int) ≤ (k2 : Int) := by omega
            clear hel8 h8 hcell8 hdk hinv hbw hbo hbt hB hcf hq1
            go_upto_region 16 with fail
            obtain ⟨wx, bp, hwx, hbp, hBx0, hbox⟩ := hA.out
            rw [hwx]
            simp only [hbp]
            have hBx := Lib.hid hBx0
            have HBP := Lib.hid hbox
            clear hA hwx hbp hBx0 hbox g0 g1
            refine wp_region_held_drew (S := fun W => Below wx.heap.size wx W) (by kernel_rfl) (Below.refl _ _).drew (fun hHeld => ?_)
            refine wpAnyH_take (i := 0) (v := .agg #[.slice a0 t.length c0, .string s.title, .string s.author, .string s.start, .int .i64 s.release, .int .i64 s.most, .slice a5 s.flags.length c5, .slice a6 s.props.length c6, .slice a7 s.globals.length c7, .slice (some ⟨ob, off, none⟩) s.objects.length c8, .slice a9 s.verbs.length c9, .slice a10 s.rules.length c10, .slice a11 s.funcs.length c11, .slice a12 s.daemons.length c12]) rfl (by kernel_rfl) (by kernel_rfl) (by kernel_rfl) (fun _ _ _ h => h) (Or.inl ⟨by rfl, ?_⟩) (by assumption) ?_
            · intro W hW
              obtain ⟨hb, -, -⟩ := hALL.out W (HBo.out.trans ((hBx.out.trans (hW.mono hBx.out.size)).mono HBo.out.size))
              have x0 := hb.2 0 (by simp)
              have x1 := hb.2 1 (by simp)
              have x2 := hb.2 2 (by simp)
              have x3 := hb.2 3 (by simp)
              have x4 := hb.2 4 (by simp)
              have x5 := hb.2 5 (by simp)
              have x6 := hb.2 6 (by simp)
              have x7 := hb.2 7 (by simp)
              have x8 := hb.2 8 (by simp)
              have x9 := hb.2 9 (by simp)
              have x10 := hb.2 10 (by simp)
              have x11 := hb.2 11 (by simp)
              have x12 := hb.2 12 (by simp)
              have x13 := hb.2 13 (by simp)
              simp only [List.getElem?_cons_succ, List.getElem?_cons_zero] at x0 x1 x2 x3 x4 x5 x6 x7 x8 x9 x10 x11 x12 x13
              go_simp
            simp only [Act.put]
            refine wpAnyH_take (i := 2) (v := .pointer (some ⟨bp, 0, none⟩)) rfl (by kernel_rfl) (by kernel_rfl) (by kernel_rfl) (fun _ _ _ h => h) (Or.inl ⟨by rfl, ?_⟩) (by assumption) ?_
            · intro W hW
              go_simp
            simp only [Act.put]
            refine wpAnyH_take (i := 3) (v := .string x) rfl (by kernel_rfl) (by kernel_rfl) (by kernel_rfl) (fun _ _ _ h => h) (Or.inl ⟨by rfl, ?_⟩) (by assumption) ?_
            · intro W hW
              have hb := HBP.out.below hW HBP.out.1
              have y := hb.2 0 (by simp)
              simp only [List.getElem?_cons_zero] at y
              go_simp
            simp only [Act.put]
            refine wpAnyH_ready (rs := [1]) (by kernel_rfl) (by simp) ?_
            refine AllReadyH.cons rfl (fun K hK => ?_) AllReadyH.nil
            go_simp
            refine (HCH.out _ ((hALL.out wx (HBo.out.trans (hBx.out.mono HBo.out.size))).2.2).drew).mono ?_
            rintro e w1 ⟨B, rfl, hB, hck, hb⟩
            have hb1 : Below wx.heap.size wx w1 := (Below.refl _ wx).drew.trans hb
            refine hK.out _ _ hb1 (fun hHeld => ?_)
            clear hK K
            refine wpAnyH_ready (rs := [4]) (by kernel_rfl) (by simp) ?_
            refine AllReadyH.cons rfl (fun K hK => ?_) AllReadyH.nil
            go_simp
            by_cases hz : p.1 = 0
            · refine (judged_ok (HCF.out w1 B _ hck) hz).mono ?_
              rintro e w2 ⟨rfl, hb2⟩
              have hb2x : Below wx.heap.size wx w2 := hb1.trans (hb2.mono hb1.size)
              refine hK.out _ _ hb2x (fun hHeld => ?_)
              clear hK K
              refine wpAnyH_done (by kernel_rfl) ?_ _
              have HB2 := Lib.hid (HBo.out.trans ((hBx.out.trans (hb2x.mono hBx.out.size)).mono HBo.out.size))
              have hnx : Hid (q = seqW (ofsW t 2 ((o.props.drop (k2 + 1)).map PairD.name)) (exitsW t s.funcs s.objects [] o.exits)) := by show _ = _; rw [HQ2.out, seqW_fine hz]
              clear hb hb1 hb2 hb2x hck hz HQ2
              go_wp2_with fail
              go_roundw
              case rel => exact ⟨k2 + 1, by omega, by go_num, hnx, HB2.out⟩
              case measure => simp [intOf]; omega
            · refine (judged_bad (HCF.out w1 B _ hck) hz).mono ?_
              rintro e w2 ⟨rfl, hb2⟩
              have hb2x : Below wx.heap.size wx w2 := hb1.trans (hb2.mono hb1.size)
              have hfin : q = (p.1, p.2) := by rw [HQ2.out, seqW_bad (by rw [seqW_bad hz]; exact hz), seqW_bad hz]
              exact ⟨rfl, Judged.thrown hfin hz rfl (hALL.out w2 (HBo.out.trans ((hBx.out.trans (hb2x.mono hBx.out.size)).mono HBo.out.size))).2.2⟩

          · have HQ1 : Hid (q = exitsW t s.funcs s.objects [] o.exits) := by show _ = _; rw [hinv.out, List.drop_eq_nil_of_le (by omega)]; exact seqW_fine rfl
            have hki : decide ((k2 : Int) < (o.props.length : Int)) = false := by simpa using hlt
            have y9 := hbo.2 9 (by simp)
            simp only [List.getElem?_cons_succ, List.getElem?_cons_zero] at y9
            obtain ⟨_, _, he9, hl9, hc9, h9⟩ := (K9.out).opn
            cases he9
            unfold maxLen at hc9
            clear hinv hbw hbo hbt hB h8
            go_wp2_with fail
            obtain ⟨wo2, rfl⟩ : ∃ wo2 : World, wo2 = wr := ⟨_, rfl⟩
            go_loopw [68] (fun i wr => ∃ k3 : Nat, k3 ≤ o.exits.length ∧ i = .int .i64 k3 ∧ Hid (q = exitsW t s.funcs s.objects (o.exits.take k3) (o.exits.drop k3)) ∧ Below W1.heap.size W1 wr) (fun i _ => o.exits.length - (intOf i).toNat)
            case atStart => exact ⟨0, Nat.zero_le _, rfl, by show _ = _; rw [List.drop_zero, List.take_zero]; exact HQ1.out, HBo.out⟩
            case round =>
              clear HQ1 HBo hk hlt hki y9
              obtain ⟨k3, hk, rfl, hinv, hB⟩ := hrel
              have HBe := Lib.hid hB
              by_cases hlt : k3 < o.exits.length
              · obtain ⟨b9, off9, rfl, hFb9, hel9⟩ := h9 (by omega)
                have hbt := (hALL.out wr hB).2.2
                have hrd : Hid (∀ W, Below w.heap.size w W → ∀ j (hj : j < o.exits.length), ∃ xa xc, (∀ m (u : Value), ([.int .i64 o.exits[j].dir, .string o.exits[j].to, .string o.exits[j].els, .slice xa o.exits[j].cond.length xc] : List Value)[m]? = some u → W.cell? ⟨b9, off9 + j * 4 + m, none⟩ = some u) ∧ Exs F w o.exits[j].cond (.slice xa o.exits[j].cond.length xc)) := fun W hW j hj => by
                  obtain ⟨cs9, ⟨-, -, -, v, rfl, hex⟩, -, hcell9⟩ := hel9 w rfl j hj
                  obtain ⟨xa, xc, rfl⟩ := hex.shape
                  exact ⟨xa, xc, fun m u hm => (World.cell?_of_block (w := w) (a := ⟨b9, off9 + j * 4 + m, none⟩) (hW.block b9 (HF.out b9 hFb9))).trans (hcell9 m u hm), hex⟩
                obtain ⟨xa, xc, hx, hex⟩ := hrd.out wr hbt k3 hlt
                have hdk : exitsW t s.funcs s.objects (o.exits.take k3) (o.exits.drop k3) = seqW (if dec (∃ y ∈ o.exits.take k3, y.dir = o.exits[k3].dir) = true then (10, o.exits[k3].to) else fineW) (seqW (roomW t s.objects o.exits[k3].to) (seqW (Ex.kWs t s.funcs [] o.exits[k3].cond) (exitsW t s.funcs s.objects (o.exits.take (k3 + 1)) (o.exits.drop (k3 + 1))))) := by
                  rw [List.drop_eq_getElem_cons hlt, List.take_succ_eq_append_getElem hlt]; rfl
                have hq1 := hinv.out
                rw [hdk] at hq1
                clear hel9 h9 hdk hinv
                generalize o.exits[k3] = x at hx hex hq1
                have g0 := hx 0 _ rfl
                have g1 := hx 1 _ rfl
                have g2 := hx 2 _ rfl
                have g3 := hx 3 _ rfl
                simp only [Nat.add_zero] at g0
                have HEX := Lib.hid hex
                have HQ1 := Lib.hid hq1
                have hA : Hid (∃ wx be, wr.alloc (.cells #[.int .i64 x.dir, .string x.to, .string x.els, .slice xa x.cond.length xc] 44) = wx ∧ wr.heap.size = be ∧ Below wr.heap.size wr wx ∧ BoxAt wx be [.int .i64 x.dir, .string x.to, .string x.els, .slice xa x.cond.length xc]) := ⟨_, _, rfl, rfl, (Below.refl _ wr).alloc (Nat.le_refl _) _, BoxAt.new _ _ _⟩
                have hki : (k3 : Int) < (o.exits.length : Int) := by omega
                have hki0 : (0 : Int) ≤ (k3 : Int) := by omega
                have hkic : (k3 : Int) ≤ (f9 : Int) := by omega
                clear hx hex hq1 hB hbt
                go_upto_region 21 with fail
                obtain ⟨wx, be, hwx, hbe, hBx0, hbox⟩ := hA.out
                rw [hwx]
                simp only [hbe]
                have HBx := Lib.hid (HBe.out.trans (hBx0.mono HBe.out.size))
                have HXB := Lib.hid hbox
                have hall2 : Hid (∀ W, Below wx.heap.size wx W → BoxAt W w.heap.size [.slice a0 t.length c0, .string s.title, .string s.author, .string s.start, .int .i64 s.release, .int .i64 s.most, .slice a5 s.flags.length c5, .slice a6 s.props.length c6, .slice a7 s.globals.length c7, .slice (some ⟨ob, off, none⟩) s.objects.length c8, .slice a9 s.verbs.length c9, .slice a10 s.rules.length c10, .slice a11 s.funcs.length c11, .slice a12 s.daemons.length c12] ∧ BoxAt W bo [.string o.name, .string o.title, .string o.inn, .string o.text, .bool o.room, .slice d5 o.words.length f5, .slice d6 o.adjs.length f6, .slice d7 o.flags.length f7, .slice d8 o.props.length f8, .slice (some ⟨b9, off9, none⟩) o.exits.length f9] ∧ BoxAt W be [.int .i64 x.dir, .string x.to, .string x.els, .slice xa x.cond.length xc] ∧ Below w.heap.size w W) := fun W hW => ⟨(hALL.out W (HBx.out.trans (hW.mono HBx.out.size))).1, (hALL.out W (HBx.out.trans (hW.mono HBx.out.size))).2.1, HXB.out.below hW HXB.out.1, (hALL.out W (HBx.out.trans (hW.mono HBx.out.size))).2.2⟩
                have hbo := (hall2.out wx (Below.refl _ _)).2.1
                have y9 := hbo.2 9 (by simp)
                simp only [List.getElem?_cons_succ, List.getElem?_cons_zero] at y9
                clear hA hwx hbe hBx0 hbox g0 g1 g2 g3 hbo HBe
                go_wp2_with fail
                obtain ⟨wo3, rfl⟩ : ∃ wo3 : World, wo3 = wr := ⟨_, rfl⟩
                go_loopw [78] (fun i wr => ∃ j : Nat, j ≤ k3 ∧ i = .int .i64 j ∧ Hid (∀ m (hm : m < o.exits.length), m < j → o.exits[m].dir ≠ x.dir) ∧ Below wx.heap.size wx wr) (fun i _ => k3 - (intOf i).toNat)
                case atStart => exact ⟨0, Nat.zero_le _, rfl, fun m hm h => absurd h (by omega), Below.refl _ _⟩
                case round =>
                  obtain ⟨j, hj, rfl, hinv, hB⟩ := hrel
                  have HBj := Lib.hid hB
                  obtain ⟨hbw, hbo, hbe, hbt⟩ := hall2.out wr hB
                  by_cases hlt4 : j < k3
                  · obtain ⟨ya, yc, hy, -⟩ := hrd.out wr hbt j (by omega)
                    have e0 := hy 0 _ rfl
                    have e1 := hy 1 _ rfl
                    have e2 := hy 2 _ rfl
                    have e3 := hy 3 _ rfl
                    simp only [Nat.add_zero] at e0
                    have hjl : j < o.exits.length := by omega
                    have HNE : Hid (∀ d, o.exits[j].dir = d → (d ≠ x.dir → ∀ m (hm : m < o.exits.length), m < j + 1 → o.exits[m].dir ≠ x.dir) ∧ (d = x.dir → ∃ y ∈ o.exits.take k3, y.dir = x.dir)) := fun d hd => ⟨fun hne m hm h => by
                      by_cases hmj : m = j
                      · subst hmj; rw [hd]; exact hne
                      · exact hinv.out m hm (by omega), fun he => ⟨o.exits[j], by rw [List.mem_take_iff_getElem]; exact ⟨j, by omega, rfl⟩, by rw [hd]; exact he⟩⟩
                    obtain ⟨yd, hyd⟩ : ∃ yd, o.exits[j].dir = yd := ⟨_, rfl⟩
                    obtain ⟨hne1, hne2⟩ := HNE.out yd hyd
                    rw [hyd] at e0
                    generalize o.exits[j] = y at e0 e1 e2 e3
                    have hb3 := hbe.2 0 (by simp)
                    have hb4 := hbe.2 1 (by simp)
                    simp only [List.getElem?_cons_succ, List.getElem?_cons_zero] at hb3 hb4
                    have hb3' := fun o => alloc_cell1 hb3 o
                    have hb4' := fun o => alloc_cell1 hb4 o
                    have hji : (j : Int) < (k3 : Int) := by omega
                    have hji0 : (0 : Int) ≤ (j : Int) := by omega
                    have HBT := Lib.hid hbt
                    clear hy hbw hbo hbe hbt HNE hyd hB hinv
                    by_cases hdd : yd = x.dir
                    · have HT : Hid (q = (10, x.to)) := by show _ = _; rw [HQ1.out, dec_true (hne2 hdd), if_pos rfl]; exact seqW_bad (show ¬ ((10 : Int) = 0) by decide)
                      have hdb : (yd == x.dir) = true := by simpa using hdd
                      clear hne1 hne2 hdd
                      go_wp2_with fail
                      exact ⟨rfl, Judged.thrown HT.out (by decide) rfl (HBT.out.alloc HBT.out.size _)⟩
                    · have hnx := Lib.hid (hne1 hdd)
                      have hdb : (yd == x.dir) = false := by simpa using hdd
                      clear hne1 hne2 hdd
                      go_wp2_with fail
                      go_roundw
                      case rel => exact ⟨j + 1, by omega, by go_num, hnx.out, HBj.out.alloc HBj.out.size _⟩
                      case measure => simp [intOf]; omega
                  · have HQ2 : Hid (q = seqW (roomW t s.objects x.to) (seqW (Ex.kWs t s.funcs [] x.cond) (exitsW t s.funcs s.objects (o.exits.take (k3 + 1)) (o.exits.drop (k3 + 1))))) := by
                      show _ = _
                      rw [HQ1.out, dec_false (p := ∃ y ∈ o.exits.take k3, y.dir = x.dir) (fun ⟨y, hy, he⟩ => by
                        obtain ⟨m, hm, rfl⟩ := List.mem_take_iff_getElem.1 hy
                        exact hinv.out m (by omega) (by omega) he)]
                      exact seqW_fine rfl
                    have hji : decide ((j : Int) < (k3 : Int)) = false := by simpa using hlt4
                    have hrm := fun W (hW : Below wr.heap.size wr W) => HRM.out x.to W (hbt.trans (hW.mono hbt.size))
                    have hwn := fun W (hW : Below wr.heap.size wr W) => HWN.out x.cond _ HEX.out W (hbt.trans (hW.mono hbt.size))
                    generalize roomW t s.objects x.to = p5 at HQ2 hrm
                    generalize Ex.kWs t s.funcs [] x.cond = p6 at HQ2 hwn
                    have x0 := hbw.2 0 (by simp)
                    have x1 := hbw.2 1 (by simp)
                    have x2 := hbw.2 2 (by simp)
                    have x3 := hbw.2 3 (by simp)
                    have x4 := hbw.2 4 (by simp)
                    have x5 := hbw.2 5 (by simp)
                    have x6 := hbw.2 6 (by simp)
                    have x7 := hbw.2 7 (by simp)
                    have x8 := hbw.2 8 (by simp)
                    have x9 := hbw.2 9 (by simp)
                    have x10 := hbw.2 10 (by simp)
                    have x11 := hbw.2 11 (by simp)
                    have x12 := hbw.2 12 (by simp)
                    have x13 := hbw.2 13 (by simp)
                    simp only [List.getElem?_cons_succ, List.getElem?_cons_zero] at x0 x1 x2 x3 x4 x5 x6 x7 x8 x9 x10 x11 x12 x13
                    have hb4 := hbe.2 1 (by simp)
                    simp only [List.getElem?_cons_succ, List.getElem?_cons_zero] at hb4
                    have hkp : Hid (∀ W, Below wr.heap.size wr W → BoxAt W w.heap.size [.slice a0 t.length c0, .string s.title, .string s.author, .string s.start, .int .i64 s.release, .int .i64 s.most, .slice a5 s.flags.length c5, .slice a6 s.props.length c6, .slice a7 s.globals.length c7, .slice (some ⟨ob, off, none⟩) s.objects.length c8, .slice a9 s.verbs.length c9, .slice a10 s.rules.length c10, .slice a11 s.funcs.length c11, .slice a12 s.daemons.length c12] ∧ BoxAt W be [.int .i64 x.dir, .string x.to, .string x.els, .slice xa x.cond.length xc] ∧ Below w.heap.size w W ∧ Below W1.heap.size W1 W) := fun W hW => ⟨(hall2.out W (HBj.out.trans (hW.mono HBj.out.size))).1, (hall2.out W (HBj.out.trans (hW.mono HBj.out.size))).2.2.1, (hall2.out W (HBj.out.trans (hW.mono HBj.out.size))).2.2.2, HBx.out.trans ((HBj.out.trans (hW.mono HBj.out.size)).mono HBx.out.size)⟩
                    clear hinv hbw hbo hbe hbt hB y9
                    by_cases hz5 : p5.1 = 0
                    rotate_left
                    · have hfin : Hid (q = (p5.1, p5.2)) := by show _ = _; rw [HQ2.out, seqW_bad hz5]
                      have HZ := Lib.hid hz5
                      have HC := Lib.hid (judged_bad (hrm wr (Below.refl _ _)) hz5)
                      clear hrm hwn hz5
                      go_wp2_with (go_at_call 44; refine HC.out.mono ?_; rintro e w1 ⟨rfl, hb⟩)
                      exact ⟨rfl, Judged.thrown hfin.out HZ.out rfl (hkp.out _ hb).2.2.1⟩
                    have HC5 := Lib.hid (judged_ok (hrm wr (Below.refl _ _)) hz5)
                    have HARM : Hid (∀ w1, Below wr.heap.size wr w1 → (w1.cell? ⟨be, 3, none⟩ = some (.slice xa x.cond.length xc)) ∧ BoxAt w1 w.heap.size [.slice a0 t.length c0, .string s.title, .string s.author, .string s.start, .int .i64 s.release, .int .i64 s.most, .slice a5 s.flags.length c5, .slice a6 s.props.length c6, .slice a7 s.globals.length c7, .slice (some ⟨ob, off, none⟩) s.objects.length c8, .slice a9 s.verbs.length c9, .slice a10 s.rules.length c10, .slice a11 s.funcs.length c11, .slice a12 s.daemons.length c12]) := fun w1 hb => ⟨(hkp.out w1 hb).2.1.2 3 (by simp), (hkp.out w1 hb).1⟩
                    by_cases hz6 : p6.1 = 0
                    rotate_left
                    · have hfin : Hid (q = (p6.1, p6.2)) := by show _ = _; rw [HQ2.out, seqW_fine hz5, seqW_bad hz6]
                      have HZ := Lib.hid hz6
                      have HC6 := Lib.hid (fun W hW => judged_bad (hwn W hW) hz6)
                      clear hrm hwn hz5 hz6
                      go_wp2_with (first | (go_at_call 44; refine HC5.out.mono ?_; rintro e w1 ⟨rfl, hb⟩; obtain ⟨hc3, hbw⟩ := HARM.out w1 hb; have v0 := hbw.2 0 (by simp); have v1 := hbw.2 1 (by simp); have v2 := hbw.2 2 (by simp); have v3 := hbw.2 3 (by simp); have v4 := hbw.2 4 (by simp); have v5 := hbw.2 5 (by simp); have v6 := hbw.2 6 (by simp); have v7 := hbw.2 7 (by simp); have v8 := hbw.2 8 (by simp); have v9 := hbw.2 9 (by simp); have v10 := hbw.2 10 (by simp); have v11 := hbw.2 11 (by simp); have v12 := hbw.2 12 (by simp); have v13 := hbw.2 13 (by simp); simp only [List.getElem?_cons_succ, List.getElem?_cons_zero] at v0 v1 v2 v3 v4 v5 v6 v7 v8 v9 v10 v11 v12 v13) | (go_at_call 72; refine (HC6.out _ hb).mono ?_; rintro e w2 ⟨rfl, hb2⟩))
                      exact ⟨rfl, Judged.thrown hfin.out HZ.out rfl (hkp.out _ (hb.trans (hb2.mono hb.size))).2.2.1⟩
                    have HC6 := Lib.hid (fun W hW => judged_ok (hwn W hW) hz6)
                    have hnx : Hid (q = exitsW t s.funcs s.objects (o.exits.take (k3 + 1)) (o.exits.drop (k3 + 1))) := by show _ = _; rw [HQ2.out, seqW_fine hz5, seqW_fine hz6]
                    clear hrm hwn hz5 hz6
                    go_wp2_with (first | (go_at_call 44; refine HC5.out.mono ?_; rintro e w1 ⟨rfl, hb⟩; obtain ⟨hc3, hbw⟩ := HARM.out w1 hb; have v0 := hbw.2 0 (by simp); have v1 := hbw.2 1 (by simp); have v2 := hbw.2 2 (by simp); have v3 := hbw.2 3 (by simp); have v4 := hbw.2 4 (by simp); have v5 := hbw.2 5 (by simp); have v6 := hbw.2 6 (by simp); have v7 := hbw.2 7 (by simp); have v8 := hbw.2 8 (by simp); have v9 := hbw.2 9 (by simp); have v10 := hbw.2 10 (by simp); have v11 := hbw.2 11 (by simp); have v12 := hbw.2 12 (by simp); have v13 := hbw.2 13 (by simp); simp only [List.getElem?_cons_succ, List.getElem?_cons_zero] at v0 v1 v2 v3 v4 v5 v6 v7 v8 v9 v10 v11 v12 v13) | (go_at_call 72; refine (HC6.out _ hb).mono ?_; rintro e w2 ⟨rfl, hb2⟩))
                    go_roundw
                    case rel => exact ⟨k3 + 1, by omega, by go_num, hnx.out, (hkp.out _ (hb.trans (hb2.mono hb.size))).2.2.2⟩
                    case measure => simp [intOf]; omega
              · have HQ1 : Hid (q = fineW) := by show _ = _; rw [hinv.out, List.drop_eq_nil_of_le (by omega)]; rfl
                have HBT := Lib.hid (hALL.out wr hB).2.2
                have hki : decide ((k3 : Int) < (o.exits.length : Int)) = false := by simpa using hlt
                clear hinv hB h9
                go_wp2_with fail
                go_end0
                exact Judged.fine (by rw [HQ1.out]; rfl) rfl HBT.out
end Go.Proofs.YtblhpiebheommaaGreat
