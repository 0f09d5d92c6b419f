/- The walks of a whole's daemon and rule. Printed by gen-kinds30.py. -/
import Derived.Test.YtblhpiebheommaaGreatKinds29
namespace Go.Proofs.YtblhpiebheommaaGreat
open Go.RowKit

/-- Judged, from a block's end: what lay behind B alone may have changed. -/
def JudgedAt (lo : Nat) (w : World) (p : Int × ByteArray) (e : Ending) (w' : World) : Prop := (p.1 = 0 → e = .returned (.tuple #[])) ∧ (p.1 ≠ 0 → e = .panicked [{ v := .iface 104 (.agg #[.int .i64 p.1, .string p.2]), recovered := false }]) ∧ Below lo w w'
theorem judgedAt {P : Program} {k : Nat} {args : Array Value} {B n lo : Nat} {w : World} {p : Int × ByteArray} {R : World → Prop} (h : Calls P k args w (PostW B (fun _ => False) w p n R)) (hlo : lo ≤ w.heap.size) (hB : lo ≤ B) : Calls P k args w (JudgedAt lo w p) := by
  by_cases hp : p.1 = 0
  · exact (post_ok h hp).mono fun e w' ⟨h1, _, h3⟩ => ⟨fun _ => h1, fun hn => absurd hp hn, h3.toBelow hlo hB (fun _ h => h.elim)⟩
  · exact (post_bad h hp).mono fun e w' ⟨h1, _, h3⟩ => ⟨fun hn => absurd hn hp, fun _ => h1, h3.toBelow hlo hB (fun _ h => h.elim)⟩
theorem judgedAt_ok {P : Program} {k : Nat} {args : Array Value} {lo : Nat} {w : World} {p : Int × ByteArray} (h : Calls P k args w (JudgedAt lo w p)) (hp : p.1 = 0) : Calls P k args w fun e w' => e = .returned (.tuple #[]) ∧ Below lo w w' := h.mono fun _ _ ⟨h1, _, h3⟩ => ⟨h1 hp, h3⟩
theorem judgedAt_bad {P : Program} {k : Nat} {args : Array Value} {lo : Nat} {w : World} {p : Int × ByteArray} (h : Calls P k args w (JudgedAt lo w p)) (hp : p.1 ≠ 0) : Calls P k args w fun e w' => e = .panicked [{ v := .iface 104 (.agg #[.int .i64 p.1, .string p.2]), recovered := false }] ∧ Below lo w w' := h.mono fun _ _ ⟨_, h2, h3⟩ => ⟨h2 hp, h3⟩
theorem nilStrs (G : Nat → Prop) (w : World) : RdStrs G w [] (.slice none 0 0) := RdL.nil _ _ _ _ _ _ (Nat.zero_le _)

set_option maxRecDepth 100000 in
set_option maxHeartbeats 4000000 in
theorem daemon_calls (t : List NameD) (s : SrcD) (i : Nat) (o : FuncD) (F : Nat → Prop) (w : World) (tv : Value) (ss : List Value) (hF : Inn F w) (hri : Rises t) (ht : t.length ≤ 1000000000000) (htab : TabOk t s.funcs s.objects.length) (h0 : RdNames F w t tv) (h1 : Holds.src.R F w s ss) (hi : s.daemons[i]? = some o) :
    Calls Tryz.prog 49 #[.agg (tv :: ss).toArray, .int .i64 i] w (Judged w (St.kWs t s.funcs 9 [] 0 o.body) (.tuple #[])) := by
  obtain ⟨hi1, hi2⟩ := List.getElem?_eq_some_iff.1 hi
  have HCH := Lib.hid (fun W (hW : Below w.heap.size w W) => checker_calls t s 9 F W tv ss (hF.below hW) (h0.below hF hW (Nat.le_refl _)) (Holds.below _ h1 hF hW (Nat.le_refl _)))
  obtain ⟨a0, c0, rfl⟩ := h0.shape
  obtain ⟨a5, c5, a6, c6, a7, c7, a8, c8, a9, c9, a10, c10, a11, c11, a12, c12, rfl, g5, g6, g7, g8, g9, g10, g11, g12⟩ := src_shape h1
  obtain ⟨_, _, he12, hl12, hc12, h12⟩ := g12.opn
  cases he12
  obtain ⟨ob, off, rfl, hFob, hel⟩ := h12 (by omega)
  obtain ⟨cs, ⟨-, v1, v2, rfl, -, k2⟩, -, hcell⟩ := hel w rfl i hi1
  rw [hi2] at k2
  have hbk := fun (W : World) (B lo : Nat) (v : Value) (hW : Below w.heap.size w W) (hck : Ck F W B t s.funcs 9 0 0 [] v) (hlo : lo ≤ W.heap.size) (hB : lo ≤ B) => judgedAt (lo := lo) (block_calls t s.funcs s.objects.length hri ht htab o.body [] [] 9 0 F (fun _ => False) W B 0 v (.slice none 0 0) v2 hck (Sts.below k2 hF hW (Nat.le_refl _)) (nilStrs _ _) (fun _ h => h.elim) (by omega) (by omega) (Nat.zero_le _) (by simp)) hlo hB
  rw [List.append_nil] at hbk
  obtain ⟨a2, c2, rfl⟩ := k2.shape
  have HF := Lib.hid hF
  have hrow : Hid (∀ W, Below w.heap.size w W → W.cell? ⟨ob, off + i * 3 + 2, none⟩ = some (.slice a2 o.body.length c2)) := fun W hW => (World.cell?_of_block (w := w) (a := ⟨ob, off + i * 3 + 2, none⟩) (hW.block ob (hF ob hFob))).trans (hcell 2 _ rfl)
  generalize St.kWs t s.funcs 9 [] 0 o.body = p at hbk ⊢
  have HCF := Lib.hid hbk
  have hil : (i : Int) < (s.daemons.length : Int) := by omega
  have hi0 : (0 : Int) ≤ (i : Int) := by omega
  have hcap : c12 ≤ 9223372036854775807 := by unfold maxLen at hc12; omega
  have hA : Hid (∃ W0, w.alloc (.cells #[.slice a0 t.length c0, .string s.title, .string s.author, .string s.start, .int .i64 s.release, .int .i64 s.most, .slice a5 s.flags.length c5, .slice a6 s.props.length c6, .slice a7 s.globals.length c7, .slice a8 s.objects.length c8, .slice a9 s.verbs.length c9, .slice a10 s.rules.length c10, .slice a11 s.funcs.length c11, .slice (some ⟨ob, off, none⟩) s.daemons.length c12] 73) = W0 ∧ Below w.heap.size w W0 ∧ BoxAt W0 w.heap.size [.slice a0 t.length c0, .string s.title, .string s.author, .string s.start, .int .i64 s.release, .int .i64 s.most, .slice a5 s.flags.length c5, .slice a6 s.props.length c6, .slice a7 s.globals.length c7, .slice a8 s.objects.length c8, .slice a9 s.verbs.length c9, .slice a10 s.rules.length c10, .slice a11 s.funcs.length c11, .slice (some ⟨ob, off, none⟩) s.daemons.length c12] ∧ w.heap.size < W0.heap.size) := ⟨_, rfl, (Below.refl _ w).alloc (Nat.le_refl _) _, BoxAt.new _ _ _, by simp⟩
  clear h0 h1 hF htab hri g5 g6 g7 g8 g9 g10 g11 g12 hel h12 hc12 hi hi1 hi2 ht hcell k2 hbk
  go_enter Tryz.func49, Tryz.ntmps49
  go_upto_region 1 with fail
  obtain ⟨W0, hW0, hB0, hbox, hz0⟩ := hA.out
  rw [hW0]
  have HB0 := Lib.hid hB0
  have HBOX := Lib.hid hbox
  clear hA hW0 hB0 hbox
  refine wp_region_held_drew (S := fun W => Below W0.heap.size W0 W) (by kernel_rfl) (Below.refl _ _).drew (fun hHeld => ?_)
  refine wpAnyH_take (i := 0) (v := .agg #[.slice a0 t.length c0, .string s.title, .string s.author, .string s.start, .int .i64 s.release, .int .i64 s.most, .slice a5 s.flags.length c5, .slice a6 s.props.length c6, .slice a7 s.globals.length c7, .slice a8 s.objects.length c8, .slice a9 s.verbs.length c9, .slice a10 s.rules.length c10, .slice a11 s.funcs.length c11, .slice (some ⟨ob, off, none⟩) s.daemons.length c12]) rfl (by kernel_rfl) (by kernel_rfl) (by kernel_rfl) (fun _ _ _ h => h) (Or.inl ⟨by rfl, ?_⟩) (by assumption) ?_
  · intro W hW
    have hb := HBOX.out.below hW HBOX.out.1
    have x0 := hb.2 0 (by simp)
    have x1 := hb.2 1 (by simp)
    have x2 := hb.2 2 (by simp)
    have x3 := hb.2 3 (by simp)
    have x4 := hb.2 4 (by simp)
    have x5 := hb.2 5 (by simp)
    have x6 := hb.2 6 (by simp)
    have x7 := hb.2 7 (by simp)
    have x8 := hb.2 8 (by simp)
    have x9 := hb.2 9 (by simp)
    have x10 := hb.2 10 (by simp)
    have x11 := hb.2 11 (by simp)
    have x12 := hb.2 12 (by simp)
    have x13 := hb.2 13 (by simp)
    simp only [List.getElem?_cons_succ, List.getElem?_cons_zero] at x0 x1 x2 x3 x4 x5 x6 x7 x8 x9 x10 x11 x12 x13
    go_simp
  simp only [Act.put]
  refine wpAnyH_take (i := 2) (v := .pointer (some ⟨w.heap.size, 1, none⟩)) rfl (by kernel_rfl) (by kernel_rfl) (by kernel_rfl) (fun _ _ _ h => h) (Or.inl ⟨by rfl, ?_⟩) (by assumption) ?_
  · intro W hW
    go_simp
  simp only [Act.put]
  refine wpAnyH_take (i := 3) (v := .pointer (some ⟨w.heap.size, 13, none⟩)) rfl (by kernel_rfl) (by kernel_rfl) (by kernel_rfl) (fun _ _ _ h => h) (Or.inl ⟨by rfl, ?_⟩) (by assumption) ?_
  · intro W hW
    go_simp
  simp only [Act.put]
  refine wpAnyH_take (i := 4) (v := .slice (some ⟨ob, off, none⟩) s.daemons.length c12) rfl (by kernel_rfl) (by kernel_rfl) (by kernel_rfl) (fun _ _ _ h => h) (Or.inl ⟨by rfl, ?_⟩) (by assumption) ?_
  · intro W hW
    have hb := HBOX.out.below hW HBOX.out.1
    have x13 := hb.2 13 (by simp)
    simp only [List.getElem?_cons_succ, List.getElem?_cons_zero] at x13
    go_simp
  simp only [Act.put]
  refine wpAnyH_take (i := 5) (v := .int .i64 i) rfl (by kernel_rfl) (by kernel_rfl) (by kernel_rfl) (fun _ _ _ h => h) (Or.inl ⟨by rfl, ?_⟩) (by assumption) ?_
  · intro W hW
    go_simp
  simp only [Act.put]
  refine wpAnyH_take (i := 6) (v := .pointer (some ⟨ob, off + i * 3, none⟩)) rfl (by kernel_rfl) (by kernel_rfl) (by kernel_rfl) (fun _ _ _ h => h) (Or.inl ⟨by rfl, ?_⟩) (by assumption) ?_
  · intro W hW
    go_simp
  simp only [Act.put]
  refine wpAnyH_take (i := 7) (v := .pointer (some ⟨ob, off + i * 3 + 2, none⟩)) rfl (by kernel_rfl) (by kernel_rfl) (by kernel_rfl) (fun _ _ _ h => h) (Or.inl ⟨by rfl, ?_⟩) (by assumption) ?_
  · intro W hW
    go_simp
  simp only [Act.put]
  refine wpAnyH_take (i := 8) (v := .slice a2 o.body.length c2) rfl (by kernel_rfl) (by kernel_rfl) (by kernel_rfl) (fun _ _ _ h => h) (Or.inl ⟨by rfl, ?_⟩) (by assumption) ?_
  · intro W hW
    have x2 := hrow.out W (HB0.out.trans (hW.mono HB0.out.size))
    go_simp
  simp only [Act.put]
  refine wpAnyH_ready (rs := [1]) (by kernel_rfl) (by simp) ?_
  refine AllReadyH.cons rfl (fun K hK => ?_) AllReadyH.nil
  go_simp
  refine (HCH.out _ HB0.out.drew).mono ?_
  rintro e w1 ⟨B, rfl, hB, hck, hb⟩
  have hb1 : Below W0.heap.size W0 w1 := (Below.refl _ W0).drew.trans hb
  have hwB : W0.heap.size ≤ B := hB
  have hww : Below w.heap.size w w1 := HB0.out.trans (hb1.mono HB0.out.size)
  refine hK.out _ _ hb1 (fun hHeld => ?_)
  clear hK K
  refine wpAnyH_ready (rs := [9]) (by kernel_rfl) (by simp) ?_
  refine AllReadyH.cons rfl (fun K hK => ?_) AllReadyH.nil
  go_simp
  by_cases hz : p.1 = 0
  · refine (judgedAt_ok (HCF.out w1 B W0.heap.size _ hww hck hb1.size hwB) hz).mono ?_
    rintro e w2 ⟨rfl, hb2⟩
    have hb12 : Below W0.heap.size W0 w2 := hb1.trans hb2
    refine hK.out _ _ hb12 (fun hHeld => ?_)
    clear hK K
    refine wpAnyH_done (by kernel_rfl) ?_ _
    have HZ := Lib.hid (And.intro hz (HB0.out.trans (hb12.mono HB0.out.size)))
    clear hz hb hb1 hb2 hb12 hck hww hwB hB
    go_wp2_with fail
    go_end0
    exact Judged.fine HZ.out.1 rfl HZ.out.2
  · refine (judgedAt_bad (HCF.out w1 B W0.heap.size _ hww hck hb1.size hwB) hz).mono ?_
    rintro e w2 ⟨rfl, hb2⟩
    exact ⟨rfl, Judged.thrown rfl hz rfl (hww.trans (hb2.mono HB0.out.size))⟩
end Go.Proofs.YtblhpiebheommaaGreat
/- The walk of a whole's rule. Printed by gen-kinds31.py. -/
namespace Go.Proofs.YtblhpiebheommaaGreat
open Go.RowKit

/-- What is wrong with things' names, of which some may be empty. -/
def neW (t : List NameD) : List ByteArray → Int × ByteArray
  | [] => fineW
  | n :: r => seqW (if n = ⟨#[]⟩ then fineW else ofW t 4 n) (neW t r)
/-- What is wrong with a rule. -/
noncomputable def ruleW (t : List NameD) (fs : List FuncD) (o : RuleD) : Int × ByteArray :=
  seqW (ofW t 5 o.verb) (seqW (neW t [o.noun, o.second]) (seqW (Ex.kWs t fs [] o.cond) (St.kWs t fs 7 [] 0 o.body)))

set_option maxRecDepth 100000 in
set_option maxHeartbeats 8000000 in
theorem rule_calls (t : List NameD) (s : SrcD) (i : Nat) (o : RuleD) (F : Nat → Prop) (w : World) (tv : Value) (ss : List Value) (hF : Inn F w) (hri : Rises t) (ht : t.length ≤ 1000000000000) (htab : TabOk t s.funcs s.objects.length) (h0 : RdNames F w t tv) (h1 : Holds.src.R F w s ss) (hi : s.rules[i]? = some o) :
    Calls Tryz.prog 47 #[.agg (tv :: ss).toArray, .int .i64 i] w (Judged w (ruleW t s.funcs o) (.tuple #[])) := by
  obtain ⟨hi1, hi2⟩ := List.getElem?_eq_some_iff.1 hi
  have HCH := Lib.hid (fun W (hW : Below w.heap.size w W) => checker_calls t s 7 F W tv ss (hF.below hW) (h0.below hF hW (Nat.le_refl _)) (Holds.below _ h1 hF hW (Nat.le_refl _)))
  have HOF := Lib.hid (fun (kind : Int) (n : ByteArray) (W : World) (B : Nat) (v : Value) (hck : Ck F W B t s.funcs 7 0 0 [] v) => of_calls t kind n (FB F W B) W B hck.fin hck.ckt hri ht)
  have HWN := Lib.hid (fun (l : List Ex) (lv : Value) (hr : Exs F w l lv) W (hW : Below w.heap.size w W) => when_calls t s l F W tv lv ss (hF.below hW) hri ht htab (h0.below hF hW (Nat.le_refl _)) (Holds.below _ h1 hF hW (Nat.le_refl _)) (Exs.below hr hF hW (Nat.le_refl _)))
  obtain ⟨a0, c0, rfl⟩ := h0.shape
  obtain ⟨a5, c5, a6, c6, a7, c7, a8, c8, a9, c9, a10, c10, a11, c11, a12, c12, rfl, g5, g6, g7, g8, g9, g10, g11, g12⟩ := src_shape h1
  obtain ⟨_, _, he10, hl10, hc10, h10⟩ := g10.opn
  cases he10
  obtain ⟨ob, off, rfl, hFob, hel⟩ := h10 (by omega)
  obtain ⟨cs, ⟨-, -, -, -, v4, v5, rfl, k4, k5⟩, -, hcell⟩ := hel w rfl i hi1
  rw [hi2] at k4 k5 hcell
  have hbk := fun (W : World) (B lo : Nat) (v : Value) (hW : Below w.heap.size w W) (hck : Ck F W B t s.funcs 7 0 0 [] v) (hlo : lo ≤ W.heap.size) (hB : lo ≤ B) => judgedAt (lo := lo) (block_calls t s.funcs s.objects.length hri ht htab o.body [] [] 7 0 F (fun _ => False) W B 0 v (.slice none 0 0) v5 hck (Sts.below k5 hF hW (Nat.le_refl _)) (nilStrs _ _) (fun _ h => h.elim) (by omega) (by omega) (Nat.zero_le _) (by simp)) hlo hB
  rw [List.append_nil] at hbk
  obtain ⟨p4, q4, rfl⟩ := k4.shape
  obtain ⟨p5, q5, rfl⟩ := k5.shape
  have HF := Lib.hid hF
  have hrow : Hid (∀ W, Below w.heap.size w W → ∀ j (u : Value), ([.string o.verb, .int .i64 o.phase, .string o.noun, .string o.second, .slice p4 o.cond.length q4, .slice p5 o.body.length q5] : List Value)[j]? = some u → W.cell? ⟨ob, off + i * 6 + j, none⟩ = some u) := fun W hW j u hj => (World.cell?_of_block (w := w) (a := ⟨ob, off + i * 6 + j, none⟩) (hW.block ob (hF ob hFob))).trans (hcell j u hj)
  obtain ⟨q, hq⟩ : ∃ q, ruleW t s.funcs o = q := ⟨_, rfl⟩
  rw [hq]
  have HQ : Hid (q = seqW (ofW t 5 o.verb) (seqW (neW t [o.noun, o.second]) (seqW (Ex.kWs t s.funcs [] o.cond) (St.kWs t s.funcs 7 [] 0 o.body)))) := hq.symm
  have hwn := HWN.out o.cond _ k4
  have HWN2 := Lib.hid hwn
  have HBK := Lib.hid hbk
  have hil : (i : Int) < (s.rules.length : Int) := by omega
  have hi0 : (0 : Int) ≤ (i : Int) := by omega
  have hcap : c10 ≤ 9223372036854775807 := by unfold maxLen at hc10; omega
  have hA : Hid (∃ W0, w.alloc (.cells #[.slice a0 t.length c0, .string s.title, .string s.author, .string s.start, .int .i64 s.release, .int .i64 s.most, .slice a5 s.flags.length c5, .slice a6 s.props.length c6, .slice a7 s.globals.length c7, .slice a8 s.objects.length c8, .slice a9 s.verbs.length c9, .slice (some ⟨ob, off, none⟩) s.rules.length c10, .slice a11 s.funcs.length c11, .slice a12 s.daemons.length c12] 73) = W0 ∧ Below w.heap.size w W0 ∧ BoxAt W0 w.heap.size [.slice a0 t.length c0, .string s.title, .string s.author, .string s.start, .int .i64 s.release, .int .i64 s.most, .slice a5 s.flags.length c5, .slice a6 s.props.length c6, .slice a7 s.globals.length c7, .slice a8 s.objects.length c8, .slice a9 s.verbs.length c9, .slice (some ⟨ob, off, none⟩) s.rules.length c10, .slice a11 s.funcs.length c11, .slice a12 s.daemons.length c12] ∧ w.heap.size < W0.heap.size) := ⟨_, rfl, (Below.refl _ w).alloc (Nat.le_refl _) _, BoxAt.new _ _ _, by simp⟩
  clear h0 h1 hq hF htab hri g5 g6 g7 g8 g9 g10 g11 g12 hel h10 hc10 hi hi1 hi2 ht hcell k4 k5 hbk hwn HWN
  go_enter Tryz.func47, Tryz.ntmps47
  go_upto_region 1 with fail
  obtain ⟨W0, hW0, hB0, hbox, hz0⟩ := hA.out
  rw [hW0]
  have HB0 := Lib.hid hB0
  have HBOX := Lib.hid hbox
  clear hA hW0 hB0 hbox
  have z11 := HBOX.out.2 11 (by simp)
  simp only [List.getElem?_cons_succ, List.getElem?_cons_zero] at z11
  have y0 := hrow.out W0 HB0.out 0 _ rfl
  have y1 := hrow.out W0 HB0.out 1 _ rfl
  have y2 := hrow.out W0 HB0.out 2 _ rfl
  have y3 := hrow.out W0 HB0.out 3 _ rfl
  have y4 := hrow.out W0 HB0.out 4 _ rfl
  have y5 := hrow.out W0 HB0.out 5 _ rfl
  simp only [Nat.add_zero] at y0
  have hA : Hid (∃ W1 bo, W0.alloc (.cells #[.string o.verb, .int .i64 o.phase, .string o.noun, .string o.second, .slice p4 o.cond.length q4, .slice p5 o.body.length q5] 48) = W1 ∧ W0.heap.size = bo ∧ Below W0.heap.size W0 W1 ∧ BoxAt W1 bo [.string o.verb, .int .i64 o.phase, .string o.noun, .string o.second, .slice p4 o.cond.length q4, .slice p5 o.body.length q5]) := ⟨_, _, rfl, rfl, (Below.refl _ W0).alloc (Nat.le_refl _) _, BoxAt.new _ _ _⟩
  go_upto_region 2 with fail
  obtain ⟨W1, bo, hW1, hbo, hB1, hobj⟩ := hA.out
  rw [hW1]
  simp only [hbo]
  have HB1 := Lib.hid (HB0.out.trans (hB1.mono HB0.out.size))
  have HBX1 := Lib.hid (HBOX.out.below hB1 HBOX.out.1)
  have HOBJ := Lib.hid hobj
  clear hA hW1 hbo hobj hB1 y0 y1 y2 y3 y4 y5 z11 HBOX hrow
  have hALL : Hid (∀ W, Below W1.heap.size W1 W → BoxAt W w.heap.size [.slice a0 t.length c0, .string s.title, .string s.author, .string s.start, .int .i64 s.release, .int .i64 s.most, .slice a5 s.flags.length c5, .slice a6 s.props.length c6, .slice a7 s.globals.length c7, .slice a8 s.objects.length c8, .slice a9 s.verbs.length c9, .slice (some ⟨ob, off, none⟩) s.rules.length c10, .slice a11 s.funcs.length c11, .slice a12 s.daemons.length c12] ∧ BoxAt W bo [.string o.verb, .int .i64 o.phase, .string o.noun, .string o.second, .slice p4 o.cond.length q4, .slice p5 o.body.length q5] ∧ Below w.heap.size w W) := fun W hW => ⟨HBX1.out.below hW HBX1.out.1, HOBJ.out.below hW HOBJ.out.1, HB1.out.trans (hW.mono HB1.out.size)⟩
  have hbw := HBX1.out
  have x0 := hbw.2 0 (by simp)
  have x1 := hbw.2 1 (by simp)
  have x2 := hbw.2 2 (by simp)
  have x3 := hbw.2 3 (by simp)
  have x4 := hbw.2 4 (by simp)
  have x5 := hbw.2 5 (by simp)
  have x6 := hbw.2 6 (by simp)
  have x7 := hbw.2 7 (by simp)
  have x8 := hbw.2 8 (by simp)
  have x9 := hbw.2 9 (by simp)
  have x10 := hbw.2 10 (by simp)
  have x11 := hbw.2 11 (by simp)
  have x12 := hbw.2 12 (by simp)
  have x13 := hbw.2 13 (by simp)
  simp only [List.getElem?_cons_succ, List.getElem?_cons_zero] at x0 x1 x2 x3 x4 x5 x6 x7 x8 x9 x10 x11 x12 x13
  clear hbw
  go_upto_region 3 with (go_at_call 69; refine (HCH.out _ HB1.out).mono ?_; rintro e w2 ⟨B, rfl, hB, hck, hb⟩)
  have HCK := Lib.hid hck
  have HB2 := Lib.hid hb
  have HBB : Hid (W1.heap.size ≤ B) := hB
  have hbo2 := (hALL.out w2 hb).2.1
  have y0 := hbo2.2 0 (by simp)
  simp only [List.getElem?_cons_zero] at y0
  have hof := HOF.out 5 o.verb w2 B _ hck
  generalize (ofN t 5 o.verb).1 = z1 at hof
  generalize hp1 : ofW t 5 o.verb = p1 at hof
  rw [hp1] at HQ
  clear x0 x1 x2 x3 x4 x5 x6 x7 x8 x9 x10 x11 x12 x13 hck hb hB hbo2 hp1
  by_cases hz1 : p1.1 = 0
  rotate_left
  · have hfin : Hid (q = (p1.1, p1.2)) := by show _ = _; rw [HQ.out, seqW_bad hz1]
    have HZ := Lib.hid hz1
    have HC := Lib.hid (judged_bad hof hz1)
    clear hof hz1
    go_wp2_with (go_at_call 66; refine HC.out.mono ?_; rintro e w3 ⟨rfl, hb3⟩)
    exact ⟨rfl, Judged.thrown hfin.out HZ.out rfl (hALL.out _ (HB2.out.trans (hb3.mono HB2.out.size))).2.2⟩
  have HQ1 : Hid (q = (seqW (neW t [o.noun, o.second]) (seqW (Ex.kWs t s.funcs [] o.cond) (St.kWs t s.funcs 7 [] 0 o.body)))) := by show _ = _; rw [HQ.out, seqW_fine hz1]
  have HC := Lib.hid (judged_ok hof hz1)
  clear hof hz1 HQ
  go_upto_region 4 with (go_at_call 66; refine HC.out.mono ?_; rintro e w3 ⟨rfl, hb3⟩)
  have HB3 := Lib.hid (HB2.out.trans (hb3.mono HB2.out.size))
  have HCK3 := Lib.hid (HCK.out.below hb3 (Nat.le_refl _))
  have hbo3 := (hALL.out w3 HB3.out).2.1
  have y2 := hbo3.2 2 (by simp)
  have y3 := hbo3.2 3 (by simp)
  simp only [List.getElem?_cons_succ, List.getElem?_cons_zero] at y2 y3
  have HA4 : Hid (Below w3.heap.size w3 (w3.alloc (.cells #[.string o.noun, .string o.second] 9)) ∧ ∀ W, Below (w3.alloc (.cells #[.string o.noun, .string o.second] 9)).heap.size (w3.alloc (.cells #[.string o.noun, .string o.second] 9)) W → ∀ k (hk : k < [o.noun, o.second].length), W.cell? ⟨w3.heap.size, k, none⟩ = some (.string [o.noun, o.second][k])) := ⟨(Below.refl _ w3).alloc (Nat.le_refl _) _, fun W hW k hk => by
    rw [hW.cell (p := ⟨w3.heap.size, k, none⟩) (by simp)]
    match k, hk with
    | 0, _ => simp
    | 1, _ => simp⟩
  clear hb3 hbo3 y0 HC
  go_wp2_with fail
  go_loopw [26] (fun i wr => ∃ k : Nat, k ≤ 2 ∧ i = .int .i64 k ∧ Hid (q = seqW (neW t ([o.noun, o.second].drop k)) (seqW (Ex.kWs t s.funcs [] o.cond) (St.kWs t s.funcs 7 [] 0 o.body))) ∧ Below (w3.alloc (.cells #[.string o.noun, .string o.second] 9)).heap.size (w3.alloc (.cells #[.string o.noun, .string o.second] 9)) wr) (fun i _ => 2 - (intOf i).toNat)
  case atStart => exact ⟨0, by omega, rfl, by show _ = _; rw [List.drop_zero]; exact HQ1.out, Below.refl _ _⟩
  case round =>
    obtain ⟨k, hk, rfl, hinv, hB⟩ := hrel
    have HBr := Lib.hid hB
    have h3r : Below w3.heap.size w3 wr := HA4.out.1.trans (hB.mono HA4.out.1.size)
    have HC4 := Lib.hid (HCK3.out.below h3r (Nat.le_refl _))
    have H1r := Lib.hid (HB3.out.trans (h3r.mono HB3.out.size))
    by_cases hlt : k < 2
    · have hcell := HA4.out.2 wr hB k hlt
      have hdk : neW t ([o.noun, o.second].drop k) = seqW (if [o.noun, o.second][k] = ⟨#[]⟩ then fineW else ofW t 4 [o.noun, o.second][k]) (neW t ([o.noun, o.second].drop (k + 1))) := by rw [List.drop_eq_getElem_cons (by exact hlt)]; rfl
      have hq1 := hinv.out
      rw [hdk] at hq1
      generalize [o.noun, o.second][k] = x at hcell hq1
      have hki : (k : Int) < 2 := by omega
      have hki0 : (0 : Int) ≤ (k : Int) := by omega
      have HQ2 := Lib.hid hq1
      clear hdk hinv hq1 hB h3r y2 y3
      go_upto_if 31 with fail
      generalize hbe : (!x.toList.isEmpty) = be
      rw [emp_str] at hbe
      have HBE := Lib.hid hbe
      clear hbe
      cases be
      · have hnx : Hid (q = seqW (neW t ([o.noun, o.second].drop (k + 1))) (seqW (Ex.kWs t s.funcs [] o.cond) (St.kWs t s.funcs 7 [] 0 o.body))) := by
          have hx : x = ⟨#[]⟩ := by simpa using HBE.out
          show _ = _
          rw [HQ2.out, if_pos hx, seqW_fine (a := fineW) rfl]
        clear HBE HQ2
        go_wp2_with fail
        go_roundw
        case rel => exact ⟨k + 1, by omega, by go_num, hnx.out, HBr.out⟩
        case measure => simp [intOf]; omega
      · have hx : ¬ x = ⟨#[]⟩ := by simpa using HBE.out
        have hq2 := HQ2.out
        rw [if_neg hx] at hq2
        have hof := HOF.out 4 x wr B _ HC4.out
        generalize (ofN t 4 x).1 = z1 at hof
        generalize ofW t 4 x = p2 at hof hq2
        clear HBE HQ2 hx
        by_cases hz2 : p2.1 = 0
        · have hnx : Hid (q = seqW (neW t ([o.noun, o.second].drop (k + 1))) (seqW (Ex.kWs t s.funcs [] o.cond) (St.kWs t s.funcs 7 [] 0 o.body))) := by show _ = _; rw [hq2, seqW_fine hz2]
          have HC := Lib.hid (judged_ok hof hz2)
          clear hof hz2 hq2
          go_wp2_with (go_at_call 66; refine HC.out.mono ?_; rintro e w4 ⟨rfl, hb4⟩)
          go_roundw
          case rel => exact ⟨k + 1, by omega, by go_num, hnx.out, HBr.out.trans (hb4.mono HBr.out.size)⟩
          case measure => simp [intOf]; omega
        · have hfin : Hid (q = (p2.1, p2.2)) := by show _ = _; rw [hq2, seqW_bad (by rw [seqW_bad hz2]; exact hz2), seqW_bad hz2]
          have HZ := Lib.hid hz2
          have HC := Lib.hid (judged_bad hof hz2)
          clear hof hz2 hq2
          go_wp2_with (go_at_call 66; refine HC.out.mono ?_; rintro e w4 ⟨rfl, hb4⟩)
          exact ⟨rfl, Judged.thrown hfin.out HZ.out rfl (hALL.out _ (H1r.out.trans (hb4.mono H1r.out.size))).2.2⟩
    · have HQ2 : Hid (q = (seqW (Ex.kWs t s.funcs [] o.cond) (St.kWs t s.funcs 7 [] 0 o.body))) := by show _ = _; rw [hinv.out, show k = 2 by omega]; exact seqW_fine rfl
      have hki : decide ((k : Int) < 2) = false := by simp; omega
      obtain ⟨hbw, hbo, hbt⟩ := hALL.out wr H1r.out
      have hwn := HWN2.out wr hbt
      generalize Ex.kWs t s.funcs [] o.cond = p6 at hwn HQ2
      generalize St.kWs t s.funcs 7 [] 0 o.body = p7 at HBK HQ2
      have x0 := hbw.2 0 (by simp)
      have x1 := hbw.2 1 (by simp)
      have x2 := hbw.2 2 (by simp)
      have x3 := hbw.2 3 (by simp)
      have x4 := hbw.2 4 (by simp)
      have x5 := hbw.2 5 (by simp)
      have x6 := hbw.2 6 (by simp)
      have x7 := hbw.2 7 (by simp)
      have x8 := hbw.2 8 (by simp)
      have x9 := hbw.2 9 (by simp)
      have x10 := hbw.2 10 (by simp)
      have x11 := hbw.2 11 (by simp)
      have x12 := hbw.2 12 (by simp)
      have x13 := hbw.2 13 (by simp)
      simp only [List.getElem?_cons_succ, List.getElem?_cons_zero] at x0 x1 x2 x3 x4 x5 x6 x7 x8 x9 x10 x11 x12 x13
      have y4 := hbo.2 4 (by simp)
      simp only [List.getElem?_cons_succ, List.getElem?_cons_zero] at y4
      clear hinv hB h3r y2 y3 hbw hbo hbt
      by_cases hz6 : p6.1 = 0
      rotate_left
      · have hfin : Hid (q = (p6.1, p6.2)) := by show _ = _; rw [HQ2.out, seqW_bad hz6]
        have HZ := Lib.hid hz6
        have HC := Lib.hid (judged_bad hwn hz6)
        clear hwn hz6
        go_wp2_with (go_at_call 72; refine HC.out.mono ?_; rintro e w4 ⟨rfl, hb4⟩)
        exact ⟨rfl, Judged.thrown hfin.out HZ.out rfl (hALL.out _ (H1r.out.trans (hb4.mono H1r.out.size))).2.2⟩
      have HC := Lib.hid (judged_ok hwn hz6)
      have HQ3 : Hid (q = p7) := by show _ = _; rw [HQ2.out, seqW_fine hz6]
      clear hwn hz6
      have hblk : Hid (∀ w4, Below wr.heap.size wr w4 → w4.cell? ⟨bo, 5, none⟩ = some (.slice p5 o.body.length q5) ∧ Calls Tryz.prog 39 #[.pointer (some ⟨B, 0, none⟩), .slice p5 o.body.length q5, .slice none 0 0] w4 (JudgedAt W1.heap.size w4 p7) ∧ Below W1.heap.size W1 w4) := fun w4 hb4 => by
        have h14 := H1r.out.trans (hb4.mono H1r.out.size)
        obtain ⟨-, hbo, hbt⟩ := hALL.out w4 h14
        exact ⟨hbo.2 5 (by simp), HBK.out w4 B W1.heap.size _ hbt (HC4.out.below hb4 (Nat.le_refl _)) h14.size HBB.out, h14⟩
      by_cases hz7 : p7.1 = 0
      · have HZ := Lib.hid hz7
        have HC7 := Lib.hid (fun w4 hb4 => judgedAt_ok (hblk.out w4 hb4).2.1 hz7)
        clear hz7
        go_wp2_with (first | (go_at_call 72; refine HC.out.mono ?_; rintro e w4 ⟨rfl, hb4⟩; have y5 := (hblk.out w4 hb4).1) | (go_at_call 39; refine (HC7.out w4 hb4).mono ?_; rintro e w5 ⟨rfl, hb5⟩))
        go_end0
        exact Judged.fine (by rw [HQ3.out]; exact HZ.out) rfl (hALL.out _ ((hblk.out w4 hb4).2.2.trans hb5)).2.2
      · have HZ := Lib.hid hz7
        have HC7 := Lib.hid (fun w4 hb4 => judgedAt_bad (hblk.out w4 hb4).2.1 hz7)
        clear hz7
        go_wp2_with (first | (go_at_call 72; refine HC.out.mono ?_; rintro e w4 ⟨rfl, hb4⟩; have y5 := (hblk.out w4 hb4).1) | (go_at_call 39; refine (HC7.out w4 hb4).mono ?_; rintro e w5 ⟨rfl, hb5⟩))
        exact ⟨rfl, Judged.thrown HQ3.out HZ.out rfl (hALL.out _ ((hblk.out w4 hb4).2.2.trans hb5)).2.2⟩
end Go.Proofs.YtblhpiebheommaaGreat
