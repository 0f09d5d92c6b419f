/- The walk of a whole's function. Printed by gen-kinds32.py. -/
import Derived.Test.YtblhpiebheommaaGreatKindsChecksPart26
import Derived.Test.YtblhpiebheommaaGreatKindsChecksPart5
namespace Go.Proofs.YtblhpiebheommaaGreat
open Go.RowKit

/-- What is wrong with a parameter; those ahead of it. -/
noncomputable def parW (t : List NameD) (seen : List ByteArray) (p : ByteArray) : Int × ByteArray :=
  if dec (IsName p ∧ ¬ IsKey p) = true then (if dec ((findN t p).isSome = true ∨ p ∈ seen) = true then (10, p) else fineW) else (9, p)
noncomputable def paramsW (t : List NameD) (seen : List ByteArray) : List ByteArray → Int × ByteArray
  | [] => fineW
  | p :: r => seqW (parW t seen p) (paramsW t (seen ++ [p]) r)
/-- What is wrong with a function. -/
noncomputable def funcW (t : List NameD) (fs : List FuncD) (o : FuncD) : Int × ByteArray := seqW (paramsW t [] o.params) (St.kWs t fs 8 o.params 0 o.body)

set_option maxRecDepth 100000 in
set_option maxHeartbeats 8000000 in
theorem function_calls (t : List NameD) (s : SrcD) (i : Nat) (o : FuncD) (F : Nat → Prop) (w : World) (tv : Value) (ss : List Value) (hF : Inn F w) (hri : Rises t) (ht : t.length ≤ 1000000000000) (htab : TabOk t s.funcs s.objects.length) (h0 : RdNames F w t tv) (h1 : Holds.src.R F w s ss) (hm : MX w) (hi : s.funcs[i]? = some o) (hpar : o.params.length ≤ 1000) :
    Calls Tryz.prog 48 #[.agg (tv :: ss).toArray, .int .i64 i] w (Judged w (funcW t s.funcs o) (.tuple #[])) := by
  obtain ⟨hi1, hi2⟩ := List.getElem?_eq_some_iff.1 hi
  have HCH := Lib.hid (fun W (hW : Below w.heap.size w W) => checker_calls t s 8 F W tv ss (hF.below hW) (h0.below hF hW (Nat.le_refl _)) (Holds.below _ h1 hF hW (Nat.le_refl _)))
  have HFD := Lib.hid (fun (n : ByteArray) W (hW : Below w.heap.size w W) => findT_calls t n F W tv (hF.below hW) (h0.below hF hW (Nat.le_refl _)) hri ht)
  have HKEY := Lib.hid (fun (n : ByteArray) (hn : IsName n) W (hW : Below w.heap.size w W) => keyT_calls n W hn (hm.below hW (Nat.le_refl _)))
  obtain ⟨a0, c0, rfl⟩ := h0.shape
  obtain ⟨a5, c5, a6, c6, a7, c7, a8, c8, a9, c9, a10, c10, a11, c11, a12, c12, rfl, g5, g6, g7, g8, g9, g10, g11, g12⟩ := src_shape h1
  obtain ⟨_, _, he11, hl11, hc11, h11⟩ := g11.opn
  cases he11
  obtain ⟨ob, off, rfl, hFob, hel⟩ := h11 (by omega)
  obtain ⟨cs, ⟨-, v1, v2, rfl, k1, k2⟩, -, hcell⟩ := hel w rfl i hi1
  rw [hi2] at k1 k2 hcell
  have hbk := fun (W : World) (B lo : Nat) (v : Value) (hW : Below w.heap.size w W) (hck : Ck F W B t s.funcs 8 0 0 [] v) (hlo : lo ≤ W.heap.size) (hB : lo ≤ B) => judgedAt (lo := lo) (block_calls t s.funcs s.objects.length hri ht htab o.body [] o.params 8 0 F F W B 0 v v1 v2 hck (Sts.below k2 hF hW (Nat.le_refl _)) (RdL.below k1 hF hW (Nat.le_refl _)) (hF.below hW) (by omega) (by omega) (Nat.zero_le _) (by simp; omega)) hlo hB
  rw [List.nil_append] at hbk
  obtain ⟨p1, q1, rfl⟩ := k1.shape
  obtain ⟨p2, q2, rfl⟩ := k2.shape
  have HF := Lib.hid hF
  have hrow : Hid (∀ W, Below w.heap.size w W → ∀ j (u : Value), ([.string o.name, .slice p1 o.params.length q1, .slice p2 o.body.length q2] : List Value)[j]? = some u → W.cell? ⟨ob, off + i * 3 + j, none⟩ = some u) := fun W hW j u hj => (World.cell?_of_block (w := w) (a := ⟨ob, off + i * 3 + j, none⟩) (hW.block ob (hF ob hFob))).trans (hcell j u hj)
  obtain ⟨q, hq⟩ : ∃ q, funcW t s.funcs o = q := ⟨_, rfl⟩
  rw [hq]
  have HQ : Hid (q = seqW (paramsW t [] o.params) (St.kWs t s.funcs 8 o.params 0 o.body)) := hq.symm
  have HBK := Lib.hid hbk
  have K1 := Lib.hid k1
  have hil : (i : Int) < (s.funcs.length : Int) := by omega
  have hi0 : (0 : Int) ≤ (i : Int) := by omega
  have hcap : c11 ≤ 9223372036854775807 := by unfold maxLen at hc11; omega
  have hA : Hid (∃ W0, w.alloc (.cells #[.slice a0 t.length c0, .string s.title, .string s.author, .string s.start, .int .i64 s.release, .int .i64 s.most, .slice a5 s.flags.length c5, .slice a6 s.props.length c6, .slice a7 s.globals.length c7, .slice a8 s.objects.length c8, .slice a9 s.verbs.length c9, .slice a10 s.rules.length c10, .slice (some ⟨ob, off, none⟩) s.funcs.length c11, .slice a12 s.daemons.length c12] 73) = W0 ∧ Below w.heap.size w W0 ∧ BoxAt W0 w.heap.size [.slice a0 t.length c0, .string s.title, .string s.author, .string s.start, .int .i64 s.release, .int .i64 s.most, .slice a5 s.flags.length c5, .slice a6 s.props.length c6, .slice a7 s.globals.length c7, .slice a8 s.objects.length c8, .slice a9 s.verbs.length c9, .slice a10 s.rules.length c10, .slice (some ⟨ob, off, none⟩) s.funcs.length c11, .slice a12 s.daemons.length c12] ∧ w.heap.size < W0.heap.size) := ⟨_, rfl, (Below.refl _ w).alloc (Nat.le_refl _) _, BoxAt.new _ _ _, by simp⟩
  clear h0 h1 hq hF htab hri g5 g6 g7 g8 g9 g10 g11 g12 hel h11 hc11 hi hi1 hi2 ht hcell k1 k2 hbk hm
  go_enter Tryz.func48, Tryz.ntmps48
  go_upto_region 1 with fail
  obtain ⟨W0, hW0, hB0, hbox, hz0⟩ := hA.out
  rw [hW0]
  have HB0 := Lib.hid hB0
  have HBOX := Lib.hid hbox
  clear hA hW0 hB0 hbox
  have z12 := HBOX.out.2 12 (by simp)
  simp only [List.getElem?_cons_succ, List.getElem?_cons_zero] at z12
  have y0 := hrow.out W0 HB0.out 0 _ rfl
  have y1 := hrow.out W0 HB0.out 1 _ rfl
  have y2 := hrow.out W0 HB0.out 2 _ rfl
  simp only [Nat.add_zero] at y0
  have hA : Hid (∃ W1 bo, W0.alloc (.cells #[.string o.name, .slice p1 o.params.length q1, .slice p2 o.body.length q2] 51) = W1 ∧ W0.heap.size = bo ∧ Below W0.heap.size W0 W1 ∧ BoxAt W1 bo [.string o.name, .slice p1 o.params.length q1, .slice p2 o.body.length q2]) := ⟨_, _, rfl, rfl, (Below.refl _ W0).alloc (Nat.le_refl _) _, BoxAt.new _ _ _⟩
  go_upto_region 2 with fail
  obtain ⟨W1, bo, hW1, hbo, hB1, hobj⟩ := hA.out
  rw [hW1]
  simp only [hbo]
  have HB1 := Lib.hid (HB0.out.trans (hB1.mono HB0.out.size))
  have HBX1 := Lib.hid (HBOX.out.below hB1 HBOX.out.1)
  have HOBJ := Lib.hid hobj
  clear hA hW1 hbo hobj hB1 y0 y1 y2 z12 HBOX hrow
  have hALL : Hid (∀ W, Below W1.heap.size W1 W → BoxAt W w.heap.size [.slice a0 t.length c0, .string s.title, .string s.author, .string s.start, .int .i64 s.release, .int .i64 s.most, .slice a5 s.flags.length c5, .slice a6 s.props.length c6, .slice a7 s.globals.length c7, .slice a8 s.objects.length c8, .slice a9 s.verbs.length c9, .slice a10 s.rules.length c10, .slice (some ⟨ob, off, none⟩) s.funcs.length c11, .slice a12 s.daemons.length c12] ∧ BoxAt W bo [.string o.name, .slice p1 o.params.length q1, .slice p2 o.body.length q2] ∧ Below w.heap.size w W) := fun W hW => ⟨HBX1.out.below hW HBX1.out.1, HOBJ.out.below hW HOBJ.out.1, HB1.out.trans (hW.mono HB1.out.size)⟩
  obtain ⟨_, _, he9, hl9, hc9, h9⟩ := (K1.out).opn
  cases he9
  unfold maxLen at hc9
  have y1 := HOBJ.out.2 1 (by simp)
  simp only [List.getElem?_cons_succ, List.getElem?_cons_zero] at y1
  go_wp2_with fail
  go_loopw [20] (fun i wr => ∃ k : Nat, k ≤ o.params.length ∧ i = .int .i64 k ∧ Hid (q = seqW (paramsW t (o.params.take k) (o.params.drop k)) (St.kWs t s.funcs 8 o.params 0 o.body)) ∧ Below W1.heap.size W1 wr) (fun i _ => o.params.length - (intOf i).toNat)
  case atStart => exact ⟨0, Nat.zero_le _, rfl, by show _ = _; rw [List.drop_zero, List.take_zero]; exact HQ.out, Below.refl _ _⟩
  case round =>
    clear y1
    obtain ⟨k, hk, rfl, hinv, hB⟩ := hrel
    obtain ⟨hbw, hbo, hbt⟩ := hALL.out wr hB
    have HBr := Lib.hid hB
    by_cases hlt : k < o.params.length
    · obtain ⟨pb, po, rfl, hFpb, hel9⟩ := h9 (by omega)
      have hrd : Hid (∀ W, Below w.heap.size w W → ∀ j (hj : j < o.params.length), W.cell? ⟨pb, po + j, none⟩ = some (.string o.params[j])) := fun W hW j hj => by
        obtain ⟨cs9, ⟨-, rfl⟩, -, hcell9⟩ := hel9 W (hW.block pb (HF.out pb hFpb)) j hj
        have := hcell9 0 _ rfl
        simpa using this
      have hsz : o.params[k].size ≤ maxLen := by
        obtain ⟨cs9, ⟨h1, rfl⟩, -, hcell9⟩ := hel9 w rfl k hlt
        exact h1
      have g0 := hrd.out wr hbt k hlt
      have hdk : paramsW t (o.params.take k) (o.params.drop k) = seqW (parW t (o.params.take k) o.params[k]) (paramsW t (o.params.take (k + 1)) (o.params.drop (k + 1))) := by
        rw [List.drop_eq_getElem_cons hlt, List.take_succ_eq_append_getElem hlt]; rfl
      have hq1 := hinv.out
      rw [hdk] at hq1
      unfold parW at hq1
      have hmem : Hid (∀ j (hj : j < o.params.length), o.params[j] = o.params[j]) := fun _ _ => rfl
      obtain ⟨x, hx⟩ : ∃ x, o.params[k] = x := ⟨_, rfl⟩
      rw [hx] at g0 hq1 hsz
      have hN := isName_calls x wr hsz
      have hKy := fun (hn : IsName x) => HKEY.out x hn wr hbt
      have hFd := HFD.out x wr hbt
      have hb0 := hbw.2 0 (by simp)
      have hbo1 := hbo.2 1 (by simp)
      simp only [List.getElem?_cons_succ, List.getElem?_cons_zero] at hb0 hbo1
      have hki : (k : Int) < (o.params.length : Int) := by omega
      have hki0 : (0 : Int) ≤ (k : Int) := by omega
      have hkic : (k : Int) ≤ (q1 : Int) := by omega
      have HQ2 := Lib.hid hq1
      have HBT := Lib.hid hbt
      clear hel9 h9 hdk hinv hq1 hbw hbo hbt hB hsz hx hmem
      by_cases hn : IsName x
      rotate_left
      · have hfin : Hid (q = (9, x)) := by show _ = _; rw [HQ2.out, dec_false (p := IsName x ∧ ¬ IsKey x) (fun h => hn h.1)]; rw [seqW_bad (by rw [seqW_bad (show ¬ ((9 : Int) = 0) by decide)]; exact (show ¬ ((9 : Int) = 0) by decide)), seqW_bad (show ¬ ((9 : Int) = 0) by decide)]; rfl
        rw [dec_false hn] at hN
        have HN := Lib.hid hN
        clear hN hKy hFd hn
        go_wp2_with (go_at_call 74; refine HN.out.mono ?_; rintro e w1 ⟨rfl, rfl⟩)
        exact ⟨rfl, Judged.thrown hfin.out (by decide) rfl HBT.out⟩
      have hKy := hKy hn
      rw [dec_true hn] at hN
      have HN := Lib.hid hN
      by_cases hky : IsKey x
      · have hfin : Hid (q = (9, x)) := by show _ = _; rw [HQ2.out, dec_false (p := IsName x ∧ ¬ IsKey x) (fun h => h.2 hky)]; rw [seqW_bad (by rw [seqW_bad (show ¬ ((9 : Int) = 0) by decide)]; exact (show ¬ ((9 : Int) = 0) by decide)), seqW_bad (show ¬ ((9 : Int) = 0) by decide)]; rfl
        rw [dec_true hky] at hKy
        have HK2 := Lib.hid hKy
        clear hN hKy hFd hn hky
        go_wp2_with (first | (go_at_call 74; refine HN.out.mono ?_; rintro e w1 ⟨rfl, rfl⟩) | (go_at_call 75; refine HK2.out.mono ?_; rintro e w1 ⟨rfl, rfl⟩))
        exact ⟨rfl, Judged.thrown hfin.out (by decide) rfl HBT.out⟩
      rw [dec_false hky] at hKy
      have HK2 := Lib.hid hKy
      have HQ3 : Hid (q = seqW (seqW (if dec ((findN t x).isSome = true ∨ x ∈ o.params.take k) = true then (10, x) else fineW) (paramsW t (o.params.take (k + 1)) (o.params.drop (k + 1)))) (St.kWs t s.funcs 8 o.params 0 o.body)) := by show _ = _; rw [HQ2.out, dec_true (p := IsName x ∧ ¬ IsKey x) ⟨hn, hky⟩, if_pos rfl]
      have hfd2 : ∃ (nn : ByteArray) (n1 n2 : Int), Calls Tryz.prog 76 #[.slice a0 t.length c0, .string x] wr fun e w' => e = .returned (.tuple #[.agg #[.string nn, .int .i64 n1, .int .i64 n2], .bool (findN t x).isSome]) ∧ Below wr.heap.size wr w' := by
        cases ho : findN t x with
        | none => rw [ho] at hFd; exact ⟨_, _, _, found_none hFd⟩
        | some y => rw [ho] at hFd; exact ⟨_, _, _, found_some hFd⟩
      obtain ⟨nn, n1, n2, hfd3⟩ := hfd2
      have HFX := Lib.hid hfd3
      obtain ⟨fx, hfx⟩ : ∃ fx, (findN t x).isSome = fx := ⟨_, rfl⟩
      rw [hfx] at HFX HQ3
      clear hN hKy hFd hn hky HQ2 hfd3 hfx
      go_upto_region 8 with (first | (go_at_call 74; refine HN.out.mono ?_; rintro e w1 ⟨rfl, rfl⟩) | (go_at_call 75; refine HK2.out.mono ?_; rintro e w1 ⟨rfl, rfl⟩) | (go_at_call 76; refine HFX.out.mono ?_; rintro e w1 ⟨rfl, hb1⟩))
      have hA : Hid (∃ wx, w1.alloc (.cells #[.string nn, .int .i64 n1, .int .i64 n2] 63) = wx ∧ Below W1.heap.size W1 wx) := ⟨_, rfl, (HBr.out.trans (hb1.mono HBr.out.size)).alloc (HBr.out.trans (hb1.mono HBr.out.size)).size _⟩
      obtain ⟨wx, hwx, hBx⟩ := hA.out
      rw [hwx]
      have HBx := Lib.hid hBx
      have hbo2 := (hALL.out wx hBx).2.1
      have yb := hbo2.2 1 (by simp)
      simp only [List.getElem?_cons_succ, List.getElem?_cons_zero] at yb
      clear hA hwx hBx hb1 hbo2 hbo1 hb0 g0 HBr HBT
      go_wp2_with fail
      obtain ⟨wo, rfl⟩ : ∃ wo : World, wo = wr := ⟨_, rfl⟩
      go_loopw [8, 47] (fun b i wr => ∃ (j : Nat) (R : Bool), j ≤ k ∧ i = .int .i64 j ∧ b = .bool R ∧ Hid (R = dec (fx = true ∨ x ∈ o.params.take j)) ∧ Below wx.heap.size wx wr) (fun _ i _ => k - (intOf i).toNat)
      case atStart => exact ⟨0, fx, Nat.zero_le _, rfl, rfl, by show _ = _; cases fx; exact (dec_false (by simp)).symm; exact (dec_true (by simp)).symm, Below.refl _ _⟩
      case round =>
        obtain ⟨j, R, hj, rfl, rfl, hinv, hB⟩ := hrel
        have HBj := Lib.hid hB
        have hBj1 : Below W1.heap.size W1 wr := HBx.out.trans (hB.mono HBx.out.size)
        have HBj1 := Lib.hid hBj1
        have hbt2 := (hALL.out wr hBj1).2.2
        by_cases hlt4 : j < k
        · have hjl : j < o.params.length := by omega
          have e0 := hrd.out wr hbt2 j hjl
          have htk : o.params.take (j + 1) = o.params.take j ++ [o.params[j]] := List.take_succ_eq_append_getElem hjl
          have hnx0 : dec (fx = true ∨ x ∈ o.params.take (j + 1)) = (R || decide (o.params[j] = x)) := by
            rw [hinv.out, htk]
            by_cases h1 : fx = true ∨ x ∈ o.params.take j
            · rw [dec_true h1, dec_true (h1.imp id (fun h => List.mem_append_left _ h))]; rfl
            · rw [dec_false h1, Bool.false_or]
              by_cases h2 : o.params[j] = x
              · rw [dec_true (.inr (List.mem_append_right _ (by simp [h2])))]; simp [h2]
              · rw [dec_false (fun h => h.elim (fun h => h1 (.inl h)) fun h => (List.mem_append.1 h).elim (fun h => h1 (.inr h)) fun h => h2 (List.mem_singleton.1 h).symm)]; simp [h2]
          generalize o.params[j] = y at e0 hnx0
          have HNX := Lib.hid hnx0
          have hji : (j : Int) < (k : Int) := by omega
          have hji0 : (0 : Int) ≤ (j : Int) := by omega
          clear hinv hB hBj1 hbt2 htk hnx0
          cases R
          · obtain ⟨be, hbe⟩ : ∃ be, (y.toList == x.toList) = be := ⟨_, rfl⟩
            have HBE : Hid (dec (fx = true ∨ x ∈ o.params.take (j + 1)) = be) := by show _ = _; rw [HNX.out, Bool.false_or, ← hbe, beq_str]
            clear HNX
            go_wp2_with fail
            go_roundw
            case rel => exact ⟨j + 1, be, by omega, by go_num, rfl, HBE.out.symm, HBj.out⟩
            case measure => simp [intOf]; omega
          · have HBE : Hid (dec (fx = true ∨ x ∈ o.params.take (j + 1)) = true) := by show _ = _; rw [HNX.out]; rfl
            clear HNX
            go_wp2_with fail
            go_roundw
            case rel => exact ⟨j + 1, true, by omega, by go_num, rfl, HBE.out.symm, HBj.out⟩
            case measure => simp [intOf]; omega
        · have hR : R = dec (fx = true ∨ x ∈ o.params.take k) := by rw [hinv.out, show j = k by omega]
          have hji : decide ((j : Int) < (k : Int)) = false := by simpa using hlt4
          have HBT2 := Lib.hid hbt2
          have hq3 := HQ3.out
          rw [← hR] at hq3
          clear hinv hB hBj1 hbt2 hR yb
          cases R
          · have hnx : Hid (q = seqW (paramsW t (o.params.take (k + 1)) (o.params.drop (k + 1))) (St.kWs t s.funcs 8 o.params 0 o.body)) := by show _ = _; rw [hq3, if_neg (by simp), seqW_fine (a := fineW) rfl]
            clear hq3
            go_wp2_with fail
            go_roundw
            case rel => exact ⟨k + 1, by omega, by go_num, hnx.out, HBj1.out⟩
            case measure => simp [intOf]; omega
          · have hfin : Hid (q = (10, x)) := by show _ = _; rw [hq3, if_pos rfl, seqW_bad (by rw [seqW_bad (show ¬ ((10 : Int) = 0) by decide)]; exact (show ¬ ((10 : Int) = 0) by decide)), seqW_bad (show ¬ ((10 : Int) = 0) by decide)]
            clear hq3
            go_wp2_with fail
            exact ⟨rfl, Judged.thrown hfin.out (by decide) rfl HBT2.out⟩
    · have HQ2 : Hid (q = (St.kWs t s.funcs 8 o.params 0 o.body)) := by show _ = _; rw [hinv.out, List.drop_eq_nil_of_le (by omega)]; exact seqW_fine rfl
      have hki : decide ((k : Int) < (o.params.length : Int)) = false := by simpa using hlt
      generalize St.kWs t s.funcs 8 o.params 0 o.body = p at HBK HQ2
      have HBT := Lib.hid hbt
      clear hinv hB hbw hbo hbt h9
      go_upto_region 16 with fail
      refine wp_region_held_drew (S := fun W => Below wr.heap.size wr W) (by kernel_rfl) (Below.refl _ _).drew (fun hHeld => ?_)
      refine wpAnyH_take (i := 0) (v := .agg #[.slice a0 t.length c0, .string s.title, .string s.author, .string s.start, .int .i64 s.release, .int .i64 s.most, .slice a5 s.flags.length c5, .slice a6 s.props.length c6, .slice a7 s.globals.length c7, .slice a8 s.objects.length c8, .slice a9 s.verbs.length c9, .slice a10 s.rules.length c10, .slice (some ⟨ob, off, none⟩) s.funcs.length c11, .slice a12 s.daemons.length c12]) rfl (by kernel_rfl) (by kernel_rfl) (by kernel_rfl) (fun _ _ _ h => h) (Or.inl ⟨by rfl, ?_⟩) (by assumption) ?_
      · intro W hW
        obtain ⟨hb, -, -⟩ := hALL.out W (HBr.out.trans (hW.mono HBr.out.size))
        have x0 := hb.2 0 (by simp)
        have x1 := hb.2 1 (by simp)
        have x2 := hb.2 2 (by simp)
        have x3 := hb.2 3 (by simp)
        have x4 := hb.2 4 (by simp)
        have x5 := hb.2 5 (by simp)
        have x6 := hb.2 6 (by simp)
        have x7 := hb.2 7 (by simp)
        have x8 := hb.2 8 (by simp)
        have x9 := hb.2 9 (by simp)
        have x10 := hb.2 10 (by simp)
        have x11 := hb.2 11 (by simp)
        have x12 := hb.2 12 (by simp)
        have x13 := hb.2 13 (by simp)
        simp only [List.getElem?_cons_succ, List.getElem?_cons_zero] at x0 x1 x2 x3 x4 x5 x6 x7 x8 x9 x10 x11 x12 x13
        go_simp
      simp only [Act.put]
      refine wpAnyH_take (i := 2) (v := .pointer (some ⟨bo, 2, none⟩)) rfl (by kernel_rfl) (by kernel_rfl) (by kernel_rfl) (fun _ _ _ h => h) (Or.inl ⟨by rfl, ?_⟩) (by assumption) ?_
      · intro W hW
        go_simp
      simp only [Act.put]
      refine wpAnyH_take (i := 3) (v := .slice p2 o.body.length q2) rfl (by kernel_rfl) (by kernel_rfl) (by kernel_rfl) (fun _ _ _ h => h) (Or.inl ⟨by rfl, ?_⟩) (by assumption) ?_
      · intro W hW
        obtain ⟨-, hb, -⟩ := hALL.out W (HBr.out.trans (hW.mono HBr.out.size))
        have y2 := hb.2 2 (by simp)
        simp only [List.getElem?_cons_succ, List.getElem?_cons_zero] at y2
        go_simp
      simp only [Act.put]
      refine wpAnyH_take (i := 4) (v := .pointer (some ⟨bo, 1, none⟩)) rfl (by kernel_rfl) (by kernel_rfl) (by kernel_rfl) (fun _ _ _ h => h) (Or.inl ⟨by rfl, ?_⟩) (by assumption) ?_
      · intro W hW
        go_simp
      simp only [Act.put]
      refine wpAnyH_take (i := 5) (v := .slice p1 o.params.length q1) rfl (by kernel_rfl) (by kernel_rfl) (by kernel_rfl) (fun _ _ _ h => h) (Or.inl ⟨by rfl, ?_⟩) (by assumption) ?_
      · intro W hW
        obtain ⟨-, hb, -⟩ := hALL.out W (HBr.out.trans (hW.mono HBr.out.size))
        have y2 := hb.2 1 (by simp)
        simp only [List.getElem?_cons_succ, List.getElem?_cons_zero] at y2
        go_simp
      simp only [Act.put]
      refine wpAnyH_ready (rs := [1]) (by kernel_rfl) (by simp) ?_
      refine AllReadyH.cons rfl (fun K hK => ?_) AllReadyH.nil
      go_simp
      refine (HCH.out _ HBT.out.drew).mono ?_
      rintro e w1 ⟨B, rfl, hB, hck, hb⟩
      have hb1 : Below wr.heap.size wr w1 := (Below.refl _ wr).drew.trans hb
      have hww : Below w.heap.size w w1 := HBT.out.trans (hb1.mono HBT.out.size)
      refine hK.out _ _ hb1 (fun hHeld => ?_)
      clear hK K
      refine wpAnyH_ready (rs := [6]) (by kernel_rfl) (by simp) ?_
      refine AllReadyH.cons rfl (fun K hK => ?_) AllReadyH.nil
      go_simp
      by_cases hz : p.1 = 0
      · refine (judgedAt_ok (HBK.out w1 B wr.heap.size _ hww hck hb1.size hB) hz).mono ?_
        rintro e w2 ⟨rfl, hb2⟩
        have hb12 : Below wr.heap.size wr w2 := hb1.trans hb2
        refine hK.out _ _ hb12 (fun hHeld => ?_)
        clear hK K
        refine wpAnyH_done (by kernel_rfl) ?_ _
        have HZ := Lib.hid (And.intro hz (HBT.out.trans (hb12.mono HBT.out.size)))
        clear hz hb hb1 hb2 hb12 hck hww hB
        go_wp2_with fail
        go_end0
        exact Judged.fine (by rw [HQ2.out]; exact HZ.out.1) rfl HZ.out.2
      · refine (judgedAt_bad (HBK.out w1 B wr.heap.size _ hww hck hb1.size hB) hz).mono ?_
        rintro e w2 ⟨rfl, hb2⟩
        exact ⟨rfl, Judged.thrown HQ2.out hz rfl (HBT.out.trans ((hb1.trans hb2).mono HBT.out.size))⟩
end Go.Proofs.YtblhpiebheommaaGreat
