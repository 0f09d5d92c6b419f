/- clewref50's put. Printed by gen-ac17.py. -/
import Derived.Test.YtapjglpiofpbmaaGreatPart46f35c3f
namespace Go.Proofs.YtapjglpiofpbmaaGreat
open Go.RowKit Go.Sort

theorem heldB {P : Program} {ops : Array Oper} {Q : Exit → Act → World → Prop} {S : World → Prop} {id : Nat} {a : Act} {w : World} (hm : P.follows .mixedOrders = true) (hS : S w.drew)
    (h : ∀ v, S v → wpAnyH P .any ops Q S ops.size (Array.replicate ops.size false) a v) : (Code.region id ops true).wp P Q a w :=
  wp_region_held_drew hm hS (fun h' => h _ h')
set_option maxRecDepth 100000 in
set_option maxHeartbeats 8000000 in
theorem put50_calls (F : Nat → Prop) (w : World) (l : List CmdD) (lv : Value) (c : CmdD) (hF : Inn F w) (hl : RdCmds F w l lv) (hr : l.Pairwise CmdD.lt) (hlen : l.length ≤ 2000000000) (hc : c.Fit) (hpr : ProperSl lv) :
    Calls Tryz.prog 26 #[lv, c.val] w (fun e w' => ∃ v, e = .returned v ∧ ((v = lv ∧ putC l c = l) ∨ OwnC w.heap.size w' (putC l c) v) ∧ Below w.heap.size w w') := by
  have HAT := Lib.hid (fun i (hi : i ≤ l.length) h1 h2 => putC_at (l := l) (c := c) hr i hi h1 h2)
  have HRT : Hid (∀ i j (hij : i < j) (hj : j < l.length), l[i].lt l[j]) := fun i j hij hj => List.pairwise_iff_getElem.1 hr i j (by omega) hj hij
  have HLV := Lib.hid hl
  obtain ⟨lad, lcap, rfl, hcap, hcap2, hel⟩ := hl.elem hF
  unfold maxLen at hcap2
  have HEL := Lib.hid hel
  have HPR : Hid ((lad = none ∧ l.length = 0 ∧ lcap = 0) ∨ ∃ b off, lad = some ⟨b, off, none⟩) := by
    rcases hpr with e | ⟨b, off, n, cp, e⟩
    · injection e with e1 e2 e3
      exact .inl ⟨e1, e2, e3⟩
    · injection e with e1 e2 e3
      exact .inr ⟨b, off, e1⟩
  clear hpr
  obtain ⟨P, hP⟩ : ∃ p, putC l c = p := ⟨_, rfl⟩
  rw [hP]
  have HPP := Lib.hid hP
  have HFC := Lib.hid hc
  obtain ⟨W1, hW1⟩ : ∃ z, w.alloc (.cells #[.int .i64 c.verb, .int .i64 c.noun, .int .i64 c.second, .int .i64 c.number, .int .i64 c.dir] 38) = z := ⟨_, rfl⟩
  have hb1 : Below w.heap.size w W1 := by rw [← hW1]; exact (Below.refl _ _).alloc (Nat.le_refl _) _
  have hx1 : BoxT W1 w.heap.size [.int .i64 c.verb, .int .i64 c.noun, .int .i64 c.second, .int .i64 c.number, .int .i64 c.dir] 38 := by rw [← hW1]; exact BoxT.new _ _ _
  have HW1 := Lib.hid hW1; have HBv := Lib.hid hb1; have HXv := Lib.hid hx1
  obtain ⟨cv, hcv⟩ : ∃ v, c.val = v := ⟨_, rfl⟩
  have HLC : Hid (∀ W, BoxT W w.heap.size [.int .i64 c.verb, .int .i64 c.noun, .int .i64 c.second, .int .i64 c.number, .int .i64 c.dir] 38 → (Instr.loadAt 38 (.pointer (some ⟨w.heap.size, 0, none⟩))).run Tryz.prog W = .ok cv W) := fun W h => by
    rw [← hcv]
    exact run_loadAt_mid W _ 0 38 _ _ h.range Tryz.underlying38 rfl (by kernel_rfl)
  have HLS := Lib.hid (fun (a : CmdD) W => less50_calls c a W)
  have HEQ := Lib.hid (fun (a : CmdD) W => cmd_eql a c W)
  have HEG := Lib.hid (fun (a : CmdD) W x y => cmd_guard .eql x y a c W)
  clear hW1 hb1 hx1 hl hel hc hP hr
  unfold CmdD.val
  go_enter Tryz.func26, Tryz.ntmps26
  go_upto_region 1 with fail
  rw [HW1.out]
  have hcv' : Value.agg #[.int .i64 c.verb, .int .i64 c.noun, .int .i64 c.second, .int .i64 c.number, .int .i64 c.dir] = cv := hcv
  rw [hcv']
  have HLS1 : Hid (∀ (a : CmdD) W, Calls Tryz.prog 58 #[cv, a.val] W (Gives W (.bool (decide (c.lt a))))) := fun a W => hcv ▸ HLS.out a W
  have HEQ1 : Hid (∀ (a : CmdD) W, (binOp .eql 38 a.val cv).run Tryz.prog W = .ok (.bool (decide (a = c))) W) := fun a W => hcv ▸ HEQ.out a W
  have HEG1 : Hid (∀ (a : CmdD) W x y, (eqGuard .eql 38 x y a.val cv).run Tryz.prog W = .ok () W) := fun a W x y => hcv ▸ HEG.out a W x y
  have HCV := Lib.hid hcv
  clear hcv hcv' HLS HEQ HEG HW1
  have HX1 := HXv; have HB1 := HBv
  clear HXv HBv
  go_wp2
  go_loopw [5] (fun iv wr => ∃ (i : Nat), i ≤ l.length ∧ iv = .int .i64 i ∧ Hid (∀ j (hj : j < l.length), i ≤ j → c.lt l[j]) ∧ Below W1.heap.size W1 wr) (fun iv _ => (intOf iv).toNat)
  case atStart => exact ⟨l.length, Nat.le_refl _, rfl, fun j hj h => by omega, Below.refl _ _⟩
  case round =>
    obtain ⟨i, hi, rfl, HHI, hB⟩ := hrel
    have HXv := Lib.hid (HX1.out.below hB)
    have HBv := Lib.hid (btK HB1.out hB)
    have HBL := Lib.hid hB
    clear hB
    by_cases h0 : i = 0
    · subst h0
      go_upto_region 2 with fail
      refine wp_region_quiet_below (by kernel_rfl) (by kernel_rfl) ?_
      (try dsimp only [List.append])
      repeat (first | go_big_quiet_step (fail))
      with_reducible refine wpQuiet_nil ?_
      intro w3 hw3
      have hb3 := below_of_regrown hw3
      clear hw3
      have HBa := Lib.hid (HBL.out.trans (hb3.mono HBL.out.size))
      clear hb3
      have HFIN : Hid (P = l.take 0 ++ c :: l.drop 0) := by
        show _ = _
        rw [← HPP.out, HAT.out 0 (by omega) (fun j hj h => by omega) HHI.out, if_neg (fun ⟨h, _⟩ => by omega)]
      rcases HPR.out with ⟨rfl, hnil, rfl⟩ | ⟨b0, off, rfl⟩
      · go_upto_region 4 with fail
        refine wp_region_quiet_below (by kernel_rfl) (by kernel_rfl) ?_
        (try dsimp only [List.append])
        repeat (first | go_big_quiet_step (fail))
        with_reducible refine wpQuiet_nil ?_
        intro w3 hw3
        have hb3 := below_of_regrown hw3
        clear hw3
        have HB4 := Lib.hid (HBa.out.trans (hb3.mono HBa.out.size))
        have HX9 := Lib.hid (HX1.out.below HB4.out)
        have HV9 := Lib.hid (btK HB1.out HB4.out)
        clear hb3
        have HSR1 : Hid (∀ W, Below w.heap.size w W → RdCmds F W (l.take (0)) (.slice none 0 0) ∧ RdCmds F W (l.drop (0)) (.slice none 0 0)) := fun W h => by
          have h9 := RdL.below HLV.out hF h (Nat.le_refl _)
          have hl0 : l = [] := List.eq_nil_of_length_eq_zero hnil
          subst hl0
          exact ⟨RdL.nil _ _ _ _ _ _ (Nat.zero_le _), RdL.nil _ _ _ _ _ _ (Nat.zero_le _)⟩
        have hcv9 := HCV.out
        subst hcv9
        unfold CmdD.val
        go_upto_region 6 with fail
        refine heldB (S := fun W => Below w3.heap.size w3 W) (by kernel_rfl) (Below.refl _ _).drew (fun x hHeld => ?_)
        refine wpAnyH_take (i := 1) (oi := ⟨_, _, _, _, _, _⟩) (v := ?_) rfl (by kernel_rfl) (by kernel_rfl) (by kernel_rfl) (fun _ _ _ h => h) (Or.inl ⟨by kernel_rfl, ?_⟩) (by assumption) ?_
        rotate_left
        · intro W hW
          go_simp
          (try with_reducible rfl)
        simp only [Act.put, List.setIfInBounds_toArray, List.set_cons_succ, List.set_cons_zero]
        refine wpAnyH_take (i := 2) (oi := ⟨_, _, _, _, _, _⟩) (v := ?_) rfl (by kernel_rfl) (by kernel_rfl) (by kernel_rfl) (fun _ _ _ h => h) (Or.inl ⟨by kernel_rfl, ?_⟩) (by assumption) ?_
        rotate_left
        · intro W hW
          go_simp
          (try with_reducible rfl)
        simp only [Act.put, List.setIfInBounds_toArray, List.set_cons_succ, List.set_cons_zero]
        refine wpAnyH_take (i := 3) (oi := ⟨_, _, _, _, _, _⟩) (v := ?_) rfl (by kernel_rfl) (by kernel_rfl) (by kernel_rfl) (fun _ _ _ h => h) (Or.inl ⟨by kernel_rfl, ?_⟩) (by assumption) ?_
        rotate_left
        · intro W hW
          go_simp
          (try with_reducible rfl)
        simp only [Act.put, List.setIfInBounds_toArray, List.set_cons_succ, List.set_cons_zero]
        refine wpAnyH_take (i := 5) (oi := ⟨_, _, _, _, _, _⟩) (v := .agg #[.int .i64 c.verb, .int .i64 c.noun, .int .i64 c.second, .int .i64 c.number, .int .i64 c.dir]) rfl (by kernel_rfl) (by kernel_rfl) (by kernel_rfl) (fun _ _ _ h => h) (Or.inl ⟨by kernel_rfl, ?_⟩) (by assumption) ?_
        · intro W hW
          exact load_run 38 (.tmp 3) rfl ⟨w.heap.size, 0, none⟩ rfl _ W (HLC.out _ (HX9.out.below hW))
        simp only [Act.put, List.setIfInBounds_toArray, List.set_cons_succ, List.set_cons_zero]
        refine wpAnyH_take (i := 8) (oi := ⟨_, _, _, _, _, _⟩) (v := ?_) rfl (by kernel_rfl) (by kernel_rfl) (by kernel_rfl) (fun _ _ _ h => h) (Or.inl ⟨by kernel_rfl, ?_⟩) (by assumption) ?_
        rotate_left
        · intro W hW
          go_simp
          (try with_reducible rfl)
        simp only [Act.put, List.setIfInBounds_toArray, List.set_cons_succ, List.set_cons_zero]
        refine wpAnyH_take (i := 9) (oi := ⟨_, _, _, _, _, _⟩) (v := ?_) rfl (by kernel_rfl) (by kernel_rfl) (by kernel_rfl) (fun _ _ _ h => h) (Or.inl ⟨by kernel_rfl, ?_⟩) (by assumption) ?_
        rotate_left
        · intro W hW
          go_simp
          (try with_reducible rfl)
        simp only [Act.put, List.setIfInBounds_toArray, List.set_cons_succ, List.set_cons_zero]
        refine wpAnyH_take (i := 10) (oi := ⟨_, _, _, _, _, _⟩) (v := ?_) rfl (by kernel_rfl) (by kernel_rfl) (by kernel_rfl) (fun _ _ _ h => h) (Or.inl ⟨by kernel_rfl, ?_⟩) (by assumption) ?_
        rotate_left
        · intro W hW
          go_simp
          (try with_reducible rfl)
        simp only [Act.put, List.setIfInBounds_toArray, List.set_cons_succ, List.set_cons_zero]
        refine wpAnyH_ready (rs := [0, 6]) (by kernel_rfl) (by simp) ?_
        refine AllReadyH.cons rfl (fun K hK => ?_) (AllReadyH.cons rfl (fun K hK => ?_) (AllReadyH.nil))
        · go_simp
          obtain ⟨x1, hx⟩ : ∃ X, x.alloc (.cells #[] 38) = X := ⟨_, rfl⟩
          rw [hx]
          have ha : Below x.heap.size x x1 := by rw [← hx]; exact (Below.refl _ _).alloc (Nat.le_refl _) _
          have ho1 : OwnC w3.heap.size x1 [] (.slice (some ⟨x.heap.size, 0, none⟩) 0 0) := by rw [← hx]; exact (own_empty x).lower hHeld.size
          have H1 := btK hHeld ha
          have hlt1 : x.heap.size < x1.heap.size := by rw [← hx]; simp
          refine hK.out _ _ H1 (fun _ => ?_)
          clear hK K hx ha
          refine wpAnyH_ready (rs := [4, 6]) (by kernel_rfl) (by simp) ?_
          refine AllReadyH.cons rfl (fun K hK => ?_) (AllReadyH.cons rfl (fun K hK => ?_) (AllReadyH.nil))
          · refine step_app rfl (.tmp 33) (.tmp 36) 35 rfl _ _ (fun v' w' => OwnC w3.heap.size w' ([] ++ (l.take (0))) v' ∧ Below w3.heap.size x1 w' ∧ Grows x1 w' (.slice (some ⟨x.heap.size, 0, none⟩) 0 0) v') rfl rfl (cmds_app ho1 (HSR1.out _ (btK HV9.out H1)).1 (fun _ => .inl rfl) H1.size (by simp only [List.length_nil, List.length_take]; omega) _) ?_
            rintro v2 x2 ⟨ho2, ha, hg⟩
            have H2 := H1.trans ha
            refine hK.out _ _ H2 (fun _ => ?_)
            clear hK K ha hg
            refine wpAnyH_ready (rs := [6]) (by kernel_rfl) (by simp) ?_
            refine AllReadyH.cons rfl (fun K hK => ?_) (AllReadyH.nil)
            · go_simp
              obtain ⟨x3, hx⟩ : ∃ X, x2.alloc (.cells #[.int .i64 c.verb, .int .i64 c.noun, .int .i64 c.second, .int .i64 c.number, .int .i64 c.dir] 38) = X := ⟨_, rfl⟩
              rw [hx]
              have ha : Below x2.heap.size x2 x3 := by rw [← hx]; exact (Below.refl _ _).alloc (Nat.le_refl _) _
              have hb3 : BoxT x3 x2.heap.size [.int .i64 c.verb, .int .i64 c.noun, .int .i64 c.second, .int .i64 c.number, .int .i64 c.dir] 38 := by rw [← hx]; exact BoxT.new _ _ _
              have hlt3 : x2.heap.size < x3.heap.size := by rw [← hx]; simp
              have H3 := btK H2 ha
              have ho3 := ho2.below ha
              have hne3 := fun g (e : Value.ownBlock v2 = some g) => (own_lt ho2 g e).2
              refine hK.out _ _ H3 (fun _ => ?_)
              clear hK K hx ha
              refine wpAnyH_ready (rs := [7]) (by kernel_rfl) (by simp) ?_
              refine AllReadyH.cons rfl (fun K hK => ?_) (AllReadyH.nil)
              · refine step_app rfl (.tmp 37) (.tmp 39) 35 rfl _ _ (fun v' w' => OwnC w3.heap.size w' (([] ++ (l.take (0))) ++ [c]) v' ∧ Below w3.heap.size x3 w' ∧ Grows x3 w' v2 v') rfl rfl (cmds_app ho3 (box_cmds hb3 HFC.out) (fun e => absurd e (by simp)) H3.size (by simp only [List.length_append, List.length_cons, List.length_nil, List.length_take]; omega) _) ?_
                rintro v4 x4 ⟨ho4, ha, hg⟩
                have H4 := H3.trans ha
                refine hK.out _ _ H4 (fun _ => ?_)
                clear hK K ha hg
                refine wpAnyH_ready (rs := [11]) (by kernel_rfl) (by simp) ?_
                refine AllReadyH.cons rfl (fun K hK => ?_) (AllReadyH.nil)
                · refine step_app rfl (.tmp 40) (.tmp 43) 35 rfl _ _ (fun v' w' => OwnC w3.heap.size w' ((([] ++ (l.take (0))) ++ [c]) ++ (l.drop (0))) v' ∧ Below w3.heap.size x4 w' ∧ Grows x4 w' v4 v') rfl rfl (cmds_app ho4 (HSR1.out _ (btK HV9.out H4)).2 (fun _ => .inl rfl) H4.size (by simp only [List.length_append, List.length_cons, List.length_nil, List.length_take, List.length_drop]; omega) _) ?_
                  rintro v5 x5 ⟨ho5, ha, hg⟩
                  have H5 := H4.trans ha
                  refine hK.out _ _ H5 (fun _ => ?_)
                  clear hK K ha hg
                  refine wpAnyH_take (i := 12) (oi := ⟨_, _, _, _, _, _⟩) (v := ?_) rfl (by kernel_rfl) (by kernel_rfl) (by kernel_rfl) (fun _ _ _ h => h) (Or.inl ⟨by kernel_rfl, ?_⟩) (by assumption) ?_
                  rotate_left
                  · intro W hW
                    go_simp
                    (try with_reducible rfl)
                  simp only [Act.put, List.setIfInBounds_toArray]
                  refine wpAnyH_done (by kernel_rfl) ?_ _
                  go_simp
                  go_wp2
                  all_goals
                    go_ret
                    exact ⟨_, rfl, .inr (by rw [HFIN.out, List.append_cons]; exact ho5.lower (by have := HV9.out.size; omega)), btK HV9.out H5⟩
          · go_simp
            obtain ⟨x6, hx⟩ : ∃ X, x1.alloc (.cells #[.int .i64 c.verb, .int .i64 c.noun, .int .i64 c.second, .int .i64 c.number, .int .i64 c.dir] 38) = X := ⟨_, rfl⟩
            rw [hx]
            have ha : Below x1.heap.size x1 x6 := by rw [← hx]; exact (Below.refl _ _).alloc (Nat.le_refl _) _
            have hb6 : BoxT x6 x1.heap.size [.int .i64 c.verb, .int .i64 c.noun, .int .i64 c.second, .int .i64 c.number, .int .i64 c.dir] 38 := by rw [← hx]; exact BoxT.new _ _ _
            have hlt6 : x1.heap.size < x6.heap.size := by rw [← hx]; simp
            have H6 := btK H1 ha
            have ho6 := ho1.below ha
            have hne6 := fun g (e : Value.ownBlock (.slice (some ⟨x.heap.size, 0, none⟩) 0 0) = some g) => (own_lt ho1 g e).2
            refine hK.out _ _ H6 (fun _ => ?_)
            clear hK K hx ha
            refine wpAnyH_ready (rs := [4]) (by kernel_rfl) (by simp) ?_
            refine AllReadyH.cons rfl (fun K hK => ?_) (AllReadyH.nil)
            · refine step_app rfl (.tmp 33) (.tmp 36) 35 rfl _ _ (fun v' w' => OwnC w3.heap.size w' ([] ++ (l.take (0))) v' ∧ Below w3.heap.size x6 w' ∧ Grows x6 w' (.slice (some ⟨x.heap.size, 0, none⟩) 0 0) v') rfl rfl (cmds_app ho6 (HSR1.out _ (btK HV9.out H6)).1 (fun _ => .inl rfl) H6.size (by simp only [List.length_nil, List.length_take]; omega) _) ?_
              rintro v7 x7 ⟨ho7, ha, hg⟩
              have H7 := H6.trans ha
              have hb7 := hg.box hb6 (fun e => by simp [Value.ownBlock] at e; omega)
              refine hK.out _ _ H7 (fun _ => ?_)
              clear hK K ha hg
              refine wpAnyH_ready (rs := [7]) (by kernel_rfl) (by simp) ?_
              refine AllReadyH.cons rfl (fun K hK => ?_) (AllReadyH.nil)
              · refine step_app rfl (.tmp 37) (.tmp 39) 35 rfl _ _ (fun v' w' => OwnC w3.heap.size w' (([] ++ (l.take (0))) ++ [c]) v' ∧ Below w3.heap.size x7 w' ∧ Grows x7 w' v7 v') rfl rfl (cmds_app ho7 (box_cmds hb7 HFC.out) (fun e => absurd e (by simp)) H7.size (by simp only [List.length_append, List.length_cons, List.length_nil, List.length_take]; omega) _) ?_
                rintro v8 x8 ⟨ho8, ha, hg⟩
                have H8 := H7.trans ha
                refine hK.out _ _ H8 (fun _ => ?_)
                clear hK K ha hg
                refine wpAnyH_ready (rs := [11]) (by kernel_rfl) (by simp) ?_
                refine AllReadyH.cons rfl (fun K hK => ?_) (AllReadyH.nil)
                · refine step_app rfl (.tmp 40) (.tmp 43) 35 rfl _ _ (fun v' w' => OwnC w3.heap.size w' ((([] ++ (l.take (0))) ++ [c]) ++ (l.drop (0))) v' ∧ Below w3.heap.size x8 w' ∧ Grows x8 w' v8 v') rfl rfl (cmds_app ho8 (HSR1.out _ (btK HV9.out H8)).2 (fun _ => .inl rfl) H8.size (by simp only [List.length_append, List.length_cons, List.length_nil, List.length_take, List.length_drop]; omega) _) ?_
                  rintro v9 x9 ⟨ho9, ha, hg⟩
                  have H9 := H8.trans ha
                  refine hK.out _ _ H9 (fun _ => ?_)
                  clear hK K ha hg
                  refine wpAnyH_take (i := 12) (oi := ⟨_, _, _, _, _, _⟩) (v := ?_) rfl (by kernel_rfl) (by kernel_rfl) (by kernel_rfl) (fun _ _ _ h => h) (Or.inl ⟨by kernel_rfl, ?_⟩) (by assumption) ?_
                  rotate_left
                  · intro W hW
                    go_simp
                    (try with_reducible rfl)
                  simp only [Act.put, List.setIfInBounds_toArray]
                  refine wpAnyH_done (by kernel_rfl) ?_ _
                  go_simp
                  go_wp2
                  all_goals
                    go_ret
                    exact ⟨_, rfl, .inr (by rw [HFIN.out, List.append_cons]; exact ho9.lower (by have := HV9.out.size; omega)), btK HV9.out H9⟩
        · go_simp
          obtain ⟨x10, hx⟩ : ∃ X, x.alloc (.cells #[.int .i64 c.verb, .int .i64 c.noun, .int .i64 c.second, .int .i64 c.number, .int .i64 c.dir] 38) = X := ⟨_, rfl⟩
          rw [hx]
          have ha : Below x.heap.size x x10 := by rw [← hx]; exact (Below.refl _ _).alloc (Nat.le_refl _) _
          have hb10 : BoxT x10 x.heap.size [.int .i64 c.verb, .int .i64 c.noun, .int .i64 c.second, .int .i64 c.number, .int .i64 c.dir] 38 := by rw [← hx]; exact BoxT.new _ _ _
          have hlt10 : x.heap.size < x10.heap.size := by rw [← hx]; simp
          have H10 := btK hHeld ha
          refine hK.out _ _ H10 (fun _ => ?_)
          clear hK K hx ha
          refine wpAnyH_ready (rs := [0]) (by kernel_rfl) (by simp) ?_
          refine AllReadyH.cons rfl (fun K hK => ?_) (AllReadyH.nil)
          · go_simp
            obtain ⟨x11, hx⟩ : ∃ X, x10.alloc (.cells #[] 38) = X := ⟨_, rfl⟩
            rw [hx]
            have ha : Below x10.heap.size x10 x11 := by rw [← hx]; exact (Below.refl _ _).alloc (Nat.le_refl _) _
            have ho11 : OwnC w3.heap.size x11 [] (.slice (some ⟨x10.heap.size, 0, none⟩) 0 0) := by rw [← hx]; exact (own_empty x10).lower H10.size
            have H11 := btK H10 ha
            have hlt11 : x10.heap.size < x11.heap.size := by rw [← hx]; simp
            have hb11 := hb10.below ha
            refine hK.out _ _ H11 (fun _ => ?_)
            clear hK K hx ha
            refine wpAnyH_ready (rs := [4]) (by kernel_rfl) (by simp) ?_
            refine AllReadyH.cons rfl (fun K hK => ?_) (AllReadyH.nil)
            · refine step_app rfl (.tmp 33) (.tmp 36) 35 rfl _ _ (fun v' w' => OwnC w3.heap.size w' ([] ++ (l.take (0))) v' ∧ Below w3.heap.size x11 w' ∧ Grows x11 w' (.slice (some ⟨x10.heap.size, 0, none⟩) 0 0) v') rfl rfl (cmds_app ho11 (HSR1.out _ (btK HV9.out H11)).1 (fun _ => .inl rfl) H11.size (by simp only [List.length_nil, List.length_take]; omega) _) ?_
              rintro v12 x12 ⟨ho12, ha, hg⟩
              have H12 := H11.trans ha
              have hb12 := hg.box hb11 (fun e => by simp [Value.ownBlock] at e; omega)
              refine hK.out _ _ H12 (fun _ => ?_)
              clear hK K ha hg
              refine wpAnyH_ready (rs := [7]) (by kernel_rfl) (by simp) ?_
              refine AllReadyH.cons rfl (fun K hK => ?_) (AllReadyH.nil)
              · refine step_app rfl (.tmp 37) (.tmp 39) 35 rfl _ _ (fun v' w' => OwnC w3.heap.size w' (([] ++ (l.take (0))) ++ [c]) v' ∧ Below w3.heap.size x12 w' ∧ Grows x12 w' v12 v') rfl rfl (cmds_app ho12 (box_cmds hb12 HFC.out) (fun e => absurd e (by simp)) H12.size (by simp only [List.length_append, List.length_cons, List.length_nil, List.length_take]; omega) _) ?_
                rintro v13 x13 ⟨ho13, ha, hg⟩
                have H13 := H12.trans ha
                refine hK.out _ _ H13 (fun _ => ?_)
                clear hK K ha hg
                refine wpAnyH_ready (rs := [11]) (by kernel_rfl) (by simp) ?_
                refine AllReadyH.cons rfl (fun K hK => ?_) (AllReadyH.nil)
                · refine step_app rfl (.tmp 40) (.tmp 43) 35 rfl _ _ (fun v' w' => OwnC w3.heap.size w' ((([] ++ (l.take (0))) ++ [c]) ++ (l.drop (0))) v' ∧ Below w3.heap.size x13 w' ∧ Grows x13 w' v13 v') rfl rfl (cmds_app ho13 (HSR1.out _ (btK HV9.out H13)).2 (fun _ => .inl rfl) H13.size (by simp only [List.length_append, List.length_cons, List.length_nil, List.length_take, List.length_drop]; omega) _) ?_
                  rintro v14 x14 ⟨ho14, ha, hg⟩
                  have H14 := H13.trans ha
                  refine hK.out _ _ H14 (fun _ => ?_)
                  clear hK K ha hg
                  refine wpAnyH_take (i := 12) (oi := ⟨_, _, _, _, _, _⟩) (v := ?_) rfl (by kernel_rfl) (by kernel_rfl) (by kernel_rfl) (fun _ _ _ h => h) (Or.inl ⟨by kernel_rfl, ?_⟩) (by assumption) ?_
                  rotate_left
                  · intro W hW
                    go_simp
                    (try with_reducible rfl)
                  simp only [Act.put, List.setIfInBounds_toArray]
                  refine wpAnyH_done (by kernel_rfl) ?_ _
                  go_simp
                  go_wp2
                  all_goals
                    go_ret
                    exact ⟨_, rfl, .inr (by rw [HFIN.out, List.append_cons]; exact ho14.lower (by have := HV9.out.size; omega)), btK HV9.out H14⟩
      · go_upto_region 4 with fail
        refine wp_region_quiet_below (by kernel_rfl) (by kernel_rfl) ?_
        (try dsimp only [List.append])
        repeat (first | go_big_quiet_step (fail))
        with_reducible refine wpQuiet_nil ?_
        intro w3 hw3
        have hb3 := below_of_regrown hw3
        clear hw3
        have HB4 := Lib.hid (HBa.out.trans (hb3.mono HBa.out.size))
        have HX9 := Lib.hid (HX1.out.below HB4.out)
        have HV9 := Lib.hid (btK HB1.out HB4.out)
        clear hb3
        have HSR1 : Hid (∀ W, Below w.heap.size w W → RdCmds F W (l.take (0)) (.slice (some ⟨b0, off, none⟩) (0) lcap) ∧ RdCmds F W (l.drop (0)) (.slice (some ⟨b0, off + (0) * 5, none⟩) (l.length - (0)) (lcap - (0)))) := fun W h => by
          have h9 := RdL.below HLV.out hF h (Nat.le_refl _)
          exact ⟨RdL.takeS h9 (0) (by omega), RdL.dropS h9 (0) (by omega)⟩
        have hcv9 := HCV.out
        subst hcv9
        unfold CmdD.val
        go_upto_region 6 with fail
        refine heldB (S := fun W => Below w3.heap.size w3 W) (by kernel_rfl) (Below.refl _ _).drew (fun x hHeld => ?_)
        refine wpAnyH_take (i := 1) (oi := ⟨_, _, _, _, _, _⟩) (v := ?_) rfl (by kernel_rfl) (by kernel_rfl) (by kernel_rfl) (fun _ _ _ h => h) (Or.inl ⟨by kernel_rfl, ?_⟩) (by assumption) ?_
        rotate_left
        · intro W hW
          go_simp
          (try with_reducible rfl)
        simp only [Act.put, List.setIfInBounds_toArray, List.set_cons_succ, List.set_cons_zero]
        refine wpAnyH_take (i := 2) (oi := ⟨_, _, _, _, _, _⟩) (v := ?_) rfl (by kernel_rfl) (by kernel_rfl) (by kernel_rfl) (fun _ _ _ h => h) (Or.inl ⟨by kernel_rfl, ?_⟩) (by assumption) ?_
        rotate_left
        · intro W hW
          go_simp
          (try with_reducible rfl)
        simp only [Act.put, List.setIfInBounds_toArray, List.set_cons_succ, List.set_cons_zero]
        refine wpAnyH_take (i := 3) (oi := ⟨_, _, _, _, _, _⟩) (v := ?_) rfl (by kernel_rfl) (by kernel_rfl) (by kernel_rfl) (fun _ _ _ h => h) (Or.inl ⟨by kernel_rfl, ?_⟩) (by assumption) ?_
        rotate_left
        · intro W hW
          go_simp
          (try with_reducible rfl)
        simp only [Act.put, List.setIfInBounds_toArray, List.set_cons_succ, List.set_cons_zero]
        refine wpAnyH_take (i := 5) (oi := ⟨_, _, _, _, _, _⟩) (v := .agg #[.int .i64 c.verb, .int .i64 c.noun, .int .i64 c.second, .int .i64 c.number, .int .i64 c.dir]) rfl (by kernel_rfl) (by kernel_rfl) (by kernel_rfl) (fun _ _ _ h => h) (Or.inl ⟨by kernel_rfl, ?_⟩) (by assumption) ?_
        · intro W hW
          exact load_run 38 (.tmp 3) rfl ⟨w.heap.size, 0, none⟩ rfl _ W (HLC.out _ (HX9.out.below hW))
        simp only [Act.put, List.setIfInBounds_toArray, List.set_cons_succ, List.set_cons_zero]
        refine wpAnyH_take (i := 8) (oi := ⟨_, _, _, _, _, _⟩) (v := ?_) rfl (by kernel_rfl) (by kernel_rfl) (by kernel_rfl) (fun _ _ _ h => h) (Or.inl ⟨by kernel_rfl, ?_⟩) (by assumption) ?_
        rotate_left
        · intro W hW
          go_simp
          (try with_reducible rfl)
        simp only [Act.put, List.setIfInBounds_toArray, List.set_cons_succ, List.set_cons_zero]
        refine wpAnyH_take (i := 9) (oi := ⟨_, _, _, _, _, _⟩) (v := ?_) rfl (by kernel_rfl) (by kernel_rfl) (by kernel_rfl) (fun _ _ _ h => h) (Or.inl ⟨by kernel_rfl, ?_⟩) (by assumption) ?_
        rotate_left
        · intro W hW
          go_simp
          (try with_reducible rfl)
        simp only [Act.put, List.setIfInBounds_toArray, List.set_cons_succ, List.set_cons_zero]
        refine wpAnyH_take (i := 10) (oi := ⟨_, _, _, _, _, _⟩) (v := ?_) rfl (by kernel_rfl) (by kernel_rfl) (by kernel_rfl) (fun _ _ _ h => h) (Or.inl ⟨by kernel_rfl, ?_⟩) (by assumption) ?_
        rotate_left
        · intro W hW
          go_simp
          (try with_reducible rfl)
        simp only [Act.put, List.setIfInBounds_toArray, List.set_cons_succ, List.set_cons_zero]
        refine wpAnyH_ready (rs := [0, 6]) (by kernel_rfl) (by simp) ?_
        refine AllReadyH.cons rfl (fun K hK => ?_) (AllReadyH.cons rfl (fun K hK => ?_) (AllReadyH.nil))
        · go_simp
          obtain ⟨x1, hx⟩ : ∃ X, x.alloc (.cells #[] 38) = X := ⟨_, rfl⟩
          rw [hx]
          have ha : Below x.heap.size x x1 := by rw [← hx]; exact (Below.refl _ _).alloc (Nat.le_refl _) _
          have ho1 : OwnC w3.heap.size x1 [] (.slice (some ⟨x.heap.size, 0, none⟩) 0 0) := by rw [← hx]; exact (own_empty x).lower hHeld.size
          have H1 := btK hHeld ha
          have hlt1 : x.heap.size < x1.heap.size := by rw [← hx]; simp
          refine hK.out _ _ H1 (fun _ => ?_)
          clear hK K hx ha
          refine wpAnyH_ready (rs := [4, 6]) (by kernel_rfl) (by simp) ?_
          refine AllReadyH.cons rfl (fun K hK => ?_) (AllReadyH.cons rfl (fun K hK => ?_) (AllReadyH.nil))
          · refine step_app rfl (.tmp 33) (.tmp 36) 35 rfl _ _ (fun v' w' => OwnC w3.heap.size w' ([] ++ (l.take (0))) v' ∧ Below w3.heap.size x1 w' ∧ Grows x1 w' (.slice (some ⟨x.heap.size, 0, none⟩) 0 0) v') rfl rfl (cmds_app ho1 (HSR1.out _ (btK HV9.out H1)).1 (fun e => .inr ⟨b0, off, lcap, congrArg (fun q => Value.slice (some ⟨b0, off, none⟩) q lcap) (by first | rfl | (rw [List.length_take] at e; omega))⟩) H1.size (by simp only [List.length_nil, List.length_take]; omega) _) ?_
            rintro v2 x2 ⟨ho2, ha, hg⟩
            have H2 := H1.trans ha
            refine hK.out _ _ H2 (fun _ => ?_)
            clear hK K ha hg
            refine wpAnyH_ready (rs := [6]) (by kernel_rfl) (by simp) ?_
            refine AllReadyH.cons rfl (fun K hK => ?_) (AllReadyH.nil)
            · go_simp
              obtain ⟨x3, hx⟩ : ∃ X, x2.alloc (.cells #[.int .i64 c.verb, .int .i64 c.noun, .int .i64 c.second, .int .i64 c.number, .int .i64 c.dir] 38) = X := ⟨_, rfl⟩
              rw [hx]
              have ha : Below x2.heap.size x2 x3 := by rw [← hx]; exact (Below.refl _ _).alloc (Nat.le_refl _) _
              have hb3 : BoxT x3 x2.heap.size [.int .i64 c.verb, .int .i64 c.noun, .int .i64 c.second, .int .i64 c.number, .int .i64 c.dir] 38 := by rw [← hx]; exact BoxT.new _ _ _
              have hlt3 : x2.heap.size < x3.heap.size := by rw [← hx]; simp
              have H3 := btK H2 ha
              have ho3 := ho2.below ha
              have hne3 := fun g (e : Value.ownBlock v2 = some g) => (own_lt ho2 g e).2
              refine hK.out _ _ H3 (fun _ => ?_)
              clear hK K hx ha
              refine wpAnyH_ready (rs := [7]) (by kernel_rfl) (by simp) ?_
              refine AllReadyH.cons rfl (fun K hK => ?_) (AllReadyH.nil)
              · refine step_app rfl (.tmp 37) (.tmp 39) 35 rfl _ _ (fun v' w' => OwnC w3.heap.size w' (([] ++ (l.take (0))) ++ [c]) v' ∧ Below w3.heap.size x3 w' ∧ Grows x3 w' v2 v') rfl rfl (cmds_app ho3 (box_cmds hb3 HFC.out) (fun e => absurd e (by simp)) H3.size (by simp only [List.length_append, List.length_cons, List.length_nil, List.length_take]; omega) _) ?_
                rintro v4 x4 ⟨ho4, ha, hg⟩
                have H4 := H3.trans ha
                refine hK.out _ _ H4 (fun _ => ?_)
                clear hK K ha hg
                refine wpAnyH_ready (rs := [11]) (by kernel_rfl) (by simp) ?_
                refine AllReadyH.cons rfl (fun K hK => ?_) (AllReadyH.nil)
                · refine step_app rfl (.tmp 40) (.tmp 43) 35 rfl _ _ (fun v' w' => OwnC w3.heap.size w' ((([] ++ (l.take (0))) ++ [c]) ++ (l.drop (0))) v' ∧ Below w3.heap.size x4 w' ∧ Grows x4 w' v4 v') rfl rfl (cmds_app ho4 (HSR1.out _ (btK HV9.out H4)).2 (fun e => .inr ⟨b0, off + (0) * 5, lcap - (0), congrArg (fun q => Value.slice (some ⟨b0, off + (0) * 5, none⟩) q (lcap - (0))) (by first | rfl | (rw [List.length_drop] at e; omega))⟩) H4.size (by simp only [List.length_append, List.length_cons, List.length_nil, List.length_take, List.length_drop]; omega) _) ?_
                  rintro v5 x5 ⟨ho5, ha, hg⟩
                  have H5 := H4.trans ha
                  refine hK.out _ _ H5 (fun _ => ?_)
                  clear hK K ha hg
                  refine wpAnyH_take (i := 12) (oi := ⟨_, _, _, _, _, _⟩) (v := ?_) rfl (by kernel_rfl) (by kernel_rfl) (by kernel_rfl) (fun _ _ _ h => h) (Or.inl ⟨by kernel_rfl, ?_⟩) (by assumption) ?_
                  rotate_left
                  · intro W hW
                    go_simp
                    (try with_reducible rfl)
                  simp only [Act.put, List.setIfInBounds_toArray]
                  refine wpAnyH_done (by kernel_rfl) ?_ _
                  go_simp
                  go_wp2
                  all_goals
                    go_ret
                    exact ⟨_, rfl, .inr (by rw [HFIN.out, List.append_cons]; exact ho5.lower (by have := HV9.out.size; omega)), btK HV9.out H5⟩
          · go_simp
            obtain ⟨x6, hx⟩ : ∃ X, x1.alloc (.cells #[.int .i64 c.verb, .int .i64 c.noun, .int .i64 c.second, .int .i64 c.number, .int .i64 c.dir] 38) = X := ⟨_, rfl⟩
            rw [hx]
            have ha : Below x1.heap.size x1 x6 := by rw [← hx]; exact (Below.refl _ _).alloc (Nat.le_refl _) _
            have hb6 : BoxT x6 x1.heap.size [.int .i64 c.verb, .int .i64 c.noun, .int .i64 c.second, .int .i64 c.number, .int .i64 c.dir] 38 := by rw [← hx]; exact BoxT.new _ _ _
            have hlt6 : x1.heap.size < x6.heap.size := by rw [← hx]; simp
            have H6 := btK H1 ha
            have ho6 := ho1.below ha
            have hne6 := fun g (e : Value.ownBlock (.slice (some ⟨x.heap.size, 0, none⟩) 0 0) = some g) => (own_lt ho1 g e).2
            refine hK.out _ _ H6 (fun _ => ?_)
            clear hK K hx ha
            refine wpAnyH_ready (rs := [4]) (by kernel_rfl) (by simp) ?_
            refine AllReadyH.cons rfl (fun K hK => ?_) (AllReadyH.nil)
            · refine step_app rfl (.tmp 33) (.tmp 36) 35 rfl _ _ (fun v' w' => OwnC w3.heap.size w' ([] ++ (l.take (0))) v' ∧ Below w3.heap.size x6 w' ∧ Grows x6 w' (.slice (some ⟨x.heap.size, 0, none⟩) 0 0) v') rfl rfl (cmds_app ho6 (HSR1.out _ (btK HV9.out H6)).1 (fun e => .inr ⟨b0, off, lcap, congrArg (fun q => Value.slice (some ⟨b0, off, none⟩) q lcap) (by first | rfl | (rw [List.length_take] at e; omega))⟩) H6.size (by simp only [List.length_nil, List.length_take]; omega) _) ?_
              rintro v7 x7 ⟨ho7, ha, hg⟩
              have H7 := H6.trans ha
              have hb7 := hg.box hb6 (fun e => by simp [Value.ownBlock] at e; omega)
              refine hK.out _ _ H7 (fun _ => ?_)
              clear hK K ha hg
              refine wpAnyH_ready (rs := [7]) (by kernel_rfl) (by simp) ?_
              refine AllReadyH.cons rfl (fun K hK => ?_) (AllReadyH.nil)
              · refine step_app rfl (.tmp 37) (.tmp 39) 35 rfl _ _ (fun v' w' => OwnC w3.heap.size w' (([] ++ (l.take (0))) ++ [c]) v' ∧ Below w3.heap.size x7 w' ∧ Grows x7 w' v7 v') rfl rfl (cmds_app ho7 (box_cmds hb7 HFC.out) (fun e => absurd e (by simp)) H7.size (by simp only [List.length_append, List.length_cons, List.length_nil, List.length_take]; omega) _) ?_
                rintro v8 x8 ⟨ho8, ha, hg⟩
                have H8 := H7.trans ha
                refine hK.out _ _ H8 (fun _ => ?_)
                clear hK K ha hg
                refine wpAnyH_ready (rs := [11]) (by kernel_rfl) (by simp) ?_
                refine AllReadyH.cons rfl (fun K hK => ?_) (AllReadyH.nil)
                · refine step_app rfl (.tmp 40) (.tmp 43) 35 rfl _ _ (fun v' w' => OwnC w3.heap.size w' ((([] ++ (l.take (0))) ++ [c]) ++ (l.drop (0))) v' ∧ Below w3.heap.size x8 w' ∧ Grows x8 w' v8 v') rfl rfl (cmds_app ho8 (HSR1.out _ (btK HV9.out H8)).2 (fun e => .inr ⟨b0, off + (0) * 5, lcap - (0), congrArg (fun q => Value.slice (some ⟨b0, off + (0) * 5, none⟩) q (lcap - (0))) (by first | rfl | (rw [List.length_drop] at e; omega))⟩) H8.size (by simp only [List.length_append, List.length_cons, List.length_nil, List.length_take, List.length_drop]; omega) _) ?_
                  rintro v9 x9 ⟨ho9, ha, hg⟩
                  have H9 := H8.trans ha
                  refine hK.out _ _ H9 (fun _ => ?_)
                  clear hK K ha hg
                  refine wpAnyH_take (i := 12) (oi := ⟨_, _, _, _, _, _⟩) (v := ?_) rfl (by kernel_rfl) (by kernel_rfl) (by kernel_rfl) (fun _ _ _ h => h) (Or.inl ⟨by kernel_rfl, ?_⟩) (by assumption) ?_
                  rotate_left
                  · intro W hW
                    go_simp
                    (try with_reducible rfl)
                  simp only [Act.put, List.setIfInBounds_toArray]
                  refine wpAnyH_done (by kernel_rfl) ?_ _
                  go_simp
                  go_wp2
                  all_goals
                    go_ret
                    exact ⟨_, rfl, .inr (by rw [HFIN.out, List.append_cons]; exact ho9.lower (by have := HV9.out.size; omega)), btK HV9.out H9⟩
        · go_simp
          obtain ⟨x10, hx⟩ : ∃ X, x.alloc (.cells #[.int .i64 c.verb, .int .i64 c.noun, .int .i64 c.second, .int .i64 c.number, .int .i64 c.dir] 38) = X := ⟨_, rfl⟩
          rw [hx]
          have ha : Below x.heap.size x x10 := by rw [← hx]; exact (Below.refl _ _).alloc (Nat.le_refl _) _
          have hb10 : BoxT x10 x.heap.size [.int .i64 c.verb, .int .i64 c.noun, .int .i64 c.second, .int .i64 c.number, .int .i64 c.dir] 38 := by rw [← hx]; exact BoxT.new _ _ _
          have hlt10 : x.heap.size < x10.heap.size := by rw [← hx]; simp
          have H10 := btK hHeld ha
          refine hK.out _ _ H10 (fun _ => ?_)
          clear hK K hx ha
          refine wpAnyH_ready (rs := [0]) (by kernel_rfl) (by simp) ?_
          refine AllReadyH.cons rfl (fun K hK => ?_) (AllReadyH.nil)
          · go_simp
            obtain ⟨x11, hx⟩ : ∃ X, x10.alloc (.cells #[] 38) = X := ⟨_, rfl⟩
            rw [hx]
            have ha : Below x10.heap.size x10 x11 := by rw [← hx]; exact (Below.refl _ _).alloc (Nat.le_refl _) _
            have ho11 : OwnC w3.heap.size x11 [] (.slice (some ⟨x10.heap.size, 0, none⟩) 0 0) := by rw [← hx]; exact (own_empty x10).lower H10.size
            have H11 := btK H10 ha
            have hlt11 : x10.heap.size < x11.heap.size := by rw [← hx]; simp
            have hb11 := hb10.below ha
            refine hK.out _ _ H11 (fun _ => ?_)
            clear hK K hx ha
            refine wpAnyH_ready (rs := [4]) (by kernel_rfl) (by simp) ?_
            refine AllReadyH.cons rfl (fun K hK => ?_) (AllReadyH.nil)
            · refine step_app rfl (.tmp 33) (.tmp 36) 35 rfl _ _ (fun v' w' => OwnC w3.heap.size w' ([] ++ (l.take (0))) v' ∧ Below w3.heap.size x11 w' ∧ Grows x11 w' (.slice (some ⟨x10.heap.size, 0, none⟩) 0 0) v') rfl rfl (cmds_app ho11 (HSR1.out _ (btK HV9.out H11)).1 (fun e => .inr ⟨b0, off, lcap, congrArg (fun q => Value.slice (some ⟨b0, off, none⟩) q lcap) (by first | rfl | (rw [List.length_take] at e; omega))⟩) H11.size (by simp only [List.length_nil, List.length_take]; omega) _) ?_
              rintro v12 x12 ⟨ho12, ha, hg⟩
              have H12 := H11.trans ha
              have hb12 := hg.box hb11 (fun e => by simp [Value.ownBlock] at e; omega)
              refine hK.out _ _ H12 (fun _ => ?_)
              clear hK K ha hg
              refine wpAnyH_ready (rs := [7]) (by kernel_rfl) (by simp) ?_
              refine AllReadyH.cons rfl (fun K hK => ?_) (AllReadyH.nil)
              · refine step_app rfl (.tmp 37) (.tmp 39) 35 rfl _ _ (fun v' w' => OwnC w3.heap.size w' (([] ++ (l.take (0))) ++ [c]) v' ∧ Below w3.heap.size x12 w' ∧ Grows x12 w' v12 v') rfl rfl (cmds_app ho12 (box_cmds hb12 HFC.out) (fun e => absurd e (by simp)) H12.size (by simp only [List.length_append, List.length_cons, List.length_nil, List.length_take]; omega) _) ?_
                rintro v13 x13 ⟨ho13, ha, hg⟩
                have H13 := H12.trans ha
                refine hK.out _ _ H13 (fun _ => ?_)
                clear hK K ha hg
                refine wpAnyH_ready (rs := [11]) (by kernel_rfl) (by simp) ?_
                refine AllReadyH.cons rfl (fun K hK => ?_) (AllReadyH.nil)
                · refine step_app rfl (.tmp 40) (.tmp 43) 35 rfl _ _ (fun v' w' => OwnC w3.heap.size w' ((([] ++ (l.take (0))) ++ [c]) ++ (l.drop (0))) v' ∧ Below w3.heap.size x13 w' ∧ Grows x13 w' v13 v') rfl rfl (cmds_app ho13 (HSR1.out _ (btK HV9.out H13)).2 (fun e => .inr ⟨b0, off + (0) * 5, lcap - (0), congrArg (fun q => Value.slice (some ⟨b0, off + (0) * 5, none⟩) q (lcap - (0))) (by first | rfl | (rw [List.length_drop] at e; omega))⟩) H13.size (by simp only [List.length_append, List.length_cons, List.length_nil, List.length_take, List.length_drop]; omega) _) ?_
                  rintro v14 x14 ⟨ho14, ha, hg⟩
                  have H14 := H13.trans ha
                  refine hK.out _ _ H14 (fun _ => ?_)
                  clear hK K ha hg
                  refine wpAnyH_take (i := 12) (oi := ⟨_, _, _, _, _, _⟩) (v := ?_) rfl (by kernel_rfl) (by kernel_rfl) (by kernel_rfl) (fun _ _ _ h => h) (Or.inl ⟨by kernel_rfl, ?_⟩) (by assumption) ?_
                  rotate_left
                  · intro W hW
                    go_simp
                    (try with_reducible rfl)
                  simp only [Act.put, List.setIfInBounds_toArray]
                  refine wpAnyH_done (by kernel_rfl) ?_ _
                  go_simp
                  go_wp2
                  all_goals
                    go_ret
                    exact ⟨_, rfl, .inr (by rw [HFIN.out, List.append_cons]; exact ho14.lower (by have := HV9.out.size; omega)), btK HV9.out H14⟩
    obtain ⟨m, rfl⟩ : ∃ m, i = m + 1 := ⟨i - 1, by omega⟩
    clear h0
    obtain ⟨b0, off, rfl, hel⟩ := HEL.out (by omega)
    obtain ⟨xs, -, ⟨-, -, -, -, -, rfl⟩, hrg⟩ := hel m (by omega)
    obtain ⟨ev, hev⟩ : ∃ v, (l[m]'(by omega)).val = v := ⟨_, rfl⟩
    have HLE : Hid (∀ W, Below w.heap.size w W → (Instr.loadAt 38 (.pointer (some ⟨b0, off + m * 5, none⟩))).run Tryz.prog W = .ok ev W) := fun W h => by
      rw [← hev]
      exact run_loadAt_mid W b0 (off + m * 5) 38 _ _ (hrg W h) Tryz.underlying38 rfl (by kernel_rfl)
    have gls := HLS1.out (l[m]'(by omega))
    have q1 := HEQ1.out (l[m]'(by omega))
    have q2 := HEG1.out (l[m]'(by omega))
    rw [hev] at gls q1 q2
    have hm0 : (0 : Int) ≤ (m : Int) := by omega
    have hm1 : (m : Int) < (l.length : Int) := by omega
    have hm2 : (m : Int) ≤ 2000000000 := by omega
    clear hel hrg
    by_cases hlt : c.lt (l[m]'(by omega))
    · rw [decide_eq_true hlt] at gls
      have HHN : Hid (∀ j (hj : j < l.length), m ≤ j → c.lt l[j]) := fun j hj hmj => by
        by_cases e : j = m
        · subst e; exact hlt
        · exact HHI.out j hj (by omega)
      have g1 := regrownG (w := wr) fun w' h => gls w'
      have G1 := Lib.hid g1
      clear g1 gls hlt q1 q2
      go_upto_region 2 with fail
      have hlc : ∀ W, (∃ p : Regrown, W = grow (redrawn wr p.d) p.os) → (Instr.loadAt 38 (.pointer (some ⟨w.heap.size, 0, none⟩))).run Tryz.prog W = .ok cv W := fun W h => HLC.out _ (HXv.out.below (below_of_regrown h))
      have QC := Lib.hid hlc
      have hle : ∀ W, (∃ p : Regrown, W = grow (redrawn wr p.d) p.os) → (Instr.loadAt 38 (.pointer (some ⟨b0, off + m * 5, none⟩))).run Tryz.prog W = .ok ev W := fun W h => HLE.out _ (btK HBv.out (below_of_regrown h))
      have QE := Lib.hid hle
      clear hlc hle
      refine wp_region_quiet_below (by kernel_rfl) (by kernel_rfl) ?_
      (try dsimp only [List.append])
      repeat (first | (go_big_quiet_want; (refine quiet_load 38 _ (by rfl) _ (by rfl) cv (fun W hW => QC.out W hW) ?_); simp only [Act.put, List.setIfInBounds_toArray, List.set_cons_succ, List.set_cons_zero]; go_big_quiet_on) | (go_big_quiet_want; (refine quiet_load 38 _ (by rfl) _ (by rfl) ev (fun W hW => QE.out W hW) ?_); simp only [Act.put, List.setIfInBounds_toArray, List.set_cons_succ, List.set_cons_zero]; go_big_quiet_on) | go_big_quiet_step (first | with_reducible exact G1.out _))
      with_reducible refine wpQuiet_nil ?_
      intro w3 hw3
      have hb3 := below_of_regrown hw3
      clear hw3
      go_wp2
      go_roundw
      case rel => exact ⟨m, by omega, by go_num, HHN.out, HBL.out.trans (hb3.mono HBL.out.size)⟩
      case measure => simp [intOf] <;> omega
    rw [decide_eq_false hlt] at gls
    have g1 := regrownG (w := wr) fun w' h => gls w'
    have G1 := Lib.hid g1
    have HNL := Lib.hid hlt
    clear g1 gls hlt
    go_upto_region 2 with fail
    have hlc : ∀ W, (∃ p : Regrown, W = grow (redrawn wr p.d) p.os) → (Instr.loadAt 38 (.pointer (some ⟨w.heap.size, 0, none⟩))).run Tryz.prog W = .ok cv W := fun W h => HLC.out _ (HXv.out.below (below_of_regrown h))
    have QC := Lib.hid hlc
    have hle : ∀ W, (∃ p : Regrown, W = grow (redrawn wr p.d) p.os) → (Instr.loadAt 38 (.pointer (some ⟨b0, off + m * 5, none⟩))).run Tryz.prog W = .ok ev W := fun W h => HLE.out _ (btK HBv.out (below_of_regrown h))
    have QE := Lib.hid hle
    clear hlc hle
    refine wp_region_quiet_below (by kernel_rfl) (by kernel_rfl) ?_
    (try dsimp only [List.append])
    repeat (first | (go_big_quiet_want; (refine quiet_load 38 _ (by rfl) _ (by rfl) cv (fun W hW => QC.out W hW) ?_); simp only [Act.put, List.setIfInBounds_toArray, List.set_cons_succ, List.set_cons_zero]; go_big_quiet_on) | (go_big_quiet_want; (refine quiet_load 38 _ (by rfl) _ (by rfl) ev (fun W hW => QE.out W hW) ?_); simp only [Act.put, List.setIfInBounds_toArray, List.set_cons_succ, List.set_cons_zero]; go_big_quiet_on) | go_big_quiet_step (first | with_reducible exact G1.out _))
    with_reducible refine wpQuiet_nil ?_
    intro w3 hw3
    have hb3 := below_of_regrown hw3
    clear hw3
    have HBa := Lib.hid (HBL.out.trans (hb3.mono HBL.out.size))
    have HB3 := Lib.hid (HBL.out.trans (hb3.mono HBL.out.size))
    clear hb3
    have HX3 := Lib.hid (HX1.out.below HB3.out)
    have HV3 := Lib.hid (btK HB1.out HB3.out)
    go_upto_region 4 with fail
    by_cases heq : l[m]'(by omega) = c
    · have HFIN : Hid (P = l) := by
        show _ = _
        rw [← HPP.out, HAT.out (m + 1) (by omega) (fun j hj h => ?_) HHI.out, if_pos ⟨by omega, heq⟩]
        by_cases hjm : j = m
        · subst hjm; exact HNL.out h
        · exact HNL.out (CmdD.lt_trans h (HRT.out j m (by omega) (by omega)))
      rw [decide_eq_true heq] at q1
      clear heq
      have hlc : ∀ W, (∃ p : Regrown, W = grow (redrawn w3 p.d) p.os) → (Instr.loadAt 38 (.pointer (some ⟨w.heap.size, 0, none⟩))).run Tryz.prog W = .ok cv W := fun W h => HLC.out _ (HX3.out.below (below_of_regrown h))
      have QC := Lib.hid hlc
      have hle : ∀ W, (∃ p : Regrown, W = grow (redrawn w3 p.d) p.os) → (Instr.loadAt 38 (.pointer (some ⟨b0, off + m * 5, none⟩))).run Tryz.prog W = .ok ev W := fun W h => HLE.out _ (btK HV3.out (below_of_regrown h))
      have QE := Lib.hid hle
      clear hlc hle
      refine wp_region_quiet_below (by kernel_rfl) (by kernel_rfl) ?_
      (try dsimp only [List.append])
      repeat (first | (go_big_quiet_want; (refine quiet_load 38 _ (by rfl) _ (by rfl) cv (fun W hW => QC.out W hW) ?_); simp only [Act.put, List.setIfInBounds_toArray, List.set_cons_succ, List.set_cons_zero]; go_big_quiet_on) | (go_big_quiet_want; (refine quiet_load 38 _ (by rfl) _ (by rfl) ev (fun W hW => QE.out W hW) ?_); simp only [Act.put, List.setIfInBounds_toArray, List.set_cons_succ, List.set_cons_zero]; go_big_quiet_on) | go_big_quiet_step (fail))
      with_reducible refine wpQuiet_nil ?_
      intro w3 hw3
      have hb3 := below_of_regrown hw3
      clear hw3
      go_wp2
      go_ret
      exact ⟨_, rfl, .inl ⟨rfl, HFIN.out⟩, btK HV3.out hb3⟩
    have HFIN : Hid (P = l.take (m + 1) ++ c :: l.drop (m + 1)) := by
      show _ = _
      rw [← HPP.out, HAT.out (m + 1) (by omega) (fun j hj h => ?_) HHI.out, if_neg (fun ⟨_, e⟩ => heq e)]
      by_cases hjm : j = m
      · subst hjm; exact HNL.out h
      · exact HNL.out (CmdD.lt_trans h (HRT.out j m (by omega) (by omega)))
    rw [decide_eq_false heq] at q1
    clear heq
    have hlc : ∀ W, (∃ p : Regrown, W = grow (redrawn w3 p.d) p.os) → (Instr.loadAt 38 (.pointer (some ⟨w.heap.size, 0, none⟩))).run Tryz.prog W = .ok cv W := fun W h => HLC.out _ (HX3.out.below (below_of_regrown h))
    have QC := Lib.hid hlc
    have hle : ∀ W, (∃ p : Regrown, W = grow (redrawn w3 p.d) p.os) → (Instr.loadAt 38 (.pointer (some ⟨b0, off + m * 5, none⟩))).run Tryz.prog W = .ok ev W := fun W h => HLE.out _ (btK HV3.out (below_of_regrown h))
    have QE := Lib.hid hle
    clear hlc hle
    refine wp_region_quiet_below (by kernel_rfl) (by kernel_rfl) ?_
    (try dsimp only [List.append])
    repeat (first | (go_big_quiet_want; (refine quiet_load 38 _ (by rfl) _ (by rfl) cv (fun W hW => QC.out W hW) ?_); simp only [Act.put, List.setIfInBounds_toArray, List.set_cons_succ, List.set_cons_zero]; go_big_quiet_on) | (go_big_quiet_want; (refine quiet_load 38 _ (by rfl) _ (by rfl) ev (fun W hW => QE.out W hW) ?_); simp only [Act.put, List.setIfInBounds_toArray, List.set_cons_succ, List.set_cons_zero]; go_big_quiet_on) | go_big_quiet_step (fail))
    with_reducible refine wpQuiet_nil ?_
    intro w3 hw3
    have hb3 := below_of_regrown hw3
    clear hw3
    obtain ⟨j, hj⟩ : ∃ j, m + 1 = j := ⟨_, rfl⟩
    have hjc : (m : Int) + 1 = (j : Int) := by omega
    have hjl : j ≤ l.length := by omega
    have hj0 : (0 : Int) ≤ (j : Int) := by omega
    have hj1 : (j : Int) ≤ (l.length : Int) := by omega
    have hj2 : (j : Int) ≤ (lcap : Int) := by omega
    have hj3 : (l.length : Int) ≤ (lcap : Int) := by omega
    have HFIN : Hid (P = l.take j ++ c :: l.drop j) := by rw [← hj]; exact HFIN.out
    have HB4 := Lib.hid (HBa.out.trans (hb3.mono HBa.out.size))
    have HX9 := Lib.hid (HX1.out.below HB4.out)
    have HV9 := Lib.hid (btK HB1.out HB4.out)
    clear hb3
    have HSR1 : Hid (∀ W, Below w.heap.size w W → RdCmds F W (l.take (j)) (.slice (some ⟨b0, off, none⟩) (j) lcap) ∧ RdCmds F W (l.drop (j)) (.slice (if lcap = j then some ⟨b0, off, none⟩ else some ⟨b0, off + j * 5, none⟩) (l.length - j) (lcap - j))) := fun W h => by
      have h9 := RdL.below HLV.out hF h (Nat.le_refl _)
      refine ⟨RdL.takeS h9 j hjl, ?_⟩
      have h8 := RdL.dropS h9 j hjl
      split
      · rw [show l.drop j = [] from List.drop_eq_nil_of_le (by omega), show l.length - j = 0 by omega]
        exact RdL.nil _ _ _ _ _ _ (by unfold maxLen; omega)
      · exact h8
    have hcv9 := HCV.out
    subst hcv9
    unfold CmdD.val
    go_upto_region 6 with fail
    (try simp only [hjc])
    (try simp only [hj])
    clear hjc
    refine heldB (S := fun W => Below w3.heap.size w3 W) (by kernel_rfl) (Below.refl _ _).drew (fun x hHeld => ?_)
    refine wpAnyH_take (i := 1) (oi := ⟨_, _, _, _, _, _⟩) (v := ?_) rfl (by kernel_rfl) (by kernel_rfl) (by kernel_rfl) (fun _ _ _ h => h) (Or.inl ⟨by kernel_rfl, ?_⟩) (by assumption) ?_
    rotate_left
    · intro W hW
      go_simp
      (try with_reducible rfl)
    simp only [Act.put, List.setIfInBounds_toArray, List.set_cons_succ, List.set_cons_zero]
    refine wpAnyH_take (i := 2) (oi := ⟨_, _, _, _, _, _⟩) (v := ?_) rfl (by kernel_rfl) (by kernel_rfl) (by kernel_rfl) (fun _ _ _ h => h) (Or.inl ⟨by kernel_rfl, ?_⟩) (by assumption) ?_
    rotate_left
    · intro W hW
      go_simp
      (try with_reducible rfl)
    simp only [Act.put, List.setIfInBounds_toArray, List.set_cons_succ, List.set_cons_zero]
    refine wpAnyH_take (i := 3) (oi := ⟨_, _, _, _, _, _⟩) (v := ?_) rfl (by kernel_rfl) (by kernel_rfl) (by kernel_rfl) (fun _ _ _ h => h) (Or.inl ⟨by kernel_rfl, ?_⟩) (by assumption) ?_
    rotate_left
    · intro W hW
      go_simp
      (try with_reducible rfl)
    simp only [Act.put, List.setIfInBounds_toArray, List.set_cons_succ, List.set_cons_zero]
    refine wpAnyH_take (i := 5) (oi := ⟨_, _, _, _, _, _⟩) (v := .agg #[.int .i64 c.verb, .int .i64 c.noun, .int .i64 c.second, .int .i64 c.number, .int .i64 c.dir]) rfl (by kernel_rfl) (by kernel_rfl) (by kernel_rfl) (fun _ _ _ h => h) (Or.inl ⟨by kernel_rfl, ?_⟩) (by assumption) ?_
    · intro W hW
      exact load_run 38 (.tmp 3) rfl ⟨w.heap.size, 0, none⟩ rfl _ W (HLC.out _ (HX9.out.below hW))
    simp only [Act.put, List.setIfInBounds_toArray, List.set_cons_succ, List.set_cons_zero]
    refine wpAnyH_take (i := 8) (oi := ⟨_, _, _, _, _, _⟩) (v := ?_) rfl (by kernel_rfl) (by kernel_rfl) (by kernel_rfl) (fun _ _ _ h => h) (Or.inl ⟨by kernel_rfl, ?_⟩) (by assumption) ?_
    rotate_left
    · intro W hW
      go_simp
      (try with_reducible rfl)
    simp only [Act.put, List.setIfInBounds_toArray, List.set_cons_succ, List.set_cons_zero]
    refine wpAnyH_take (i := 9) (oi := ⟨_, _, _, _, _, _⟩) (v := ?_) rfl (by kernel_rfl) (by kernel_rfl) (by kernel_rfl) (fun _ _ _ h => h) (Or.inl ⟨by kernel_rfl, ?_⟩) (by assumption) ?_
    rotate_left
    · intro W hW
      go_simp
      (try with_reducible rfl)
    simp only [Act.put, List.setIfInBounds_toArray, List.set_cons_succ, List.set_cons_zero]
    refine wpAnyH_take (i := 10) (oi := ⟨_, _, _, _, _, _⟩) (v := ?_) rfl (by kernel_rfl) (by kernel_rfl) (by kernel_rfl) (fun _ _ _ h => h) (Or.inl ⟨by kernel_rfl, ?_⟩) (by assumption) ?_
    rotate_left
    · intro W hW
      go_simp
      (try with_reducible rfl)
    simp only [Act.put, List.setIfInBounds_toArray, List.set_cons_succ, List.set_cons_zero]
    refine wpAnyH_ready (rs := [0, 6]) (by kernel_rfl) (by simp) ?_
    refine AllReadyH.cons rfl (fun K hK => ?_) (AllReadyH.cons rfl (fun K hK => ?_) (AllReadyH.nil))
    · go_simp
      obtain ⟨x1, hx⟩ : ∃ X, x.alloc (.cells #[] 38) = X := ⟨_, rfl⟩
      rw [hx]
      have ha : Below x.heap.size x x1 := by rw [← hx]; exact (Below.refl _ _).alloc (Nat.le_refl _) _
      have ho1 : OwnC w3.heap.size x1 [] (.slice (some ⟨x.heap.size, 0, none⟩) 0 0) := by rw [← hx]; exact (own_empty x).lower hHeld.size
      have H1 := btK hHeld ha
      have hlt1 : x.heap.size < x1.heap.size := by rw [← hx]; simp
      refine hK.out _ _ H1 (fun _ => ?_)
      clear hK K hx ha
      refine wpAnyH_ready (rs := [4, 6]) (by kernel_rfl) (by simp) ?_
      refine AllReadyH.cons rfl (fun K hK => ?_) (AllReadyH.cons rfl (fun K hK => ?_) (AllReadyH.nil))
      · refine step_app rfl (.tmp 33) (.tmp 36) 35 rfl _ _ (fun v' w' => OwnC w3.heap.size w' ([] ++ (l.take (j))) v' ∧ Below w3.heap.size x1 w' ∧ Grows x1 w' (.slice (some ⟨x.heap.size, 0, none⟩) 0 0) v') rfl rfl (cmds_app ho1 (HSR1.out _ (btK HV9.out H1)).1 (fun e => .inr ⟨b0, off, lcap, congrArg (fun q => Value.slice (some ⟨b0, off, none⟩) q lcap) (by first | rfl | (rw [List.length_take] at e; omega))⟩) H1.size (by simp only [List.length_nil, List.length_take]; omega) _) ?_
        rintro v2 x2 ⟨ho2, ha, hg⟩
        have H2 := H1.trans ha
        refine hK.out _ _ H2 (fun _ => ?_)
        clear hK K ha hg
        refine wpAnyH_ready (rs := [6]) (by kernel_rfl) (by simp) ?_
        refine AllReadyH.cons rfl (fun K hK => ?_) (AllReadyH.nil)
        · go_simp
          obtain ⟨x3, hx⟩ : ∃ X, x2.alloc (.cells #[.int .i64 c.verb, .int .i64 c.noun, .int .i64 c.second, .int .i64 c.number, .int .i64 c.dir] 38) = X := ⟨_, rfl⟩
          rw [hx]
          have ha : Below x2.heap.size x2 x3 := by rw [← hx]; exact (Below.refl _ _).alloc (Nat.le_refl _) _
          have hb3 : BoxT x3 x2.heap.size [.int .i64 c.verb, .int .i64 c.noun, .int .i64 c.second, .int .i64 c.number, .int .i64 c.dir] 38 := by rw [← hx]; exact BoxT.new _ _ _
          have hlt3 : x2.heap.size < x3.heap.size := by rw [← hx]; simp
          have H3 := btK H2 ha
          have ho3 := ho2.below ha
          have hne3 := fun g (e : Value.ownBlock v2 = some g) => (own_lt ho2 g e).2
          refine hK.out _ _ H3 (fun _ => ?_)
          clear hK K hx ha
          refine wpAnyH_ready (rs := [7]) (by kernel_rfl) (by simp) ?_
          refine AllReadyH.cons rfl (fun K hK => ?_) (AllReadyH.nil)
          · refine step_app rfl (.tmp 37) (.tmp 39) 35 rfl _ _ (fun v' w' => OwnC w3.heap.size w' (([] ++ (l.take (j))) ++ [c]) v' ∧ Below w3.heap.size x3 w' ∧ Grows x3 w' v2 v') rfl rfl (cmds_app ho3 (box_cmds hb3 HFC.out) (fun e => absurd e (by simp)) H3.size (by simp only [List.length_append, List.length_cons, List.length_nil, List.length_take]; omega) _) ?_
            rintro v4 x4 ⟨ho4, ha, hg⟩
            have H4 := H3.trans ha
            refine hK.out _ _ H4 (fun _ => ?_)
            clear hK K ha hg
            refine wpAnyH_ready (rs := [11]) (by kernel_rfl) (by simp) ?_
            refine AllReadyH.cons rfl (fun K hK => ?_) (AllReadyH.nil)
            · refine step_app rfl (.tmp 40) (.tmp 43) 35 rfl _ _ (fun v' w' => OwnC w3.heap.size w' ((([] ++ (l.take (j))) ++ [c]) ++ (l.drop (j))) v' ∧ Below w3.heap.size x4 w' ∧ Grows x4 w' v4 v') rfl rfl (cmds_app ho4 (HSR1.out _ (btK HV9.out H4)).2 (fun e => by rw [List.length_drop] at e; rw [e]; split <;> exact .inr ⟨_, _, _, rfl⟩) H4.size (by simp only [List.length_append, List.length_cons, List.length_nil, List.length_take, List.length_drop]; omega) _) ?_
              rintro v5 x5 ⟨ho5, ha, hg⟩
              have H5 := H4.trans ha
              refine hK.out _ _ H5 (fun _ => ?_)
              clear hK K ha hg
              refine wpAnyH_take (i := 12) (oi := ⟨_, _, _, _, _, _⟩) (v := ?_) rfl (by kernel_rfl) (by kernel_rfl) (by kernel_rfl) (fun _ _ _ h => h) (Or.inl ⟨by kernel_rfl, ?_⟩) (by assumption) ?_
              rotate_left
              · intro W hW
                go_simp
                (try with_reducible rfl)
              simp only [Act.put, List.setIfInBounds_toArray]
              refine wpAnyH_done (by kernel_rfl) ?_ _
              go_simp
              go_wp2
              all_goals
                go_ret
                exact ⟨_, rfl, .inr (by rw [HFIN.out, List.append_cons]; exact ho5.lower (by have := HV9.out.size; omega)), btK HV9.out H5⟩
      · go_simp
        obtain ⟨x6, hx⟩ : ∃ X, x1.alloc (.cells #[.int .i64 c.verb, .int .i64 c.noun, .int .i64 c.second, .int .i64 c.number, .int .i64 c.dir] 38) = X := ⟨_, rfl⟩
        rw [hx]
        have ha : Below x1.heap.size x1 x6 := by rw [← hx]; exact (Below.refl _ _).alloc (Nat.le_refl _) _
        have hb6 : BoxT x6 x1.heap.size [.int .i64 c.verb, .int .i64 c.noun, .int .i64 c.second, .int .i64 c.number, .int .i64 c.dir] 38 := by rw [← hx]; exact BoxT.new _ _ _
        have hlt6 : x1.heap.size < x6.heap.size := by rw [← hx]; simp
        have H6 := btK H1 ha
        have ho6 := ho1.below ha
        have hne6 := fun g (e : Value.ownBlock (.slice (some ⟨x.heap.size, 0, none⟩) 0 0) = some g) => (own_lt ho1 g e).2
        refine hK.out _ _ H6 (fun _ => ?_)
        clear hK K hx ha
        refine wpAnyH_ready (rs := [4]) (by kernel_rfl) (by simp) ?_
        refine AllReadyH.cons rfl (fun K hK => ?_) (AllReadyH.nil)
        · refine step_app rfl (.tmp 33) (.tmp 36) 35 rfl _ _ (fun v' w' => OwnC w3.heap.size w' ([] ++ (l.take (j))) v' ∧ Below w3.heap.size x6 w' ∧ Grows x6 w' (.slice (some ⟨x.heap.size, 0, none⟩) 0 0) v') rfl rfl (cmds_app ho6 (HSR1.out _ (btK HV9.out H6)).1 (fun e => .inr ⟨b0, off, lcap, congrArg (fun q => Value.slice (some ⟨b0, off, none⟩) q lcap) (by first | rfl | (rw [List.length_take] at e; omega))⟩) H6.size (by simp only [List.length_nil, List.length_take]; omega) _) ?_
          rintro v7 x7 ⟨ho7, ha, hg⟩
          have H7 := H6.trans ha
          have hb7 := hg.box hb6 (fun e => by simp [Value.ownBlock] at e; omega)
          refine hK.out _ _ H7 (fun _ => ?_)
          clear hK K ha hg
          refine wpAnyH_ready (rs := [7]) (by kernel_rfl) (by simp) ?_
          refine AllReadyH.cons rfl (fun K hK => ?_) (AllReadyH.nil)
          · refine step_app rfl (.tmp 37) (.tmp 39) 35 rfl _ _ (fun v' w' => OwnC w3.heap.size w' (([] ++ (l.take (j))) ++ [c]) v' ∧ Below w3.heap.size x7 w' ∧ Grows x7 w' v7 v') rfl rfl (cmds_app ho7 (box_cmds hb7 HFC.out) (fun e => absurd e (by simp)) H7.size (by simp only [List.length_append, List.length_cons, List.length_nil, List.length_take]; omega) _) ?_
            rintro v8 x8 ⟨ho8, ha, hg⟩
            have H8 := H7.trans ha
            refine hK.out _ _ H8 (fun _ => ?_)
            clear hK K ha hg
            refine wpAnyH_ready (rs := [11]) (by kernel_rfl) (by simp) ?_
            refine AllReadyH.cons rfl (fun K hK => ?_) (AllReadyH.nil)
            · refine step_app rfl (.tmp 40) (.tmp 43) 35 rfl _ _ (fun v' w' => OwnC w3.heap.size w' ((([] ++ (l.take (j))) ++ [c]) ++ (l.drop (j))) v' ∧ Below w3.heap.size x8 w' ∧ Grows x8 w' v8 v') rfl rfl (cmds_app ho8 (HSR1.out _ (btK HV9.out H8)).2 (fun e => by rw [List.length_drop] at e; rw [e]; split <;> exact .inr ⟨_, _, _, rfl⟩) H8.size (by simp only [List.length_append, List.length_cons, List.length_nil, List.length_take, List.length_drop]; omega) _) ?_
              rintro v9 x9 ⟨ho9, ha, hg⟩
              have H9 := H8.trans ha
              refine hK.out _ _ H9 (fun _ => ?_)
              clear hK K ha hg
              refine wpAnyH_take (i := 12) (oi := ⟨_, _, _, _, _, _⟩) (v := ?_) rfl (by kernel_rfl) (by kernel_rfl) (by kernel_rfl) (fun _ _ _ h => h) (Or.inl ⟨by kernel_rfl, ?_⟩) (by assumption) ?_
              rotate_left
              · intro W hW
                go_simp
                (try with_reducible rfl)
              simp only [Act.put, List.setIfInBounds_toArray]
              refine wpAnyH_done (by kernel_rfl) ?_ _
              go_simp
              go_wp2
              all_goals
                go_ret
                exact ⟨_, rfl, .inr (by rw [HFIN.out, List.append_cons]; exact ho9.lower (by have := HV9.out.size; omega)), btK HV9.out H9⟩
    · go_simp
      obtain ⟨x10, hx⟩ : ∃ X, x.alloc (.cells #[.int .i64 c.verb, .int .i64 c.noun, .int .i64 c.second, .int .i64 c.number, .int .i64 c.dir] 38) = X := ⟨_, rfl⟩
      rw [hx]
      have ha : Below x.heap.size x x10 := by rw [← hx]; exact (Below.refl _ _).alloc (Nat.le_refl _) _
      have hb10 : BoxT x10 x.heap.size [.int .i64 c.verb, .int .i64 c.noun, .int .i64 c.second, .int .i64 c.number, .int .i64 c.dir] 38 := by rw [← hx]; exact BoxT.new _ _ _
      have hlt10 : x.heap.size < x10.heap.size := by rw [← hx]; simp
      have H10 := btK hHeld ha
      refine hK.out _ _ H10 (fun _ => ?_)
      clear hK K hx ha
      refine wpAnyH_ready (rs := [0]) (by kernel_rfl) (by simp) ?_
      refine AllReadyH.cons rfl (fun K hK => ?_) (AllReadyH.nil)
      · go_simp
        obtain ⟨x11, hx⟩ : ∃ X, x10.alloc (.cells #[] 38) = X := ⟨_, rfl⟩
        rw [hx]
        have ha : Below x10.heap.size x10 x11 := by rw [← hx]; exact (Below.refl _ _).alloc (Nat.le_refl _) _
        have ho11 : OwnC w3.heap.size x11 [] (.slice (some ⟨x10.heap.size, 0, none⟩) 0 0) := by rw [← hx]; exact (own_empty x10).lower H10.size
        have H11 := btK H10 ha
        have hlt11 : x10.heap.size < x11.heap.size := by rw [← hx]; simp
        have hb11 := hb10.below ha
        refine hK.out _ _ H11 (fun _ => ?_)
        clear hK K hx ha
        refine wpAnyH_ready (rs := [4]) (by kernel_rfl) (by simp) ?_
        refine AllReadyH.cons rfl (fun K hK => ?_) (AllReadyH.nil)
        · refine step_app rfl (.tmp 33) (.tmp 36) 35 rfl _ _ (fun v' w' => OwnC w3.heap.size w' ([] ++ (l.take (j))) v' ∧ Below w3.heap.size x11 w' ∧ Grows x11 w' (.slice (some ⟨x10.heap.size, 0, none⟩) 0 0) v') rfl rfl (cmds_app ho11 (HSR1.out _ (btK HV9.out H11)).1 (fun e => .inr ⟨b0, off, lcap, congrArg (fun q => Value.slice (some ⟨b0, off, none⟩) q lcap) (by first | rfl | (rw [List.length_take] at e; omega))⟩) H11.size (by simp only [List.length_nil, List.length_take]; omega) _) ?_
          rintro v12 x12 ⟨ho12, ha, hg⟩
          have H12 := H11.trans ha
          have hb12 := hg.box hb11 (fun e => by simp [Value.ownBlock] at e; omega)
          refine hK.out _ _ H12 (fun _ => ?_)
          clear hK K ha hg
          refine wpAnyH_ready (rs := [7]) (by kernel_rfl) (by simp) ?_
          refine AllReadyH.cons rfl (fun K hK => ?_) (AllReadyH.nil)
          · refine step_app rfl (.tmp 37) (.tmp 39) 35 rfl _ _ (fun v' w' => OwnC w3.heap.size w' (([] ++ (l.take (j))) ++ [c]) v' ∧ Below w3.heap.size x12 w' ∧ Grows x12 w' v12 v') rfl rfl (cmds_app ho12 (box_cmds hb12 HFC.out) (fun e => absurd e (by simp)) H12.size (by simp only [List.length_append, List.length_cons, List.length_nil, List.length_take]; omega) _) ?_
            rintro v13 x13 ⟨ho13, ha, hg⟩
            have H13 := H12.trans ha
            refine hK.out _ _ H13 (fun _ => ?_)
            clear hK K ha hg
            refine wpAnyH_ready (rs := [11]) (by kernel_rfl) (by simp) ?_
            refine AllReadyH.cons rfl (fun K hK => ?_) (AllReadyH.nil)
            · refine step_app rfl (.tmp 40) (.tmp 43) 35 rfl _ _ (fun v' w' => OwnC w3.heap.size w' ((([] ++ (l.take (j))) ++ [c]) ++ (l.drop (j))) v' ∧ Below w3.heap.size x13 w' ∧ Grows x13 w' v13 v') rfl rfl (cmds_app ho13 (HSR1.out _ (btK HV9.out H13)).2 (fun e => by rw [List.length_drop] at e; rw [e]; split <;> exact .inr ⟨_, _, _, rfl⟩) H13.size (by simp only [List.length_append, List.length_cons, List.length_nil, List.length_take, List.length_drop]; omega) _) ?_
              rintro v14 x14 ⟨ho14, ha, hg⟩
              have H14 := H13.trans ha
              refine hK.out _ _ H14 (fun _ => ?_)
              clear hK K ha hg
              refine wpAnyH_take (i := 12) (oi := ⟨_, _, _, _, _, _⟩) (v := ?_) rfl (by kernel_rfl) (by kernel_rfl) (by kernel_rfl) (fun _ _ _ h => h) (Or.inl ⟨by kernel_rfl, ?_⟩) (by assumption) ?_
              rotate_left
              · intro W hW
                go_simp
                (try with_reducible rfl)
              simp only [Act.put, List.setIfInBounds_toArray]
              refine wpAnyH_done (by kernel_rfl) ?_ _
              go_simp
              go_wp2
              all_goals
                go_ret
                exact ⟨_, rfl, .inr (by rw [HFIN.out, List.append_cons]; exact ho14.lower (by have := HV9.out.size; omega)), btK HV9.out H14⟩
end Go.Proofs.YtapjglpiofpbmaaGreat
