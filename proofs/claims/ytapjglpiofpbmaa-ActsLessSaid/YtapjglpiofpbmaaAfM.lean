/- The law ActsLess. Printed by gen-ac42.py. -/
import Derived.Test.YtapjglpiofpbmaaPart6d9858d1
namespace Go.Proofs.Ytapjglpiofpbmaa
open Go.RowKit Go.Sort

set_option maxRecDepth 100000 in
set_option maxHeartbeats 8000000 in
theorem actsLess_calls (a b c : CmdD) (ha : a.Fit) (hb : b.Fit) (hc : c.Fit) (w : World) : Calls Try.prog 3 #[a.val, b.val, c.val] w (Gives w (.bool true)) := by
  have HAB0 := Lib.hid (less_calls a b ha hb); have HBA0 := Lib.hid (less_calls b a hb ha); have HBC0 := Lib.hid (less_calls b c hb hc); have HAC0 := Lib.hid (less_calls a c ha hc)
  have HL50 := Lib.hid (fun W => less50_calls a b W)
  have HQE0 := Lib.hid (cmd_eql a b); have HQG0 := Lib.hid (fun W x y => cmd_guard .eql x y a b W)
  have HAW := Lib.hid awake_calls
  have HTR : Hid (a.lt b → b.lt c → a.lt c) := CmdD.lt_trans
  have HAS : Hid (a.lt b → ¬ b.lt a) := CmdD.lt_asymm
  have HTO : Hid (¬ a.lt b → ¬ b.lt a → a = b) := fun h1 h2 => Classical.byContradiction fun h3 => (CmdD.lt_total h3).elim h1 h2
  have HIR : Hid (a.lt b ∨ b.lt a → a ≠ b) := fun h e => by subst e; rcases h with h | h <;> exact CmdD.lt_irrefl _ h
  have HLD : Hid (∀ W b (a : CmdD), BoxT W b [.int .i64 a.verb, .int .i64 a.noun, .int .i64 a.second, .int .i64 a.number, .int .i64 a.dir] 23 → (Instr.loadAt 23 (.pointer (some ⟨b, 0, none⟩))).run Try.prog W = .ok a.val W) := fun W b a h => run_loadAt_mid W b 0 23 _ _ h.range Try.underlying23 rfl (by kernel_rfl)
  obtain ⟨va, hva⟩ : ∃ v, a.val = v := ⟨_, rfl⟩
  obtain ⟨vb, hvb⟩ : ∃ v, b.val = v := ⟨_, rfl⟩
  obtain ⟨vc, hvc⟩ : ∃ v, c.val = v := ⟨_, rfl⟩
  have HLa : Hid (∀ W, BoxT W (w.heap.size) [.int .i64 a.verb, .int .i64 a.noun, .int .i64 a.second, .int .i64 a.number, .int .i64 a.dir] 23 → (Instr.loadAt 23 (.pointer (some ⟨w.heap.size, 0, none⟩))).run Try.prog W = .ok va W) := fun W h => hva ▸ HLD.out W _ a h
  have HLb : Hid (∀ W, BoxT W (w.heap.size + 1) [.int .i64 b.verb, .int .i64 b.noun, .int .i64 b.second, .int .i64 b.number, .int .i64 b.dir] 23 → (Instr.loadAt 23 (.pointer (some ⟨w.heap.size + 1, 0, none⟩))).run Try.prog W = .ok vb W) := fun W h => hvb ▸ HLD.out W _ b h
  have HLc : Hid (∀ W, BoxT W (w.heap.size + 1 + 1) [.int .i64 c.verb, .int .i64 c.noun, .int .i64 c.second, .int .i64 c.number, .int .i64 c.dir] 23 → (Instr.loadAt 23 (.pointer (some ⟨w.heap.size + 1 + 1, 0, none⟩))).run Try.prog W = .ok vc W) := fun W h => hvc ▸ HLD.out W _ c h
  obtain ⟨W1, hW1⟩ : ∃ z, w.alloc (.cells #[.int .i64 a.verb, .int .i64 a.noun, .int .i64 a.second, .int .i64 a.number, .int .i64 a.dir] 23) = z := ⟨_, rfl⟩
  obtain ⟨W2, hW2⟩ : ∃ z, W1.alloc (.cells #[.int .i64 b.verb, .int .i64 b.noun, .int .i64 b.second, .int .i64 b.number, .int .i64 b.dir] 23) = z := ⟨_, rfl⟩
  obtain ⟨W3, hW3⟩ : ∃ z, W2.alloc (.cells #[.int .i64 c.verb, .int .i64 c.noun, .int .i64 c.second, .int .i64 c.number, .int .i64 c.dir] 23) = z := ⟨_, rfl⟩
  have hz1 : W1.heap.size = w.heap.size + 1 := by rw [← hW1]; simp
  have hz2 : W2.heap.size = w.heap.size + 1 + 1 := by rw [← hW2]; simp [hz1]
  have hb1 : Below w.heap.size w W1 := by rw [← hW1]; exact (Below.refl _ _).alloc (Nat.le_refl _) _
  have hb2 : Below W1.heap.size W1 W2 := by rw [← hW2]; exact (Below.refl _ _).alloc (Nat.le_refl _) _
  have hb3 : Below W2.heap.size W2 W3 := by rw [← hW3]; exact (Below.refl _ _).alloc (Nat.le_refl _) _
  have hx1 : BoxT W1 w.heap.size [.int .i64 a.verb, .int .i64 a.noun, .int .i64 a.second, .int .i64 a.number, .int .i64 a.dir] 23 := by rw [← hW1]; exact BoxT.new _ _ _
  have hx2 : BoxT W2 (w.heap.size + 1) [.int .i64 b.verb, .int .i64 b.noun, .int .i64 b.second, .int .i64 b.number, .int .i64 b.dir] 23 := by rw [← hz1, ← hW2]; exact BoxT.new _ _ _
  have hx3 : BoxT W3 (w.heap.size + 1 + 1) [.int .i64 c.verb, .int .i64 c.noun, .int .i64 c.second, .int .i64 c.number, .int .i64 c.dir] 23 := by rw [← hz2, ← hW3]; exact BoxT.new _ _ _
  have HXa := Lib.hid ((hx1.below hb2).below hb3); have HXb := Lib.hid (hx2.below hb3); have HXc := Lib.hid hx3; have HBv := Lib.hid (btK (btK hb1 hb2) hb3)
  have HW1 := Lib.hid hW1; have HW2 := Lib.hid hW2; have HW3 := Lib.hid hW3
  clear hW1 hW2 hW3 hz1 hz2 hb1 hb2 hb3 hx1 hx2 hx3 HLD ha hb hc
  have HAB1 := Lib.hid HAB0.out; have HBA1 := Lib.hid HBA0.out; have HBC1 := Lib.hid HBC0.out; have HAC1 := Lib.hid HAC0.out; have HL51 := Lib.hid HL50.out
  have hqe := HQE0.out; have hqg := HQG0.out
  rw [hva, hvb] at HAB1 HBA1 HL51
  rw [hva, hvb] at hqe hqg
  rw [hvb, hvc] at HBC1
  rw [hva, hvc] at HAC1
  clear HAB0 HBA0 HBC0 HAC0 HL50 HQE0 HQG0
  unfold CmdD.val at hva hvb hvc ⊢
  have HVA := Lib.hid hva; have HVB := Lib.hid hvb; have HVC := Lib.hid hvc
  clear hva hvb hvc
  go_enter Try.func3, Try.ntmps3
  go_upto_region 1 with fail
  rw [HW1.out, HW2.out, HW3.out, HVA.out, HVB.out, HVC.out]
  clear HW1 HW2 HW3 HVA HVB HVC
  by_cases hx : a.lt b
  · have hy := HAS.out hx
    rw [decide_eq_true hx] at HAB1 HL51
    rw [decide_eq_false hy] at HBA1
    rw [decide_eq_false (HIR.out (.inl hx))] at hqe
    have HAB := Lib.hid HAB1.out; have HBA := Lib.hid HBA1.out; have HL5 := Lib.hid HL51.out
    by_cases hz : b.lt c
    · rw [decide_eq_true hz] at HBC1
      rw [decide_eq_true (HTR.out hx hz)] at HAC1
      have HBC := Lib.hid HBC1.out; have HAC := Lib.hid HAC1.out
      clear hx hy hz HTR HAS HTO HIR HAB1 HBA1 HL51 HBC1 HAC1
      refine wp_region_held_drew (S := fun W => Below W3.heap.size W3 W) (by kernel_rfl) (Below.refl _ _).drew (fun hHeld => ?_)
      have h0 : Below W3.heap.size W3 W3.drew := (Below.refl _ _).drew
      refine wpAnyH_take (i := 0) (v := va) rfl (by kernel_rfl) (by kernel_rfl) (by kernel_rfl) (fun _ _ _ h => h) (Or.inl ⟨by rfl, ?_⟩) (by assumption) ?_
      · intro W hW
        exact load_run 23 (.tmp 3) rfl ⟨w.heap.size, 0, none⟩ rfl va W (HLa.out W (HXa.out.below hW))
      simp only [Act.put]
      refine wpAnyH_take (i := 1) (v := vb) rfl (by kernel_rfl) (by kernel_rfl) (by kernel_rfl) (fun _ _ _ h => h) (Or.inl ⟨by rfl, ?_⟩) (by assumption) ?_
      · intro W hW
        exact load_run 23 (.tmp 4) rfl ⟨w.heap.size + 1, 0, none⟩ rfl vb W (HLb.out W (HXb.out.below hW))
      simp only [Act.put]
      refine wpAnyH_take (i := 3) (v := vb) rfl (by kernel_rfl) (by kernel_rfl) (by kernel_rfl) (fun _ _ _ h => h) (Or.inl ⟨by rfl, ?_⟩) (by assumption) ?_
      · intro W hW
        exact load_run 23 (.tmp 4) rfl ⟨w.heap.size + 1, 0, none⟩ rfl vb W (HLb.out W (HXb.out.below hW))
      simp only [Act.put]
      refine wpAnyH_take (i := 4) (v := va) rfl (by kernel_rfl) (by kernel_rfl) (by kernel_rfl) (fun _ _ _ h => h) (Or.inl ⟨by rfl, ?_⟩) (by assumption) ?_
      · intro W hW
        exact load_run 23 (.tmp 3) rfl ⟨w.heap.size, 0, none⟩ rfl va W (HLa.out W (HXa.out.below hW))
      simp only [Act.put]
      refine wpAnyH_ready (rs := [2]) (by kernel_rfl) (by simp) ?_
      refine AllReadyH.cons rfl (fun K hK => ?_) (AllReadyH.nil)
      · go_simp
        refine (HAB.out _).mono ?_
        rintro e v1 ⟨rfl, hbv1⟩
        have Hv1 := btK h0 hbv1
        refine hK.out _ _ Hv1 (fun hHeld => ?_)
        clear hK K
        refine wpAnyH_ready (rs := [5]) (by kernel_rfl) (by simp) ?_
        refine AllReadyH.cons rfl (fun K hK => ?_) (AllReadyH.nil)
        · go_simp
          refine (HBA.out _).mono ?_
          rintro e v2 ⟨rfl, hbv2⟩
          have Hv2 := btK Hv1 hbv2
          refine hK.out _ _ Hv2 (fun hHeld => ?_)
          clear hK K
          refine wpAnyH_take (i := 6) (v := .bool true) rfl (by kernel_rfl) (by kernel_rfl) (by kernel_rfl) (fun _ _ _ h => h) (Or.inl ⟨by rfl, ?_⟩) (by assumption) ?_
          · intro W hW
            go_simp
          simp only [Act.put]
          refine wpAnyH_take (i := 7) (v := .bool false) rfl (by kernel_rfl) (by kernel_rfl) (by kernel_rfl) (fun _ _ _ h => h) (Or.inl ⟨by rfl, ?_⟩) (by assumption) ?_
          · intro W hW
            go_simp
          simp only [Act.put]
          refine wpAnyH_done (by kernel_rfl) ?_ _
          go_simp
          have hb1 := Hv2
          have HXa := Lib.hid (HXa.out.below hb1); have HXb := Lib.hid (HXb.out.below hb1); have HXc := Lib.hid (HXc.out.below hb1); have HBv := Lib.hid (btK HBv.out hb1)
          clear hb1
          go_wp2_with (first | ((with_reducible refine wpList_load_T 23 (.tmp 3) ?hw9 ⟨w.heap.size, 0, none⟩ ?hx9 va (HLa.out _ HXa.out) ?_); (case hw9 => rfl); (case hx9 => first | rfl | (exact rfl))) | ((with_reducible refine wpList_load_T 23 (.tmp 4) ?hw9 ⟨w.heap.size + 1, 0, none⟩ ?hx9 vb (HLb.out _ HXb.out) ?_); (case hw9 => rfl); (case hx9 => first | rfl | (exact rfl))) | ((with_reducible refine wpList_load_T 23 (.tmp 5) ?hw9 ⟨w.heap.size + 1 + 1, 0, none⟩ ?hx9 vc (HLc.out _ HXc.out) ?_); (case hw9 => rfl); (case hx9 => first | rfl | (exact rfl))) | (go_at_call 5; (with_reducible refine (HL5.out _).mono ?_); rintro e w1 ⟨rfl, hb1⟩; have HXa := Lib.hid (HXa.out.below hb1); have HXb := Lib.hid (HXb.out.below hb1); have HXc := Lib.hid (HXc.out.below hb1); have HBv := Lib.hid (btK HBv.out hb1); clear hb1) | (go_at_call 4; (first | (with_reducible refine (HBC.out _).mono ?_) | (with_reducible refine (HAC.out _).mono ?_)); rintro e w1 ⟨rfl, hb1⟩; have HXa := Lib.hid (HXa.out.below hb1); have HXb := Lib.hid (HXb.out.below hb1); have HXc := Lib.hid (HXc.out.below hb1); have HBv := Lib.hid (btK HBv.out hb1); clear hb1) | (go_at_call 6; (with_reducible refine (HAW.out _).mono ?_); rintro e w2 ⟨rfl, hb2⟩))
          go_ret
          first | exact ⟨rfl, btK HBv.out hb2⟩ | exact ⟨rfl, HBv.out⟩
    · rw [decide_eq_false hz] at HBC1
      have HBC := Lib.hid HBC1.out; have HAC := Lib.hid HAC1.out
      clear hx hy hz HTR HAS HTO HIR HAB1 HBA1 HL51 HBC1 HAC1
      refine wp_region_held_drew (S := fun W => Below W3.heap.size W3 W) (by kernel_rfl) (Below.refl _ _).drew (fun hHeld => ?_)
      have h0 : Below W3.heap.size W3 W3.drew := (Below.refl _ _).drew
      refine wpAnyH_take (i := 0) (v := va) rfl (by kernel_rfl) (by kernel_rfl) (by kernel_rfl) (fun _ _ _ h => h) (Or.inl ⟨by rfl, ?_⟩) (by assumption) ?_
      · intro W hW
        exact load_run 23 (.tmp 3) rfl ⟨w.heap.size, 0, none⟩ rfl va W (HLa.out W (HXa.out.below hW))
      simp only [Act.put]
      refine wpAnyH_take (i := 1) (v := vb) rfl (by kernel_rfl) (by kernel_rfl) (by kernel_rfl) (fun _ _ _ h => h) (Or.inl ⟨by rfl, ?_⟩) (by assumption) ?_
      · intro W hW
        exact load_run 23 (.tmp 4) rfl ⟨w.heap.size + 1, 0, none⟩ rfl vb W (HLb.out W (HXb.out.below hW))
      simp only [Act.put]
      refine wpAnyH_take (i := 3) (v := vb) rfl (by kernel_rfl) (by kernel_rfl) (by kernel_rfl) (fun _ _ _ h => h) (Or.inl ⟨by rfl, ?_⟩) (by assumption) ?_
      · intro W hW
        exact load_run 23 (.tmp 4) rfl ⟨w.heap.size + 1, 0, none⟩ rfl vb W (HLb.out W (HXb.out.below hW))
      simp only [Act.put]
      refine wpAnyH_take (i := 4) (v := va) rfl (by kernel_rfl) (by kernel_rfl) (by kernel_rfl) (fun _ _ _ h => h) (Or.inl ⟨by rfl, ?_⟩) (by assumption) ?_
      · intro W hW
        exact load_run 23 (.tmp 3) rfl ⟨w.heap.size, 0, none⟩ rfl va W (HLa.out W (HXa.out.below hW))
      simp only [Act.put]
      refine wpAnyH_ready (rs := [2]) (by kernel_rfl) (by simp) ?_
      refine AllReadyH.cons rfl (fun K hK => ?_) (AllReadyH.nil)
      · go_simp
        refine (HAB.out _).mono ?_
        rintro e v1 ⟨rfl, hbv1⟩
        have Hv1 := btK h0 hbv1
        refine hK.out _ _ Hv1 (fun hHeld => ?_)
        clear hK K
        refine wpAnyH_ready (rs := [5]) (by kernel_rfl) (by simp) ?_
        refine AllReadyH.cons rfl (fun K hK => ?_) (AllReadyH.nil)
        · go_simp
          refine (HBA.out _).mono ?_
          rintro e v2 ⟨rfl, hbv2⟩
          have Hv2 := btK Hv1 hbv2
          refine hK.out _ _ Hv2 (fun hHeld => ?_)
          clear hK K
          refine wpAnyH_take (i := 6) (v := .bool true) rfl (by kernel_rfl) (by kernel_rfl) (by kernel_rfl) (fun _ _ _ h => h) (Or.inl ⟨by rfl, ?_⟩) (by assumption) ?_
          · intro W hW
            go_simp
          simp only [Act.put]
          refine wpAnyH_take (i := 7) (v := .bool false) rfl (by kernel_rfl) (by kernel_rfl) (by kernel_rfl) (fun _ _ _ h => h) (Or.inl ⟨by rfl, ?_⟩) (by assumption) ?_
          · intro W hW
            go_simp
          simp only [Act.put]
          refine wpAnyH_done (by kernel_rfl) ?_ _
          go_simp
          have hb1 := Hv2
          have HXa := Lib.hid (HXa.out.below hb1); have HXb := Lib.hid (HXb.out.below hb1); have HXc := Lib.hid (HXc.out.below hb1); have HBv := Lib.hid (btK HBv.out hb1)
          clear hb1
          go_wp2_with (first | ((with_reducible refine wpList_load_T 23 (.tmp 3) ?hw9 ⟨w.heap.size, 0, none⟩ ?hx9 va (HLa.out _ HXa.out) ?_); (case hw9 => rfl); (case hx9 => first | rfl | (exact rfl))) | ((with_reducible refine wpList_load_T 23 (.tmp 4) ?hw9 ⟨w.heap.size + 1, 0, none⟩ ?hx9 vb (HLb.out _ HXb.out) ?_); (case hw9 => rfl); (case hx9 => first | rfl | (exact rfl))) | ((with_reducible refine wpList_load_T 23 (.tmp 5) ?hw9 ⟨w.heap.size + 1 + 1, 0, none⟩ ?hx9 vc (HLc.out _ HXc.out) ?_); (case hw9 => rfl); (case hx9 => first | rfl | (exact rfl))) | (go_at_call 5; (with_reducible refine (HL5.out _).mono ?_); rintro e w1 ⟨rfl, hb1⟩; have HXa := Lib.hid (HXa.out.below hb1); have HXb := Lib.hid (HXb.out.below hb1); have HXc := Lib.hid (HXc.out.below hb1); have HBv := Lib.hid (btK HBv.out hb1); clear hb1) | (go_at_call 4; (first | (with_reducible refine (HBC.out _).mono ?_) | (with_reducible refine (HAC.out _).mono ?_)); rintro e w1 ⟨rfl, hb1⟩; have HXa := Lib.hid (HXa.out.below hb1); have HXb := Lib.hid (HXb.out.below hb1); have HXc := Lib.hid (HXc.out.below hb1); have HBv := Lib.hid (btK HBv.out hb1); clear hb1) | (go_at_call 6; (with_reducible refine (HAW.out _).mono ?_); rintro e w2 ⟨rfl, hb2⟩))
          go_ret
          first | exact ⟨rfl, btK HBv.out hb2⟩ | exact ⟨rfl, HBv.out⟩
  · have HBC := Lib.hid HBC1.out; have HAC := Lib.hid HAC1.out
    by_cases hy : b.lt a
    · rw [decide_eq_false hx] at HAB1 HL51
      rw [decide_eq_true hy] at HBA1
      rw [decide_eq_false (HIR.out (.inr hy))] at hqe
      have HAB := Lib.hid HAB1.out; have HBA := Lib.hid HBA1.out; have HL5 := Lib.hid HL51.out
      clear hx hy HTR HAS HTO HIR HAB1 HBA1 HL51 HBC1 HAC1
      refine wp_region_held_drew (S := fun W => Below W3.heap.size W3 W) (by kernel_rfl) (Below.refl _ _).drew (fun hHeld => ?_)
      have h0 : Below W3.heap.size W3 W3.drew := (Below.refl _ _).drew
      refine wpAnyH_take (i := 0) (v := va) rfl (by kernel_rfl) (by kernel_rfl) (by kernel_rfl) (fun _ _ _ h => h) (Or.inl ⟨by rfl, ?_⟩) (by assumption) ?_
      · intro W hW
        exact load_run 23 (.tmp 3) rfl ⟨w.heap.size, 0, none⟩ rfl va W (HLa.out W (HXa.out.below hW))
      simp only [Act.put]
      refine wpAnyH_take (i := 1) (v := vb) rfl (by kernel_rfl) (by kernel_rfl) (by kernel_rfl) (fun _ _ _ h => h) (Or.inl ⟨by rfl, ?_⟩) (by assumption) ?_
      · intro W hW
        exact load_run 23 (.tmp 4) rfl ⟨w.heap.size + 1, 0, none⟩ rfl vb W (HLb.out W (HXb.out.below hW))
      simp only [Act.put]
      refine wpAnyH_take (i := 3) (v := vb) rfl (by kernel_rfl) (by kernel_rfl) (by kernel_rfl) (fun _ _ _ h => h) (Or.inl ⟨by rfl, ?_⟩) (by assumption) ?_
      · intro W hW
        exact load_run 23 (.tmp 4) rfl ⟨w.heap.size + 1, 0, none⟩ rfl vb W (HLb.out W (HXb.out.below hW))
      simp only [Act.put]
      refine wpAnyH_take (i := 4) (v := va) rfl (by kernel_rfl) (by kernel_rfl) (by kernel_rfl) (fun _ _ _ h => h) (Or.inl ⟨by rfl, ?_⟩) (by assumption) ?_
      · intro W hW
        exact load_run 23 (.tmp 3) rfl ⟨w.heap.size, 0, none⟩ rfl va W (HLa.out W (HXa.out.below hW))
      simp only [Act.put]
      refine wpAnyH_ready (rs := [2]) (by kernel_rfl) (by simp) ?_
      refine AllReadyH.cons rfl (fun K hK => ?_) (AllReadyH.nil)
      · go_simp
        refine (HAB.out _).mono ?_
        rintro e v1 ⟨rfl, hbv1⟩
        have Hv1 := btK h0 hbv1
        refine hK.out _ _ Hv1 (fun hHeld => ?_)
        clear hK K
        refine wpAnyH_ready (rs := [5]) (by kernel_rfl) (by simp) ?_
        refine AllReadyH.cons rfl (fun K hK => ?_) (AllReadyH.nil)
        · go_simp
          refine (HBA.out _).mono ?_
          rintro e v2 ⟨rfl, hbv2⟩
          have Hv2 := btK Hv1 hbv2
          refine hK.out _ _ Hv2 (fun hHeld => ?_)
          clear hK K
          refine wpAnyH_take (i := 6) (v := .bool false) rfl (by kernel_rfl) (by kernel_rfl) (by kernel_rfl) (fun _ _ _ h => h) (Or.inl ⟨by rfl, ?_⟩) (by assumption) ?_
          · intro W hW
            go_simp
          simp only [Act.put]
          refine wpAnyH_take (i := 7) (v := .bool true) rfl (by kernel_rfl) (by kernel_rfl) (by kernel_rfl) (fun _ _ _ h => h) (Or.inl ⟨by rfl, ?_⟩) (by assumption) ?_
          · intro W hW
            go_simp
          simp only [Act.put]
          refine wpAnyH_done (by kernel_rfl) ?_ _
          go_simp
          have hb1 := Hv2
          have HXa := Lib.hid (HXa.out.below hb1); have HXb := Lib.hid (HXb.out.below hb1); have HXc := Lib.hid (HXc.out.below hb1); have HBv := Lib.hid (btK HBv.out hb1)
          clear hb1
          go_wp2_with (first | ((with_reducible refine wpList_load_T 23 (.tmp 3) ?hw9 ⟨w.heap.size, 0, none⟩ ?hx9 va (HLa.out _ HXa.out) ?_); (case hw9 => rfl); (case hx9 => first | rfl | (exact rfl))) | ((with_reducible refine wpList_load_T 23 (.tmp 4) ?hw9 ⟨w.heap.size + 1, 0, none⟩ ?hx9 vb (HLb.out _ HXb.out) ?_); (case hw9 => rfl); (case hx9 => first | rfl | (exact rfl))) | ((with_reducible refine wpList_load_T 23 (.tmp 5) ?hw9 ⟨w.heap.size + 1 + 1, 0, none⟩ ?hx9 vc (HLc.out _ HXc.out) ?_); (case hw9 => rfl); (case hx9 => first | rfl | (exact rfl))) | (go_at_call 5; (with_reducible refine (HL5.out _).mono ?_); rintro e w1 ⟨rfl, hb1⟩; have HXa := Lib.hid (HXa.out.below hb1); have HXb := Lib.hid (HXb.out.below hb1); have HXc := Lib.hid (HXc.out.below hb1); have HBv := Lib.hid (btK HBv.out hb1); clear hb1) | (go_at_call 4; (first | (with_reducible refine (HBC.out _).mono ?_) | (with_reducible refine (HAC.out _).mono ?_)); rintro e w1 ⟨rfl, hb1⟩; have HXa := Lib.hid (HXa.out.below hb1); have HXb := Lib.hid (HXb.out.below hb1); have HXc := Lib.hid (HXc.out.below hb1); have HBv := Lib.hid (btK HBv.out hb1); clear hb1) | (go_at_call 6; (with_reducible refine (HAW.out _).mono ?_); rintro e w2 ⟨rfl, hb2⟩))
          go_ret
          first | exact ⟨rfl, btK HBv.out hb2⟩ | exact ⟨rfl, HBv.out⟩
    · rw [decide_eq_false hx] at HAB1 HL51
      rw [decide_eq_false hy] at HBA1
      rw [decide_eq_true (HTO.out hx hy)] at hqe
      have HAB := Lib.hid HAB1.out; have HBA := Lib.hid HBA1.out; have HL5 := Lib.hid HL51.out
      clear hx hy HTR HAS HTO HIR HAB1 HBA1 HL51 HBC1 HAC1
      refine wp_region_held_drew (S := fun W => Below W3.heap.size W3 W) (by kernel_rfl) (Below.refl _ _).drew (fun hHeld => ?_)
      have h0 : Below W3.heap.size W3 W3.drew := (Below.refl _ _).drew
      refine wpAnyH_take (i := 0) (v := va) rfl (by kernel_rfl) (by kernel_rfl) (by kernel_rfl) (fun _ _ _ h => h) (Or.inl ⟨by rfl, ?_⟩) (by assumption) ?_
      · intro W hW
        exact load_run 23 (.tmp 3) rfl ⟨w.heap.size, 0, none⟩ rfl va W (HLa.out W (HXa.out.below hW))
      simp only [Act.put]
      refine wpAnyH_take (i := 1) (v := vb) rfl (by kernel_rfl) (by kernel_rfl) (by kernel_rfl) (fun _ _ _ h => h) (Or.inl ⟨by rfl, ?_⟩) (by assumption) ?_
      · intro W hW
        exact load_run 23 (.tmp 4) rfl ⟨w.heap.size + 1, 0, none⟩ rfl vb W (HLb.out W (HXb.out.below hW))
      simp only [Act.put]
      refine wpAnyH_take (i := 3) (v := vb) rfl (by kernel_rfl) (by kernel_rfl) (by kernel_rfl) (fun _ _ _ h => h) (Or.inl ⟨by rfl, ?_⟩) (by assumption) ?_
      · intro W hW
        exact load_run 23 (.tmp 4) rfl ⟨w.heap.size + 1, 0, none⟩ rfl vb W (HLb.out W (HXb.out.below hW))
      simp only [Act.put]
      refine wpAnyH_take (i := 4) (v := va) rfl (by kernel_rfl) (by kernel_rfl) (by kernel_rfl) (fun _ _ _ h => h) (Or.inl ⟨by rfl, ?_⟩) (by assumption) ?_
      · intro W hW
        exact load_run 23 (.tmp 3) rfl ⟨w.heap.size, 0, none⟩ rfl va W (HLa.out W (HXa.out.below hW))
      simp only [Act.put]
      refine wpAnyH_ready (rs := [2]) (by kernel_rfl) (by simp) ?_
      refine AllReadyH.cons rfl (fun K hK => ?_) (AllReadyH.nil)
      · go_simp
        refine (HAB.out _).mono ?_
        rintro e v1 ⟨rfl, hbv1⟩
        have Hv1 := btK h0 hbv1
        refine hK.out _ _ Hv1 (fun hHeld => ?_)
        clear hK K
        refine wpAnyH_ready (rs := [5]) (by kernel_rfl) (by simp) ?_
        refine AllReadyH.cons rfl (fun K hK => ?_) (AllReadyH.nil)
        · go_simp
          refine (HBA.out _).mono ?_
          rintro e v2 ⟨rfl, hbv2⟩
          have Hv2 := btK Hv1 hbv2
          refine hK.out _ _ Hv2 (fun hHeld => ?_)
          clear hK K
          refine wpAnyH_take (i := 6) (v := .bool false) rfl (by kernel_rfl) (by kernel_rfl) (by kernel_rfl) (fun _ _ _ h => h) (Or.inl ⟨by rfl, ?_⟩) (by assumption) ?_
          · intro W hW
            go_simp
          simp only [Act.put]
          refine wpAnyH_take (i := 7) (v := .bool false) rfl (by kernel_rfl) (by kernel_rfl) (by kernel_rfl) (fun _ _ _ h => h) (Or.inl ⟨by rfl, ?_⟩) (by assumption) ?_
          · intro W hW
            go_simp
          simp only [Act.put]
          refine wpAnyH_done (by kernel_rfl) ?_ _
          go_simp
          have hb1 := Hv2
          have HXa := Lib.hid (HXa.out.below hb1); have HXb := Lib.hid (HXb.out.below hb1); have HXc := Lib.hid (HXc.out.below hb1); have HBv := Lib.hid (btK HBv.out hb1)
          clear hb1
          go_wp2_with (first | ((with_reducible refine wpList_load_T 23 (.tmp 3) ?hw9 ⟨w.heap.size, 0, none⟩ ?hx9 va (HLa.out _ HXa.out) ?_); (case hw9 => rfl); (case hx9 => first | rfl | (exact rfl))) | ((with_reducible refine wpList_load_T 23 (.tmp 4) ?hw9 ⟨w.heap.size + 1, 0, none⟩ ?hx9 vb (HLb.out _ HXb.out) ?_); (case hw9 => rfl); (case hx9 => first | rfl | (exact rfl))) | ((with_reducible refine wpList_load_T 23 (.tmp 5) ?hw9 ⟨w.heap.size + 1 + 1, 0, none⟩ ?hx9 vc (HLc.out _ HXc.out) ?_); (case hw9 => rfl); (case hx9 => first | rfl | (exact rfl))) | (go_at_call 5; (with_reducible refine (HL5.out _).mono ?_); rintro e w1 ⟨rfl, hb1⟩; have HXa := Lib.hid (HXa.out.below hb1); have HXb := Lib.hid (HXb.out.below hb1); have HXc := Lib.hid (HXc.out.below hb1); have HBv := Lib.hid (btK HBv.out hb1); clear hb1) | (go_at_call 4; (first | (with_reducible refine (HBC.out _).mono ?_) | (with_reducible refine (HAC.out _).mono ?_)); rintro e w1 ⟨rfl, hb1⟩; have HXa := Lib.hid (HXa.out.below hb1); have HXb := Lib.hid (HXb.out.below hb1); have HXc := Lib.hid (HXc.out.below hb1); have HBv := Lib.hid (btK HBv.out hb1); clear hb1) | (go_at_call 6; (with_reducible refine (HAW.out _).mono ?_); rintro e w2 ⟨rfl, hb2⟩))
          go_ret
          first | exact ⟨rfl, btK HBv.out hb2⟩ | exact ⟨rfl, HBv.out⟩
theorem fit_cmd {F : Nat → Prop} {w : World} {c : CmdD} {cs : List Value} (h : Holds.cmd.R F w c cs) : c.Fit := by
  obtain ⟨h1, h2, h3, h4, h5, -⟩ := h
  exact ⟨h1, h2, h3, h4, h5⟩
end Go.Proofs.Ytapjglpiofpbmaa
