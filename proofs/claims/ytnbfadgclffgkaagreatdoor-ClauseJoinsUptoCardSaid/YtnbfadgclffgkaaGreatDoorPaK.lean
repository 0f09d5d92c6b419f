/- clause's expr where nothing is thrown. Printed by gen-par11.py. -/
import Derived.Test.YtnbfadgclffgkaaGreatDoorPart095e55f8
import Derived.Deep.RegionHeld
import Derived.Deep.RegionWith
namespace Go.Proofs.YtnbfadgclffgkaaGreatDoor
open Go.RowKit Go.Sort
theorem BoxT.three {b r : Nat} {w : World} {cs : List Value} {T : TypeId} {u0 u1 u2 : Value} (h : BoxT w b cs T) (hne : b ≠ r) : BoxT (((w.setCell ⟨r, 0, none⟩ u0).setCell ⟨r, 1, none⟩ u1).setCell ⟨r, 2, none⟩ u2) b cs T := by
  unfold BoxT at *
  rw [Below.heap_setCell _ ⟨r, 2, none⟩ _ b hne, Below.heap_setCell _ ⟨r, 1, none⟩ _ b hne, Below.heap_setCell _ ⟨r, 0, none⟩ _ b hne]
  exact h
theorem BoxT.fill3 {w : World} {c : Nat} {z0 z1 z2 u0 u1 u2 : Value} {T : TypeId} (h : BoxT w c [z0, z1, z2] T) : BoxT (((w.setCell ⟨c, 0, none⟩ u0).setCell ⟨c, 1, none⟩ u1).setCell ⟨c, 2, none⟩ u2) c [u0, u1, u2] T := by
  unfold BoxT at *
  simp [World.setCell, Array.getElem?_modify, h]
theorem btK {a b c : World} (h : Below a.heap.size a b) (k : Below b.heap.size b c) : Below a.heap.size a c := bt h k
theorem rdl_drop {α : Type} {R : Holds α} {F : Nat → Prop} {w : World} {sz : Nat} {l : List α} {b off cap k : Nat} (hk : k < l.length) (h : RdL R sz F w l (.slice (some ⟨b, off, none⟩) l.length cap)) : RdL R sz F w (l.drop k) (.slice (some ⟨b, off + k * sz, none⟩) (l.length - k) (cap - k)) := by
  obtain ⟨c, ⟨a, cap', he, h1, h2, h3⟩, h4⟩ := h
  simp only [Value.slice.injEq] at he
  obtain ⟨rfl, -, rfl⟩ := he
  obtain ⟨b', off', hab, hb, hc⟩ := h3 (by omega)
  cases hab
  refine ⟨fun i => c (i + k), ⟨_, _, by rw [List.length_drop], by rw [List.length_drop]; omega, by omega, fun _ => ⟨b, off + k * sz, rfl, hb, fun i hi j hj => ?_⟩⟩, fun i hi => ?_⟩
  · rw [List.length_drop] at hi
    have h := hc (i + k) (by omega) j hj
    rw [show off + k * sz + i * sz + j = off + (i + k) * sz + j by rw [Nat.add_mul]; omega]
    exact h
  · have hi2 := hi
    rw [List.length_drop] at hi2
    have h := h4 (i + k) (by omega)
    rw [List.getElem_drop]
    simpa [rowCells, Nat.add_comm] using h
set_option maxRecDepth 100000 in
set_option maxHeartbeats 4000000 in
theorem cexpr_calls (w : World) (b : Nat) (v : Value) (k n own : Nat) (l : List TokD) (e0 e1 e2 : Int) (e3 : ByteArray) (e4 : Option Addr) (e5 e6 : Nat) (hk : k < l.length) (hl9 : l.length ≤ 1000) (hn : n ≤ 1000) (hp : CS w b v k own) (hl : RdL Holds.tok 5 (fun x => x < b) w l v) (hd : ∀ b' v', Reads 170 b' v' (l.drop k) 0 n 0 (.agg #[.int .i64 e0, .int .i64 e1, .int .i64 e2, .string e3, .slice e4 e5 e6])) :
    Calls Tryz.prog 138 #[.pointer (some ⟨b, 0, none⟩)] w (fun e w' => e = .returned (.agg #[.int .i64 e0, .int .i64 e1, .int .i64 e2, .string e3, .slice e4 e5 e6]) ∧ CS w' b v (k + n) own ∧ Kept b b w w') := by
  have hbl := hp.lt
  obtain ⟨a, cap, rfl, hle, hcap, ha⟩ := hl.opn
  unfold maxLen at hcap
  obtain ⟨b2, off, rfl, hFb, -⟩ := ha (by omega)
  obtain ⟨W1, hW1⟩ : ∃ W1, w.alloc (.cells #[.int .i64 0, .int .i64 0, .int .i64 0, .string ⟨#[]⟩, .slice none 0 0] 73) = W1 := ⟨_, rfl⟩
  have hb1 : Below w.heap.size w W1 := by rw [← hW1]; exact (Below.refl _ _).alloc (Nat.le_refl _) _
  have hr1 : BoxT W1 w.heap.size [.int .i64 0, .int .i64 0, .int .i64 0, .string ⟨#[]⟩, .slice none 0 0] 73 := by rw [← hW1]; exact BoxT.new _ _ _
  have hk1 : Kept b b w W1 := Kept.of hb1 (Nat.le_of_lt hbl)
  have hp1 := CS.below hp hb1
  have hl1 := rdl_drop hk (hk1.toks hl)
  have hz1 : W1.heap.size = w.heap.size + 1 := by rw [← hW1]; simp
  have HPP := Lib.hid (fun W (h : Below W1.heap.size W1 W) => pparse_calls W _ n (l.drop k) e0 e1 e2 e3 e4 e5 e6 ((hl1.keep (fun x hx => (h.block x (by omega))) (fun x hx => by have := h.size; omega))) (fun b' => hd b' _))
  have hki : (k : Int) ≤ (l.length : Int) := by omega
  have hck : ¬ cap = k := by omega
  have hmin : min (k : Int) (l.length : Int) = (k : Int) := by omega
  have hle1 : w.heap.size < W1.heap.size := by omega
  have hbW : b < W1.heap.size := by omega
  have HR := Lib.hid hr1
  have HK := Lib.hid hk1
  have HP := Lib.hid hp1
  have HW1 := Lib.hid hW1
  clear hr1 hk1 hp1 hl1 hW1 hp hl hd ha hb1 hz1
  go_enter Tryz.func138, Tryz.ntmps138
  go_upto_region 1 with fail
  rw [HW1.out]
  go_cut [3, 4, 5] from 6 to 25 (fun x3 x4 x5 wc => ∃ m g, x3 = .pointer (some ⟨m, 0, none⟩) ∧ x4 = .int .i64 n ∧ x5 = .pointer (some ⟨g, 0, none⟩) ∧ BoxT wc m [.int .i64 e0, .int .i64 e1, .int .i64 e2, .string e3, .slice e4 e5 e6] 73 ∧ BoxT wc g [.int .i64 0, .int .i64 0, .int .i64 0] 36 ∧ Below W1.heap.size W1 wc ∧ W1.heap.size ≤ m ∧ W1.heap.size ≤ g)
  case first =>
    refine wp_region_held_drew (S := fun W => Below W1.heap.size W1 W) (by kernel_rfl) (Below.refl _ _).drew (fun hHeld => ?_)
    have h0 : Below W1.heap.size W1 W1.drew := (Below.refl _ _).drew
    clear hHeld
    generalize W1.drew = v0 at h0 ⊢
    refine wpAnyH_take (i := 0) (v := .pointer (some ⟨b, 0, none⟩)) rfl (by kernel_rfl) (by kernel_rfl) (by kernel_rfl) (fun _ _ _ h => h) (Or.inl ⟨by rfl, ?_⟩) (by assumption) ?_
    · intro W hW
      go_simp
    simp only [Act.put]
    refine wpAnyH_take (i := 1) (v := .pointer (some ⟨b, 0, none⟩)) rfl (by kernel_rfl) (by kernel_rfl) (by kernel_rfl) (fun _ _ _ h => h) (Or.inl ⟨by rfl, ?_⟩) (by assumption) ?_
    · intro W hW
      go_simp
    simp only [Act.put]
    refine wpAnyH_take (i := 2) (v := .pointer (some ⟨b, 0, none⟩)) rfl (by kernel_rfl) (by kernel_rfl) (by kernel_rfl) (fun _ _ _ h => h) (Or.inl ⟨by rfl, ?_⟩) (by assumption) ?_
    · intro W hW
      go_simp
    simp only [Act.put]
    refine wpAnyH_take (i := 3) (v := .slice (some ⟨b2, off, none⟩) l.length cap) rfl (by kernel_rfl) (by kernel_rfl) (by kernel_rfl) (fun _ _ _ h => h) (Or.inl ⟨by rfl, ?_⟩) (by assumption) ?_
    · intro W hW
      obtain ⟨z0, z1, z2⟩ := (CS.below HP.out hW).cells
      go_simp
    simp only [Act.put]
    refine wpAnyH_take (i := 4) (v := .pointer (some ⟨b, 0, none⟩)) rfl (by kernel_rfl) (by kernel_rfl) (by kernel_rfl) (fun _ _ _ h => h) (Or.inl ⟨by rfl, ?_⟩) (by assumption) ?_
    · intro W hW
      go_simp
    simp only [Act.put]
    refine wpAnyH_take (i := 5) (v := .pointer (some ⟨b, 0, none⟩)) rfl (by kernel_rfl) (by kernel_rfl) (by kernel_rfl) (fun _ _ _ h => h) (Or.inl ⟨by rfl, ?_⟩) (by assumption) ?_
    · intro W hW
      go_simp
    simp only [Act.put]
    refine wpAnyH_take (i := 6) (v := .pointer (some ⟨b, 1, none⟩)) rfl (by kernel_rfl) (by kernel_rfl) (by kernel_rfl) (fun _ _ _ h => h) (Or.inl ⟨by rfl, ?_⟩) (by assumption) ?_
    · intro W hW
      go_simp
    simp only [Act.put]
    refine wpAnyH_take (i := 7) (v := .int .i64 k) rfl (by kernel_rfl) (by kernel_rfl) (by kernel_rfl) (fun _ _ _ h => h) (Or.inl ⟨by rfl, ?_⟩) (by assumption) ?_
    · intro W hW
      obtain ⟨z0, z1, z2⟩ := (CS.below HP.out hW).cells
      go_simp
    simp only [Act.put]
    refine wpAnyH_take (i := 8) (v := .pointer (some ⟨b, 0, none⟩)) rfl (by kernel_rfl) (by kernel_rfl) (by kernel_rfl) (fun _ _ _ h => h) (Or.inl ⟨by rfl, ?_⟩) (by assumption) ?_
    · intro W hW
      go_simp
    simp only [Act.put]
    refine wpAnyH_take (i := 9) (v := .pointer (some ⟨b, 0, none⟩)) rfl (by kernel_rfl) (by kernel_rfl) (by kernel_rfl) (fun _ _ _ h => h) (Or.inl ⟨by rfl, ?_⟩) (by assumption) ?_
    · intro W hW
      go_simp
    simp only [Act.put]
    refine wpAnyH_take (i := 10) (v := .pointer (some ⟨b, 0, none⟩)) rfl (by kernel_rfl) (by kernel_rfl) (by kernel_rfl) (fun _ _ _ h => h) (Or.inl ⟨by rfl, ?_⟩) (by assumption) ?_
    · intro W hW
      go_simp
    simp only [Act.put]
    refine wpAnyH_take (i := 11) (v := .slice (some ⟨b2, off, none⟩) l.length cap) rfl (by kernel_rfl) (by kernel_rfl) (by kernel_rfl) (fun _ _ _ h => h) (Or.inl ⟨by rfl, ?_⟩) (by assumption) ?_
    · intro W hW
      obtain ⟨z0, z1, z2⟩ := (CS.below HP.out hW).cells
      go_simp
    simp only [Act.put]
    refine wpAnyH_take (i := 12) (v := .int .i64 l.length) rfl (by kernel_rfl) (by kernel_rfl) (by kernel_rfl) (fun _ _ _ h => h) (Or.inl ⟨by rfl, ?_⟩) (by assumption) ?_
    · intro W hW
      go_simp
    simp only [Act.put]
    refine wpAnyH_take (i := 13) (v := .int .i64 k) rfl (by kernel_rfl) (by kernel_rfl) (by kernel_rfl) (fun _ _ _ h => h) (Or.inl ⟨by rfl, ?_⟩) (by assumption) ?_
    · intro W hW
      go_simp
    simp only [Act.put]
    refine wpAnyH_take (i := 14) (v := .slice (some ⟨b2, off + k * 5, none⟩) (l.length - k) (cap - k)) rfl (by kernel_rfl) (by kernel_rfl) (by kernel_rfl) (fun _ _ _ h => h) (Or.inl ⟨by rfl, ?_⟩) (by assumption) ?_
    · intro W hW
      go_simp
    simp only [Act.put]
    refine wpAnyH_ready (rs := [15, 20, 21]) (by kernel_rfl) (by simp) ?_
    refine AllReadyH.cons rfl (fun K hK => ?_) (AllReadyH.cons rfl (fun K hK => ?_) (AllReadyH.cons rfl (fun K hK => ?_) (AllReadyH.nil)))
    · go_simp
      refine (HPP.out v0 h0).mono ?_
      rintro e v1 ⟨rfl, hbv1⟩
      have Hv1 : Below W1.heap.size W1 v1 := btK h0 hbv1
      refine hK.out _ _ Hv1 (fun hHeld => ?_)
      clear hHeld hK K hbv1
      refine wpAnyH_take (i := 16) (v := .tuple #[.agg #[.int .i64 e0, .int .i64 e1, .int .i64 e2, .string e3, .slice e4 e5 e6], .int .i64 n, .agg #[.int .i64 0, .int .i64 0, .int .i64 0]]) rfl (by kernel_rfl) (by kernel_rfl) (by kernel_rfl) (fun _ _ _ h => h) (Or.inl ⟨by rfl, ?_⟩) (by assumption) ?_
      · intro W hW
        go_simp
      simp only [Act.put]
      refine wpAnyH_take (i := 17) (v := .agg #[.int .i64 e0, .int .i64 e1, .int .i64 e2, .string e3, .slice e4 e5 e6]) rfl (by kernel_rfl) (by kernel_rfl) (by kernel_rfl) (fun _ _ _ h => h) (Or.inl ⟨by rfl, ?_⟩) (by assumption) ?_
      · intro W hW
        go_simp
      simp only [Act.put]
      refine wpAnyH_take (i := 18) (v := .int .i64 n) rfl (by kernel_rfl) (by kernel_rfl) (by kernel_rfl) (fun _ _ _ h => h) (Or.inl ⟨by rfl, ?_⟩) (by assumption) ?_
      · intro W hW
        go_simp
      simp only [Act.put]
      refine wpAnyH_take (i := 19) (v := .agg #[.int .i64 0, .int .i64 0, .int .i64 0]) rfl (by kernel_rfl) (by kernel_rfl) (by kernel_rfl) (fun _ _ _ h => h) (Or.inl ⟨by rfl, ?_⟩) (by assumption) ?_
      · intro W hW
        go_simp
      simp only [Act.put]
      refine wpAnyH_ready (rs := [20, 21]) (by kernel_rfl) (by simp) ?_
      refine AllReadyH.cons rfl (fun K hK => ?_) (AllReadyH.cons rfl (fun K hK => ?_) (AllReadyH.nil))
      · go_simp
        obtain ⟨v2, hvv2⟩ : ∃ X, v1.alloc (.cells #[.int .i64 0, .int .i64 0, .int .i64 0, .string ⟨#[]⟩, .slice none 0 0] 73) = X := ⟨_, rfl⟩
        rw [hvv2]
        have hbv2 : Below v1.heap.size v1 v2 := by rw [← hvv2]; exact (Below.refl _ _).alloc (Nat.le_refl _) _
        have Bm_v2 : BoxT v2 v1.heap.size [.int .i64 0, .int .i64 0, .int .i64 0, .string ⟨#[]⟩, .slice none 0 0] 73 := by rw [← hvv2]; exact BoxT.new _ _ _
        have Hv2 : Below W1.heap.size W1 v2 := btK Hv1 hbv2
        have Lm : W1.heap.size ≤ v1.heap.size := Hv1.size
        obtain ⟨m, em⟩ : ∃ x, v1.heap.size = x := ⟨_, rfl⟩
        rw [em] at Bm_v2 Lm ⊢
        clear em hvv2
        refine hK.out _ _ Hv2 (fun hHeld => ?_)
        clear hHeld hK K hbv2
        refine wpAnyH_ready (rs := [21]) (by kernel_rfl) (by simp) ?_
        refine AllReadyH.cons rfl (fun K hK => ?_) (AllReadyH.nil)
        · go_simp
          obtain ⟨v3, hvv3⟩ : ∃ X, v2.alloc (.cells #[.int .i64 0, .int .i64 0, .int .i64 0] 36) = X := ⟨_, rfl⟩
          rw [hvv3]
          have hbv3 : Below v2.heap.size v2 v3 := by rw [← hvv3]; exact (Below.refl _ _).alloc (Nat.le_refl _) _
          have Bg_v3 : BoxT v3 v2.heap.size [.int .i64 0, .int .i64 0, .int .i64 0] 36 := by rw [← hvv3]; exact BoxT.new _ _ _
          have Hv3 : Below W1.heap.size W1 v3 := btK Hv2 hbv3
          have Bm_v3 := Bm_v2.below hbv3
          have lmg : m < v2.heap.size := Bm_v2.lt
          have Lg : W1.heap.size ≤ v2.heap.size := Hv2.size
          obtain ⟨g, eg⟩ : ∃ x, v2.heap.size = x := ⟨_, rfl⟩
          rw [eg] at Bg_v3 Lg lmg ⊢
          clear eg hvv3
          refine hK.out _ _ Hv3 (fun hHeld => ?_)
          clear hHeld hK K hbv3
          have hmg : m ≠ g := by omega
          have q0 := Bm_v3.cell 0; have q1 := Bm_v3.cell 1; have q2 := Bm_v3.cell 2; have q3 := Bm_v3.cell 3; have q4 := Bm_v3.cell 4
          simp only [cqs, cqz] at q0 q1 q2 q3 q4
          have f0 := Lib.frozen_of_heap Bm_v3 0; have f1 := Lib.frozen_of_heap Bm_v3 1; have f2 := Lib.frozen_of_heap Bm_v3 2; have f3 := Lib.frozen_of_heap Bm_v3 3; have f4 := Lib.frozen_of_heap Bm_v3 4
          refine wpAnyH_ready (rs := [22]) (by kernel_rfl) (by simp) ?_
          refine AllReadyH.cons rfl (fun K hK => ?_) AllReadyH.nil
          go_simp
          obtain ⟨u1, hu1⟩ : ∃ X, ((((v3.setCell ⟨m, 0, none⟩ (.int .i64 e0)).setCell ⟨m, 1, none⟩ (.int .i64 e1)).setCell ⟨m, 2, none⟩ (.int .i64 e2)).setCell ⟨m, 3, none⟩ (.string e3)).setCell ⟨m, 4, none⟩ (.slice e4 e5 e6) = X := ⟨_, rfl⟩
          rw [hu1]
          have Hu1 : Below W1.heap.size W1 u1 := by rw [← hu1]; exact five9 Hv3 Lm
          have Bm_u1 : BoxT u1 m [.int .i64 e0, .int .i64 e1, .int .i64 e2, .string e3, .slice e4 e5 e6] 73 := by rw [← hu1]; exact BoxT.fill Bm_v3
          have Bg_u1 : BoxT u1 g [.int .i64 0, .int .i64 0, .int .i64 0] 36 := by rw [← hu1]; exact BoxT.five Bg_v3 hmg.symm
          refine hK.out _ _ Hu1 (fun hHeld => ?_)
          clear hHeld hK K hu1 q0 q1 q2 q3 q4 f0 f1 f2 f3 f4 Bm_v3 Bg_v3
          refine wpAnyH_take (i := 23) (v := .int .i64 n) rfl (by kernel_rfl) (by kernel_rfl) (by kernel_rfl) (fun _ _ _ h => h) (Or.inl ⟨by rfl, ?_⟩) (by assumption) ?_
          · intro W hW
            go_simp
          simp only [Act.put]
          have q0 := Bg_u1.cell 0; have q1 := Bg_u1.cell 1; have q2 := Bg_u1.cell 2
          simp only [cqs, cqz] at q0 q1 q2
          have f0 := Lib.frozen_of_heap Bg_u1 0; have f1 := Lib.frozen_of_heap Bg_u1 1; have f2 := Lib.frozen_of_heap Bg_u1 2
          refine wpAnyH_ready (rs := [24]) (by kernel_rfl) (by simp) ?_
          refine AllReadyH.cons rfl (fun K hK => ?_) AllReadyH.nil
          go_simp
          obtain ⟨u2, hu2⟩ : ∃ X, ((u1.setCell ⟨g, 0, none⟩ (.int .i64 0)).setCell ⟨g, 1, none⟩ (.int .i64 0)).setCell ⟨g, 2, none⟩ (.int .i64 0) = X := ⟨_, rfl⟩
          rw [hu2]
          have Hu2 : Below W1.heap.size W1 u2 := by rw [← hu2]; exact three9 Hu1 Lg
          have Bg_u2 : BoxT u2 g [.int .i64 0, .int .i64 0, .int .i64 0] 36 := by rw [← hu2]; exact BoxT.fill3 Bg_u1
          have Bm_u2 : BoxT u2 m [.int .i64 e0, .int .i64 e1, .int .i64 e2, .string e3, .slice e4 e5 e6] 73 := by rw [← hu2]; exact BoxT.three Bm_u1 hmg
          refine hK.out _ _ Hu2 (fun hHeld => ?_)
          clear hHeld hK K hu2 q0 q1 q2 f0 f1 f2 Bm_u1 Bg_u1
          refine wpAnyH_done (by kernel_rfl) ?_ _
          go_wp2_with fail
          go_meet
          exact ⟨m, g, rfl, rfl, rfl, Bm_u2, Bg_u2, Hu2, Lm, Lg⟩
      · go_simp
        obtain ⟨v4, hvv4⟩ : ∃ X, v1.alloc (.cells #[.int .i64 0, .int .i64 0, .int .i64 0] 36) = X := ⟨_, rfl⟩
        rw [hvv4]
        have hbv4 : Below v1.heap.size v1 v4 := by rw [← hvv4]; exact (Below.refl _ _).alloc (Nat.le_refl _) _
        have Bg_v4 : BoxT v4 v1.heap.size [.int .i64 0, .int .i64 0, .int .i64 0] 36 := by rw [← hvv4]; exact BoxT.new _ _ _
        have Hv4 : Below W1.heap.size W1 v4 := btK Hv1 hbv4
        have Lg : W1.heap.size ≤ v1.heap.size := Hv1.size
        obtain ⟨g, eg⟩ : ∃ x, v1.heap.size = x := ⟨_, rfl⟩
        rw [eg] at Bg_v4 Lg ⊢
        clear eg hvv4
        refine hK.out _ _ Hv4 (fun hHeld => ?_)
        clear hHeld hK K hbv4
        refine wpAnyH_ready (rs := [20]) (by kernel_rfl) (by simp) ?_
        refine AllReadyH.cons rfl (fun K hK => ?_) (AllReadyH.nil)
        · go_simp
          obtain ⟨v5, hvv5⟩ : ∃ X, v4.alloc (.cells #[.int .i64 0, .int .i64 0, .int .i64 0, .string ⟨#[]⟩, .slice none 0 0] 73) = X := ⟨_, rfl⟩
          rw [hvv5]
          have hbv5 : Below v4.heap.size v4 v5 := by rw [← hvv5]; exact (Below.refl _ _).alloc (Nat.le_refl _) _
          have Bm_v5 : BoxT v5 v4.heap.size [.int .i64 0, .int .i64 0, .int .i64 0, .string ⟨#[]⟩, .slice none 0 0] 73 := by rw [← hvv5]; exact BoxT.new _ _ _
          have Hv5 : Below W1.heap.size W1 v5 := btK Hv4 hbv5
          have Bg_v5 := Bg_v4.below hbv5
          have lgm : g < v4.heap.size := Bg_v4.lt
          have Lm : W1.heap.size ≤ v4.heap.size := Hv4.size
          obtain ⟨m, em⟩ : ∃ x, v4.heap.size = x := ⟨_, rfl⟩
          rw [em] at Bm_v5 Lm lgm ⊢
          clear em hvv5
          refine hK.out _ _ Hv5 (fun hHeld => ?_)
          clear hHeld hK K hbv5
          have hmg : m ≠ g := by omega
          have q0 := Bm_v5.cell 0; have q1 := Bm_v5.cell 1; have q2 := Bm_v5.cell 2; have q3 := Bm_v5.cell 3; have q4 := Bm_v5.cell 4
          simp only [cqs, cqz] at q0 q1 q2 q3 q4
          have f0 := Lib.frozen_of_heap Bm_v5 0; have f1 := Lib.frozen_of_heap Bm_v5 1; have f2 := Lib.frozen_of_heap Bm_v5 2; have f3 := Lib.frozen_of_heap Bm_v5 3; have f4 := Lib.frozen_of_heap Bm_v5 4
          refine wpAnyH_ready (rs := [22]) (by kernel_rfl) (by simp) ?_
          refine AllReadyH.cons rfl (fun K hK => ?_) AllReadyH.nil
          go_simp
          obtain ⟨u1, hu1⟩ : ∃ X, ((((v5.setCell ⟨m, 0, none⟩ (.int .i64 e0)).setCell ⟨m, 1, none⟩ (.int .i64 e1)).setCell ⟨m, 2, none⟩ (.int .i64 e2)).setCell ⟨m, 3, none⟩ (.string e3)).setCell ⟨m, 4, none⟩ (.slice e4 e5 e6) = X := ⟨_, rfl⟩
          rw [hu1]
          have Hu1 : Below W1.heap.size W1 u1 := by rw [← hu1]; exact five9 Hv5 Lm
          have Bm_u1 : BoxT u1 m [.int .i64 e0, .int .i64 e1, .int .i64 e2, .string e3, .slice e4 e5 e6] 73 := by rw [← hu1]; exact BoxT.fill Bm_v5
          have Bg_u1 : BoxT u1 g [.int .i64 0, .int .i64 0, .int .i64 0] 36 := by rw [← hu1]; exact BoxT.five Bg_v5 hmg.symm
          refine hK.out _ _ Hu1 (fun hHeld => ?_)
          clear hHeld hK K hu1 q0 q1 q2 q3 q4 f0 f1 f2 f3 f4 Bm_v5 Bg_v5
          refine wpAnyH_take (i := 23) (v := .int .i64 n) rfl (by kernel_rfl) (by kernel_rfl) (by kernel_rfl) (fun _ _ _ h => h) (Or.inl ⟨by rfl, ?_⟩) (by assumption) ?_
          · intro W hW
            go_simp
          simp only [Act.put]
          have q0 := Bg_u1.cell 0; have q1 := Bg_u1.cell 1; have q2 := Bg_u1.cell 2
          simp only [cqs, cqz] at q0 q1 q2
          have f0 := Lib.frozen_of_heap Bg_u1 0; have f1 := Lib.frozen_of_heap Bg_u1 1; have f2 := Lib.frozen_of_heap Bg_u1 2
          refine wpAnyH_ready (rs := [24]) (by kernel_rfl) (by simp) ?_
          refine AllReadyH.cons rfl (fun K hK => ?_) AllReadyH.nil
          go_simp
          obtain ⟨u2, hu2⟩ : ∃ X, ((u1.setCell ⟨g, 0, none⟩ (.int .i64 0)).setCell ⟨g, 1, none⟩ (.int .i64 0)).setCell ⟨g, 2, none⟩ (.int .i64 0) = X := ⟨_, rfl⟩
          rw [hu2]
          have Hu2 : Below W1.heap.size W1 u2 := by rw [← hu2]; exact three9 Hu1 Lg
          have Bg_u2 : BoxT u2 g [.int .i64 0, .int .i64 0, .int .i64 0] 36 := by rw [← hu2]; exact BoxT.fill3 Bg_u1
          have Bm_u2 : BoxT u2 m [.int .i64 e0, .int .i64 e1, .int .i64 e2, .string e3, .slice e4 e5 e6] 73 := by rw [← hu2]; exact BoxT.three Bm_u1 hmg
          refine hK.out _ _ Hu2 (fun hHeld => ?_)
          clear hHeld hK K hu2 q0 q1 q2 f0 f1 f2 Bm_u1 Bg_u1
          refine wpAnyH_done (by kernel_rfl) ?_ _
          go_wp2_with fail
          go_meet
          exact ⟨m, g, rfl, rfl, rfl, Bm_u2, Bg_u2, Hu2, Lm, Lg⟩
    · go_simp
      obtain ⟨v6, hvv6⟩ : ∃ X, v0.alloc (.cells #[.int .i64 0, .int .i64 0, .int .i64 0, .string ⟨#[]⟩, .slice none 0 0] 73) = X := ⟨_, rfl⟩
      rw [hvv6]
      have hbv6 : Below v0.heap.size v0 v6 := by rw [← hvv6]; exact (Below.refl _ _).alloc (Nat.le_refl _) _
      have Bm_v6 : BoxT v6 v0.heap.size [.int .i64 0, .int .i64 0, .int .i64 0, .string ⟨#[]⟩, .slice none 0 0] 73 := by rw [← hvv6]; exact BoxT.new _ _ _
      have Hv6 : Below W1.heap.size W1 v6 := btK h0 hbv6
      have Lm : W1.heap.size ≤ v0.heap.size := h0.size
      obtain ⟨m, em⟩ : ∃ x, v0.heap.size = x := ⟨_, rfl⟩
      rw [em] at Bm_v6 Lm ⊢
      clear em hvv6
      refine hK.out _ _ Hv6 (fun hHeld => ?_)
      clear hHeld hK K hbv6
      refine wpAnyH_ready (rs := [15, 21]) (by kernel_rfl) (by simp) ?_
      refine AllReadyH.cons rfl (fun K hK => ?_) (AllReadyH.cons rfl (fun K hK => ?_) (AllReadyH.nil))
      · go_simp
        refine (HPP.out v6 Hv6).mono ?_
        rintro e v7 ⟨rfl, hbv7⟩
        have Hv7 : Below W1.heap.size W1 v7 := btK Hv6 hbv7
        have Bm_v7 := Bm_v6.below hbv7
        refine hK.out _ _ Hv7 (fun hHeld => ?_)
        clear hHeld hK K hbv7
        refine wpAnyH_take (i := 16) (v := .tuple #[.agg #[.int .i64 e0, .int .i64 e1, .int .i64 e2, .string e3, .slice e4 e5 e6], .int .i64 n, .agg #[.int .i64 0, .int .i64 0, .int .i64 0]]) rfl (by kernel_rfl) (by kernel_rfl) (by kernel_rfl) (fun _ _ _ h => h) (Or.inl ⟨by rfl, ?_⟩) (by assumption) ?_
        · intro W hW
          go_simp
        simp only [Act.put]
        refine wpAnyH_take (i := 17) (v := .agg #[.int .i64 e0, .int .i64 e1, .int .i64 e2, .string e3, .slice e4 e5 e6]) rfl (by kernel_rfl) (by kernel_rfl) (by kernel_rfl) (fun _ _ _ h => h) (Or.inl ⟨by rfl, ?_⟩) (by assumption) ?_
        · intro W hW
          go_simp
        simp only [Act.put]
        refine wpAnyH_take (i := 18) (v := .int .i64 n) rfl (by kernel_rfl) (by kernel_rfl) (by kernel_rfl) (fun _ _ _ h => h) (Or.inl ⟨by rfl, ?_⟩) (by assumption) ?_
        · intro W hW
          go_simp
        simp only [Act.put]
        refine wpAnyH_take (i := 19) (v := .agg #[.int .i64 0, .int .i64 0, .int .i64 0]) rfl (by kernel_rfl) (by kernel_rfl) (by kernel_rfl) (fun _ _ _ h => h) (Or.inl ⟨by rfl, ?_⟩) (by assumption) ?_
        · intro W hW
          go_simp
        simp only [Act.put]
        refine wpAnyH_ready (rs := [21]) (by kernel_rfl) (by simp) ?_
        refine AllReadyH.cons rfl (fun K hK => ?_) (AllReadyH.nil)
        · go_simp
          obtain ⟨v8, hvv8⟩ : ∃ X, v7.alloc (.cells #[.int .i64 0, .int .i64 0, .int .i64 0] 36) = X := ⟨_, rfl⟩
          rw [hvv8]
          have hbv8 : Below v7.heap.size v7 v8 := by rw [← hvv8]; exact (Below.refl _ _).alloc (Nat.le_refl _) _
          have Bg_v8 : BoxT v8 v7.heap.size [.int .i64 0, .int .i64 0, .int .i64 0] 36 := by rw [← hvv8]; exact BoxT.new _ _ _
          have Hv8 : Below W1.heap.size W1 v8 := btK Hv7 hbv8
          have Bm_v8 := Bm_v7.below hbv8
          have lmg : m < v7.heap.size := Bm_v7.lt
          have Lg : W1.heap.size ≤ v7.heap.size := Hv7.size
          obtain ⟨g, eg⟩ : ∃ x, v7.heap.size = x := ⟨_, rfl⟩
          rw [eg] at Bg_v8 Lg lmg ⊢
          clear eg hvv8
          refine hK.out _ _ Hv8 (fun hHeld => ?_)
          clear hHeld hK K hbv8
          have hmg : m ≠ g := by omega
          have q0 := Bm_v8.cell 0; have q1 := Bm_v8.cell 1; have q2 := Bm_v8.cell 2; have q3 := Bm_v8.cell 3; have q4 := Bm_v8.cell 4
          simp only [cqs, cqz] at q0 q1 q2 q3 q4
          have f0 := Lib.frozen_of_heap Bm_v8 0; have f1 := Lib.frozen_of_heap Bm_v8 1; have f2 := Lib.frozen_of_heap Bm_v8 2; have f3 := Lib.frozen_of_heap Bm_v8 3; have f4 := Lib.frozen_of_heap Bm_v8 4
          refine wpAnyH_ready (rs := [22]) (by kernel_rfl) (by simp) ?_
          refine AllReadyH.cons rfl (fun K hK => ?_) AllReadyH.nil
          go_simp
          obtain ⟨u1, hu1⟩ : ∃ X, ((((v8.setCell ⟨m, 0, none⟩ (.int .i64 e0)).setCell ⟨m, 1, none⟩ (.int .i64 e1)).setCell ⟨m, 2, none⟩ (.int .i64 e2)).setCell ⟨m, 3, none⟩ (.string e3)).setCell ⟨m, 4, none⟩ (.slice e4 e5 e6) = X := ⟨_, rfl⟩
          rw [hu1]
          have Hu1 : Below W1.heap.size W1 u1 := by rw [← hu1]; exact five9 Hv8 Lm
          have Bm_u1 : BoxT u1 m [.int .i64 e0, .int .i64 e1, .int .i64 e2, .string e3, .slice e4 e5 e6] 73 := by rw [← hu1]; exact BoxT.fill Bm_v8
          have Bg_u1 : BoxT u1 g [.int .i64 0, .int .i64 0, .int .i64 0] 36 := by rw [← hu1]; exact BoxT.five Bg_v8 hmg.symm
          refine hK.out _ _ Hu1 (fun hHeld => ?_)
          clear hHeld hK K hu1 q0 q1 q2 q3 q4 f0 f1 f2 f3 f4 Bm_v8 Bg_v8
          refine wpAnyH_take (i := 23) (v := .int .i64 n) rfl (by kernel_rfl) (by kernel_rfl) (by kernel_rfl) (fun _ _ _ h => h) (Or.inl ⟨by rfl, ?_⟩) (by assumption) ?_
          · intro W hW
            go_simp
          simp only [Act.put]
          have q0 := Bg_u1.cell 0; have q1 := Bg_u1.cell 1; have q2 := Bg_u1.cell 2
          simp only [cqs, cqz] at q0 q1 q2
          have f0 := Lib.frozen_of_heap Bg_u1 0; have f1 := Lib.frozen_of_heap Bg_u1 1; have f2 := Lib.frozen_of_heap Bg_u1 2
          refine wpAnyH_ready (rs := [24]) (by kernel_rfl) (by simp) ?_
          refine AllReadyH.cons rfl (fun K hK => ?_) AllReadyH.nil
          go_simp
          obtain ⟨u2, hu2⟩ : ∃ X, ((u1.setCell ⟨g, 0, none⟩ (.int .i64 0)).setCell ⟨g, 1, none⟩ (.int .i64 0)).setCell ⟨g, 2, none⟩ (.int .i64 0) = X := ⟨_, rfl⟩
          rw [hu2]
          have Hu2 : Below W1.heap.size W1 u2 := by rw [← hu2]; exact three9 Hu1 Lg
          have Bg_u2 : BoxT u2 g [.int .i64 0, .int .i64 0, .int .i64 0] 36 := by rw [← hu2]; exact BoxT.fill3 Bg_u1
          have Bm_u2 : BoxT u2 m [.int .i64 e0, .int .i64 e1, .int .i64 e2, .string e3, .slice e4 e5 e6] 73 := by rw [← hu2]; exact BoxT.three Bm_u1 hmg
          refine hK.out _ _ Hu2 (fun hHeld => ?_)
          clear hHeld hK K hu2 q0 q1 q2 f0 f1 f2 Bm_u1 Bg_u1
          refine wpAnyH_done (by kernel_rfl) ?_ _
          go_wp2_with fail
          go_meet
          exact ⟨m, g, rfl, rfl, rfl, Bm_u2, Bg_u2, Hu2, Lm, Lg⟩
      · go_simp
        obtain ⟨v9, hvv9⟩ : ∃ X, v6.alloc (.cells #[.int .i64 0, .int .i64 0, .int .i64 0] 36) = X := ⟨_, rfl⟩
        rw [hvv9]
        have hbv9 : Below v6.heap.size v6 v9 := by rw [← hvv9]; exact (Below.refl _ _).alloc (Nat.le_refl _) _
        have Bg_v9 : BoxT v9 v6.heap.size [.int .i64 0, .int .i64 0, .int .i64 0] 36 := by rw [← hvv9]; exact BoxT.new _ _ _
        have Hv9 : Below W1.heap.size W1 v9 := btK Hv6 hbv9
        have Bm_v9 := Bm_v6.below hbv9
        have lmg : m < v6.heap.size := Bm_v6.lt
        have Lg : W1.heap.size ≤ v6.heap.size := Hv6.size
        obtain ⟨g, eg⟩ : ∃ x, v6.heap.size = x := ⟨_, rfl⟩
        rw [eg] at Bg_v9 Lg lmg ⊢
        clear eg hvv9
        refine hK.out _ _ Hv9 (fun hHeld => ?_)
        clear hHeld hK K hbv9
        refine wpAnyH_ready (rs := [15]) (by kernel_rfl) (by simp) ?_
        refine AllReadyH.cons rfl (fun K hK => ?_) (AllReadyH.nil)
        · go_simp
          refine (HPP.out v9 Hv9).mono ?_
          rintro e v10 ⟨rfl, hbv10⟩
          have Hv10 : Below W1.heap.size W1 v10 := btK Hv9 hbv10
          have Bm_v10 := Bm_v9.below hbv10
          have Bg_v10 := Bg_v9.below hbv10
          refine hK.out _ _ Hv10 (fun hHeld => ?_)
          clear hHeld hK K hbv10
          refine wpAnyH_take (i := 16) (v := .tuple #[.agg #[.int .i64 e0, .int .i64 e1, .int .i64 e2, .string e3, .slice e4 e5 e6], .int .i64 n, .agg #[.int .i64 0, .int .i64 0, .int .i64 0]]) rfl (by kernel_rfl) (by kernel_rfl) (by kernel_rfl) (fun _ _ _ h => h) (Or.inl ⟨by rfl, ?_⟩) (by assumption) ?_
          · intro W hW
            go_simp
          simp only [Act.put]
          refine wpAnyH_take (i := 17) (v := .agg #[.int .i64 e0, .int .i64 e1, .int .i64 e2, .string e3, .slice e4 e5 e6]) rfl (by kernel_rfl) (by kernel_rfl) (by kernel_rfl) (fun _ _ _ h => h) (Or.inl ⟨by rfl, ?_⟩) (by assumption) ?_
          · intro W hW
            go_simp
          simp only [Act.put]
          refine wpAnyH_take (i := 18) (v := .int .i64 n) rfl (by kernel_rfl) (by kernel_rfl) (by kernel_rfl) (fun _ _ _ h => h) (Or.inl ⟨by rfl, ?_⟩) (by assumption) ?_
          · intro W hW
            go_simp
          simp only [Act.put]
          refine wpAnyH_take (i := 19) (v := .agg #[.int .i64 0, .int .i64 0, .int .i64 0]) rfl (by kernel_rfl) (by kernel_rfl) (by kernel_rfl) (fun _ _ _ h => h) (Or.inl ⟨by rfl, ?_⟩) (by assumption) ?_
          · intro W hW
            go_simp
          simp only [Act.put]
          have hmg : m ≠ g := by omega
          have q0 := Bm_v10.cell 0; have q1 := Bm_v10.cell 1; have q2 := Bm_v10.cell 2; have q3 := Bm_v10.cell 3; have q4 := Bm_v10.cell 4
          simp only [cqs, cqz] at q0 q1 q2 q3 q4
          have f0 := Lib.frozen_of_heap Bm_v10 0; have f1 := Lib.frozen_of_heap Bm_v10 1; have f2 := Lib.frozen_of_heap Bm_v10 2; have f3 := Lib.frozen_of_heap Bm_v10 3; have f4 := Lib.frozen_of_heap Bm_v10 4
          refine wpAnyH_ready (rs := [22]) (by kernel_rfl) (by simp) ?_
          refine AllReadyH.cons rfl (fun K hK => ?_) AllReadyH.nil
          go_simp
          obtain ⟨u1, hu1⟩ : ∃ X, ((((v10.setCell ⟨m, 0, none⟩ (.int .i64 e0)).setCell ⟨m, 1, none⟩ (.int .i64 e1)).setCell ⟨m, 2, none⟩ (.int .i64 e2)).setCell ⟨m, 3, none⟩ (.string e3)).setCell ⟨m, 4, none⟩ (.slice e4 e5 e6) = X := ⟨_, rfl⟩
          rw [hu1]
          have Hu1 : Below W1.heap.size W1 u1 := by rw [← hu1]; exact five9 Hv10 Lm
          have Bm_u1 : BoxT u1 m [.int .i64 e0, .int .i64 e1, .int .i64 e2, .string e3, .slice e4 e5 e6] 73 := by rw [← hu1]; exact BoxT.fill Bm_v10
          have Bg_u1 : BoxT u1 g [.int .i64 0, .int .i64 0, .int .i64 0] 36 := by rw [← hu1]; exact BoxT.five Bg_v10 hmg.symm
          refine hK.out _ _ Hu1 (fun hHeld => ?_)
          clear hHeld hK K hu1 q0 q1 q2 q3 q4 f0 f1 f2 f3 f4 Bm_v10 Bg_v10
          refine wpAnyH_take (i := 23) (v := .int .i64 n) rfl (by kernel_rfl) (by kernel_rfl) (by kernel_rfl) (fun _ _ _ h => h) (Or.inl ⟨by rfl, ?_⟩) (by assumption) ?_
          · intro W hW
            go_simp
          simp only [Act.put]
          have q0 := Bg_u1.cell 0; have q1 := Bg_u1.cell 1; have q2 := Bg_u1.cell 2
          simp only [cqs, cqz] at q0 q1 q2
          have f0 := Lib.frozen_of_heap Bg_u1 0; have f1 := Lib.frozen_of_heap Bg_u1 1; have f2 := Lib.frozen_of_heap Bg_u1 2
          refine wpAnyH_ready (rs := [24]) (by kernel_rfl) (by simp) ?_
          refine AllReadyH.cons rfl (fun K hK => ?_) AllReadyH.nil
          go_simp
          obtain ⟨u2, hu2⟩ : ∃ X, ((u1.setCell ⟨g, 0, none⟩ (.int .i64 0)).setCell ⟨g, 1, none⟩ (.int .i64 0)).setCell ⟨g, 2, none⟩ (.int .i64 0) = X := ⟨_, rfl⟩
          rw [hu2]
          have Hu2 : Below W1.heap.size W1 u2 := by rw [← hu2]; exact three9 Hu1 Lg
          have Bg_u2 : BoxT u2 g [.int .i64 0, .int .i64 0, .int .i64 0] 36 := by rw [← hu2]; exact BoxT.fill3 Bg_u1
          have Bm_u2 : BoxT u2 m [.int .i64 e0, .int .i64 e1, .int .i64 e2, .string e3, .slice e4 e5 e6] 73 := by rw [← hu2]; exact BoxT.three Bm_u1 hmg
          refine hK.out _ _ Hu2 (fun hHeld => ?_)
          clear hHeld hK K hu2 q0 q1 q2 f0 f1 f2 Bm_u1 Bg_u1
          refine wpAnyH_done (by kernel_rfl) ?_ _
          go_wp2_with fail
          go_meet
          exact ⟨m, g, rfl, rfl, rfl, Bm_u2, Bg_u2, Hu2, Lm, Lg⟩
    · go_simp
      obtain ⟨v11, hvv11⟩ : ∃ X, v0.alloc (.cells #[.int .i64 0, .int .i64 0, .int .i64 0] 36) = X := ⟨_, rfl⟩
      rw [hvv11]
      have hbv11 : Below v0.heap.size v0 v11 := by rw [← hvv11]; exact (Below.refl _ _).alloc (Nat.le_refl _) _
      have Bg_v11 : BoxT v11 v0.heap.size [.int .i64 0, .int .i64 0, .int .i64 0] 36 := by rw [← hvv11]; exact BoxT.new _ _ _
      have Hv11 : Below W1.heap.size W1 v11 := btK h0 hbv11
      have Lg : W1.heap.size ≤ v0.heap.size := h0.size
      obtain ⟨g, eg⟩ : ∃ x, v0.heap.size = x := ⟨_, rfl⟩
      rw [eg] at Bg_v11 Lg ⊢
      clear eg hvv11
      refine hK.out _ _ Hv11 (fun hHeld => ?_)
      clear hHeld hK K hbv11
      refine wpAnyH_ready (rs := [15, 20]) (by kernel_rfl) (by simp) ?_
      refine AllReadyH.cons rfl (fun K hK => ?_) (AllReadyH.cons rfl (fun K hK => ?_) (AllReadyH.nil))
      · go_simp
        refine (HPP.out v11 Hv11).mono ?_
        rintro e v12 ⟨rfl, hbv12⟩
        have Hv12 : Below W1.heap.size W1 v12 := btK Hv11 hbv12
        have Bg_v12 := Bg_v11.below hbv12
        refine hK.out _ _ Hv12 (fun hHeld => ?_)
        clear hHeld hK K hbv12
        refine wpAnyH_take (i := 16) (v := .tuple #[.agg #[.int .i64 e0, .int .i64 e1, .int .i64 e2, .string e3, .slice e4 e5 e6], .int .i64 n, .agg #[.int .i64 0, .int .i64 0, .int .i64 0]]) rfl (by kernel_rfl) (by kernel_rfl) (by kernel_rfl) (fun _ _ _ h => h) (Or.inl ⟨by rfl, ?_⟩) (by assumption) ?_
        · intro W hW
          go_simp
        simp only [Act.put]
        refine wpAnyH_take (i := 17) (v := .agg #[.int .i64 e0, .int .i64 e1, .int .i64 e2, .string e3, .slice e4 e5 e6]) rfl (by kernel_rfl) (by kernel_rfl) (by kernel_rfl) (fun _ _ _ h => h) (Or.inl ⟨by rfl, ?_⟩) (by assumption) ?_
        · intro W hW
          go_simp
        simp only [Act.put]
        refine wpAnyH_take (i := 18) (v := .int .i64 n) rfl (by kernel_rfl) (by kernel_rfl) (by kernel_rfl) (fun _ _ _ h => h) (Or.inl ⟨by rfl, ?_⟩) (by assumption) ?_
        · intro W hW
          go_simp
        simp only [Act.put]
        refine wpAnyH_take (i := 19) (v := .agg #[.int .i64 0, .int .i64 0, .int .i64 0]) rfl (by kernel_rfl) (by kernel_rfl) (by kernel_rfl) (fun _ _ _ h => h) (Or.inl ⟨by rfl, ?_⟩) (by assumption) ?_
        · intro W hW
          go_simp
        simp only [Act.put]
        refine wpAnyH_ready (rs := [20]) (by kernel_rfl) (by simp) ?_
        refine AllReadyH.cons rfl (fun K hK => ?_) (AllReadyH.nil)
        · go_simp
          obtain ⟨v13, hvv13⟩ : ∃ X, v12.alloc (.cells #[.int .i64 0, .int .i64 0, .int .i64 0, .string ⟨#[]⟩, .slice none 0 0] 73) = X := ⟨_, rfl⟩
          rw [hvv13]
          have hbv13 : Below v12.heap.size v12 v13 := by rw [← hvv13]; exact (Below.refl _ _).alloc (Nat.le_refl _) _
          have Bm_v13 : BoxT v13 v12.heap.size [.int .i64 0, .int .i64 0, .int .i64 0, .string ⟨#[]⟩, .slice none 0 0] 73 := by rw [← hvv13]; exact BoxT.new _ _ _
          have Hv13 : Below W1.heap.size W1 v13 := btK Hv12 hbv13
          have Bg_v13 := Bg_v12.below hbv13
          have lgm : g < v12.heap.size := Bg_v12.lt
          have Lm : W1.heap.size ≤ v12.heap.size := Hv12.size
          obtain ⟨m, em⟩ : ∃ x, v12.heap.size = x := ⟨_, rfl⟩
          rw [em] at Bm_v13 Lm lgm ⊢
          clear em hvv13
          refine hK.out _ _ Hv13 (fun hHeld => ?_)
          clear hHeld hK K hbv13
          have hmg : m ≠ g := by omega
          have q0 := Bm_v13.cell 0; have q1 := Bm_v13.cell 1; have q2 := Bm_v13.cell 2; have q3 := Bm_v13.cell 3; have q4 := Bm_v13.cell 4
          simp only [cqs, cqz] at q0 q1 q2 q3 q4
          have f0 := Lib.frozen_of_heap Bm_v13 0; have f1 := Lib.frozen_of_heap Bm_v13 1; have f2 := Lib.frozen_of_heap Bm_v13 2; have f3 := Lib.frozen_of_heap Bm_v13 3; have f4 := Lib.frozen_of_heap Bm_v13 4
          refine wpAnyH_ready (rs := [22]) (by kernel_rfl) (by simp) ?_
          refine AllReadyH.cons rfl (fun K hK => ?_) AllReadyH.nil
          go_simp
          obtain ⟨u1, hu1⟩ : ∃ X, ((((v13.setCell ⟨m, 0, none⟩ (.int .i64 e0)).setCell ⟨m, 1, none⟩ (.int .i64 e1)).setCell ⟨m, 2, none⟩ (.int .i64 e2)).setCell ⟨m, 3, none⟩ (.string e3)).setCell ⟨m, 4, none⟩ (.slice e4 e5 e6) = X := ⟨_, rfl⟩
          rw [hu1]
          have Hu1 : Below W1.heap.size W1 u1 := by rw [← hu1]; exact five9 Hv13 Lm
          have Bm_u1 : BoxT u1 m [.int .i64 e0, .int .i64 e1, .int .i64 e2, .string e3, .slice e4 e5 e6] 73 := by rw [← hu1]; exact BoxT.fill Bm_v13
          have Bg_u1 : BoxT u1 g [.int .i64 0, .int .i64 0, .int .i64 0] 36 := by rw [← hu1]; exact BoxT.five Bg_v13 hmg.symm
          refine hK.out _ _ Hu1 (fun hHeld => ?_)
          clear hHeld hK K hu1 q0 q1 q2 q3 q4 f0 f1 f2 f3 f4 Bm_v13 Bg_v13
          refine wpAnyH_take (i := 23) (v := .int .i64 n) rfl (by kernel_rfl) (by kernel_rfl) (by kernel_rfl) (fun _ _ _ h => h) (Or.inl ⟨by rfl, ?_⟩) (by assumption) ?_
          · intro W hW
            go_simp
          simp only [Act.put]
          have q0 := Bg_u1.cell 0; have q1 := Bg_u1.cell 1; have q2 := Bg_u1.cell 2
          simp only [cqs, cqz] at q0 q1 q2
          have f0 := Lib.frozen_of_heap Bg_u1 0; have f1 := Lib.frozen_of_heap Bg_u1 1; have f2 := Lib.frozen_of_heap Bg_u1 2
          refine wpAnyH_ready (rs := [24]) (by kernel_rfl) (by simp) ?_
          refine AllReadyH.cons rfl (fun K hK => ?_) AllReadyH.nil
          go_simp
          obtain ⟨u2, hu2⟩ : ∃ X, ((u1.setCell ⟨g, 0, none⟩ (.int .i64 0)).setCell ⟨g, 1, none⟩ (.int .i64 0)).setCell ⟨g, 2, none⟩ (.int .i64 0) = X := ⟨_, rfl⟩
          rw [hu2]
          have Hu2 : Below W1.heap.size W1 u2 := by rw [← hu2]; exact three9 Hu1 Lg
          have Bg_u2 : BoxT u2 g [.int .i64 0, .int .i64 0, .int .i64 0] 36 := by rw [← hu2]; exact BoxT.fill3 Bg_u1
          have Bm_u2 : BoxT u2 m [.int .i64 e0, .int .i64 e1, .int .i64 e2, .string e3, .slice e4 e5 e6] 73 := by rw [← hu2]; exact BoxT.three Bm_u1 hmg
          refine hK.out _ _ Hu2 (fun hHeld => ?_)
          clear hHeld hK K hu2 q0 q1 q2 f0 f1 f2 Bm_u1 Bg_u1
          refine wpAnyH_done (by kernel_rfl) ?_ _
          go_wp2_with fail
          go_meet
          exact ⟨m, g, rfl, rfl, rfl, Bm_u2, Bg_u2, Hu2, Lm, Lg⟩
      · go_simp
        obtain ⟨v14, hvv14⟩ : ∃ X, v11.alloc (.cells #[.int .i64 0, .int .i64 0, .int .i64 0, .string ⟨#[]⟩, .slice none 0 0] 73) = X := ⟨_, rfl⟩
        rw [hvv14]
        have hbv14 : Below v11.heap.size v11 v14 := by rw [← hvv14]; exact (Below.refl _ _).alloc (Nat.le_refl _) _
        have Bm_v14 : BoxT v14 v11.heap.size [.int .i64 0, .int .i64 0, .int .i64 0, .string ⟨#[]⟩, .slice none 0 0] 73 := by rw [← hvv14]; exact BoxT.new _ _ _
        have Hv14 : Below W1.heap.size W1 v14 := btK Hv11 hbv14
        have Bg_v14 := Bg_v11.below hbv14
        have lgm : g < v11.heap.size := Bg_v11.lt
        have Lm : W1.heap.size ≤ v11.heap.size := Hv11.size
        obtain ⟨m, em⟩ : ∃ x, v11.heap.size = x := ⟨_, rfl⟩
        rw [em] at Bm_v14 Lm lgm ⊢
        clear em hvv14
        refine hK.out _ _ Hv14 (fun hHeld => ?_)
        clear hHeld hK K hbv14
        refine wpAnyH_ready (rs := [15]) (by kernel_rfl) (by simp) ?_
        refine AllReadyH.cons rfl (fun K hK => ?_) (AllReadyH.nil)
        · go_simp
          refine (HPP.out v14 Hv14).mono ?_
          rintro e v15 ⟨rfl, hbv15⟩
          have Hv15 : Below W1.heap.size W1 v15 := btK Hv14 hbv15
          have Bg_v15 := Bg_v14.below hbv15
          have Bm_v15 := Bm_v14.below hbv15
          refine hK.out _ _ Hv15 (fun hHeld => ?_)
          clear hHeld hK K hbv15
          refine wpAnyH_take (i := 16) (v := .tuple #[.agg #[.int .i64 e0, .int .i64 e1, .int .i64 e2, .string e3, .slice e4 e5 e6], .int .i64 n, .agg #[.int .i64 0, .int .i64 0, .int .i64 0]]) rfl (by kernel_rfl) (by kernel_rfl) (by kernel_rfl) (fun _ _ _ h => h) (Or.inl ⟨by rfl, ?_⟩) (by assumption) ?_
          · intro W hW
            go_simp
          simp only [Act.put]
          refine wpAnyH_take (i := 17) (v := .agg #[.int .i64 e0, .int .i64 e1, .int .i64 e2, .string e3, .slice e4 e5 e6]) rfl (by kernel_rfl) (by kernel_rfl) (by kernel_rfl) (fun _ _ _ h => h) (Or.inl ⟨by rfl, ?_⟩) (by assumption) ?_
          · intro W hW
            go_simp
          simp only [Act.put]
          refine wpAnyH_take (i := 18) (v := .int .i64 n) rfl (by kernel_rfl) (by kernel_rfl) (by kernel_rfl) (fun _ _ _ h => h) (Or.inl ⟨by rfl, ?_⟩) (by assumption) ?_
          · intro W hW
            go_simp
          simp only [Act.put]
          refine wpAnyH_take (i := 19) (v := .agg #[.int .i64 0, .int .i64 0, .int .i64 0]) rfl (by kernel_rfl) (by kernel_rfl) (by kernel_rfl) (fun _ _ _ h => h) (Or.inl ⟨by rfl, ?_⟩) (by assumption) ?_
          · intro W hW
            go_simp
          simp only [Act.put]
          have hmg : m ≠ g := by omega
          have q0 := Bm_v15.cell 0; have q1 := Bm_v15.cell 1; have q2 := Bm_v15.cell 2; have q3 := Bm_v15.cell 3; have q4 := Bm_v15.cell 4
          simp only [cqs, cqz] at q0 q1 q2 q3 q4
          have f0 := Lib.frozen_of_heap Bm_v15 0; have f1 := Lib.frozen_of_heap Bm_v15 1; have f2 := Lib.frozen_of_heap Bm_v15 2; have f3 := Lib.frozen_of_heap Bm_v15 3; have f4 := Lib.frozen_of_heap Bm_v15 4
          refine wpAnyH_ready (rs := [22]) (by kernel_rfl) (by simp) ?_
          refine AllReadyH.cons rfl (fun K hK => ?_) AllReadyH.nil
          go_simp
          obtain ⟨u1, hu1⟩ : ∃ X, ((((v15.setCell ⟨m, 0, none⟩ (.int .i64 e0)).setCell ⟨m, 1, none⟩ (.int .i64 e1)).setCell ⟨m, 2, none⟩ (.int .i64 e2)).setCell ⟨m, 3, none⟩ (.string e3)).setCell ⟨m, 4, none⟩ (.slice e4 e5 e6) = X := ⟨_, rfl⟩
          rw [hu1]
          have Hu1 : Below W1.heap.size W1 u1 := by rw [← hu1]; exact five9 Hv15 Lm
          have Bm_u1 : BoxT u1 m [.int .i64 e0, .int .i64 e1, .int .i64 e2, .string e3, .slice e4 e5 e6] 73 := by rw [← hu1]; exact BoxT.fill Bm_v15
          have Bg_u1 : BoxT u1 g [.int .i64 0, .int .i64 0, .int .i64 0] 36 := by rw [← hu1]; exact BoxT.five Bg_v15 hmg.symm
          refine hK.out _ _ Hu1 (fun hHeld => ?_)
          clear hHeld hK K hu1 q0 q1 q2 q3 q4 f0 f1 f2 f3 f4 Bm_v15 Bg_v15
          refine wpAnyH_take (i := 23) (v := .int .i64 n) rfl (by kernel_rfl) (by kernel_rfl) (by kernel_rfl) (fun _ _ _ h => h) (Or.inl ⟨by rfl, ?_⟩) (by assumption) ?_
          · intro W hW
            go_simp
          simp only [Act.put]
          have q0 := Bg_u1.cell 0; have q1 := Bg_u1.cell 1; have q2 := Bg_u1.cell 2
          simp only [cqs, cqz] at q0 q1 q2
          have f0 := Lib.frozen_of_heap Bg_u1 0; have f1 := Lib.frozen_of_heap Bg_u1 1; have f2 := Lib.frozen_of_heap Bg_u1 2
          refine wpAnyH_ready (rs := [24]) (by kernel_rfl) (by simp) ?_
          refine AllReadyH.cons rfl (fun K hK => ?_) AllReadyH.nil
          go_simp
          obtain ⟨u2, hu2⟩ : ∃ X, ((u1.setCell ⟨g, 0, none⟩ (.int .i64 0)).setCell ⟨g, 1, none⟩ (.int .i64 0)).setCell ⟨g, 2, none⟩ (.int .i64 0) = X := ⟨_, rfl⟩
          rw [hu2]
          have Hu2 : Below W1.heap.size W1 u2 := by rw [← hu2]; exact three9 Hu1 Lg
          have Bg_u2 : BoxT u2 g [.int .i64 0, .int .i64 0, .int .i64 0] 36 := by rw [← hu2]; exact BoxT.fill3 Bg_u1
          have Bm_u2 : BoxT u2 m [.int .i64 e0, .int .i64 e1, .int .i64 e2, .string e3, .slice e4 e5 e6] 73 := by rw [← hu2]; exact BoxT.three Bm_u1 hmg
          refine hK.out _ _ Hu2 (fun hHeld => ?_)
          clear hHeld hK K hu2 q0 q1 q2 f0 f1 f2 Bm_u1 Bg_u1
          refine wpAnyH_done (by kernel_rfl) ?_ _
          go_wp2_with fail
          go_meet
          exact ⟨m, g, rfl, rfl, rfl, Bm_u2, Bg_u2, Hu2, Lm, Lg⟩
  case rest =>
    obtain ⟨m, g, rfl, rfl, rfl, hm, hg, hb, Lm, Lg⟩ := hcut
    have hp2 := CS.below HP.out hb
    have hr2 := HR.out.below hb
    have hk2 := HK.out.below hb (Nat.le_of_lt HP.out.lt)
    obtain ⟨y0, y1, y2⟩ := hp2.cells
    have fb := Lib.frozen_of_heap hp2 1
    have g0 := hg.cell 0
    simp only [cqz] at g0
    have hk0 : (0 : Int) ≤ (k : Int) := by omega
    have hk9 : (k : Int) ≤ 1000 := by omega
    have hn9 : (n : Int) ≤ 1000 := by omega
    have HM := Lib.hid hm
    have HP2 := Lib.hid hp2
    have HK2 := Lib.hid hk2
    have HR2 := Lib.hid hr2
    clear hm hg hb hp2 hk2 hr2 HPP
    go_upto_region 5 with fail
    obtain ⟨w6, hw6⟩ : ∃ x, wc.setCell ⟨b, 1, none⟩ (.int .i64 ((k : Int) + (n : Int))) = x := ⟨_, rfl⟩
    rw [hw6]
    have hp6 : CS w6 b (.slice (some ⟨b2, off, none⟩) l.length cap) (k + n) own := by
      have e : ((k + n : Nat) : Int) = (k : Int) + (n : Int) := by omega
      rw [CS, e, ← hw6]
      exact BoxT.at1 HP2.out
    have hk6 : Kept b b w w6 := by rw [← hw6]; exact HK2.out.atB
    have hm6 : BoxT w6 m [.int .i64 e0, .int .i64 e1, .int .i64 e2, .string e3, .slice e4 e5 e6] 73 := by rw [← hw6]; exact HM.out.farT (by omega)
    have hr6 : BoxT w6 w.heap.size [.int .i64 0, .int .i64 0, .int .i64 0, .string ⟨#[]⟩, .slice none 0 0] 73 := by rw [← hw6]; exact HR2.out.farT (by omega)
    clear y0 y1 y2 fb g0
    have n0 := hm6.cell 0
    have n1 := hm6.cell 1
    have n2 := hm6.cell 2
    have n3 := hm6.cell 3
    have n4 := hm6.cell 4
    simp only [cqs, cqz] at n0 n1 n2 n3 n4
    have q0 := hr6.cell 0; have q1 := hr6.cell 1; have q2 := hr6.cell 2; have q3 := hr6.cell 3; have q4 := hr6.cell 4; simp only [cqs, cqz] at q0 q1 q2 q3 q4; have f0 := Lib.frozen_of_heap hr6 0; have f1 := Lib.frozen_of_heap hr6 1; have f2 := Lib.frozen_of_heap hr6 2; have f3 := Lib.frozen_of_heap hr6 3; have f4 := Lib.frozen_of_heap hr6 4
    have HP6 := Lib.hid hp6
    have HK6 := Lib.hid hk6
    clear hp6 hk6 hm6 hr6 hw6
    go_wp2
    (try simp only [Exit.inBlock, Exit.then])
    exact bodyPost_ret (v := .agg #[.int .i64 e0, .int .i64 e1, .int .i64 e2, .string e3, .slice e4 e5 e6]) (by simp [results, Tryz.results138, go_sem, q0, q1, q2, q3, q4]) rfl ⟨rfl, BoxT.five HP6.out (by omega), HK6.out.five (Nat.le_refl _) (by omega)⟩
end Go.Proofs.YtnbfadgclffgkaaGreatDoor
