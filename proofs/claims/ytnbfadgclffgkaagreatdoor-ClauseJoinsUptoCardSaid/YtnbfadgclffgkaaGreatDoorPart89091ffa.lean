/- clause's stmt at say. Printed by gen-par18.py. -/
import Derived.Test.YtnbfadgclffgkaaGreatDoorPartbde8f590
import Derived.Test.YtnbfadgclffgkaaGreatDoorBlockDeepT
import Derived.Deep.RegionHeld
import Derived.Test.YtnbfadgclffgkaaGreatDoorParteab39030
namespace Go.Proofs.YtnbfadgclffgkaaGreatDoor
open Go.RowKit Go.Sort
def sayS (q : Int) (s2 : ByteArray) : St := .mk 1 0 ⟨#[]⟩ [.mk 1 0 q ⟨#[]⟩ [], .mk 2 0 0 s2 []] [] []
theorem say_depths (q : Int) (s2 : ByteArray) : min (St.depths [sayS q s2]) 65 = 2 := by simp [sayS, St.depths, St.depth, Ex.depths, Ex.depth]
theorem say_sts {W : World} {lo g cap m : Nat} {q : Int} {s2 : ByteArray} (hown : W.ownsRow lo 73 5 (.slice (some ⟨g, 0, none⟩) 2 cap) 2 [.int .i64 1, .int .i64 0, .int .i64 q, .string ⟨#[]⟩, .slice none 0 0, .int .i64 2, .int .i64 0, .int .i64 0, .string s2, .slice none 0 0]) (hm : BoxT W m [.int .i64 1, .int .i64 0, .string ⟨#[]⟩, .slice (some ⟨g, 0, none⟩) 2 cap, .slice none 0 0, .slice none 0 0] 27) (hq : I64 q) (hs : s2.size ≤ maxLen) : Sts (fun x => x < W.heap.size) W [sayS q s2] (.slice (some ⟨m, 0, none⟩) 1 1) := by
  have i0 : I64 0 := by unfold I64; omega
  have i1 : I64 1 := by unfold I64; omega
  have i2 : I64 2 := by unfold I64; omega
  have l0 : (⟨#[]⟩ : ByteArray).size ≤ maxLen := Nat.zero_le _
  have ho : OwnR Holds.ex 73 5 lo W [Ex.mk 1 0 q ⟨#[]⟩ [], Ex.mk 2 0 0 s2 []] (.slice (some ⟨g, 0, none⟩) 2 cap) := ⟨_, fun _ => False, hown, fun _ h => h.elim, fun i hi => by
    match i, hi with
    | 0, _ => exact ⟨i1, i0, hq, l0, _, fun _ _ => undef, rfl, ⟨none, 0, rfl, Nat.le_refl _, Nat.zero_le _, fun h => absurd h (by simp)⟩, trivial⟩
    | 1, _ => exact ⟨i2, i0, i0, hs, _, fun _ _ => undef, rfl, ⟨none, 0, rfl, Nat.le_refl _, Nat.zero_le _, fun h => absurd h (by simp)⟩, trivial⟩
    | n + 2, hi => simp at hi; omega⟩
  obtain ⟨c1, h1, h2⟩ := ho.exs
  have hw : ∀ b, NewB lo W.heap.size b → b < W.heap.size := fun b h => h.2
  refine ⟨fun _ j => [.int .i64 1, .int .i64 0, .string ⟨#[]⟩, .slice (some ⟨g, 0, none⟩) 2 cap, .slice none 0 0, .slice none 0 0].getD j undef, ⟨_, 1, rfl, Nat.le_refl _, by unfold maxLen; simp, fun _ => ⟨m, 0, rfl, hm.lt, fun i hi j hj => ?_⟩⟩, ⟨⟨i1, i0, l0, _, c1, _, fun _ _ => undef, _, fun _ _ => undef, rfl, h1.keep (fun _ _ => rfl) hw, h2.keep (fun _ _ => rfl) hw, ⟨none, 0, rfl, Nat.le_refl _, Nat.zero_le _, fun h => absurd h (by simp)⟩, trivial, ⟨none, 0, rfl, Nat.le_refl _, Nat.zero_le _, fun h => absurd h (by simp)⟩, trivial⟩, trivial⟩⟩
  have hi0 : i = 0 := by simpa using hi
  subst hi0
  rw [Nat.zero_mul, Nat.add_zero, Nat.zero_add, hm.cell j]
  match j, hj with
  | 0, _ => rfl
  | 1, _ => rfl
  | 2, _ => rfl
  | 3, _ => rfl
  | 4, _ => rfl
  | 5, _ => rfl
  | n + 6, hj => omega
set_option maxRecDepth 100000 in
set_option maxHeartbeats 4000000 in
theorem cstmt_calls (b : Nat) (v : Value) (k k4 : Nat) (l : List TokD) (q : Int) (s2 : ByteArray) (_hk : k ≤ 900) (hq : I64 q) (hs2 : s2.size ≤ maxLen)
    (hI : ∀ W, CS W b v k 0 → RdL Holds.tok 5 (fun x => x < b) W l v → Calls Tryz.prog 60 #[.pointer (some ⟨b, 0, none⟩), .int .i64 0] W (SayQ W b v k4 0 q s2))
    (w : World) (hp : CS w b v k 0) (hl : RdL Holds.tok 5 (fun x => x < b) w l v) : Calls Tryz.prog 32 #[.pointer (some ⟨b, 0, none⟩), .int .i64 0] w (SayQ w b v k4 0 q s2) := by
  have hbl := hp.lt
  obtain ⟨W1, hW1⟩ : ∃ x, w.alloc (.cells #[.int .i64 0, .int .i64 0, .string ⟨#[]⟩, .slice none 0 0, .slice none 0 0, .slice none 0 0] 27) = x := ⟨_, rfl⟩
  have hz1 : W1.heap.size = w.heap.size + 1 := by rw [← hW1]; simp
  have hb1 : Below w.heap.size w W1 := by rw [← hW1]; exact (Below.refl _ _).alloc (Nat.le_refl _) _
  have hr1 : BoxT W1 w.heap.size [.int .i64 0, .int .i64 0, .string ⟨#[]⟩, .slice none 0 0, .slice none 0 0, .slice none 0 0] 27 := by rw [← hW1]; exact BoxT.new _ _ _
  have hk1 : Kept b b w W1 := Kept.of hb1 (Nat.le_of_lt hbl)
  have hp1 := CS.below hp hb1
  have HI := Lib.hid (hI W1 hp1 (hk1.toks hl))
  obtain ⟨z0, z1, z2⟩ := hp1.cells
  have HR1 := Lib.hid hr1; have HK1 := Lib.hid hk1; have HL := Lib.hid hl; have HZ1 := Lib.hid hz1; have HW1 := Lib.hid hW1
  clear hr1 hk1 hp1 hl hz1 hW1 hI hb1 hp
  go_enter Tryz.func32, Tryz.ntmps32
  go_upto_region 1 with fail
  rw [HW1.out]
  go_upto_region 3 with (go_at_call 60; (with_reducible refine HI.out.mono ?_); rintro e w1 ⟨g, cap, rfl, hown, hp2, hk2⟩)
  clear z0 z1 z2
  obtain ⟨w2, hw2⟩ : ∃ x, w1.alloc (.cells #[.int .i64 1, .int .i64 0, .string ⟨#[]⟩, .slice (some ⟨g, 0, none⟩) 2 cap, .slice none 0 0, .slice none 0 0] 27) = x := ⟨_, rfl⟩
  rw [hw2]
  have hs1 := hk2.1.size
  have hb2 : Below w1.heap.size w1 w2 := by rw [← hw2]; exact (Below.refl _ _).alloc (Nat.le_refl _) _
  have hy2 : BoxT w2 w1.heap.size [.int .i64 1, .int .i64 0, .string ⟨#[]⟩, .slice (some ⟨g, 0, none⟩) 2 cap, .slice none 0 0, .slice none 0 0] 27 := by rw [← hw2]; exact BoxT.new _ _ _
  have hr2 := (HR1.out.keep hk2 (by decide) (by omega)).below hb2
  have hown2 := own_kept hown (Kept.of hb2 (Nat.le_of_lt hp2.lt)) (by have := HZ1.out; omega)
  have hk22 := (HK1.out.trans hk2).below hb2 (Nat.le_of_lt hp2.lt)
  have hp22 := CS.below hp2 hb2
  have hry : w.heap.size < w1.heap.size := by have := HZ1.out; omega
  generalize w1.heap.size = y at hy2 hry ⊢
  have HY2 := Lib.hid hy2; have HR2 := Lib.hid hr2; have HOWN := Lib.hid hown2; have HK2 := Lib.hid hk22; have HP2 := Lib.hid hp22
  have hz9 : b < W1.heap.size := by have := HZ1.out; omega
  have hz99 : w.heap.size < W1.heap.size := by have := HZ1.out; omega
  clear hw2 hb2 hy2 hr2 hown hown2 hk2 hk22 hp2 hp22 hs1 HI HZ1 HR1 HK1
  go_cut [24] (fun x wc => x = .bool false ∧ Below w2.heap.size w2 wc)
  case first =>
    refine wp_region_held_drew (S := fun W => Below w2.heap.size w2 W) (by kernel_rfl) (Below.refl _ _).drew (fun hHeld => ?_)
    have h0 : Below w2.heap.size w2 w2.drew := (Below.refl _ _).drew
    clear hHeld
    generalize w2.drew = v0 at h0 ⊢
    refine wpAnyH_take (i := 0) (v := .agg #[.int .i64 1, .int .i64 0, .string ⟨#[]⟩, .slice (some ⟨g, 0, none⟩) 2 cap, .slice none 0 0, .slice none 0 0]) rfl (by kernel_rfl) (by kernel_rfl) (by kernel_rfl) (fun _ _ _ h => h) (Or.inl ⟨by rfl, ?_⟩) (by assumption) ?_
    · intro W hW
      obtain ⟨m0, m1, m2, m3, m4, m5⟩ := (HY2.out.below hW).cells6
      go_simp
    simp only [Act.put]
    refine wpAnyH_take (i := 3) (v := .int .i64 0) rfl (by kernel_rfl) (by kernel_rfl) (by kernel_rfl) (fun _ _ _ h => h) (Or.inl ⟨by rfl, ?_⟩) (by assumption) ?_
    · intro W hW
      go_simp
    simp only [Act.put]
    refine wpAnyH_take (i := 5) (v := .pointer (some ⟨b, 0, none⟩)) rfl (by kernel_rfl) (by kernel_rfl) (by kernel_rfl) (fun _ _ _ h => h) (Or.inl ⟨by rfl, ?_⟩) (by assumption) ?_
    · intro W hW
      go_simp
    simp only [Act.put]
    refine wpAnyH_take (i := 6) (v := .pointer (some ⟨b, 0, none⟩)) rfl (by kernel_rfl) (by kernel_rfl) (by kernel_rfl) (fun _ _ _ h => h) (Or.inl ⟨by rfl, ?_⟩) (by assumption) ?_
    · intro W hW
      go_simp
    simp only [Act.put]
    refine wpAnyH_take (i := 7) (v := .pointer (some ⟨b, 2, none⟩)) rfl (by kernel_rfl) (by kernel_rfl) (by kernel_rfl) (fun _ _ _ h => h) (Or.inl ⟨by rfl, ?_⟩) (by assumption) ?_
    · intro W hW
      go_simp
    simp only [Act.put]
    refine wpAnyH_take (i := 8) (v := .int .i64 0) rfl (by kernel_rfl) (by kernel_rfl) (by kernel_rfl) (fun _ _ _ h => h) (Or.inl ⟨by rfl, ?_⟩) (by assumption) ?_
    · intro W hW
      have z2 := (CS.below HP2.out hW).cells.2.2
      simp at z2
      go_simp
    simp only [Act.put]
    refine wpAnyH_ready (rs := [1]) (by kernel_rfl) (by simp) ?_
    refine AllReadyH.cons rfl (fun K hK => ?_) (AllReadyH.nil)
    · go_simp
      obtain ⟨v1, hvv1⟩ : ∃ X, v0.alloc (.cells #[.int .i64 1, .int .i64 0, .string ⟨#[]⟩, .slice (some ⟨g, 0, none⟩) 2 cap, .slice none 0 0, .slice none 0 0] 27) = X := ⟨_, rfl⟩
      rw [hvv1]
      have hbv1 : Below v0.heap.size v0 v1 := by rw [← hvv1]; exact (Below.refl _ _).alloc (Nat.le_refl _) _
      have Bm_v1 : BoxT v1 v0.heap.size [.int .i64 1, .int .i64 0, .string ⟨#[]⟩, .slice (some ⟨g, 0, none⟩) 2 cap, .slice none 0 0, .slice none 0 0] 27 := by rw [← hvv1]; exact BoxT.new _ _ _
      have Hv1 : Below w2.heap.size w2 v1 := btK h0 hbv1
      have Lm : w2.heap.size ≤ v0.heap.size := h0.size
      obtain ⟨m, em⟩ : ∃ x, v0.heap.size = x := ⟨_, rfl⟩
      rw [em] at Bm_v1 Lm ⊢
      clear em hvv1
      refine hK.out _ _ Hv1 (fun hHeld => ?_)
      clear hHeld hK K hbv1
      refine wpAnyH_ready (rs := [2]) (by kernel_rfl) (by simp) ?_
      refine AllReadyH.cons rfl (fun K hK => ?_) (AllReadyH.nil)
      · go_simp
        have hdb := depthBT_calls _ (fun x => x < v1.heap.size) v1 _ (fun _ h => h) (say_sts (own_kept HOWN.out (Kept.of Hv1 (Nat.le_of_lt HP2.out.lt)) (by omega)) Bm_v1 hq hs2)
        simp only [say_depths] at hdb
        refine (hdb).mono ?_
        rintro e v2 ⟨rfl, hbv2⟩
        have Hv2 : Below w2.heap.size w2 v2 := btK Hv1 hbv2
        have Bm_v2 := Bm_v1.below hbv2
        refine hK.out _ _ Hv2 (fun hHeld => ?_)
        clear hHeld hK K hbv2
        refine wpAnyH_take (i := 4) (v := .int .i64 2) rfl (by kernel_rfl) (by kernel_rfl) (by kernel_rfl) (fun _ _ _ h => h) (Or.inl ⟨by rfl, ?_⟩) (by assumption) ?_
        · intro W hW
          have hwr : IntKind.i64.wrap 2 = 2 := by decide
          go_simp
        simp only [Act.put]
        refine wpAnyH_take (i := 9) (v := .int .i64 2) rfl (by kernel_rfl) (by kernel_rfl) (by kernel_rfl) (fun _ _ _ h => h) (Or.inl ⟨by rfl, ?_⟩) (by assumption) ?_
        · intro W hW
          have hwr : IntKind.i64.wrap 2 = 2 := by decide
          go_simp
        simp only [Act.put]
        refine wpAnyH_take (i := 10) (v := .bool false) rfl (by kernel_rfl) (by kernel_rfl) (by kernel_rfl) (fun _ _ _ h => h) (Or.inl ⟨by rfl, ?_⟩) (by assumption) ?_
        · intro W hW
          go_simp
        simp only [Act.put]
        refine wpAnyH_done (by kernel_rfl) ?_ _
        go_simp
        go_wp2_with fail
        go_meet
        exact ⟨rfl, Hv2⟩
  case rest =>
    obtain ⟨rfl, hb⟩ := hcut
    have hy := HY2.out.below hb
    have hr := HR2.out.below hb
    have hown := own_kept HOWN.out (Kept.of hb (Nat.le_of_lt HP2.out.lt)) hz9
    obtain ⟨m0, m1, m2, m3, m4, m5⟩ := hy.cells6
    obtain ⟨q0, q1, q2, q3, q4, q5⟩ := hr.cells6
    have f0 := Lib.frozen_of_heap hr 0; have f1 := Lib.frozen_of_heap hr 1; have f2 := Lib.frozen_of_heap hr 2; have f3 := Lib.frozen_of_heap hr 3; have f4 := Lib.frozen_of_heap hr 4; have f5 := Lib.frozen_of_heap hr 5
    have HO := Lib.hid hown; have HB := Lib.hid hb
    clear hown hb
    go_wp2
    (try simp only [Exit.inBlock, Exit.then])
    exact bodyPost_ret (v := .agg #[.int .i64 1, .int .i64 0, .string ⟨#[]⟩, .slice (some ⟨g, 0, none⟩) 2 cap, .slice none 0 0, .slice none 0 0]) (by simp [results, Tryz.results32, go_sem, q0, q1, q2, q3, q4, q5]) rfl ⟨g, cap, rfl, own_six' HO.out (by omega) (by omega), BoxT.six (CS.below HP2.out HB.out) (by omega), (HK2.out.below HB.out (Nat.le_of_lt HP2.out.lt)).six (Nat.le_refl _) (by omega)⟩
end Go.Proofs.YtnbfadgclffgkaaGreatDoor
/- clause.Parse at say. Printed by gen-par19.py. -/
namespace Go.Proofs.YtnbfadgclffgkaaGreatDoor
open Go.RowKit Go.Sort
set_option maxRecDepth 100000 in
set_option maxHeartbeats 4000000 in
theorem cparse1_calls (b : Nat) (v : Value) (k k4 : Nat) (l : List TokD) (q : Int) (s2 : ByteArray)
    (hI : ∀ W, CS W b v k 0 → RdL Holds.tok 5 (fun x => x < b) W l v → Calls Tryz.prog 32 #[.pointer (some ⟨b, 0, none⟩), .int .i64 0] W (SayQ W b v k4 0 q s2))
    (w : World) (hp : CS w b v k 0) (hl : RdL Holds.tok 5 (fun x => x < b) w l v) : Calls Tryz.prog 31 #[.pointer (some ⟨b, 0, none⟩)] w (SayQ w b v k4 0 q s2) := by
  have hbl := hp.lt
  obtain ⟨W1, hW1⟩ : ∃ x, w.alloc (.cells #[.int .i64 0, .int .i64 0, .string ⟨#[]⟩, .slice none 0 0, .slice none 0 0, .slice none 0 0] 27) = x := ⟨_, rfl⟩
  have hz1 : W1.heap.size = w.heap.size + 1 := by rw [← hW1]; simp
  have hb1 : Below w.heap.size w W1 := by rw [← hW1]; exact (Below.refl _ _).alloc (Nat.le_refl _) _
  have hr1 : BoxT W1 w.heap.size [.int .i64 0, .int .i64 0, .string ⟨#[]⟩, .slice none 0 0, .slice none 0 0, .slice none 0 0] 27 := by rw [← hW1]; exact BoxT.new _ _ _
  have hk1 : Kept b b w W1 := Kept.of hb1 (Nat.le_of_lt hbl)
  have HI := Lib.hid (hI W1 (CS.below hp hb1) (hk1.toks hl))
  have HR1 := Lib.hid hr1; have HK1 := Lib.hid hk1; have HZ1 := Lib.hid hz1; have HW1 := Lib.hid hW1
  clear hr1 hk1 hz1 hW1 hI hb1 hp hl
  go_enter Tryz.func31, Tryz.ntmps31
  go_upto_region 1 with fail
  rw [HW1.out]
  go_wp2_with (go_at_call 32; (with_reducible refine HI.out.mono ?_); rintro e w1 ⟨g, cap, rfl, hown, hp2, hk2⟩; have hr := HR1.out.keep hk2 (by decide) (by omega); obtain ⟨q0, q1, q2, q3, q4, q5⟩ := hr.cells6; have f0 := Lib.frozen_of_heap hr 0; have f1 := Lib.frozen_of_heap hr 1; have f2 := Lib.frozen_of_heap hr 2; have f3 := Lib.frozen_of_heap hr 3; have f4 := Lib.frozen_of_heap hr 4; have f5 := Lib.frozen_of_heap hr 5)
  (try simp only [Exit.inBlock, Exit.then])
  have hz := HZ1.out
  exact bodyPost_ret (v := .agg #[.int .i64 1, .int .i64 0, .string ⟨#[]⟩, .slice (some ⟨g, 0, none⟩) 2 cap, .slice none 0 0, .slice none 0 0]) (by simp [results, Tryz.results31, go_sem, q0, q1, q2, q3, q4, q5]) rfl ⟨g, cap, rfl, own_six' hown (by omega) (by omega), BoxT.six hp2 (by omega), (HK1.out.trans hk2).six (Nat.le_refl _) (by omega)⟩
def SayP (w : World) (k : Nat) (e : Ending) (w' : World) : Prop := ∃ g cap, e = .returned (.tuple #[.agg #[.int .i64 1, .int .i64 0, .string ⟨#[]⟩, .slice (some ⟨g, 0, none⟩) 2 cap, .slice none 0 0, .slice none 0 0], .int .i64 k, .agg #[.int .i64 0, .int .i64 0, .int .i64 0]]) ∧ Below w.heap.size w w'
set_option maxRecDepth 100000 in
set_option maxHeartbeats 4000000 in
theorem cparsed_calls (w : World) (v : Value) (k4 : Nat) (l : List TokD) (q : Int) (s2 : ByteArray) (hl : RdL Holds.tok 5 (fun x => x < w.heap.size) w l v)
    (hI : ∀ b W, CS W b v 0 0 → RdL Holds.tok 5 (fun x => x < b) W l v → Calls Tryz.prog 31 #[.pointer (some ⟨b, 0, none⟩)] W (SayQ W b v k4 0 q s2)) :
    Calls Tryz.prog 30 #[v, .int .i64 0, .func (.func 31) #[] #[]] w (SayP w k4) := by
  have hmf : ∀ (fn : Fn) (first cap : Array Value) (w : World), (Instr.makeFunc fn first cap).run Tryz.prog w = .ok (.func fn first cap) w := fun _ _ _ _ => rfl
  obtain ⟨a, cap0, hv⟩ := hl.shape
  obtain ⟨W1, hW1⟩ : ∃ x, w.alloc (.cells #[.int .i64 0, .int .i64 0, .string ⟨#[]⟩, .slice none 0 0, .slice none 0 0, .slice none 0 0] 27) = x := ⟨_, rfl⟩
  obtain ⟨W2, hW2⟩ : ∃ x, W1.alloc (.cells #[.int .i64 0] 3) = x := ⟨_, rfl⟩
  obtain ⟨W3, hW3⟩ : ∃ x, W2.alloc (.cells #[.int .i64 0, .int .i64 0, .int .i64 0] 36) = x := ⟨_, rfl⟩
  obtain ⟨W4, hW4⟩ : ∃ x, W3.alloc (.cells #[v, .int .i64 0, .int .i64 0] 86) = x := ⟨_, rfl⟩
  have hz1 : W1.heap.size = w.heap.size + 1 := by rw [← hW1]; simp
  have hz2 : W2.heap.size = w.heap.size + 2 := by rw [← hW2]; simp [hz1]
  have hz3 : W3.heap.size = w.heap.size + 3 := by rw [← hW3]; simp [hz2]
  have hb1 : Below w.heap.size w W1 := by rw [← hW1]; exact (Below.refl _ _).alloc (Nat.le_refl _) _
  have hb2 : Below W1.heap.size W1 W2 := by rw [← hW2]; exact (Below.refl _ _).alloc (Nat.le_refl _) _
  have hb3 : Below W2.heap.size W2 W3 := by rw [← hW3]; exact (Below.refl _ _).alloc (Nat.le_refl _) _
  have hb4 : Below W3.heap.size W3 W4 := by rw [← hW4]; exact (Below.refl _ _).alloc (Nat.le_refl _) _
  have hx1 : BoxT W1 w.heap.size [.int .i64 0, .int .i64 0, .string ⟨#[]⟩, .slice none 0 0, .slice none 0 0, .slice none 0 0] 27 := by rw [← hW1]; exact BoxT.new _ _ _
  have hx2 : BoxT W2 (w.heap.size + 1) [.int .i64 0] 3 := by rw [← hz1, ← hW2]; exact BoxT.new _ _ _
  have hx3 : BoxT W3 (w.heap.size + 2) [.int .i64 0, .int .i64 0, .int .i64 0] 36 := by rw [← hz2, ← hW3]; exact BoxT.new _ _ _
  have hp4 : CS W4 (w.heap.size + 3) v 0 0 := by rw [← hz3, ← hW4]; exact BoxT.new _ _ _
  have hx1 := ((hx1.below hb2).below hb3).below hb4
  have hx2 := (hx2.below hb3).below hb4
  have hx3 := hx3.below hb4
  have hB4 : Below w.heap.size w W4 := ((bt hb1 hb2).trans (hb3.mono (by omega))).trans (hb4.mono (by omega))
  have hl4 : RdL Holds.tok 5 (fun x => x < w.heap.size + 3) W4 l v := hl.keep (fun x hx => hB4.block x hx) (fun x hx => by omega)
  have HD := Lib.hid (hI (w.heap.size + 3) W4 hp4 hl4)
  have HX1 := Lib.hid hx1
  have HX2 := Lib.hid hx2
  have HX3 := Lib.hid hx3
  have HB4 := Lib.hid hB4
  have HW1 := Lib.hid hW1
  have HW2 := Lib.hid hW2
  have HW3 := Lib.hid hW3
  have HW4 := Lib.hid hW4
  clear hx1 hx2 hx3 hB4 hW1 hW2 hW3 hW4 hz1 hz2 hz3 hb1 hb2 hb3 hb4 hp4 hl4 hI hl
  subst hv
  go_enter_defers Tryz.func30, Tryz.ntmps30
  go_upto_region 3 with fail
  rw [HW1.out, HW2.out, HW3.out, HW4.out]
  go_upto_region 4 with ((with_reducible refine HD.out.mono ?_); rintro e w5 ⟨g, cap, rfl, -, hp5, hk5⟩; have hr6 := HX1.out.keep hk5 (by decide) (by omega); obtain ⟨q0, q1, q2, q3, q4, q5⟩ := hr6.cells6; have f0 := Lib.frozen_of_heap hr6 0; have f1 := Lib.frozen_of_heap hr6 1; have f2 := Lib.frozen_of_heap hr6 2; have f3 := Lib.frozen_of_heap hr6 3; have f4 := Lib.frozen_of_heap hr6 4; have f5 := Lib.frozen_of_heap hr6 5)
  have hx2 := HX2.out.keep hk5 (by decide) (by omega)
  have hx3 := HX3.out.keep hk5 (by decide) (by omega)
  obtain ⟨w6, hw6⟩ : ∃ x, (((((w5.setCell ⟨w.heap.size, 0, none⟩ (.int .i64 1)).setCell ⟨w.heap.size, 1, none⟩ (.int .i64 0)).setCell ⟨w.heap.size, 2, none⟩ (.string ⟨#[]⟩)).setCell ⟨w.heap.size, 3, none⟩ (.slice (some ⟨g, 0, none⟩) 2 cap)).setCell ⟨w.heap.size, 4, none⟩ (.slice none 0 0)).setCell ⟨w.heap.size, 5, none⟩ (.slice none 0 0) = x := ⟨_, rfl⟩
  rw [hw6]
  have hp6 : CS w6 (w.heap.size + 3) (.slice a l.length cap0) k4 0 := by rw [← hw6]; exact BoxT.six hp5 (by omega)
  have hr6' : BoxT w6 w.heap.size [.int .i64 1, .int .i64 0, .string ⟨#[]⟩, .slice (some ⟨g, 0, none⟩) 2 cap, .slice none 0 0, .slice none 0 0] 27 := by rw [← hw6]; exact BoxT.fill6 hr6
  have hx2' : BoxT w6 (w.heap.size + 1) [.int .i64 0] 3 := by rw [← hw6]; exact BoxT.six hx2 (by omega)
  have hx3' : BoxT w6 (w.heap.size + 2) [.int .i64 0, .int .i64 0, .int .i64 0] 36 := by rw [← hw6]; exact BoxT.six hx3 (by omega)
  have hB6 : Below w.heap.size w w6 := by rw [← hw6]; exact six9 (HB4.out.trans (hk5.1.mono (by omega))) (Nat.le_refl _)
  clear q0 q1 q2 q3 q4 q5 f0 f1 f2 f3 f4 f5 hr6 hx2 hx3 hw6 hp5 hk5
  obtain ⟨y0, y1, y2⟩ := hp6.cells
  obtain ⟨q0, q1, q2, q3, q4, q5⟩ := hr6'.cells6
  have r0 := hx2'.cell 0
  simp only [cqz] at r0
  have s0 := hx3'.cell 0
  have s1 := hx3'.cell 1
  have s2 := hx3'.cell 2
  simp only [cqs, cqz] at s0 s1 s2
  have f0 := Lib.frozen_of_heap hr6' 0; have f1 := Lib.frozen_of_heap hr6' 1; have f2 := Lib.frozen_of_heap hr6' 2; have f3 := Lib.frozen_of_heap hr6' 3; have f4 := Lib.frozen_of_heap hr6' 4; have f5 := Lib.frozen_of_heap hr6' 5
  have g0 := Lib.frozen_of_heap hx2' 0
  have j0 := Lib.frozen_of_heap hx3' 0
  have j1 := Lib.frozen_of_heap hx3' 1
  have j2 := Lib.frozen_of_heap hx3' 2
  have HB6 := Lib.hid hB6
  clear hp6 hr6' hx2' hx3' hB6
  go_region
  go_wp2
  refine leaves_cons (f := 59) (args := #[.pointer (some ⟨w.heap.size, 0, none⟩), .pointer (some ⟨w.heap.size + 1, 0, none⟩), .pointer (some ⟨w.heap.size + 2, 0, none⟩)]) (by simp) (by simp [go_sem]) ?_
  refine (ccaught_idle _ _ _ _).mono ?_
  rintro e u' w'' ⟨rfl, rfl, rfl⟩
  refine leaves_done (v := .tuple #[.agg #[.int .i64 1, .int .i64 0, .string ⟨#[]⟩, .slice (some ⟨g, 0, none⟩) 2 cap, .slice none 0 0, .slice none 0 0], .int .i64 k4, .agg #[.int .i64 0, .int .i64 0, .int .i64 0]]) ?_ ⟨g, cap, rfl, ?_⟩
  · simp [results, Tryz.results30, go_sem, q0, q1, q2, q3, q4, q5, r0, s0, s1, s2]
  · exact Below.drew (((((six9 HB6.out (Nat.le_refl _)).setCell (p := ⟨w.heap.size + 1, 0, none⟩) (Nat.le_succ _) _).setCell (p := ⟨w.heap.size + 1 + 1, 0, none⟩) (Nat.le_add_right _ 2) _).setCell (p := ⟨w.heap.size + 1 + 1, 1, none⟩) (Nat.le_add_right _ 2) _).setCell (p := ⟨w.heap.size + 1 + 1, 2, none⟩) (Nat.le_add_right _ 2) _)
set_option maxRecDepth 100000 in
set_option maxHeartbeats 4000000 in
theorem cParse_calls (w : World) (v : Value) (k4 : Nat) (l : List TokD) (q : Int) (s2 : ByteArray) (hl : RdL Holds.tok 5 (fun x => x < w.heap.size) w l v)
    (hI : ∀ b W, CS W b v 0 0 → RdL Holds.tok 5 (fun x => x < b) W l v → Calls Tryz.prog 31 #[.pointer (some ⟨b, 0, none⟩)] W (SayQ W b v k4 0 q s2)) : Calls Tryz.prog 14 #[v] w (SayP w k4) := by
  obtain ⟨W1, hW1⟩ : ∃ x, w.alloc (.cells #[.int .i64 0, .int .i64 0, .string ⟨#[]⟩, .slice none 0 0, .slice none 0 0, .slice none 0 0] 27) = x := ⟨_, rfl⟩
  obtain ⟨W2, hW2⟩ : ∃ x, W1.alloc (.cells #[.int .i64 0, .int .i64 0, .int .i64 0] 36) = x := ⟨_, rfl⟩
  have hz1 : W1.heap.size = w.heap.size + 1 := by rw [← hW1]; simp
  have hb1 : Below w.heap.size w W1 := by rw [← hW1]; exact (Below.refl _ _).alloc (Nat.le_refl _) _
  have hb2 : Below W1.heap.size W1 W2 := by rw [← hW2]; exact (Below.refl _ _).alloc (Nat.le_refl _) _
  have hr1 : BoxT W1 w.heap.size [.int .i64 0, .int .i64 0, .string ⟨#[]⟩, .slice none 0 0, .slice none 0 0, .slice none 0 0] 27 := by rw [← hW1]; exact BoxT.new _ _ _
  have hr2 : BoxT W2 (w.heap.size + 1) [.int .i64 0, .int .i64 0, .int .i64 0] 36 := by rw [← hz1, ← hW2]; exact BoxT.new _ _ _
  have hx1 := hr1.below hb2
  have hB2 := btK hb1 hb2
  have HD := Lib.hid (cparsed_calls W2 v k4 l q s2 (hl.keep (fun x hx => hB2.block x hx) (fun x hx => by have := hB2.size; omega)) hI)
  have HX1 := Lib.hid hx1; have HX2 := Lib.hid hr2; have HB2 := Lib.hid hB2; have HW1 := Lib.hid hW1; have HW2 := Lib.hid hW2
  clear hz1 hb1 hb2 hr1 hr2 hx1 hB2 hW1 hW2 hl hI
  go_enter Tryz.func14, Tryz.ntmps14
  go_upto_region 1 with fail
  rw [HW1.out, HW2.out]
  go_wp2_with (go_at_call 30; (with_reducible refine HD.out.mono ?_); rintro e w3 ⟨g, cap, rfl, hb3⟩; have hr := HX1.out.below hb3; have hs := HX2.out.below hb3; obtain ⟨q0, q1, q2, q3, q4, q5⟩ := hr.cells6; have f0 := Lib.frozen_of_heap hr 0; have f1 := Lib.frozen_of_heap hr 1; have f2 := Lib.frozen_of_heap hr 2; have f3 := Lib.frozen_of_heap hr 3; have f4 := Lib.frozen_of_heap hr 4; have f5 := Lib.frozen_of_heap hr 5; have s0 := hs.cell 0; have s1 := hs.cell 1; have s2 := hs.cell 2; simp only [cqs, cqz] at s0 s1 s2; have j0 := Lib.frozen_of_heap hs 0; have j1 := Lib.frozen_of_heap hs 1; have j2 := Lib.frozen_of_heap hs 2)
  (try simp only [Exit.inBlock, Exit.then])
  exact bodyPost_ret (v := .tuple #[.agg #[.int .i64 1, .int .i64 0, .string ⟨#[]⟩, .slice (some ⟨g, 0, none⟩) 2 cap, .slice none 0 0, .slice none 0 0], .int .i64 k4, .agg #[.int .i64 0, .int .i64 0, .int .i64 0]]) (by simp [results, Tryz.results14, go_sem, q0, q1, q2, q3, q4, q5, s0, s1, s2]) rfl ⟨g, cap, rfl, three9 (six9 (btK HB2.out hb3) (Nat.le_refl _)) (Nat.le_succ _)⟩
end Go.Proofs.YtnbfadgclffgkaaGreatDoor
/- clause's close at a bracket that holds one token. Printed by gen-par14.py. -/
namespace Go.Proofs.YtnbfadgclffgkaaGreatDoor
open Go.RowKit Go.Sort
set_option maxRecDepth 100000 in
set_option maxHeartbeats 4000000 in
theorem cclose_calls (w : World) (b : Nat) (v : Value) (k own : Nat) (l : List TokD) (hk : k ≤ 1000) (hp : CS w b v k own) (hl : RdL Holds.tok 5 (fun x => x < b) w l v)
    (h0 : (tokAt l k).kind ≠ 0) (h1 : (tokAt l (k + 1)).kind ≠ 0) (h2 : (tokAt l (k + 2)).kind ≠ 0)
    (s0 : isK 5 (tokAt l k) ⟨#[40]⟩ = true) (s1 : isK 5 (tokAt l (k + 1)) ⟨#[40]⟩ = false) (s2 : isK 5 (tokAt l (k + 2)) ⟨#[40]⟩ = false) (c1 : isK 5 (tokAt l (k + 1)) ⟨#[41]⟩ = false) (c2 : isK 5 (tokAt l (k + 2)) ⟨#[41]⟩ = true) :
    Calls Tryz.prog 136 #[.pointer (some ⟨b, 0, none⟩), .int .i64 0] w (Gives w (.int .i64 3)) := by
  have hT : ∀ (j : Nat) (W : World), j ≤ 2 → Below w.heap.size w W → Calls Tryz.prog 98 #[.pointer (some ⟨b, 0, none⟩), .int .i64 j] W (Gives W (tokAt l (k + j)).val) := fun j W hj h => ctok_calls W b v k own j l (CS.below hp h) ((Kept.of h (Nat.le_of_lt hp.lt)).toks hl) (by omega)
  have hS : ∀ (j : Nat) (W : World) (s : ByteArray), j ≤ 2 → Below w.heap.size w W → Calls Tryz.prog 67 #[.pointer (some ⟨b, 0, none⟩), .int .i64 j, .string s] W (Gives W (.bool (isK 5 (tokAt l (k + j)) s))) := fun j W s hj h => csign_calls W b v k own j l s (CS.below hp h) ((Kept.of h (Nat.le_of_lt hp.lt)).toks hl) (by omega)
  have hT0 := fun W => hT 0 W (by omega)
  have hT1 := fun W => hT 1 W (by omega)
  have hT2 := fun W => hT 2 W (by omega)
  have hO0 := fun W => hS 0 W ⟨#[40]⟩ (by omega)
  have hO1 := fun W => hS 1 W ⟨#[40]⟩ (by omega)
  have hO2 := fun W => hS 2 W ⟨#[40]⟩ (by omega)
  have hC1 := fun W => hS 1 W ⟨#[41]⟩ (by omega)
  have hC2 := fun W => hS 2 W ⟨#[41]⟩ (by omega)
  rw [show k + 0 = k from rfl] at hT0 hO0
  rw [s0] at hO0
  rw [s1] at hO1
  rw [s2] at hO2
  rw [c1] at hC1
  rw [c2] at hC2
  generalize tokAt l k = t at hT0 h0
  generalize tokAt l (k + 1) = u at hT1 h1
  generalize tokAt l (k + 2) = x at hT2 h2
  obtain ⟨t0, t1, t2, t3, t4⟩ := t
  obtain ⟨u0, u1, u2, u3, u4⟩ := u
  obtain ⟨x0, x1, x2, x3, x4⟩ := x
  simp only at h0 h1 h2
  have ek0 : (t0 != 0) = true := by simpa using h0
  have ek1 : (u0 != 0) = true := by simpa using h1
  have ek2 : (x0 != 0) = true := by simpa using h2
  have HT0 := Lib.hid (show ∀ W, Below w.heap.size w W → Calls Tryz.prog 98 #[.pointer (some ⟨b, 0, none⟩), .int .i64 0] W (Gives W (.agg #[.int .i64 t0, .string t1, .int .i64 t2, .int .i64 t3, .int .i64 t4])) from hT0)
  have HT1 := Lib.hid (show ∀ W, Below w.heap.size w W → Calls Tryz.prog 98 #[.pointer (some ⟨b, 0, none⟩), .int .i64 1] W (Gives W (.agg #[.int .i64 u0, .string u1, .int .i64 u2, .int .i64 u3, .int .i64 u4])) from hT1)
  have HT2 := Lib.hid (show ∀ W, Below w.heap.size w W → Calls Tryz.prog 98 #[.pointer (some ⟨b, 0, none⟩), .int .i64 2] W (Gives W (.agg #[.int .i64 x0, .string x1, .int .i64 x2, .int .i64 x3, .int .i64 x4])) from hT2)
  have HO0 := Lib.hid (show ∀ W, Below w.heap.size w W → Calls Tryz.prog 67 #[.pointer (some ⟨b, 0, none⟩), .int .i64 0, .string ⟨#[40]⟩] W (Gives W (.bool true)) from hO0)
  have HO1 := Lib.hid (show ∀ W, Below w.heap.size w W → Calls Tryz.prog 67 #[.pointer (some ⟨b, 0, none⟩), .int .i64 1, .string ⟨#[40]⟩] W (Gives W (.bool false)) from hO1)
  have HO2 := Lib.hid (show ∀ W, Below w.heap.size w W → Calls Tryz.prog 67 #[.pointer (some ⟨b, 0, none⟩), .int .i64 2, .string ⟨#[40]⟩] W (Gives W (.bool false)) from hO2)
  have HC1 := Lib.hid (show ∀ W, Below w.heap.size w W → Calls Tryz.prog 67 #[.pointer (some ⟨b, 0, none⟩), .int .i64 1, .string ⟨#[41]⟩] W (Gives W (.bool false)) from hC1)
  have HC2 := Lib.hid (show ∀ W, Below w.heap.size w W → Calls Tryz.prog 67 #[.pointer (some ⟨b, 0, none⟩), .int .i64 2, .string ⟨#[41]⟩] W (Gives W (.bool true)) from hC2)
  clear hT hS hT0 hT1 hT2 hO0 hO1 hO2 hC1 hC2 hp hl h0 h1 h2 s0 s1 s2 c1 c2 hk
  have hf0 := fun W => tok_kind t0 t2 t3 t4 t1 W
  have hf1 := fun W => tok_kind u0 u2 u3 u4 u1 W
  have hf2 := fun W => tok_kind x0 x2 x3 x4 x1 W
  go_enter Tryz.func136, Tryz.ntmps136
  go_wp2
  go_loopw [1, 5] (fun i o wr => ((i = .int .i64 0 ∧ o = .int .i64 0) ∨ (i = .int .i64 1 ∧ o = .int .i64 1) ∨ (i = .int .i64 2 ∧ o = .int .i64 1)) ∧ Below w.heap.size w wr) (fun i _ _ => 3 - (intOf i).toNat)
  case atStart => exact ⟨Or.inl ⟨rfl, rfl⟩, Below.refl _ _⟩
  case round =>
    obtain ⟨(⟨rfl, rfl⟩ | ⟨rfl, rfl⟩ | ⟨rfl, rfl⟩), hB⟩ := hrel
    · go_wp2_with (first | (go_at_call 98; (with_reducible refine (HT0.out _ hB).mono ?_); rintro e w1 ⟨rfl, hb1⟩; have hB1 := bt hB hb1) | (go_at_call 67; (with_reducible refine (HO0.out _ hB1).mono ?_); rintro e w2 ⟨rfl, hb2⟩; have hB2 := bt hB1 hb2))
      go_roundw
      case rel => exact ⟨Or.inr (Or.inl ⟨rfl, rfl⟩), hB2⟩
      case measure => simp [intOf]
    · go_wp2_with (first | (go_at_call 98; (with_reducible refine (HT1.out _ hB).mono ?_); rintro e w1 ⟨rfl, hb1⟩; have hB1 := bt hB hb1) | (first | (go_at_call 67; (with_reducible refine (HO1.out _ hB1).mono ?_); rintro e w2 ⟨rfl, hb2⟩; have hB2 := bt hB1 hb2) | (go_at_call 67; (with_reducible refine (HC1.out _ hB2).mono ?_); rintro e w3 ⟨rfl, hb3⟩; have hB3 := bt hB2 hb3)))
      go_roundw
      case rel => exact ⟨Or.inr (Or.inr ⟨rfl, rfl⟩), hB3⟩
      case measure => simp [intOf]
    · go_wp2_with (first | (go_at_call 98; (with_reducible refine (HT2.out _ hB).mono ?_); rintro e w1 ⟨rfl, hb1⟩; have hB1 := bt hB hb1) | (first | (go_at_call 67; (with_reducible refine (HO2.out _ hB1).mono ?_); rintro e w2 ⟨rfl, hb2⟩; have hB2 := bt hB1 hb2) | (go_at_call 67; (with_reducible refine (HC2.out _ hB2).mono ?_); rintro e w3 ⟨rfl, hb3⟩; have hB3 := bt hB2 hb3)))
      go_ret
      exact ⟨rfl, hB3⟩
end Go.Proofs.YtnbfadgclffgkaaGreatDoor
