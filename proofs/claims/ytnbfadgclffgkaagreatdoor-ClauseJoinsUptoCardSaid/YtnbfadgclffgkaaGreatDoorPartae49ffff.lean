/- slices.Clone of tokens; clause's part where nothing is thrown. Printed by gen-par20.py. -/
import Derived.Test.YtnbfadgclffgkaaGreatDoorPart89091ffa
namespace Go.Proofs.YtnbfadgclffgkaaGreatDoor
open Go.RowKit Go.Sort
theorem tok_one (F : Nat → Prop) (w : World) (x : TokD) (cs : List Value) (h : Holds.tok.R F w x cs) : ∀ u ∈ cs, u.oneCell' = true := by
  obtain ⟨-, rfl⟩ := h
  simp [Value.oneCell', TokD.cells]
theorem rdl_take {α : Type} {R : Holds α} {F : Nat → Prop} {w : World} {sz : Nat} {l : List α} {a : Option Addr} {cap n : Nat} (hn : n ≤ l.length) (h : RdL R sz F w l (.slice a l.length cap)) : RdL R sz F w (l.take n) (.slice a n cap) := by
  obtain ⟨c, ⟨a', cap', he, h1, h2, h3⟩, h4⟩ := h
  simp only [Value.slice.injEq] at he
  obtain ⟨rfl, -, rfl⟩ := he
  have hlen : (l.take n).length = n := by rw [List.length_take]; omega
  refine ⟨c, ⟨_, _, by rw [hlen], by omega, h2, fun h0 => ?_⟩, fun i hi => ?_⟩
  · obtain ⟨b', off', hab, hb, hc⟩ := h3 (by omega)
    exact ⟨b', off', hab, hb, fun i hi j hj => hc i (by omega) j hj⟩
  · have h := h4 i (by omega)
    rw [List.getElem_take]
    exact h
theorem step_run9 {P : Program} {ops : Array Oper} {o : Oper} {a : Act} {w : World} {K : Act → World → Prop} {Q : Exit → Act → World → Prop} {E : Prop}
    (hg : o.guard = none) (s x : Operand) (t : TypeId) (hop : o.op = Op.call { callee := Callee.builtin Builtin.append, args := #[s, x], argTypes := #[t, t] })
    (v1 v2 v' : Value) (w' : World) (hs : a.eval s = v1) (hx : a.eval x = v2) (hrun : (Builtin.append_ #[t, t] o.type #[v1, v2]).run P w = .ok v' w') (hK : K (a.put o.dst v') w') :
    if Region.wanted o (yielded ops a.tmps) = true then Oper.wp P o a w K Q else E := by
  have hw : Region.wanted o (yielded ops a.tmps) = true := by simp [Region.wanted, hg]
  rw [if_pos hw]
  unfold Oper.wp
  simp [execOp, hop, resolve, invoke, builtin, hs, hx, hrun, Result.andThen]
  exact hK
theorem OwnR.le {α : Type} {R : Holds α} {te sz lo lo' : Nat} {w : World} {xs : List α} {v : Value} (h : OwnR R te sz lo w xs v) (hl : lo' ≤ lo) : OwnR R te sz lo' w xs v := by
  obtain ⟨ys, G, h1, h2, h3⟩ := h
  exact ⟨ys, G, ⟨h1.1, h1.2.imp id fun ⟨g, cap, cur, a1, a2, a3⟩ => ⟨g, cap, cur, a1, Nat.le_trans hl a2, a3⟩⟩, fun b hb => ⟨Nat.le_trans hl (h2 b hb).1, (h2 b hb).2⟩, h3⟩
set_option maxRecDepth 100000 in
set_option maxHeartbeats 4000000 in
theorem clone_calls (F : Nat → Prop) (w : World) (l : List TokD) (a : Addr) (n cap : Nat) (hnl : l.length = n) (hF : Inn F w) (hl : RdL Holds.tok 5 F w l (.slice (some a) n cap)) (hn : l.length ≤ 1000) :
    Calls Tryz.prog 162 #[.slice (some a) n cap] w (fun e w' => ∃ v, e = .returned v ∧ OwnR Holds.tok 53 5 w.heap.size w' l v ∧ Below w.heap.size w w') := by
  subst hnl
  obtain ⟨i0, hi, hz0, hz1, hz2⟩ := info_parts Tryz.infoTok
  obtain ⟨ns, -, hns, ho, hR, hp⟩ := hl.news (by decide) (tok_one F w)
  have hN0 := World.ownsRow_lit (base := w.heap.size) (e := 53) (size := 5) w #[] 0 (Nat.le_refl _) (Nat.zero_le _) rfl
  have hp' : 0 < l.length → ∃ p, some a = some p ∧ ∀ j u, ns[j]? = some u → (w.alloc (.cells #[] 53)).cell? (p.add j) = some u := fun h => by
    obtain ⟨p, h1, h2, h3⟩ := hp h
    exact ⟨p, h1, h3 _ (Below.heap_alloc w _ _ (hF _ h2))⟩
  have HFIN : Hid (∀ v' w', w'.ownsRow w.heap.size 53 5 v' l.length ns → (w.alloc (.cells #[] 53)).grownBy w' (some w.heap.size) → OwnR Holds.tok 53 5 w.heap.size w' l v' ∧ Below w.heap.size w w') := fun v' w' h1 h2 =>
    ⟨⟨ns, fun _ => False, h1, fun _ h => h.elim, fun i hi => hR i hi⟩, ((Below.refl _ _).alloc (Nat.le_refl _) _).grown h2 (by simp) (fun k hk => by cases hk; exact Nat.le_refl _)⟩
  have hnil : ∀ W, (binOp BinOp.eql 33 (.slice (some a) l.length cap) (.slice none 0 0)).run Tryz.prog W = .ok (.bool false) W := fun W => by kernel_rfl
  clear hl hR hp
  go_enter Tryz.func162, Tryz.ntmps162
  go_wp2_with (at_builtin; refine wpList_append_own_opt rfl (.tmp 5) (.tmp 6) 33 rfl w.heap.size 53 i0 _ 5 48 Tryz.underlying33 hi hz0 hz1 hz2 rfl (by decide) _ 0 [] rfl hN0 (some a) l.length cap ns rfl hns hp' ho (by unfold maxLen; omega) (by omega) (by simp) ?_; rw [List.nil_append, Nat.zero_add]; intro v1 w1 hown1 hgrow1 _)
  go_ret
  exact ⟨_, rfl, HFIN.out _ _ hown1 hgrow1⟩
set_option maxRecDepth 100000 in
set_option maxHeartbeats 4000000 in
theorem cpart_calls (w : World) (b : Nat) (v : Value) (n own : Nat) (l : List TokD) (e0 e1 e2 : Int) (e3 : ByteArray) (e4 : Option Addr) (e5 e6 : Nat) (t3 t4 : Nat) (hn0 : 0 < n) (hn : n ≤ l.length) (hl9 : l.length ≤ 1000) (h3 : (tokAt l n).line = t3) (h4 : (tokAt l n).col = t4) (hf3 : t3 ≤ 1000000000) (hf4 : t4 ≤ 1000000000) (hp : CS w b v 0 own) (hl : RdL Holds.tok 5 (fun x => x < b) w l v)
    (hd : ∀ b' v', Reads 170 b' v' (l.take n ++ [⟨0, ⟨#[]⟩, 0, t3, t4⟩]) 0 n 0 (.agg #[.int .i64 e0, .int .i64 e1, .int .i64 e2, .string e3, .slice e4 e5 e6])) : Calls Tryz.prog 137 #[.pointer (some ⟨b, 0, none⟩), .int .i64 n] w (Gives w (.agg #[.int .i64 e0, .int .i64 e1, .int .i64 e2, .string e3, .slice e4 e5 e6])) := by
  obtain ⟨i0, hi, hz0, hz1, hz2⟩ := info_parts Tryz.infoTok
  have hbl := hp.lt
  obtain ⟨a, cap0, rfl, hle, hcap, ha⟩ := hl.opn
  unfold maxLen at hcap
  obtain ⟨b2, off, rfl, hFb, -⟩ := ha (by omega)
  obtain ⟨W1, hW1⟩ : ∃ W1, w.alloc (.cells #[.int .i64 0, .int .i64 0, .int .i64 0, .string ⟨#[]⟩, .slice none 0 0] 73) = W1 := ⟨_, rfl⟩
  have hb1 : Below w.heap.size w W1 := by rw [← hW1]; exact (Below.refl _ _).alloc (Nat.le_refl _) _
  have hr1 : BoxT W1 w.heap.size [.int .i64 0, .int .i64 0, .int .i64 0, .string ⟨#[]⟩, .slice none 0 0] 73 := by rw [← hW1]; exact BoxT.new _ _ _
  have hp1 := CS.below hp hb1
  have hl1 := (Kept.of hb1 (Nat.le_of_lt hbl)).toks hl
  have htk := ctok_calls W1 b _ 0 own n l hp1 hl1 (by omega)
  rw [Nat.zero_add] at htk
  generalize tokAt l n = t at htk h3 h4
  obtain ⟨t0, t1, t2, t3', t4'⟩ := t
  simp only at h3 h4
  subst h3 h4
  have HTK := Lib.hid (show Calls Tryz.prog 98 #[.pointer (some ⟨b, 0, none⟩), .int .i64 n] W1 (Gives W1 (.agg #[.int .i64 t0, .string t1, .int .i64 t2, .int .i64 t3', .int .i64 t4'])) from htk)
  have HR1 := Lib.hid hr1; have HP1 := Lib.hid hp1; have HL1 := Lib.hid hl1; have HB1 := Lib.hid hb1; have HW1 := Lib.hid hW1
  have HI := Lib.hid hi; have HZ0 := Lib.hid hz0; have HZ1 := Lib.hid hz1; have HZ2 := Lib.hid hz2; have HD := Lib.hid hd
  clear hr1 hp1 hl1 hb1 hW1 htk hp hl hi hz0 hz1 hz2 hd ha
  go_enter Tryz.func137, Tryz.ntmps137
  go_upto_region 1 with fail
  rw [HW1.out]
  go_upto_region 2 with (go_at_call 98; (with_reducible refine HTK.out.mono ?_); rintro e w1 ⟨rfl, hb1⟩)
  obtain ⟨w2, hw2⟩ : ∃ x, w1.alloc (.cells #[.int .i64 t0, .string t1, .int .i64 t2, .int .i64 t3', .int .i64 t4'] 53) = x := ⟨_, rfl⟩
  rw [hw2]
  have hb2 : Below W1.heap.size W1 w2 := by rw [← hw2]; exact hb1.alloc hb1.size _
  have hx2 : BoxT w2 w1.heap.size [.int .i64 t0, .string t1, .int .i64 t2, .int .i64 t3', .int .i64 t4'] 53 := by rw [← hw2]; exact BoxT.new _ _ _
  have hs1 := hb1.size
  generalize w1.heap.size = x at hx2 hs1 ⊢
  have hp2 := CS.below HP1.out hb2
  have hr2 := HR1.out.below hb2
  have hl2 := (Kept.of hb2 (Nat.le_of_lt HP1.out.lt)).toks HL1.out
  obtain ⟨l3, hl3⟩ : ∃ z, l.take n = z := ⟨_, rfl⟩
  have hlen : l3.length = n := by rw [← hl3, List.length_take]; omega
  have ht := rdl_take hn hl2
  rw [hl3] at ht
  have HCL : Hid (∀ W, Below w2.heap.size w2 W → Calls Tryz.prog 162 #[.slice (some ⟨b2, off, none⟩) n cap0] W (fun e w' => ∃ v, e = .returned v ∧ OwnR Holds.tok 53 5 w2.heap.size w' l3 v ∧ Below W.heap.size W w')) := fun W h => (clone_calls (fun x => x < w2.heap.size) W l3 _ n cap0 hlen (fun x hx => Nat.lt_of_lt_of_le hx h.size) (ht.keep (fun x hx => h.block x (by have := hp2.lt; omega)) (fun x hx => by have := hp2.lt; omega)) (by omega)).mono (fun e w' ⟨v, h1, h2, h3⟩ => ⟨v, h1, OwnR.le h2 h.size, h3⟩)
  have HFI : Hid (TokD.fine ⟨0, ⟨#[]⟩, 0, t3', t4'⟩) := ⟨Nat.zero_le _, by unfold I64; simp, by unfold I64; simp, hf3, hf4⟩
  have hd3 := HD.out
  rw [hl3] at hd3
  have HD3 := Lib.hid hd3
  have HX2 := Lib.hid hx2; have HP2 := Lib.hid hp2; have HR2 := Lib.hid hr2; have HB2 := Lib.hid (btK HB1.out hb2)
  have hni : (n : Int) ≤ (cap0 : Int) := by omega
  have hni0 : (0 : Int) ≤ (n : Int) := by omega
  have hni9 : (n : Int) ≤ 1000 := by omega
  have hl39 : l3.length ≤ 1000 := by omega
  clear hw2 hb2 hb1 hx2 hp2 hr2 hl2 ht hd3 HD HTK hl3 HR1 HP1 HL1 HB1
  go_cut [6] from 13 to 35 (fun x6 wc => OwnR Holds.tok 53 5 w2.heap.size wc (l3 ++ [⟨0, ⟨#[]⟩, 0, t3', t4'⟩]) x6 ∧ Below w2.heap.size w2 wc)
  case first =>
    refine wp_region_held_drew (S := fun W => Below w2.heap.size w2 W) (by kernel_rfl) (Below.refl _ _).drew (fun hHeld => ?_)
    have h0 : Below w2.heap.size w2 w2.drew := (Below.refl _ _).drew
    clear hHeld
    generalize w2.drew = v0 at h0 ⊢
    refine wpAnyH_take (i := 0) (v := .pointer (some ⟨b, 0, none⟩)) rfl (by kernel_rfl) (by kernel_rfl) (by kernel_rfl) (fun _ _ _ h => h) (Or.inl ⟨by rfl, ?_⟩) (by assumption) ?_
    · intro W hW
      go_simp
    simp only [Act.put]
    refine wpAnyH_take (i := 1) (v := .pointer (some ⟨b, 0, none⟩)) rfl (by kernel_rfl) (by kernel_rfl) (by kernel_rfl) (fun _ _ _ h => h) (Or.inl ⟨by rfl, ?_⟩) (by assumption) ?_
    · intro W hW
      go_simp
    simp only [Act.put]
    refine wpAnyH_take (i := 2) (v := .pointer (some ⟨b, 0, none⟩)) rfl (by kernel_rfl) (by kernel_rfl) (by kernel_rfl) (fun _ _ _ h => h) (Or.inl ⟨by rfl, ?_⟩) (by assumption) ?_
    · intro W hW
      go_simp
    simp only [Act.put]
    refine wpAnyH_take (i := 3) (v := .slice (some ⟨b2, off, none⟩) l.length cap0) rfl (by kernel_rfl) (by kernel_rfl) (by kernel_rfl) (fun _ _ _ h => h) (Or.inl ⟨by rfl, ?_⟩) (by assumption) ?_
    · intro W hW
      obtain ⟨z0, z1, z2⟩ := (CS.below HP2.out hW).cells
      simp at z1
      go_simp
    simp only [Act.put]
    refine wpAnyH_take (i := 4) (v := .pointer (some ⟨b, 0, none⟩)) rfl (by kernel_rfl) (by kernel_rfl) (by kernel_rfl) (fun _ _ _ h => h) (Or.inl ⟨by rfl, ?_⟩) (by assumption) ?_
    · intro W hW
      go_simp
    simp only [Act.put]
    refine wpAnyH_take (i := 5) (v := .pointer (some ⟨b, 0, none⟩)) rfl (by kernel_rfl) (by kernel_rfl) (by kernel_rfl) (fun _ _ _ h => h) (Or.inl ⟨by rfl, ?_⟩) (by assumption) ?_
    · intro W hW
      go_simp
    simp only [Act.put]
    refine wpAnyH_take (i := 6) (v := .pointer (some ⟨b, 1, none⟩)) rfl (by kernel_rfl) (by kernel_rfl) (by kernel_rfl) (fun _ _ _ h => h) (Or.inl ⟨by rfl, ?_⟩) (by assumption) ?_
    · intro W hW
      go_simp
    simp only [Act.put]
    refine wpAnyH_take (i := 7) (v := .int .i64 0) rfl (by kernel_rfl) (by kernel_rfl) (by kernel_rfl) (fun _ _ _ h => h) (Or.inl ⟨by rfl, ?_⟩) (by assumption) ?_
    · intro W hW
      obtain ⟨z0, z1, z2⟩ := (CS.below HP2.out hW).cells
      simp at z1
      go_simp
    simp only [Act.put]
    refine wpAnyH_take (i := 8) (v := .pointer (some ⟨b, 0, none⟩)) rfl (by kernel_rfl) (by kernel_rfl) (by kernel_rfl) (fun _ _ _ h => h) (Or.inl ⟨by rfl, ?_⟩) (by assumption) ?_
    · intro W hW
      go_simp
    simp only [Act.put]
    refine wpAnyH_take (i := 9) (v := .pointer (some ⟨b, 0, none⟩)) rfl (by kernel_rfl) (by kernel_rfl) (by kernel_rfl) (fun _ _ _ h => h) (Or.inl ⟨by rfl, ?_⟩) (by assumption) ?_
    · intro W hW
      go_simp
    simp only [Act.put]
    refine wpAnyH_take (i := 10) (v := .pointer (some ⟨b, 1, none⟩)) rfl (by kernel_rfl) (by kernel_rfl) (by kernel_rfl) (fun _ _ _ h => h) (Or.inl ⟨by rfl, ?_⟩) (by assumption) ?_
    · intro W hW
      go_simp
    simp only [Act.put]
    refine wpAnyH_take (i := 11) (v := .int .i64 0) rfl (by kernel_rfl) (by kernel_rfl) (by kernel_rfl) (fun _ _ _ h => h) (Or.inl ⟨by rfl, ?_⟩) (by assumption) ?_
    · intro W hW
      obtain ⟨z0, z1, z2⟩ := (CS.below HP2.out hW).cells
      simp at z1
      go_simp
    simp only [Act.put]
    refine wpAnyH_take (i := 12) (v := .int .i64 n) rfl (by kernel_rfl) (by kernel_rfl) (by kernel_rfl) (fun _ _ _ h => h) (Or.inl ⟨by rfl, ?_⟩) (by assumption) ?_
    · intro W hW
      go_simp
    simp only [Act.put]
    refine wpAnyH_take (i := 13) (v := .int .i64 n) rfl (by kernel_rfl) (by kernel_rfl) (by kernel_rfl) (fun _ _ _ h => h) (Or.inl ⟨by rfl, ?_⟩) (by assumption) ?_
    · intro W hW
      have hwr : IntKind.i64.wrap (n : Int) = (n : Int) := by rw [IntKind.wrap_i64]; omega
      go_simp
    simp only [Act.put]
    refine wpAnyH_take (i := 14) (v := .slice (some ⟨b2, off, none⟩) n cap0) rfl (by kernel_rfl) (by kernel_rfl) (by kernel_rfl) (fun _ _ _ h => h) (Or.inl ⟨by rfl, ?_⟩) (by assumption) ?_
    · intro W hW
      go_simp
    simp only [Act.put]
    refine wpAnyH_take (i := 16) (v := .pointer (some ⟨x, 3, none⟩)) rfl (by kernel_rfl) (by kernel_rfl) (by kernel_rfl) (fun _ _ _ h => h) (Or.inl ⟨by rfl, ?_⟩) (by assumption) ?_
    · intro W hW
      go_simp
    simp only [Act.put]
    refine wpAnyH_take (i := 17) (v := .int .i64 t3') rfl (by kernel_rfl) (by kernel_rfl) (by kernel_rfl) (fun _ _ _ h => h) (Or.inl ⟨by rfl, ?_⟩) (by assumption) ?_
    · intro W hW
      have hxW := HX2.out.below hW
      have m3 := hxW.cell 3
      have m4 := hxW.cell 4
      simp only [cqs, cqz] at m3 m4
      go_simp
    simp only [Act.put]
    refine wpAnyH_take (i := 18) (v := .pointer (some ⟨x, 4, none⟩)) rfl (by kernel_rfl) (by kernel_rfl) (by kernel_rfl) (fun _ _ _ h => h) (Or.inl ⟨by rfl, ?_⟩) (by assumption) ?_
    · intro W hW
      go_simp
    simp only [Act.put]
    refine wpAnyH_take (i := 19) (v := .int .i64 t4') rfl (by kernel_rfl) (by kernel_rfl) (by kernel_rfl) (fun _ _ _ h => h) (Or.inl ⟨by rfl, ?_⟩) (by assumption) ?_
    · intro W hW
      have hxW := HX2.out.below hW
      have m3 := hxW.cell 3
      have m4 := hxW.cell 4
      simp only [cqs, cqz] at m3 m4
      go_simp
    simp only [Act.put]
    refine wpAnyH_take (i := 20) (v := .agg #[.int .i64 0, .string ⟨#[]⟩, .int .i64 0, .int .i64 t3', .int .i64 t4']) rfl (by kernel_rfl) (by kernel_rfl) (by kernel_rfl) (fun _ _ _ h => h) (Or.inl ⟨by rfl, ?_⟩) (by assumption) ?_
    · intro W hW
      go_simp
    simp only [Act.put]
    refine wpAnyH_ready (rs := [15, 21]) (by kernel_rfl) (by simp) ?_
    refine AllReadyH.cons rfl (fun K hK => ?_) (AllReadyH.cons rfl (fun K hK => ?_) (AllReadyH.nil))
    · go_simp
      refine (HCL.out v0 h0).mono ?_
      rintro e v1 ⟨vc, rfl, own_v1, hbv1⟩
      have Hv1 : Below w2.heap.size w2 v1 := btK h0 hbv1
      refine hK.out _ _ Hv1 (fun hHeld => ?_)
      clear hHeld hK K hbv1
      refine wpAnyH_ready (rs := [21]) (by kernel_rfl) (by simp) ?_
      refine AllReadyH.cons rfl (fun K hK => ?_) (AllReadyH.nil)
      · go_simp
        obtain ⟨v2, hvv2⟩ : ∃ X, v1.alloc (.cells #[.int .i64 0, .string ⟨#[]⟩, .int .i64 0, .int .i64 t3', .int .i64 t4'] 53) = X := ⟨_, rfl⟩
        rw [hvv2]
        have hbv2 : Below v1.heap.size v1 v2 := by rw [← hvv2]; exact (Below.refl _ _).alloc (Nat.le_refl _) _
        have Bm_v2 : BoxT v2 v1.heap.size [.int .i64 0, .string ⟨#[]⟩, .int .i64 0, .int .i64 t3', .int .i64 t4'] 53 := by rw [← hvv2]; exact BoxT.new _ _ _
        have Hv2 : Below w2.heap.size w2 v2 := btK Hv1 hbv2
        have own_v2 := OwnR.below own_v1 hbv2
        have Lm : w2.heap.size ≤ v1.heap.size := Hv1.size
        obtain ⟨m, em⟩ : ∃ x, v1.heap.size = x := ⟨_, rfl⟩
        rw [em] at Bm_v2 Lm ⊢
        clear em hvv2
        refine hK.out _ _ Hv2 (fun hHeld => ?_)
        clear hHeld hK K hbv2
        obtain ⟨ys, hys⟩ := own_v2.owns
        obtain ⟨v2, wz, hrun, hown2, hgrow, -, hat⟩ := run_append_own_at (P := Tryz.prog) (w := v2) w2.heap.size 33 33 53 i0 _ 5 48 Tryz.underlying33 HI.out HZ0.out HZ1.out HZ2.out rfl (by decide) vc l3.length ys hys ⟨m, 0, none⟩ 1 1 [.int .i64 0, .string ⟨#[]⟩, .int .i64 0, .int .i64 t3', .int .i64 t4'] rfl (fun j u hj => by rw [Addr.add_lit, Nat.zero_add, Bm_v2.cell j]; exact hj) (by simp [Value.oneCell']) (by unfold maxLen; omega) (by omega) Hv2.size
        have hpush := OwnR.push (G2 := fun _ => False) (x := ⟨0, ⟨#[]⟩, 0, t3', t4'⟩) own_v2 hys hown2 rfl hgrow hat (fun _ h => h.elim) ⟨HFI.out, rfl⟩
        have Hz : Below w2.heap.size w2 wz := Hv2.grown hgrow Hv2.size (fun k hk => (ownsRow_in hys k hk).1)
        refine wpAnyH_ready (rs := [22]) (by kernel_rfl) (by simp) ?_
        refine AllReadyH.cons rfl (fun K hK => ?_) AllReadyH.nil
        refine step_run9 rfl (.tmp 28) (.tmp 34) 33 rfl _ _ _ _ rfl rfl hrun ?_
        refine hK.out _ _ Hz (fun hHeld => ?_)
        clear hHeld hK K hrun hown2 hgrow hat hys own_v2 Bm_v2
        refine wpAnyH_take (i := 23) (v := v2) rfl (by kernel_rfl) (by kernel_rfl) (by kernel_rfl) (fun _ _ _ h => h) (Or.inl ⟨by rfl, ?_⟩) (by assumption) ?_
        · intro W hW
          go_simp
        simp only [Act.put]
        refine wpAnyH_done (by kernel_rfl) ?_ _
        go_simp
        go_wp2_with fail
        go_meet
        exact ⟨hpush, Hz⟩
    · go_simp
      obtain ⟨v3, hvv3⟩ : ∃ X, v0.alloc (.cells #[.int .i64 0, .string ⟨#[]⟩, .int .i64 0, .int .i64 t3', .int .i64 t4'] 53) = X := ⟨_, rfl⟩
      rw [hvv3]
      have hbv3 : Below v0.heap.size v0 v3 := by rw [← hvv3]; exact (Below.refl _ _).alloc (Nat.le_refl _) _
      have Bm_v3 : BoxT v3 v0.heap.size [.int .i64 0, .string ⟨#[]⟩, .int .i64 0, .int .i64 t3', .int .i64 t4'] 53 := by rw [← hvv3]; exact BoxT.new _ _ _
      have Hv3 : Below w2.heap.size w2 v3 := btK h0 hbv3
      have Lm : w2.heap.size ≤ v0.heap.size := h0.size
      obtain ⟨m, em⟩ : ∃ x, v0.heap.size = x := ⟨_, rfl⟩
      rw [em] at Bm_v3 Lm ⊢
      clear em hvv3
      refine hK.out _ _ Hv3 (fun hHeld => ?_)
      clear hHeld hK K hbv3
      refine wpAnyH_ready (rs := [15]) (by kernel_rfl) (by simp) ?_
      refine AllReadyH.cons rfl (fun K hK => ?_) (AllReadyH.nil)
      · go_simp
        refine (HCL.out v3 Hv3).mono ?_
        rintro e v4 ⟨vc, rfl, own_v4, hbv4⟩
        have Hv4 : Below w2.heap.size w2 v4 := btK Hv3 hbv4
        have Bm_v4 := Bm_v3.below hbv4
        refine hK.out _ _ Hv4 (fun hHeld => ?_)
        clear hHeld hK K hbv4
        obtain ⟨ys, hys⟩ := own_v4.owns
        obtain ⟨v2, wz, hrun, hown2, hgrow, -, hat⟩ := run_append_own_at (P := Tryz.prog) (w := v4) w2.heap.size 33 33 53 i0 _ 5 48 Tryz.underlying33 HI.out HZ0.out HZ1.out HZ2.out rfl (by decide) vc l3.length ys hys ⟨m, 0, none⟩ 1 1 [.int .i64 0, .string ⟨#[]⟩, .int .i64 0, .int .i64 t3', .int .i64 t4'] rfl (fun j u hj => by rw [Addr.add_lit, Nat.zero_add, Bm_v4.cell j]; exact hj) (by simp [Value.oneCell']) (by unfold maxLen; omega) (by omega) Hv4.size
        have hpush := OwnR.push (G2 := fun _ => False) (x := ⟨0, ⟨#[]⟩, 0, t3', t4'⟩) own_v4 hys hown2 rfl hgrow hat (fun _ h => h.elim) ⟨HFI.out, rfl⟩
        have Hz : Below w2.heap.size w2 wz := Hv4.grown hgrow Hv4.size (fun k hk => (ownsRow_in hys k hk).1)
        refine wpAnyH_ready (rs := [22]) (by kernel_rfl) (by simp) ?_
        refine AllReadyH.cons rfl (fun K hK => ?_) AllReadyH.nil
        refine step_run9 rfl (.tmp 28) (.tmp 34) 33 rfl _ _ _ _ rfl rfl hrun ?_
        refine hK.out _ _ Hz (fun hHeld => ?_)
        clear hHeld hK K hrun hown2 hgrow hat hys own_v4 Bm_v4
        refine wpAnyH_take (i := 23) (v := v2) rfl (by kernel_rfl) (by kernel_rfl) (by kernel_rfl) (fun _ _ _ h => h) (Or.inl ⟨by rfl, ?_⟩) (by assumption) ?_
        · intro W hW
          go_simp
        simp only [Act.put]
        refine wpAnyH_done (by kernel_rfl) ?_ _
        go_simp
        go_wp2_with fail
        go_meet
        exact ⟨hpush, Hz⟩
  case rest =>
    obtain ⟨hown, hb⟩ := hcut
    have hd3 := HD3.out
    obtain ⟨L9, hL9⟩ : ∃ z, l3 ++ [⟨0, ⟨#[]⟩, 0, t3', t4'⟩] = z := ⟨_, rfl⟩
    rw [hL9] at hown hd3
    clear hL9 HD3
    obtain ⟨a6, c6, rfl⟩ := hown.shape
    have hpp := pparse_calls wc _ n _ e0 e1 e2 e3 e4 e5 e6 (hown.rdl.keep (fun _ _ => rfl) (fun x hx => hx.2)) (fun b' => hd3 b' _)
    clear hd3
    have HPP := Lib.hid hpp
    have HB := Lib.hid hb
    clear hpp hb hown HCL HI HZ0 HZ1 HZ2
    go_upto_region 4 with (go_at_call 163; (with_reducible refine HPP.out.mono ?_); rintro e w4 ⟨rfl, hb4⟩)
    have hB4 : Below w2.heap.size w2 w4 := btK HB.out hb4
    obtain ⟨w5, hw5⟩ : ∃ z, w4.alloc (.cells #[.int .i64 e0, .int .i64 e1, .int .i64 e2, .string e3, .slice e4 e5 e6] 73) = z := ⟨_, rfl⟩
    obtain ⟨w6, hw6⟩ : ∃ z, w5.alloc (.cells #[.int .i64 0, .int .i64 0, .int .i64 0] 36) = z := ⟨_, rfl⟩
    rw [hw5, hw6]
    have hz5 : w5.heap.size = w4.heap.size + 1 := by rw [← hw5]; simp
    have hb5 : Below w4.heap.size w4 w5 := by rw [← hw5]; exact (Below.refl _ _).alloc (Nat.le_refl _) _
    have hb6 : Below w5.heap.size w5 w6 := by rw [← hw6]; exact (Below.refl _ _).alloc (Nat.le_refl _) _
    have hm5 : BoxT w5 w4.heap.size [.int .i64 e0, .int .i64 e1, .int .i64 e2, .string e3, .slice e4 e5 e6] 73 := by rw [← hw5]; exact BoxT.new _ _ _
    have hg6 : BoxT w6 (w4.heap.size + 1) [.int .i64 0, .int .i64 0, .int .i64 0] 36 := by rw [← hz5, ← hw6]; exact BoxT.new _ _ _
    have hm6 := hm5.below hb6
    have hB6 : Below w2.heap.size w2 w6 := btK (btK hB4 hb5) hb6
    have hrs := HR2.out.lt
    have hry : w.heap.size < w4.heap.size := by have := hB4.size; omega
    have hr6 := HR2.out.below hB6
    have hBW : Below w.heap.size w w6 := HB2.out.trans (hB6.mono (by omega))
    generalize w4.heap.size = y at hm6 hg6 hry ⊢
    have m0 := hm6.cell 0
    have m1 := hm6.cell 1
    have m2 := hm6.cell 2
    have m3 := hm6.cell 3
    have m4 := hm6.cell 4
    simp only [cqs, cqz] at m0 m1 m2 m3 m4
    have g0 := hg6.cell 0
    simp only [cqz] at g0
    have q0 := hr6.cell 0; have q1 := hr6.cell 1; have q2 := hr6.cell 2; have q3 := hr6.cell 3; have q4 := hr6.cell 4; simp only [cqs, cqz] at q0 q1 q2 q3 q4; have f0 := Lib.frozen_of_heap hr6 0; have f1 := Lib.frozen_of_heap hr6 1; have f2 := Lib.frozen_of_heap hr6 2; have f3 := Lib.frozen_of_heap hr6 3; have f4 := Lib.frozen_of_heap hr6 4
    have HBW := Lib.hid hBW
    clear hB4 hw5 hw6 hz5 hb5 hb6 hm5 hg6 hm6 hB6 hrs hr6 hBW HPP HB HB2 HX2 HP2 HR2 hb4
    go_wp2
    (try simp only [Exit.inBlock, Exit.then])
    exact bodyPost_ret (v := .agg #[.int .i64 e0, .int .i64 e1, .int .i64 e2, .string e3, .slice e4 e5 e6]) (by simp [results, Tryz.results137, go_sem, q0, q1, q2, q3, q4]) rfl ⟨rfl, five9 HBW.out (Nat.le_refl _)⟩
end Go.Proofs.YtnbfadgclffgkaaGreatDoor
/- clause's tight at a bracket that an equals sign follows: it throws. Printed by gen-par21.py. -/
namespace Go.Proofs.YtnbfadgclffgkaaGreatDoor
open Go.RowKit Go.Sort
def Throws (w : World) (ln cl : Nat) (e : Ending) (w' : World) : Prop := e = .panicked [{ v := stopV ln cl, recovered := false }] ∧ Below w.heap.size w w'
set_option maxRecDepth 100000 in
set_option maxHeartbeats 4000000 in
theorem ctight_calls (w : World) (b : Nat) (v : Value) (own : Nat) (l : List TokD) (e0 e1 e2 : Int) (e3 : ByteArray) (e4 : Option Addr) (e5 e6 : Nat) (ln cl : Nat) (hkd : (tokAt l 0).kind = 5) (s0 : isK 5 (tokAt l 0) ⟨#[40]⟩ = true) (sd : isK 5 (tokAt l 3) ⟨#[46]⟩ = false) (h3 : (tokAt l 3).kind ≠ 0) (hln : (tokAt l 3).line = ln) (hcl : (tokAt l 3).col = cl)
    (hp : CS w b v 0 own) (hl : RdL Holds.tok 5 (fun x => x < b) w l v)
    (hcl3 : ∀ W, CS W b v 0 own → RdL Holds.tok 5 (fun x => x < b) W l v → Calls Tryz.prog 136 #[.pointer (some ⟨b, 0, none⟩), .int .i64 0] W (Gives W (.int .i64 3)))
    (hpart : ∀ W, CS W b v 0 own → RdL Holds.tok 5 (fun x => x < b) W l v → Calls Tryz.prog 137 #[.pointer (some ⟨b, 0, none⟩), .int .i64 3] W (Gives W (.agg #[.int .i64 e0, .int .i64 e1, .int .i64 e2, .string e3, .slice e4 e5 e6]))) : Calls Tryz.prog 100 #[.pointer (some ⟨b, 0, none⟩)] w (Throws w ln cl) := by
  have hbl := hp.lt
  obtain ⟨W1, hW1⟩ : ∃ W1, w.alloc (.cells #[.int .i64 0, .int .i64 0, .string ⟨#[]⟩, .slice none 0 0, .slice none 0 0, .slice none 0 0] 27) = W1 := ⟨_, rfl⟩
  have hb1 : Below w.heap.size w W1 := by rw [← hW1]; exact (Below.refl _ _).alloc (Nat.le_refl _) _
  have hp1 := CS.below hp hb1
  have hl1 := (Kept.of hb1 (Nat.le_of_lt hbl)).toks hl
  have hP : ∀ W, Below W1.heap.size W1 W → CS W b v 0 own ∧ RdL Holds.tok 5 (fun x => x < b) W l v := fun W h => ⟨CS.below hp1 h, (Kept.of h (Nat.le_of_lt hp1.lt)).toks hl1⟩
  have htk := ctok_calls W1 b v 0 own 0 l hp1 hl1 (by omega)
  have hca := fun W (h : Below W1.heap.size W1 W) => ccalls_calls W b v 0 own l (hP W h).1 (hP W h).2 (by omega)
  have hs0 := fun W (h : Below W1.heap.size W1 W) => csign_calls W b v 0 own 0 l ⟨#[40]⟩ (hP W h).1 (hP W h).2 (by omega)
  have hs3 := fun W (h : Below W1.heap.size W1 W) => csign_calls W b v 0 own 3 l ⟨#[46]⟩ (hP W h).1 (hP W h).2 (by omega)
  have hcf : callsT (tokAt l 0) = false := by unfold callsT; rw [hkd]; rfl
  have hwr := fun W (h : Below W1.heap.size W1 W) => cwrong_calls W b v 0 own 3 l (by omega) h3 (hP W h).1 (hP W h).2
  simp only [Nat.zero_add, hcf, s0, sd, hln, hcl] at htk hca hs0 hs3 hwr
  have HCL := Lib.hid (fun W (h : Below W1.heap.size W1 W) => hcl3 W (hP W h).1 (hP W h).2)
  have HPA := Lib.hid (fun W (h : Below W1.heap.size W1 W) => hpart W (hP W h).1 (hP W h).2)
  generalize tokAt l 0 = t at htk hkd
  obtain ⟨t0, t1, t2, t3, t4⟩ := t
  simp only at hkd
  subst hkd
  have HTK := Lib.hid (show Calls Tryz.prog 98 #[.pointer (some ⟨b, 0, none⟩), .int .i64 0] W1 (Gives W1 (.agg #[.int .i64 5, .string t1, .int .i64 t2, .int .i64 t3, .int .i64 t4])) from htk)
  have HCA := Lib.hid hca; have HS0 := Lib.hid (show ∀ W, Below W1.heap.size W1 W → Calls Tryz.prog 67 #[.pointer (some ⟨b, 0, none⟩), .int .i64 0, .string ⟨#[40]⟩] W (Gives W (.bool true)) from hs0); have HS3 := Lib.hid (show ∀ W, Below W1.heap.size W1 W → Calls Tryz.prog 67 #[.pointer (some ⟨b, 0, none⟩), .int .i64 3, .string ⟨#[46]⟩] W (Gives W (.bool false)) from hs3); have HWR := Lib.hid (show ∀ W, Below W1.heap.size W1 W → Calls Tryz.prog 62 #[.pointer (some ⟨b, 0, none⟩), .int .i64 3, .int .i64 8] W (fun e w' => e = .panicked [{ v := stopV ln cl, recovered := false }] ∧ Below W.heap.size W w') from hwr); have HB1 := Lib.hid hb1; have HW1 := Lib.hid hW1
  have hfld := fun W => tok_kind 5 t2 t3 t4 t1 W
  clear htk hca hs0 hs3 hwr hb1 hW1 hP hcl3 hpart hp hl hp1 hl1 hcf s0 sd h3 hln hcl
  go_enter Tryz.func100, Tryz.ntmps100
  go_upto_region 1 with fail
  rw [HW1.out]
  go_upto_region 7 with (first | (go_at_call 98; (with_reducible refine HTK.out.mono ?_); rintro e w1 ⟨rfl, hb1⟩) | (go_at_call 135; (with_reducible refine (HCA.out _ hb1).mono ?_); rintro e w2 ⟨rfl, hb2⟩; have hB2 := btK hb1 hb2) | (go_at_call 67; (with_reducible refine (HS0.out _ hB2).mono ?_); rintro e w3 ⟨rfl, hb3⟩; have hB3 := btK hB2 hb3) | (go_at_call 136; (with_reducible refine (HCL.out _ hB3).mono ?_); rintro e w4 ⟨rfl, hb4⟩; have hB4 := btK hB3 hb4))
  clear hfld HCA HS0 HCL
  have HB4 := Lib.hid hB4
  clear hb1 hb2 hb3 hb4 hB2 hB3 hB4
  go_upto_region 8 with (go_at_call 137; (with_reducible refine (HPA.out _ HB4.out).mono ?_); rintro e w5 ⟨rfl, hb5⟩)
  obtain ⟨w6, hw6⟩ : ∃ z, w5.alloc (.cells #[.int .i64 e0, .int .i64 e1, .int .i64 e2, .string e3, .slice e4 e5 e6] 73) = z := ⟨_, rfl⟩
  rw [hw6]
  have hb6 : Below w5.heap.size w5 w6 := by rw [← hw6]; exact (Below.refl _ _).alloc (Nat.le_refl _) _
  have hm6 : BoxT w6 w5.heap.size [.int .i64 e0, .int .i64 e1, .int .i64 e2, .string e3, .slice e4 e5 e6] 73 := by rw [← hw6]; exact BoxT.new _ _ _
  have hB6 := btK (btK HB4.out hb5) hb6
  have hry : W1.heap.size ≤ w5.heap.size := (btK HB4.out hb5).size
  generalize w5.heap.size = y at hm6 hry ⊢
  have HM6 := Lib.hid hm6; have HB6 := Lib.hid hB6
  clear hb5 hw6 hb6 hm6 hB6 HPA HB4
  go_wp2
  go_loopw [3] (fun k wr => k = .int .i64 3 ∧ Below w6.heap.size w6 wr) (fun _ _ => 1)
  case atStart => exact ⟨rfl, Below.refl _ _⟩
  case round =>
    obtain ⟨rfl, hB⟩ := hrel
    have HBr := Lib.hid (btK HB6.out hB)
    have HMr := Lib.hid (HM6.out.below hB)
    clear hB
    go_upto_region 14 with (go_at_call 67; (with_reducible refine (HS3.out _ HBr.out).mono ?_); rintro e w7 ⟨rfl, hb7⟩; have hm7 := HMr.out.below hb7; have m0 := hm7.cell 0; have m1 := hm7.cell 1; have m2 := hm7.cell 2; have m3 := hm7.cell 3; have m4 := hm7.cell 4; simp only [cqs, cqz] at m0 m1 m2 m3 m4)
    have HB7 := Lib.hid (btK HBr.out hb7)
    clear hb7 hm7 HMr HBr HS3 HM6 HB6
    go_upto_region 16 with fail
    obtain ⟨w8, hw8⟩ : ∃ z, w7.alloc (.cells #[.int .i64 e0, .int .i64 e1, .int .i64 e2, .string e3, .slice e4 e5 e6] 73) = z := ⟨_, rfl⟩
    rw [hw8]
    obtain ⟨w9, hw9⟩ : ∃ z, w8.alloc (.cells #[.int .i64 0, .int .i64 0, .string ⟨#[]⟩, .slice (some ⟨w7.heap.size, 0, none⟩) 1 1, .slice none 0 0, .slice none 0 0] 27) = z := ⟨_, rfl⟩
    rw [hw9]
    have hb8 : Below w7.heap.size w7 w8 := by rw [← hw8]; exact (Below.refl _ _).alloc (Nat.le_refl _) _
    have hb9 : Below w8.heap.size w8 w9 := by rw [← hw9]; exact (Below.refl _ _).alloc (Nat.le_refl _) _
    have HB9 := Lib.hid (btK (btK HB7.out hb8) hb9)
    clear hw8 hw9 hb8 hb9 m0 m1 m2 m3 m4 HB7
    go_wp2_with (go_at_call 62; (with_reducible refine (HWR.out _ HB9.out).mono ?_); rintro e wx ⟨rfl, hbx⟩)
    exact ⟨rfl, rfl, btK HB1.out (btK HB9.out hbx)⟩
end Go.Proofs.YtnbfadgclffgkaaGreatDoor
