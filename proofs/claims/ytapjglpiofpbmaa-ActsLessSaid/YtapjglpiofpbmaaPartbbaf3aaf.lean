/- acts.Less and what it calls; acts' has, span and nouns. Printed by gen-ac20.py. -/
import Derived.Test.YtapjglpiofpbmaaPart823818da
import Derived.Test.YtapjglpiofpbmaaShelf
import Derived.Test.YtapjglpiofpbmaaPart10febced
namespace Go.Proofs.Ytapjglpiofpbmaa
open Go.RowKit Go.Sort

/-- How two rows of numbers compare. -/
def cmpL : List Int → List Int → Int
  | [], [] => 0
  | [], _ :: _ => -1
  | _ :: _, [] => 1
  | a :: l, b :: m => if Lib.compareInt a b ≠ 0 then Lib.compareInt a b else cmpL l m
theorem cmp_less (a b : CmdD) : decide (cmpL [a.verb, a.noun, a.second, a.number, a.dir] [b.verb, b.noun, b.second, b.number, b.dir] < 0) = decide (a.lt b) := by
  have hc : ∀ x y : Int, (x < y → Lib.compareInt x y = -1) ∧ (y < x → Lib.compareInt x y = 1) ∧ (x = y → Lib.compareInt x y = 0) := fun x y => by
    unfold Lib.compareInt
    refine ⟨fun h => if_pos h, fun h => ?_, fun h => ?_⟩
    · rw [if_neg (by omega), if_pos h]
    · rw [if_neg (by omega), if_neg (by omega)]
  apply decide_eq_decide.2
  unfold CmdD.lt
  have step : ∀ (x y : Int) (l m : List Int), cmpL (x :: l) (y :: m) < 0 ↔ (x < y ∨ x = y ∧ cmpL l m < 0) := fun x y l m => by
    show (if Lib.compareInt x y ≠ 0 then Lib.compareInt x y else cmpL l m) < 0 ↔ _
    obtain ⟨h1, h2, h3⟩ := hc x y
    rcases Int.lt_trichotomy x y with h | h | h
    · rw [h1 h]; simp; omega
    · rw [h3 h]; simp; omega
    · rw [h2 h]; simp; omega
  rw [step, step, step, step, step]
  have : ¬ cmpL [] [] < 0 := by decide
  constructor
  · rintro (h | ⟨e, h | ⟨e2, h | ⟨e3, h | ⟨e4, h | ⟨e5, h⟩⟩⟩⟩⟩)
    · exact .inl h
    · exact .inr ⟨e, .inl h⟩
    · exact .inr ⟨e, .inr ⟨e2, .inl h⟩⟩
    · exact .inr ⟨e, .inr ⟨e2, .inr ⟨e3, .inl h⟩⟩⟩
    · exact .inr ⟨e, .inr ⟨e2, .inr ⟨e3, .inr ⟨e4, h⟩⟩⟩⟩
    · exact absurd h this
  · rintro (h | ⟨e, h | ⟨e2, h | ⟨e3, h | ⟨e4, h⟩⟩⟩⟩)
    · exact .inl h
    · exact .inr ⟨e, .inl h⟩
    · exact .inr ⟨e, .inr ⟨e2, .inl h⟩⟩
    · exact .inr ⟨e, .inr ⟨e2, .inr ⟨e3, .inl h⟩⟩⟩
    · exact .inr ⟨e, .inr ⟨e2, .inr ⟨e3, .inr ⟨e4, .inl h⟩⟩⟩⟩
theorem own_lit5 (W : World) (a b c d e : Int) (h : I64 a ∧ I64 b ∧ I64 c ∧ I64 d ∧ I64 e) : OwnI W.heap.size (W.alloc (.cells #[.int .i64 a, .int .i64 b, .int .i64 c, .int .i64 d, .int .i64 e] 3)) [a, b, c, d, e] (.slice (some ⟨W.heap.size, 0, none⟩) 5 5) := by
  refine ⟨[.int .i64 a, .int .i64 b, .int .i64 c, .int .i64 d, .int .i64 e], fun _ => False, ⟨rfl, .inr ⟨W.heap.size, 5, #[.int .i64 a, .int .i64 b, .int .i64 c, .int .i64 d, .int .i64 e], rfl, Nat.le_refl _, Array.getElem?_push_size, Nat.le_refl _, by decide, rfl, rfl⟩⟩, fun b h => h.elim, fun i hi => ?_⟩
  obtain ⟨h1, h2, h3, h4, h5⟩ := h
  match i, hi with
  | 0, _ => exact ⟨h1, rfl⟩
  | 1, _ => exact ⟨h2, rfl⟩
  | 2, _ => exact ⟨h3, rfl⟩
  | 3, _ => exact ⟨h4, rfl⟩
  | 4, _ => exact ⟨h5, rfl⟩
set_option maxRecDepth 100000 in
set_option maxHeartbeats 2000000 in
theorem compare_ints (F G : Nat → Prop) (w : World) (la lb : List Int) (va vb : Value) (hF : Inn F w) (hG : Inn G w) (ha : RdInts F w la va) (hb : RdInts G w lb vb) : Calls Try.prog 8 #[va, vb] w (Gives w (.int .i64 (cmpL la lb))) := by
  have hll := ha.len; have hlm := hb.len
  unfold maxLen at hll hlm
  obtain ⟨aA, cA, rfl, -, -, hA⟩ := ha.elem hF
  obtain ⟨aB, cB, rfl, -, -, hB⟩ := hb.elem hG
  have HA := Lib.hid hA; have HB := Lib.hid hB
  obtain ⟨R, hR⟩ : ∃ r, cmpL la lb = r := ⟨_, rfl⟩
  rw [hR]
  have HQ0 : Hid (cmpL (la.drop 0) (lb.drop 0) = R) := hR
  clear ha hb hA hB hR
  go_enter Try.func8, Try.ntmps8
  go_wp2
  go_loopw [11] (fun i wr => ∃ (k : Nat), k ≤ la.length ∧ k ≤ lb.length ∧ i = .int .i64 k ∧ Hid (cmpL (la.drop k) (lb.drop k) = R) ∧ w = wr) (fun i _ => la.length - (intOf i).toNat)
  case atStart => exact ⟨0, Nat.zero_le _, Nat.zero_le _, rfl, HQ0.out, rfl⟩
  case round =>
    obtain ⟨k, hk, hkb, rfl, HQ, rfl⟩ := hrel
    have h2 : (0 : Int) ≤ (k : Int) := by omega
    by_cases hlt : k < la.length
    rotate_left
    · have h1 : ¬ (k : Int) < (la.length : Int) := by omega
      have hq := HQ.out
      rw [List.drop_eq_nil_of_le (by omega)] at hq
      by_cases hlb : k < lb.length
      · have e1 : (la.length : Int) < (lb.length : Int) := by omega
        rw [List.drop_eq_getElem_cons hlb] at hq
        have HF : Hid (R = -1) := hq.symm
        clear hq
        go_wp2
        go_ret
        exact ⟨congrArg (fun q : Int => Ending.returned (.int .i64 q)) HF.out.symm, Below.refl _ _⟩
      · have e1 : ¬ (la.length : Int) < (lb.length : Int) := by omega
        rw [List.drop_eq_nil_of_le (by omega)] at hq
        have HF : Hid (R = 0) := hq.symm
        clear hq
        go_wp2
        go_ret
        exact ⟨congrArg (fun q : Int => Ending.returned (.int .i64 q)) HF.out.symm, Below.refl _ _⟩
    have h1 : (k : Int) < (la.length : Int) := by omega
    obtain ⟨bA, offA, rfl, helA⟩ := HA.out (by omega)
    have p0 := helA w (Below.refl _ _) k hlt
    have hq := HQ.out
    rw [List.drop_eq_getElem_cons hlt] at hq
    by_cases hlb : k < lb.length
    rotate_left
    · have e1 : ¬ (k : Int) < (lb.length : Int) := by omega
      have e2 : (lb.length : Int) ≤ (k : Int) := by omega
      rw [show lb.drop k = [] from List.drop_eq_nil_of_le (by omega)] at hq
      have HF : Hid (R = 1) := hq.symm
      generalize la[k] = x at p0
      clear hq helA
      go_wp2
      go_ret
      exact ⟨congrArg (fun q : Int => Ending.returned (.int .i64 q)) HF.out.symm, Below.refl _ _⟩
    have e1 : (k : Int) < (lb.length : Int) := by omega
    have e2 : ¬ (lb.length : Int) ≤ (k : Int) := by omega
    obtain ⟨bB, offB, rfl, helB⟩ := HB.out (by omega)
    have p1 := helB w (Below.refl _ _) k hlb
    rw [List.drop_eq_getElem_cons hlb] at hq
    change (if Lib.compareInt la[k] lb[k] ≠ 0 then Lib.compareInt la[k] lb[k] else cmpL (la.drop (k + 1)) (lb.drop (k + 1))) = R at hq
    generalize la[k] = x at p0 hq
    generalize lb[k] = y at p1 hq
    have HCI := Lib.hid (Try.cmp_Compare_int x y w)
    generalize Lib.compareInt x y = z at hq HCI
    clear helA helB
    by_cases hz : z = 0
    · have HQN : Hid (cmpL (la.drop (k + 1)) (lb.drop (k + 1)) = R) := by show _ = R; rw [if_neg (by simpa using hz)] at hq; exact hq
      subst hz
      clear hq
      go_wp2_with (go_at_call 12; (with_reducible refine HCI.out.mono ?_); rintro e w1 ⟨rfl, rfl⟩)
      go_roundw
      case rel => exact ⟨k + 1, by omega, by omega, by go_num, HQN.out, by first | rfl | trivial⟩
      case measure => simp [intOf] <;> omega
    · have HF : Hid (z = R) := by show _ = R; rw [if_pos hz] at hq; exact hq
      have z1 : (z == 0) = false := by simpa using hz
      have z2 : (z != 0) = true := by simpa using hz
      clear hq hz
      go_wp2_with (go_at_call 12; (with_reducible refine HCI.out.mono ?_); rintro e w1 ⟨rfl, rfl⟩)
      go_ret
      exact ⟨congrArg (fun q : Int => Ending.returned (.int .i64 q)) HF.out, Below.refl _ _⟩
set_option maxRecDepth 100000 in
set_option maxHeartbeats 2000000 in
theorem less1_calls (c : CmdD) (hc : c.Fit) (w : World) : Calls Try.prog 7 #[c.val] w (GivesI [c.verb, c.noun, c.second, c.number, c.dir] w) := by
  have HFC := Lib.hid hc
  unfold CmdD.val
  obtain ⟨W1, hW1⟩ : ∃ z, w.alloc (.cells #[.int .i64 c.verb, .int .i64 c.noun, .int .i64 c.second, .int .i64 c.number, .int .i64 c.dir] 23) = z := ⟨_, rfl⟩
  have hb1 : Below w.heap.size w W1 := by rw [← hW1]; exact (Below.refl _ _).alloc (Nat.le_refl _) _
  have hx1 : BoxT W1 w.heap.size [.int .i64 c.verb, .int .i64 c.noun, .int .i64 c.second, .int .i64 c.number, .int .i64 c.dir] 23 := by rw [← hW1]; exact BoxT.new _ _ _
  have y0 := hx1.cell 0
  have y1 := hx1.cell 1
  have y2 := hx1.cell 2
  have y3 := hx1.cell 3
  have y4 := hx1.cell 4
  simp only [List.getElem?_cons_succ, List.getElem?_cons_zero] at y0 y1 y2 y3 y4
  have HW1 := Lib.hid hW1; have HB1 := Lib.hid hb1
  clear hW1 hb1 hx1 hc
  go_enter Try.func7, Try.ntmps7
  go_upto_region 1 with fail
  rw [HW1.out]
  clear HW1
  go_wp2
  go_ret
  exact ⟨_, rfl, (own_lit5 W1 c.verb c.noun c.second c.number c.dir HFC.out).lower HB1.out.size, HB1.out.trans (((Below.refl _ W1).alloc (Nat.le_refl _) _).mono HB1.out.size)⟩
set_option maxRecDepth 100000 in
set_option maxHeartbeats 4000000 in
theorem less_calls (a b : CmdD) (ha : a.Fit) (hb : b.Fit) (w : World) : Calls Try.prog 4 #[a.val, b.val] w (Gives w (.bool (decide (a.lt b)))) := by
  have HCA0 := Lib.hid (less1_calls a ha)
  have HCB0 := Lib.hid (less1_calls b hb)
  have HRR := Lib.hid (cmp_less a b)
  obtain ⟨va, hva⟩ : ∃ v, a.val = v := ⟨_, rfl⟩
  obtain ⟨vb, hvb⟩ : ∃ v, b.val = v := ⟨_, rfl⟩
  have HCA : Hid (∀ W, Calls Try.prog 7 #[va] W (GivesI [a.verb, a.noun, a.second, a.number, a.dir] W)) := fun W => hva ▸ HCA0.out W
  have HCB : Hid (∀ W, Calls Try.prog 7 #[vb] W (GivesI [b.verb, b.noun, b.second, b.number, b.dir] W)) := fun W => hvb ▸ HCB0.out W
  obtain ⟨W1, hW1⟩ : ∃ z, w.alloc (.cells #[.int .i64 a.verb, .int .i64 a.noun, .int .i64 a.second, .int .i64 a.number, .int .i64 a.dir] 23) = z := ⟨_, rfl⟩
  obtain ⟨W2, hW2⟩ : ∃ z, W1.alloc (.cells #[.int .i64 b.verb, .int .i64 b.noun, .int .i64 b.second, .int .i64 b.number, .int .i64 b.dir] 23) = z := ⟨_, rfl⟩
  have hz1 : W1.heap.size = w.heap.size + 1 := by rw [← hW1]; simp
  have hb1 : Below w.heap.size w W1 := by rw [← hW1]; exact (Below.refl _ _).alloc (Nat.le_refl _) _
  have hb2 : Below W1.heap.size W1 W2 := by rw [← hW2]; exact (Below.refl _ _).alloc (Nat.le_refl _) _
  have hx1 : BoxT W1 w.heap.size [.int .i64 a.verb, .int .i64 a.noun, .int .i64 a.second, .int .i64 a.number, .int .i64 a.dir] 23 := by rw [← hW1]; exact BoxT.new _ _ _
  have hx2 : BoxT W2 (w.heap.size + 1) [.int .i64 b.verb, .int .i64 b.noun, .int .i64 b.second, .int .i64 b.number, .int .i64 b.dir] 23 := by rw [← hz1, ← hW2]; exact BoxT.new _ _ _
  have HB := Lib.hid (btK hb1 hb2)
  have HXa := Lib.hid (hx1.below hb2); have HXb := Lib.hid hx2
  have HLA : Hid (∀ W, BoxT W w.heap.size [.int .i64 a.verb, .int .i64 a.noun, .int .i64 a.second, .int .i64 a.number, .int .i64 a.dir] 23 → (Instr.loadAt 23 (.pointer (some ⟨w.heap.size, 0, none⟩))).run Try.prog W = .ok va W) := fun W h => hva ▸ run_loadAt_mid W _ 0 23 _ _ h.range Try.underlying23 rfl (by kernel_rfl)
  have HLB : Hid (∀ W, BoxT W (w.heap.size + 1) [.int .i64 b.verb, .int .i64 b.noun, .int .i64 b.second, .int .i64 b.number, .int .i64 b.dir] 23 → (Instr.loadAt 23 (.pointer (some ⟨w.heap.size + 1, 0, none⟩))).run Try.prog W = .ok vb W) := fun W h => hvb ▸ run_loadAt_mid W _ 0 23 _ _ h.range Try.underlying23 rfl (by kernel_rfl)
  have HW1 := Lib.hid hW1; have HW2 := Lib.hid hW2
  clear hW1 hW2 hz1 hb1 hb2 hx1 hx2 HCA0 HCB0 ha hb
  unfold CmdD.val at hva hvb ⊢
  have HVA := Lib.hid hva; have HVB := Lib.hid hvb
  clear hva hvb
  go_enter Try.func4, Try.ntmps4
  go_upto_region 2 with fail
  rw [HW1.out, HW2.out, HVA.out, HVB.out]
  clear HW1 HW2 HVA HVB
  refine wp_region_held_drew (S := fun W => Below W2.heap.size W2 W) (by kernel_rfl) (Below.refl _ _).drew (fun hHeld => ?_)
  have h0 : Below W2.heap.size W2 W2.drew := (Below.refl _ _).drew
  refine wpAnyH_take (i := 0) (v := .func (.func 7) #[] #[]) rfl (by kernel_rfl) (by kernel_rfl) (by kernel_rfl) (fun _ _ _ h => h) (Or.inl ⟨by rfl, ?_⟩) (by assumption) ?_
  · intro W hW
    go_simp
  simp only [Act.put]
  refine wpAnyH_take (i := 1) (v := va) rfl (by kernel_rfl) (by kernel_rfl) (by kernel_rfl) (fun _ _ _ h => h) (Or.inl ⟨by rfl, ?_⟩) (by assumption) ?_
  · intro W hW
    exact load_run 23 (.tmp 2) rfl ⟨w.heap.size, 0, none⟩ rfl va W (HLA.out W (HXa.out.below hW))
  simp only [Act.put]
  refine wpAnyH_take (i := 3) (v := .func (.func 7) #[] #[]) rfl (by kernel_rfl) (by kernel_rfl) (by kernel_rfl) (fun _ _ _ h => h) (Or.inl ⟨by rfl, ?_⟩) (by assumption) ?_
  · intro W hW
    go_simp
  simp only [Act.put]
  refine wpAnyH_take (i := 4) (v := vb) rfl (by kernel_rfl) (by kernel_rfl) (by kernel_rfl) (fun _ _ _ h => h) (Or.inl ⟨by rfl, ?_⟩) (by assumption) ?_
  · intro W hW
    exact load_run 23 (.tmp 3) rfl ⟨w.heap.size + 1, 0, none⟩ rfl vb W (HLB.out W (HXb.out.below hW))
  simp only [Act.put]
  refine wpAnyH_ready (rs := [2]) (by kernel_rfl) (by simp) ?_
  refine AllReadyH.cons rfl (fun K hK => ?_) (AllReadyH.nil)
  · go_simp
    refine (HCA.out _).mono ?_
    rintro e v1 ⟨v1, rfl, ho1, hbv1⟩
    have Hv1 := btK h0 hbv1
    refine hK.out _ _ Hv1 (fun hHeld => ?_)
    clear hK K
    refine wpAnyH_ready (rs := [5]) (by kernel_rfl) (by simp) ?_
    refine AllReadyH.cons rfl (fun K hK => ?_) (AllReadyH.nil)
    · go_simp
      refine (HCB.out _).mono ?_
      rintro e v2 ⟨v2, rfl, ho2, hbv2⟩
      have Hv2 := btK Hv1 hbv2
      have HCM := Lib.hid (compare_ints _ _ _ _ _ _ _ (newB_inn _ _) (newB_inn _ _) (ho1.below hbv2).rdl ho2.rdl)
      refine hK.out _ _ Hv2 (fun hHeld => ?_)
      clear hK K
      refine wpAnyH_ready (rs := [6]) (by kernel_rfl) (by simp) ?_
      refine AllReadyH.cons rfl (fun K hK => ?_) (AllReadyH.nil)
      · go_simp
        refine (HCM.out).mono ?_
        rintro e v3 ⟨rfl, hbv3⟩
        have Hv3 := btK Hv2 hbv3
        refine hK.out _ _ Hv3 (fun hHeld => ?_)
        clear hK K
        refine wpAnyH_take (i := 7) (v := .bool (decide (cmpL [a.verb, a.noun, a.second, a.number, a.dir] [b.verb, b.noun, b.second, b.number, b.dir] < 0))) rfl (by kernel_rfl) (by kernel_rfl) (by kernel_rfl) (fun _ _ _ h => h) (Or.inl ⟨by rfl, ?_⟩) (by assumption) ?_
        · intro W hW
          go_simp
        simp only [Act.put]
        refine wpAnyH_take (i := 8) (v := .bool (decide (cmpL [a.verb, a.noun, a.second, a.number, a.dir] [b.verb, b.noun, b.second, b.number, b.dir] < 0))) rfl (by kernel_rfl) (by kernel_rfl) (by kernel_rfl) (fun _ _ _ h => h) (Or.inl ⟨by rfl, ?_⟩) (by assumption) ?_
        · intro W hW
          go_simp
        simp only [Act.put]
        refine wpAnyH_done (by kernel_rfl) ?_ _
        go_simp
        go_wp2
        go_ret
        exact ⟨ret_bool HRR.out, btK HB.out Hv3⟩
set_option maxRecDepth 100000 in
set_option maxHeartbeats 2000000 in
theorem span_calls (w : World) (b : Bool) (lo hi : Int) (k : Nat) (h0 : 0 ≤ lo) (h1 : hi + 1 = lo + k) (h2 : hi ≤ 1000) : Calls Try.prog 29 #[.bool b, .int .i64 lo, .int .i64 hi] w (GivesI (rowI b lo k) w) := by
  cases b
  · go_enter Try.func29, Try.ntmps29
    go_wp2
    go_ret
    exact ⟨_, rfl, own_lit0 w, (Below.refl _ _).alloc (Nat.le_refl _) _⟩
  · have HQ0 : Hid ((List.range k).map (fun i : Nat => lo + (i : Int)) = rowI true lo k) := rfl
    generalize rowI true lo k = R at HQ0
    have hk1000 : k ≤ 1001 := by omega
    go_enter Try.func29, Try.ntmps29
    go_wp2
    go_loopw [7, 8] (fun u i wr => ∃ (j : Nat) (n : Int), j ≤ k ∧ i = .int .i64 n ∧ n = lo + j ∧ Hid (OwnI w.heap.size wr ((List.range j).map (fun i : Nat => lo + (i : Int))) u) ∧ Below w.heap.size w wr) (fun _ i _ => (hi + 1 - intOf i).toNat)
    case atStart => exact ⟨0, lo, Nat.zero_le _, rfl, by simp, OwnR.nil _ _ _ _ _, Below.refl _ _⟩
    case round =>
      obtain ⟨j, n, hj, rfl, hn, HO, hB⟩ := hrel
      have HBL := Lib.hid hB
      clear hB
      by_cases hlt : j < k
      · have e1 : n ≤ hi := by omega
        have HI : Hid (I64 n) := by show I64 n; unfold I64; omega
        have HNX : Hid ((List.range j).map (fun i : Nat => lo + (i : Int)) ++ [n] = (List.range (j + 1)).map (fun i : Nat => lo + (i : Int))) := by
          show _ = _
          rw [List.range_succ, List.map_append, hn]
          rfl
        have HLN : Hid (((List.range j).map (fun i : Nat => lo + (i : Int))).length ≤ 1000000) := by show _ ≤ _; simp; omega
        generalize (List.range j).map (fun i : Nat => lo + (i : Int)) = acc at HO HNX HLN
        have HN := Lib.hid hn
        have n0 : 0 ≤ n := by omega
        clear hn
        go_wp2_with (first | (at_builtin; refine wpList_app rfl (.tmp 18) (.tmp 20) 27 rfl _ _ (fun v' w' => OwnI w.heap.size w' (acc ++ [n]) v' ∧ Below w.heap.size wr w') rfl rfl (ints_push HO.out HI.out HBL.out.size HLN.out _ _) ?_; rintro v4 w4 ⟨ho4, hb4⟩))
        go_roundw
        case rel => exact ⟨j + 1, n + 1, by omega, by go_num, by have := HN.out; omega, by rw [← HNX.out]; exact ho4, HBL.out.trans hb4⟩
        case measure => simp [intOf]; omega
      · have e1 : ¬ n ≤ hi := by omega
        have HF : Hid ((List.range j).map (fun i : Nat => lo + (i : Int)) = R) := by
          show _ = _
          rw [show j = k by omega]
          exact HQ0.out
        go_wp2
        go_ret
        exact ⟨_, rfl, by rw [← HF.out]; exact HO.out, HBL.out⟩
end Go.Proofs.Ytapjglpiofpbmaa
/- acts.has and nouns; slices.Index and Contains of commands. Printed by gen-ac21.py. -/
namespace Go.Proofs.Ytapjglpiofpbmaa
open Go.RowKit Go.Sort

/-- How many slots of a line are of one of these kinds. -/
def hasK (l : List SlotD) (ks : List Int) : Nat := (l.filter fun s => ks.contains s.kind).length
theorem hasK_two (l : List SlotD) (a b : Int) : hasK l [a, b] = hasN l a b := by
  unfold hasK hasN
  congr 1
  apply List.filter_congr
  intro s _
  rw [Bool.eq_iff_iff]
  simp
theorem hasK_one (l : List SlotD) (a : Int) : hasK l [a] = hasN l a a := by
  unfold hasK hasN
  congr 1
  apply List.filter_congr
  intro s _
  rw [Bool.eq_iff_iff]
  simp
theorem hasK_snoc (l : List SlotD) (ks : List Int) (k : Nat) (h : k < l.length) : hasK (l.take (k + 1)) ks = hasK (l.take k) ks + if ks.contains l[k].kind then 1 else 0 := by
  unfold hasK
  rw [List.take_add_one, List.getElem?_eq_getElem h, Option.toList_some, List.filter_append, List.length_append]
  congr 1
  by_cases hc : ks.contains l[k].kind = true
  · rw [List.filter_cons_of_pos (p := fun s : SlotD => ks.contains s.kind) hc, if_pos hc]; rfl
  · rw [List.filter_cons_of_neg (p := fun s : SlotD => ks.contains s.kind) hc, if_neg hc]; rfl
theorem hasK_le (l : List SlotD) (ks : List Int) : hasK l ks ≤ l.length := List.length_filter_le _ _
set_option maxRecDepth 100000 in
set_option maxHeartbeats 2000000 in
theorem has_calls (F G : Nat → Prop) (w : World) (l : List SlotD) (lv : Value) (ks : List Int) (kv : Value) (hF : Inn F w) (hG : Inn G w) (hl : RdL Holds.slot 2 F w l lv) (hk : RdInts G w ks kv) (hk0 : 0 < ks.length) : Calls Try.prog 27 #[lv, kv] w (Gives w (.int .i64 (hasK l ks : Nat))) := by
  have hlm := hl.len; have hkm := hk.len
  unfold maxLen at hlm hkm
  obtain ⟨ad, cap, rfl, -, -, ha⟩ := hl.elem hF
  obtain ⟨kad, kcap, rfl, -, -, hke⟩ := hk.elem hG
  obtain ⟨kb, koff, rfl, hkel⟩ := hke hk0
  have HA := Lib.hid ha
  have HCT : Hid (∀ W, Below w.heap.size w W → ∀ x : Int, Calls Try.prog 39 #[.slice (some ⟨kb, koff, none⟩) ks.length kcap, .int .i64 x] W (Gives W (.bool (ks.contains x)))) := fun W h x => (Try.slices_Contains_int kb koff ks.length kcap ks x W (Nat.le_refl _) (by omega) (fun j hj => by
      rw [hkel W h j hj, List.getD_eq_getElem?_getD, List.getElem?_eq_getElem hj]
      rfl)).mono fun e w' ⟨h1, h2⟩ => ⟨by rw [h1, List.take_length], h2 ▸ Below.refl _ _⟩
  have HC := Lib.hid (hasK_snoc l ks)
  have HLE := Lib.hid (hasK_le l ks)
  have HR : Hid (hasK (l.take l.length) ks = hasK l ks) := by show _ = _; rw [List.take_length]
  clear ha hke hkel hl hk
  generalize hasK l ks = R at HR HLE
  go_enter Try.func27, Try.ntmps27
  go_wp2
  go_loopw [5, 10] (fun c i wr => ∃ (k m : Nat), k ≤ l.length ∧ i = .int .i64 k ∧ c = .int .i64 m ∧ m ≤ k ∧ Hid (m = hasK (l.take k) ks) ∧ Below w.heap.size w wr) (fun _ i _ => l.length - (intOf i).toNat)
  case atStart => exact ⟨0, 0, Nat.zero_le _, rfl, rfl, Nat.le_refl _, rfl, Below.refl _ _⟩
  case round =>
    obtain ⟨k, m, hk, rfl, rfl, hm, HM, hB⟩ := hrel
    have HB := Lib.hid hB
    clear hB
    obtain ⟨wo, rfl⟩ : ∃ z : World, z = wr := ⟨_, rfl⟩
    by_cases hlt : k < l.length
    rotate_left
    · have h1 : ¬ (k : Int) < (l.length : Int) := by omega
      have hm2 : Hid (m = R) := by
        show m = _
        rw [HM.out, ← HR.out, show k = l.length by omega]
      clear HM
      go_wp2
      go_ret
      exact ⟨congrArg (fun q : Nat => Ending.returned (.int .i64 (q : Int))) hm2.out, HB.out⟩
    have h1 : (k : Int) < (l.length : Int) := by omega
    have h2 : (0 : Int) ≤ (k : Int) := by omega
    obtain ⟨b0, off, rfl, hel⟩ := HA.out (by omega)
    obtain ⟨xs, -, ⟨-, sv, rfl, hsv⟩, hr⟩ := hel k hlt
    obtain ⟨sad, scap, rfl⟩ := hsv.shape
    have hrg := hr _ HB.out
    have c0 := hrg 0 _ rfl; have c1 := hrg 1 _ rfl
    simp only [Nat.add_zero] at c0
    have hc1 := HC.out k hlt
    rw [← HM.out] at hc1
    have m1 : (m : Int) ≤ 9223372036854775806 := by omega
    have m0 : (0 : Int) ≤ (m : Int) := by omega
    generalize l[k].kind = q at c0 hc1
    generalize l[k].words = ws at c1
    clear hel hr hrg hsv
    go_upto_region 5 with fail
    obtain ⟨W5, hW5⟩ : ∃ z, wo.alloc (.cells #[.int .i64 q, .slice sad ws.length scap] 49) = z := ⟨_, rfl⟩
    rw [hW5]
    have hb5 : Below wo.heap.size wo W5 := by rw [← hW5]; exact (Below.refl _ _).alloc (Nat.le_refl _) _
    have hx5 : BoxT W5 wo.heap.size [.int .i64 q, .slice sad ws.length scap] 49 := by rw [← hW5]; exact BoxT.new _ _ _
    have d0 := hx5.cell 0
    simp only [List.getElem?_cons_zero] at d0
    have HB5 := Lib.hid (HB.out.trans (hb5.mono HB.out.size))
    have hcc := HCT.out W5 HB5.out q
    generalize ks.contains q = b at hc1 hcc
    have HCC := Lib.hid hcc
    clear hW5 hb5 hx5 c0 c1 hcc
    cases b
    · rw [if_neg (by decide), Nat.add_zero] at hc1
      have HC1 := Lib.hid hc1
      clear hc1
      go_wp2_with (go_at_call 39; (with_reducible refine HCC.out.mono ?_); rintro e w7 ⟨rfl, hb7⟩)
      go_roundw
      case rel => exact ⟨k + 1, m, by omega, by go_num, rfl, by omega, HC1.out.symm, HB5.out.trans (hb7.mono HB5.out.size)⟩
      case measure => simp [intOf] <;> omega
    · rw [if_pos rfl] at hc1
      have HC1 := Lib.hid hc1
      clear hc1
      go_wp2_with (go_at_call 39; (with_reducible refine HCC.out.mono ?_); rintro e w7 ⟨rfl, hb7⟩)
      go_roundw
      case rel => exact ⟨k + 1, m + 1, by omega, by go_num, by go_num, by omega, HC1.out.symm, HB5.out.trans (hb7.mono HB5.out.size)⟩
      case measure => simp [intOf] <;> omega
set_option maxRecDepth 100000 in
set_option maxHeartbeats 2000000 in
theorem nouns_calls (F : Nat → Prop) (w : World) (b : Bool) (seen : List Int) (sv u : Value) (hF : Inn F w) (hs : RdInts F w seen sv) (hu : ∀ b, F b → u.ownBlock ≠ some b) (hu2 : ∀ g, u.ownBlock = some g → g < w.heap.size) : Calls Try.prog 28 #[.bool b, sv] w (fun e w' => ∃ v, e = .returned v ∧ RdX w' u (if b then seen else [0]) v ∧ Below w.heap.size w w') := by
  have HS := Lib.hid hs
  obtain ⟨a, cap, rfl⟩ := RdL.shape hs
  cases b
  · go_enter Try.func28, Try.ntmps28
    go_wp2
    go_ret
    exact ⟨_, rfl, RdX.ofOwn (own_lit0 w) hu2, (Below.refl _ _).alloc (Nat.le_refl _) _⟩
  · go_enter Try.func28, Try.ntmps28
    go_wp2
    go_ret
    refine ⟨_, rfl, ?_, Below.refl _ _⟩
    have hln := HS.out.len
    obtain ⟨a', cap', e, h1, h2, h3⟩ := RdInts.opn HS.out
    cases e
    refine ⟨a, cap, rfl, by show seen.length ≤ _; omega, fun h0 => ?_⟩
    obtain ⟨b, off, rfl, hb, hc⟩ := h3 h0
    exact ⟨b, off, rfl, hF b hb, fun e => hu b hb e.symm, fun k hk => (hc w rfl k hk).2⟩
set_option maxRecDepth 100000 in
set_option maxHeartbeats 2000000 in
theorem index_calls (F : Nat → Prop) (w : World) (l : List CmdD) (lv : Value) (c : CmdD) (hF : Inn F w) (hl : RdCmds F w l lv) : Calls Try.prog 32 #[lv, c.val] w (fun e w' => ∃ r : Int, e = .returned (.int .i64 r) ∧ (0 ≤ r ↔ c ∈ l) ∧ Below w.heap.size w w') := by
  have hlm := hl.len
  unfold maxLen at hlm
  obtain ⟨lad, lcap, rfl, -, -, ha⟩ := hl.elem hF
  have HA := Lib.hid ha
  obtain ⟨cv, hcv⟩ : ∃ v, c.val = v := ⟨_, rfl⟩
  have HEQ : Hid (∀ (a : CmdD) W, (binOp .eql 23 cv a.val).run Try.prog W = .ok (.bool (decide (c = a))) W) := fun a W => hcv ▸ cmd_eql c a W
  have HEG : Hid (∀ (a : CmdD) W x y, (eqGuard .eql 23 x y cv a.val).run Try.prog W = .ok () W) := fun a W x y => hcv ▸ cmd_guard .eql x y c a W
  obtain ⟨W1, hW1⟩ : ∃ z, w.alloc (.cells #[.int .i64 c.verb, .int .i64 c.noun, .int .i64 c.second, .int .i64 c.number, .int .i64 c.dir] 23) = z := ⟨_, rfl⟩
  have hb1 : Below w.heap.size w W1 := by rw [← hW1]; exact (Below.refl _ _).alloc (Nat.le_refl _) _
  have hx1 : BoxT W1 w.heap.size [.int .i64 c.verb, .int .i64 c.noun, .int .i64 c.second, .int .i64 c.number, .int .i64 c.dir] 23 := by rw [← hW1]; exact BoxT.new _ _ _
  have HLC : Hid (∀ W, BoxT W w.heap.size [.int .i64 c.verb, .int .i64 c.noun, .int .i64 c.second, .int .i64 c.number, .int .i64 c.dir] 23 → (Instr.loadAt 23 (.pointer (some ⟨w.heap.size, 0, none⟩))).run Try.prog W = .ok cv W) := fun W h => hcv ▸ run_loadAt_mid W _ 0 23 _ _ h.range Try.underlying23 rfl (by kernel_rfl)
  have HW1 := Lib.hid hW1; have HB1 := Lib.hid hb1; have HX1 := Lib.hid hx1
  unfold CmdD.val at hcv ⊢
  have HCV := Lib.hid hcv
  clear hW1 hb1 hx1 ha hl hcv
  go_enter Try.func32, Try.ntmps32
  go_upto_region 1 with fail
  rw [HW1.out, HCV.out]
  clear HW1 HCV
  go_wp2
  go_loopw [8] (fun i wr => ∃ (k : Nat), k ≤ l.length ∧ i = .int .i64 k ∧ Hid (∀ j (hj : j < l.length), j < k → l[j] ≠ c) ∧ Below W1.heap.size W1 wr) (fun i _ => l.length - (intOf i).toNat)
  case atStart => exact ⟨0, Nat.zero_le _, rfl, fun j hj h => by omega, Below.refl _ _⟩
  case round =>
    obtain ⟨k, hk, rfl, HN, hB⟩ := hrel
    have HB := Lib.hid hB
    clear hB
    by_cases hlt : k < l.length
    rotate_left
    · have h1 : ¬ (k : Int) < (l.length : Int) := by omega
      have HF : Hid ((0 : Int) ≤ -1 ↔ c ∈ l) := by
        constructor
        · intro h; omega
        · intro hc
          obtain ⟨j, hj, e⟩ := List.getElem_of_mem hc
          exact absurd e (HN.out j hj (by omega))
      go_wp2
      go_ret
      exact ⟨_, rfl, HF.out, btK HB1.out HB.out⟩
    have h1 : (k : Int) < (l.length : Int) := by omega
    have h2 : (0 : Int) ≤ (k : Int) := by omega
    obtain ⟨b0, off, rfl, hel⟩ := HA.out (by omega)
    obtain ⟨xs, -, ⟨-, -, -, -, -, rfl⟩, hr⟩ := hel k hlt
    have q1 := HEQ.out l[k]
    have q2 := HEG.out l[k]
    have HLK : Hid (c = l[k] → ((0 : Int) ≤ (k : Int) ↔ c ∈ l)) := fun e => ⟨fun _ => e ▸ List.getElem_mem hlt, fun _ => by omega⟩
    have HLN : Hid (¬ c = l[k] → ∀ j (hj : j < l.length), j < k + 1 → l[j] ≠ c) := fun e j hj h => by
      by_cases hjk : j = k
      · subst hjk; exact fun e' => e e'.symm
      · exact HN.out j hj (by omega)
    generalize l[k] = a at hr q1 q2 HLK HLN
    obtain ⟨ev, hev⟩ : ∃ v, a.val = v := ⟨_, rfl⟩
    rw [hev] at q1 q2
    go_upto_region 4 with fail
    have hlc : ∀ W, (∃ p : Regrown, W = grow (redrawn wr p.d) p.os) → (Instr.loadAt 23 (.pointer (some ⟨w.heap.size, 0, none⟩))).run Try.prog W = .ok cv W := fun W h => HLC.out _ (HX1.out.below (HB.out.trans ((below_of_regrown h).mono HB.out.size)))
    have QC := Lib.hid hlc
    have hle : ∀ W, (∃ p : Regrown, W = grow (redrawn wr p.d) p.os) → (Instr.loadAt 23 (.pointer (some ⟨b0, off + k * 5, none⟩))).run Try.prog W = .ok ev W := fun W h => by
      have h9 := hr W (btK HB1.out (HB.out.trans ((below_of_regrown h).mono HB.out.size)))
      rw [← hev]
      exact run_loadAt_mid W b0 (off + k * 5) 23 _ _ h9 Try.underlying23 rfl (by kernel_rfl)
    have QE := Lib.hid hle
    clear hlc hle hr hev hel
    by_cases hac : c = a
    · rw [decide_eq_true hac] at q1
      have HYES := Lib.hid (HLK.out hac)
      clear hac HLK HLN
      refine wp_region_quiet_below (by kernel_rfl) (by kernel_rfl) ?_
      (try dsimp only [List.append])
      repeat (first | (go_big_quiet_want; (refine quiet_load 23 _ (by rfl) _ (by rfl) cv (fun W hW => QC.out W hW) ?_); simp only [Act.put, List.setIfInBounds_toArray, List.set_cons_succ, List.set_cons_zero]; go_big_quiet_on) | (go_big_quiet_want; (refine quiet_load 23 _ (by rfl) _ (by rfl) ev (fun W hW => QE.out W hW) ?_); simp only [Act.put, List.setIfInBounds_toArray, List.set_cons_succ, List.set_cons_zero]; go_big_quiet_on) | go_big_quiet_step (fail))
      with_reducible refine wpQuiet_nil ?_
      intro w3 hw3
      have hb3 := below_of_regrown hw3
      clear hw3
      go_wp2
      go_ret
      exact ⟨_, rfl, HYES.out, btK HB1.out (HB.out.trans (hb3.mono HB.out.size))⟩
    · rw [decide_eq_false hac] at q1
      have HNO := Lib.hid (HLN.out hac)
      clear hac HLK HLN
      refine wp_region_quiet_below (by kernel_rfl) (by kernel_rfl) ?_
      (try dsimp only [List.append])
      repeat (first | (go_big_quiet_want; (refine quiet_load 23 _ (by rfl) _ (by rfl) cv (fun W hW => QC.out W hW) ?_); simp only [Act.put, List.setIfInBounds_toArray, List.set_cons_succ, List.set_cons_zero]; go_big_quiet_on) | (go_big_quiet_want; (refine quiet_load 23 _ (by rfl) _ (by rfl) ev (fun W hW => QE.out W hW) ?_); simp only [Act.put, List.setIfInBounds_toArray, List.set_cons_succ, List.set_cons_zero]; go_big_quiet_on) | go_big_quiet_step (fail))
      with_reducible refine wpQuiet_nil ?_
      intro w3 hw3
      have hb3 := below_of_regrown hw3
      clear hw3
      go_wp2
      go_roundw
      case rel => exact ⟨k + 1, by omega, by go_num, HNO.out, HB.out.trans (hb3.mono HB.out.size)⟩
      case measure => simp [intOf] <;> omega
set_option maxRecDepth 100000 in
set_option maxHeartbeats 2000000 in
theorem containsC_calls (F : Nat → Prop) (w : World) (l : List CmdD) (lv : Value) (c : CmdD) (hF : Inn F w) (hl : RdCmds F w l lv) : Calls Try.prog 17 #[lv, c.val] w (Gives w (.bool (decide (c ∈ l)))) := by
  have HIX0 := Lib.hid (fun (W : World) (h : Below w.heap.size w W) => index_calls F W l lv c (fun b hb => Nat.lt_of_lt_of_le (hF b hb) h.size) (RdL.below hl hF h (Nat.le_refl _)))
  obtain ⟨lad, lcap, rfl⟩ := hl.shape
  obtain ⟨cv, hcv⟩ : ∃ v, c.val = v := ⟨_, rfl⟩
  have HIX : Hid (∀ W, Below w.heap.size w W → Calls Try.prog 32 #[.slice lad l.length lcap, cv] W (fun e w' => ∃ r : Int, e = .returned (.int .i64 r) ∧ (0 ≤ r ↔ c ∈ l) ∧ Below W.heap.size W w')) := fun W h => hcv ▸ HIX0.out W h
  obtain ⟨W1, hW1⟩ : ∃ z, w.alloc (.cells #[.int .i64 c.verb, .int .i64 c.noun, .int .i64 c.second, .int .i64 c.number, .int .i64 c.dir] 23) = z := ⟨_, rfl⟩
  have hb1 : Below w.heap.size w W1 := by rw [← hW1]; exact (Below.refl _ _).alloc (Nat.le_refl _) _
  have hx1 : BoxT W1 w.heap.size [.int .i64 c.verb, .int .i64 c.noun, .int .i64 c.second, .int .i64 c.number, .int .i64 c.dir] 23 := by rw [← hW1]; exact BoxT.new _ _ _
  have HL1 : Hid ((Instr.loadAt 23 (.pointer (some ⟨w.heap.size, 0, none⟩))).run Try.prog W1 = .ok cv W1) := hcv ▸ run_loadAt_mid W1 _ 0 23 _ _ hx1.range Try.underlying23 rfl (by kernel_rfl)
  have HW1 := Lib.hid hW1; have HB1 := Lib.hid hb1
  unfold CmdD.val at hcv ⊢
  have HCV := Lib.hid hcv
  clear hW1 hb1 hx1 hl hcv HIX0
  go_enter Try.func17, Try.ntmps17
  go_upto_region 1 with fail
  rw [HW1.out, HCV.out]
  clear HW1 HCV
  go_upto_if 99 with (first | ((with_reducible refine wpList_load_T 23 (.tmp 3) ?hw9 ⟨w.heap.size, 0, none⟩ ?hx9 cv (HL1.out) ?_); (case hw9 => rfl); (case hx9 => first | rfl | (exact rfl))) | (go_at_call 32; (with_reducible refine (HIX.out _ HB1.out).mono ?_); rintro e w2 ⟨r, rfl, hr, hb2⟩))
  go_ret
  exact ⟨ret_bool (by first | rfl | exact decide_eq_decide.2 hr), btK HB1.out hb2⟩
end Go.Proofs.Ytapjglpiofpbmaa
/- nest.Is, attr.Has, view.has and view.shows. Printed by gen-ac22.py. -/
namespace Go.Proofs.Ytapjglpiofpbmaa
open Go.RowKit Go.Sort

set_option maxRecDepth 100000 in
set_option maxHeartbeats 2000000 in
theorem nis_calls (F : Nat → Prop) (w : World) (x : WorldD) (cs : List Value) (_hF : Inn F w) (hx : Holds.world.R F w x cs) (c : Int) : Calls Try.prog 63 #[.agg cs.toArray, .int .i64 c] w (Gives w (.bool (decide (IsTh x.n c)))) := by
  have hn : x.n = x.parent.length := rfl
  obtain ⟨R, hR⟩ : ∃ r, decide (IsTh x.n c) = r := ⟨_, rfl⟩
  rw [hR]
  have HR : Hid (R = (decide (1 ≤ c) && decide (c < (x.parent.length : Int)))) := by
    show R = _
    rw [← hR, hn, ← Bool.decide_and]
    rfl
  clear hR hn
  obtain ⟨-, -, -, -, -, -, wv0, wv1, wv2, wv3, wv4, wv5, wv6, rfl, wg0, wg1, wg2, wg3, wg4, wg5, wg6⟩ := hx
  obtain ⟨wa0, wc0, rfl⟩ := wg0.shape
  have wl0 := wg0.len
  obtain ⟨wa1, wc1, rfl⟩ := wg1.shape
  have wl1 := wg1.len
  obtain ⟨wa2, wc2, rfl⟩ := wg2.shape
  have wl2 := wg2.len
  obtain ⟨wa3, wc3, rfl⟩ := wg3.shape
  have wl3 := wg3.len
  obtain ⟨wa4, wc4, rfl⟩ := wg4.shape
  have wl4 := wg4.len
  obtain ⟨wa5, wc5, rfl⟩ := wg5.shape
  have wl5 := wg5.len
  obtain ⟨wa6, wc6, rfl⟩ := wg6.shape
  have wl6 := wg6.len
  unfold maxLen at wl0 wl1 wl2 wl3 wl4 wl5 wl6
  clear wg0 wg1 wg2 wg3 wg4 wg5 wg6
  obtain ⟨W1, hW1⟩ : ∃ z, w.alloc (.cells #[.slice wa0 x.globals.length wc0, .slice wa1 x.parent.length wc1, .slice wa2 x.child.length wc2, .slice wa3 x.next.length wc3, .slice wa4 x.flags.length wc4, .slice wa5 x.props.length wc5, .slice wa6 x.timers.length wc6, .int .u64 x.seed, .int .i64 x.score, .int .i64 x.turns, .int .i64 x.over, .int .i64 x.it, .int .i64 x.go] 38) = z := ⟨_, rfl⟩
  have hb1 : Below w.heap.size w W1 := by rw [← hW1]; exact (Below.refl _ _).alloc (Nat.le_refl _) _
  have hx1 : BoxT W1 w.heap.size [.slice wa0 x.globals.length wc0, .slice wa1 x.parent.length wc1, .slice wa2 x.child.length wc2, .slice wa3 x.next.length wc3, .slice wa4 x.flags.length wc4, .slice wa5 x.props.length wc5, .slice wa6 x.timers.length wc6, .int .u64 x.seed, .int .i64 x.score, .int .i64 x.turns, .int .i64 x.over, .int .i64 x.it, .int .i64 x.go] 38 := by rw [← hW1]; exact BoxT.new _ _ _
  have HW1 := Lib.hid hW1; have HBv := Lib.hid hb1; have HXv := Lib.hid hx1
  clear hW1 hb1 hx1
  go_enter Try.func63, Try.ntmps63
  go_upto_region 1 with fail
  rw [HW1.out]
  obtain ⟨WV, hWV⟩ : ∃ v, Value.agg #[.slice wa0 x.globals.length wc0, .slice wa1 x.parent.length wc1, .slice wa2 x.child.length wc2, .slice wa3 x.next.length wc3, .slice wa4 x.flags.length wc4, .slice wa5 x.props.length wc5, .slice wa6 x.timers.length wc6, .int .u64 x.seed, .int .i64 x.score, .int .i64 x.turns, .int .i64 x.over, .int .i64 x.it, .int .i64 x.go] = v := ⟨_, rfl⟩
  have HLW : Hid (∀ W, BoxT W w.heap.size [.slice wa0 x.globals.length wc0, .slice wa1 x.parent.length wc1, .slice wa2 x.child.length wc2, .slice wa3 x.next.length wc3, .slice wa4 x.flags.length wc4, .slice wa5 x.props.length wc5, .slice wa6 x.timers.length wc6, .int .u64 x.seed, .int .i64 x.score, .int .i64 x.turns, .int .i64 x.over, .int .i64 x.it, .int .i64 x.go] 38 → (Instr.loadAt 38 (.pointer (some ⟨w.heap.size, 0, none⟩))).run Try.prog W = .ok WV W) := fun W h => by
    rw [← hWV]
    exact run_loadAt_mid W _ 0 38 _ _ h.range Try.underlying38 rfl (by kernel_rfl)
  rw [hWV]
  clear HW1
  clear hWV HLW
  have wy1 := HXv.out.cell 1
  simp only [List.getElem?_cons_succ, List.getElem?_cons_zero] at wy1
  by_cases h1 : 1 ≤ c
  · have e : Hid (R = decide (c < (x.parent.length : Int))) := by
      show R = _
      rw [HR.out, decide_eq_true h1, Bool.true_and]
    clear HR
    go_wp2
    go_ret
    exact ⟨ret_bool e.out.symm, HBv.out⟩
  · have e : Hid (R = false) := by
      show R = _
      rw [HR.out, decide_eq_false h1, Bool.false_and]
    clear HR
    go_wp2
    go_ret
    exact ⟨ret_bool e.out.symm, HBv.out⟩
set_option maxRecDepth 100000 in
set_option maxHeartbeats 2000000 in
theorem asked_calls (F : Nat → Prop) (w : World) (x : WorldD) (cs : List Value) (hF : Inn F w) (hx : Holds.world.R F w x cs) (c : Int) (k : Nat) (hk : k < 16) : Calls Try.prog 60 #[.agg cs.toArray, .int .i64 c, .int .i64 k] w (Gives w (.int .i64 (if IsTh x.n c then 0 else 11))) := by
  have HIS0 := Lib.hid (fun (W : World) (h : Below w.heap.size w W) => nis_calls F W x cs (fun b hb => Nat.lt_of_lt_of_le (hF b hb) h.size) (Holds.world.keep (fun b hb => h.block b (hF b hb)) (fun _ h => h) hx) c)
  have k0 : ¬ (k : Int) < 0 := by omega
  have k1 : ¬ (15 : Int) < (k : Int) := by omega
  obtain ⟨R, hR⟩ : ∃ r : Int, (if IsTh x.n c then 0 else 11) = r := ⟨_, rfl⟩
  rw [hR]
  have HR : Hid ((if decide (IsTh x.n c) = true then 0 else 11) = R) := by show _ = R; rw [← hR]; simp
  clear hR
  generalize decide (IsTh x.n c) = b at HIS0 HR
  obtain ⟨-, -, -, -, -, -, wv0, wv1, wv2, wv3, wv4, wv5, wv6, rfl, wg0, wg1, wg2, wg3, wg4, wg5, wg6⟩ := hx
  obtain ⟨wa0, wc0, rfl⟩ := wg0.shape
  have wl0 := wg0.len
  obtain ⟨wa1, wc1, rfl⟩ := wg1.shape
  have wl1 := wg1.len
  obtain ⟨wa2, wc2, rfl⟩ := wg2.shape
  have wl2 := wg2.len
  obtain ⟨wa3, wc3, rfl⟩ := wg3.shape
  have wl3 := wg3.len
  obtain ⟨wa4, wc4, rfl⟩ := wg4.shape
  have wl4 := wg4.len
  obtain ⟨wa5, wc5, rfl⟩ := wg5.shape
  have wl5 := wg5.len
  obtain ⟨wa6, wc6, rfl⟩ := wg6.shape
  have wl6 := wg6.len
  unfold maxLen at wl0 wl1 wl2 wl3 wl4 wl5 wl6
  clear wg0 wg1 wg2 wg3 wg4 wg5 wg6
  obtain ⟨W1, hW1⟩ : ∃ z, w.alloc (.cells #[.slice wa0 x.globals.length wc0, .slice wa1 x.parent.length wc1, .slice wa2 x.child.length wc2, .slice wa3 x.next.length wc3, .slice wa4 x.flags.length wc4, .slice wa5 x.props.length wc5, .slice wa6 x.timers.length wc6, .int .u64 x.seed, .int .i64 x.score, .int .i64 x.turns, .int .i64 x.over, .int .i64 x.it, .int .i64 x.go] 38) = z := ⟨_, rfl⟩
  have hb1 : Below w.heap.size w W1 := by rw [← hW1]; exact (Below.refl _ _).alloc (Nat.le_refl _) _
  have hx1 : BoxT W1 w.heap.size [.slice wa0 x.globals.length wc0, .slice wa1 x.parent.length wc1, .slice wa2 x.child.length wc2, .slice wa3 x.next.length wc3, .slice wa4 x.flags.length wc4, .slice wa5 x.props.length wc5, .slice wa6 x.timers.length wc6, .int .u64 x.seed, .int .i64 x.score, .int .i64 x.turns, .int .i64 x.over, .int .i64 x.it, .int .i64 x.go] 38 := by rw [← hW1]; exact BoxT.new _ _ _
  have HW1 := Lib.hid hW1; have HBv := Lib.hid hb1; have HXv := Lib.hid hx1
  clear hW1 hb1 hx1
  go_enter Try.func60, Try.ntmps60
  go_upto_region 1 with fail
  rw [HW1.out]
  obtain ⟨WV, hWV⟩ : ∃ v, Value.agg #[.slice wa0 x.globals.length wc0, .slice wa1 x.parent.length wc1, .slice wa2 x.child.length wc2, .slice wa3 x.next.length wc3, .slice wa4 x.flags.length wc4, .slice wa5 x.props.length wc5, .slice wa6 x.timers.length wc6, .int .u64 x.seed, .int .i64 x.score, .int .i64 x.turns, .int .i64 x.over, .int .i64 x.it, .int .i64 x.go] = v := ⟨_, rfl⟩
  have HLW : Hid (∀ W, BoxT W w.heap.size [.slice wa0 x.globals.length wc0, .slice wa1 x.parent.length wc1, .slice wa2 x.child.length wc2, .slice wa3 x.next.length wc3, .slice wa4 x.flags.length wc4, .slice wa5 x.props.length wc5, .slice wa6 x.timers.length wc6, .int .u64 x.seed, .int .i64 x.score, .int .i64 x.turns, .int .i64 x.over, .int .i64 x.it, .int .i64 x.go] 38 → (Instr.loadAt 38 (.pointer (some ⟨w.heap.size, 0, none⟩))).run Try.prog W = .ok WV W) := fun W h => by
    rw [← hWV]
    exact run_loadAt_mid W _ 0 38 _ _ h.range Try.underlying38 rfl (by kernel_rfl)
  rw [hWV]
  clear HW1
  clear wl0 wl1 wl2 wl3 wl4 wl5 wl6
  have HIS := Lib.hid HIS0.out
  rw [hWV] at HIS
  clear hWV HIS0
  cases b
  · have HF : Hid (R = 11) := HR.out.symm
    go_wp2_with (first | ((with_reducible refine wpList_load_T 38 (.tmp 3) ?hw9 ⟨w.heap.size, 0, none⟩ ?hx9 WV (HLW.out _ HXv.out) ?_); (case hw9 => rfl); (case hx9 => first | rfl | (exact rfl))) | (go_at_call 63; (with_reducible refine (HIS.out _ HBv.out).mono ?_); rintro e w1 ⟨rfl, hb1⟩))
    go_ret
    exact ⟨congrArg (fun q : Int => Ending.returned (.int .i64 q)) HF.out.symm, btK HBv.out hb1⟩
  · have HF : Hid (R = 0) := HR.out.symm
    go_wp2_with (first | ((with_reducible refine wpList_load_T 38 (.tmp 3) ?hw9 ⟨w.heap.size, 0, none⟩ ?hx9 WV (HLW.out _ HXv.out) ?_); (case hw9 => rfl); (case hx9 => first | rfl | (exact rfl))) | (go_at_call 63; (with_reducible refine (HIS.out _ HBv.out).mono ?_); rintro e w1 ⟨rfl, hb1⟩))
    go_ret
    exact ⟨congrArg (fun q : Int => Ending.returned (.int .i64 q)) HF.out.symm, btK HBv.out hb1⟩
theorem bit_eq (y : Int) (k : Nat) (h : 0 ≤ y) (h1 : y ≤ 9223372036854775807) : (bits BinOp.and IntKind.i64 (y / 2 ^ k) 1 == 1) = ((y / 2 ^ k).tmod 2 == 1) := by
  have hp : (0 : Int) ≤ 2 ^ k := Int.pow_nonneg (by decide)
  have hz0 : 0 ≤ y / 2 ^ k := Int.ediv_nonneg h hp
  have hz1 : y / 2 ^ k ≤ 9223372036854775807 := Int.le_trans (Int.ediv_le_self _ h) h1
  rw [Int.tmod_eq_emod_of_nonneg hz0]
  generalize y / 2 ^ k = z at hz0 hz1
  obtain ⟨n, rfl⟩ : ∃ n : Nat, z = n := ⟨z.toNat, by omega⟩
  have e : bits BinOp.and IntKind.i64 (n : Int) 1 = (n : Int) % 2 := by
    have h1 : (BitVec.ofInt 64 (n : Int)).toNat = n := by
      rw [BitVec.ofInt_natCast, BitVec.toNat_ofNat]; exact Nat.mod_eq_of_lt (by omega)
    have h2 : (BitVec.ofInt 64 (1 : Int)).toNat = 1 := by decide
    show IntKind.i64.wrap ((BitVec.ofInt 64 (n : Int) &&& BitVec.ofInt 64 (1 : Int)).toNat : Int) = _
    rw [BitVec.toNat_and, h1, h2, Nat.and_one_is_mod, IntWalk.i64_in _ (by omega)]
    omega
  rw [e]
theorem rdints_fit {F : Nat → Prop} {w : World} {l : List Int} {v : Value} (h : RdInts F w l v) : ∀ n ∈ l, I64 n := by
  intro n hn
  obtain ⟨i, hi, rfl⟩ := List.getElem_of_mem hn
  obtain ⟨c, -, h2⟩ := h
  exact (h2 i hi).1
theorem world_fit {F : Nat → Prop} {w : World} {x : WorldD} {cs : List Value} (h : Holds.world.R F w x cs) : ∀ n ∈ x.flags, I64 n := by
  obtain ⟨-, -, -, -, -, -, v0, v1, v2, v3, v4, v5, v6, -, -, -, -, -, g4, -, -⟩ := h
  exact rdints_fit g4
set_option maxRecDepth 100000 in
set_option maxHeartbeats 2000000 in
theorem hasA_calls (F : Nat → Prop) (w : World) (x : WorldD) (cs : List Value) (hF : Inn F w) (hx : Holds.world.R F w x cs) (hfl : x.flags.length = x.parent.length) (hf0 : ∀ f ∈ x.flags, 0 ≤ f) (c : Int) (k : Nat) (hk : k < 16) : Calls Try.prog 50 #[.agg cs.toArray, .int .i64 c, .int .i64 k] w (fun e w' => ∃ q : Int, e = .returned (.tuple #[.bool (flagF x.flags k c), .int .i64 q]) ∧ Below w.heap.size w w') := by
  have HAS0 := Lib.hid (fun (W : World) (h : Below w.heap.size w W) => asked_calls F W x cs (fun b hb => Nat.lt_of_lt_of_le (hF b hb) h.size) (Holds.world.keep (fun b hb => h.block b (hF b hb)) (fun _ h => h) hx) c k hk)
  have k0 : (0 : Int) ≤ (k : Int) := by omega
  have k1 : ¬ (k : Int) < 0 := by omega
  have k2 : (k : Int) < 64 := by omega
  obtain ⟨R, hR⟩ : ∃ r, flagF x.flags k c = r := ⟨_, rfl⟩
  rw [hR]
  have HR := Lib.hid hR
  have hn9 : x.n = x.parent.length := rfl
  have HFI := Lib.hid (world_fit hx)
  have HFL := Lib.hid hfl; have HF0 := Lib.hid hf0; have HN9 := Lib.hid hn9
  clear hR hfl hf0 hn9
  obtain ⟨-, -, -, -, -, -, wv0, wv1, wv2, wv3, wv4, wv5, wv6, rfl, wg0, wg1, wg2, wg3, wg4, wg5, wg6⟩ := hx
  obtain ⟨wa0, wc0, rfl⟩ := wg0.shape
  have wl0 := wg0.len
  obtain ⟨wa1, wc1, rfl⟩ := wg1.shape
  have wl1 := wg1.len
  obtain ⟨wa2, wc2, rfl⟩ := wg2.shape
  have wl2 := wg2.len
  obtain ⟨wa3, wc3, rfl⟩ := wg3.shape
  have wl3 := wg3.len
  obtain ⟨wa4, wc4, rfl⟩ := wg4.shape
  have wl4 := wg4.len
  obtain ⟨wa5, wc5, rfl⟩ := wg5.shape
  have wl5 := wg5.len
  obtain ⟨wa6, wc6, rfl⟩ := wg6.shape
  have wl6 := wg6.len
  unfold maxLen at wl0 wl1 wl2 wl3 wl4 wl5 wl6
  obtain ⟨xa4, xc4, he4, -, -, hA4⟩ := RdInts.elem wg4 hF
  cases he4
  have WA4 := Lib.hid hA4
  clear hA4
  clear wg0 wg1 wg2 wg3 wg4 wg5 wg6
  obtain ⟨W1, hW1⟩ : ∃ z, w.alloc (.cells #[.slice wa0 x.globals.length wc0, .slice wa1 x.parent.length wc1, .slice wa2 x.child.length wc2, .slice wa3 x.next.length wc3, .slice wa4 x.flags.length wc4, .slice wa5 x.props.length wc5, .slice wa6 x.timers.length wc6, .int .u64 x.seed, .int .i64 x.score, .int .i64 x.turns, .int .i64 x.over, .int .i64 x.it, .int .i64 x.go] 38) = z := ⟨_, rfl⟩
  have hb1 : Below w.heap.size w W1 := by rw [← hW1]; exact (Below.refl _ _).alloc (Nat.le_refl _) _
  have hx1 : BoxT W1 w.heap.size [.slice wa0 x.globals.length wc0, .slice wa1 x.parent.length wc1, .slice wa2 x.child.length wc2, .slice wa3 x.next.length wc3, .slice wa4 x.flags.length wc4, .slice wa5 x.props.length wc5, .slice wa6 x.timers.length wc6, .int .u64 x.seed, .int .i64 x.score, .int .i64 x.turns, .int .i64 x.over, .int .i64 x.it, .int .i64 x.go] 38 := by rw [← hW1]; exact BoxT.new _ _ _
  have HW1 := Lib.hid hW1; have HBv := Lib.hid hb1; have HXv := Lib.hid hx1
  clear hW1 hb1 hx1
  go_enter Try.func50, Try.ntmps50
  go_upto_region 1 with fail
  rw [HW1.out]
  obtain ⟨WV, hWV⟩ : ∃ v, Value.agg #[.slice wa0 x.globals.length wc0, .slice wa1 x.parent.length wc1, .slice wa2 x.child.length wc2, .slice wa3 x.next.length wc3, .slice wa4 x.flags.length wc4, .slice wa5 x.props.length wc5, .slice wa6 x.timers.length wc6, .int .u64 x.seed, .int .i64 x.score, .int .i64 x.turns, .int .i64 x.over, .int .i64 x.it, .int .i64 x.go] = v := ⟨_, rfl⟩
  have HLW : Hid (∀ W, BoxT W w.heap.size [.slice wa0 x.globals.length wc0, .slice wa1 x.parent.length wc1, .slice wa2 x.child.length wc2, .slice wa3 x.next.length wc3, .slice wa4 x.flags.length wc4, .slice wa5 x.props.length wc5, .slice wa6 x.timers.length wc6, .int .u64 x.seed, .int .i64 x.score, .int .i64 x.turns, .int .i64 x.over, .int .i64 x.it, .int .i64 x.go] 38 → (Instr.loadAt 38 (.pointer (some ⟨w.heap.size, 0, none⟩))).run Try.prog W = .ok WV W) := fun W h => by
    rw [← hWV]
    exact run_loadAt_mid W _ 0 38 _ _ h.range Try.underlying38 rfl (by kernel_rfl)
  rw [hWV]
  clear HW1
  clear wl0 wl1 wl2 wl3 wl4 wl5 wl6
  have HAS := Lib.hid HAS0.out
  rw [hWV] at HAS
  clear hWV HAS0
  by_cases h1 : IsTh x.n c
  · rw [if_pos h1] at HAS
    obtain ⟨j, rfl, j1, j2⟩ := th_nat h1
    have j3 : j < x.flags.length := by have := HFL.out; have := HN9.out; omega
    have j4 : (0 : Int) ≤ (j : Int) := by omega
    have j5 : (j : Int) < (x.flags.length : Int) := by omega
    obtain ⟨b, off, rfl, hel⟩ := WA4.out (by omega)
    have e : Hid (R = ((x.flags[j] / 2 ^ k).tmod 2 == 1)) := by
      show R = _
      rw [← HR.out]
      unfold flagF
      rw [decide_eq_true ⟨by omega, by omega⟩, Bool.true_and, atI_get j3]
    have hy0 := HF0.out _ (List.getElem_mem j3)
    have hy1 := (HFI.out _ (List.getElem_mem j3)).2
    have HEL := Lib.hid (fun W h => hel W h j j3)
    generalize x.flags[j] = y at HEL e hy0 hy1
    have HBE := Lib.hid (bit_eq y k hy0 (by omega))
    clear h1 hel HR
    go_upto_region 4 with (first | ((with_reducible refine wpList_load_T 38 (.tmp 3) ?hw9 ⟨w.heap.size, 0, none⟩ ?hx9 WV (HLW.out _ HXv.out) ?_); (case hw9 => rfl); (case hx9 => first | rfl | (exact rfl))) | (go_at_call 60; (with_reducible refine (HAS.out _ HBv.out).mono ?_); rintro e1 w1 ⟨rfl, hb1⟩))
    have p0 := HEL.out _ (btK HBv.out hb1)
    have HXv := Lib.hid (HXv.out.below hb1)
    have HB2 := Lib.hid (btK HBv.out hb1)
    have wy4 := HXv.out.cell 4
    simp only [List.getElem?_cons_succ, List.getElem?_cons_zero] at wy4
    go_wp2
    go_ret2
    exact ⟨_, congrArg (fun q : Bool => Ending.returned (.tuple #[.bool q, .int .i64 0])) (HBE.out.trans e.out.symm), HB2.out⟩
  · rw [if_neg h1] at HAS
    have e : Hid (R = false) := by
      show R = _
      rw [← HR.out]
      unfold flagF
      rw [decide_eq_false (fun h => h1 ⟨h.1, by have := HFL.out; have := HN9.out; omega⟩), Bool.false_and]
    clear h1 HR WA4
    go_wp2_with (first | ((with_reducible refine wpList_load_T 38 (.tmp 3) ?hw9 ⟨w.heap.size, 0, none⟩ ?hx9 WV (HLW.out _ HXv.out) ?_); (case hw9 => rfl); (case hx9 => first | rfl | (exact rfl))) | (go_at_call 60; (with_reducible refine (HAS.out _ HBv.out).mono ?_); rintro e1 w1 ⟨rfl, hb1⟩))
    go_ret2
    exact ⟨_, congrArg (fun q : Bool => Ending.returned (.tuple #[.bool q, .int .i64 11])) e.out.symm, btK HBv.out hb1⟩
set_option maxRecDepth 100000 in
set_option maxHeartbeats 2000000 in
theorem hasV_calls (F : Nat → Prop) (w : World) (x : WorldD) (cs : List Value) (hF : Inn F w) (hx : Holds.world.R F w x cs) (hfl : x.flags.length = x.parent.length) (hf0 : ∀ f ∈ x.flags, 0 ≤ f) (c : Int) (k : Nat) (hk : k < 16) : Calls Try.prog 33 #[.agg cs.toArray, .int .i64 c, .int .i64 k] w (Gives w (.bool (flagF x.flags k c))) := by
  have HAS0 := Lib.hid (fun (W : World) (h : Below w.heap.size w W) => hasA_calls F W x cs (fun b hb => Nat.lt_of_lt_of_le (hF b hb) h.size) (Holds.world.keep (fun b hb => h.block b (hF b hb)) (fun _ h => h) hx) hfl hf0 c k hk)
  generalize flagF x.flags k c = R at HAS0 ⊢
  clear hfl hf0
  obtain ⟨-, -, -, -, -, -, wv0, wv1, wv2, wv3, wv4, wv5, wv6, rfl, wg0, wg1, wg2, wg3, wg4, wg5, wg6⟩ := hx
  obtain ⟨wa0, wc0, rfl⟩ := wg0.shape
  have wl0 := wg0.len
  obtain ⟨wa1, wc1, rfl⟩ := wg1.shape
  have wl1 := wg1.len
  obtain ⟨wa2, wc2, rfl⟩ := wg2.shape
  have wl2 := wg2.len
  obtain ⟨wa3, wc3, rfl⟩ := wg3.shape
  have wl3 := wg3.len
  obtain ⟨wa4, wc4, rfl⟩ := wg4.shape
  have wl4 := wg4.len
  obtain ⟨wa5, wc5, rfl⟩ := wg5.shape
  have wl5 := wg5.len
  obtain ⟨wa6, wc6, rfl⟩ := wg6.shape
  have wl6 := wg6.len
  unfold maxLen at wl0 wl1 wl2 wl3 wl4 wl5 wl6
  clear wg0 wg1 wg2 wg3 wg4 wg5 wg6
  obtain ⟨W1, hW1⟩ : ∃ z, w.alloc (.cells #[.slice wa0 x.globals.length wc0, .slice wa1 x.parent.length wc1, .slice wa2 x.child.length wc2, .slice wa3 x.next.length wc3, .slice wa4 x.flags.length wc4, .slice wa5 x.props.length wc5, .slice wa6 x.timers.length wc6, .int .u64 x.seed, .int .i64 x.score, .int .i64 x.turns, .int .i64 x.over, .int .i64 x.it, .int .i64 x.go] 38) = z := ⟨_, rfl⟩
  have hb1 : Below w.heap.size w W1 := by rw [← hW1]; exact (Below.refl _ _).alloc (Nat.le_refl _) _
  have hx1 : BoxT W1 w.heap.size [.slice wa0 x.globals.length wc0, .slice wa1 x.parent.length wc1, .slice wa2 x.child.length wc2, .slice wa3 x.next.length wc3, .slice wa4 x.flags.length wc4, .slice wa5 x.props.length wc5, .slice wa6 x.timers.length wc6, .int .u64 x.seed, .int .i64 x.score, .int .i64 x.turns, .int .i64 x.over, .int .i64 x.it, .int .i64 x.go] 38 := by rw [← hW1]; exact BoxT.new _ _ _
  have HW1 := Lib.hid hW1; have HBv := Lib.hid hb1; have HXv := Lib.hid hx1
  clear hW1 hb1 hx1
  go_enter Try.func33, Try.ntmps33
  go_upto_region 1 with fail
  rw [HW1.out]
  obtain ⟨WV, hWV⟩ : ∃ v, Value.agg #[.slice wa0 x.globals.length wc0, .slice wa1 x.parent.length wc1, .slice wa2 x.child.length wc2, .slice wa3 x.next.length wc3, .slice wa4 x.flags.length wc4, .slice wa5 x.props.length wc5, .slice wa6 x.timers.length wc6, .int .u64 x.seed, .int .i64 x.score, .int .i64 x.turns, .int .i64 x.over, .int .i64 x.it, .int .i64 x.go] = v := ⟨_, rfl⟩
  have HLW : Hid (∀ W, BoxT W w.heap.size [.slice wa0 x.globals.length wc0, .slice wa1 x.parent.length wc1, .slice wa2 x.child.length wc2, .slice wa3 x.next.length wc3, .slice wa4 x.flags.length wc4, .slice wa5 x.props.length wc5, .slice wa6 x.timers.length wc6, .int .u64 x.seed, .int .i64 x.score, .int .i64 x.turns, .int .i64 x.over, .int .i64 x.it, .int .i64 x.go] 38 → (Instr.loadAt 38 (.pointer (some ⟨w.heap.size, 0, none⟩))).run Try.prog W = .ok WV W) := fun W h => by
    rw [← hWV]
    exact run_loadAt_mid W _ 0 38 _ _ h.range Try.underlying38 rfl (by kernel_rfl)
  rw [hWV]
  clear HW1
  clear wl0 wl1 wl2 wl3 wl4 wl5 wl6
  have HAS := Lib.hid HAS0.out
  rw [hWV] at HAS
  clear hWV HAS0
  go_wp2_with (first | ((with_reducible refine wpList_load_T 38 (.tmp 3) ?hw9 ⟨w.heap.size, 0, none⟩ ?hx9 WV (HLW.out _ HXv.out) ?_); (case hw9 => rfl); (case hx9 => first | rfl | (exact rfl))) | (go_at_call 50; (with_reducible refine (HAS.out _ HBv.out).mono ?_); rintro e w1 ⟨q, rfl, hb1⟩))
  go_ret
  exact ⟨rfl, btK HBv.out hb1⟩
set_option maxRecDepth 100000 in
set_option maxHeartbeats 2000000 in
theorem showsV_calls (F : Nat → Prop) (w : World) (x : WorldD) (cs : List Value) (hF : Inn F w) (hx : Holds.world.R F w x cs) (hfl : x.flags.length = x.parent.length) (hf0 : ∀ f ∈ x.flags, 0 ≤ f) (c : Int) : Calls Try.prog 52 #[.agg cs.toArray, .int .i64 c] w (Gives w (.bool (showF x.flags c))) := by
  have H20 : Hid (∀ W, Below w.heap.size w W → Calls Try.prog 33 #[.agg cs.toArray, .int .i64 c, .int .i64 2] W (Gives W (.bool (flagF x.flags 2 c)))) := fun W h => hasV_calls F W x cs (fun b hb => Nat.lt_of_lt_of_le (hF b hb) h.size) (Holds.world.keep (fun b hb => h.block b (hF b hb)) (fun _ h => h) hx) hfl hf0 c 2 (by omega)
  have H10 : Hid (∀ W, Below w.heap.size w W → Calls Try.prog 33 #[.agg cs.toArray, .int .i64 c, .int .i64 1] W (Gives W (.bool (flagF x.flags 1 c)))) := fun W h => hasV_calls F W x cs (fun b hb => Nat.lt_of_lt_of_le (hF b hb) h.size) (Holds.world.keep (fun b hb => h.block b (hF b hb)) (fun _ h => h) hx) hfl hf0 c 1 (by omega)
  clear hfl hf0
  unfold showF
  generalize flagF x.flags 2 c = r2 at H20 ⊢
  generalize flagF x.flags 1 c = r1 at H10 ⊢
  obtain ⟨-, -, -, -, -, -, wv0, wv1, wv2, wv3, wv4, wv5, wv6, rfl, wg0, wg1, wg2, wg3, wg4, wg5, wg6⟩ := hx
  obtain ⟨wa0, wc0, rfl⟩ := wg0.shape
  have wl0 := wg0.len
  obtain ⟨wa1, wc1, rfl⟩ := wg1.shape
  have wl1 := wg1.len
  obtain ⟨wa2, wc2, rfl⟩ := wg2.shape
  have wl2 := wg2.len
  obtain ⟨wa3, wc3, rfl⟩ := wg3.shape
  have wl3 := wg3.len
  obtain ⟨wa4, wc4, rfl⟩ := wg4.shape
  have wl4 := wg4.len
  obtain ⟨wa5, wc5, rfl⟩ := wg5.shape
  have wl5 := wg5.len
  obtain ⟨wa6, wc6, rfl⟩ := wg6.shape
  have wl6 := wg6.len
  unfold maxLen at wl0 wl1 wl2 wl3 wl4 wl5 wl6
  clear wg0 wg1 wg2 wg3 wg4 wg5 wg6
  obtain ⟨W1, hW1⟩ : ∃ z, w.alloc (.cells #[.slice wa0 x.globals.length wc0, .slice wa1 x.parent.length wc1, .slice wa2 x.child.length wc2, .slice wa3 x.next.length wc3, .slice wa4 x.flags.length wc4, .slice wa5 x.props.length wc5, .slice wa6 x.timers.length wc6, .int .u64 x.seed, .int .i64 x.score, .int .i64 x.turns, .int .i64 x.over, .int .i64 x.it, .int .i64 x.go] 38) = z := ⟨_, rfl⟩
  have hb1 : Below w.heap.size w W1 := by rw [← hW1]; exact (Below.refl _ _).alloc (Nat.le_refl _) _
  have hx1 : BoxT W1 w.heap.size [.slice wa0 x.globals.length wc0, .slice wa1 x.parent.length wc1, .slice wa2 x.child.length wc2, .slice wa3 x.next.length wc3, .slice wa4 x.flags.length wc4, .slice wa5 x.props.length wc5, .slice wa6 x.timers.length wc6, .int .u64 x.seed, .int .i64 x.score, .int .i64 x.turns, .int .i64 x.over, .int .i64 x.it, .int .i64 x.go] 38 := by rw [← hW1]; exact BoxT.new _ _ _
  have HW1 := Lib.hid hW1; have HBv := Lib.hid hb1; have HXv := Lib.hid hx1
  clear hW1 hb1 hx1
  go_enter Try.func52, Try.ntmps52
  go_upto_region 1 with fail
  rw [HW1.out]
  obtain ⟨WV, hWV⟩ : ∃ v, Value.agg #[.slice wa0 x.globals.length wc0, .slice wa1 x.parent.length wc1, .slice wa2 x.child.length wc2, .slice wa3 x.next.length wc3, .slice wa4 x.flags.length wc4, .slice wa5 x.props.length wc5, .slice wa6 x.timers.length wc6, .int .u64 x.seed, .int .i64 x.score, .int .i64 x.turns, .int .i64 x.over, .int .i64 x.it, .int .i64 x.go] = v := ⟨_, rfl⟩
  have HLW : Hid (∀ W, BoxT W w.heap.size [.slice wa0 x.globals.length wc0, .slice wa1 x.parent.length wc1, .slice wa2 x.child.length wc2, .slice wa3 x.next.length wc3, .slice wa4 x.flags.length wc4, .slice wa5 x.props.length wc5, .slice wa6 x.timers.length wc6, .int .u64 x.seed, .int .i64 x.score, .int .i64 x.turns, .int .i64 x.over, .int .i64 x.it, .int .i64 x.go] 38 → (Instr.loadAt 38 (.pointer (some ⟨w.heap.size, 0, none⟩))).run Try.prog W = .ok WV W) := fun W h => by
    rw [← hWV]
    exact run_loadAt_mid W _ 0 38 _ _ h.range Try.underlying38 rfl (by kernel_rfl)
  rw [hWV]
  clear HW1
  have H2 := Lib.hid H20.out; have H1 := Lib.hid H10.out
  rw [hWV] at H2 H1
  clear hWV H20 H10
  cases r2
  all_goals
    go_wp2_with (first | ((with_reducible refine wpList_load_T 38 (.tmp 2) ?hw9 ⟨w.heap.size, 0, none⟩ ?hx9 WV (HLW.out _ HXv.out) ?_); (case hw9 => rfl); (case hx9 => first | rfl | (exact rfl))) | (go_at_call 33; (first | (with_reducible refine (H2.out _ HBv.out).mono ?_) | (with_reducible refine (H1.out _ HBv.out).mono ?_)); rintro e w1 ⟨rfl, hb1⟩; have HXv := Lib.hid (HXv.out.below hb1); have HBv := Lib.hid (btK HBv.out hb1)))
    go_ret
    exact ⟨ret_bool (by simp), HBv.out⟩
end Go.Proofs.Ytapjglpiofpbmaa
/- clewref19's rules and Fits. Printed by gen-ac7.py. -/
namespace Go.Proofs.Ytapjglpiofpbmaa
open Go.RowKit Go.Sort

theorem givesB {w : World} {f : FuncId} {args : Array Value} {b : Bool} (h : Calls Try.prog f args w (Gives w (.bool b))) : Calls Try.prog f args w (SomeB w) := h.mono fun _ _ h => ⟨_, h.1, h.2⟩
theorem getA_mem {l : List ActD} {P : ActD → Prop} (h : ∀ i (hi : i < l.length), P l[i]) : ∀ x ∈ l, P x := fun x hx => by
  obtain ⟨i, hi, rfl⟩ := List.getElem_of_mem hx
  exact h i hi
end Go.Proofs.Ytapjglpiofpbmaa
/- clewref19's placed and Right. Printed by gen-ac10.py. -/
namespace Go.Proofs.Ytapjglpiofpbmaa
open Go.RowKit Go.Sort

theorem topF_th {pa : List Int} {n : Nat} : ∀ (f : Nat) (t c : Int), (t = 0 ∨ IsTh n t) → (topF pa n f t c = 0 ∨ IsTh n (topF pa n f t c))
  | 0, _, _, h => h
  | f + 1, t, c, h => by
    unfold topF
    split
    · rename_i hc
      exact topF_th f c _ (.inr hc)
    · exact h
theorem top_nat (x : WorldD) (c : Int) (h : 0 < x.n) : ∃ j : Nat, x.top c = j ∧ j < x.n := by
  rcases topF_th (pa := x.parent) (n := x.n) x.n 0 c (.inl rfl) with h1 | h1
  · exact ⟨0, h1, h⟩
  · obtain ⟨j, h2, _, h3⟩ := th_nat h1
    exact ⟨j, h2, h3⟩
theorem someP0 {P : Prop} {w : World} {f : FuncId} {args : Array Value} (h : Calls Try.prog f args w (SomeP P w)) : Calls Try.prog f args w (SomeQ P w) := h.mono fun _ _ ⟨b, h1, h2, h3⟩ => ⟨b, h1, h2, h3 ▸ Below.refl _ _⟩
theorem somePB {P : Prop} {w : World} {f : FuncId} {args : Array Value} (h : Calls Try.prog f args w (SomeP P w)) : Calls Try.prog f args w (SomeB w) := h.mono fun _ _ ⟨b, h1, _, h3⟩ => ⟨b, h1, h3 ▸ Below.refl _ _⟩
end Go.Proofs.Ytapjglpiofpbmaa
