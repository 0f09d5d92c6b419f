/- view.walk. Printed by gen-ac24.py. -/
import Derived.Test.YtapjglpiofpbmaaPart635ed87c
import Derived.Sort.CutIn
namespace Go.Proofs.Ytapjglpiofpbmaa
open Go.RowKit Go.Sort
attribute [local go_sem] Oper.semAt_some

theorem room_any {F : Fence} (hd : F.depth = none) (k : Nat) : F.room k := fun d h => by rw [hd] at h; cases h
/-- Where no depth is asked a round is one of any depth. -/
theorem yield_any {m m' : Nat} {P : Program} {l : Nat} {args : Array Value} {W : World} {R : Ending → World → Prop} (h : YieldAt Fence.wide m P l args W R) : YieldAt Fence.wide m' P l args W R := by
  obtain ⟨fn, tmps, assign, body, hy, hR⟩ := h
  exact ⟨fn, tmps, assign, body, hy, hR.1, fun c cs _ => hR.2 c cs (room_any rfl _)⟩
theorem wpListIn_off {F : Fence} {nF : Nat} {P : Program} {ops : Array Oper} {rest : List Oper} {o : Oper} {a : Act} {w : World} {Q : Exit → Act → World → Prop} (hw : Region.wanted o (yielded ops a.tmps) = false) (hf : ∀ f, F.fn f) (h : wpListIn F nF P ops Q rest (a.put o.dst undef) w) : wpListIn F nF P ops Q (o :: rest) a w := by
  simp only [wpListIn, hw]
  exact ⟨fun f _ => hf f, h⟩
/-- What view.walk gives from a thing that has so many things below it at most. -/
def WalkC (w : World) (x : WorldD) (cs : List Value) (l B N : Nat) (J Jx : List Int → World → Prop) (d : Nat) : Prop :=
  ∀ (n : Nat) (c0 : Int) (pre : List Int) (V : World), Deep x d c0 → Below w.heap.size w V → B < V.heap.size → InR V B → J pre V → pre.length + (reachF x.kids (flagF x.flags 3) (showF x.flags) (d + 1) c0).length ≤ N →
    CallsIn Fence.wide n Try.prog 36 #[.agg cs.toArray, .int .i64 c0, .func (.yield l) #[] #[]] V fun e V1 => (e = .returned (.bool true) ∧ J (pre ++ reachF x.kids (flagF x.flags 3) (showF x.flags) (d + 1) c0) V1 ∧ KpB w.heap.size B V V1) ∨ (e = .returned (.bool false) ∧ ∃ q, q <+: reachF x.kids (flagF x.flags 3) (showF x.flags) (d + 1) c0 ∧ Jx (pre ++ q) V1)
set_option maxRecDepth 100000 in
set_option maxHeartbeats 8000000 in
theorem walk_step (F : Nat → Prop) (w : World) (x : WorldD) (cs : List Value) (hF : Inn F w) (hx : Holds.world.R F w x cs) (hN : NestK x) (hsm : x.parent.length ≤ 1000000) (hfl : x.flags.length = x.parent.length) (hf0 : ∀ f ∈ x.flags, 0 ≤ f) (l B N : Nat) (J Jx : List Int → World → Prop) (hB0 : w.heap.size ≤ B)
    (hJ : ∀ s W W', J s W → Below W.heap.size W W' → J s W')
    (hY : ∀ m pre (y : Int) W, J pre W → pre.length < N → YieldAt Fence.wide m Try.prog l #[.int .i64 y] W fun e W' => (e = .returned (.bool true) ∧ J (pre ++ [y]) W' ∧ KpB w.heap.size B W W') ∨ (e = .returned (.bool false) ∧ Jx (pre ++ [y]) W'))
    (d : Nat) (ih : ∀ d', d' + 1 = d → WalkC w x cs l B N J Jx d') : WalkC w x cs l B N J Jx d := by
  intro n c0 pre V hd hwV hBV hIR hJV hNl
  have HCH0 : Hid (∀ W, Below w.heap.size w W → Calls Try.prog 51 #[.agg cs.toArray, .int .i64 c0] W (GivesI (x.kids c0) W)) := fun W h => kidsP_calls F W x cs (fun b hb => Nat.lt_of_lt_of_le (hF b hb) h.size) (Holds.world.keep (fun b hb => h.block b (hF b hb)) (fun _ h => h) hx) hN.1 hsm c0
  have HVH0 : Hid (∀ W, Below w.heap.size w W → ∀ c : Int, Calls Try.prog 33 #[.agg cs.toArray, .int .i64 c, .int .i64 3] W (Gives W (.bool (flagF x.flags 3 c)))) := fun W h c => hasV_calls F W x cs (fun b hb => Nat.lt_of_lt_of_le (hF b hb) h.size) (Holds.world.keep (fun b hb => h.block b (hF b hb)) (fun _ h => h) hx) hfl hf0 c 3 (by omega)
  have HVS0 : Hid (∀ W, Below w.heap.size w W → ∀ c : Int, Calls Try.prog 52 #[.agg cs.toArray, .int .i64 c] W (Gives W (.bool (showF x.flags c)))) := fun W h c => showsV_calls F W x cs (fun b hb => Nat.lt_of_lt_of_le (hF b hb) h.size) (Holds.world.keep (fun b hb => h.block b (hF b hb)) (fun _ h => h) hx) hfl hf0 c
  have HIH0 : Hid (∀ m ∈ x.kids c0, ∀ (n : Nat) (pre : List Int) (V : World), Below w.heap.size w V → B < V.heap.size → InR V B → J pre V → pre.length + (reachF x.kids (flagF x.flags 3) (showF x.flags) d m).length ≤ N → CallsIn Fence.wide n Try.prog 36 #[.agg cs.toArray, .int .i64 m, .func (.yield l) #[] #[]] V fun e V1 => (e = .returned (.bool true) ∧ J (pre ++ reachF x.kids (flagF x.flags 3) (showF x.flags) d m) V1 ∧ KpB w.heap.size B V V1) ∨ (e = .returned (.bool false) ∧ ∃ q, q <+: reachF x.kids (flagF x.flags 3) (showF x.flags) d m ∧ Jx (pre ++ q) V1)) := fun m hm n pre V h1 h2 h3 h4 h5 => by
    cases d with
    | zero => exact absurd hm (by rw [show x.kids c0 = [] from hd]; simp)
    | succ d' => exact ih d' rfl n m pre V (hd m hm) h1 h2 h3 h4 h5
  have HLK := Lib.hid (Nat.le_trans (kids_len x c0) hsm : (x.kids c0).length ≤ 1000000)
  obtain ⟨R, hR⟩ : ∃ r, reachF x.kids (flagF x.flags 3) (showF x.flags) (d + 1) c0 = r := ⟨_, rfl⟩
  have HQ0 : Hid ((x.kids c0).flatMap (partD x (d + 1)) = R) := by show _ = R; rw [← reach_part, hR]
  rw [hR] at hNl ⊢
  have HPD : Hid (∀ m, partD x (d + 1) m = if flagF x.flags 3 m then [] else m :: (if showF x.flags m then reachF x.kids (flagF x.flags 3) (showF x.flags) d m else [])) := fun m => rfl
  generalize partD x (d + 1) = pd at HQ0 HPD
  generalize x.kids c0 = ks at HCH0 HIH0 HQ0 HLK
  have HJ := Lib.hid hJ; have HY := Lib.hid hY; have HNl := Lib.hid hNl
  clear hJ hY ih hd hR hNl hfl hf0 hN
  obtain ⟨-, -, -, -, -, -, wv0, wv1, wv2, wv3, wv4, wv5, wv6, rfl, wg0, wg1, wg2, wg3, wg4, wg5, wg6⟩ := hx
  obtain ⟨wa0, wc0, rfl⟩ := wg0.shape
  have wl0 := wg0.len
  obtain ⟨wa1, wc1, rfl⟩ := wg1.shape
  have wl1 := wg1.len
  obtain ⟨wa2, wc2, rfl⟩ := wg2.shape
  have wl2 := wg2.len
  obtain ⟨wa3, wc3, rfl⟩ := wg3.shape
  have wl3 := wg3.len
  obtain ⟨wa4, wc4, rfl⟩ := wg4.shape
  have wl4 := wg4.len
  obtain ⟨wa5, wc5, rfl⟩ := wg5.shape
  have wl5 := wg5.len
  obtain ⟨wa6, wc6, rfl⟩ := wg6.shape
  have wl6 := wg6.len
  unfold maxLen at wl0 wl1 wl2 wl3 wl4 wl5 wl6
  clear wg0 wg1 wg2 wg3 wg4 wg5 wg6 wl0 wl1 wl2 wl3 wl4 wl5 wl6
  obtain ⟨W1, hW1⟩ : ∃ z, V.alloc (.cells #[.slice wa0 x.globals.length wc0, .slice wa1 x.parent.length wc1, .slice wa2 x.child.length wc2, .slice wa3 x.next.length wc3, .slice wa4 x.flags.length wc4, .slice wa5 x.props.length wc5, .slice wa6 x.timers.length wc6, .int .u64 x.seed, .int .i64 x.score, .int .i64 x.turns, .int .i64 x.over, .int .i64 x.it, .int .i64 x.go] 38) = z := ⟨_, rfl⟩
  have hb1 : Below V.heap.size V W1 := by rw [← hW1]; exact (Below.refl _ _).alloc (Nat.le_refl _) _
  have hx1 : BoxT W1 V.heap.size [.slice wa0 x.globals.length wc0, .slice wa1 x.parent.length wc1, .slice wa2 x.child.length wc2, .slice wa3 x.next.length wc3, .slice wa4 x.flags.length wc4, .slice wa5 x.props.length wc5, .slice wa6 x.timers.length wc6, .int .u64 x.seed, .int .i64 x.score, .int .i64 x.turns, .int .i64 x.over, .int .i64 x.it, .int .i64 x.go] 38 := by rw [← hW1]; exact BoxT.new _ _ _
  have HW1 := Lib.hid hW1; have HXv := Lib.hid hx1
  have HK1 : Hid (KpB w.heap.size B V W1) := KpB.on hb1 hwV.size hBV
  have HIRV := Lib.hid hIR
  have HBw := Lib.hid (hwV.trans (hb1.mono hwV.size))
  have HJ1 := Lib.hid (HJ.out _ _ _ hJV hb1)
  have HV1 := Lib.hid (show V.heap.size < W1.heap.size from hx1.lt)
  have HWV := Lib.hid hwV
  clear hW1 hx1 hIR hJV hwV
  refine callsIn_of_wp Try.func36 rfl trivial ?_ rfl
  simp only [Try.ntmps36, List.size_toArray, List.length_cons, List.length_nil, Nat.reduceAdd, Nat.reduceSub, Array.replicate_succ, Array.replicate_zero, List.push_toArray, List.append_toArray, List.nil_append, List.cons_append]
  gi_upto_region 1 with fail
  rw [HW1.out]
  obtain ⟨WV, hWV⟩ : ∃ v, Value.agg #[.slice wa0 x.globals.length wc0, .slice wa1 x.parent.length wc1, .slice wa2 x.child.length wc2, .slice wa3 x.next.length wc3, .slice wa4 x.flags.length wc4, .slice wa5 x.props.length wc5, .slice wa6 x.timers.length wc6, .int .u64 x.seed, .int .i64 x.score, .int .i64 x.turns, .int .i64 x.over, .int .i64 x.it, .int .i64 x.go] = v := ⟨_, rfl⟩
  have HLW : Hid (∀ W, BoxT W V.heap.size [.slice wa0 x.globals.length wc0, .slice wa1 x.parent.length wc1, .slice wa2 x.child.length wc2, .slice wa3 x.next.length wc3, .slice wa4 x.flags.length wc4, .slice wa5 x.props.length wc5, .slice wa6 x.timers.length wc6, .int .u64 x.seed, .int .i64 x.score, .int .i64 x.turns, .int .i64 x.over, .int .i64 x.it, .int .i64 x.go] 38 → (Instr.loadAt 38 (.pointer (some ⟨V.heap.size, 0, none⟩))).run Try.prog W = .ok WV W) := fun W h => by
    rw [← hWV]
    exact run_loadAt_mid W _ 0 38 _ _ h.range Try.underlying38 rfl (by kernel_rfl)
  have HCH := Lib.hid HCH0.out; have HVH := Lib.hid HVH0.out; have HVS := Lib.hid HVS0.out; have HIH := Lib.hid HIH0.out
  rw [hWV] at HCH HVH HVS HIH ⊢
  clear hWV HCH0 HVH0 HVS0 HIH0 HW1
  gi_wp2_with (first | ((with_reducible refine wpListIn_load_T 38 (.tmp 3) ?hw9 ⟨V.heap.size, 0, none⟩ ?hx9 WV (HLW.out _ HXv.out) ?_); (case hw9 => rfl); (case hx9 => first | rfl | (exact rfl))) | ((first | (refine ⟨trivial, ?_⟩; gi_at_call 51; (with_reducible refine (callsIn_wide.2 (HCH.out _ HBw.out)).mono ?_)) | (refine ⟨trivial, fun hh => (by simp [Fence.wide] at hh), ?_⟩; gi_at_call 51; (with_reducible refine (callsIn_wide.2 (HCH.out _ HBw.out)).mono ?_))); rintro e w2 ⟨vk, rfl, hok, hb2⟩; (obtain ⟨kad, kcap, rfl⟩ := hok.shape)))
  have hone : ownB w2 B = ownB V B := by
    rw [ownB_of (hb2.block B (by have := HV1.out; omega)), ownB_of (hb1.block B hBV)]
  have hK2 : KpB w.heap.size B V w2 := HK1.out.trans (KpB.on hb2 (by have := HWV.out.size; have := HV1.out; omega) (by have := HV1.out; omega))
  have hnV : ownB w2 B ≠ some V.heap.size := fun e => by rw [hone] at e; exact Nat.lt_irrefl _ (HIRV.out _ e)
  have HBX : Hid (∀ W', KpB w.heap.size B w2 W' → BoxT W' V.heap.size [.slice wa0 x.globals.length wc0, .slice wa1 x.parent.length wc1, .slice wa2 x.child.length wc2, .slice wa3 x.next.length wc3, .slice wa4 x.flags.length wc4, .slice wa5 x.props.length wc5, .slice wa6 x.timers.length wc6, .int .u64 x.seed, .int .i64 x.score, .int .i64 x.turns, .int .i64 x.over, .int .i64 x.it, .int .i64 x.go] 38 ∧ Below w.heap.size w W' ∧ B < W'.heap.size ∧ InR W' B) := fun W' h => ⟨h.box (HXv.out.below hb2) (by omega) hnV, (HWV.out.trans hK2.below).trans h.below, by have := hK2.below.size; have := h.below.size; omega, (hK2.trans h).inR HIRV.out⟩
  have HEL : Hid (∀ W', KpB w.heap.size B w2 W' → ∀ k (hk : k < ks.length), ∃ b off, kad = some ⟨b, off, none⟩ ∧ W'.cell? ⟨b, off + k, none⟩ = some (.int .i64 ks[k])) := fun W' h k hk => by
    obtain ⟨ad, cap, e, -, h9⟩ := h.ints hok (fun g hg => by
      have := (own_lt hok g hg).1
      have hv := HV1.out
      exact ⟨by omega, fun e => by rw [hone] at e; have := HIRV.out _ e; omega⟩)
    cases e
    exact h9 k hk
  have HJ2 := Lib.hid (HJ.out _ _ _ HJ1.out hb2)
  have HK2 := Lib.hid hK2
  have HON : Hid (∀ W1 W2, Below W1.heap.size W1 W2 → KpB w.heap.size B w2 W1 → KpB w.heap.size B w2 W2) := fun W1 W2 h k => k.trans (KpB.on h (by have := (HBX.out W1 k).2.1.size; omega) (HBX.out W1 k).2.2.1)
  have HQ1 : Hid ([] ++ (ks.drop 0).flatMap pd = R) := HQ0.out
  have HJ3 : Hid (J (pre ++ []) w2) := by show J _ _; rw [List.append_nil]; exact HJ2.out
  have HK0 := Lib.hid (KpB.refl w.heap.size B w2)
  have HKF : Hid (∀ W', KpB w.heap.size B w2 W' → KpB w.heap.size B V W') := fun W' h => HK2.out.trans h
  clear hone hK2 hnV hok hb2 hb1 HK1 HJ1 HJ2 HBw HXv HWV HIRV HK2 HV1 hBV
  gi_loopw [13] (fun i wr => ∃ (k : Nat) (dn : List Int), k ≤ ks.length ∧ i = .int .i64 k ∧ Hid (dn ++ (ks.drop k).flatMap pd = R) ∧ Hid (J (pre ++ dn) wr) ∧ Hid (KpB w.heap.size B w2 wr)) (fun i _ => ks.length - (intOf i).toNat)
  case atStart => exact ⟨0, [], Nat.zero_le _, rfl, HQ1.out, HJ3.out, HK0.out⟩
  case round =>
    clear HQ1 HJ3 HK0 HQ0
    obtain ⟨k, dn, hk, rfl, HQ, HJp, HKp⟩ := hrel
    by_cases hlt : k < ks.length
    rotate_left
    · have h1 : ¬ (k : Int) < (ks.length : Int) := by omega
      have HF : Hid (dn = R) := by
        have h9 := HQ.out
        rwa [List.drop_eq_nil_of_le (by omega), List.flatMap_nil, List.append_nil] at h9
      gi_wp2
      go_ret
      exact .inl ⟨rfl, by rw [← HF.out]; exact HJp.out, HKF.out _ HKp.out⟩
    have h1 : (k : Int) < (ks.length : Int) := by omega
    have h2 : (0 : Int) ≤ (k : Int) := by omega
    obtain ⟨kb, koff, rfl, p0⟩ := HEL.out wr HKp.out k hlt
    obtain ⟨hbx1, hbx2, -, -⟩ := HBX.out wr HKp.out
    have HXv := Lib.hid hbx1; have HBw := Lib.hid hbx2
    have hq := HQ.out
    rw [flat_drop _ _ _ hlt, HPD.out] at hq
    have hih := HIH.out _ (List.getElem_mem hlt)
    generalize ks[k] = c at p0 hq hih
    have hvh := fun W h => HVH.out W h c
    have hvs := fun W h => HVS.out W h c
    generalize flagF x.flags 3 c = b1 at hq hvh
    generalize showF x.flags c = b2 at hq hvs
    generalize reachF x.kids (flagF x.flags 3) (showF x.flags) d c = zs at hq hih
    have HVH := Lib.hid hvh; have HVS := Lib.hid hvs; have HIH := Lib.hid hih; have HQC := Lib.hid hq
    clear hvh hvs hih hq hbx1 hbx2
    have hnk : k ≤ 1000000 := by have := HLK.out; omega
    cases b1
    rotate_left
    · have HQN : Hid (dn ++ (ks.drop (k + 1)).flatMap pd = R) := by show _ = R; have h9 := HQC.out; simpa using h9
      gi_wp2_with (first | ((with_reducible refine wpListIn_load_T 38 (.tmp 3) ?hw9 ⟨V.heap.size, 0, none⟩ ?hx9 WV (HLW.out _ HXv.out) ?_); (case hw9 => rfl); (case hx9 => first | rfl | (exact rfl))) | ((first | (refine ⟨trivial, ?_⟩; gi_at_call 33; (with_reducible refine (callsIn_wide.2 (HVH.out _ HBw.out)).mono ?_)) | (refine ⟨trivial, fun hh => (by simp [Fence.wide] at hh), ?_⟩; gi_at_call 33; (with_reducible refine (callsIn_wide.2 (HVH.out _ HBw.out)).mono ?_))); rintro e w3 ⟨rfl, hb3⟩))
      go_roundw
      case rel => exact ⟨k + 1, dn, by omega, by go_num, HQN.out, HJ.out _ _ _ HJp.out hb3, HON.out _ _ hb3 HKp.out⟩
      case measure => simp [intOf] <;> omega
    have hq1 := HQC.out
    simp only [Bool.false_eq_true, if_false, List.cons_append] at hq1
    have hlen := congrArg List.length hq1
    simp only [List.length_append, List.length_cons] at hlen
    have HLT : Hid ((pre ++ dn).length < N) := by show _ < _; have := HNl.out; rw [List.length_append]; omega
    have HQ1 := Lib.hid hq1; have HLE := Lib.hid hlen
    clear hq1 hlen
    gi_wp2_with (first | ((with_reducible refine wpListIn_load_T 38 (.tmp 3) ?hw9 ⟨V.heap.size, 0, none⟩ ?hx9 WV (HLW.out _ HXv.out) ?_); (case hw9 => rfl); (case hx9 => first | rfl | (exact rfl))) | ((first | (refine ⟨trivial, ?_⟩; gi_at_call 33; (with_reducible refine (callsIn_wide.2 (HVH.out _ HBw.out)).mono ?_)) | (refine ⟨trivial, fun hh => (by simp [Fence.wide] at hh), ?_⟩; gi_at_call 33; (with_reducible refine (callsIn_wide.2 (HVH.out _ HBw.out)).mono ?_))); rintro e w3 ⟨rfl, hb3⟩; obtain ⟨fn, tmps, assign, body, hy, hR⟩ := HY.out (n - 1) (pre ++ dn) c w3 (HJ.out _ _ _ HJp.out hb3) HLT.out; have HK3 := Lib.hid (HON.out _ _ hb3 HKp.out)))
    refine ⟨fun hh => (by simp [Fence.wide] at hh), hR.mono ?_⟩
    rintro e w4 (⟨rfl, hJ4, hk4⟩ | ⟨rfl, hJx4⟩)
    rotate_left
    · have HF : Hid (dn ++ [c] <+: R) := ⟨(if b2 then zs else []) ++ (ks.drop (k + 1)).flatMap pd, by have h9 := HQ1.out; simpa using h9⟩
      have HJF := Lib.hid hJx4
      clear hJx4 hR hy
      gi_wp2_with (first | ((with_reducible refine wpListIn_off ?hw9 (fun _ => trivial) ?_); (case hw9 => rfl); simp only [Act.put, List.setIfInBounds_toArray, List.set_cons_succ, List.set_cons_zero]) | (refine ⟨trivial, ?_⟩))
      all_goals
        go_ret
        exact .inr ⟨rfl, _, HF.out, by have h9 := HJF.out; rwa [List.append_assoc] at h9⟩
    have HK4 := Lib.hid (HK3.out.trans hk4)
    have HJ4 := Lib.hid hJ4
    obtain ⟨hbx1, hbx2, hbx3, hbx4⟩ := HBX.out w4 HK4.out
    have HXv := Lib.hid hbx1; have HBw := Lib.hid hbx2
    clear hJ4 hk4 hR hy hbx1 hbx2 hbx3 hbx4
    cases b2
    · have HQN : Hid ((dn ++ [c]) ++ (ks.drop (k + 1)).flatMap pd = R) := by show _ = R; have h9 := HQ1.out; simpa using h9
      gi_wp2_with (first | ((with_reducible refine wpListIn_load_T 38 (.tmp 3) ?hw9 ⟨V.heap.size, 0, none⟩ ?hx9 WV (HLW.out _ HXv.out) ?_); (case hw9 => rfl); (case hx9 => first | rfl | (exact rfl))) | ((first | (refine ⟨trivial, ?_⟩; gi_at_call 52; (with_reducible refine (callsIn_wide.2 (HVS.out _ HBw.out)).mono ?_)) | (refine ⟨trivial, fun hh => (by simp [Fence.wide] at hh), ?_⟩; gi_at_call 52; (with_reducible refine (callsIn_wide.2 (HVS.out _ HBw.out)).mono ?_))); rintro e w5 ⟨rfl, hb5⟩))
      repeat (refine ⟨trivial, ?_⟩; gi_wp2)
      go_roundw
      case rel => exact ⟨k + 1, dn ++ [c], by omega, by go_num, HQN.out, by rw [← List.append_assoc]; exact HJ.out _ _ _ HJ4.out hb5, HON.out _ _ hb5 HK4.out⟩
      case measure => simp [intOf] <;> omega
    have HQN : Hid ((dn ++ [c] ++ zs) ++ (ks.drop (k + 1)).flatMap pd = R) := by show _ = R; have h9 := HQ1.out; simpa using h9
    have HLZ : Hid ((pre ++ dn ++ [c]).length + zs.length ≤ N) := by
      have h9 := HLE.out
      have h8 := HNl.out
      simp only [if_true] at h9
      show _ ≤ _
      simp only [List.length_append, List.length_cons, List.length_nil]
      omega
    gi_wp2_with (first | ((with_reducible refine wpListIn_load_T 38 (.tmp 3) ?hw9 ⟨V.heap.size, 0, none⟩ ?hx9 WV (HLW.out _ HXv.out) ?_); (case hw9 => rfl); (case hx9 => first | rfl | (exact rfl))) | ((first | (refine ⟨trivial, ?_⟩; gi_at_call 52; (with_reducible refine (callsIn_wide.2 (HVS.out _ HBw.out)).mono ?_)) | (refine ⟨trivial, fun hh => (by simp [Fence.wide] at hh), ?_⟩; gi_at_call 52; (with_reducible refine (callsIn_wide.2 (HVS.out _ HBw.out)).mono ?_))); rintro e w5 ⟨rfl, hb5⟩; have HK5 := Lib.hid (HON.out _ _ hb5 HK4.out); obtain ⟨hbx1, hbx2, hbx3, hbx4⟩ := HBX.out w5 HK5.out; have HXv := Lib.hid hbx1; have HCW := Lib.hid (fun n => HIH.out n (pre ++ dn ++ [c]) w5 hbx2 hbx3 hbx4 (HJ.out _ _ _ HJ4.out hb5) HLZ.out); clear hbx1 hbx2 hbx3 hbx4) | ((first | (refine ⟨trivial, ?_⟩; gi_at_call 36; (with_reducible refine (HCW.out _).mono ?_)) | (refine ⟨trivial, fun hh => (by simp [Fence.wide] at hh), ?_⟩; gi_at_call 36; (with_reducible refine (HCW.out _).mono ?_))); rintro e w6 (⟨rfl, hJ6, hk6⟩ | ⟨rfl, q, hq, hJx6⟩)))
    all_goals
      first
      | (go_roundw
         case rel => exact ⟨k + 1, dn ++ [c] ++ zs, by omega, by go_num, HQN.out, by rw [← List.append_assoc, ← List.append_assoc]; exact hJ6, HK5.out.trans hk6⟩
         case measure => simp [intOf] <;> omega)
      | (go_ret
         exact .inr ⟨rfl, dn ++ [c] ++ q, (by obtain ⟨r, hr⟩ := hq; exact ⟨r ++ (ks.drop (k + 1)).flatMap pd, by have h9 := HQN.out; rw [← hr] at h9; rw [← h9]; simp [List.append_assoc]⟩), by rw [← List.append_assoc, ← List.append_assoc]; exact hJx6⟩)
end Go.Proofs.Ytapjglpiofpbmaa
/- view.reached, Carried. Printed by gen-ac25.py. -/
namespace Go.Proofs.Ytapjglpiofpbmaa
open Go.RowKit Go.Sort
attribute [local go_sem] Oper.semAt_some

theorem walk_calls (F : Nat → Prop) (w : World) (x : WorldD) (cs : List Value) (hF : Inn F w) (hx : Holds.world.R F w x cs) (hN : NestK x) (hsm : x.parent.length ≤ 1000000) (hfl : x.flags.length = x.parent.length) (hf0 : ∀ f ∈ x.flags, 0 ≤ f) (l B N : Nat) (J Jx : List Int → World → Prop) (hB0 : w.heap.size ≤ B)
    (hJ : ∀ s W W', J s W → Below W.heap.size W W' → J s W')
    (hY : ∀ m pre (y : Int) W, J pre W → pre.length < N → YieldAt Fence.wide m Try.prog l #[.int .i64 y] W fun e W' => (e = .returned (.bool true) ∧ J (pre ++ [y]) W' ∧ KpB w.heap.size B W W') ∨ (e = .returned (.bool false) ∧ Jx (pre ++ [y]) W')) : ∀ d, WalkC w x cs l B N J Jx d
  | 0 => walk_step F w x cs hF hx hN hsm hfl hf0 l B N J Jx hB0 hJ hY 0 (fun d' e => by omega)
  | d + 1 => walk_step F w x cs hF hx hN hsm hfl hf0 l B N J Jx hB0 hJ hY (d + 1) (fun d' e => by
      obtain rfl : d' = d := by omega
      exact walk_calls F w x cs hF hx hN hsm hfl hf0 l B N J Jx hB0 hJ hY d')
theorem reach_eq {x : WorldD} (hN : NestK x) (c : Int) : reachF x.kids (flagF x.flags 3) (showF x.flags) (x.n - 1 + 1) c = x.reach c := by
  unfold WorldD.reach
  have := hN.1.pos
  rw [show x.n - 1 + 1 = x.n by omega]
set_option maxRecDepth 100000 in
set_option maxHeartbeats 4000000 in
/-- The iterator over what is reached from a thing. -/
theorem reached_seq (F : Nat → Prop) (w : World) (x : WorldD) (cs : List Value) (hF : Inn F w) (hx : Holds.world.R F w x cs) (hN : NestK x) (h128 : x.parent.length ≤ 128) (hfl : x.flags.length = x.parent.length) (hf0 : ∀ f ∈ x.flags, 0 ≤ f) (c0 : Int) (W : World) (hW : Below w.heap.size w W) (bw bx : Nat) (hbw : BoxT W bw cs 38) (hbx : BoxT W bx [.int .i64 c0] 3) : SeqI w.heap.size [bw, bx] 35 #[.pointer (some ⟨bw, 0, none⟩), .pointer (some ⟨bx, 0, none⟩)] (x.reach c0) W := by
  intro n w' B hw' hB hbs hBl hown l J Jx V hV hJ hJx hY h0
  have HWC := walk_calls F w x cs hF hx hN (by omega) hfl hf0 l B (x.reach c0).length J Jx hB (fun s W W' h hb => abides hJ h hb) (fun m pre y W h1 h2 => yield_any (hY pre y W h1 h2)) (x.n - 1)
  have hoV : ownB V B = none := by rw [ownB_of (hV.block B hBl)]; exact hown
  have hVV := btK hw' hV
  have hwk := fun n => HWC n c0 [] V (deep_all hN.1 c0) (btK hW hVV) (Nat.lt_of_lt_of_le hBl hV.size) (inR_none hoV) h0 (by rw [reach_eq hN]; simp)
  rw [reach_eq hN] at hwk
  have HWK := Lib.hid hwk
  have hxw := hbw.below hVV
  have hxx := hbx.below hVV
  have d0 := hxx.cell 0
  simp only [List.getElem?_cons_zero] at d0
  generalize x.reach c0 = R at HWK
  obtain ⟨-, -, -, -, -, -, wv0, wv1, wv2, wv3, wv4, wv5, wv6, rfl, wg0, wg1, wg2, wg3, wg4, wg5, wg6⟩ := hx
  obtain ⟨wa0, wc0, rfl⟩ := wg0.shape
  have wl0 := wg0.len
  obtain ⟨wa1, wc1, rfl⟩ := wg1.shape
  have wl1 := wg1.len
  obtain ⟨wa2, wc2, rfl⟩ := wg2.shape
  have wl2 := wg2.len
  obtain ⟨wa3, wc3, rfl⟩ := wg3.shape
  have wl3 := wg3.len
  obtain ⟨wa4, wc4, rfl⟩ := wg4.shape
  have wl4 := wg4.len
  obtain ⟨wa5, wc5, rfl⟩ := wg5.shape
  have wl5 := wg5.len
  obtain ⟨wa6, wc6, rfl⟩ := wg6.shape
  have wl6 := wg6.len
  unfold maxLen at wl0 wl1 wl2 wl3 wl4 wl5 wl6
  clear wg0 wg1 wg2 wg3 wg4 wg5 wg6 wl0 wl1 wl2 wl3 wl4 wl5 wl6
  obtain ⟨WV, hWV⟩ : ∃ v, Value.agg #[.slice wa0 x.globals.length wc0, .slice wa1 x.parent.length wc1, .slice wa2 x.child.length wc2, .slice wa3 x.next.length wc3, .slice wa4 x.flags.length wc4, .slice wa5 x.props.length wc5, .slice wa6 x.timers.length wc6, .int .u64 x.seed, .int .i64 x.score, .int .i64 x.turns, .int .i64 x.over, .int .i64 x.it, .int .i64 x.go] = v := ⟨_, rfl⟩
  have HLW : Hid ((Instr.loadAt 38 (.pointer (some ⟨bw, 0, none⟩))).run Try.prog V = .ok WV V) := by
    show _ = _
    rw [← hWV]
    exact run_loadAt_mid V _ 0 38 _ _ hxw.range Try.underlying38 rfl (by kernel_rfl)
  have HWK1 := Lib.hid HWK.out
  rw [hWV] at HWK1
  clear hWV HWK hwk HWC hxw hxx hbw hbx hoV hVV hY hJ hJx h0 hfl hf0
  refine callsIn_of_wp Try.func35 rfl trivial ?_ rfl
  simp only [Try.ntmps35, List.size_toArray, List.length_cons, List.length_nil, Nat.reduceAdd, Nat.reduceSub, Array.replicate_succ, Array.replicate_zero, List.push_toArray, List.append_toArray, List.nil_append, List.cons_append]
  gi_wp2_with (first | ((with_reducible refine wpListIn_load_T 38 (.tmp 1) ?hw9 ⟨bw, 0, none⟩ ?hx9 WV (HLW.out) ?_); (case hw9 => rfl); (case hx9 => first | rfl | (exact rfl))) | ((first | (refine ⟨trivial, ?_⟩; gi_at_call 36; (with_reducible refine (HWK1.out _).mono ?_)) | (refine ⟨trivial, fun hh => (by simp [Fence.wide] at hh), ?_⟩; gi_at_call 36; (with_reducible refine (HWK1.out _).mono ?_))); rintro e w6 (⟨rfl, hJ6, hk6⟩ | ⟨rfl, q, hq, hJx6⟩)))
  · go_end0
    exact ⟨⟨_, rfl⟩, .inl ⟨_, rfl, by simpa using hJ6⟩⟩
  · go_end0
    exact ⟨⟨_, rfl⟩, .inr ⟨q, hq, by simpa using hJx6⟩⟩
set_option maxRecDepth 100000 in
set_option maxHeartbeats 2000000 in
theorem reached_calls (F : Nat → Prop) (w : World) (x : WorldD) (cs : List Value) (_hF : Inn F w) (hx : Holds.world.R F w x cs) (c0 : Int) : Calls Try.prog 22 #[.agg cs.toArray, .int .i64 c0] w (fun e w' => ∃ bw bx, e = .returned (.func (.func 35) #[] #[.pointer (some ⟨bw, 0, none⟩), .pointer (some ⟨bx, 0, none⟩)]) ∧ BoxT w' bw cs 38 ∧ BoxT w' bx [.int .i64 c0] 3 ∧ Below w.heap.size w w') := by
  obtain ⟨-, -, -, -, -, -, wv0, wv1, wv2, wv3, wv4, wv5, wv6, rfl, wg0, wg1, wg2, wg3, wg4, wg5, wg6⟩ := hx
  obtain ⟨wa0, wc0, rfl⟩ := wg0.shape
  have wl0 := wg0.len
  obtain ⟨wa1, wc1, rfl⟩ := wg1.shape
  have wl1 := wg1.len
  obtain ⟨wa2, wc2, rfl⟩ := wg2.shape
  have wl2 := wg2.len
  obtain ⟨wa3, wc3, rfl⟩ := wg3.shape
  have wl3 := wg3.len
  obtain ⟨wa4, wc4, rfl⟩ := wg4.shape
  have wl4 := wg4.len
  obtain ⟨wa5, wc5, rfl⟩ := wg5.shape
  have wl5 := wg5.len
  obtain ⟨wa6, wc6, rfl⟩ := wg6.shape
  have wl6 := wg6.len
  unfold maxLen at wl0 wl1 wl2 wl3 wl4 wl5 wl6
  clear wg0 wg1 wg2 wg3 wg4 wg5 wg6
  obtain ⟨W1, hW1⟩ : ∃ z, w.alloc (.cells #[.slice wa0 x.globals.length wc0, .slice wa1 x.parent.length wc1, .slice wa2 x.child.length wc2, .slice wa3 x.next.length wc3, .slice wa4 x.flags.length wc4, .slice wa5 x.props.length wc5, .slice wa6 x.timers.length wc6, .int .u64 x.seed, .int .i64 x.score, .int .i64 x.turns, .int .i64 x.over, .int .i64 x.it, .int .i64 x.go] 38) = z := ⟨_, rfl⟩
  have hb1 : Below w.heap.size w W1 := by rw [← hW1]; exact (Below.refl _ _).alloc (Nat.le_refl _) _
  have hx1 : BoxT W1 w.heap.size [.slice wa0 x.globals.length wc0, .slice wa1 x.parent.length wc1, .slice wa2 x.child.length wc2, .slice wa3 x.next.length wc3, .slice wa4 x.flags.length wc4, .slice wa5 x.props.length wc5, .slice wa6 x.timers.length wc6, .int .u64 x.seed, .int .i64 x.score, .int .i64 x.turns, .int .i64 x.over, .int .i64 x.it, .int .i64 x.go] 38 := by rw [← hW1]; exact BoxT.new _ _ _
  have HW1 := Lib.hid hW1; have HBv := Lib.hid hb1; have HXv := Lib.hid hx1
  have HSZ := Lib.hid (show W1.heap.size = w.heap.size + 1 by rw [← hW1]; simp)
  clear hW1 hb1 hx1
  go_enter Try.func22, Try.ntmps22
  go_upto_region 1 with fail
  rw [HW1.out]
  obtain ⟨WV, hWV⟩ : ∃ v, Value.agg #[.slice wa0 x.globals.length wc0, .slice wa1 x.parent.length wc1, .slice wa2 x.child.length wc2, .slice wa3 x.next.length wc3, .slice wa4 x.flags.length wc4, .slice wa5 x.props.length wc5, .slice wa6 x.timers.length wc6, .int .u64 x.seed, .int .i64 x.score, .int .i64 x.turns, .int .i64 x.over, .int .i64 x.it, .int .i64 x.go] = v := ⟨_, rfl⟩
  have HLW : Hid (∀ W, BoxT W w.heap.size [.slice wa0 x.globals.length wc0, .slice wa1 x.parent.length wc1, .slice wa2 x.child.length wc2, .slice wa3 x.next.length wc3, .slice wa4 x.flags.length wc4, .slice wa5 x.props.length wc5, .slice wa6 x.timers.length wc6, .int .u64 x.seed, .int .i64 x.score, .int .i64 x.turns, .int .i64 x.over, .int .i64 x.it, .int .i64 x.go] 38 → (Instr.loadAt 38 (.pointer (some ⟨w.heap.size, 0, none⟩))).run Try.prog W = .ok WV W) := fun W h => by
    rw [← hWV]
    exact run_loadAt_mid W _ 0 38 _ _ h.range Try.underlying38 rfl (by kernel_rfl)
  rw [hWV]
  clear HW1
  clear hWV HLW
  have hbA : Below W1.heap.size W1 (W1.alloc (.cells #[.int .i64 c0] 3)) := (Below.refl _ _).alloc (Nat.le_refl _) _
  have HBA := Lib.hid hbA
  clear hbA
  go_wp2
  go_ret
  exact ⟨_, _, rfl, HXv.out.below HBA.out, by rw [← HSZ.out]; exact BoxT.new _ _ _, btK HBv.out HBA.out⟩
theorem reach_fit {x : WorldD} (h128 : x.parent.length ≤ 128) (c : Int) : ∀ n ∈ x.reach c, I64 n := by
  intro n h
  have h9 := reach_is x.n c n h
  have hn9 : x.n = x.parent.length := rfl
  unfold IsTh at h9
  unfold I64
  omega
set_option maxRecDepth 100000 in
set_option maxHeartbeats 2000000 in
theorem collected (F : Nat → Prop) (w : World) (x : WorldD) (cs : List Value) (hF : Inn F w) (hx : Holds.world.R F w x cs) (hN : NestK x) (h128 : x.parent.length ≤ 128) (hfl : x.flags.length = x.parent.length) (hf0 : ∀ f ∈ x.flags, 0 ≤ f) (c0 : Int) (W : World) (h : Below w.heap.size w W) (bw bx : Nat) (h1 : BoxT W bw cs 38) (h2 : BoxT W bx [.int .i64 c0] 3) : Calls Try.prog 21 #[.func (.func 35) #[] #[.pointer (some ⟨bw, 0, none⟩), .pointer (some ⟨bx, 0, none⟩)]] W (GivesI (x.reach c0) W) :=
  collect_calls w.heap.size [bw, bx] 35 _ _ W h.size (fun b hb => by simp at hb; rcases hb with rfl | rfl; exact h1.lt; exact h2.lt) (enters_of Try.func35 (by kernel_rfl) rfl) (reached_seq F w x cs hF hx hN h128 hfl hf0 c0 W h bw bx h1 h2) (Nat.le_trans (reach_len hN h128 c0) (by decide)) (reach_fit h128 c0)
set_option maxRecDepth 100000 in
set_option maxHeartbeats 2000000 in
theorem carried_calls (F : Nat → Prop) (w : World) (t : TabD) (x : WorldD) (cs ds : List Value) (hF : Inn F w) (ht : Holds.tab.R F w t cs) (hx : Holds.world.R F w x ds) (hN : NestK x) (h128 : x.parent.length ≤ 128) (hfl : x.flags.length = x.parent.length) (hf0 : ∀ f ∈ x.flags, 0 ≤ f) : Calls Try.prog 20 #[.agg cs.toArray, .agg ds.toArray] w (GivesI (x.reach 1) w) := by
  have HRE0 : Hid (∀ W, Below w.heap.size w W → Calls Try.prog 22 #[.agg ds.toArray, .int .i64 1] W (fun e w' => ∃ bw bx, e = .returned (.func (.func 35) #[] #[.pointer (some ⟨bw, 0, none⟩), .pointer (some ⟨bx, 0, none⟩)]) ∧ BoxT w' bw ds 38 ∧ BoxT w' bx [.int .i64 1] 3 ∧ Below W.heap.size W w')) := fun W h => reached_calls F W x ds (fun b hb => Nat.lt_of_lt_of_le (hF b hb) h.size) (Holds.world.keep (fun b hb => h.block b (hF b hb)) (fun _ h => h) hx) 1
  have HCO := Lib.hid (fun (W : World) (h : Below w.heap.size w W) (bw bx : Nat) (h1 : BoxT W bw ds 38) (h2 : BoxT W bx [.int .i64 1] 3) => collected F w x ds hF hx hN h128 hfl hf0 1 W h bw bx h1 h2)
  generalize x.reach 1 = l at HCO ⊢
  clear hfl hf0
  obtain ⟨i0, i1, i2, i3, i5, v4, v6, v7, v8, v9, v10, v11, v12, v13, v14, rfl, g4, g6, g7, g8, g9, g10, g11, g12, g13, g14⟩ := ht
  obtain ⟨ad4, ca4, rfl⟩ := g4.shape
  obtain ⟨ad6, ca6, rfl⟩ := g6.shape
  obtain ⟨ad7, ca7, rfl⟩ := g7.shape
  obtain ⟨ad8, ca8, rfl⟩ := g8.shape
  obtain ⟨ad9, ca9, rfl⟩ := g9.shape
  obtain ⟨ad10, ca10, rfl⟩ := g10.shape
  obtain ⟨ad11, ca11, rfl⟩ := g11.shape
  obtain ⟨ad12, ca12, rfl⟩ := g12.shape
  obtain ⟨ad13, ca13, rfl⟩ := g13.shape
  obtain ⟨ad14, ca14, rfl⟩ := g14.shape
  have ln4 := g4.len
  have ln6 := g6.len
  have ln7 := g7.len
  have ln8 := g8.len
  have ln9 := g9.len
  have ln10 := g10.len
  have ln11 := g11.len
  have ln12 := g12.len
  have ln13 := g13.len
  have ln14 := g14.len
  unfold maxLen at ln4 ln6 ln7 ln8 ln9 ln10 ln11 ln12 ln13 ln14
  obtain ⟨-, -, -, -, -, -, wv0, wv1, wv2, wv3, wv4, wv5, wv6, rfl, wg0, wg1, wg2, wg3, wg4, wg5, wg6⟩ := hx
  obtain ⟨wa0, wc0, rfl⟩ := wg0.shape
  have wl0 := wg0.len
  obtain ⟨wa1, wc1, rfl⟩ := wg1.shape
  have wl1 := wg1.len
  obtain ⟨wa2, wc2, rfl⟩ := wg2.shape
  have wl2 := wg2.len
  obtain ⟨wa3, wc3, rfl⟩ := wg3.shape
  have wl3 := wg3.len
  obtain ⟨wa4, wc4, rfl⟩ := wg4.shape
  have wl4 := wg4.len
  obtain ⟨wa5, wc5, rfl⟩ := wg5.shape
  have wl5 := wg5.len
  obtain ⟨wa6, wc6, rfl⟩ := wg6.shape
  have wl6 := wg6.len
  unfold maxLen at wl0 wl1 wl2 wl3 wl4 wl5 wl6
  clear g4 g6 g7 g8 g9 g10 g11 g12 g13 g14 wg0 wg1 wg2 wg3 wg4 wg5 wg6
  clear i0 i1 i2 i3 i5
  obtain ⟨W1, hW1⟩ : ∃ z, w.alloc (.cells #[.int .i64 t.title, .int .i64 t.byl, .int .i64 t.release, .int .i64 t.most, .slice ad4 t.texts.length ca4, .int .i64 t.flags, .slice ad6 t.props.length ca6, .slice ad7 t.globals.length ca7, .slice ad8 t.things.length ca8, .slice ad9 t.acts.length ca9, .slice ad10 t.deeds.length ca10, .slice ad11 t.funcs.length ca11, .slice ad12 t.daemons.length ca12, .slice ad13 t.params.length ca13, .slice ad14 t.locals.length ca14] 35) = z := ⟨_, rfl⟩
  obtain ⟨W2, hW2⟩ : ∃ z, W1.alloc (.cells #[.slice wa0 x.globals.length wc0, .slice wa1 x.parent.length wc1, .slice wa2 x.child.length wc2, .slice wa3 x.next.length wc3, .slice wa4 x.flags.length wc4, .slice wa5 x.props.length wc5, .slice wa6 x.timers.length wc6, .int .u64 x.seed, .int .i64 x.score, .int .i64 x.turns, .int .i64 x.over, .int .i64 x.it, .int .i64 x.go] 38) = z := ⟨_, rfl⟩
  have hz1 : W1.heap.size = w.heap.size + 1 := by rw [← hW1]; simp
  have hb1 : Below w.heap.size w W1 := by rw [← hW1]; exact (Below.refl _ _).alloc (Nat.le_refl _) _
  have hb2 : Below W1.heap.size W1 W2 := by rw [← hW2]; exact (Below.refl _ _).alloc (Nat.le_refl _) _
  have hx1 : BoxT W1 w.heap.size [.int .i64 t.title, .int .i64 t.byl, .int .i64 t.release, .int .i64 t.most, .slice ad4 t.texts.length ca4, .int .i64 t.flags, .slice ad6 t.props.length ca6, .slice ad7 t.globals.length ca7, .slice ad8 t.things.length ca8, .slice ad9 t.acts.length ca9, .slice ad10 t.deeds.length ca10, .slice ad11 t.funcs.length ca11, .slice ad12 t.daemons.length ca12, .slice ad13 t.params.length ca13, .slice ad14 t.locals.length ca14] 35 := by rw [← hW1]; exact BoxT.new _ _ _
  have hx2 : BoxT W2 (w.heap.size + 1) [.slice wa0 x.globals.length wc0, .slice wa1 x.parent.length wc1, .slice wa2 x.child.length wc2, .slice wa3 x.next.length wc3, .slice wa4 x.flags.length wc4, .slice wa5 x.props.length wc5, .slice wa6 x.timers.length wc6, .int .u64 x.seed, .int .i64 x.score, .int .i64 x.turns, .int .i64 x.over, .int .i64 x.it, .int .i64 x.go] 38 := by rw [← hz1, ← hW2]; exact BoxT.new _ _ _
  have HXt := Lib.hid (hx1.below hb2); have HXv := Lib.hid hx2; have HBv := Lib.hid (btK hb1 hb2)
  have HW1 := Lib.hid hW1; have HW2 := Lib.hid hW2
  have hs2 : W2.heap.size = W1.heap.size + 1 := by rw [← hW2]; simp
  rw [hz1] at hs2
  have HS2 := Lib.hid hs2
  clear hs2
  clear hW1 hW2 hz1 hb1 hb2 hx1 hx2
  go_enter Try.func20, Try.ntmps20
  go_upto_region 1 with fail
  rw [HW1.out, HW2.out]
  obtain ⟨TV, hTV⟩ : ∃ v, Value.agg #[.int .i64 t.title, .int .i64 t.byl, .int .i64 t.release, .int .i64 t.most, .slice ad4 t.texts.length ca4, .int .i64 t.flags, .slice ad6 t.props.length ca6, .slice ad7 t.globals.length ca7, .slice ad8 t.things.length ca8, .slice ad9 t.acts.length ca9, .slice ad10 t.deeds.length ca10, .slice ad11 t.funcs.length ca11, .slice ad12 t.daemons.length ca12, .slice ad13 t.params.length ca13, .slice ad14 t.locals.length ca14] = v := ⟨_, rfl⟩
  obtain ⟨WV, hWV⟩ : ∃ v, Value.agg #[.slice wa0 x.globals.length wc0, .slice wa1 x.parent.length wc1, .slice wa2 x.child.length wc2, .slice wa3 x.next.length wc3, .slice wa4 x.flags.length wc4, .slice wa5 x.props.length wc5, .slice wa6 x.timers.length wc6, .int .u64 x.seed, .int .i64 x.score, .int .i64 x.turns, .int .i64 x.over, .int .i64 x.it, .int .i64 x.go] = v := ⟨_, rfl⟩
  have HLT : Hid (∀ W, BoxT W w.heap.size [.int .i64 t.title, .int .i64 t.byl, .int .i64 t.release, .int .i64 t.most, .slice ad4 t.texts.length ca4, .int .i64 t.flags, .slice ad6 t.props.length ca6, .slice ad7 t.globals.length ca7, .slice ad8 t.things.length ca8, .slice ad9 t.acts.length ca9, .slice ad10 t.deeds.length ca10, .slice ad11 t.funcs.length ca11, .slice ad12 t.daemons.length ca12, .slice ad13 t.params.length ca13, .slice ad14 t.locals.length ca14] 35 → (Instr.loadAt 35 (.pointer (some ⟨w.heap.size, 0, none⟩))).run Try.prog W = .ok TV W) := fun W h => by
    rw [← hTV]
    exact run_loadAt_mid W _ 0 35 _ _ h.range Try.underlying35 rfl (by kernel_rfl)
  have HLW : Hid (∀ W, BoxT W (w.heap.size + 1) [.slice wa0 x.globals.length wc0, .slice wa1 x.parent.length wc1, .slice wa2 x.child.length wc2, .slice wa3 x.next.length wc3, .slice wa4 x.flags.length wc4, .slice wa5 x.props.length wc5, .slice wa6 x.timers.length wc6, .int .u64 x.seed, .int .i64 x.score, .int .i64 x.turns, .int .i64 x.over, .int .i64 x.it, .int .i64 x.go] 38 → (Instr.loadAt 38 (.pointer (some ⟨w.heap.size + 1, 0, none⟩))).run Try.prog W = .ok WV W) := fun W h => by
    rw [← hWV]
    exact run_loadAt_mid W _ 0 38 _ _ h.range Try.underlying38 rfl (by kernel_rfl)
  rw [hTV, hWV]
  clear HW1 HW2
  clear ln4 ln6 ln7 ln8 ln9 ln10 ln11 ln12 ln13 ln14 wl0 wl1 wl2 wl3 wl4 wl5 wl6
  have HRE := Lib.hid HRE0.out
  rw [hWV] at HRE
  clear hTV hWV HRE0
  go_wp2_with (first | ((with_reducible refine wpList_load_T 38 (.tmp 3) ?hw9 ⟨w.heap.size + 1, 0, none⟩ ?hx9 WV (HLW.out _ HXv.out) ?_); (case hw9 => rfl); (case hx9 => first | rfl | (exact rfl))) | (go_at_call 22; (with_reducible refine (HRE.out _ HBv.out).mono ?_); rintro e w1 ⟨bw, bx, rfl, hx1, hx2, hb1⟩; have HC1 := Lib.hid (HCO.out w1 (btK HBv.out hb1) bw bx hx1 hx2)) | (go_at_call 21; (with_reducible refine HC1.out.mono ?_); rintro e w2 ⟨v, rfl, ho, hb2⟩))
  go_ret
  have hb := btK HBv.out hb1
  exact ⟨_, rfl, ho.lower hb.size, btK hb hb2⟩
end Go.Proofs.Ytapjglpiofpbmaa
/- A loop over an iterator that keeps a variable of its own in a box and reads memory beside; nest.ups, Top and view.Here. -/
namespace Go.Proofs.Ytapjglpiofpbmaa
open Go.RowKit Go.Sort
attribute [local go_sem] Oper.semAt_some

/-- What the iterator promises: it hands the loop all of xs, in order, whatever the loop keeps that does not mind the iterator's own steps; the loop leaves the iterator's box alone. -/
def SeqOwnK {α : Type} (n : Nat) (P : Program) (g : Nat) (lb : Array Value) (encs : α → Array Value) (q : Nat) (Kp : World → World → Prop) (xs : List α) (w : World) : Prop :=
  ∀ (l : Nat) (J : List α → World → Prop) (W : World), Kp w W → W.heap[q]? = w.heap[q]? → (∀ pre A B, J pre A → Turns q A B → J pre B) →
    (∀ pre x W1, J pre W1 → pre ++ [x] <+: xs → YieldAt Fence.wide (n - 1) P l (encs x) W1 fun e W' => e = .returned (.bool true) ∧ J (pre ++ [x]) W' ∧ W'.heap[q]? = W1.heap[q]? ∧ Kp W1 W') →
    J [] W → CallsIn Fence.wide n P g (#[.func (.yield l) #[] #[]] ++ lb) W fun e W' => (∃ v, e = .returned v) ∧ J xs W'

/-- The body goes on: what is no cells, and the iterator's box, stay. -/
def goesOnK {α : Type} (q : Nat) (Kp : World → World → Prop) (I : List α → World → Prop) (xs : List α) (W : World) : Exit → Act → World → Prop
  | .normal, _, W' => KeepsOthers W W' ∧ W'.heap[q]? = W.heap[q]? ∧ Kp W W' ∧ I xs W'
  | _, _, _ => False

theorem wpIn_range_ownK {α : Type} {n : Nat} {P : Program} {g : Operand} {ps : Array Tmp} {assign body : Code} {Q : Exit → Act → World → Prop} {a : Act} {w : World} {gf : Nat} {lb : Array Value} {encs : α → Array Value} {q : Nat} {Kp : World → World → Prop} {xs : List α} {w0 : World}
    (hg : a.eval g = .func (.func gf) #[] lb) (eg : ∀ args w, (callFunc gf args).run P w = .ok (.enter gf args) w) (hseq : SeqOwnK (n - 1) P gf lb encs q Kp xs w0) (hq : q < w.heap.size) (hw0 : w.heap[q]? = w0.heap[q]?) (hK0 : Kp w0 w) (hKt : ∀ {A B C : World}, Kp A B → Kp B C → Kp A C) (hKa : ∀ W o, w.heap.size ≤ W.heap.size → Kp W (W.alloc o)) (hKb : ∀ (W : World) (l : Nat) (o o' : Obj), w.heap.size ≤ l → W.heap[l]? = some o → o.isCells = false → o.isWalk = false → Kp W (W.putObj l o')) (hps : ∀ x, (encs x).size = ps.size)
    (I : List α → World → Prop) (hI : OwnFrom w.heap.size I) (hIq : ∀ pre A B, I pre A → Turns q A B → I pre B) (h0 : I [] w) (a₁ : α → Act)
    (hassign : ∀ (l : Nat) (x : α) (W : World) (K : Act → World → Prop), K (a₁ x) W →
      assign.wpIn (Fence.wide.inRound l) (n - 1 - 1) P (Exit.then K (fun _ _ _ => False)) { tmps := (ps.zip (encs x)).foldl (fun t (p, v) => t.setIfInBounds p v) a.tmps, defers := [] } W)
    (hbody : ∀ (l : Nat) (pre : List α) (x : α) (W : World), I pre W → pre ++ [x] <+: xs → body.wpIn (Fence.wide.inRound l) (n - 1 - 1) P (goesOnK q Kp I (pre ++ [x]) W) (a₁ x) W)
    (hdone : ∀ (D : Nat) (W : World), w.heap.size ≤ D → I xs W → W.heap[D]? = some (.deferred (some [])) → Q .normal { a with defers := { target := .collected D, args := #[] } :: a.defers } W) :
    (Code.rangeFunc g ps assign body).wpIn Fence.wide n P Q a w := by
  refine wpIn_rangeFunc ?_
  intro fn hfn
  obtain ⟨W1, hW1⟩ : ∃ W1, (w.alloc (.deferred (some []))).alloc (.loop { state := .ready, pending := none, fn, tmps := a.tmps, params := ps, assign, body, defers := w.heap.size }) = W1 := ⟨_, rfl⟩
  have hL1 : W1.heap[w.heap.size + 1]? = some (.loop { state := .ready, pending := none, fn, tmps := a.tmps, params := ps, assign, body, defers := w.heap.size }) := by
    rw [← hW1]
    have := World.alloc_heap_new (w.alloc (.deferred (some []))) (.loop { state := .ready, pending := none, fn, tmps := a.tmps, params := ps, assign, body, defers := w.heap.size })
    rwa [World.size_alloc] at this
  have hK1 : W1.heap[w.heap.size]? = some (.deferred (some [])) := by
    rw [← hW1]; exact (Below.heap_alloc _ _ _ (by simp)).trans (World.alloc_heap_new w _)
  have hI1 : I [] W1 := by rw [← hW1]; exact hI.alloc _ (hI.alloc _ h0)
  have hq1 : W1.heap[q]? = w0.heap[q]? := by
    rw [← hW1]; exact ((Below.heap_alloc _ _ q (by simp; omega)).trans (Below.heap_alloc _ _ q hq)).trans hw0
  have hKw1 : Kp w0 W1 := by rw [← hW1]; exact hKt hK0 (hKt (hKa w _ (Nat.le_refl _)) (hKa _ _ (by simp)))
  refine ⟨w.heap.size + 1, [{ target := .collected w.heap.size, args := #[] }], W1, { target := .fn (.func gf) lb, args := #[.func (.yield (w.heap.size + 1)) #[] #[]] }, W1, gf,
    #[.func (.yield (w.heap.size + 1)) #[] #[]] ++ lb, W1, ?_, ?_, fun _ _ => trivial, ?_, fun h => by simp [Fence.wide] at h, ?_⟩
  · rw [← hW1]; exact run_enterLoop_outer _ _ _ _ _
  · simp only [resolve, hg]
    simp [go_sem]
  · simp [invoke, go_sem, eg]
  · refine (hseq (w.heap.size + 1) (fun pre W => I pre W ∧ W.heap[w.heap.size + 1]? = some (.loop { state := .ready, pending := none, fn, tmps := a.tmps, params := ps, assign, body, defers := w.heap.size }) ∧ W.heap[w.heap.size]? = some (.deferred (some [])))
      W1 hKw1 hq1 (fun pre A B hJ ht => ⟨hIq pre A B hJ.1 ht, ht.blk hJ.2.1 (by omega), ht.blk hJ.2.2 (by omega)⟩) ?_ ⟨hI1, hL1, hK1⟩).mono ?_
    · rintro pre x W ⟨hi, hl, hk⟩ hpx
      have hlt : w.heap.size + 1 < W.heap.size := (Array.getElem?_eq_some_iff.1 hl).1
      refine ⟨fn, _, assign, body, run_yield (P := P) (args := encs x) hl (hps x), roundIn_of_wpIn hfn (hassign _ x W _ ⟨_, run_beginRound hl rfl, ?_⟩)⟩
      have hl2 : (W.putObj (w.heap.size + 1) (.loop { state := .busy, pending := none, fn, tmps := a.tmps, params := ps, assign, body, defers := w.heap.size })).heap[w.heap.size + 1]? = some (.loop { state := .busy, pending := none, fn, tmps := a.tmps, params := ps, assign, body, defers := w.heap.size }) := World.putObj_heap_same hlt
      have hk2 : (W.putObj (w.heap.size + 1) (.loop { state := .busy, pending := none, fn, tmps := a.tmps, params := ps, assign, body, defers := w.heap.size })).heap[w.heap.size]? = some (.deferred (some [])) := (World.putObj_heap_other (by omega)).trans hk
      refine wpIn_mono (hbody _ pre x _ (hI.putObj _ hi (by omega) hl rfl) hpx) ?_
      rintro e a3 W3 hp
      cases e with
      | normal =>
        obtain ⟨hk3, hq3, hkp3, hi3⟩ := hp
        have hl3 := hk3.same _ _ hl2 rfl
        have hr := run_endRound (P := P) none hl3
        refine ⟨_, _, hr, rfl, ⟨hI.putObj _ hi3 (by omega) hl3 rfl, World.putObj_heap_same (Array.getElem?_eq_some_iff.1 hl3).1, (World.putObj_heap_other (by omega)).trans (hk3.same _ _ hk2 rfl)⟩, ?_, ?_⟩
        · rw [World.putObj_heap_other (by omega), hq3, World.putObj_heap_other (by omega)]
        · exact hKt (hKt (hKb _ _ _ _ (by omega) hl rfl rfl) hkp3) (hKb _ _ _ _ (by omega) hl3 rfl rfl)
      | ret => exact hp.elim
      | exit id => exact hp.elim
      | goto t => exact hp.elim
      | panic ch => exact hp.elim
      | outgrown => exact hp.elim
    · rintro e W2 ⟨⟨v, rfl⟩, hi, hl, hk⟩
      exact ⟨none, _, run_endLoop (P := P) hl (by simp), hdone _ _ (Nat.le_refl _) (hI.putObj _ hi (by omega) hl rfl) ((World.putObj_heap_other (by omega)).trans hk)⟩

end Go.Proofs.Ytapjglpiofpbmaa
