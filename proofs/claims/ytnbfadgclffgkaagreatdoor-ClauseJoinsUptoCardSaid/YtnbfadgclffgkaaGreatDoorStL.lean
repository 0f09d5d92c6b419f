/- The walk of clause.line. Printed by gen-st2.py. -/
import Derived.Test.YtnbfadgclffgkaaGreatDoorPartd098ca51
import Derived.Test.YtnbfadgclffgkaaGreatDoorApp
namespace Go.Proofs.YtnbfadgclffgkaaGreatDoor
open Go.RowKit Go.Sort
theorem st_kinds (k : Int) (h1 : 1 ≤ k) (h2 : k ≤ 22) : k = 1 ∨ k = 2 ∨ k = 3 ∨ k = 4 ∨ k = 5 ∨ k = 6 ∨ k = 7 ∨ k = 8 ∨ k = 9 ∨ k = 10 ∨ k = 11 ∨ k = 12 ∨ k = 13 ∨ k = 14 ∨ k = 15 ∨ k = 16 ∨ k = 17 ∨ k = 18 ∨ k = 19 ∨ k = 20 ∨ k = 21 ∨ k = 22 := by omega
theorem st_kind {k n : Int} {s : ByteArray} {la lb le : Nat} (h : StGood k n s la lb le) : 1 ≤ k ∧ k ≤ 22 := by
  obtain ⟨h1, -, -, -, -, h6⟩ := h
  rcases skind_cases k with rfl | rfl | rfl | rfl | rfl | rfl | rfl | rfl | rfl | rfl | rfl | rfl | rfl | rfl | rfl | rfl | rfl | rfl | rfl | rfl | rfl | rfl | rfl | h | h
  case inr.inr.inr.inr.inr.inr.inr.inr.inr.inr.inr.inr.inr.inr.inr.inr.inr.inr.inr.inr.inr.inr.inl =>
    simp [NameOk, partsOf] at h6
  case inr.inr.inr.inr.inr.inr.inr.inr.inr.inr.inr.inr.inr.inr.inr.inr.inr.inr.inr.inr.inr.inr.inr.inl =>
    unfold partsOf at h1
    repeat (rw [if_neg (by omega)] at h1)
    cases h1
  case inr.inr.inr.inr.inr.inr.inr.inr.inr.inr.inr.inr.inr.inr.inr.inr.inr.inr.inr.inr.inr.inr.inr.inr =>
    unfold partsOf at h1
    repeat (rw [if_neg (by omega)] at h1)
    cases h1
  all_goals omega
theorem own_shape {w : World} {lo te sz n : Nat} {v : Value} {ys : List Value} (h : w.ownsRow lo te sz v n ys) : ∃ a c, v = .slice a n c := by
  rcases h.2 with ⟨rfl, h0⟩ | ⟨g', cap, cur, rfl, h3, h4, h5⟩
  · exact ⟨_, _, by rw [h0]⟩
  · exact ⟨_, _, rfl⟩
theorem Tryz.infoStr : (Tryz.prog.info? 9).map (fun i => (i.zero, i.size, i.bytes)) = some (some (.string ⟨#[]⟩), 1, 16) := by kernel_rfl
theorem argB_get {args : List Ex} {i : Nat} (hi : i < args.length) : argB (Ex.prs args) i = args[i].pr := by
  unfold argB
  rw [Ex.prs_eq, List.getElem?_map, List.getElem?_map, List.getElem?_eq_getElem hi]
  rfl
set_option maxRecDepth 100000 in
set_option maxHeartbeats 16000000 in
theorem lineT_calls (s : St) : LnTC s := by
  induction s using St.ind with
  | h k n s args body els ihb ihe =>
  intro F w cs d hF ht hs hd hsz hr
  obtain ⟨k', n', s', a, m, cap, a2, m2, cap2, a3, m3, cap3, rfl⟩ := hr.shape
  obtain ⟨rfl, rfl, rfl, -, -, hs64, hx, hxb, hxe⟩ := hr.parts
  obtain ⟨rfl, -, -, -⟩ := hx.opn
  obtain ⟨rfl, -, -, -⟩ := hxb.opn
  obtain ⟨rfl, -, -, -⟩ := hxe.opn
  simp only [St.kind, St.num, St.name, St.args, St.body, St.els] at *
  obtain ⟨hg, h19, hargs, hbody, hels⟩ := (stOk_eq (.mk k n s args body els)).1 hs
  simp only [St.kind, St.num, St.name, St.args, St.body, St.els] at hg h19 hargs hbody hels
  have hk := st_kind hg
  obtain ⟨-, hleast, hmost, -, -, hname⟩ := hg
  have eln : (St.mk k n s args body els).ln d = lnE k s (Ex.prs args) (blockB d (St.lns body (dn d))) (elsB d (oneIf els) (St.lns els d) (St.lns els (dn d))) := rfl
  rw [eln] at hsz ⊢
  obtain ⟨W1, hW1⟩ : ∃ W1, w.alloc (.cells #[.int .i64 k, .int .i64 n, .string s, .slice a args.length cap, .slice a2 body.length cap2, .slice a3 els.length cap3] 27) = W1 := ⟨_, rfl⟩
  have hb1 : Below w.heap.size w W1 := by rw [← hW1]; exact (Below.refl _ _).alloc (Nat.le_refl _) _
  have hbx1 : BoxAt W1 w.heap.size [.int .i64 k, .int .i64 n, .string s, .slice a args.length cap, .slice a2 body.length cap2, .slice a3 els.length cap3] := by rw [← hW1]; exact BoxAt.new _ _ _
  have harg : ∀ (i : Nat) (hi : i < args.length), args[i].pr.size ≤ 1000000000000 → ∀ W, Below W1.heap.size W1 W → Calls Tryz.prog 42 #[.int .i64 i, .pointer (some ⟨w.heap.size, 0, none⟩)] W (Gives W (.string args[i].pr)) := fun i hi hz W hW =>
    lineArg_calls args i hi F w W w.heap.size a cap hF ht hx (hargs _ (List.getElem_mem hi)).2 hz (bt hb1 hW) ((hbx1.below hW hbx1.1).2 3 (by simp))
  have hmf : ∀ (fn : Fn) (first cap : Array Value) (w : World), (Instr.makeFunc fn first cap).run Tryz.prog w = .ok (.func fn first cap) w := fun _ _ _ _ => rfl
  have HW1 := Lib.hid hW1
  have HB1 := Lib.hid hb1
  clear hW1 eln hs
  rcases st_kinds k hk.1 hk.2 with rfl | rfl | rfl | rfl | rfl | rfl | rfl | rfl | rfl | rfl | rfl | rfl | rfl | rfl | rfl | rfl | rfl | rfl | rfl | rfl | rfl | rfl
  · have hL1 : 1 ≤ args.length := by
      simp [partsOf] at hleast; omega
    have hL8 : args.length ≤ 8 := by
      simp [partsOf] at hmost; omega
    have e1 : lnE 1 s (Ex.prs args) (blockB d (St.lns body (dn d))) (elsB d (oneIf els) (St.lns els d) (St.lns els (dn d))) = (⟨#[115, 97, 121, 32]⟩ : ByteArray) ++ sepB ⟨#[44, 32]⟩ ((Ex.prs args).map Prod.snd) ++ ⟨#[59]⟩ := rfl
    rw [e1] at hsz ⊢
    obtain ⟨xs, hxs⟩ : ∃ xs, (Ex.prs args).map Prod.snd = xs := ⟨_, rfl⟩
    have hxl : xs.length = args.length := by rw [← hxs, Ex.prs_eq]; simp
    have hxi : ∀ i (hi : i < args.length), args[i].pr = xs[i]'(by rw [hxl]; exact hi) := fun i hi => by
      have h1 : xs[i]? = some args[i].pr := by rw [← hxs, Ex.prs_eq, List.getElem?_map, List.getElem?_map, List.getElem?_eq_getElem hi]; rfl
      rw [List.getElem?_eq_getElem (by rw [hxl]; exact hi)] at h1
      exact (Option.some.inj h1).symm
    rw [hxs] at hsz ⊢
    have hz := hsz
    simp only [ByteArray.size_append] at hz
    have hzx : ∀ i (hi : i < args.length), (xs[i]'(by rw [hxl]; exact hi)).size ≤ 1000000000000 := fun i hi => Nat.le_trans (sepB_mem ⟨#[44, 32]⟩ xs i (by rw [hxl]; exact hi)) (by omega)
    have HSY : Hid (∀ (i : Nat) (hi : i < args.length) (cs : List Value), RdEx F w args[i] cs → ∀ W, Below w.heap.size w W → Calls Tryz.prog 44 #[.agg cs.toArray] W (Gives W (.string (xs[i]'(by rw [hxl]; exact hi))))) := Lib.hid fun i hi cs hcs W hW => by
      have h := sayT_calls args[i] F W cs (hF.below hW) (ht.below hW (Nat.le_refl _)) (hargs _ (List.getElem_mem hi)).2 (by rw [hxi i hi]; exact hzx i hi) (hcs.below hF hW (Nat.le_refl _))
      rw [hxi i hi] at h
      exact h
    have HZX := Lib.hid hzx
    obtain ⟨r, hr2⟩ : ∃ r, (⟨#[115, 97, 121, 32]⟩ : ByteArray) ++ sepB ⟨#[44, 32]⟩ xs ++ ⟨#[59]⟩ = r := ⟨_, rfl⟩
    rw [hr2]
    have HR := Lib.hid hr2
    have HXL := Lib.hid hxl
    have hjoin := sepB_join ⟨#[44, 32]⟩ xs
    have hjl : (Lib.join (xs.map (·.data.toList)) (⟨#[44, 32]⟩ : ByteArray).data.toList).length ≤ 140737488355328 := by
      rw [← hjoin]
      have e : (sepB ⟨#[44, 32]⟩ xs).data.toList.length = (sepB ⟨#[44, 32]⟩ xs).size := by simp
      omega
    have hjb : (⟨(Lib.join (xs.map (·.data.toList)) (⟨#[44, 32]⟩ : ByteArray).data.toList).toArray⟩ : ByteArray) = sepB ⟨#[44, 32]⟩ xs := by
      rw [← hjoin]
    have HJL := Lib.hid hjl; have HJB := Lib.hid hjb
    have hzs : (sepB ⟨#[44, 32]⟩ xs).size ≤ 1000000000000 := by omega
    obtain ⟨-, -, -, hao⟩ := hx.opn
    obtain ⟨b, off, rfl, hFb, hel⟩ := hao (by omega)
    have HEL := Lib.hid hel
    have hFbw := hF b hFb
    obtain ⟨i0, hi, hz0, hz1, hz2⟩ := info_parts Tryz.infoStr
    clear hr hx hxb hxe hargs hbody hels h19 hk hname harg hsz hz e1 hr2 hF ht hleast hmost hb1 ihb ihe hxi hxs hzx hjoin hjl hjb hao hFb hel
    go_enter Tryz.func22, Tryz.ntmps22
    go_upto_region 2 with fail
    rw [HW1.out]
    have y0 := hbx1.2 0 (by simp); have y1 := hbx1.2 1 (by simp); have y2 := hbx1.2 2 (by simp); have y3 := hbx1.2 3 (by simp); have y4 := hbx1.2 4 (by simp); have y5 := hbx1.2 5 (by simp); simp only [cqs, cqz] at y0 y1 y2 y3 y4 y5
    clear hbx1
    go_wp2_with fail
    go_loopw [6, 18] (fun v i wr => ∃ k : Nat, k ≤ args.length ∧ i = .int .i64 k ∧ Hid (∃ (a6 : Option Addr) (c6 : Nat), v = .slice a6 k c6 ∧ OwnR Holds.str 9 1 W1.heap.size wr (xs.take k) (.slice a6 k c6)) ∧ Below W1.heap.size W1 wr) (fun _ i _ => args.length - (intOf i).toNat)
    case atStart => exact ⟨0, Nat.zero_le _, rfl, Lib.hid ⟨_, _, rfl, OwnR.nil _ _ _ _ _⟩, Below.refl _ _⟩
    case round =>
      obtain ⟨k, hk, rfl, hO0, hB⟩ := hrel
      obtain ⟨a6, c6, rfl, hO1⟩ := hO0.out
      have hO := Lib.hid hO1
      clear hO0 hO1
      by_cases hlt : k < args.length
      · have hBw := bt HB1.out hB
        obtain ⟨kd, o0, n0, s0, a0, m0, cap0, hx0, g0, g1, g2, g3, g4⟩ := HEL.out wr (hBw.block b hFbw) k hlt
        have hbw : b < wr.heap.size := Nat.lt_of_lt_of_le hFbw hBw.size
        obtain ⟨wq, hwq⟩ : ∃ wq, wr.alloc (.cells #[.int .i64 kd, .int .i64 o0, .int .i64 n0, .string s0, .slice a0 m0 cap0] 73) = wq := ⟨_, rfl⟩
        have hbq : Below wr.heap.size wr wq := by rw [← hwq]; exact (Below.refl _ _).alloc (Nat.le_refl _) _
        have hc := HSY.out k hlt _ hx0 wq (bt hBw hbq)
        have hzk := HZX.out k hlt
        have htk : xs.take (k + 1) = xs.take k ++ [xs[k]'(by rw [HXL.out]; exact hlt)] := List.take_succ_eq_append_getElem (by rw [HXL.out]; exact hlt)
        have hlk : (xs.take k).length ≤ 8 := by rw [List.length_take]; omega
        have HLE : Hid ((xs.take k).length = k) := Lib.hid (by rw [List.length_take, HXL.out]; omega)
        obtain ⟨x, hx⟩ : ∃ x, xs[k]'(by rw [HXL.out]; exact hlt) = x := ⟨_, rfl⟩
        rw [hx] at hc hzk htk
        have HTK := Lib.hid htk
        have HC := Lib.hid hc
        have HWQ := Lib.hid hwq
        have HBQ := Lib.hid hbq
        have HB := Lib.hid hB
        have HOW : Hid (∀ w1, Below wq.heap.size wq w1 → OwnR Holds.str 9 1 W1.heap.size w1 (xs.take k) (.slice a6 k c6)) := Lib.hid fun w1 hb => hO.out.below (bt hbq hb)
        obtain ⟨ys, hys⟩ : ∃ ys : List ByteArray, xs.take k = ys := ⟨_, rfl⟩
        simp only [hys] at HTK HOW hlk HLE
        clear hc hx0 hx htk hwq hbq hB hBw hO hys
        go_wp2_with (first
          | (go_at_call 44; rw [HWQ.out]; (with_reducible refine (HC.out).mono ?_); rintro e w1 ⟨rfl, hb⟩; obtain ⟨us, hus⟩ := (HOW.out w1 hb).owns; have hsz1 : W1.heap.size ≤ w1.heap.size := Nat.le_trans (bt HB.out HBQ.out).size hb.size)
          | (at_builtin; refine wpList_append_own_opt rfl (.tmp 22) (.tmp 25) 74 rfl W1.heap.size 9 i0 _ 1 16 Tryz.underlying74 hi hz0 hz1 hz2 rfl (by decide) _ ys.length us rfl (hus.alloc _) (some ⟨w1.heap.size, 0, none⟩) 1 1 [.string x] rfl rfl (fun _ => ⟨_, rfl, cell_one_new _ _ _⟩) (by simp [Value.oneCell']) (by unfold maxLen; omega) (by omega) (by simp; omega) ?_; intro v2 w2 hown2 hgrow2 hat2; obtain ⟨a7, c7, rfl⟩ := own_shape hown2))
        go_roundw
        case rel =>
          refine ⟨k + 1, by omega, by go_num, Lib.hid ⟨a7, c7, by rw [HLE.out], ?_⟩, ?_⟩
          · rw [HTK.out, ← HLE.out]
            exact OwnR.push (R := Holds.str) (G2 := fun _ => False) ((HOW.out w1 hb).below ((Below.refl _ w1).alloc (Nat.le_refl _) _)) (hus.alloc _) hown2 rfl hgrow2 hat2 (fun _ h => h.elim) ⟨Nat.le_trans hzk (by unfold maxLen; omega), rfl⟩
          · exact ((bt (bt HB.out HBQ.out) hb).alloc hsz1 _).grown hgrow2 (by simp; omega) (fun b e => (ownsRow_in hus b e).1)
        case measure => simp [intOf]; omega
      · have hkl : k = args.length := by omega
        have hown := hO.out
        rw [List.take_of_length_le (by rw [HXL.out]; omega)] at hown
        obtain ⟨a7, c7, e6, hl6, hc6, hh6⟩ := hown.rdl.opn
        simp only [Value.slice.injEq] at e6
        obtain ⟨rfl, hkx, rfl⟩ := e6
        obtain ⟨b6, o6, rfl, hF6, hel6⟩ := hh6 (by rw [HXL.out]; omega)
        have hcells : ∀ (j : Nat) x, xs[j]? = some x → wr.cell? ⟨b6, o6 + j, none⟩ = some (.string x) := fun j x hj => by
          obtain ⟨hj1, hj2⟩ := List.getElem?_eq_some_iff.1 hj
          obtain ⟨cs, ⟨-, rfl⟩, -, hcc⟩ := hel6 wr rfl j hj1
          have h := hcc 0 _ rfl
          rw [hj2] at h
          simpa using h
        have hJ := Tryz.strings_Join b6 o6 c6 xs ⟨#[44, 32]⟩ wr hcells hF6.2 (by rw [HXL.out]; omega) hl6 HJL.out
        rw [HJB.out] at hJ
        have HJ := Lib.hid hJ
        obtain ⟨z, hzz⟩ : ∃ z, sepB ⟨#[44, 32]⟩ xs = z := ⟨_, rfl⟩
        rw [hzz] at HJ HR hzs
        rw [← hkx] at HJ
        have HB := Lib.hid hB
        clear hown hh6 hel6 hcells hJ hO hzz hF6 hB hkl hkx
        go_wp2_with (go_at_call 45; (with_reducible refine (HJ.out).mono ?_); rintro e w1 ⟨rfl, hb⟩)
        go_ret
        exact ⟨ret_str HR.out, bt HB1.out (bt HB.out hb)⟩
  · have hL : args.length = 1 := by
      simp [partsOf] at hleast hmost; omega
    have e1 : lnE 2 s (Ex.prs args) (blockB d (St.lns body (dn d))) (elsB d (oneIf els) (St.lns els d) (St.lns els (dn d))) = (⟨#[108, 101, 116, 32]⟩ : ByteArray) ++ s ++ ⟨#[32, 61, 32]⟩ ++ argB (Ex.prs args) 0 ++ ⟨#[59]⟩ := rfl
    rw [e1, argB_get (show 0 < args.length by omega)] at hsz ⊢
    have hz := hsz
    simp only [ByteArray.size_append] at hz
    have hc0 := harg 0 (by omega) (by omega)
    obtain ⟨x, he0⟩ : ∃ z, (args[0]'(by omega)).pr = z := ⟨_, rfl⟩
    simp only [he0] at hc0 hz ⊢
    obtain ⟨r, hr2⟩ : ∃ r, (⟨#[108, 101, 116, 32]⟩ : ByteArray) ++ s ++ ⟨#[32, 61, 32]⟩ ++ x ++ ⟨#[59]⟩ = r := ⟨_, rfl⟩
    rw [hr2]
    have HR := Lib.hid hr2
    have HC0 : Hid (∀ W, Below W1.heap.size W1 W → Calls Tryz.prog 42 #[.int .i64 0, .pointer (some ⟨w.heap.size, 0, none⟩)] W (Gives W (.string x))) := Lib.hid hc0
    clear hr hx hxb hxe hargs hbody hels h19 hk hname harg hsz e1 hr2 hF ht hleast hmost hL hb1 ihb ihe hc0 he0
    go_enter Tryz.func22, Tryz.ntmps22
    go_upto_region 2 with fail
    rw [HW1.out]
    have y0 := hbx1.2 0 (by simp); have y1 := hbx1.2 1 (by simp); have y2 := hbx1.2 2 (by simp); have y3 := hbx1.2 3 (by simp); have y4 := hbx1.2 4 (by simp); have y5 := hbx1.2 5 (by simp); simp only [cqs, cqz] at y0 y1 y2 y3 y4 y5
    go_upto_region 12 with fail
    have K {f : FuncId} {args : Array Value} {u : Value} (h : ∀ w', Below W1.heap.size W1 w' → Calls Tryz.prog f args w' (Gives w' u)) (p : Regrown) : Calls Tryz.prog f args (grow (redrawn W1 p.d) p.os) fun e w3 => e = .returned u ∧ ∃ p : Regrown, w3 = grow (redrawn W1 p.d) p.os := regrown_gives (fun w3 hb => h w3 hb) p
    have G1 := Lib.hid (K HC0.out)
    clear K hbx1
    have c0 := fun d os => cell_regrown y0 d os; have c1 := fun d os => cell_regrown y1 d os; have c2 := fun d os => cell_regrown y2 d os; have c3 := fun d os => cell_regrown y3 d os; have c4 := fun d os => cell_regrown y4 d os; have c5 := fun d os => cell_regrown y5 d os
    refine wp_region_quiet_below (by kernel_rfl) (by kernel_rfl) ?_
    repeat (go_big_quiet_step (first | with_reducible exact G1.out _))
    refine wpQuiet_nil ?_
    intro w6 hw6
    have hb6 := below_of_regrown hw6
    clear hw6
    go_wp2_with fail
    go_ret
    exact ⟨ret_str HR.out, bt HB1.out hb6⟩
  · have hL : args.length = 1 := by
      simp [partsOf] at hleast hmost; omega
    have e1 : lnE 3 s (Ex.prs args) (blockB d (St.lns body (dn d))) (elsB d (oneIf els) (St.lns els d) (St.lns els (dn d))) = s ++ ⟨#[32, 61, 32]⟩ ++ argB (Ex.prs args) 0 ++ ⟨#[59]⟩ := rfl
    rw [e1, argB_get (show 0 < args.length by omega)] at hsz ⊢
    have hz := hsz
    simp only [ByteArray.size_append] at hz
    have hc0 := harg 0 (by omega) (by omega)
    obtain ⟨x, he0⟩ : ∃ z, (args[0]'(by omega)).pr = z := ⟨_, rfl⟩
    simp only [he0] at hc0 hz ⊢
    obtain ⟨r, hr2⟩ : ∃ r, s ++ ⟨#[32, 61, 32]⟩ ++ x ++ ⟨#[59]⟩ = r := ⟨_, rfl⟩
    rw [hr2]
    have HR := Lib.hid hr2
    have HC0 : Hid (∀ W, Below W1.heap.size W1 W → Calls Tryz.prog 42 #[.int .i64 0, .pointer (some ⟨w.heap.size, 0, none⟩)] W (Gives W (.string x))) := Lib.hid hc0
    clear hr hx hxb hxe hargs hbody hels h19 hk hname harg hsz e1 hr2 hF ht hleast hmost hL hb1 ihb ihe hc0 he0
    go_enter Tryz.func22, Tryz.ntmps22
    go_upto_region 2 with fail
    rw [HW1.out]
    have y0 := hbx1.2 0 (by simp); have y1 := hbx1.2 1 (by simp); have y2 := hbx1.2 2 (by simp); have y3 := hbx1.2 3 (by simp); have y4 := hbx1.2 4 (by simp); have y5 := hbx1.2 5 (by simp); simp only [cqs, cqz] at y0 y1 y2 y3 y4 y5
    go_upto_region 14 with fail
    have K {f : FuncId} {args : Array Value} {u : Value} (h : ∀ w', Below W1.heap.size W1 w' → Calls Tryz.prog f args w' (Gives w' u)) (p : Regrown) : Calls Tryz.prog f args (grow (redrawn W1 p.d) p.os) fun e w3 => e = .returned u ∧ ∃ p : Regrown, w3 = grow (redrawn W1 p.d) p.os := regrown_gives (fun w3 hb => h w3 hb) p
    have G1 := Lib.hid (K HC0.out)
    clear K hbx1
    have c0 := fun d os => cell_regrown y0 d os; have c1 := fun d os => cell_regrown y1 d os; have c2 := fun d os => cell_regrown y2 d os; have c3 := fun d os => cell_regrown y3 d os; have c4 := fun d os => cell_regrown y4 d os; have c5 := fun d os => cell_regrown y5 d os
    refine wp_region_quiet_below (by kernel_rfl) (by kernel_rfl) ?_
    repeat (go_big_quiet_step (first | with_reducible exact G1.out _))
    refine wpQuiet_nil ?_
    intro w6 hw6
    have hb6 := below_of_regrown hw6
    clear hw6
    go_wp2_with fail
    go_ret
    exact ⟨ret_str HR.out, bt HB1.out hb6⟩
  · have hL : args.length = 2 := by
      simp [partsOf] at hleast hmost; omega
    obtain ⟨e0, ea, rfl⟩ : ∃ e0 ea, args = [e0, ea] := by
      match args, hL with
      | [e0, ea], _ => exact ⟨e0, ea, rfl⟩
    have hnm : IsNm s := by
      have h := hname
      simp [NameOk, partsOf] at h
      exact h.2
    have e1 : lnE 4 s (Ex.prs [e0, ea]) (blockB d (St.lns body (dn d))) (elsB d (oneIf els) (St.lns els d) (St.lns els (dn d))) = (Ex.mk 8 0 0 s [e0]).pr ++ ⟨#[32, 61, 32]⟩ ++ ea.pr ++ ⟨#[59]⟩ := rfl
    rw [e1] at hsz ⊢
    have hz := hsz
    simp only [ByteArray.size_append] at hz
    have hc1 := harg 1 (by simp) (by simp only [List.getElem_cons_succ, List.getElem_cons_zero]; omega)
    simp only [List.getElem_cons_succ, List.getElem_cons_zero] at hc1
    obtain ⟨c, ⟨a', cap', hae, hl1, hl2, hcell⟩, hrow⟩ := hx
    cases hae
    obtain ⟨b, off, rfl, hFb, hcell⟩ := hcell (by simp)
    have hs8 : Src (Ex.mk 8 0 0 s [e0]) := by
      refine ⟨⟨by omega, by omega⟩, ?_, by omega, by omega, fun _ => hnm, ?_⟩
      · simp [Shaped, hasOf, OpOk]
      · exact ⟨⟨by have := (hargs e0 (by simp)).1; simpa using this, (hargs e0 (by simp)).2⟩, trivial⟩
    have hr8 : RdEx F w (Ex.mk 8 0 0 s [e0]) [.int .i64 8, .int .i64 0, .int .i64 0, .string s, .slice (some ⟨b, off, none⟩) 1 cap] :=
      ⟨by simp only [I64]; omega, by simp only [I64]; omega, by simp only [I64]; omega, hs64, _, c, rfl, ⟨_, cap, rfl, by simp at hl1; show 1 ≤ cap; omega, hl2, fun _ => ⟨b, off, rfl, hFb, fun i hi j hj => hcell i (by simp at hi ⊢; omega) j hj⟩⟩, hrow.1, trivial⟩
    have hc8 := fun (W : World) (hW : Below W1.heap.size W1 W) => printT_calls (Ex.mk 8 0 0 s [e0]) F W _ (hF.below (bt hb1 hW)) (ht.below (bt hb1 hW) (Nat.le_refl _)) hs8 (by omega) (hr8.below hF (bt hb1 hW) (Nat.le_refl _))
    obtain ⟨x8, he8⟩ : ∃ z, (Ex.mk 8 0 0 s [e0]).pr = z := ⟨_, rfl⟩
    obtain ⟨y, hey⟩ : ∃ z, ea.pr = z := ⟨_, rfl⟩
    simp only [he8] at hc8 hz ⊢
    simp only [hey] at hc1 hz ⊢
    obtain ⟨r, hr2⟩ : ∃ r, x8 ++ ⟨#[32, 61, 32]⟩ ++ y ++ ⟨#[59]⟩ = r := ⟨_, rfl⟩
    rw [hr2]
    have HR := Lib.hid hr2
    have HC1 : Hid (∀ W, Below W1.heap.size W1 W → Calls Tryz.prog 42 #[.int .i64 1, .pointer (some ⟨w.heap.size, 0, none⟩)] W (Gives W (.string y))) := Lib.hid hc1
    have HC8 := Lib.hid hc8
    simp only [List.length_cons, List.length_nil, Nat.zero_add] at HW1 hbx1 hl1
    have hcap1 : (1 : Int) ≤ (cap : Int) := by omega
    have hcap2 : 1 ≤ cap := by omega
    clear hr hxb hxe hargs hbody hels h19 hk hname harg hsz e1 hr2 hF ht hleast hmost hL hb1 ihb ihe hc1 hc8 he8 hey hs8 hr8 hrow hcell hFb hnm
    go_enter Tryz.func22, Tryz.ntmps22
    go_upto_region 2 with fail
    rw [HW1.out]
    have y0 := hbx1.2 0 (by simp); have y1 := hbx1.2 1 (by simp); have y2 := hbx1.2 2 (by simp); have y3 := hbx1.2 3 (by simp); have y4 := hbx1.2 4 (by simp); have y5 := hbx1.2 5 (by simp); simp only [cqs, cqz] at y0 y1 y2 y3 y4 y5
    go_upto_region 16 with fail
    have K {f : FuncId} {args : Array Value} {u : Value} (h : ∀ w', Below W1.heap.size W1 w' → Calls Tryz.prog f args w' (Gives w' u)) (p : Regrown) : Calls Tryz.prog f args (grow (redrawn W1 p.d) p.os) fun e w3 => e = .returned u ∧ ∃ p : Regrown, w3 = grow (redrawn W1 p.d) p.os := regrown_gives (fun w3 hb => h w3 hb) p
    have G1 := Lib.hid (K HC8.out)
    have G2 := Lib.hid (K HC1.out)
    clear K hbx1
    have c0 := fun d os => cell_regrown y0 d os; have c1 := fun d os => cell_regrown y1 d os; have c2 := fun d os => cell_regrown y2 d os; have c3 := fun d os => cell_regrown y3 d os; have c4 := fun d os => cell_regrown y4 d os; have c5 := fun d os => cell_regrown y5 d os
    refine wp_region_quiet_below (by kernel_rfl) (by kernel_rfl) ?_
    repeat (go_big_quiet_step (first | with_reducible exact G1.out _ | with_reducible exact G2.out _))
    refine wpQuiet_nil ?_
    intro w6 hw6
    have hb6 := below_of_regrown hw6
    clear hw6
    go_wp2_with fail
    go_ret
    exact ⟨ret_str HR.out, bt HB1.out hb6⟩
  · have hL : args.length = 1 := by
      simp [partsOf] at hleast hmost; omega
    have e1 : lnE 5 s (Ex.prs args) (blockB d (St.lns body (dn d))) (elsB d (oneIf els) (St.lns els d) (St.lns els (dn d))) = (⟨#[115, 101, 116, 32]⟩ : ByteArray) ++ argB (Ex.prs args) 0 ++ ⟨#[32, 105, 115, 32]⟩ ++ s ++ ⟨#[59]⟩ := rfl
    rw [e1, argB_get (show 0 < args.length by omega)] at hsz ⊢
    have hz := hsz
    simp only [ByteArray.size_append] at hz
    have hc0 := harg 0 (by omega) (by omega)
    obtain ⟨x, he0⟩ : ∃ z, (args[0]'(by omega)).pr = z := ⟨_, rfl⟩
    simp only [he0] at hc0 hz ⊢
    obtain ⟨r, hr2⟩ : ∃ r, (⟨#[115, 101, 116, 32]⟩ : ByteArray) ++ x ++ ⟨#[32, 105, 115, 32]⟩ ++ s ++ ⟨#[59]⟩ = r := ⟨_, rfl⟩
    rw [hr2]
    have HR := Lib.hid hr2
    have HC0 : Hid (∀ W, Below W1.heap.size W1 W → Calls Tryz.prog 42 #[.int .i64 0, .pointer (some ⟨w.heap.size, 0, none⟩)] W (Gives W (.string x))) := Lib.hid hc0
    clear hr hx hxb hxe hargs hbody hels h19 hk hname harg hsz e1 hr2 hF ht hleast hmost hL hb1 ihb ihe hc0 he0
    go_enter Tryz.func22, Tryz.ntmps22
    go_upto_region 2 with fail
    rw [HW1.out]
    have y0 := hbx1.2 0 (by simp); have y1 := hbx1.2 1 (by simp); have y2 := hbx1.2 2 (by simp); have y3 := hbx1.2 3 (by simp); have y4 := hbx1.2 4 (by simp); have y5 := hbx1.2 5 (by simp); simp only [cqs, cqz] at y0 y1 y2 y3 y4 y5
    go_upto_region 18 with fail
    have K {f : FuncId} {args : Array Value} {u : Value} (h : ∀ w', Below W1.heap.size W1 w' → Calls Tryz.prog f args w' (Gives w' u)) (p : Regrown) : Calls Tryz.prog f args (grow (redrawn W1 p.d) p.os) fun e w3 => e = .returned u ∧ ∃ p : Regrown, w3 = grow (redrawn W1 p.d) p.os := regrown_gives (fun w3 hb => h w3 hb) p
    have G1 := Lib.hid (K HC0.out)
    clear K hbx1
    have c0 := fun d os => cell_regrown y0 d os; have c1 := fun d os => cell_regrown y1 d os; have c2 := fun d os => cell_regrown y2 d os; have c3 := fun d os => cell_regrown y3 d os; have c4 := fun d os => cell_regrown y4 d os; have c5 := fun d os => cell_regrown y5 d os
    refine wp_region_quiet_below (by kernel_rfl) (by kernel_rfl) ?_
    repeat (go_big_quiet_step (first | with_reducible exact G1.out _))
    refine wpQuiet_nil ?_
    intro w6 hw6
    have hb6 := below_of_regrown hw6
    clear hw6
    go_wp2_with fail
    go_ret
    exact ⟨ret_str HR.out, bt HB1.out hb6⟩
  · have hL : args.length = 1 := by
      simp [partsOf] at hleast hmost; omega
    have e1 : lnE 6 s (Ex.prs args) (blockB d (St.lns body (dn d))) (elsB d (oneIf els) (St.lns els d) (St.lns els (dn d))) = (⟨#[117, 110, 115, 101, 116, 32]⟩ : ByteArray) ++ argB (Ex.prs args) 0 ++ ⟨#[32, 105, 115, 32]⟩ ++ s ++ ⟨#[59]⟩ := rfl
    rw [e1, argB_get (show 0 < args.length by omega)] at hsz ⊢
    have hz := hsz
    simp only [ByteArray.size_append] at hz
    have hc0 := harg 0 (by omega) (by omega)
    obtain ⟨x, he0⟩ : ∃ z, (args[0]'(by omega)).pr = z := ⟨_, rfl⟩
    simp only [he0] at hc0 hz ⊢
    obtain ⟨r, hr2⟩ : ∃ r, (⟨#[117, 110, 115, 101, 116, 32]⟩ : ByteArray) ++ x ++ ⟨#[32, 105, 115, 32]⟩ ++ s ++ ⟨#[59]⟩ = r := ⟨_, rfl⟩
    rw [hr2]
    have HR := Lib.hid hr2
    have HC0 : Hid (∀ W, Below W1.heap.size W1 W → Calls Tryz.prog 42 #[.int .i64 0, .pointer (some ⟨w.heap.size, 0, none⟩)] W (Gives W (.string x))) := Lib.hid hc0
    clear hr hx hxb hxe hargs hbody hels h19 hk hname harg hsz e1 hr2 hF ht hleast hmost hL hb1 ihb ihe hc0 he0
    go_enter Tryz.func22, Tryz.ntmps22
    go_upto_region 2 with fail
    rw [HW1.out]
    have y0 := hbx1.2 0 (by simp); have y1 := hbx1.2 1 (by simp); have y2 := hbx1.2 2 (by simp); have y3 := hbx1.2 3 (by simp); have y4 := hbx1.2 4 (by simp); have y5 := hbx1.2 5 (by simp); simp only [cqs, cqz] at y0 y1 y2 y3 y4 y5
    go_upto_region 20 with fail
    have K {f : FuncId} {args : Array Value} {u : Value} (h : ∀ w', Below W1.heap.size W1 w' → Calls Tryz.prog f args w' (Gives w' u)) (p : Regrown) : Calls Tryz.prog f args (grow (redrawn W1 p.d) p.os) fun e w3 => e = .returned u ∧ ∃ p : Regrown, w3 = grow (redrawn W1 p.d) p.os := regrown_gives (fun w3 hb => h w3 hb) p
    have G1 := Lib.hid (K HC0.out)
    clear K hbx1
    have c0 := fun d os => cell_regrown y0 d os; have c1 := fun d os => cell_regrown y1 d os; have c2 := fun d os => cell_regrown y2 d os; have c3 := fun d os => cell_regrown y3 d os; have c4 := fun d os => cell_regrown y4 d os; have c5 := fun d os => cell_regrown y5 d os
    refine wp_region_quiet_below (by kernel_rfl) (by kernel_rfl) ?_
    repeat (go_big_quiet_step (first | with_reducible exact G1.out _))
    refine wpQuiet_nil ?_
    intro w6 hw6
    have hb6 := below_of_regrown hw6
    clear hw6
    go_wp2_with fail
    go_ret
    exact ⟨ret_str HR.out, bt HB1.out hb6⟩
  · have hL : args.length = 2 := by
      simp [partsOf] at hleast hmost; omega
    have e1 : lnE 7 s (Ex.prs args) (blockB d (St.lns body (dn d))) (elsB d (oneIf els) (St.lns els d) (St.lns els (dn d))) = (⟨#[109, 111, 118, 101, 32]⟩ : ByteArray) ++ argB (Ex.prs args) 0 ++ ⟨#[32, 116, 111, 32]⟩ ++ argB (Ex.prs args) 1 ++ ⟨#[59]⟩ := rfl
    rw [e1, argB_get (show 0 < args.length by omega), argB_get (show 1 < args.length by omega)] at hsz ⊢
    have hz := hsz
    simp only [ByteArray.size_append] at hz
    have hc0 := harg 0 (by omega) (by omega)
    obtain ⟨x, he0⟩ : ∃ z, (args[0]'(by omega)).pr = z := ⟨_, rfl⟩
    simp only [he0] at hc0 hz ⊢
    have hc1 := harg 1 (by omega) (by omega)
    obtain ⟨y, he1⟩ : ∃ z, (args[1]'(by omega)).pr = z := ⟨_, rfl⟩
    simp only [he1] at hc1 hz ⊢
    obtain ⟨r, hr2⟩ : ∃ r, (⟨#[109, 111, 118, 101, 32]⟩ : ByteArray) ++ x ++ ⟨#[32, 116, 111, 32]⟩ ++ y ++ ⟨#[59]⟩ = r := ⟨_, rfl⟩
    rw [hr2]
    have HR := Lib.hid hr2
    have HC0 : Hid (∀ W, Below W1.heap.size W1 W → Calls Tryz.prog 42 #[.int .i64 0, .pointer (some ⟨w.heap.size, 0, none⟩)] W (Gives W (.string x))) := Lib.hid hc0
    have HC1 : Hid (∀ W, Below W1.heap.size W1 W → Calls Tryz.prog 42 #[.int .i64 1, .pointer (some ⟨w.heap.size, 0, none⟩)] W (Gives W (.string y))) := Lib.hid hc1
    clear hr hx hxb hxe hargs hbody hels h19 hk hname harg hsz e1 hr2 hF ht hleast hmost hL hb1 ihb ihe hc0 he0 hc1 he1
    go_enter Tryz.func22, Tryz.ntmps22
    go_upto_region 2 with fail
    rw [HW1.out]
    have y0 := hbx1.2 0 (by simp); have y1 := hbx1.2 1 (by simp); have y2 := hbx1.2 2 (by simp); have y3 := hbx1.2 3 (by simp); have y4 := hbx1.2 4 (by simp); have y5 := hbx1.2 5 (by simp); simp only [cqs, cqz] at y0 y1 y2 y3 y4 y5
    go_wp2_with (first
      | (go_at_call 42; (with_reducible refine (HC0.out _ (Below.refl _ _)).mono ?_); rintro e w1 ⟨rfl, hb⟩)
      | (go_at_call 42; (with_reducible refine (HC1.out _ hb).mono ?_); rintro e w2 ⟨rfl, hb2⟩))
    go_ret
    exact ⟨ret_str HR.out, bt HB1.out (bt hb hb2)⟩
  · obtain ⟨x, rfl⟩ : ∃ x, args = [x] := by
      have hL : args.length = 1 := by
        simp [partsOf] at hleast hmost; omega
      match args, hL with
      | [x], _ => exact ⟨x, rfl⟩
    have e1 : lnE 8 s (Ex.prs [x]) (blockB d (St.lns body (dn d))) (elsB d (oneIf els) (St.lns els d) (St.lns els (dn d))) = ⟨#[114, 101, 109, 111, 118, 101]⟩ ++ ⟨#[32]⟩ ++ x.pr ++ ⟨#[59]⟩ := rfl
    rw [e1] at hsz ⊢
    have hz := hsz
    simp only [ByteArray.size_append] at hz
    have hss := fun (W : World) (hW : Below W1.heap.size W1 W) => simple8_calls n s x a cap a2 body.length cap2 a3 els.length cap3 F W (hF.below (bt hb1 hW)) (ht.below (bt hb1 hW) (Nat.le_refl _)) (hx.below hF (bt hb1 hW) (Nat.le_refl _)) (hargs x (by simp)).2 (by omega)
    have HS := Lib.hid hss
    obtain ⟨r, hr2⟩ : ∃ r, (⟨#[114, 101, 109, 111, 118, 101]⟩ : ByteArray) ++ ⟨#[32]⟩ ++ x.pr ++ ⟨#[59]⟩ = r := ⟨_, rfl⟩
    rw [hr2] at HS ⊢
    simp only [List.length_cons, List.length_nil, Nat.zero_add] at HW1 hbx1
    clear hr hx hxb hxe hargs hbody hels h19 hk hname harg hsz hz e1 hr2 hF ht hleast hmost hb1 ihb ihe hss
    go_enter Tryz.func22, Tryz.ntmps22
    go_upto_region 2 with fail
    rw [HW1.out]
    have y0 := hbx1.2 0 (by simp); have y1 := hbx1.2 1 (by simp); have y2 := hbx1.2 2 (by simp); have y3 := hbx1.2 3 (by simp); have y4 := hbx1.2 4 (by simp); have y5 := hbx1.2 5 (by simp); simp only [cqs, cqz] at y0 y1 y2 y3 y4 y5
    go_wp2_with (go_at_call 46; (with_reducible refine (HS.out _ (Below.refl _ _)).mono ?_); rintro e w1 ⟨rfl, hb⟩)
    go_ret
    exact ⟨rfl, bt HB1.out hb⟩
  · have hL : args.length = 1 := by
      simp [partsOf] at hleast hmost; omega
    rcases els with _ | ⟨y, _ | ⟨z9, r9⟩⟩
    · have e1 : lnE 9 s (Ex.prs args) (blockB d (St.lns body (dn d))) (elsB d (oneIf []) (St.lns [] d) (St.lns [] (dn d))) = (⟨#[105, 102, 32]⟩ : ByteArray) ++ argB (Ex.prs args) 0 ++ ⟨#[32]⟩ ++ blockB d (St.lns body (dn d)) ++ (⟨#[]⟩ : ByteArray) := rfl
      rw [e1, argB_get (show 0 < args.length by omega)] at hsz ⊢
      have hz := hsz
      simp only [ByteArray.size_append] at hz
      have hc0 := harg 0 (by omega) (by omega)
      obtain ⟨x, he0⟩ : ∃ z, (args[0]'(by omega)).pr = z := ⟨_, rfl⟩
      simp only [he0] at hc0 hz ⊢
      have hcb := fun (W : World) (hW : Below W1.heap.size W1 W) => blkT_calls body ihb F W (.slice a2 body.length cap2) (d : Int) (hF.below (bt hb1 hW)) (ht.below (bt hb1 hW) (Nat.le_refl _)) hbody.2 (by rw [clip_nat hd]; show (blockB d (St.lns body (dn d))).size ≤ _; omega) (hxb.below hF (bt hb1 hW) (Nat.le_refl _))
      simp only [clip_nat hd] at hcb
      have hbe : St.blk body d = blockB d (St.lns body (dn d)) := rfl
      simp only [hbe] at hcb
      obtain ⟨bb, hbb⟩ : ∃ z, blockB d (St.lns body (dn d)) = z := ⟨_, rfl⟩
      simp only [hbb] at hcb hz ⊢
      have HCB := Lib.hid hcb
      clear hcb hbe
      obtain ⟨r, hr2⟩ : ∃ r, (⟨#[105, 102, 32]⟩ : ByteArray) ++ x ++ ⟨#[32]⟩ ++ bb ++ (⟨#[]⟩ : ByteArray) = r := ⟨_, rfl⟩
      rw [hr2]
      have HR := Lib.hid hr2
      have HC0 : Hid (∀ W, Below W1.heap.size W1 W → Calls Tryz.prog 42 #[.int .i64 0, .pointer (some ⟨w.heap.size, 0, none⟩)] W (Gives W (.string x))) := Lib.hid hc0
      simp only [List.length_nil] at HW1 hbx1
      have hz' := hz
      clear hr hx hxb hxe hargs hbody hels h19 hk hname harg hsz e1 hr2 hF ht hleast hmost hL hb1 ihb ihe hc0 he0 hbb hz'
      go_enter Tryz.func22, Tryz.ntmps22
      go_upto_region 2 with fail
      rw [HW1.out]
      have y0 := hbx1.2 0 (by simp); have y1 := hbx1.2 1 (by simp); have y2 := hbx1.2 2 (by simp); have y3 := hbx1.2 3 (by simp); have y4 := hbx1.2 4 (by simp); have y5 := hbx1.2 5 (by simp); simp only [cqs, cqz] at y0 y1 y2 y3 y4 y5
      go_upto_region 24 with fail
      have K {f : FuncId} {args : Array Value} {u : Value} (h : ∀ w', Below W1.heap.size W1 w' → Calls Tryz.prog f args w' (Gives w' u)) (p : Regrown) : Calls Tryz.prog f args (grow (redrawn W1 p.d) p.os) fun e w3 => e = .returned u ∧ ∃ p : Regrown, w3 = grow (redrawn W1 p.d) p.os := regrown_gives (fun w3 hb => h w3 hb) p
      have G1 := Lib.hid (K HC0.out)
      have G2 := Lib.hid (K HCB.out)
      clear K
      have c0 := fun d os => cell_regrown y0 d os; have c1 := fun d os => cell_regrown y1 d os; have c2 := fun d os => cell_regrown y2 d os; have c3 := fun d os => cell_regrown y3 d os; have c4 := fun d os => cell_regrown y4 d os; have c5 := fun d os => cell_regrown y5 d os
      refine wp_region_quiet_below (by kernel_rfl) (by kernel_rfl) ?_
      repeat (go_big_quiet_step (first | with_reducible exact G1.out _ | with_reducible exact G2.out _))
      refine wpQuiet_nil ?_
      intro w6 hw6
      have hb6 := below_of_regrown hw6
      clear hw6
      clear y0 y1 y2 y3 y4 y5 c0 c1 c2 c3 c4 c5 G1 G2
      have hbx6 := hbx1.below hb6 hbx1.1
      have y0 := hbx6.2 0 (by simp); have y1 := hbx6.2 1 (by simp); have y2 := hbx6.2 2 (by simp); have y3 := hbx6.2 3 (by simp); have y4 := hbx6.2 4 (by simp); have y5 := hbx6.2 5 (by simp); simp only [cqs, cqz] at y0 y1 y2 y3 y4 y5
      go_wp2_with fail
      go_ret
      exact ⟨ret_str (by rw [← HR.out, app_emp]), bt HB1.out hb6⟩
    · by_cases hy : y.kind = 9
      · have ho : oneIf [y] = true := by simp [oneIf, hy]
        have e1 : lnE 9 s (Ex.prs args) (blockB d (St.lns body (dn d))) (elsB d (oneIf [y]) (St.lns [y] d) (St.lns [y] (dn d))) = (⟨#[105, 102, 32]⟩ : ByteArray) ++ argB (Ex.prs args) 0 ++ ⟨#[32]⟩ ++ blockB d (St.lns body (dn d)) ++ ((⟨#[32, 101, 108, 115, 101, 32]⟩ : ByteArray) ++ y.ln d) := by rw [ho]; rfl
        rw [e1, argB_get (show 0 < args.length by omega)] at hsz ⊢
        have hz := hsz
        simp only [ByteArray.size_append] at hz
        have hc0 := harg 0 (by omega) (by omega)
        obtain ⟨x, he0⟩ : ∃ z, (args[0]'(by omega)).pr = z := ⟨_, rfl⟩
        simp only [he0] at hc0 hz ⊢
        have hcb := fun (W : World) (hW : Below W1.heap.size W1 W) => blkT_calls body ihb F W (.slice a2 body.length cap2) (d : Int) (hF.below (bt hb1 hW)) (ht.below (bt hb1 hW) (Nat.le_refl _)) hbody.2 (by rw [clip_nat hd]; show (blockB d (St.lns body (dn d))).size ≤ _; omega) (hxb.below hF (bt hb1 hW) (Nat.le_refl _))
        simp only [clip_nat hd] at hcb
        have hbe : St.blk body d = blockB d (St.lns body (dn d)) := rfl
        simp only [hbe] at hcb
        obtain ⟨bb, hbb⟩ : ∃ z, blockB d (St.lns body (dn d)) = z := ⟨_, rfl⟩
        simp only [hbb] at hcb hz ⊢
        have HCB := Lib.hid hcb
        clear hcb hbe
        obtain ⟨-, -, -, hae⟩ := hxe.opn
        obtain ⟨b3, off3, rfl, hFb3, hel3⟩ := hae (by simp)
        have hcy := fun (W : World) (hW : Below W1.heap.size W1 W) cs hcs => ihe y (by simp) F W cs d (hF.below (bt hb1 hW)) (ht.below (bt hb1 hW) (Nat.le_refl _)) (hels.2 y (by simp)) hd (by omega) hcs
        obtain ⟨ye, hye⟩ : ∃ z, y.ln d = z := ⟨_, rfl⟩
        simp only [hye] at hcy hz ⊢
        obtain ⟨r, hr2⟩ : ∃ r, (⟨#[105, 102, 32]⟩ : ByteArray) ++ x ++ ⟨#[32]⟩ ++ bb ++ ((⟨#[32, 101, 108, 115, 101, 32]⟩ : ByteArray) ++ ye) = r := ⟨_, rfl⟩
        rw [hr2]
        have HR := Lib.hid hr2
        have HC0 : Hid (∀ W, Below W1.heap.size W1 W → Calls Tryz.prog 42 #[.int .i64 0, .pointer (some ⟨w.heap.size, 0, none⟩)] W (Gives W (.string x))) := Lib.hid hc0
        simp only [List.length_cons, List.length_nil, Nat.zero_add] at HW1 hbx1
        have HCY : Hid (∀ W, Below W1.heap.size W1 W → ∃ kd n0 s0 a0 m0 cap0 a4 m4 cap4 a5 m5 cap5, (kd = (9 : Int)) ∧ (W.cell? ⟨b3, off3, none⟩ = some (.int .i64 kd) ∧ W.cell? ⟨b3, off3 + 1, none⟩ = some (.int .i64 n0) ∧ W.cell? ⟨b3, off3 + 2, none⟩ = some (.string s0) ∧ W.cell? ⟨b3, off3 + 3, none⟩ = some (.slice a0 m0 cap0) ∧ W.cell? ⟨b3, off3 + 4, none⟩ = some (.slice a4 m4 cap4) ∧ W.cell? ⟨b3, off3 + 5, none⟩ = some (.slice a5 m5 cap5)) ∧
            Calls Tryz.prog 22 #[.agg #[.int .i64 kd, .int .i64 n0, .string s0, .slice a0 m0 cap0, .slice a4 m4 cap4, .slice a5 m5 cap5], .int .i64 d] W (Gives W (.string ye))) := Lib.hid fun W hW => by
          obtain ⟨kd, n0, s0, a0, m0, cap0, a4, m4, cap4, a5, m5, cap5, hx0, g0, g1, g2, g3, g4, g5⟩ := hel3 W ((bt hb1 hW).block b3 (hF b3 hFb3)) 0 (by simp)
          simp only [Nat.zero_mul, Nat.add_zero] at g0 g1 g2 g3 g4 g5
          have hk9 := hx0.parts.1
          exact ⟨kd, n0, s0, a0, m0, cap0, a4, m4, cap4, a5, m5, cap5, hk9.symm.trans hy, ⟨g0, g1, g2, g3, g4, g5⟩, hcy W hW _ (hx0.below hF (bt hb1 hW) (Nat.le_refl _))⟩
        have hz' := hz
        clear hr hx hxb hxe hargs hbody hels h19 hk hname harg hsz e1 hr2 hF ht hleast hmost hL hb1 ihb ihe hc0 he0 hbb hz' hye hcy hae hFb3 hel3 ho hy
        go_enter Tryz.func22, Tryz.ntmps22
        go_upto_region 2 with fail
        rw [HW1.out]
        have y0 := hbx1.2 0 (by simp); have y1 := hbx1.2 1 (by simp); have y2 := hbx1.2 2 (by simp); have y3 := hbx1.2 3 (by simp); have y4 := hbx1.2 4 (by simp); have y5 := hbx1.2 5 (by simp); simp only [cqs, cqz] at y0 y1 y2 y3 y4 y5
        go_upto_region 24 with fail
        have K {f : FuncId} {args : Array Value} {u : Value} (h : ∀ w', Below W1.heap.size W1 w' → Calls Tryz.prog f args w' (Gives w' u)) (p : Regrown) : Calls Tryz.prog f args (grow (redrawn W1 p.d) p.os) fun e w3 => e = .returned u ∧ ∃ p : Regrown, w3 = grow (redrawn W1 p.d) p.os := regrown_gives (fun w3 hb => h w3 hb) p
        have G1 := Lib.hid (K HC0.out)
        have G2 := Lib.hid (K HCB.out)
        clear K
        have c0 := fun d os => cell_regrown y0 d os; have c1 := fun d os => cell_regrown y1 d os; have c2 := fun d os => cell_regrown y2 d os; have c3 := fun d os => cell_regrown y3 d os; have c4 := fun d os => cell_regrown y4 d os; have c5 := fun d os => cell_regrown y5 d os
        refine wp_region_quiet_below (by kernel_rfl) (by kernel_rfl) ?_
        repeat (go_big_quiet_step (first | with_reducible exact G1.out _ | with_reducible exact G2.out _))
        refine wpQuiet_nil ?_
        intro w6 hw6
        have hb6 := below_of_regrown hw6
        clear hw6
        clear y0 y1 y2 y3 y4 y5 c0 c1 c2 c3 c4 c5 G1 G2
        have hbx6 := hbx1.below hb6 hbx1.1
        have y0 := hbx6.2 0 (by simp); have y1 := hbx6.2 1 (by simp); have y2 := hbx6.2 2 (by simp); have y3 := hbx6.2 3 (by simp); have y4 := hbx6.2 4 (by simp); have y5 := hbx6.2 5 (by simp); simp only [cqs, cqz] at y0 y1 y2 y3 y4 y5
        obtain ⟨kd, n0, s0, a0, m0, cap0, a4, m4, cap4, a5, m5, cap5, rfl, ⟨g0, g1, g2, g3, g4, g5⟩, hcl⟩ := HCY.out w6 hb6
        have HCL := Lib.hid hcl
        have HB6 := Lib.hid hb6
        clear hcl hbx6 hb6 hbx1
        go_wp2_with (go_at_call 22; (with_reducible refine (HCL.out).mono ?_); rintro e w7 ⟨rfl, hb7⟩)
        go_ret
        exact ⟨ret_str HR.out, bt HB1.out (bt HB6.out hb7)⟩
      · have ho : oneIf [y] = false := by simp [oneIf, hy]
        have e1 : lnE 9 s (Ex.prs args) (blockB d (St.lns body (dn d))) (elsB d (oneIf [y]) (St.lns [y] d) (St.lns [y] (dn d))) = (⟨#[105, 102, 32]⟩ : ByteArray) ++ argB (Ex.prs args) 0 ++ ⟨#[32]⟩ ++ blockB d (St.lns body (dn d)) ++ ((⟨#[32, 101, 108, 115, 101, 32]⟩ : ByteArray) ++ blockB d (St.lns [y] (dn d))) := by rw [ho]; rfl
        rw [e1, argB_get (show 0 < args.length by omega)] at hsz ⊢
        have hz := hsz
        simp only [ByteArray.size_append] at hz
        have hc0 := harg 0 (by omega) (by omega)
        obtain ⟨x, he0⟩ : ∃ z, (args[0]'(by omega)).pr = z := ⟨_, rfl⟩
        simp only [he0] at hc0 hz ⊢
        have hcb := fun (W : World) (hW : Below W1.heap.size W1 W) => blkT_calls body ihb F W (.slice a2 body.length cap2) (d : Int) (hF.below (bt hb1 hW)) (ht.below (bt hb1 hW) (Nat.le_refl _)) hbody.2 (by rw [clip_nat hd]; show (blockB d (St.lns body (dn d))).size ≤ _; omega) (hxb.below hF (bt hb1 hW) (Nat.le_refl _))
        simp only [clip_nat hd] at hcb
        have hbe : St.blk body d = blockB d (St.lns body (dn d)) := rfl
        simp only [hbe] at hcb
        obtain ⟨bb, hbb⟩ : ∃ z, blockB d (St.lns body (dn d)) = z := ⟨_, rfl⟩
        simp only [hbb] at hcb hz ⊢
        have HCB := Lib.hid hcb
        clear hcb hbe
        have hcy := fun (W : World) (hW : Below W1.heap.size W1 W) => blkT_calls [y] ihe F W (.slice a3 [y].length cap3) (d : Int) (hF.below (bt hb1 hW)) (ht.below (bt hb1 hW) (Nat.le_refl _)) hels.2 (by rw [clip_nat hd]; show (blockB d (St.lns [y] (dn d))).size ≤ _; omega) (hxe.below hF (bt hb1 hW) (Nat.le_refl _))
        simp only [clip_nat hd] at hcy
        have hyb : St.blk [y] d = blockB d (St.lns [y] (dn d)) := rfl
        simp only [hyb] at hcy
        obtain ⟨ye, hye⟩ : ∃ z, blockB d (St.lns [y] (dn d)) = z := ⟨_, rfl⟩
        simp only [hye] at hcy hz ⊢
        clear hyb
        obtain ⟨r, hr2⟩ : ∃ r, (⟨#[105, 102, 32]⟩ : ByteArray) ++ x ++ ⟨#[32]⟩ ++ bb ++ ((⟨#[32, 101, 108, 115, 101, 32]⟩ : ByteArray) ++ ye) = r := ⟨_, rfl⟩
        rw [hr2]
        have HR := Lib.hid hr2
        have HC0 : Hid (∀ W, Below W1.heap.size W1 W → Calls Tryz.prog 42 #[.int .i64 0, .pointer (some ⟨w.heap.size, 0, none⟩)] W (Gives W (.string x))) := Lib.hid hc0
        simp only [List.length_cons, List.length_nil, Nat.zero_add] at HW1 hbx1 hcy
        have HCY := Lib.hid hcy
        obtain ⟨-, -, -, hae⟩ := hxe.opn
        obtain ⟨b3, off3, rfl, hFb3, hel3⟩ := hae (by simp)
        have HKD : Hid (∀ W, Below W1.heap.size W1 W → ∃ kd : Int, kd ≠ 9 ∧ W.cell? ⟨b3, off3, none⟩ = some (.int .i64 kd)) := Lib.hid fun W hW => by
          obtain ⟨kd, n0, s0, a0, m0, cap0, a4, m4, cap4, a5, m5, cap5, hx0, g0, -⟩ := hel3 W ((bt hb1 hW).block b3 (hF b3 hFb3)) 0 (by simp)
          simp only [Nat.zero_mul, Nat.add_zero] at g0
          have hk9 := hx0.parts.1
          exact ⟨kd, fun e => hy (hk9.trans e), g0⟩
        have hz' := hz
        clear hr hx hxb hxe hargs hbody hels h19 hk hname harg hsz e1 hr2 hF ht hleast hmost hL hb1 ihb ihe hc0 he0 hbb hz' hye hcy hae hFb3 hel3 ho hy
        go_enter Tryz.func22, Tryz.ntmps22
        go_upto_region 2 with fail
        rw [HW1.out]
        have y0 := hbx1.2 0 (by simp); have y1 := hbx1.2 1 (by simp); have y2 := hbx1.2 2 (by simp); have y3 := hbx1.2 3 (by simp); have y4 := hbx1.2 4 (by simp); have y5 := hbx1.2 5 (by simp); simp only [cqs, cqz] at y0 y1 y2 y3 y4 y5
        go_upto_region 24 with fail
        have K {f : FuncId} {args : Array Value} {u : Value} (h : ∀ w', Below W1.heap.size W1 w' → Calls Tryz.prog f args w' (Gives w' u)) (p : Regrown) : Calls Tryz.prog f args (grow (redrawn W1 p.d) p.os) fun e w3 => e = .returned u ∧ ∃ p : Regrown, w3 = grow (redrawn W1 p.d) p.os := regrown_gives (fun w3 hb => h w3 hb) p
        have G1 := Lib.hid (K HC0.out)
        have G2 := Lib.hid (K HCB.out)
        clear K
        have c0 := fun d os => cell_regrown y0 d os; have c1 := fun d os => cell_regrown y1 d os; have c2 := fun d os => cell_regrown y2 d os; have c3 := fun d os => cell_regrown y3 d os; have c4 := fun d os => cell_regrown y4 d os; have c5 := fun d os => cell_regrown y5 d os
        refine wp_region_quiet_below (by kernel_rfl) (by kernel_rfl) ?_
        repeat (go_big_quiet_step (first | with_reducible exact G1.out _ | with_reducible exact G2.out _))
        refine wpQuiet_nil ?_
        intro w6 hw6
        have hb6 := below_of_regrown hw6
        clear hw6
        clear y0 y1 y2 y3 y4 y5 c0 c1 c2 c3 c4 c5 G1 G2
        have hbx6 := hbx1.below hb6 hbx1.1
        have y0 := hbx6.2 0 (by simp); have y1 := hbx6.2 1 (by simp); have y2 := hbx6.2 2 (by simp); have y3 := hbx6.2 3 (by simp); have y4 := hbx6.2 4 (by simp); have y5 := hbx6.2 5 (by simp); simp only [cqs, cqz] at y0 y1 y2 y3 y4 y5
        obtain ⟨kd, hkd, g0⟩ := HKD.out w6 hb6
        have hkb : (kd == 9) = false := by simpa using hkd
        have HCL := Lib.hid (HCY.out w6 hb6)
        have HB6 := Lib.hid hb6
        clear hbx6 hb6 hbx1
        go_wp2_with (go_at_call 10; (with_reducible refine (HCL.out).mono ?_); rintro e w7 ⟨rfl, hb7⟩)
        go_ret
        exact ⟨ret_str HR.out, bt HB1.out (bt HB6.out hb7)⟩
    · have e1 : lnE 9 s (Ex.prs args) (blockB d (St.lns body (dn d))) (elsB d (oneIf (y :: z9 :: r9)) (St.lns (y :: z9 :: r9) d) (St.lns (y :: z9 :: r9) (dn d))) = (⟨#[105, 102, 32]⟩ : ByteArray) ++ argB (Ex.prs args) 0 ++ ⟨#[32]⟩ ++ blockB d (St.lns body (dn d)) ++ ((⟨#[32, 101, 108, 115, 101, 32]⟩ : ByteArray) ++ blockB d (St.lns (y :: z9 :: r9) (dn d))) := rfl
      rw [e1, argB_get (show 0 < args.length by omega)] at hsz ⊢
      have hz := hsz
      simp only [ByteArray.size_append] at hz
      have hc0 := harg 0 (by omega) (by omega)
      obtain ⟨x, he0⟩ : ∃ z, (args[0]'(by omega)).pr = z := ⟨_, rfl⟩
      simp only [he0] at hc0 hz ⊢
      have hcb := fun (W : World) (hW : Below W1.heap.size W1 W) => blkT_calls body ihb F W (.slice a2 body.length cap2) (d : Int) (hF.below (bt hb1 hW)) (ht.below (bt hb1 hW) (Nat.le_refl _)) hbody.2 (by rw [clip_nat hd]; show (blockB d (St.lns body (dn d))).size ≤ _; omega) (hxb.below hF (bt hb1 hW) (Nat.le_refl _))
      simp only [clip_nat hd] at hcb
      have hbe : St.blk body d = blockB d (St.lns body (dn d)) := rfl
      simp only [hbe] at hcb
      obtain ⟨bb, hbb⟩ : ∃ z, blockB d (St.lns body (dn d)) = z := ⟨_, rfl⟩
      simp only [hbb] at hcb hz ⊢
      have HCB := Lib.hid hcb
      clear hcb hbe
      have hcy := fun (W : World) (hW : Below W1.heap.size W1 W) => blkT_calls (y :: z9 :: r9) ihe F W (.slice a3 (y :: z9 :: r9).length cap3) (d : Int) (hF.below (bt hb1 hW)) (ht.below (bt hb1 hW) (Nat.le_refl _)) hels.2 (by rw [clip_nat hd]; show (blockB d (St.lns (y :: z9 :: r9) (dn d))).size ≤ _; omega) (hxe.below hF (bt hb1 hW) (Nat.le_refl _))
      simp only [clip_nat hd] at hcy
      have hyb : St.blk (y :: z9 :: r9) d = blockB d (St.lns (y :: z9 :: r9) (dn d)) := rfl
      simp only [hyb] at hcy
      obtain ⟨ye, hye⟩ : ∃ z, blockB d (St.lns (y :: z9 :: r9) (dn d)) = z := ⟨_, rfl⟩
      simp only [hye] at hcy hz ⊢
      clear hyb
      obtain ⟨r, hr2⟩ : ∃ r, (⟨#[105, 102, 32]⟩ : ByteArray) ++ x ++ ⟨#[32]⟩ ++ bb ++ ((⟨#[32, 101, 108, 115, 101, 32]⟩ : ByteArray) ++ ye) = r := ⟨_, rfl⟩
      rw [hr2]
      have HR := Lib.hid hr2
      have HC0 : Hid (∀ W, Below W1.heap.size W1 W → Calls Tryz.prog 42 #[.int .i64 0, .pointer (some ⟨w.heap.size, 0, none⟩)] W (Gives W (.string x))) := Lib.hid hc0
      simp only [List.length_cons] at HW1 hbx1 hcy
      have HCY := Lib.hid hcy
      have hz' := hz
      clear hr hx hxb hxe hargs hbody hels h19 hk hname harg hsz e1 hr2 hF ht hleast hmost hL hb1 ihb ihe hc0 he0 hbb hz' hye hcy
      go_enter Tryz.func22, Tryz.ntmps22
      go_upto_region 2 with fail
      rw [HW1.out]
      have y0 := hbx1.2 0 (by simp); have y1 := hbx1.2 1 (by simp); have y2 := hbx1.2 2 (by simp); have y3 := hbx1.2 3 (by simp); have y4 := hbx1.2 4 (by simp); have y5 := hbx1.2 5 (by simp); simp only [cqs, cqz] at y0 y1 y2 y3 y4 y5
      go_upto_region 24 with fail
      have K {f : FuncId} {args : Array Value} {u : Value} (h : ∀ w', Below W1.heap.size W1 w' → Calls Tryz.prog f args w' (Gives w' u)) (p : Regrown) : Calls Tryz.prog f args (grow (redrawn W1 p.d) p.os) fun e w3 => e = .returned u ∧ ∃ p : Regrown, w3 = grow (redrawn W1 p.d) p.os := regrown_gives (fun w3 hb => h w3 hb) p
      have G1 := Lib.hid (K HC0.out)
      have G2 := Lib.hid (K HCB.out)
      clear K
      have c0 := fun d os => cell_regrown y0 d os; have c1 := fun d os => cell_regrown y1 d os; have c2 := fun d os => cell_regrown y2 d os; have c3 := fun d os => cell_regrown y3 d os; have c4 := fun d os => cell_regrown y4 d os; have c5 := fun d os => cell_regrown y5 d os
      refine wp_region_quiet_below (by kernel_rfl) (by kernel_rfl) ?_
      repeat (go_big_quiet_step (first | with_reducible exact G1.out _ | with_reducible exact G2.out _))
      refine wpQuiet_nil ?_
      intro w6 hw6
      have hb6 := below_of_regrown hw6
      clear hw6
      clear y0 y1 y2 y3 y4 y5 c0 c1 c2 c3 c4 c5 G1 G2
      have hbx6 := hbx1.below hb6 hbx1.1
      have y0 := hbx6.2 0 (by simp); have y1 := hbx6.2 1 (by simp); have y2 := hbx6.2 2 (by simp); have y3 := hbx6.2 3 (by simp); have y4 := hbx6.2 4 (by simp); have y5 := hbx6.2 5 (by simp); simp only [cqs, cqz] at y0 y1 y2 y3 y4 y5
      have hm1 : ¬ ((r9.length : Int) + 1 + 1 = 1) := by omega
      have hm2 : (0 : Int) < (r9.length : Int) + 1 + 1 := by omega
      have HCL := Lib.hid (HCY.out w6 hb6)
      have HB6 := Lib.hid hb6
      clear hbx6 hb6 hbx1
      go_wp2_with (go_at_call 10; (with_reducible refine (HCL.out).mono ?_); rintro e w7 ⟨rfl, hb7⟩)
      go_ret
      exact ⟨ret_str HR.out, bt HB1.out (bt HB6.out hb7)⟩
  · have hL : args.length = 1 := by
      simp [partsOf] at hleast hmost; omega
    have e1 : lnE 10 s (Ex.prs args) (blockB d (St.lns body (dn d))) (elsB d (oneIf els) (St.lns els d) (St.lns els (dn d))) = (⟨#[119, 104, 105, 108, 101, 32]⟩ : ByteArray) ++ argB (Ex.prs args) 0 ++ ⟨#[32]⟩ ++ blockB d (St.lns body (dn d)) := rfl
    rw [e1, argB_get (show 0 < args.length by omega)] at hsz ⊢
    have hz := hsz
    simp only [ByteArray.size_append] at hz
    have hc0 := harg 0 (by omega) (by omega)
    obtain ⟨x, he0⟩ : ∃ z, (args[0]'(by omega)).pr = z := ⟨_, rfl⟩
    simp only [he0] at hc0 hz ⊢
    have hcb := fun (W : World) (hW : Below W1.heap.size W1 W) => blkT_calls body ihb F W (.slice a2 body.length cap2) (d : Int) (hF.below (bt hb1 hW)) (ht.below (bt hb1 hW) (Nat.le_refl _)) hbody.2 (by rw [clip_nat hd]; show (blockB d (St.lns body (dn d))).size ≤ _; omega) (hxb.below hF (bt hb1 hW) (Nat.le_refl _))
    simp only [clip_nat hd] at hcb
    have hbe : St.blk body d = blockB d (St.lns body (dn d)) := rfl
    simp only [hbe] at hcb
    obtain ⟨bb, hbb⟩ : ∃ z, blockB d (St.lns body (dn d)) = z := ⟨_, rfl⟩
    simp only [hbb] at hcb hz ⊢
    have HCB := Lib.hid hcb
    clear hcb hbe
    obtain ⟨r, hr2⟩ : ∃ r, (⟨#[119, 104, 105, 108, 101, 32]⟩ : ByteArray) ++ x ++ ⟨#[32]⟩ ++ bb = r := ⟨_, rfl⟩
    rw [hr2]
    have HR := Lib.hid hr2
    have HC0 : Hid (∀ W, Below W1.heap.size W1 W → Calls Tryz.prog 42 #[.int .i64 0, .pointer (some ⟨w.heap.size, 0, none⟩)] W (Gives W (.string x))) := Lib.hid hc0
    clear hr hx hxb hxe hargs hbody hels h19 hk hname harg hsz e1 hr2 hF ht hleast hmost hL hb1 ihb ihe hc0 he0 hbb
    go_enter Tryz.func22, Tryz.ntmps22
    go_upto_region 2 with fail
    rw [HW1.out]
    have y0 := hbx1.2 0 (by simp); have y1 := hbx1.2 1 (by simp); have y2 := hbx1.2 2 (by simp); have y3 := hbx1.2 3 (by simp); have y4 := hbx1.2 4 (by simp); have y5 := hbx1.2 5 (by simp); simp only [cqs, cqz] at y0 y1 y2 y3 y4 y5
    go_upto_region 31 with fail
    have K {f : FuncId} {args : Array Value} {u : Value} (h : ∀ w', Below W1.heap.size W1 w' → Calls Tryz.prog f args w' (Gives w' u)) (p : Regrown) : Calls Tryz.prog f args (grow (redrawn W1 p.d) p.os) fun e w3 => e = .returned u ∧ ∃ p : Regrown, w3 = grow (redrawn W1 p.d) p.os := regrown_gives (fun w3 hb => h w3 hb) p
    have G1 := Lib.hid (K HC0.out)
    have G2 := Lib.hid (K HCB.out)
    clear K hbx1
    have c0 := fun d os => cell_regrown y0 d os; have c1 := fun d os => cell_regrown y1 d os; have c2 := fun d os => cell_regrown y2 d os; have c3 := fun d os => cell_regrown y3 d os; have c4 := fun d os => cell_regrown y4 d os; have c5 := fun d os => cell_regrown y5 d os
    refine wp_region_quiet_below (by kernel_rfl) (by kernel_rfl) ?_
    repeat (go_big_quiet_step (first | with_reducible exact G1.out _ | with_reducible exact G2.out _))
    refine wpQuiet_nil ?_
    intro w6 hw6
    have hb6 := below_of_regrown hw6
    clear hw6
    go_wp2_with fail
    go_ret
    exact ⟨ret_str HR.out, bt HB1.out hb6⟩
  · have hL : args.length = 1 := by
      simp [partsOf] at hleast hmost; omega
    have e1 : lnE 11 s (Ex.prs args) (blockB d (St.lns body (dn d))) (elsB d (oneIf els) (St.lns els d) (St.lns els (dn d))) = (⟨#[101, 97, 99, 104, 32]⟩ : ByteArray) ++ s ++ ⟨#[32, 105, 110, 32]⟩ ++ argB (Ex.prs args) 0 ++ ⟨#[32]⟩ ++ blockB d (St.lns body (dn d)) := rfl
    rw [e1, argB_get (show 0 < args.length by omega)] at hsz ⊢
    have hz := hsz
    simp only [ByteArray.size_append] at hz
    have hc0 := harg 0 (by omega) (by omega)
    obtain ⟨x, he0⟩ : ∃ z, (args[0]'(by omega)).pr = z := ⟨_, rfl⟩
    simp only [he0] at hc0 hz ⊢
    have hcb := fun (W : World) (hW : Below W1.heap.size W1 W) => blkT_calls body ihb F W (.slice a2 body.length cap2) (d : Int) (hF.below (bt hb1 hW)) (ht.below (bt hb1 hW) (Nat.le_refl _)) hbody.2 (by rw [clip_nat hd]; show (blockB d (St.lns body (dn d))).size ≤ _; omega) (hxb.below hF (bt hb1 hW) (Nat.le_refl _))
    simp only [clip_nat hd] at hcb
    have hbe : St.blk body d = blockB d (St.lns body (dn d)) := rfl
    simp only [hbe] at hcb
    obtain ⟨bb, hbb⟩ : ∃ z, blockB d (St.lns body (dn d)) = z := ⟨_, rfl⟩
    simp only [hbb] at hcb hz ⊢
    have HCB := Lib.hid hcb
    clear hcb hbe
    obtain ⟨r, hr2⟩ : ∃ r, (⟨#[101, 97, 99, 104, 32]⟩ : ByteArray) ++ s ++ ⟨#[32, 105, 110, 32]⟩ ++ x ++ ⟨#[32]⟩ ++ bb = r := ⟨_, rfl⟩
    rw [hr2]
    have HR := Lib.hid hr2
    have HC0 : Hid (∀ W, Below W1.heap.size W1 W → Calls Tryz.prog 42 #[.int .i64 0, .pointer (some ⟨w.heap.size, 0, none⟩)] W (Gives W (.string x))) := Lib.hid hc0
    clear hr hx hxb hxe hargs hbody hels h19 hk hname harg hsz e1 hr2 hF ht hleast hmost hL hb1 ihb ihe hc0 he0 hbb
    go_enter Tryz.func22, Tryz.ntmps22
    go_upto_region 2 with fail
    rw [HW1.out]
    have y0 := hbx1.2 0 (by simp); have y1 := hbx1.2 1 (by simp); have y2 := hbx1.2 2 (by simp); have y3 := hbx1.2 3 (by simp); have y4 := hbx1.2 4 (by simp); have y5 := hbx1.2 5 (by simp); simp only [cqs, cqz] at y0 y1 y2 y3 y4 y5
    go_upto_region 33 with fail
    have K {f : FuncId} {args : Array Value} {u : Value} (h : ∀ w', Below W1.heap.size W1 w' → Calls Tryz.prog f args w' (Gives w' u)) (p : Regrown) : Calls Tryz.prog f args (grow (redrawn W1 p.d) p.os) fun e w3 => e = .returned u ∧ ∃ p : Regrown, w3 = grow (redrawn W1 p.d) p.os := regrown_gives (fun w3 hb => h w3 hb) p
    have G1 := Lib.hid (K HC0.out)
    have G2 := Lib.hid (K HCB.out)
    clear K hbx1
    have c0 := fun d os => cell_regrown y0 d os; have c1 := fun d os => cell_regrown y1 d os; have c2 := fun d os => cell_regrown y2 d os; have c3 := fun d os => cell_regrown y3 d os; have c4 := fun d os => cell_regrown y4 d os; have c5 := fun d os => cell_regrown y5 d os
    refine wp_region_quiet_below (by kernel_rfl) (by kernel_rfl) ?_
    repeat (go_big_quiet_step (first | with_reducible exact G1.out _ | with_reducible exact G2.out _))
    refine wpQuiet_nil ?_
    intro w6 hw6
    have hb6 := below_of_regrown hw6
    clear hw6
    go_wp2_with fail
    go_ret
    exact ⟨ret_str HR.out, bt HB1.out hb6⟩
  · obtain ⟨x, rfl⟩ : ∃ x, args = [x] := by
      have hL : args.length = 1 := by
        simp [partsOf] at hleast hmost; omega
      match args, hL with
      | [x], _ => exact ⟨x, rfl⟩
    have e1 : lnE 12 s (Ex.prs [x]) (blockB d (St.lns body (dn d))) (elsB d (oneIf els) (St.lns els d) (St.lns els (dn d))) = ⟨#[114, 101, 116, 117, 114, 110]⟩ ++ ⟨#[32]⟩ ++ x.pr ++ ⟨#[59]⟩ := rfl
    rw [e1] at hsz ⊢
    have hz := hsz
    simp only [ByteArray.size_append] at hz
    have hss := fun (W : World) (hW : Below W1.heap.size W1 W) => simple12_calls n s x a cap a2 body.length cap2 a3 els.length cap3 F W (hF.below (bt hb1 hW)) (ht.below (bt hb1 hW) (Nat.le_refl _)) (hx.below hF (bt hb1 hW) (Nat.le_refl _)) (hargs x (by simp)).2 (by omega)
    have HS := Lib.hid hss
    obtain ⟨r, hr2⟩ : ∃ r, (⟨#[114, 101, 116, 117, 114, 110]⟩ : ByteArray) ++ ⟨#[32]⟩ ++ x.pr ++ ⟨#[59]⟩ = r := ⟨_, rfl⟩
    rw [hr2] at HS ⊢
    simp only [List.length_cons, List.length_nil, Nat.zero_add] at HW1 hbx1
    clear hr hx hxb hxe hargs hbody hels h19 hk hname harg hsz hz e1 hr2 hF ht hleast hmost hb1 ihb ihe hss
    go_enter Tryz.func22, Tryz.ntmps22
    go_upto_region 2 with fail
    rw [HW1.out]
    have y0 := hbx1.2 0 (by simp); have y1 := hbx1.2 1 (by simp); have y2 := hbx1.2 2 (by simp); have y3 := hbx1.2 3 (by simp); have y4 := hbx1.2 4 (by simp); have y5 := hbx1.2 5 (by simp); simp only [cqs, cqz] at y0 y1 y2 y3 y4 y5
    go_wp2_with (go_at_call 46; (with_reducible refine (HS.out _ (Below.refl _ _)).mono ?_); rintro e w1 ⟨rfl, hb⟩)
    go_ret
    exact ⟨rfl, bt HB1.out hb⟩
  · have hL : args = [] := List.eq_nil_of_length_eq_zero (by simp [partsOf] at hmost; simpa using hmost)
    subst hL
    have e1 : lnE 13 s (Ex.prs []) (blockB d (St.lns body (dn d))) (elsB d (oneIf els) (St.lns els d) (St.lns els (dn d))) = ⟨#[115, 116, 111, 112]⟩ ++ ⟨#[59]⟩ := rfl
    rw [e1] at hsz ⊢
    have HS := Lib.hid (fun W => simple13_calls n s a cap a2 body.length cap2 a3 els.length cap3 W)
    obtain ⟨r, hr2⟩ : ∃ r, (⟨#[115, 116, 111, 112]⟩ : ByteArray) ++ ⟨#[59]⟩ = r := ⟨_, rfl⟩
    rw [hr2] at HS ⊢
    simp only [List.length_nil] at HW1 hbx1
    clear hr hx hxb hxe hargs hbody hels h19 hk hname harg hsz e1 hr2 hF ht hleast hmost hb1 ihb ihe
    go_enter Tryz.func22, Tryz.ntmps22
    go_upto_region 2 with fail
    rw [HW1.out]
    have y0 := hbx1.2 0 (by simp); have y1 := hbx1.2 1 (by simp); have y2 := hbx1.2 2 (by simp); have y3 := hbx1.2 3 (by simp); have y4 := hbx1.2 4 (by simp); have y5 := hbx1.2 5 (by simp); simp only [cqs, cqz] at y0 y1 y2 y3 y4 y5
    go_wp2_with (go_at_call 46; (with_reducible refine (HS.out _).mono ?_); rintro e w1 ⟨rfl, hb⟩)
    go_ret
    exact ⟨rfl, bt HB1.out hb⟩
  · have hL : args = [] := List.eq_nil_of_length_eq_zero (by simp [partsOf] at hmost; simpa using hmost)
    subst hL
    have e1 : lnE 14 s (Ex.prs []) (blockB d (St.lns body (dn d))) (elsB d (oneIf els) (St.lns els d) (St.lns els (dn d))) = ⟨#[119, 105, 110]⟩ ++ ⟨#[59]⟩ := rfl
    rw [e1] at hsz ⊢
    have HS := Lib.hid (fun W => simple14_calls n s a cap a2 body.length cap2 a3 els.length cap3 W)
    obtain ⟨r, hr2⟩ : ∃ r, (⟨#[119, 105, 110]⟩ : ByteArray) ++ ⟨#[59]⟩ = r := ⟨_, rfl⟩
    rw [hr2] at HS ⊢
    simp only [List.length_nil] at HW1 hbx1
    clear hr hx hxb hxe hargs hbody hels h19 hk hname harg hsz e1 hr2 hF ht hleast hmost hb1 ihb ihe
    go_enter Tryz.func22, Tryz.ntmps22
    go_upto_region 2 with fail
    rw [HW1.out]
    have y0 := hbx1.2 0 (by simp); have y1 := hbx1.2 1 (by simp); have y2 := hbx1.2 2 (by simp); have y3 := hbx1.2 3 (by simp); have y4 := hbx1.2 4 (by simp); have y5 := hbx1.2 5 (by simp); simp only [cqs, cqz] at y0 y1 y2 y3 y4 y5
    go_wp2_with (go_at_call 46; (with_reducible refine (HS.out _).mono ?_); rintro e w1 ⟨rfl, hb⟩)
    go_ret
    exact ⟨rfl, bt HB1.out hb⟩
  · have hL : args = [] := List.eq_nil_of_length_eq_zero (by simp [partsOf] at hmost; simpa using hmost)
    subst hL
    have e1 : lnE 15 s (Ex.prs []) (blockB d (St.lns body (dn d))) (elsB d (oneIf els) (St.lns els d) (St.lns els (dn d))) = ⟨#[108, 111, 115, 101]⟩ ++ ⟨#[59]⟩ := rfl
    rw [e1] at hsz ⊢
    have HS := Lib.hid (fun W => simple15_calls n s a cap a2 body.length cap2 a3 els.length cap3 W)
    obtain ⟨r, hr2⟩ : ∃ r, (⟨#[108, 111, 115, 101]⟩ : ByteArray) ++ ⟨#[59]⟩ = r := ⟨_, rfl⟩
    rw [hr2] at HS ⊢
    simp only [List.length_nil] at HW1 hbx1
    clear hr hx hxb hxe hargs hbody hels h19 hk hname harg hsz e1 hr2 hF ht hleast hmost hb1 ihb ihe
    go_enter Tryz.func22, Tryz.ntmps22
    go_upto_region 2 with fail
    rw [HW1.out]
    have y0 := hbx1.2 0 (by simp); have y1 := hbx1.2 1 (by simp); have y2 := hbx1.2 2 (by simp); have y3 := hbx1.2 3 (by simp); have y4 := hbx1.2 4 (by simp); have y5 := hbx1.2 5 (by simp); simp only [cqs, cqz] at y0 y1 y2 y3 y4 y5
    go_wp2_with (go_at_call 46; (with_reducible refine (HS.out _).mono ?_); rintro e w1 ⟨rfl, hb⟩)
    go_ret
    exact ⟨rfl, bt HB1.out hb⟩
  · obtain ⟨x, rfl⟩ : ∃ x, args = [x] := by
      have hL : args.length = 1 := by
        simp [partsOf] at hleast hmost; omega
      match args, hL with
      | [x], _ => exact ⟨x, rfl⟩
    have e1 : lnE 16 s (Ex.prs [x]) (blockB d (St.lns body (dn d))) (elsB d (oneIf els) (St.lns els d) (St.lns els (dn d))) = ⟨#[97, 119, 97, 114, 100]⟩ ++ ⟨#[32]⟩ ++ x.pr ++ ⟨#[59]⟩ := rfl
    rw [e1] at hsz ⊢
    have hz := hsz
    simp only [ByteArray.size_append] at hz
    have hss := fun (W : World) (hW : Below W1.heap.size W1 W) => simple16_calls n s x a cap a2 body.length cap2 a3 els.length cap3 F W (hF.below (bt hb1 hW)) (ht.below (bt hb1 hW) (Nat.le_refl _)) (hx.below hF (bt hb1 hW) (Nat.le_refl _)) (hargs x (by simp)).2 (by omega)
    have HS := Lib.hid hss
    obtain ⟨r, hr2⟩ : ∃ r, (⟨#[97, 119, 97, 114, 100]⟩ : ByteArray) ++ ⟨#[32]⟩ ++ x.pr ++ ⟨#[59]⟩ = r := ⟨_, rfl⟩
    rw [hr2] at HS ⊢
    simp only [List.length_cons, List.length_nil, Nat.zero_add] at HW1 hbx1
    clear hr hx hxb hxe hargs hbody hels h19 hk hname harg hsz hz e1 hr2 hF ht hleast hmost hb1 ihb ihe hss
    go_enter Tryz.func22, Tryz.ntmps22
    go_upto_region 2 with fail
    rw [HW1.out]
    have y0 := hbx1.2 0 (by simp); have y1 := hbx1.2 1 (by simp); have y2 := hbx1.2 2 (by simp); have y3 := hbx1.2 3 (by simp); have y4 := hbx1.2 4 (by simp); have y5 := hbx1.2 5 (by simp); simp only [cqs, cqz] at y0 y1 y2 y3 y4 y5
    go_wp2_with (go_at_call 46; (with_reducible refine (HS.out _ (Below.refl _ _)).mono ?_); rintro e w1 ⟨rfl, hb⟩)
    go_ret
    exact ⟨rfl, bt HB1.out hb⟩
  · have hL : args.length = 1 := by
      simp [partsOf] at hleast hmost; omega
    have e1 : lnE 17 s (Ex.prs args) (blockB d (St.lns body (dn d))) (elsB d (oneIf els) (St.lns els d) (St.lns els (dn d))) = (⟨#[115, 116, 97, 114, 116, 32]⟩ : ByteArray) ++ s ++ ⟨#[32, 105, 110, 32]⟩ ++ argB (Ex.prs args) 0 ++ ⟨#[59]⟩ := rfl
    rw [e1, argB_get (show 0 < args.length by omega)] at hsz ⊢
    have hz := hsz
    simp only [ByteArray.size_append] at hz
    have hc0 := harg 0 (by omega) (by omega)
    obtain ⟨x, he0⟩ : ∃ z, (args[0]'(by omega)).pr = z := ⟨_, rfl⟩
    simp only [he0] at hc0 hz ⊢
    obtain ⟨r, hr2⟩ : ∃ r, (⟨#[115, 116, 97, 114, 116, 32]⟩ : ByteArray) ++ s ++ ⟨#[32, 105, 110, 32]⟩ ++ x ++ ⟨#[59]⟩ = r := ⟨_, rfl⟩
    rw [hr2]
    have HR := Lib.hid hr2
    have HC0 : Hid (∀ W, Below W1.heap.size W1 W → Calls Tryz.prog 42 #[.int .i64 0, .pointer (some ⟨w.heap.size, 0, none⟩)] W (Gives W (.string x))) := Lib.hid hc0
    clear hr hx hxb hxe hargs hbody hels h19 hk hname harg hsz e1 hr2 hF ht hleast hmost hL hb1 ihb ihe hc0 he0
    go_enter Tryz.func22, Tryz.ntmps22
    go_upto_region 2 with fail
    rw [HW1.out]
    have y0 := hbx1.2 0 (by simp); have y1 := hbx1.2 1 (by simp); have y2 := hbx1.2 2 (by simp); have y3 := hbx1.2 3 (by simp); have y4 := hbx1.2 4 (by simp); have y5 := hbx1.2 5 (by simp); simp only [cqs, cqz] at y0 y1 y2 y3 y4 y5
    go_upto_region 35 with fail
    have K {f : FuncId} {args : Array Value} {u : Value} (h : ∀ w', Below W1.heap.size W1 w' → Calls Tryz.prog f args w' (Gives w' u)) (p : Regrown) : Calls Tryz.prog f args (grow (redrawn W1 p.d) p.os) fun e w3 => e = .returned u ∧ ∃ p : Regrown, w3 = grow (redrawn W1 p.d) p.os := regrown_gives (fun w3 hb => h w3 hb) p
    have G1 := Lib.hid (K HC0.out)
    clear K hbx1
    have c0 := fun d os => cell_regrown y0 d os; have c1 := fun d os => cell_regrown y1 d os; have c2 := fun d os => cell_regrown y2 d os; have c3 := fun d os => cell_regrown y3 d os; have c4 := fun d os => cell_regrown y4 d os; have c5 := fun d os => cell_regrown y5 d os
    refine wp_region_quiet_below (by kernel_rfl) (by kernel_rfl) ?_
    repeat (go_big_quiet_step (first | with_reducible exact G1.out _))
    refine wpQuiet_nil ?_
    intro w6 hw6
    have hb6 := below_of_regrown hw6
    clear hw6
    go_wp2_with fail
    go_ret
    exact ⟨ret_str HR.out, bt HB1.out hb6⟩
  · have hL : args.length = 0 := by
      have h := hmost
      simp [partsOf] at h
      simp [h]
    have e1 : lnE 18 s (Ex.prs args) (blockB d (St.lns body (dn d))) (elsB d (oneIf els) (St.lns els d) (St.lns els (dn d))) = (⟨#[104, 97, 108, 116, 32]⟩ : ByteArray) ++ s ++ ⟨#[59]⟩ := rfl
    rw [e1] at hsz ⊢
    have hz := hsz
    simp only [ByteArray.size_append] at hz
    obtain ⟨r, hr2⟩ : ∃ r, (⟨#[104, 97, 108, 116, 32]⟩ : ByteArray) ++ s ++ ⟨#[59]⟩ = r := ⟨_, rfl⟩
    rw [hr2]
    have HR := Lib.hid hr2
    clear hr hx hxb hxe hargs hbody hels h19 hk hname harg hsz e1 hr2 hF ht hleast hmost hL hb1 ihb ihe
    go_enter Tryz.func22, Tryz.ntmps22
    go_upto_region 2 with fail
    rw [HW1.out]
    have y0 := hbx1.2 0 (by simp); have y1 := hbx1.2 1 (by simp); have y2 := hbx1.2 2 (by simp); have y3 := hbx1.2 3 (by simp); have y4 := hbx1.2 4 (by simp); have y5 := hbx1.2 5 (by simp); simp only [cqs, cqz] at y0 y1 y2 y3 y4 y5
    go_wp2
    go_ret
    exact ⟨ret_str HR.out, HB1.out⟩
  · have hL : args.length = 1 := by
      simp [partsOf] at hleast hmost; omega
    have e1 : lnE 19 s (Ex.prs args) (blockB d (St.lns body (dn d))) (elsB d (oneIf els) (St.lns els d) (St.lns els (dn d))) = argB (Ex.prs args) 0 ++ ⟨#[59]⟩ := rfl
    rw [e1, argB_get (show 0 < args.length by omega)] at hsz ⊢
    have hz := hsz
    simp only [ByteArray.size_append] at hz
    have hc0 := harg 0 (by omega) (by omega)
    obtain ⟨x, he0⟩ : ∃ z, (args[0]'(by omega)).pr = z := ⟨_, rfl⟩
    simp only [he0] at hc0 hz ⊢
    obtain ⟨r, hr2⟩ : ∃ r, x ++ ⟨#[59]⟩ = r := ⟨_, rfl⟩
    rw [hr2]
    have HR := Lib.hid hr2
    have HC0 : Hid (∀ W, Below W1.heap.size W1 W → Calls Tryz.prog 42 #[.int .i64 0, .pointer (some ⟨w.heap.size, 0, none⟩)] W (Gives W (.string x))) := Lib.hid hc0
    clear hr hx hxb hxe hargs hbody hels h19 hk hname harg hsz e1 hr2 hF ht hleast hmost hL hb1 ihb ihe hc0 he0
    go_enter Tryz.func22, Tryz.ntmps22
    go_upto_region 2 with fail
    rw [HW1.out]
    have y0 := hbx1.2 0 (by simp); have y1 := hbx1.2 1 (by simp); have y2 := hbx1.2 2 (by simp); have y3 := hbx1.2 3 (by simp); have y4 := hbx1.2 4 (by simp); have y5 := hbx1.2 5 (by simp); simp only [cqs, cqz] at y0 y1 y2 y3 y4 y5
    go_wp2_with (go_at_call 42; (with_reducible refine (HC0.out _ (Below.refl _ _)).mono ?_); rintro e w1 ⟨rfl, hb⟩)
    go_ret
    exact ⟨ret_str HR.out, bt HB1.out hb⟩
  · obtain ⟨x, rfl⟩ : ∃ x, args = [x] := by
      have hL : args.length = 1 := by
        simp [partsOf] at hleast hmost; omega
      match args, hL with
      | [x], _ => exact ⟨x, rfl⟩
    have e1 : lnE 20 s (Ex.prs [x]) (blockB d (St.lns body (dn d))) (elsB d (oneIf els) (St.lns els d) (St.lns els (dn d))) = ⟨#[116, 114, 97, 118, 101, 108]⟩ ++ ⟨#[32]⟩ ++ x.pr ++ ⟨#[59]⟩ := rfl
    rw [e1] at hsz ⊢
    have hz := hsz
    simp only [ByteArray.size_append] at hz
    have hss := fun (W : World) (hW : Below W1.heap.size W1 W) => simple20_calls n s x a cap a2 body.length cap2 a3 els.length cap3 F W (hF.below (bt hb1 hW)) (ht.below (bt hb1 hW) (Nat.le_refl _)) (hx.below hF (bt hb1 hW) (Nat.le_refl _)) (hargs x (by simp)).2 (by omega)
    have HS := Lib.hid hss
    obtain ⟨r, hr2⟩ : ∃ r, (⟨#[116, 114, 97, 118, 101, 108]⟩ : ByteArray) ++ ⟨#[32]⟩ ++ x.pr ++ ⟨#[59]⟩ = r := ⟨_, rfl⟩
    rw [hr2] at HS ⊢
    simp only [List.length_cons, List.length_nil, Nat.zero_add] at HW1 hbx1
    clear hr hx hxb hxe hargs hbody hels h19 hk hname harg hsz hz e1 hr2 hF ht hleast hmost hb1 ihb ihe hss
    go_enter Tryz.func22, Tryz.ntmps22
    go_upto_region 2 with fail
    rw [HW1.out]
    have y0 := hbx1.2 0 (by simp); have y1 := hbx1.2 1 (by simp); have y2 := hbx1.2 2 (by simp); have y3 := hbx1.2 3 (by simp); have y4 := hbx1.2 4 (by simp); have y5 := hbx1.2 5 (by simp); simp only [cqs, cqz] at y0 y1 y2 y3 y4 y5
    go_wp2_with (go_at_call 46; (with_reducible refine (HS.out _ (Below.refl _ _)).mono ?_); rintro e w1 ⟨rfl, hb⟩)
    go_ret
    exact ⟨rfl, bt HB1.out hb⟩
  · have hL : args = [] := List.eq_nil_of_length_eq_zero (by simp [partsOf] at hmost; simpa using hmost)
    subst hL
    have e1 : lnE 21 s (Ex.prs []) (blockB d (St.lns body (dn d))) (elsB d (oneIf els) (St.lns els d) (St.lns els (dn d))) = ⟨#[108, 111, 111, 107]⟩ ++ ⟨#[59]⟩ := rfl
    rw [e1] at hsz ⊢
    have HS := Lib.hid (fun W => simple21_calls n s a cap a2 body.length cap2 a3 els.length cap3 W)
    obtain ⟨r, hr2⟩ : ∃ r, (⟨#[108, 111, 111, 107]⟩ : ByteArray) ++ ⟨#[59]⟩ = r := ⟨_, rfl⟩
    rw [hr2] at HS ⊢
    simp only [List.length_nil] at HW1 hbx1
    clear hr hx hxb hxe hargs hbody hels h19 hk hname harg hsz e1 hr2 hF ht hleast hmost hb1 ihb ihe
    go_enter Tryz.func22, Tryz.ntmps22
    go_upto_region 2 with fail
    rw [HW1.out]
    have y0 := hbx1.2 0 (by simp); have y1 := hbx1.2 1 (by simp); have y2 := hbx1.2 2 (by simp); have y3 := hbx1.2 3 (by simp); have y4 := hbx1.2 4 (by simp); have y5 := hbx1.2 5 (by simp); simp only [cqs, cqz] at y0 y1 y2 y3 y4 y5
    go_wp2_with (go_at_call 46; (with_reducible refine (HS.out _).mono ?_); rintro e w1 ⟨rfl, hb⟩)
    go_ret
    exact ⟨rfl, bt HB1.out hb⟩
  · obtain ⟨x, rfl⟩ : ∃ x, args = [x] := by
      have hL : args.length = 1 := by
        simp [partsOf] at hleast hmost; omega
      match args, hL with
      | [x], _ => exact ⟨x, rfl⟩
    have e1 : lnE 22 s (Ex.prs [x]) (blockB d (St.lns body (dn d))) (elsB d (oneIf els) (St.lns els d) (St.lns els (dn d))) = ⟨#[108, 105, 115, 116]⟩ ++ ⟨#[32]⟩ ++ x.pr ++ ⟨#[59]⟩ := rfl
    rw [e1] at hsz ⊢
    have hz := hsz
    simp only [ByteArray.size_append] at hz
    have hss := fun (W : World) (hW : Below W1.heap.size W1 W) => simple22_calls n s x a cap a2 body.length cap2 a3 els.length cap3 F W (hF.below (bt hb1 hW)) (ht.below (bt hb1 hW) (Nat.le_refl _)) (hx.below hF (bt hb1 hW) (Nat.le_refl _)) (hargs x (by simp)).2 (by omega)
    have HS := Lib.hid hss
    obtain ⟨r, hr2⟩ : ∃ r, (⟨#[108, 105, 115, 116]⟩ : ByteArray) ++ ⟨#[32]⟩ ++ x.pr ++ ⟨#[59]⟩ = r := ⟨_, rfl⟩
    rw [hr2] at HS ⊢
    simp only [List.length_cons, List.length_nil, Nat.zero_add] at HW1 hbx1
    clear hr hx hxb hxe hargs hbody hels h19 hk hname harg hsz hz e1 hr2 hF ht hleast hmost hb1 ihb ihe hss
    go_enter Tryz.func22, Tryz.ntmps22
    go_upto_region 2 with fail
    rw [HW1.out]
    have y0 := hbx1.2 0 (by simp); have y1 := hbx1.2 1 (by simp); have y2 := hbx1.2 2 (by simp); have y3 := hbx1.2 3 (by simp); have y4 := hbx1.2 4 (by simp); have y5 := hbx1.2 5 (by simp); simp only [cqs, cqz] at y0 y1 y2 y3 y4 y5
    go_wp2_with (go_at_call 46; (with_reducible refine (HS.out _ (Below.refl _ _)).mono ?_); rintro e w1 ⟨rfl, hb⟩)
    go_ret
    exact ⟨rfl, bt HB1.out hb⟩
end Go.Proofs.YtnbfadgclffgkaaGreatDoor
