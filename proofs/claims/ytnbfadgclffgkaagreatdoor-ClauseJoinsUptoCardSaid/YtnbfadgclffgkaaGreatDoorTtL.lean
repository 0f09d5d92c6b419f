/- The walk of clewref12.line, of a statement without blocks. Printed by gen-tt2.py. -/
import Derived.Test.YtnbfadgclffgkaaGreatDoorParte4b5c37b
namespace Go.Proofs.YtnbfadgclffgkaaGreatDoor
open Go.RowKit Go.Sort
def lnX (k : Int) (s : ByteArray) (ps : List (Int × ByteArray)) : ByteArray :=
  if k = 1 then ⟨#[115, 97, 121, 32]⟩ ++ sepB ⟨#[44, 32]⟩ (ps.map Prod.snd)
  else if k = 2 then ⟨#[108, 101, 116, 32]⟩ ++ s ++ ⟨#[32, 61, 32]⟩ ++ argB ps 0
  else if k = 3 then s ++ ⟨#[32, 61, 32]⟩ ++ argB ps 0
  else if k = 4 then (pt ps 0 8 ++ ⟨#[46]⟩ ++ s) ++ ⟨#[32, 61, 32]⟩ ++ argB ps 1
  else if k = 5 then ⟨#[115, 101, 116, 32]⟩ ++ argB ps 0 ++ ⟨#[32, 105, 115, 32]⟩ ++ s
  else if k = 6 then ⟨#[117, 110, 115, 101, 116, 32]⟩ ++ argB ps 0 ++ ⟨#[32, 105, 115, 32]⟩ ++ s
  else if k = 7 then ⟨#[109, 111, 118, 101, 32]⟩ ++ argB ps 0 ++ ⟨#[32, 116, 111, 32]⟩ ++ argB ps 1
  else if k = 17 then ⟨#[115, 116, 97, 114, 116, 32]⟩ ++ s ++ ⟨#[32, 105, 110, 32]⟩ ++ argB ps 0
  else if k = 18 then ⟨#[104, 97, 108, 116, 32]⟩ ++ s
  else if k = 19 then argB ps 0
  else if ps = [] then wordB k
  else wordB k ++ ⟨#[32]⟩ ++ argB ps 0
theorem lnE_X (k : Int) (s : ByteArray) (ps : List (Int × ByteArray)) (b e : ByteArray) (h9 : k ≠ 9) (h10 : k ≠ 10) (h11 : k ≠ 11) : lnE k s ps b e = lnX k s ps ++ ⟨#[59]⟩ := by
  unfold lnE lnX
  by_cases c1 : k = 1
  · rw [if_pos c1, if_pos c1]
  rw [if_neg c1, if_neg c1]
  by_cases c2 : k = 2
  · rw [if_pos c2, if_pos c2]
  rw [if_neg c2, if_neg c2]
  by_cases c3 : k = 3
  · rw [if_pos c3, if_pos c3]
  rw [if_neg c3, if_neg c3]
  by_cases c4 : k = 4
  · rw [if_pos c4, if_pos c4]
  rw [if_neg c4, if_neg c4]
  by_cases c5 : k = 5
  · rw [if_pos c5, if_pos c5]
  rw [if_neg c5, if_neg c5]
  by_cases c6 : k = 6
  · rw [if_pos c6, if_pos c6]
  rw [if_neg c6, if_neg c6]
  by_cases c7 : k = 7
  · rw [if_pos c7, if_pos c7]
  rw [if_neg c7, if_neg c7]
  rw [if_neg h9, if_neg h10, if_neg h11]
  by_cases c17 : k = 17
  · rw [if_pos c17, if_pos c17]
  rw [if_neg c17, if_neg c17]
  by_cases c18 : k = 18
  · rw [if_pos c18, if_pos c18]
  rw [if_neg c18, if_neg c18]
  by_cases c19 : k = 19
  · rw [if_pos c19, if_pos c19]
  rw [if_neg c19, if_neg c19]
  by_cases hp : ps = []
  · rw [if_pos hp, if_pos hp]
  rw [if_neg hp, if_neg hp]
set_option maxRecDepth 100000 in
set_option maxHeartbeats 16000000 in
theorem lineR_calls (st : St) (h9 : st.kind ≠ 9) (h10 : st.kind ≠ 10) (h11 : st.kind ≠ 11) (F : Nat → Prop) (w : World) (cs : List Value) (hF : Inn F w) (hs : StOk st) (hsz : (lnX st.kind st.name (Ex.prs st.args)).size ≤ 1000000000000) (hr : RdSt F w st cs) :
    Calls Tryz.prog 25 #[.agg cs.toArray] w (Gives w (.string (lnX st.kind st.name (Ex.prs st.args)))) := by
  have harg0 := fun (i : Nat) (hi : i < st.args.length) (hz : st.args[i].pr.size ≤ 1000000000000) (hk : ¬ SaidK st.args[i].kind) (W : World) (hW : Below w.heap.size w W) => argR_calls st i hi F W cs (hF.below hW) (((stOk_eq st).1 hs).2.2.1 _ (List.getElem_mem hi)).2 hk hz (hr.below hF hW (Nat.le_refl _))
  obtain ⟨k, n, s, args, body, els⟩ := st
  obtain ⟨k', n', s', a, m, cap, a2, m2, cap2, a3, m3, cap3, rfl⟩ := hr.shape
  obtain ⟨rfl, rfl, rfl, -, -, hs64, hx, hxb, hxe⟩ := hr.parts
  obtain ⟨rfl, -, -, -⟩ := hx.opn
  obtain ⟨rfl, -, -, -⟩ := hxb.opn
  obtain ⟨rfl, -, -, -⟩ := hxe.opn
  simp only [St.kind, St.num, St.name, St.args, St.body, St.els] at *
  obtain ⟨hg, h19, hargs, -, -⟩ := (stOk_eq (.mk k n s args body els)).1 hs
  simp only [St.kind, St.num, St.name, St.args, St.body, St.els] at hg h19 hargs
  have hk := st_kind hg
  obtain ⟨-, hleast, hmost, -, -, hname⟩ := hg
  obtain ⟨W1, hW1⟩ : ∃ W1, w.alloc (.cells #[.int .i64 k, .int .i64 n, .string s, .slice a args.length cap, .slice a2 body.length cap2, .slice a3 els.length cap3] 27) = W1 := ⟨_, rfl⟩
  have hb1 : Below w.heap.size w W1 := by rw [← hW1]; exact (Below.refl _ _).alloc (Nat.le_refl _) _
  have hbx1 : BoxAt W1 w.heap.size [.int .i64 k, .int .i64 n, .string s, .slice a args.length cap, .slice a2 body.length cap2, .slice a3 els.length cap3] := by rw [← hW1]; exact BoxAt.new _ _ _
  have harg : ∀ (i : Nat) (hi : i < args.length), k ≠ 1 → args[i].pr.size ≤ 1000000000000 → ∀ W, Below W1.heap.size W1 W → Calls Tryz.prog 47 #[.agg #[.int .i64 k, .int .i64 n, .string s, .slice a args.length cap, .slice a2 body.length cap2, .slice a3 els.length cap3], .int .i64 i] W (Gives W (.string args[i].pr)) := fun i hi h1 hz W hW =>
    harg0 i hi hz (by have h := (hargs _ (List.getElem_mem hi)).1; exact h.resolve_left h1) W (bt hb1 hW)
  have HW1 := Lib.hid hW1
  have HB1 := Lib.hid hb1
  clear hW1 hs harg0
  rcases st_kinds k hk.1 hk.2 with rfl | rfl | rfl | rfl | rfl | rfl | rfl | rfl | rfl | rfl | rfl | rfl | rfl | rfl | rfl | rfl | rfl | rfl | rfl | rfl | rfl | rfl
  · have e1 : lnX 1 s (Ex.prs args) = (⟨#[115, 97, 121, 32]⟩ : ByteArray) ++ sepB ⟨#[44, 32]⟩ (args.map Ex.pr) := by
      have h : (Ex.prs args).map Prod.snd = args.map Ex.pr := by rw [Ex.prs_eq]; simp
      show (⟨#[115, 97, 121, 32]⟩ : ByteArray) ++ sepB ⟨#[44, 32]⟩ ((Ex.prs args).map Prod.snd) = _
      rw [h]
    rw [e1] at hsz ⊢
    have hz := hsz
    simp only [ByteArray.size_append] at hz
    have hci := fun (W : World) (hW : Below W1.heap.size W1 W) => itemsR_calls args F W (.slice a args.length cap) (hF.below (bt hb1 hW)) (fun e he => (hargs e he).2) (by omega) (hx.below hF (bt hb1 hW) (Nat.le_refl _))
    obtain ⟨x, hx2⟩ : ∃ z, sepB ⟨#[44, 32]⟩ (args.map Ex.pr) = z := ⟨_, rfl⟩
    simp only [hx2] at hci hz ⊢
    have HC := Lib.hid hci
    obtain ⟨r, hr2⟩ : ∃ r, (⟨#[115, 97, 121, 32]⟩ : ByteArray) ++ x = r := ⟨_, rfl⟩
    rw [hr2]
    have HR := Lib.hid hr2
    clear hr hx hxb hxe hargs h19 hk hname harg hsz e1 hr2 hF hleast hmost hb1 h9 h10 h11 hci hx2
    go_enter Tryz.func25, Tryz.ntmps25
    go_upto_region 1 with fail
    rw [HW1.out]
    have y0 := hbx1.2 0 (by simp); have y1 := hbx1.2 1 (by simp); have y2 := hbx1.2 2 (by simp); have y3 := hbx1.2 3 (by simp); have y4 := hbx1.2 4 (by simp); have y5 := hbx1.2 5 (by simp); simp only [cqs, cqz] at y0 y1 y2 y3 y4 y5
    go_wp2_with (go_at_call 48; (with_reducible refine (HC.out _ (Below.refl _ _)).mono ?_); rintro e w1 ⟨rfl, hb⟩)
    go_ret
    exact ⟨ret_str HR.out, bt HB1.out hb⟩
  · have hL : args.length = 1 := by
      simp [partsOf] at hleast hmost; omega
    have e1 : lnX 2 s (Ex.prs args) = (⟨#[108, 101, 116, 32]⟩ : ByteArray) ++ s ++ ⟨#[32, 61, 32]⟩ ++ argB (Ex.prs args) 0 := rfl
    rw [e1, argB_get (show 0 < args.length by omega)] at hsz ⊢
    have hz := hsz
    (try simp only [ByteArray.size_append] at hz)
    have hc0 := harg 0 (by omega) (by omega) (by omega)
    obtain ⟨x, he0⟩ : ∃ z, (args[0]'(by omega)).pr = z := ⟨_, rfl⟩
    simp only [he0] at hc0 hz ⊢
    obtain ⟨r, hr2⟩ : ∃ r, (⟨#[108, 101, 116, 32]⟩ : ByteArray) ++ s ++ ⟨#[32, 61, 32]⟩ ++ x = r := ⟨_, rfl⟩
    rw [hr2]
    have HR := Lib.hid hr2
    have HC0 : Hid (∀ W, Below W1.heap.size W1 W → Calls Tryz.prog 47 #[.agg #[.int .i64 2, .int .i64 n, .string s, .slice a args.length cap, .slice a2 body.length cap2, .slice a3 els.length cap3], .int .i64 0] W (Gives W (.string x))) := Lib.hid hc0
    clear hr hx hxb hxe hargs h19 hk hname harg hsz e1 hr2 hF hleast hmost hL hb1 h9 h10 h11 hc0 he0
    go_enter Tryz.func25, Tryz.ntmps25
    go_upto_region 1 with fail
    rw [HW1.out]
    have y0 := hbx1.2 0 (by simp); have y1 := hbx1.2 1 (by simp); have y2 := hbx1.2 2 (by simp); have y3 := hbx1.2 3 (by simp); have y4 := hbx1.2 4 (by simp); have y5 := hbx1.2 5 (by simp); simp only [cqs, cqz] at y0 y1 y2 y3 y4 y5
    go_upto_region 5 with fail
    have K {f : FuncId} {args : Array Value} {u : Value} (h : ∀ w', Below W1.heap.size W1 w' → Calls Tryz.prog f args w' (Gives w' u)) (p : Regrown) : Calls Tryz.prog f args (grow (redrawn W1 p.d) p.os) fun e w3 => e = .returned u ∧ ∃ p : Regrown, w3 = grow (redrawn W1 p.d) p.os := regrown_gives (fun w3 hb => h w3 hb) p
    have G1 := Lib.hid (K HC0.out)
    clear K hbx1
    have c0 := fun d os => cell_regrown y0 d os; have c1 := fun d os => cell_regrown y1 d os; have c2 := fun d os => cell_regrown y2 d os; have c3 := fun d os => cell_regrown y3 d os; have c4 := fun d os => cell_regrown y4 d os; have c5 := fun d os => cell_regrown y5 d os
    refine wp_region_quiet_below (by kernel_rfl) (by kernel_rfl) ?_
    repeat (go_big_quiet_step (first | with_reducible exact G1.out _))
    refine wpQuiet_nil ?_
    intro w6 hw6
    have hb6 := below_of_regrown hw6
    clear hw6
    go_wp2_with fail
    go_ret
    exact ⟨ret_str HR.out, bt HB1.out hb6⟩
  · have hL : args.length = 1 := by
      simp [partsOf] at hleast hmost; omega
    have e1 : lnX 3 s (Ex.prs args) = s ++ ⟨#[32, 61, 32]⟩ ++ argB (Ex.prs args) 0 := rfl
    rw [e1, argB_get (show 0 < args.length by omega)] at hsz ⊢
    have hz := hsz
    (try simp only [ByteArray.size_append] at hz)
    have hc0 := harg 0 (by omega) (by omega) (by omega)
    obtain ⟨x, he0⟩ : ∃ z, (args[0]'(by omega)).pr = z := ⟨_, rfl⟩
    simp only [he0] at hc0 hz ⊢
    obtain ⟨r, hr2⟩ : ∃ r, s ++ ⟨#[32, 61, 32]⟩ ++ x = r := ⟨_, rfl⟩
    rw [hr2]
    have HR := Lib.hid hr2
    have HC0 : Hid (∀ W, Below W1.heap.size W1 W → Calls Tryz.prog 47 #[.agg #[.int .i64 3, .int .i64 n, .string s, .slice a args.length cap, .slice a2 body.length cap2, .slice a3 els.length cap3], .int .i64 0] W (Gives W (.string x))) := Lib.hid hc0
    clear hr hx hxb hxe hargs h19 hk hname harg hsz e1 hr2 hF hleast hmost hL hb1 h9 h10 h11 hc0 he0
    go_enter Tryz.func25, Tryz.ntmps25
    go_upto_region 1 with fail
    rw [HW1.out]
    have y0 := hbx1.2 0 (by simp); have y1 := hbx1.2 1 (by simp); have y2 := hbx1.2 2 (by simp); have y3 := hbx1.2 3 (by simp); have y4 := hbx1.2 4 (by simp); have y5 := hbx1.2 5 (by simp); simp only [cqs, cqz] at y0 y1 y2 y3 y4 y5
    go_upto_region 7 with fail
    have K {f : FuncId} {args : Array Value} {u : Value} (h : ∀ w', Below W1.heap.size W1 w' → Calls Tryz.prog f args w' (Gives w' u)) (p : Regrown) : Calls Tryz.prog f args (grow (redrawn W1 p.d) p.os) fun e w3 => e = .returned u ∧ ∃ p : Regrown, w3 = grow (redrawn W1 p.d) p.os := regrown_gives (fun w3 hb => h w3 hb) p
    have G1 := Lib.hid (K HC0.out)
    clear K hbx1
    have c0 := fun d os => cell_regrown y0 d os; have c1 := fun d os => cell_regrown y1 d os; have c2 := fun d os => cell_regrown y2 d os; have c3 := fun d os => cell_regrown y3 d os; have c4 := fun d os => cell_regrown y4 d os; have c5 := fun d os => cell_regrown y5 d os
    refine wp_region_quiet_below (by kernel_rfl) (by kernel_rfl) ?_
    repeat (go_big_quiet_step (first | with_reducible exact G1.out _))
    refine wpQuiet_nil ?_
    intro w6 hw6
    have hb6 := below_of_regrown hw6
    clear hw6
    go_wp2_with fail
    go_ret
    exact ⟨ret_str HR.out, bt HB1.out hb6⟩
  · have hL : args.length = 2 := by
      simp [partsOf] at hleast hmost; omega
    obtain ⟨e0, ea, rfl⟩ : ∃ e0 ea, args = [e0, ea] := by
      match args, hL with
      | [e0, ea], _ => exact ⟨e0, ea, rfl⟩
    have hnm : IsNm s := by
      have h := hname
      simp [NameOk, partsOf] at h
      exact h.2
    have e1 : lnX 4 s (Ex.prs [e0, ea]) = (Ex.mk 8 0 0 s [e0]).pr ++ ⟨#[32, 61, 32]⟩ ++ ea.pr := rfl
    rw [e1] at hsz ⊢
    have hz := hsz
    simp only [ByteArray.size_append] at hz
    have hc1 := harg 1 (by simp) (by omega) (by simp only [List.getElem_cons_succ, List.getElem_cons_zero]; omega)
    simp only [List.getElem_cons_succ, List.getElem_cons_zero] at hc1
    obtain ⟨c, ⟨a', cap', hae, hl1, hl2, hcell⟩, hrow⟩ := hx
    cases hae
    obtain ⟨b, off, rfl, hFb, hcell⟩ := hcell (by simp)
    have hs8 : Src (Ex.mk 8 0 0 s [e0]) := by
      refine ⟨⟨by omega, by omega⟩, ?_, by omega, by omega, fun _ => hnm, ?_⟩
      · simp [Shaped, hasOf, OpOk]
      · exact ⟨⟨by have := (hargs e0 (by simp)).1; simpa using this, (hargs e0 (by simp)).2⟩, trivial⟩
    have hr8 : RdEx F w (Ex.mk 8 0 0 s [e0]) [.int .i64 8, .int .i64 0, .int .i64 0, .string s, .slice (some ⟨b, off, none⟩) 1 cap] :=
      ⟨by simp only [I64]; omega, by simp only [I64]; omega, by simp only [I64]; omega, hs64, _, c, rfl, ⟨_, cap, rfl, by simp at hl1; show 1 ≤ cap; omega, hl2, fun _ => ⟨b, off, rfl, hFb, fun i hi j hj => hcell i (by simp at hi ⊢; omega) j hj⟩⟩, hrow.1, trivial⟩
    have hc8 := fun (W : World) (hW : Below W1.heap.size W1 W) => printR_calls (Ex.mk 8 0 0 s [e0]) F W _ (hF.below (bt hb1 hW)) hs8 (by rintro (h | h | h) <;> simp [Ex.kind] at h) (by omega) (hr8.below hF (bt hb1 hW) (Nat.le_refl _))
    obtain ⟨x8, he8⟩ : ∃ z, (Ex.mk 8 0 0 s [e0]).pr = z := ⟨_, rfl⟩
    obtain ⟨y, hey⟩ : ∃ z, ea.pr = z := ⟨_, rfl⟩
    simp only [he8] at hc8 hz ⊢
    simp only [hey] at hc1 hz ⊢
    obtain ⟨r, hr2⟩ : ∃ r, x8 ++ ⟨#[32, 61, 32]⟩ ++ y = r := ⟨_, rfl⟩
    rw [hr2]
    have HR := Lib.hid hr2
    simp only [List.length_cons, List.length_nil, Nat.zero_add] at HW1 hbx1 hl1 hc1
    have HC1 := Lib.hid hc1
    have HC8 := Lib.hid hc8
    have hcap1 : (1 : Int) ≤ (cap : Int) := by omega
    have hcap2 : 1 ≤ cap := by omega
    clear hr hxb hxe hargs h19 hk hname harg hsz e1 hr2 hF hleast hmost hL hb1 hc1 hc8 he8 hey hs8 hr8 hrow hcell hFb hnm h9 h10 h11
    have nA : ¬ 9223372036854775807 < x8.size + 3 := by omega
    have nB : ¬ 9223372036854775807 < x8.size + 3 + y.size := by omega
    go_enter Tryz.func25, Tryz.ntmps25
    go_upto_region 1 with fail
    rw [HW1.out]
    have y0 := hbx1.2 0 (by simp); have y1 := hbx1.2 1 (by simp); have y2 := hbx1.2 2 (by simp); have y3 := hbx1.2 3 (by simp); have y4 := hbx1.2 4 (by simp); have y5 := hbx1.2 5 (by simp); simp only [cqs, cqz] at y0 y1 y2 y3 y4 y5
    go_upto_region 9 with fail
    clear y0 y1 y2 y3 y4 y5
    have hsk : Hid (∀ W, Below W1.heap.size W1 W → W.cell? ⟨w.heap.size, 0, none⟩ = some (.int .i64 4) ∧ W.cell? ⟨w.heap.size, 1, none⟩ = some (.int .i64 n) ∧ W.cell? ⟨w.heap.size, 2, none⟩ = some (.string s) ∧ W.cell? ⟨w.heap.size, 3, none⟩ = some (.slice (some ⟨b, off, none⟩) 2 cap) ∧ W.cell? ⟨w.heap.size, 4, none⟩ = some (.slice a2 body.length cap2) ∧ W.cell? ⟨w.heap.size, 5, none⟩ = some (.slice a3 els.length cap3)) := Lib.hid fun W hW => by
      have hbx := BoxAt.below hbx1 hW (BoxAt.lt hbx1)
      have y0 := hbx.2 0 (by simp); have y1 := hbx.2 1 (by simp); have y2 := hbx.2 2 (by simp); have y3 := hbx.2 3 (by simp); have y4 := hbx.2 4 (by simp); have y5 := hbx.2 5 (by simp)
      exact ⟨y0, y1, y2, y3, y4, y5⟩
    clear hbx1 hz
    refine wp_region_held_drew (S := fun W => Below W1.heap.size W1 W) (by kernel_rfl) (Below.refl _ _).drew (fun hHeld => ?_)
    have h0 : Below W1.heap.size W1 W1.drew := (Below.refl _ _).drew
    refine wpAnyH_take (i := 0) (v := .pointer (some ⟨w.heap.size, 2, none⟩)) rfl (by kernel_rfl) (by kernel_rfl) (by kernel_rfl) (fun _ _ _ h => h) (Or.inl ⟨by rfl, ?_⟩) (by assumption) ?_
    · intro W hW
      go_simp
    simp only [Act.put]
    refine wpAnyH_take (i := 1) (v := .string s) rfl (by kernel_rfl) (by kernel_rfl) (by kernel_rfl) (fun _ _ _ h => h) (Or.inl ⟨by rfl, ?_⟩) (by assumption) ?_
    · intro W hW
      obtain ⟨y0, y1, y2, y3, y4, y5⟩ := hsk.out W hW
      go_simp
    simp only [Act.put]
    refine wpAnyH_take (i := 2) (v := .pointer (some ⟨w.heap.size, 3, none⟩)) rfl (by kernel_rfl) (by kernel_rfl) (by kernel_rfl) (fun _ _ _ h => h) (Or.inl ⟨by rfl, ?_⟩) (by assumption) ?_
    · intro W hW
      go_simp
    simp only [Act.put]
    refine wpAnyH_take (i := 3) (v := .slice (some ⟨b, off, none⟩) 2 cap) rfl (by kernel_rfl) (by kernel_rfl) (by kernel_rfl) (fun _ _ _ h => h) (Or.inl ⟨by rfl, ?_⟩) (by assumption) ?_
    · intro W hW
      obtain ⟨y0, y1, y2, y3, y4, y5⟩ := hsk.out W hW
      go_simp
    simp only [Act.put]
    refine wpAnyH_take (i := 4) (v := .pointer (some ⟨w.heap.size, 3, none⟩)) rfl (by kernel_rfl) (by kernel_rfl) (by kernel_rfl) (fun _ _ _ h => h) (Or.inl ⟨by rfl, ?_⟩) (by assumption) ?_
    · intro W hW
      go_simp
    simp only [Act.put]
    refine wpAnyH_take (i := 5) (v := .slice (some ⟨b, off, none⟩) 2 cap) rfl (by kernel_rfl) (by kernel_rfl) (by kernel_rfl) (fun _ _ _ h => h) (Or.inl ⟨by rfl, ?_⟩) (by assumption) ?_
    · intro W hW
      obtain ⟨y0, y1, y2, y3, y4, y5⟩ := hsk.out W hW
      go_simp
    simp only [Act.put]
    refine wpAnyH_take (i := 6) (v := .int .i64 2) rfl (by kernel_rfl) (by kernel_rfl) (by kernel_rfl) (fun _ _ _ h => h) (Or.inl ⟨by rfl, ?_⟩) (by assumption) ?_
    · intro W hW
      go_simp
    simp only [Act.put]
    refine wpAnyH_take (i := 7) (v := .int .i64 1) rfl (by kernel_rfl) (by kernel_rfl) (by kernel_rfl) (fun _ _ _ h => h) (Or.inl ⟨by rfl, ?_⟩) (by assumption) ?_
    · intro W hW
      go_simp
      decide
    simp only [Act.put]
    refine wpAnyH_take (i := 8) (v := .slice (some ⟨b, off, none⟩) 1 cap) rfl (by kernel_rfl) (by kernel_rfl) (by kernel_rfl) (fun _ _ _ h => h) (Or.inl ⟨by rfl, ?_⟩) (by assumption) ?_
    · intro W hW
      go_simp
    simp only [Act.put]
    refine wpAnyH_take (i := 9) (v := .agg #[.int .i64 8, .int .i64 0, .int .i64 0, .string s, .slice (some ⟨b, off, none⟩) 1 cap]) rfl (by kernel_rfl) (by kernel_rfl) (by kernel_rfl) (fun _ _ _ h => h) (Or.inl ⟨by rfl, ?_⟩) (by assumption) ?_
    · intro W hW
      go_simp
    simp only [Act.put]
    refine wpAnyH_take (i := 12) (v := .agg #[.int .i64 4, .int .i64 n, .string s, .slice (some ⟨b, off, none⟩) 2 cap, .slice a2 body.length cap2, .slice a3 els.length cap3]) rfl (by kernel_rfl) (by kernel_rfl) (by kernel_rfl) (fun _ _ _ h => h) (Or.inl ⟨by rfl, ?_⟩) (by assumption) ?_
    · intro W hW
      obtain ⟨y0, y1, y2, y3, y4, y5⟩ := hsk.out W hW
      go_simp
    simp only [Act.put]
    refine wpAnyH_ready (rs := [10]) (by kernel_rfl) (by simp) ?_
    refine AllReadyH.cons rfl (fun K hK => ?_) (AllReadyH.nil)
    · go_simp
      refine (HC8.out _ h0).mono ?_
      rintro e v1 ⟨rfl, hbv1⟩
      have Hv1 := bt h0 hbv1
      refine hK.out _ _ Hv1 (fun hHeld => ?_)
      clear hK K
      refine wpAnyH_take (i := 11) (v := (.string (x8 ++ ⟨#[32, 61, 32]⟩))) rfl (by kernel_rfl) (by kernel_rfl) (by kernel_rfl) (fun _ _ _ h => h) (Or.inl ⟨by rfl, ?_⟩) (by assumption) ?_
      · intro W hW
        go_simp
      simp only [Act.put]
      refine wpAnyH_ready (rs := [13]) (by kernel_rfl) (by simp) ?_
      refine AllReadyH.cons rfl (fun K hK => ?_) (AllReadyH.nil)
      · go_simp
        refine (HC1.out _ Hv1).mono ?_
        rintro e v2 ⟨rfl, hbv2⟩
        have Hv2 := bt Hv1 hbv2
        refine hK.out _ _ Hv2 (fun hHeld => ?_)
        clear hK K
        refine wpAnyH_take (i := 14) (v := (.string (x8 ++ ⟨#[32, 61, 32]⟩ ++ y))) rfl (by kernel_rfl) (by kernel_rfl) (by kernel_rfl) (fun _ _ _ h => h) (Or.inl ⟨by rfl, ?_⟩) (by assumption) ?_
        · intro W hW
          go_simp
        simp only [Act.put]
        refine wpAnyH_take (i := 15) (v := (.string (x8 ++ ⟨#[32, 61, 32]⟩ ++ y))) rfl (by kernel_rfl) (by kernel_rfl) (by kernel_rfl) (fun _ _ _ h => h) (Or.inl ⟨by rfl, ?_⟩) (by assumption) ?_
        · intro W hW
          go_simp
        simp only [Act.put]
        refine wpAnyH_done (by kernel_rfl) ?_ _
        go_simp
        go_wp2_with fail
        go_ret
        exact ⟨ret_str HR.out, bt HB1.out Hv2⟩
  · have hL : args.length = 1 := by
      simp [partsOf] at hleast hmost; omega
    have e1 : lnX 5 s (Ex.prs args) = (⟨#[115, 101, 116, 32]⟩ : ByteArray) ++ argB (Ex.prs args) 0 ++ ⟨#[32, 105, 115, 32]⟩ ++ s := rfl
    rw [e1, argB_get (show 0 < args.length by omega)] at hsz ⊢
    have hz := hsz
    (try simp only [ByteArray.size_append] at hz)
    have hc0 := harg 0 (by omega) (by omega) (by omega)
    obtain ⟨x, he0⟩ : ∃ z, (args[0]'(by omega)).pr = z := ⟨_, rfl⟩
    simp only [he0] at hc0 hz ⊢
    obtain ⟨r, hr2⟩ : ∃ r, (⟨#[115, 101, 116, 32]⟩ : ByteArray) ++ x ++ ⟨#[32, 105, 115, 32]⟩ ++ s = r := ⟨_, rfl⟩
    rw [hr2]
    have HR := Lib.hid hr2
    have HC0 : Hid (∀ W, Below W1.heap.size W1 W → Calls Tryz.prog 47 #[.agg #[.int .i64 5, .int .i64 n, .string s, .slice a args.length cap, .slice a2 body.length cap2, .slice a3 els.length cap3], .int .i64 0] W (Gives W (.string x))) := Lib.hid hc0
    clear hr hx hxb hxe hargs h19 hk hname harg hsz e1 hr2 hF hleast hmost hL hb1 h9 h10 h11 hc0 he0
    go_enter Tryz.func25, Tryz.ntmps25
    go_upto_region 1 with fail
    rw [HW1.out]
    have y0 := hbx1.2 0 (by simp); have y1 := hbx1.2 1 (by simp); have y2 := hbx1.2 2 (by simp); have y3 := hbx1.2 3 (by simp); have y4 := hbx1.2 4 (by simp); have y5 := hbx1.2 5 (by simp); simp only [cqs, cqz] at y0 y1 y2 y3 y4 y5
    go_upto_region 11 with fail
    have K {f : FuncId} {args : Array Value} {u : Value} (h : ∀ w', Below W1.heap.size W1 w' → Calls Tryz.prog f args w' (Gives w' u)) (p : Regrown) : Calls Tryz.prog f args (grow (redrawn W1 p.d) p.os) fun e w3 => e = .returned u ∧ ∃ p : Regrown, w3 = grow (redrawn W1 p.d) p.os := regrown_gives (fun w3 hb => h w3 hb) p
    have G1 := Lib.hid (K HC0.out)
    clear K hbx1
    have c0 := fun d os => cell_regrown y0 d os; have c1 := fun d os => cell_regrown y1 d os; have c2 := fun d os => cell_regrown y2 d os; have c3 := fun d os => cell_regrown y3 d os; have c4 := fun d os => cell_regrown y4 d os; have c5 := fun d os => cell_regrown y5 d os
    refine wp_region_quiet_below (by kernel_rfl) (by kernel_rfl) ?_
    repeat (go_big_quiet_step (first | with_reducible exact G1.out _))
    refine wpQuiet_nil ?_
    intro w6 hw6
    have hb6 := below_of_regrown hw6
    clear hw6
    go_wp2_with fail
    go_ret
    exact ⟨ret_str HR.out, bt HB1.out hb6⟩
  · have hL : args.length = 1 := by
      simp [partsOf] at hleast hmost; omega
    have e1 : lnX 6 s (Ex.prs args) = (⟨#[117, 110, 115, 101, 116, 32]⟩ : ByteArray) ++ argB (Ex.prs args) 0 ++ ⟨#[32, 105, 115, 32]⟩ ++ s := rfl
    rw [e1, argB_get (show 0 < args.length by omega)] at hsz ⊢
    have hz := hsz
    (try simp only [ByteArray.size_append] at hz)
    have hc0 := harg 0 (by omega) (by omega) (by omega)
    obtain ⟨x, he0⟩ : ∃ z, (args[0]'(by omega)).pr = z := ⟨_, rfl⟩
    simp only [he0] at hc0 hz ⊢
    obtain ⟨r, hr2⟩ : ∃ r, (⟨#[117, 110, 115, 101, 116, 32]⟩ : ByteArray) ++ x ++ ⟨#[32, 105, 115, 32]⟩ ++ s = r := ⟨_, rfl⟩
    rw [hr2]
    have HR := Lib.hid hr2
    have HC0 : Hid (∀ W, Below W1.heap.size W1 W → Calls Tryz.prog 47 #[.agg #[.int .i64 6, .int .i64 n, .string s, .slice a args.length cap, .slice a2 body.length cap2, .slice a3 els.length cap3], .int .i64 0] W (Gives W (.string x))) := Lib.hid hc0
    clear hr hx hxb hxe hargs h19 hk hname harg hsz e1 hr2 hF hleast hmost hL hb1 h9 h10 h11 hc0 he0
    go_enter Tryz.func25, Tryz.ntmps25
    go_upto_region 1 with fail
    rw [HW1.out]
    have y0 := hbx1.2 0 (by simp); have y1 := hbx1.2 1 (by simp); have y2 := hbx1.2 2 (by simp); have y3 := hbx1.2 3 (by simp); have y4 := hbx1.2 4 (by simp); have y5 := hbx1.2 5 (by simp); simp only [cqs, cqz] at y0 y1 y2 y3 y4 y5
    go_upto_region 13 with fail
    have K {f : FuncId} {args : Array Value} {u : Value} (h : ∀ w', Below W1.heap.size W1 w' → Calls Tryz.prog f args w' (Gives w' u)) (p : Regrown) : Calls Tryz.prog f args (grow (redrawn W1 p.d) p.os) fun e w3 => e = .returned u ∧ ∃ p : Regrown, w3 = grow (redrawn W1 p.d) p.os := regrown_gives (fun w3 hb => h w3 hb) p
    have G1 := Lib.hid (K HC0.out)
    clear K hbx1
    have c0 := fun d os => cell_regrown y0 d os; have c1 := fun d os => cell_regrown y1 d os; have c2 := fun d os => cell_regrown y2 d os; have c3 := fun d os => cell_regrown y3 d os; have c4 := fun d os => cell_regrown y4 d os; have c5 := fun d os => cell_regrown y5 d os
    refine wp_region_quiet_below (by kernel_rfl) (by kernel_rfl) ?_
    repeat (go_big_quiet_step (first | with_reducible exact G1.out _))
    refine wpQuiet_nil ?_
    intro w6 hw6
    have hb6 := below_of_regrown hw6
    clear hw6
    go_wp2_with fail
    go_ret
    exact ⟨ret_str HR.out, bt HB1.out hb6⟩
  · have hL : args.length = 2 := by
      simp [partsOf] at hleast hmost; omega
    have e1 : lnX 7 s (Ex.prs args) = (⟨#[109, 111, 118, 101, 32]⟩ : ByteArray) ++ argB (Ex.prs args) 0 ++ ⟨#[32, 116, 111, 32]⟩ ++ argB (Ex.prs args) 1 := rfl
    rw [e1, argB_get (show 0 < args.length by omega), argB_get (show 1 < args.length by omega)] at hsz ⊢
    have hz := hsz
    (try simp only [ByteArray.size_append] at hz)
    have hc0 := harg 0 (by omega) (by omega) (by omega)
    obtain ⟨x, he0⟩ : ∃ z, (args[0]'(by omega)).pr = z := ⟨_, rfl⟩
    simp only [he0] at hc0 hz ⊢
    have hc1 := harg 1 (by omega) (by omega) (by omega)
    obtain ⟨y, he1⟩ : ∃ z, (args[1]'(by omega)).pr = z := ⟨_, rfl⟩
    simp only [he1] at hc1 hz ⊢
    obtain ⟨r, hr2⟩ : ∃ r, (⟨#[109, 111, 118, 101, 32]⟩ : ByteArray) ++ x ++ ⟨#[32, 116, 111, 32]⟩ ++ y = r := ⟨_, rfl⟩
    rw [hr2]
    have HR := Lib.hid hr2
    have HC0 : Hid (∀ W, Below W1.heap.size W1 W → Calls Tryz.prog 47 #[.agg #[.int .i64 7, .int .i64 n, .string s, .slice a args.length cap, .slice a2 body.length cap2, .slice a3 els.length cap3], .int .i64 0] W (Gives W (.string x))) := Lib.hid hc0
    have HC1 : Hid (∀ W, Below W1.heap.size W1 W → Calls Tryz.prog 47 #[.agg #[.int .i64 7, .int .i64 n, .string s, .slice a args.length cap, .slice a2 body.length cap2, .slice a3 els.length cap3], .int .i64 1] W (Gives W (.string y))) := Lib.hid hc1
    clear hr hx hxb hxe hargs h19 hk hname harg hsz e1 hr2 hF hleast hmost hL hb1 h9 h10 h11 hc0 he0 hc1 he1
    go_enter Tryz.func25, Tryz.ntmps25
    go_upto_region 1 with fail
    rw [HW1.out]
    have y0 := hbx1.2 0 (by simp); have y1 := hbx1.2 1 (by simp); have y2 := hbx1.2 2 (by simp); have y3 := hbx1.2 3 (by simp); have y4 := hbx1.2 4 (by simp); have y5 := hbx1.2 5 (by simp); simp only [cqs, cqz] at y0 y1 y2 y3 y4 y5
    go_upto_region 15 with fail
    have K {f : FuncId} {args : Array Value} {u : Value} (h : ∀ w', Below W1.heap.size W1 w' → Calls Tryz.prog f args w' (Gives w' u)) (p : Regrown) : Calls Tryz.prog f args (grow (redrawn W1 p.d) p.os) fun e w3 => e = .returned u ∧ ∃ p : Regrown, w3 = grow (redrawn W1 p.d) p.os := regrown_gives (fun w3 hb => h w3 hb) p
    have G1 := Lib.hid (K HC0.out)
    have G2 := Lib.hid (K HC1.out)
    clear K hbx1
    have c0 := fun d os => cell_regrown y0 d os; have c1 := fun d os => cell_regrown y1 d os; have c2 := fun d os => cell_regrown y2 d os; have c3 := fun d os => cell_regrown y3 d os; have c4 := fun d os => cell_regrown y4 d os; have c5 := fun d os => cell_regrown y5 d os
    refine wp_region_quiet_below (by kernel_rfl) (by kernel_rfl) ?_
    repeat (go_big_quiet_step (first | with_reducible exact G1.out _ | with_reducible exact G2.out _))
    refine wpQuiet_nil ?_
    intro w6 hw6
    have hb6 := below_of_regrown hw6
    clear hw6
    go_wp2_with fail
    go_ret
    exact ⟨ret_str HR.out, bt HB1.out hb6⟩
  · have hL : args.length = 1 := by
      simp [partsOf] at hleast hmost; omega
    have hps : Ex.prs args ≠ [] := by
      intro h
      have h2 := congrArg List.length h
      rw [Ex.prs_eq, List.length_map, hL] at h2
      cases h2
    have e1 : lnX 8 s (Ex.prs args) = ⟨#[114, 101, 109, 111, 118, 101, 32]⟩ ++ argB (Ex.prs args) 0 := by
      show (if Ex.prs args = [] then wordB 8 else wordB 8 ++ ⟨#[32]⟩ ++ argB (Ex.prs args) 0) = _
      rw [if_neg hps]
      rfl
    rw [e1, argB_get (show 0 < args.length by omega)] at hsz ⊢
    have hz := hsz
    simp only [ByteArray.size_append] at hz
    have hc0 := harg 0 (by omega) (by omega) (by omega)
    obtain ⟨x, he0⟩ : ∃ z, (args[0]'(by omega)).pr = z := ⟨_, rfl⟩
    simp only [he0] at hc0 hz ⊢
    have HS := Lib.hid (fun (W : World) (hW : Below W1.heap.size W1 W) => word8_calls n s x a args.length cap a2 body.length cap2 a3 els.length cap3 W (by omega) (fun W2 hW2 => hc0 W2 (bt hW hW2)))
    obtain ⟨r, hr2⟩ : ∃ r, (⟨#[114, 101, 109, 111, 118, 101, 32]⟩ : ByteArray) ++ x = r := ⟨_, rfl⟩
    rw [hr2] at HS ⊢
    clear hr hx hxb hxe hargs h19 hk hname harg hsz hz e1 hr2 hF hleast hmost hb1 h9 h10 h11 hc0 he0 hL hps
    go_enter Tryz.func25, Tryz.ntmps25
    go_upto_region 1 with fail
    rw [HW1.out]
    have y0 := hbx1.2 0 (by simp); have y1 := hbx1.2 1 (by simp); have y2 := hbx1.2 2 (by simp); have y3 := hbx1.2 3 (by simp); have y4 := hbx1.2 4 (by simp); have y5 := hbx1.2 5 (by simp); simp only [cqs, cqz] at y0 y1 y2 y3 y4 y5
    go_wp2_with (go_at_call 50; (with_reducible refine (HS.out _ (Below.refl _ _)).mono ?_); rintro e w1 ⟨rfl, hb⟩)
    go_ret
    exact ⟨rfl, bt HB1.out hb⟩
  · exact absurd rfl h9
  · exact absurd rfl h10
  · exact absurd rfl h11
  · have hL : args.length = 1 := by
      simp [partsOf] at hleast hmost; omega
    have hps : Ex.prs args ≠ [] := by
      intro h
      have h2 := congrArg List.length h
      rw [Ex.prs_eq, List.length_map, hL] at h2
      cases h2
    have e1 : lnX 12 s (Ex.prs args) = ⟨#[114, 101, 116, 117, 114, 110, 32]⟩ ++ argB (Ex.prs args) 0 := by
      show (if Ex.prs args = [] then wordB 12 else wordB 12 ++ ⟨#[32]⟩ ++ argB (Ex.prs args) 0) = _
      rw [if_neg hps]
      rfl
    rw [e1, argB_get (show 0 < args.length by omega)] at hsz ⊢
    have hz := hsz
    simp only [ByteArray.size_append] at hz
    have hc0 := harg 0 (by omega) (by omega) (by omega)
    obtain ⟨x, he0⟩ : ∃ z, (args[0]'(by omega)).pr = z := ⟨_, rfl⟩
    simp only [he0] at hc0 hz ⊢
    have HS := Lib.hid (fun (W : World) (hW : Below W1.heap.size W1 W) => word12_calls n s x a args.length cap a2 body.length cap2 a3 els.length cap3 W (by omega) (fun W2 hW2 => hc0 W2 (bt hW hW2)))
    obtain ⟨r, hr2⟩ : ∃ r, (⟨#[114, 101, 116, 117, 114, 110, 32]⟩ : ByteArray) ++ x = r := ⟨_, rfl⟩
    rw [hr2] at HS ⊢
    clear hr hx hxb hxe hargs h19 hk hname harg hsz hz e1 hr2 hF hleast hmost hb1 h9 h10 h11 hc0 he0 hL hps
    go_enter Tryz.func25, Tryz.ntmps25
    go_upto_region 1 with fail
    rw [HW1.out]
    have y0 := hbx1.2 0 (by simp); have y1 := hbx1.2 1 (by simp); have y2 := hbx1.2 2 (by simp); have y3 := hbx1.2 3 (by simp); have y4 := hbx1.2 4 (by simp); have y5 := hbx1.2 5 (by simp); simp only [cqs, cqz] at y0 y1 y2 y3 y4 y5
    go_wp2_with (go_at_call 50; (with_reducible refine (HS.out _ (Below.refl _ _)).mono ?_); rintro e w1 ⟨rfl, hb⟩)
    go_ret
    exact ⟨rfl, bt HB1.out hb⟩
  · have hL : args = [] := List.eq_nil_of_length_eq_zero (by simp [partsOf] at hmost; simpa using hmost)
    subst hL
    have e1 : lnX 13 s (Ex.prs []) = ⟨#[115, 116, 111, 112]⟩ := rfl
    rw [e1] at hsz ⊢
    have HS := Lib.hid (fun W => word13_calls n s a 0 cap a2 body.length cap2 a3 els.length cap3 W)
    obtain ⟨r, hr2⟩ : ∃ r, (⟨#[115, 116, 111, 112]⟩ : ByteArray) = r := ⟨_, rfl⟩
    rw [hr2] at HS ⊢
    simp only [List.length_nil] at HW1 hbx1
    clear hr hx hxb hxe hargs h19 hk hname harg hsz e1 hr2 hF hleast hmost hb1 h9 h10 h11
    go_enter Tryz.func25, Tryz.ntmps25
    go_upto_region 1 with fail
    rw [HW1.out]
    have y0 := hbx1.2 0 (by simp); have y1 := hbx1.2 1 (by simp); have y2 := hbx1.2 2 (by simp); have y3 := hbx1.2 3 (by simp); have y4 := hbx1.2 4 (by simp); have y5 := hbx1.2 5 (by simp); simp only [cqs, cqz] at y0 y1 y2 y3 y4 y5
    go_wp2_with (go_at_call 50; (with_reducible refine (HS.out _).mono ?_); rintro e w1 ⟨rfl, hb⟩)
    go_ret
    exact ⟨rfl, bt HB1.out hb⟩
  · have hL : args = [] := List.eq_nil_of_length_eq_zero (by simp [partsOf] at hmost; simpa using hmost)
    subst hL
    have e1 : lnX 14 s (Ex.prs []) = ⟨#[119, 105, 110]⟩ := rfl
    rw [e1] at hsz ⊢
    have HS := Lib.hid (fun W => word14_calls n s a 0 cap a2 body.length cap2 a3 els.length cap3 W)
    obtain ⟨r, hr2⟩ : ∃ r, (⟨#[119, 105, 110]⟩ : ByteArray) = r := ⟨_, rfl⟩
    rw [hr2] at HS ⊢
    simp only [List.length_nil] at HW1 hbx1
    clear hr hx hxb hxe hargs h19 hk hname harg hsz e1 hr2 hF hleast hmost hb1 h9 h10 h11
    go_enter Tryz.func25, Tryz.ntmps25
    go_upto_region 1 with fail
    rw [HW1.out]
    have y0 := hbx1.2 0 (by simp); have y1 := hbx1.2 1 (by simp); have y2 := hbx1.2 2 (by simp); have y3 := hbx1.2 3 (by simp); have y4 := hbx1.2 4 (by simp); have y5 := hbx1.2 5 (by simp); simp only [cqs, cqz] at y0 y1 y2 y3 y4 y5
    go_wp2_with (go_at_call 50; (with_reducible refine (HS.out _).mono ?_); rintro e w1 ⟨rfl, hb⟩)
    go_ret
    exact ⟨rfl, bt HB1.out hb⟩
  · have hL : args = [] := List.eq_nil_of_length_eq_zero (by simp [partsOf] at hmost; simpa using hmost)
    subst hL
    have e1 : lnX 15 s (Ex.prs []) = ⟨#[108, 111, 115, 101]⟩ := rfl
    rw [e1] at hsz ⊢
    have HS := Lib.hid (fun W => word15_calls n s a 0 cap a2 body.length cap2 a3 els.length cap3 W)
    obtain ⟨r, hr2⟩ : ∃ r, (⟨#[108, 111, 115, 101]⟩ : ByteArray) = r := ⟨_, rfl⟩
    rw [hr2] at HS ⊢
    simp only [List.length_nil] at HW1 hbx1
    clear hr hx hxb hxe hargs h19 hk hname harg hsz e1 hr2 hF hleast hmost hb1 h9 h10 h11
    go_enter Tryz.func25, Tryz.ntmps25
    go_upto_region 1 with fail
    rw [HW1.out]
    have y0 := hbx1.2 0 (by simp); have y1 := hbx1.2 1 (by simp); have y2 := hbx1.2 2 (by simp); have y3 := hbx1.2 3 (by simp); have y4 := hbx1.2 4 (by simp); have y5 := hbx1.2 5 (by simp); simp only [cqs, cqz] at y0 y1 y2 y3 y4 y5
    go_wp2_with (go_at_call 50; (with_reducible refine (HS.out _).mono ?_); rintro e w1 ⟨rfl, hb⟩)
    go_ret
    exact ⟨rfl, bt HB1.out hb⟩
  · have hL : args.length = 1 := by
      simp [partsOf] at hleast hmost; omega
    have hps : Ex.prs args ≠ [] := by
      intro h
      have h2 := congrArg List.length h
      rw [Ex.prs_eq, List.length_map, hL] at h2
      cases h2
    have e1 : lnX 16 s (Ex.prs args) = ⟨#[97, 119, 97, 114, 100, 32]⟩ ++ argB (Ex.prs args) 0 := by
      show (if Ex.prs args = [] then wordB 16 else wordB 16 ++ ⟨#[32]⟩ ++ argB (Ex.prs args) 0) = _
      rw [if_neg hps]
      rfl
    rw [e1, argB_get (show 0 < args.length by omega)] at hsz ⊢
    have hz := hsz
    simp only [ByteArray.size_append] at hz
    have hc0 := harg 0 (by omega) (by omega) (by omega)
    obtain ⟨x, he0⟩ : ∃ z, (args[0]'(by omega)).pr = z := ⟨_, rfl⟩
    simp only [he0] at hc0 hz ⊢
    have HS := Lib.hid (fun (W : World) (hW : Below W1.heap.size W1 W) => word16_calls n s x a args.length cap a2 body.length cap2 a3 els.length cap3 W (by omega) (fun W2 hW2 => hc0 W2 (bt hW hW2)))
    obtain ⟨r, hr2⟩ : ∃ r, (⟨#[97, 119, 97, 114, 100, 32]⟩ : ByteArray) ++ x = r := ⟨_, rfl⟩
    rw [hr2] at HS ⊢
    clear hr hx hxb hxe hargs h19 hk hname harg hsz hz e1 hr2 hF hleast hmost hb1 h9 h10 h11 hc0 he0 hL hps
    go_enter Tryz.func25, Tryz.ntmps25
    go_upto_region 1 with fail
    rw [HW1.out]
    have y0 := hbx1.2 0 (by simp); have y1 := hbx1.2 1 (by simp); have y2 := hbx1.2 2 (by simp); have y3 := hbx1.2 3 (by simp); have y4 := hbx1.2 4 (by simp); have y5 := hbx1.2 5 (by simp); simp only [cqs, cqz] at y0 y1 y2 y3 y4 y5
    go_wp2_with (go_at_call 50; (with_reducible refine (HS.out _ (Below.refl _ _)).mono ?_); rintro e w1 ⟨rfl, hb⟩)
    go_ret
    exact ⟨rfl, bt HB1.out hb⟩
  · have hL : args.length = 1 := by
      simp [partsOf] at hleast hmost; omega
    have e1 : lnX 17 s (Ex.prs args) = (⟨#[115, 116, 97, 114, 116, 32]⟩ : ByteArray) ++ s ++ ⟨#[32, 105, 110, 32]⟩ ++ argB (Ex.prs args) 0 := rfl
    rw [e1, argB_get (show 0 < args.length by omega)] at hsz ⊢
    have hz := hsz
    (try simp only [ByteArray.size_append] at hz)
    have hc0 := harg 0 (by omega) (by omega) (by omega)
    obtain ⟨x, he0⟩ : ∃ z, (args[0]'(by omega)).pr = z := ⟨_, rfl⟩
    simp only [he0] at hc0 hz ⊢
    obtain ⟨r, hr2⟩ : ∃ r, (⟨#[115, 116, 97, 114, 116, 32]⟩ : ByteArray) ++ s ++ ⟨#[32, 105, 110, 32]⟩ ++ x = r := ⟨_, rfl⟩
    rw [hr2]
    have HR := Lib.hid hr2
    have HC0 : Hid (∀ W, Below W1.heap.size W1 W → Calls Tryz.prog 47 #[.agg #[.int .i64 17, .int .i64 n, .string s, .slice a args.length cap, .slice a2 body.length cap2, .slice a3 els.length cap3], .int .i64 0] W (Gives W (.string x))) := Lib.hid hc0
    clear hr hx hxb hxe hargs h19 hk hname harg hsz e1 hr2 hF hleast hmost hL hb1 h9 h10 h11 hc0 he0
    go_enter Tryz.func25, Tryz.ntmps25
    go_upto_region 1 with fail
    rw [HW1.out]
    have y0 := hbx1.2 0 (by simp); have y1 := hbx1.2 1 (by simp); have y2 := hbx1.2 2 (by simp); have y3 := hbx1.2 3 (by simp); have y4 := hbx1.2 4 (by simp); have y5 := hbx1.2 5 (by simp); simp only [cqs, cqz] at y0 y1 y2 y3 y4 y5
    go_upto_region 17 with fail
    have K {f : FuncId} {args : Array Value} {u : Value} (h : ∀ w', Below W1.heap.size W1 w' → Calls Tryz.prog f args w' (Gives w' u)) (p : Regrown) : Calls Tryz.prog f args (grow (redrawn W1 p.d) p.os) fun e w3 => e = .returned u ∧ ∃ p : Regrown, w3 = grow (redrawn W1 p.d) p.os := regrown_gives (fun w3 hb => h w3 hb) p
    have G1 := Lib.hid (K HC0.out)
    clear K hbx1
    have c0 := fun d os => cell_regrown y0 d os; have c1 := fun d os => cell_regrown y1 d os; have c2 := fun d os => cell_regrown y2 d os; have c3 := fun d os => cell_regrown y3 d os; have c4 := fun d os => cell_regrown y4 d os; have c5 := fun d os => cell_regrown y5 d os
    refine wp_region_quiet_below (by kernel_rfl) (by kernel_rfl) ?_
    repeat (go_big_quiet_step (first | with_reducible exact G1.out _))
    refine wpQuiet_nil ?_
    intro w6 hw6
    have hb6 := below_of_regrown hw6
    clear hw6
    go_wp2_with fail
    go_ret
    exact ⟨ret_str HR.out, bt HB1.out hb6⟩
  · have hL : args.length = 0 := by
      have h := hmost
      simp [partsOf] at h
      simp [h]
    have e1 : lnX 18 s (Ex.prs args) = (⟨#[104, 97, 108, 116, 32]⟩ : ByteArray) ++ s := rfl
    rw [e1] at hsz ⊢
    have hz := hsz
    (try simp only [ByteArray.size_append] at hz)
    obtain ⟨r, hr2⟩ : ∃ r, (⟨#[104, 97, 108, 116, 32]⟩ : ByteArray) ++ s = r := ⟨_, rfl⟩
    rw [hr2]
    have HR := Lib.hid hr2
    clear hr hx hxb hxe hargs h19 hk hname harg hsz e1 hr2 hF hleast hmost hL hb1 h9 h10 h11
    go_enter Tryz.func25, Tryz.ntmps25
    go_upto_region 1 with fail
    rw [HW1.out]
    have y0 := hbx1.2 0 (by simp); have y1 := hbx1.2 1 (by simp); have y2 := hbx1.2 2 (by simp); have y3 := hbx1.2 3 (by simp); have y4 := hbx1.2 4 (by simp); have y5 := hbx1.2 5 (by simp); simp only [cqs, cqz] at y0 y1 y2 y3 y4 y5
    go_wp2
    go_ret
    exact ⟨ret_str HR.out, HB1.out⟩
  · have hL : args.length = 1 := by
      simp [partsOf] at hleast hmost; omega
    have e1 : lnX 19 s (Ex.prs args) = argB (Ex.prs args) 0 := rfl
    rw [e1, argB_get (show 0 < args.length by omega)] at hsz ⊢
    have hz := hsz
    (try simp only [ByteArray.size_append] at hz)
    have hc0 := harg 0 (by omega) (by omega) (by omega)
    obtain ⟨x, he0⟩ : ∃ z, (args[0]'(by omega)).pr = z := ⟨_, rfl⟩
    simp only [he0] at hc0 hz ⊢
    obtain ⟨r, hr2⟩ : ∃ r, x = r := ⟨_, rfl⟩
    rw [hr2]
    have HR := Lib.hid hr2
    have HC0 : Hid (∀ W, Below W1.heap.size W1 W → Calls Tryz.prog 47 #[.agg #[.int .i64 19, .int .i64 n, .string s, .slice a args.length cap, .slice a2 body.length cap2, .slice a3 els.length cap3], .int .i64 0] W (Gives W (.string x))) := Lib.hid hc0
    clear hr hx hxb hxe hargs h19 hk hname harg hsz e1 hr2 hF hleast hmost hL hb1 h9 h10 h11 hc0 he0
    go_enter Tryz.func25, Tryz.ntmps25
    go_upto_region 1 with fail
    rw [HW1.out]
    have y0 := hbx1.2 0 (by simp); have y1 := hbx1.2 1 (by simp); have y2 := hbx1.2 2 (by simp); have y3 := hbx1.2 3 (by simp); have y4 := hbx1.2 4 (by simp); have y5 := hbx1.2 5 (by simp); simp only [cqs, cqz] at y0 y1 y2 y3 y4 y5
    go_wp2_with (go_at_call 47; (with_reducible refine (HC0.out _ (Below.refl _ _)).mono ?_); rintro e w1 ⟨rfl, hb⟩)
    go_ret
    exact ⟨ret_str HR.out, bt HB1.out hb⟩
  · have hL : args.length = 1 := by
      simp [partsOf] at hleast hmost; omega
    have hps : Ex.prs args ≠ [] := by
      intro h
      have h2 := congrArg List.length h
      rw [Ex.prs_eq, List.length_map, hL] at h2
      cases h2
    have e1 : lnX 20 s (Ex.prs args) = ⟨#[116, 114, 97, 118, 101, 108, 32]⟩ ++ argB (Ex.prs args) 0 := by
      show (if Ex.prs args = [] then wordB 20 else wordB 20 ++ ⟨#[32]⟩ ++ argB (Ex.prs args) 0) = _
      rw [if_neg hps]
      rfl
    rw [e1, argB_get (show 0 < args.length by omega)] at hsz ⊢
    have hz := hsz
    simp only [ByteArray.size_append] at hz
    have hc0 := harg 0 (by omega) (by omega) (by omega)
    obtain ⟨x, he0⟩ : ∃ z, (args[0]'(by omega)).pr = z := ⟨_, rfl⟩
    simp only [he0] at hc0 hz ⊢
    have HS := Lib.hid (fun (W : World) (hW : Below W1.heap.size W1 W) => word20_calls n s x a args.length cap a2 body.length cap2 a3 els.length cap3 W (by omega) (fun W2 hW2 => hc0 W2 (bt hW hW2)))
    obtain ⟨r, hr2⟩ : ∃ r, (⟨#[116, 114, 97, 118, 101, 108, 32]⟩ : ByteArray) ++ x = r := ⟨_, rfl⟩
    rw [hr2] at HS ⊢
    clear hr hx hxb hxe hargs h19 hk hname harg hsz hz e1 hr2 hF hleast hmost hb1 h9 h10 h11 hc0 he0 hL hps
    go_enter Tryz.func25, Tryz.ntmps25
    go_upto_region 1 with fail
    rw [HW1.out]
    have y0 := hbx1.2 0 (by simp); have y1 := hbx1.2 1 (by simp); have y2 := hbx1.2 2 (by simp); have y3 := hbx1.2 3 (by simp); have y4 := hbx1.2 4 (by simp); have y5 := hbx1.2 5 (by simp); simp only [cqs, cqz] at y0 y1 y2 y3 y4 y5
    go_wp2_with (go_at_call 50; (with_reducible refine (HS.out _ (Below.refl _ _)).mono ?_); rintro e w1 ⟨rfl, hb⟩)
    go_ret
    exact ⟨rfl, bt HB1.out hb⟩
  · have hL : args = [] := List.eq_nil_of_length_eq_zero (by simp [partsOf] at hmost; simpa using hmost)
    subst hL
    have e1 : lnX 21 s (Ex.prs []) = ⟨#[108, 111, 111, 107]⟩ := rfl
    rw [e1] at hsz ⊢
    have HS := Lib.hid (fun W => word21_calls n s a 0 cap a2 body.length cap2 a3 els.length cap3 W)
    obtain ⟨r, hr2⟩ : ∃ r, (⟨#[108, 111, 111, 107]⟩ : ByteArray) = r := ⟨_, rfl⟩
    rw [hr2] at HS ⊢
    simp only [List.length_nil] at HW1 hbx1
    clear hr hx hxb hxe hargs h19 hk hname harg hsz e1 hr2 hF hleast hmost hb1 h9 h10 h11
    go_enter Tryz.func25, Tryz.ntmps25
    go_upto_region 1 with fail
    rw [HW1.out]
    have y0 := hbx1.2 0 (by simp); have y1 := hbx1.2 1 (by simp); have y2 := hbx1.2 2 (by simp); have y3 := hbx1.2 3 (by simp); have y4 := hbx1.2 4 (by simp); have y5 := hbx1.2 5 (by simp); simp only [cqs, cqz] at y0 y1 y2 y3 y4 y5
    go_wp2_with (go_at_call 50; (with_reducible refine (HS.out _).mono ?_); rintro e w1 ⟨rfl, hb⟩)
    go_ret
    exact ⟨rfl, bt HB1.out hb⟩
  · have hL : args.length = 1 := by
      simp [partsOf] at hleast hmost; omega
    have hps : Ex.prs args ≠ [] := by
      intro h
      have h2 := congrArg List.length h
      rw [Ex.prs_eq, List.length_map, hL] at h2
      cases h2
    have e1 : lnX 22 s (Ex.prs args) = ⟨#[108, 105, 115, 116, 32]⟩ ++ argB (Ex.prs args) 0 := by
      show (if Ex.prs args = [] then wordB 22 else wordB 22 ++ ⟨#[32]⟩ ++ argB (Ex.prs args) 0) = _
      rw [if_neg hps]
      rfl
    rw [e1, argB_get (show 0 < args.length by omega)] at hsz ⊢
    have hz := hsz
    simp only [ByteArray.size_append] at hz
    have hc0 := harg 0 (by omega) (by omega) (by omega)
    obtain ⟨x, he0⟩ : ∃ z, (args[0]'(by omega)).pr = z := ⟨_, rfl⟩
    simp only [he0] at hc0 hz ⊢
    have HS := Lib.hid (fun (W : World) (hW : Below W1.heap.size W1 W) => word22_calls n s x a args.length cap a2 body.length cap2 a3 els.length cap3 W (by omega) (fun W2 hW2 => hc0 W2 (bt hW hW2)))
    obtain ⟨r, hr2⟩ : ∃ r, (⟨#[108, 105, 115, 116, 32]⟩ : ByteArray) ++ x = r := ⟨_, rfl⟩
    rw [hr2] at HS ⊢
    clear hr hx hxb hxe hargs h19 hk hname harg hsz hz e1 hr2 hF hleast hmost hb1 h9 h10 h11 hc0 he0 hL hps
    go_enter Tryz.func25, Tryz.ntmps25
    go_upto_region 1 with fail
    rw [HW1.out]
    have y0 := hbx1.2 0 (by simp); have y1 := hbx1.2 1 (by simp); have y2 := hbx1.2 2 (by simp); have y3 := hbx1.2 3 (by simp); have y4 := hbx1.2 4 (by simp); have y5 := hbx1.2 5 (by simp); simp only [cqs, cqz] at y0 y1 y2 y3 y4 y5
    go_wp2_with (go_at_call 50; (with_reducible refine (HS.out _ (Below.refl _ _)).mono ?_); rintro e w1 ⟨rfl, hb⟩)
    go_ret
    exact ⟨rfl, bt HB1.out hb⟩
end Go.Proofs.YtnbfadgclffgkaaGreatDoor
