/- The walks of clewref12.open and Print, and so of PrintBlock, of all statements of a source. Printed by gen-tt4.py. -/
import Derived.Test.YtnbfadgclffgkaaGreatDoorTtC
namespace Go.Proofs.YtnbfadgclffgkaaGreatDoor
open Go.RowKit Go.Sort
def OpC (st : St) : Prop := (st.kind = 9 ∨ st.kind = 10 ∨ st.kind = 11) → ∀ (F : Nat → Prop) (w : World) (cs : List Value) (d : Nat), Inn F w → StOk st → d ≤ 64 → (st.ln d).size ≤ 1000000000000 → RdSt F w st cs →
    Calls Tryz.prog 24 #[.agg cs.toArray, .int .i64 d] w (Gives w (.string (st.ln d)))
set_option maxRecDepth 100000 in
set_option maxHeartbeats 16000000 in
theorem opR_calls (k n : Int) (s : ByteArray) (args : List Ex) (body els : List St) (ihb : ∀ x ∈ body, PrSC x) (ihe : ∀ x ∈ els, OpC x) (ihp : ∀ x ∈ els, PrSC x) : OpC (.mk k n s args body els) := by
  intro hk3 F w cs d hF hs hd hsz hr
  have harg0 := fun (i : Nat) (hi : i < (St.mk k n s args body els).args.length) (hz : (St.mk k n s args body els).args[i].pr.size ≤ 1000000000000) (hk : ¬ SaidK (St.mk k n s args body els).args[i].kind) (W : World) (hW : Below w.heap.size w W) => argR_calls (.mk k n s args body els) i hi F W cs (hF.below hW) (((stOk_eq (.mk k n s args body els)).1 hs).2.2.1 _ (List.getElem_mem hi)).2 hk hz (hr.below hF hW (Nat.le_refl _))
  obtain ⟨k', n', s', a, m, cap, a2, m2, cap2, a3, m3, cap3, rfl⟩ := hr.shape
  obtain ⟨rfl, rfl, rfl, -, -, hs64, hx, hxb, hxe⟩ := hr.parts
  obtain ⟨rfl, -, -, -⟩ := hx.opn
  obtain ⟨rfl, -, -, -⟩ := hxb.opn
  obtain ⟨rfl, -, -, -⟩ := hxe.opn
  simp only [St.kind, St.num, St.name, St.args, St.body, St.els] at *
  obtain ⟨hg, h19, hargs, hbody, hels⟩ := (stOk_eq (.mk k n s args body els)).1 hs
  simp only [St.kind, St.num, St.name, St.args, St.body, St.els] at hg h19 hargs hbody hels
  obtain ⟨-, hleast, hmost, -, -, hname⟩ := hg
  have eln : (St.mk k n s args body els).ln d = lnE k s (Ex.prs args) (blockB d (St.lns body (dn d))) (elsB d (oneIf els) (St.lns els d) (St.lns els (dn d))) := rfl
  rw [eln] at hsz ⊢
  obtain ⟨W1, hW1⟩ : ∃ W1, w.alloc (.cells #[.int .i64 k, .int .i64 n, .string s, .slice a args.length cap, .slice a2 body.length cap2, .slice a3 els.length cap3] 27) = W1 := ⟨_, rfl⟩
  have hb1 : Below w.heap.size w W1 := by rw [← hW1]; exact (Below.refl _ _).alloc (Nat.le_refl _) _
  have hbx1 : BoxAt W1 w.heap.size [.int .i64 k, .int .i64 n, .string s, .slice a args.length cap, .slice a2 body.length cap2, .slice a3 els.length cap3] := by rw [← hW1]; exact BoxAt.new _ _ _
  have harg : ∀ (i : Nat) (hi : i < args.length), k ≠ 1 → args[i].pr.size ≤ 1000000000000 → ∀ W, Below W1.heap.size W1 W → Calls Tryz.prog 47 #[.agg #[.int .i64 k, .int .i64 n, .string s, .slice a args.length cap, .slice a2 body.length cap2, .slice a3 els.length cap3], .int .i64 i] W (Gives W (.string args[i].pr)) := fun i hi h1 hz W hW =>
    harg0 i hi hz (by have h := (hargs _ (List.getElem_mem hi)).1; exact h.resolve_left h1) W (bt hb1 hW)
  have HW1 := Lib.hid hW1
  have HB1 := Lib.hid hb1
  clear hW1 eln hs harg0
  rcases hk3 with rfl | rfl | rfl
  · have hL : args.length = 1 := by
      simp [partsOf] at hleast hmost; omega
    rcases els with _ | ⟨y, _ | ⟨z9, r9⟩⟩
    · have e1 : lnE 9 s (Ex.prs args) (blockB d (St.lns body (dn d))) (elsB d (oneIf []) (St.lns [] d) (St.lns [] (dn d))) = (⟨#[105, 102, 32]⟩ : ByteArray) ++ argB (Ex.prs args) 0 ++ ⟨#[32]⟩ ++ blockB d (St.lns body (dn d)) ++ (⟨#[]⟩ : ByteArray) := rfl
      rw [e1, argB_get (show 0 < args.length by omega)] at hsz ⊢
      have hz := hsz
      simp only [ByteArray.size_append] at hz
      have hc0 := harg 0 (by omega) (by omega) (by omega)
      obtain ⟨x, he0⟩ : ∃ z, (args[0]'(by omega)).pr = z := ⟨_, rfl⟩
      simp only [he0] at hc0 hz ⊢
      have hcb := fun (W : World) (hW : Below W1.heap.size W1 W) => blkPR_calls body ihb F W (.slice a2 body.length cap2) (d : Int) (hF.below (bt hb1 hW)) hbody.2 (by rw [clip_nat hd]; show (blockB d (St.lns body (dn d))).size ≤ _; omega) (hxb.below hF (bt hb1 hW) (Nat.le_refl _))
      simp only [clip_nat hd] at hcb
      have hbe : St.blk body d = blockB d (St.lns body (dn d)) := rfl
      simp only [hbe] at hcb
      obtain ⟨bb, hbb⟩ : ∃ z, blockB d (St.lns body (dn d)) = z := ⟨_, rfl⟩
      simp only [hbb] at hcb hz ⊢
      have HCB := Lib.hid hcb
      clear hcb hbe
      obtain ⟨r, hr2⟩ : ∃ r, (⟨#[105, 102, 32]⟩ : ByteArray) ++ x ++ ⟨#[32]⟩ ++ bb ++ (⟨#[]⟩ : ByteArray) = r := ⟨_, rfl⟩
      rw [hr2]
      have HR := Lib.hid hr2
      have HC0 : Hid (∀ W, Below W1.heap.size W1 W → Calls Tryz.prog 47 #[.agg #[.int .i64 9, .int .i64 n, .string s, .slice a args.length cap, .slice a2 body.length cap2, .slice a3 ([] : List St).length cap3], .int .i64 0] W (Gives W (.string x))) := Lib.hid hc0
      simp only [List.length_nil] at HW1 hbx1 HC0
      clear hr hx hxb hxe hargs hbody hels h19 hname harg hsz e1 hr2 hF hleast hmost hL hb1 ihb ihe ihp hc0 he0 hbb
      go_enter Tryz.func24, Tryz.ntmps24
      go_upto_region 1 with fail
      rw [HW1.out]
      have y0 := hbx1.2 0 (by simp); have y1 := hbx1.2 1 (by simp); have y2 := hbx1.2 2 (by simp); have y3 := hbx1.2 3 (by simp); have y4 := hbx1.2 4 (by simp); have y5 := hbx1.2 5 (by simp); simp only [cqs, cqz] at y0 y1 y2 y3 y4 y5
      go_upto_region 6 with fail
      have K {f : FuncId} {args : Array Value} {u : Value} (h : ∀ w', Below W1.heap.size W1 w' → Calls Tryz.prog f args w' (Gives w' u)) (p : Regrown) : Calls Tryz.prog f args (grow (redrawn W1 p.d) p.os) fun e w3 => e = .returned u ∧ ∃ p : Regrown, w3 = grow (redrawn W1 p.d) p.os := regrown_gives (fun w3 hb => h w3 hb) p
      have G1 := Lib.hid (K HC0.out)
      have G2 := Lib.hid (K HCB.out)
      clear K
      have c0 := fun d os => cell_regrown y0 d os; have c1 := fun d os => cell_regrown y1 d os; have c2 := fun d os => cell_regrown y2 d os; have c3 := fun d os => cell_regrown y3 d os; have c4 := fun d os => cell_regrown y4 d os; have c5 := fun d os => cell_regrown y5 d os
      refine wp_region_quiet_below (by kernel_rfl) (by kernel_rfl) ?_
      repeat (go_big_quiet_step (first | with_reducible exact G1.out _ | with_reducible exact G2.out _))
      refine wpQuiet_nil ?_
      intro w6 hw6
      have hb6 := below_of_regrown hw6
      clear hw6
      clear y0 y1 y2 y3 y4 y5 c0 c1 c2 c3 c4 c5 G1 G2
      have hbx6 := hbx1.below hb6 hbx1.1
      have y0 := hbx6.2 0 (by simp); have y1 := hbx6.2 1 (by simp); have y2 := hbx6.2 2 (by simp); have y3 := hbx6.2 3 (by simp); have y4 := hbx6.2 4 (by simp); have y5 := hbx6.2 5 (by simp); simp only [cqs, cqz] at y0 y1 y2 y3 y4 y5
      clear hbx6 hbx1
      go_wp2_with fail
      go_ret
      exact ⟨ret_str (by rw [← HR.out, app_emp]), bt HB1.out hb6⟩
    · by_cases hy : y.kind = 9
      · have ho : oneIf [y] = true := by simp [oneIf, hy]
        have e1 : lnE 9 s (Ex.prs args) (blockB d (St.lns body (dn d))) (elsB d (oneIf [y]) (St.lns [y] d) (St.lns [y] (dn d))) = (⟨#[105, 102, 32]⟩ : ByteArray) ++ argB (Ex.prs args) 0 ++ ⟨#[32]⟩ ++ blockB d (St.lns body (dn d)) ++ ((⟨#[32, 101, 108, 115, 101, 32]⟩ : ByteArray) ++ y.ln d) := by rw [ho]; rfl
        rw [e1, argB_get (show 0 < args.length by omega)] at hsz ⊢
        have hz := hsz
        simp only [ByteArray.size_append] at hz
        have hc0 := harg 0 (by omega) (by omega) (by omega)
        obtain ⟨x, he0⟩ : ∃ z, (args[0]'(by omega)).pr = z := ⟨_, rfl⟩
        simp only [he0] at hc0 hz ⊢
        have hcb := fun (W : World) (hW : Below W1.heap.size W1 W) => blkPR_calls body ihb F W (.slice a2 body.length cap2) (d : Int) (hF.below (bt hb1 hW)) hbody.2 (by rw [clip_nat hd]; show (blockB d (St.lns body (dn d))).size ≤ _; omega) (hxb.below hF (bt hb1 hW) (Nat.le_refl _))
        simp only [clip_nat hd] at hcb
        have hbe : St.blk body d = blockB d (St.lns body (dn d)) := rfl
        simp only [hbe] at hcb
        obtain ⟨bb, hbb⟩ : ∃ z, blockB d (St.lns body (dn d)) = z := ⟨_, rfl⟩
        simp only [hbb] at hcb hz ⊢
        have HCB := Lib.hid hcb
        clear hcb hbe
        obtain ⟨-, -, -, hae⟩ := hxe.opn
        obtain ⟨b3, off3, rfl, hFb3, hel3⟩ := hae (by simp)
        have hcy := fun (W : World) (hW : Below W1.heap.size W1 W) cs hcs => ihe y (by simp) (Or.inl hy) F W cs d (hF.below (bt hb1 hW)) (hels.2 y (by simp)) hd (by omega) hcs
        obtain ⟨ye, hye⟩ : ∃ z, y.ln d = z := ⟨_, rfl⟩
        simp only [hye] at hcy hz ⊢
        obtain ⟨r, hr2⟩ : ∃ r, (⟨#[105, 102, 32]⟩ : ByteArray) ++ x ++ ⟨#[32]⟩ ++ bb ++ ((⟨#[32, 101, 108, 115, 101, 32]⟩ : ByteArray) ++ ye) = r := ⟨_, rfl⟩
        rw [hr2]
        have HR := Lib.hid hr2
        have HC0 : Hid (∀ W, Below W1.heap.size W1 W → Calls Tryz.prog 47 #[.agg #[.int .i64 9, .int .i64 n, .string s, .slice a args.length cap, .slice a2 body.length cap2, .slice (some ⟨b3, off3, none⟩) [y].length cap3], .int .i64 0] W (Gives W (.string x))) := Lib.hid hc0
        simp only [List.length_cons, List.length_nil, Nat.zero_add] at HW1 hbx1 HC0
        have HCY : Hid (∀ W, Below W1.heap.size W1 W → ∃ kd n0 s0 a0 m0 cap0 a4 m4 cap4 a5 m5 cap5, (kd = (9 : Int)) ∧ (W.cell? ⟨b3, off3, none⟩ = some (.int .i64 kd) ∧ W.cell? ⟨b3, off3 + 1, none⟩ = some (.int .i64 n0) ∧ W.cell? ⟨b3, off3 + 2, none⟩ = some (.string s0) ∧ W.cell? ⟨b3, off3 + 3, none⟩ = some (.slice a0 m0 cap0) ∧ W.cell? ⟨b3, off3 + 4, none⟩ = some (.slice a4 m4 cap4) ∧ W.cell? ⟨b3, off3 + 5, none⟩ = some (.slice a5 m5 cap5)) ∧
            Calls Tryz.prog 24 #[.agg #[.int .i64 kd, .int .i64 n0, .string s0, .slice a0 m0 cap0, .slice a4 m4 cap4, .slice a5 m5 cap5], .int .i64 d] W (Gives W (.string ye))) := Lib.hid fun W hW => by
          obtain ⟨kd, n0, s0, a0, m0, cap0, a4, m4, cap4, a5, m5, cap5, hx0, g0, g1, g2, g3, g4, g5⟩ := hel3 W ((bt hb1 hW).block b3 (hF b3 hFb3)) 0 (by simp)
          simp only [Nat.zero_mul, Nat.add_zero] at g0 g1 g2 g3 g4 g5
          have hk9 := hx0.parts.1
          exact ⟨kd, n0, s0, a0, m0, cap0, a4, m4, cap4, a5, m5, cap5, hk9.symm.trans hy, ⟨g0, g1, g2, g3, g4, g5⟩, hcy W hW _ (hx0.below hF (bt hb1 hW) (Nat.le_refl _))⟩
        clear hr hx hxb hxe hargs hbody hels h19 hname harg hsz e1 hr2 hF hleast hmost hL hb1 ihb ihe ihp hc0 he0 hbb hye hcy hae hFb3 hel3 ho hy
        go_enter Tryz.func24, Tryz.ntmps24
        go_upto_region 1 with fail
        rw [HW1.out]
        have y0 := hbx1.2 0 (by simp); have y1 := hbx1.2 1 (by simp); have y2 := hbx1.2 2 (by simp); have y3 := hbx1.2 3 (by simp); have y4 := hbx1.2 4 (by simp); have y5 := hbx1.2 5 (by simp); simp only [cqs, cqz] at y0 y1 y2 y3 y4 y5
        go_upto_region 6 with fail
        have K {f : FuncId} {args : Array Value} {u : Value} (h : ∀ w', Below W1.heap.size W1 w' → Calls Tryz.prog f args w' (Gives w' u)) (p : Regrown) : Calls Tryz.prog f args (grow (redrawn W1 p.d) p.os) fun e w3 => e = .returned u ∧ ∃ p : Regrown, w3 = grow (redrawn W1 p.d) p.os := regrown_gives (fun w3 hb => h w3 hb) p
        have G1 := Lib.hid (K HC0.out)
        have G2 := Lib.hid (K HCB.out)
        clear K
        have c0 := fun d os => cell_regrown y0 d os; have c1 := fun d os => cell_regrown y1 d os; have c2 := fun d os => cell_regrown y2 d os; have c3 := fun d os => cell_regrown y3 d os; have c4 := fun d os => cell_regrown y4 d os; have c5 := fun d os => cell_regrown y5 d os
        refine wp_region_quiet_below (by kernel_rfl) (by kernel_rfl) ?_
        repeat (go_big_quiet_step (first | with_reducible exact G1.out _ | with_reducible exact G2.out _))
        refine wpQuiet_nil ?_
        intro w6 hw6
        have hb6 := below_of_regrown hw6
        clear hw6
        clear y0 y1 y2 y3 y4 y5 c0 c1 c2 c3 c4 c5 G1 G2
        have hbx6 := hbx1.below hb6 hbx1.1
        have y0 := hbx6.2 0 (by simp); have y1 := hbx6.2 1 (by simp); have y2 := hbx6.2 2 (by simp); have y3 := hbx6.2 3 (by simp); have y4 := hbx6.2 4 (by simp); have y5 := hbx6.2 5 (by simp); simp only [cqs, cqz] at y0 y1 y2 y3 y4 y5
        obtain ⟨kd, n0, s0, a0, m0, cap0, a4, m4, cap4, a5, m5, cap5, rfl, ⟨g0, g1, g2, g3, g4, g5⟩, hcl⟩ := HCY.out w6 hb6
        have HCL := Lib.hid hcl
        have HB6 := Lib.hid hb6
        clear hcl hbx6 hb6 hbx1
        go_wp2_with (go_at_call 24; (with_reducible refine (HCL.out).mono ?_); rintro e w7 ⟨rfl, hb7⟩)
        go_ret
        exact ⟨ret_str (by rw [← HR.out]; simp only [ByteArray.append_assoc]), bt HB1.out (bt HB6.out hb7)⟩
      · have ho : oneIf [y] = false := by simp [oneIf, hy]
        have e1 : lnE 9 s (Ex.prs args) (blockB d (St.lns body (dn d))) (elsB d (oneIf [y]) (St.lns [y] d) (St.lns [y] (dn d))) = (⟨#[105, 102, 32]⟩ : ByteArray) ++ argB (Ex.prs args) 0 ++ ⟨#[32]⟩ ++ blockB d (St.lns body (dn d)) ++ ((⟨#[32, 101, 108, 115, 101, 32]⟩ : ByteArray) ++ blockB d (St.lns [y] (dn d))) := by rw [ho]; rfl
        rw [e1, argB_get (show 0 < args.length by omega)] at hsz ⊢
        have hz := hsz
        simp only [ByteArray.size_append] at hz
        have hc0 := harg 0 (by omega) (by omega) (by omega)
        obtain ⟨x, he0⟩ : ∃ z, (args[0]'(by omega)).pr = z := ⟨_, rfl⟩
        simp only [he0] at hc0 hz ⊢
        have hcb := fun (W : World) (hW : Below W1.heap.size W1 W) => blkPR_calls body ihb F W (.slice a2 body.length cap2) (d : Int) (hF.below (bt hb1 hW)) hbody.2 (by rw [clip_nat hd]; show (blockB d (St.lns body (dn d))).size ≤ _; omega) (hxb.below hF (bt hb1 hW) (Nat.le_refl _))
        simp only [clip_nat hd] at hcb
        have hbe : St.blk body d = blockB d (St.lns body (dn d)) := rfl
        simp only [hbe] at hcb
        obtain ⟨bb, hbb⟩ : ∃ z, blockB d (St.lns body (dn d)) = z := ⟨_, rfl⟩
        simp only [hbb] at hcb hz ⊢
        have HCB := Lib.hid hcb
        clear hcb hbe
        have hcy := fun (W : World) (hW : Below W1.heap.size W1 W) => blkPR_calls [y] ihp F W (.slice a3 [y].length cap3) (d : Int) (hF.below (bt hb1 hW)) hels.2 (by rw [clip_nat hd]; show (blockB d (St.lns [y] (dn d))).size ≤ _; omega) (hxe.below hF (bt hb1 hW) (Nat.le_refl _))
        simp only [clip_nat hd] at hcy
        have hyb : St.blk [y] d = blockB d (St.lns [y] (dn d)) := rfl
        simp only [hyb] at hcy
        obtain ⟨ye, hye⟩ : ∃ z, blockB d (St.lns [y] (dn d)) = z := ⟨_, rfl⟩
        simp only [hye] at hcy hz ⊢
        clear hyb
        obtain ⟨r, hr2⟩ : ∃ r, (⟨#[105, 102, 32]⟩ : ByteArray) ++ x ++ ⟨#[32]⟩ ++ bb ++ ((⟨#[32, 101, 108, 115, 101, 32]⟩ : ByteArray) ++ ye) = r := ⟨_, rfl⟩
        rw [hr2]
        have HR := Lib.hid hr2
        have HC0 : Hid (∀ W, Below W1.heap.size W1 W → Calls Tryz.prog 47 #[.agg #[.int .i64 9, .int .i64 n, .string s, .slice a args.length cap, .slice a2 body.length cap2, .slice a3 [y].length cap3], .int .i64 0] W (Gives W (.string x))) := Lib.hid hc0
        simp only [List.length_cons, List.length_nil, Nat.zero_add] at HW1 hbx1 hcy HC0
        have HCY := Lib.hid hcy
        obtain ⟨-, -, -, hae⟩ := hxe.opn
        obtain ⟨b3, off3, rfl, hFb3, hel3⟩ := hae (by simp)
        have HKD : Hid (∀ W, Below W1.heap.size W1 W → ∃ kd : Int, kd ≠ 9 ∧ W.cell? ⟨b3, off3, none⟩ = some (.int .i64 kd)) := Lib.hid fun W hW => by
          obtain ⟨kd, n0, s0, a0, m0, cap0, a4, m4, cap4, a5, m5, cap5, hx0, g0, -⟩ := hel3 W ((bt hb1 hW).block b3 (hF b3 hFb3)) 0 (by simp)
          simp only [Nat.zero_mul, Nat.add_zero] at g0
          have hk9 := hx0.parts.1
          exact ⟨kd, fun e => hy (hk9.trans e), g0⟩
        clear hr hx hxb hxe hargs hbody hels h19 hname harg hsz e1 hr2 hF hleast hmost hL hb1 ihb ihe ihp hc0 he0 hbb hye hcy hae hFb3 hel3 ho hy
        go_enter Tryz.func24, Tryz.ntmps24
        go_upto_region 1 with fail
        rw [HW1.out]
        have y0 := hbx1.2 0 (by simp); have y1 := hbx1.2 1 (by simp); have y2 := hbx1.2 2 (by simp); have y3 := hbx1.2 3 (by simp); have y4 := hbx1.2 4 (by simp); have y5 := hbx1.2 5 (by simp); simp only [cqs, cqz] at y0 y1 y2 y3 y4 y5
        go_upto_region 6 with fail
        have K {f : FuncId} {args : Array Value} {u : Value} (h : ∀ w', Below W1.heap.size W1 w' → Calls Tryz.prog f args w' (Gives w' u)) (p : Regrown) : Calls Tryz.prog f args (grow (redrawn W1 p.d) p.os) fun e w3 => e = .returned u ∧ ∃ p : Regrown, w3 = grow (redrawn W1 p.d) p.os := regrown_gives (fun w3 hb => h w3 hb) p
        have G1 := Lib.hid (K HC0.out)
        have G2 := Lib.hid (K HCB.out)
        clear K
        have c0 := fun d os => cell_regrown y0 d os; have c1 := fun d os => cell_regrown y1 d os; have c2 := fun d os => cell_regrown y2 d os; have c3 := fun d os => cell_regrown y3 d os; have c4 := fun d os => cell_regrown y4 d os; have c5 := fun d os => cell_regrown y5 d os
        refine wp_region_quiet_below (by kernel_rfl) (by kernel_rfl) ?_
        repeat (go_big_quiet_step (first | with_reducible exact G1.out _ | with_reducible exact G2.out _))
        refine wpQuiet_nil ?_
        intro w6 hw6
        have hb6 := below_of_regrown hw6
        clear hw6
        clear y0 y1 y2 y3 y4 y5 c0 c1 c2 c3 c4 c5 G1 G2
        have hbx6 := hbx1.below hb6 hbx1.1
        have y0 := hbx6.2 0 (by simp); have y1 := hbx6.2 1 (by simp); have y2 := hbx6.2 2 (by simp); have y3 := hbx6.2 3 (by simp); have y4 := hbx6.2 4 (by simp); have y5 := hbx6.2 5 (by simp); simp only [cqs, cqz] at y0 y1 y2 y3 y4 y5
        obtain ⟨kd, hkd, g0⟩ := HKD.out w6 hb6
        have hkb : (kd == 9) = false := by simpa using hkd
        have HCL := Lib.hid (HCY.out w6 hb6)
        have HB6 := Lib.hid hb6
        clear hbx6 hb6 hbx1
        go_wp2_with (go_at_call 11; (with_reducible refine (HCL.out).mono ?_); rintro e w7 ⟨rfl, hb7⟩)
        go_ret
        exact ⟨ret_str (by rw [← HR.out]; simp only [ByteArray.append_assoc]), bt HB1.out (bt HB6.out hb7)⟩
    · have e1 : lnE 9 s (Ex.prs args) (blockB d (St.lns body (dn d))) (elsB d (oneIf (y :: z9 :: r9)) (St.lns (y :: z9 :: r9) d) (St.lns (y :: z9 :: r9) (dn d))) = (⟨#[105, 102, 32]⟩ : ByteArray) ++ argB (Ex.prs args) 0 ++ ⟨#[32]⟩ ++ blockB d (St.lns body (dn d)) ++ ((⟨#[32, 101, 108, 115, 101, 32]⟩ : ByteArray) ++ blockB d (St.lns (y :: z9 :: r9) (dn d))) := rfl
      rw [e1, argB_get (show 0 < args.length by omega)] at hsz ⊢
      have hz := hsz
      simp only [ByteArray.size_append] at hz
      have hc0 := harg 0 (by omega) (by omega) (by omega)
      obtain ⟨x, he0⟩ : ∃ z, (args[0]'(by omega)).pr = z := ⟨_, rfl⟩
      simp only [he0] at hc0 hz ⊢
      have hcb := fun (W : World) (hW : Below W1.heap.size W1 W) => blkPR_calls body ihb F W (.slice a2 body.length cap2) (d : Int) (hF.below (bt hb1 hW)) hbody.2 (by rw [clip_nat hd]; show (blockB d (St.lns body (dn d))).size ≤ _; omega) (hxb.below hF (bt hb1 hW) (Nat.le_refl _))
      simp only [clip_nat hd] at hcb
      have hbe : St.blk body d = blockB d (St.lns body (dn d)) := rfl
      simp only [hbe] at hcb
      obtain ⟨bb, hbb⟩ : ∃ z, blockB d (St.lns body (dn d)) = z := ⟨_, rfl⟩
      simp only [hbb] at hcb hz ⊢
      have HCB := Lib.hid hcb
      clear hcb hbe
      have hcy := fun (W : World) (hW : Below W1.heap.size W1 W) => blkPR_calls (y :: z9 :: r9) ihp F W (.slice a3 (y :: z9 :: r9).length cap3) (d : Int) (hF.below (bt hb1 hW)) hels.2 (by rw [clip_nat hd]; show (blockB d (St.lns (y :: z9 :: r9) (dn d))).size ≤ _; omega) (hxe.below hF (bt hb1 hW) (Nat.le_refl _))
      simp only [clip_nat hd] at hcy
      have hyb : St.blk (y :: z9 :: r9) d = blockB d (St.lns (y :: z9 :: r9) (dn d)) := rfl
      simp only [hyb] at hcy
      obtain ⟨ye, hye⟩ : ∃ z, blockB d (St.lns (y :: z9 :: r9) (dn d)) = z := ⟨_, rfl⟩
      simp only [hye] at hcy hz ⊢
      clear hyb
      obtain ⟨r, hr2⟩ : ∃ r, (⟨#[105, 102, 32]⟩ : ByteArray) ++ x ++ ⟨#[32]⟩ ++ bb ++ ((⟨#[32, 101, 108, 115, 101, 32]⟩ : ByteArray) ++ ye) = r := ⟨_, rfl⟩
      rw [hr2]
      have HR := Lib.hid hr2
      have HC0 : Hid (∀ W, Below W1.heap.size W1 W → Calls Tryz.prog 47 #[.agg #[.int .i64 9, .int .i64 n, .string s, .slice a args.length cap, .slice a2 body.length cap2, .slice a3 (y :: z9 :: r9).length cap3], .int .i64 0] W (Gives W (.string x))) := Lib.hid hc0
      simp only [List.length_cons] at HW1 hbx1 hcy HC0
      have HCY := Lib.hid hcy
      clear hr hx hxb hxe hargs hbody hels h19 hname harg hsz e1 hr2 hF hleast hmost hL hb1 ihb ihe ihp hc0 he0 hbb hye hcy
      go_enter Tryz.func24, Tryz.ntmps24
      go_upto_region 1 with fail
      rw [HW1.out]
      have y0 := hbx1.2 0 (by simp); have y1 := hbx1.2 1 (by simp); have y2 := hbx1.2 2 (by simp); have y3 := hbx1.2 3 (by simp); have y4 := hbx1.2 4 (by simp); have y5 := hbx1.2 5 (by simp); simp only [cqs, cqz] at y0 y1 y2 y3 y4 y5
      go_upto_region 6 with fail
      have K {f : FuncId} {args : Array Value} {u : Value} (h : ∀ w', Below W1.heap.size W1 w' → Calls Tryz.prog f args w' (Gives w' u)) (p : Regrown) : Calls Tryz.prog f args (grow (redrawn W1 p.d) p.os) fun e w3 => e = .returned u ∧ ∃ p : Regrown, w3 = grow (redrawn W1 p.d) p.os := regrown_gives (fun w3 hb => h w3 hb) p
      have G1 := Lib.hid (K HC0.out)
      have G2 := Lib.hid (K HCB.out)
      clear K
      have c0 := fun d os => cell_regrown y0 d os; have c1 := fun d os => cell_regrown y1 d os; have c2 := fun d os => cell_regrown y2 d os; have c3 := fun d os => cell_regrown y3 d os; have c4 := fun d os => cell_regrown y4 d os; have c5 := fun d os => cell_regrown y5 d os
      refine wp_region_quiet_below (by kernel_rfl) (by kernel_rfl) ?_
      repeat (go_big_quiet_step (first | with_reducible exact G1.out _ | with_reducible exact G2.out _))
      refine wpQuiet_nil ?_
      intro w6 hw6
      have hb6 := below_of_regrown hw6
      clear hw6
      clear y0 y1 y2 y3 y4 y5 c0 c1 c2 c3 c4 c5 G1 G2
      have hbx6 := hbx1.below hb6 hbx1.1
      have y0 := hbx6.2 0 (by simp); have y1 := hbx6.2 1 (by simp); have y2 := hbx6.2 2 (by simp); have y3 := hbx6.2 3 (by simp); have y4 := hbx6.2 4 (by simp); have y5 := hbx6.2 5 (by simp); simp only [cqs, cqz] at y0 y1 y2 y3 y4 y5
      have hm1 : ¬ ((r9.length : Int) + 1 + 1 = 1) := by omega
      have hm2 : ¬ ((r9.length : Int) + 1 + 1 = 0) := by omega
      have HCL := Lib.hid (HCY.out w6 hb6)
      have HB6 := Lib.hid hb6
      clear hbx6 hb6 hbx1
      go_wp2_with (go_at_call 11; (with_reducible refine (HCL.out).mono ?_); rintro e w7 ⟨rfl, hb7⟩)
      go_ret
      exact ⟨ret_str (by rw [← HR.out]; simp only [ByteArray.append_assoc]), bt HB1.out (bt HB6.out hb7)⟩
  · have hL : args.length = 1 := by
      simp [partsOf] at hleast hmost; omega
    have e1 : lnE 10 s (Ex.prs args) (blockB d (St.lns body (dn d))) (elsB d (oneIf els) (St.lns els d) (St.lns els (dn d))) = (⟨#[119, 104, 105, 108, 101, 32]⟩ : ByteArray) ++ argB (Ex.prs args) 0 ++ ⟨#[32]⟩ ++ blockB d (St.lns body (dn d)) := rfl
    rw [e1, argB_get (show 0 < args.length by omega)] at hsz ⊢
    have hz := hsz
    simp only [ByteArray.size_append] at hz
    have hc0 := harg 0 (by omega) (by omega) (by omega)
    obtain ⟨x, he0⟩ : ∃ z, (args[0]'(by omega)).pr = z := ⟨_, rfl⟩
    simp only [he0] at hc0 hz ⊢
    have hcb := fun (W : World) (hW : Below W1.heap.size W1 W) => blkPR_calls body ihb F W (.slice a2 body.length cap2) (d : Int) (hF.below (bt hb1 hW)) hbody.2 (by rw [clip_nat hd]; show (blockB d (St.lns body (dn d))).size ≤ _; omega) (hxb.below hF (bt hb1 hW) (Nat.le_refl _))
    simp only [clip_nat hd] at hcb
    have hbe : St.blk body d = blockB d (St.lns body (dn d)) := rfl
    simp only [hbe] at hcb
    obtain ⟨bb, hbb⟩ : ∃ z, blockB d (St.lns body (dn d)) = z := ⟨_, rfl⟩
    simp only [hbb] at hcb hz ⊢
    have HCB := Lib.hid hcb
    clear hcb hbe
    obtain ⟨r, hr2⟩ : ∃ r, (⟨#[119, 104, 105, 108, 101, 32]⟩ : ByteArray) ++ x ++ ⟨#[32]⟩ ++ bb = r := ⟨_, rfl⟩
    rw [hr2]
    have HR := Lib.hid hr2
    have HC0 : Hid (∀ W, Below W1.heap.size W1 W → Calls Tryz.prog 47 #[.agg #[.int .i64 10, .int .i64 n, .string s, .slice a args.length cap, .slice a2 body.length cap2, .slice a3 els.length cap3], .int .i64 0] W (Gives W (.string x))) := Lib.hid hc0
    clear hr hx hxb hxe hargs hbody hels h19 hname harg hsz e1 hr2 hF hleast hmost hL hb1 ihb ihe ihp hc0 he0 hbb
    go_enter Tryz.func24, Tryz.ntmps24
    go_upto_region 1 with fail
    rw [HW1.out]
    have y0 := hbx1.2 0 (by simp); have y1 := hbx1.2 1 (by simp); have y2 := hbx1.2 2 (by simp); have y3 := hbx1.2 3 (by simp); have y4 := hbx1.2 4 (by simp); have y5 := hbx1.2 5 (by simp); simp only [cqs, cqz] at y0 y1 y2 y3 y4 y5
    go_upto_region 6 with fail
    have K {f : FuncId} {args : Array Value} {u : Value} (h : ∀ w', Below W1.heap.size W1 w' → Calls Tryz.prog f args w' (Gives w' u)) (p : Regrown) : Calls Tryz.prog f args (grow (redrawn W1 p.d) p.os) fun e w3 => e = .returned u ∧ ∃ p : Regrown, w3 = grow (redrawn W1 p.d) p.os := regrown_gives (fun w3 hb => h w3 hb) p
    have G1 := Lib.hid (K HC0.out)
    have G2 := Lib.hid (K HCB.out)
    clear K
    have c0 := fun d os => cell_regrown y0 d os; have c1 := fun d os => cell_regrown y1 d os; have c2 := fun d os => cell_regrown y2 d os; have c3 := fun d os => cell_regrown y3 d os; have c4 := fun d os => cell_regrown y4 d os; have c5 := fun d os => cell_regrown y5 d os
    refine wp_region_quiet_below (by kernel_rfl) (by kernel_rfl) ?_
    repeat (go_big_quiet_step (first | with_reducible exact G1.out _ | with_reducible exact G2.out _))
    refine wpQuiet_nil ?_
    intro w6 hw6
    have hb6 := below_of_regrown hw6
    clear hw6
    clear y0 y1 y2 y3 y4 y5 c0 c1 c2 c3 c4 c5 G1 G2
    have hbx6 := hbx1.below hb6 hbx1.1
    have y0 := hbx6.2 0 (by simp); have y1 := hbx6.2 1 (by simp); have y2 := hbx6.2 2 (by simp); have y3 := hbx6.2 3 (by simp); have y4 := hbx6.2 4 (by simp); have y5 := hbx6.2 5 (by simp); simp only [cqs, cqz] at y0 y1 y2 y3 y4 y5
    clear hbx6 hbx1
    go_wp2_with fail
    go_ret
    exact ⟨ret_str HR.out, bt HB1.out hb6⟩
  · have hL : args.length = 1 := by
      simp [partsOf] at hleast hmost; omega
    have e1 : lnE 11 s (Ex.prs args) (blockB d (St.lns body (dn d))) (elsB d (oneIf els) (St.lns els d) (St.lns els (dn d))) = (⟨#[101, 97, 99, 104, 32]⟩ : ByteArray) ++ s ++ ⟨#[32, 105, 110, 32]⟩ ++ argB (Ex.prs args) 0 ++ ⟨#[32]⟩ ++ blockB d (St.lns body (dn d)) := rfl
    rw [e1, argB_get (show 0 < args.length by omega)] at hsz ⊢
    have hz := hsz
    simp only [ByteArray.size_append] at hz
    have hc0 := harg 0 (by omega) (by omega) (by omega)
    obtain ⟨x, he0⟩ : ∃ z, (args[0]'(by omega)).pr = z := ⟨_, rfl⟩
    simp only [he0] at hc0 hz ⊢
    have hcb := fun (W : World) (hW : Below W1.heap.size W1 W) => blkPR_calls body ihb F W (.slice a2 body.length cap2) (d : Int) (hF.below (bt hb1 hW)) hbody.2 (by rw [clip_nat hd]; show (blockB d (St.lns body (dn d))).size ≤ _; omega) (hxb.below hF (bt hb1 hW) (Nat.le_refl _))
    simp only [clip_nat hd] at hcb
    have hbe : St.blk body d = blockB d (St.lns body (dn d)) := rfl
    simp only [hbe] at hcb
    obtain ⟨bb, hbb⟩ : ∃ z, blockB d (St.lns body (dn d)) = z := ⟨_, rfl⟩
    simp only [hbb] at hcb hz ⊢
    have HCB := Lib.hid hcb
    clear hcb hbe
    obtain ⟨r, hr2⟩ : ∃ r, (⟨#[101, 97, 99, 104, 32]⟩ : ByteArray) ++ s ++ ⟨#[32, 105, 110, 32]⟩ ++ x ++ ⟨#[32]⟩ ++ bb = r := ⟨_, rfl⟩
    rw [hr2]
    have HR := Lib.hid hr2
    have HC0 : Hid (∀ W, Below W1.heap.size W1 W → Calls Tryz.prog 47 #[.agg #[.int .i64 11, .int .i64 n, .string s, .slice a args.length cap, .slice a2 body.length cap2, .slice a3 els.length cap3], .int .i64 0] W (Gives W (.string x))) := Lib.hid hc0
    clear hr hx hxb hxe hargs hbody hels h19 hname harg hsz e1 hr2 hF hleast hmost hL hb1 ihb ihe ihp hc0 he0 hbb
    go_enter Tryz.func24, Tryz.ntmps24
    go_upto_region 1 with fail
    rw [HW1.out]
    have y0 := hbx1.2 0 (by simp); have y1 := hbx1.2 1 (by simp); have y2 := hbx1.2 2 (by simp); have y3 := hbx1.2 3 (by simp); have y4 := hbx1.2 4 (by simp); have y5 := hbx1.2 5 (by simp); simp only [cqs, cqz] at y0 y1 y2 y3 y4 y5
    go_upto_region 6 with fail
    have K {f : FuncId} {args : Array Value} {u : Value} (h : ∀ w', Below W1.heap.size W1 w' → Calls Tryz.prog f args w' (Gives w' u)) (p : Regrown) : Calls Tryz.prog f args (grow (redrawn W1 p.d) p.os) fun e w3 => e = .returned u ∧ ∃ p : Regrown, w3 = grow (redrawn W1 p.d) p.os := regrown_gives (fun w3 hb => h w3 hb) p
    have G1 := Lib.hid (K HC0.out)
    have G2 := Lib.hid (K HCB.out)
    clear K
    have c0 := fun d os => cell_regrown y0 d os; have c1 := fun d os => cell_regrown y1 d os; have c2 := fun d os => cell_regrown y2 d os; have c3 := fun d os => cell_regrown y3 d os; have c4 := fun d os => cell_regrown y4 d os; have c5 := fun d os => cell_regrown y5 d os
    refine wp_region_quiet_below (by kernel_rfl) (by kernel_rfl) ?_
    repeat (go_big_quiet_step (first | with_reducible exact G1.out _ | with_reducible exact G2.out _))
    refine wpQuiet_nil ?_
    intro w6 hw6
    have hb6 := below_of_regrown hw6
    clear hw6
    clear y0 y1 y2 y3 y4 y5 c0 c1 c2 c3 c4 c5 G1 G2
    have hbx6 := hbx1.below hb6 hbx1.1
    have y0 := hbx6.2 0 (by simp); have y1 := hbx6.2 1 (by simp); have y2 := hbx6.2 2 (by simp); have y3 := hbx6.2 3 (by simp); have y4 := hbx6.2 4 (by simp); have y5 := hbx6.2 5 (by simp); simp only [cqs, cqz] at y0 y1 y2 y3 y4 y5
    clear hbx6 hbx1
    go_wp2_with fail
    go_ret
    exact ⟨ret_str HR.out, bt HB1.out hb6⟩
set_option maxRecDepth 100000 in
set_option maxHeartbeats 8000000 in
theorem prSR_of (st : St) (h : OpC st) : PrSC st := by
  intro F w cs D hF hs hsz hr
  have hd := clip_le D
  have hcast := clip_castR D
  obtain ⟨d, hdd⟩ : ∃ d, clip D = d := ⟨_, rfl⟩
  rw [hdd] at hsz hcast hd ⊢
  have hz := hsz
  unfold St.pr at hz
  simp only [ByteArray.size_append] at hz
  have hT := fun W => tabsR_calls d hd W
  have hlnX : ¬ (st.kind = 9 ∨ st.kind = 10 ∨ st.kind = 11) → st.ln d = lnX st.kind st.name (Ex.prs st.args) ++ ⟨#[59]⟩ := fun hk => by
    obtain ⟨k, n, s, args, body, els⟩ := st
    simp only [St.kind] at hk
    exact lnE_X _ _ _ _ _ (fun e => hk (Or.inl e)) (fun e => hk (Or.inr (Or.inl e))) (fun e => hk (Or.inr (Or.inr e)))
  obtain ⟨k, n, nm, a, m, cap, a2, m2, cap2, a3, m3, cap3, rfl⟩ := hr.shape
  have hkk : st.kind = k := hr.parts.1
  obtain ⟨W1, hW1⟩ : ∃ W1, w.alloc (.cells #[.int .i64 k, .int .i64 n, .string nm, .slice a m cap, .slice a2 m2 cap2, .slice a3 m3 cap3] 27) = W1 := ⟨_, rfl⟩
  have hb1 : Below w.heap.size w W1 := by rw [← hW1]; exact (Below.refl _ _).alloc (Nat.le_refl _) _
  have hbx1 : BoxAt W1 w.heap.size [.int .i64 k, .int .i64 n, .string nm, .slice a m cap, .slice a2 m2 cap2, .slice a3 m3 cap3] := by rw [← hW1]; exact BoxAt.new _ _ _
  have HW1 := Lib.hid hW1
  have HB1 := Lib.hid hb1
  have HC := Lib.hid hcast
  have hrr : tabsB d ++ st.ln d ++ ⟨#[10]⟩ = st.pr d := rfl
  have hxt := tabsB_size d
  obtain ⟨x, hx⟩ : ∃ x, tabsB d = x := ⟨_, rfl⟩
  rw [hx] at hrr hxt hz
  simp only [hx] at hT
  by_cases hk : st.kind = 9 ∨ st.kind = 10 ∨ st.kind = 11
  · have hL := fun (W : World) (hW : Below w.heap.size w W) => h hk F W _ d (hF.below hW) hs hd (by omega) (hr.below hF hW (Nat.le_refl _))
    obtain ⟨y, hy⟩ : ∃ y, st.ln d = y := ⟨_, rfl⟩
    obtain ⟨r, hr2⟩ : ∃ r, st.pr d = r := ⟨_, rfl⟩
    rw [hy] at hz
    simp only [hy] at hL
    rw [hy, hr2] at hrr
    rw [hr2]
    have HR := Lib.hid hrr; have HT := Lib.hid hT; have HL := Lib.hid hL
    rw [hkk] at hk
    clear hW1 hT hL hrr hcast h hs hr hF hsz hx hy hr2 hdd hlnX hkk
    rcases hk with rfl | rfl | rfl
    all_goals
      go_enter Tryz.func9, Tryz.ntmps9
      go_upto_region 1 with fail
      rw [HW1.out]
      go_cut [1] (fun v wc => v = .int .i64 (d : Int) ∧ W1 = wc)
      case first =>
        go_wp2_with fail
        go_meet
        case rel => exact ⟨by rw [HC.out], rfl⟩
      case rest =>
        obtain ⟨rfl, rfl⟩ := hcut
        have y0 := hbx1.2 0 (by simp); have y1 := hbx1.2 1 (by simp); have y2 := hbx1.2 2 (by simp); have y3 := hbx1.2 3 (by simp); have y4 := hbx1.2 4 (by simp); have y5 := hbx1.2 5 (by simp); simp only [cqs, cqz] at y0 y1 y2 y3 y4 y5
        go_upto_region 3 with fail
        have K {f : FuncId} {args : Array Value} {u : Value} (h : ∀ w', Below W1.heap.size W1 w' → Calls Tryz.prog f args w' (Gives w' u)) (p : Regrown) : Calls Tryz.prog f args (grow (redrawn W1 p.d) p.os) fun e w3 => e = .returned u ∧ ∃ p : Regrown, w3 = grow (redrawn W1 p.d) p.os := regrown_gives (fun w3 hb => h w3 hb) p
        have G1 := Lib.hid (K (fun W _ => HT.out W))
        have G2 := Lib.hid (K (fun W hW => HL.out W (bt hb1 hW)))
        clear K hbx1
        have c0 := fun d os => cell_regrown y0 d os; have c1 := fun d os => cell_regrown y1 d os; have c2 := fun d os => cell_regrown y2 d os; have c3 := fun d os => cell_regrown y3 d os; have c4 := fun d os => cell_regrown y4 d os; have c5 := fun d os => cell_regrown y5 d os
        refine wp_region_quiet_below (by kernel_rfl) (by kernel_rfl) ?_
        repeat (go_big_quiet_step (first | with_reducible exact G1.out _ | with_reducible exact G2.out _))
        refine wpQuiet_nil ?_
        intro w6 hw6
        have hb6 := below_of_regrown hw6
        clear hw6
        go_wp2_with fail
        go_ret
        exact ⟨ret_str HR.out, bt HB1.out hb6⟩
  · have hlx := hlnX hk
    have e59 : (⟨#[59]⟩ : ByteArray).size = 1 := rfl
    rw [hlx] at hz hrr
    simp only [ByteArray.size_append] at hz
    have hL := fun (W : World) (hW : Below w.heap.size w W) => lineR_calls st (fun e => hk (Or.inl e)) (fun e => hk (Or.inr (Or.inl e))) (fun e => hk (Or.inr (Or.inr e))) F W _ (hF.below hW) hs (by omega) (hr.below hF hW (Nat.le_refl _))
    obtain ⟨y, hy⟩ : ∃ y, lnX st.kind st.name (Ex.prs st.args) = y := ⟨_, rfl⟩
    obtain ⟨r, hr2⟩ : ∃ r, st.pr d = r := ⟨_, rfl⟩
    rw [hy] at hz
    simp only [hy] at hL
    rw [hy, hr2] at hrr
    rw [hr2]
    have hrr2 : x ++ y ++ ⟨#[59, 10]⟩ = r := by
      rw [← hrr, show (⟨#[59, 10]⟩ : ByteArray) = ⟨#[59]⟩ ++ ⟨#[10]⟩ from rfl]
      simp only [ByteArray.append_assoc]
    have HR := Lib.hid hrr2; have HT := Lib.hid hT; have HL := Lib.hid hL
    rw [hkk] at hk
    have q9 : (k == 9) = false := by simp; omega
    have q10 : (k == 10) = false := by simp; omega
    have q11 : (k == 11) = false := by simp; omega
    clear hW1 hT hL hrr hrr2 hcast h hs hr hF hsz hx hy hr2 hdd hlnX hkk hk hlx
    go_enter Tryz.func9, Tryz.ntmps9
    go_upto_region 1 with fail
    rw [HW1.out]
    go_cut [1] (fun v wc => v = .int .i64 (d : Int) ∧ W1 = wc)
    case first =>
      go_wp2_with fail
      go_meet
      case rel => exact ⟨by rw [HC.out], rfl⟩
    case rest =>
      obtain ⟨rfl, rfl⟩ := hcut
      have y0 := hbx1.2 0 (by simp); have y1 := hbx1.2 1 (by simp); have y2 := hbx1.2 2 (by simp); have y3 := hbx1.2 3 (by simp); have y4 := hbx1.2 4 (by simp); have y5 := hbx1.2 5 (by simp); simp only [cqs, cqz] at y0 y1 y2 y3 y4 y5
      go_upto_region 4 with fail
      have K {f : FuncId} {args : Array Value} {u : Value} (h : ∀ w', Below W1.heap.size W1 w' → Calls Tryz.prog f args w' (Gives w' u)) (p : Regrown) : Calls Tryz.prog f args (grow (redrawn W1 p.d) p.os) fun e w3 => e = .returned u ∧ ∃ p : Regrown, w3 = grow (redrawn W1 p.d) p.os := regrown_gives (fun w3 hb => h w3 hb) p
      have G1 := Lib.hid (K (fun W _ => HT.out W))
      have G2 := Lib.hid (K (fun W hW => HL.out W (bt hb1 hW)))
      clear K hbx1
      have c0 := fun d os => cell_regrown y0 d os; have c1 := fun d os => cell_regrown y1 d os; have c2 := fun d os => cell_regrown y2 d os; have c3 := fun d os => cell_regrown y3 d os; have c4 := fun d os => cell_regrown y4 d os; have c5 := fun d os => cell_regrown y5 d os
      refine wp_region_quiet_below (by kernel_rfl) (by kernel_rfl) ?_
      repeat (go_big_quiet_step (first | with_reducible exact G1.out _ | with_reducible exact G2.out _))
      refine wpQuiet_nil ?_
      intro w6 hw6
      have hb6 := below_of_regrown hw6
      clear hw6
      go_wp2_with fail
      go_ret
      exact ⟨ret_str HR.out, bt HB1.out hb6⟩
theorem opPrR (st : St) : OpC st ∧ PrSC st := by
  induction st using St.ind with
  | h k n s args body els ihb ihe =>
    have h := opR_calls k n s args body els (fun x hx => (ihb x hx).2) (fun x hx => (ihe x hx).1) (fun x hx => (ihe x hx).2)
    exact ⟨h, prSR_of _ h⟩
theorem blkAllR_calls (l : List St) : BlkSC l := blkPR_calls l (fun s _ => (opPrR s).2)
theorem printSR_calls (s : St) : PrSC s := (opPrR s).2
theorem blkAllT_calls (l : List St) : BlkTC l := blkT_calls l (fun s _ => lineT_calls s)
end Go.Proofs.YtnbfadgclffgkaaGreatDoor
