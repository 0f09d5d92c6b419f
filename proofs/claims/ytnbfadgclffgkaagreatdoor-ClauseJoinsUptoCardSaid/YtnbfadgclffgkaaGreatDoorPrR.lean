/- The walks of clewref11.part and clewref11.Print. Printed by gen-pr3.py. -/
import Derived.Test.YtnbfadgclffgkaaGreatDoorPrH
import Derived.Test.YtnbfadgclffgkaaGreatDoorPart8b5b231c
import Derived.Deep.RegionHeld3
import Derived.OrdersHeld
import Derived.BigRegion
namespace Go.Proofs.YtnbfadgclffgkaaGreatDoor
open Go.RowKit Go.Sort
theorem alloc_on {a b : World} (h : Below a.heap.size a b) (o : Obj) : Below a.heap.size a (b.alloc o) := h.alloc h.size o
theorem box_drew {w : World} {b : Nat} {cs : List Value} (h : BoxAt w b cs) : BoxAt w.drew b cs := h.below (Below.refl w.heap.size w).drew h.1
theorem BoxAt.lt {w : World} {b : Nat} {cs : List Value} (h : BoxAt w b cs) : b < w.heap.size := h.1
def PrRC (e : Ex) : Prop := ∀ (F : Nat → Prop) (w : World) (cs : List Value), Inn F w → Src e → ¬ SaidK e.kind → e.pr.size ≤ 1000000000000 → RdEx F w e cs →
    Calls Tryz.prog 49 #[.agg cs.toArray] w (Gives w (.string e.pr))
set_option maxRecDepth 100000 in
set_option maxHeartbeats 4000000 in
theorem partR_calls (e : Ex) (t : Int) (h : PrRC e) (F : Nat → Prop) (w : World) (cs : List Value) (hF : Inn F w) (hs : Src e) (hk : ¬ SaidK e.kind) (hsz : e.pr.size ≤ 1000000000000) (hr : RdEx F w e cs) :
    Calls Tryz.prog 92 #[.agg cs.toArray, .int .i64 t] w (Gives w (.string (wrapB (decide (tightK e.kind e.op < t)) e.pr))) := by
  obtain ⟨k, o, n, s, a, m, cap, rfl⟩ := hr.shape
  obtain ⟨e1, e2, -⟩ := hr.parts
  obtain ⟨hk1, hk2⟩ := src_kind hs
  rw [e1] at hk1 hk2
  have HP : Hid (∀ W, Below w.heap.size w W → Calls Tryz.prog 49 #[.agg #[.int .i64 k, .int .i64 o, .int .i64 n, .string s, .slice a m cap]] W (Gives W (.string e.pr))) := Lib.hid fun W hW => h F W _ (hF.below hW) hs hk hsz (hr.below hF hW (Nat.le_refl _))
  have HT : Hid (∀ W, Calls Tryz.prog 133 #[.agg #[.int .i64 k, .int .i64 o, .int .i64 n, .string s, .slice a m cap]] W (Gives W (.int .i64 (tightK k o)))) := Lib.hid fun W => tightR_calls k o n s a m cap hk1 hk2 W
  rw [e1, e2]
  obtain ⟨x, hxx⟩ : ∃ x, e.pr = x := ⟨_, rfl⟩
  obtain ⟨q, hq⟩ : ∃ q, tightK k o = q := ⟨_, rfl⟩
  rw [hxx] at HP hsz ⊢
  rw [hq] at HT ⊢
  obtain ⟨W1, hW1⟩ : ∃ W1, w.alloc (.cells #[.int .i64 k, .int .i64 o, .int .i64 n, .string s, .slice a m cap] 73) = W1 := ⟨_, rfl⟩
  have hb1 : Below w.heap.size w W1 := by rw [← hW1]; exact (Below.refl _ _).alloc (Nat.le_refl _) _
  have hbx1 : BoxAt W1 w.heap.size [.int .i64 k, .int .i64 o, .int .i64 n, .string s, .slice a m cap] := by rw [← hW1]; exact BoxAt.new _ _ _
  have HE : Hid (∀ W, Below W1.heap.size W1 W → BoxAt W w.heap.size [.int .i64 k, .int .i64 o, .int .i64 n, .string s, .slice a m cap] ∧ Below w.heap.size w W) := Lib.hid fun W hW => ⟨hbx1.below hW hbx1.1, bt hb1 hW⟩
  have HW1 := Lib.hid hW1
  clear hW1 hb1 hbx1 hr h hs hk e1 e2 hk1 hk2 hF hq hxx
  by_cases hqt : q < t
  · have hw : Hid (wrapB (decide (q < t)) x = ⟨#[40]⟩ ++ x ++ ⟨#[41]⟩) := Lib.hid (by simp [wrapB, hqt])
    go_enter Tryz.func92, Tryz.ntmps92
    go_upto_region 1 with fail
    rw [HW1.out]
    obtain ⟨hq, hqt1⟩ := HE.out W1 (Below.refl _ _)
    have y0 := hq.2 0 (by simp); have y1 := hq.2 1 (by simp); have y2 := hq.2 2 (by simp); have y3 := hq.2 3 (by simp); have y4 := hq.2 4 (by simp); simp only [cqs, cqz] at y0 y1 y2 y3 y4
    go_upto_region 2 with (go_at_call 133; (with_reducible refine (HT.out _).mono ?_); rintro e w1 ⟨rfl, hb⟩)
    clear y0 y1 y2 y3 y4
    obtain ⟨hq, hqt2⟩ := HE.out w1 hb
    have y0 := hq.2 0 (by simp); have y1 := hq.2 1 (by simp); have y2 := hq.2 2 (by simp); have y3 := hq.2 3 (by simp); have y4 := hq.2 4 (by simp); simp only [cqs, cqz] at y0 y1 y2 y3 y4
    go_wp2_with (go_at_call 49; (with_reducible refine (HP.out _ hqt2).mono ?_); rintro e w2 ⟨rfl, hb2⟩)
    go_ret
    exact ⟨ret_str hw.out.symm, bt hqt2 hb2⟩
  · have hw : Hid (wrapB (decide (q < t)) x = x) := Lib.hid (by simp [wrapB, hqt])
    go_enter Tryz.func92, Tryz.ntmps92
    go_upto_region 1 with fail
    rw [HW1.out]
    obtain ⟨hq, hqt1⟩ := HE.out W1 (Below.refl _ _)
    have y0 := hq.2 0 (by simp); have y1 := hq.2 1 (by simp); have y2 := hq.2 2 (by simp); have y3 := hq.2 3 (by simp); have y4 := hq.2 4 (by simp); simp only [cqs, cqz] at y0 y1 y2 y3 y4
    go_upto_region 3 with (go_at_call 133; (with_reducible refine (HT.out _).mono ?_); rintro e w1 ⟨rfl, hb⟩)
    clear y0 y1 y2 y3 y4
    obtain ⟨hq, hqt2⟩ := HE.out w1 hb
    have y0 := hq.2 0 (by simp); have y1 := hq.2 1 (by simp); have y2 := hq.2 2 (by simp); have y3 := hq.2 3 (by simp); have y4 := hq.2 4 (by simp); simp only [cqs, cqz] at y0 y1 y2 y3 y4
    go_wp2_with (go_at_call 49; (with_reducible refine (HP.out _ hqt2).mono ?_); rintro e w2 ⟨rfl, hb2⟩)
    go_ret
    exact ⟨ret_str hw.out.symm, bt hqt2 hb2⟩
set_option maxRecDepth 100000 in
set_option maxHeartbeats 8000000 in
theorem printR_calls (e : Ex) : PrRC e := by
  induction e using Ex.ind with
  | h k o n s args ih =>
  intro F w cs hF hs hkk hsz hr
  obtain ⟨k', o', n', s', a, m, cap, rfl⟩ := hr.shape
  obtain ⟨rfl, rfl, rfl, rfl, -, -, hn64, hs64, hx⟩ := hr.parts
  obtain ⟨rfl, hl, hc, ha⟩ := hx.opn
  simp only [Ex.kind, Ex.op, Ex.num, Ex.name, Ex.args] at *
  obtain ⟨hk, hsh, h1n, h2t, hnm, hsa⟩ := hs
  have hsa := (srcs_iff args).1 hsa
  have hprint : ∀ (i : Nat) (hi : i < args.length) (cs : List Value), RdEx F w args[i] cs → args[i].pr.size ≤ 1000000000000 → ∀ W, Below w.heap.size w W → Calls Tryz.prog 49 #[.agg cs.toArray] W (Gives W (.string args[i].pr)) := fun i hi cs hcs hz W hW =>
    ih _ (List.getElem_mem hi) F W cs (hF.below hW) (hsa _ (List.getElem_mem hi)).2 (hsa _ (List.getElem_mem hi)).1 hz (hcs.below hF hW (Nat.le_refl _))
  have hpart : ∀ (i : Nat) (t : Int) (hi : i < args.length) (cs : List Value), RdEx F w args[i] cs → args[i].pr.size ≤ 1000000000000 → ∀ W, Below w.heap.size w W → Calls Tryz.prog 92 #[.agg cs.toArray, .int .i64 t] W (Gives W (.string (pt (Ex.prs args) i t))) := by
    intro i t hi cs hcs hz W hW
    rw [pt_get hi]
    exact partR_calls args[i] t (ih _ (List.getElem_mem hi)) F W cs (hF.below hW) (hsa _ (List.getElem_mem hi)).2 (hsa _ (List.getElem_mem hi)).1 hz (hcs.below hF hW (Nat.le_refl _))
  have epr : (Ex.mk k o n s args).pr = prE k o n s (Ex.prs args) := rfl
  rw [epr] at hsz ⊢
  clear epr ih hr hx
  rcases ekind_cases k hk.1 hk.2 with rfl | rfl | rfl | rfl | rfl | rfl | rfl | rfl | rfl | rfl | rfl | rfl | rfl
  · have HN := Lib.hid (fun W => textR_calls (n.natAbs + 1) n (by omega) hn64 W)
    have e1 : prE 1 o n s (Ex.prs args) = numB n := rfl
    rw [e1] at hsz ⊢
    clear e1 hsa hsh hnm h1n h2t hF hprint hpart hkk ha
    obtain ⟨W1, hW1⟩ : ∃ W1, w.alloc (.cells #[.int .i64 1, .int .i64 o, .int .i64 n, .string s, .slice a args.length cap] 73) = W1 := ⟨_, rfl⟩
    have hb1 : Below w.heap.size w W1 := by rw [← hW1]; exact (Below.refl _ _).alloc (Nat.le_refl _) _
    have hbx1 : BoxAt W1 w.heap.size [.int .i64 1, .int .i64 o, .int .i64 n, .string s, .slice a args.length cap] := by rw [← hW1]; exact BoxAt.new _ _ _
    have HE : Hid (∀ W, Below W1.heap.size W1 W → BoxAt W w.heap.size [.int .i64 1, .int .i64 o, .int .i64 n, .string s, .slice a args.length cap] ∧ Below w.heap.size w W) := Lib.hid fun W hW => ⟨hbx1.below hW hbx1.1, bt hb1 hW⟩
    have HW1 := Lib.hid hW1
    clear hW1 hb1 hbx1
    go_enter Tryz.func49, Tryz.ntmps49
    go_upto_region 1 with fail
    rw [HW1.out]
    obtain ⟨hq, hqt⟩ := HE.out W1 (Below.refl _ _)
    have y0 := hq.2 0 (by simp); have y1 := hq.2 1 (by simp); have y2 := hq.2 2 (by simp); have y3 := hq.2 3 (by simp); have y4 := hq.2 4 (by simp); simp only [cqs, cqz] at y0 y1 y2 y3 y4
    go_wp2_with (go_at_call 91; (with_reducible refine (HN.out _).mono ?_); rintro e w1 ⟨rfl, rfl⟩)
    go_ret
    exact ⟨rfl, hqt⟩
  · exact absurd (Or.inl rfl) hkk
  · have e1 : prE 3 o n s (Ex.prs args) = s := rfl
    rw [e1] at hsz ⊢
    clear e1 hsa hsh hnm h1n h2t hF hprint hpart hkk ha
    obtain ⟨W1, hW1⟩ : ∃ W1, w.alloc (.cells #[.int .i64 3, .int .i64 o, .int .i64 n, .string s, .slice a args.length cap] 73) = W1 := ⟨_, rfl⟩
    have hb1 : Below w.heap.size w W1 := by rw [← hW1]; exact (Below.refl _ _).alloc (Nat.le_refl _) _
    have hbx1 : BoxAt W1 w.heap.size [.int .i64 3, .int .i64 o, .int .i64 n, .string s, .slice a args.length cap] := by rw [← hW1]; exact BoxAt.new _ _ _
    have HE : Hid (∀ W, Below W1.heap.size W1 W → BoxAt W w.heap.size [.int .i64 3, .int .i64 o, .int .i64 n, .string s, .slice a args.length cap] ∧ Below w.heap.size w W) := Lib.hid fun W hW => ⟨hbx1.below hW hbx1.1, bt hb1 hW⟩
    have HW1 := Lib.hid hW1
    clear hW1 hb1 hbx1
    go_enter Tryz.func49, Tryz.ntmps49
    go_upto_region 1 with fail
    rw [HW1.out]
    obtain ⟨hq, hqt⟩ := HE.out W1 (Below.refl _ _)
    have y0 := hq.2 0 (by simp); have y1 := hq.2 1 (by simp); have y2 := hq.2 2 (by simp); have y3 := hq.2 3 (by simp); have y4 := hq.2 4 (by simp); simp only [cqs, cqz] at y0 y1 y2 y3 y4
    go_wp2
    go_ret
    exact ⟨rfl, hqt⟩
  · have hL : args.length = 1 := by
      have h5 := hsh.2.2.2.2.1; have h6 := hsh.2.2.2.2.2.1
      simp [hasOf] at h5 h6; omega
    have e1 : prE 4 o n s (Ex.prs args) = ⟨#[45]⟩ ++ pt (Ex.prs args) 0 7 := rfl
    rw [e1] at hsz ⊢
    have hz := hsz
    simp only [ByteArray.size_append] at hz
    have hp0 : (pt (Ex.prs args) 0 7).size ≤ 1000000000000 := by omega
    obtain ⟨b, off, rfl, hFb, hel⟩ := ha (by omega)
    have hbw := hF b hFb
    obtain ⟨kd0, o0, n0, s0, a0, m0, cap0, hx0, g0, g1, g2, g3, g4⟩ := hel w rfl 0 (by omega)
    have HG0 : Hid (∀ W, Below w.heap.size w W → W.cell? ⟨b, off, none⟩ = some (.int .i64 kd0) ∧ W.cell? ⟨b, off + 1, none⟩ = some (.int .i64 o0) ∧ W.cell? ⟨b, off + 2, none⟩ = some (.int .i64 n0) ∧ W.cell? ⟨b, off + 3, none⟩ = some (.string s0) ∧ W.cell? ⟨b, off + 4, none⟩ = some (.slice a0 m0 cap0)) := Lib.hid fun W hW => ⟨(hW.cell (p := ⟨b, off, none⟩) hbw).trans (by simpa using g0), (hW.cell (p := ⟨b, off + 1, none⟩) hbw).trans (by simpa using g1), (hW.cell (p := ⟨b, off + 2, none⟩) hbw).trans (by simpa using g2), (hW.cell (p := ⟨b, off + 3, none⟩) hbw).trans (by simpa using g3), (hW.cell (p := ⟨b, off + 4, none⟩) hbw).trans (by simpa using g4)⟩
    clear g0 g1 g2 g3 g4
    have hc1 := hpart 0 7 (by omega) _ hx0 (Nat.le_trans (pt_le (by omega) 7) hp0)
    obtain ⟨x, hx⟩ : ∃ x, pt (Ex.prs args) 0 7 = x := ⟨_, rfl⟩
    simp only [hx] at hc1 hp0
    have HR : Hid (⟨#[45]⟩ ++ x = (⟨#[45]⟩ : ByteArray) ++ pt (Ex.prs args) 0 7) := Lib.hid (by rw [hx])
    have HC : Hid (∀ W, Below w.heap.size w W → Calls Tryz.prog 92 #[.agg #[.int .i64 kd0, .int .i64 o0, .int .i64 n0, .string s0, .slice a0 m0 cap0], .int .i64 7] W (Gives W (.string x))) := Lib.hid hc1
    have hL2 : (0 : Int) < (args.length : Int) := by omega
    clear e1 hsa hsh hnm h1n h2t hF hprint hpart hkk ha hsz hz hc1 hx hx0 hel hbw hFb hL
    obtain ⟨W1, hW1⟩ : ∃ W1, w.alloc (.cells #[.int .i64 4, .int .i64 o, .int .i64 n, .string s, .slice (some ⟨b, off, none⟩) args.length cap] 73) = W1 := ⟨_, rfl⟩
    have hb1 : Below w.heap.size w W1 := by rw [← hW1]; exact (Below.refl _ _).alloc (Nat.le_refl _) _
    have hbx1 : BoxAt W1 w.heap.size [.int .i64 4, .int .i64 o, .int .i64 n, .string s, .slice (some ⟨b, off, none⟩) args.length cap] := by rw [← hW1]; exact BoxAt.new _ _ _
    have HE : Hid (∀ W, Below W1.heap.size W1 W → BoxAt W w.heap.size [.int .i64 4, .int .i64 o, .int .i64 n, .string s, .slice (some ⟨b, off, none⟩) args.length cap] ∧ Below w.heap.size w W) := Lib.hid fun W hW => ⟨hbx1.below hW hbx1.1, bt hb1 hW⟩
    have HW1 := Lib.hid hW1
    clear hW1 hb1 hbx1
    go_enter Tryz.func49, Tryz.ntmps49
    go_upto_region 1 with fail
    rw [HW1.out]
    obtain ⟨hq, hqt⟩ := HE.out W1 (Below.refl _ _)
    have y0 := hq.2 0 (by simp); have y1 := hq.2 1 (by simp); have y2 := hq.2 2 (by simp); have y3 := hq.2 3 (by simp); have y4 := hq.2 4 (by simp); simp only [cqs, cqz] at y0 y1 y2 y3 y4
    obtain ⟨x00, x01, x02, x03, x04⟩ := HG0.out _ hqt
    go_wp2_with (go_at_call 92; (with_reducible refine (HC.out _ hqt).mono ?_); rintro e w1 ⟨rfl, hb⟩)
    go_ret
    exact ⟨ret_str HR.out, bt hqt hb⟩
  · have hL : args.length = 1 := by
      have h5 := hsh.2.2.2.2.1; have h6 := hsh.2.2.2.2.2.1
      simp [hasOf] at h5 h6; omega
    have e1 : prE 5 o n s (Ex.prs args) = ⟨#[110, 111, 116, 32]⟩ ++ pt (Ex.prs args) 0 3 := rfl
    rw [e1] at hsz ⊢
    have hz := hsz
    simp only [ByteArray.size_append] at hz
    have hp0 : (pt (Ex.prs args) 0 3).size ≤ 1000000000000 := by omega
    obtain ⟨b, off, rfl, hFb, hel⟩ := ha (by omega)
    have hbw := hF b hFb
    obtain ⟨kd0, o0, n0, s0, a0, m0, cap0, hx0, g0, g1, g2, g3, g4⟩ := hel w rfl 0 (by omega)
    have HG0 : Hid (∀ W, Below w.heap.size w W → W.cell? ⟨b, off, none⟩ = some (.int .i64 kd0) ∧ W.cell? ⟨b, off + 1, none⟩ = some (.int .i64 o0) ∧ W.cell? ⟨b, off + 2, none⟩ = some (.int .i64 n0) ∧ W.cell? ⟨b, off + 3, none⟩ = some (.string s0) ∧ W.cell? ⟨b, off + 4, none⟩ = some (.slice a0 m0 cap0)) := Lib.hid fun W hW => ⟨(hW.cell (p := ⟨b, off, none⟩) hbw).trans (by simpa using g0), (hW.cell (p := ⟨b, off + 1, none⟩) hbw).trans (by simpa using g1), (hW.cell (p := ⟨b, off + 2, none⟩) hbw).trans (by simpa using g2), (hW.cell (p := ⟨b, off + 3, none⟩) hbw).trans (by simpa using g3), (hW.cell (p := ⟨b, off + 4, none⟩) hbw).trans (by simpa using g4)⟩
    clear g0 g1 g2 g3 g4
    have hc1 := hpart 0 3 (by omega) _ hx0 (Nat.le_trans (pt_le (by omega) 3) hp0)
    obtain ⟨x, hx⟩ : ∃ x, pt (Ex.prs args) 0 3 = x := ⟨_, rfl⟩
    simp only [hx] at hc1 hp0
    have HR : Hid (⟨#[110, 111, 116, 32]⟩ ++ x = (⟨#[110, 111, 116, 32]⟩ : ByteArray) ++ pt (Ex.prs args) 0 3) := Lib.hid (by rw [hx])
    have HC : Hid (∀ W, Below w.heap.size w W → Calls Tryz.prog 92 #[.agg #[.int .i64 kd0, .int .i64 o0, .int .i64 n0, .string s0, .slice a0 m0 cap0], .int .i64 3] W (Gives W (.string x))) := Lib.hid hc1
    have hL2 : (0 : Int) < (args.length : Int) := by omega
    clear e1 hsa hsh hnm h1n h2t hF hprint hpart hkk ha hsz hz hc1 hx hx0 hel hbw hFb hL
    obtain ⟨W1, hW1⟩ : ∃ W1, w.alloc (.cells #[.int .i64 5, .int .i64 o, .int .i64 n, .string s, .slice (some ⟨b, off, none⟩) args.length cap] 73) = W1 := ⟨_, rfl⟩
    have hb1 : Below w.heap.size w W1 := by rw [← hW1]; exact (Below.refl _ _).alloc (Nat.le_refl _) _
    have hbx1 : BoxAt W1 w.heap.size [.int .i64 5, .int .i64 o, .int .i64 n, .string s, .slice (some ⟨b, off, none⟩) args.length cap] := by rw [← hW1]; exact BoxAt.new _ _ _
    have HE : Hid (∀ W, Below W1.heap.size W1 W → BoxAt W w.heap.size [.int .i64 5, .int .i64 o, .int .i64 n, .string s, .slice (some ⟨b, off, none⟩) args.length cap] ∧ Below w.heap.size w W) := Lib.hid fun W hW => ⟨hbx1.below hW hbx1.1, bt hb1 hW⟩
    have HW1 := Lib.hid hW1
    clear hW1 hb1 hbx1
    go_enter Tryz.func49, Tryz.ntmps49
    go_upto_region 1 with fail
    rw [HW1.out]
    obtain ⟨hq, hqt⟩ := HE.out W1 (Below.refl _ _)
    have y0 := hq.2 0 (by simp); have y1 := hq.2 1 (by simp); have y2 := hq.2 2 (by simp); have y3 := hq.2 3 (by simp); have y4 := hq.2 4 (by simp); simp only [cqs, cqz] at y0 y1 y2 y3 y4
    obtain ⟨x00, x01, x02, x03, x04⟩ := HG0.out _ hqt
    go_wp2_with (go_at_call 92; (with_reducible refine (HC.out _ hqt).mono ?_); rintro e w1 ⟨rfl, hb⟩)
    go_ret
    exact ⟨ret_str HR.out, bt hqt hb⟩
  · have hL : args.length = 2 := by
      have h5 := hsh.2.2.2.2.1; have h6 := hsh.2.2.2.2.2.1
      simp [hasOf] at h5 h6; omega
    have ho := hsh.2.2.2.2.2.2.1 rfl
    have e1 : prE 6 o n s (Ex.prs args) = pt (Ex.prs args) 0 (lft o) ++ ⟨#[32]⟩ ++ signB o ++ ⟨#[32]⟩ ++ pt (Ex.prs args) 1 (lvl o + 1) := rfl
    rw [e1] at hsz ⊢
    have hz := hsz
    simp only [ByteArray.size_append] at hz
    have hp0 : (pt (Ex.prs args) 0 (lft o)).size ≤ 1000000000000 := by omega
    have hp1 : (pt (Ex.prs args) 1 (lvl o + 1)).size ≤ 1000000000000 := by omega
    have hp2 : (signB o).size ≤ 1000000000000 := by omega
    obtain ⟨b, off, rfl, hFb, hel⟩ := ha (by omega)
    have hbw := hF b hFb
    obtain ⟨kd0, o0, n0, s0, a0, m0, cap0, hx0, g0, g1, g2, g3, g4⟩ := hel w rfl 0 (by omega)
    have HG0 : Hid (∀ W, Below w.heap.size w W → W.cell? ⟨b, off, none⟩ = some (.int .i64 kd0) ∧ W.cell? ⟨b, off + 1, none⟩ = some (.int .i64 o0) ∧ W.cell? ⟨b, off + 2, none⟩ = some (.int .i64 n0) ∧ W.cell? ⟨b, off + 3, none⟩ = some (.string s0) ∧ W.cell? ⟨b, off + 4, none⟩ = some (.slice a0 m0 cap0)) := Lib.hid fun W hW => ⟨(hW.cell (p := ⟨b, off, none⟩) hbw).trans (by simpa using g0), (hW.cell (p := ⟨b, off + 1, none⟩) hbw).trans (by simpa using g1), (hW.cell (p := ⟨b, off + 2, none⟩) hbw).trans (by simpa using g2), (hW.cell (p := ⟨b, off + 3, none⟩) hbw).trans (by simpa using g3), (hW.cell (p := ⟨b, off + 4, none⟩) hbw).trans (by simpa using g4)⟩
    clear g0 g1 g2 g3 g4
    obtain ⟨kd1, o1, n1, s1, a1, m1, cap1, hx1, g0, g1, g2, g3, g4⟩ := hel w rfl 1 (by omega)
    have HG1 : Hid (∀ W, Below w.heap.size w W → W.cell? ⟨b, off + 5, none⟩ = some (.int .i64 kd1) ∧ W.cell? ⟨b, off + 6, none⟩ = some (.int .i64 o1) ∧ W.cell? ⟨b, off + 7, none⟩ = some (.int .i64 n1) ∧ W.cell? ⟨b, off + 8, none⟩ = some (.string s1) ∧ W.cell? ⟨b, off + 9, none⟩ = some (.slice a1 m1 cap1)) := Lib.hid fun W hW => ⟨(hW.cell (p := ⟨b, off + 5, none⟩) hbw).trans (by simpa using g0), (hW.cell (p := ⟨b, off + 6, none⟩) hbw).trans (by simpa using g1), (hW.cell (p := ⟨b, off + 7, none⟩) hbw).trans (by simpa using g2), (hW.cell (p := ⟨b, off + 8, none⟩) hbw).trans (by simpa using g3), (hW.cell (p := ⟨b, off + 9, none⟩) hbw).trans (by simpa using g4)⟩
    clear g0 g1 g2 g3 g4
    have hc1 := hpart 0 (lft o) (by omega) _ hx0 (Nat.le_trans (pt_le (by omega) (lft o)) hp0)
    have hc2 := hpart 1 (lvl o + 1) (by omega) _ hx1 (Nat.le_trans (pt_le (by omega) (lvl o + 1)) hp1)
    have hlv := lvl_range o
    have HL := Lib.hid (fun W => levelR_calls o W)
    have hzz : (pt (Ex.prs args) 0 (lft o)).size + 1 + (signB o).size + 1 + (pt (Ex.prs args) 1 (lvl o + 1)).size ≤ 1000000000000 := hz
    obtain ⟨x, hx⟩ : ∃ x, pt (Ex.prs args) 0 (lft o) = x := ⟨_, rfl⟩
    obtain ⟨y, hy⟩ : ∃ y, pt (Ex.prs args) 1 (lvl o + 1) = y := ⟨_, rfl⟩
    obtain ⟨j, hj⟩ : ∃ j : Nat, o = (j : Int) := ⟨o.toNat, by omega⟩
    have hops : ∀ (bk : Nat) (W W' : World), BoxAt W bk (signs.map Value.string) → Below W.heap.size W W' → W'.cell? ⟨bk, j, none⟩ = some (.string (signB o)) := fun bk W W' hb hW => by
      have hj15 : j < (signs.map Value.string).length := by show j < 15; omega
      rw [(hb.below hW hb.1).2 j hj15, List.getElem?_map]
      have e : signB o = signs.getD j ⟨#[]⟩ := by rw [hj]; rfl
      rw [e, List.getD_eq_getElem?_getD, List.getElem?_eq_getElem (by show j < 15; omega)]
      rfl
    obtain ⟨g, hg⟩ : ∃ g, signB o = g := ⟨_, rfl⟩
    obtain ⟨r, hr⟩ : ∃ r, x ++ (⟨#[32]⟩ : ByteArray) ++ g ++ ⟨#[32]⟩ ++ y = r := ⟨_, rfl⟩
    rw [hx, hy, hg] at hzz ⊢
    rw [hr]
    have HR := Lib.hid hr
    simp only [hx] at hc1; simp only [hy] at hc2; simp only [hg] at hops
    have hlf : lft o = if lvl o = 4 then 5 else lvl o := rfl
    rw [hlf] at hc1
    obtain ⟨q, hq⟩ : ∃ q, lvl o = q := ⟨_, rfl⟩
    rw [hq] at hlv HL
    simp only [hq] at hc1 hc2
    obtain ⟨hq0, hq6⟩ := hlv
    obtain ⟨lf, hlf2⟩ : ∃ z, (if q = 4 then 5 else q) = z := ⟨_, rfl⟩
    rw [hlf2] at hc1
    have HLF := Lib.hid hlf2
    have HC1 : Hid (∀ W, Below w.heap.size w W → Calls Tryz.prog 92 #[.agg #[.int .i64 kd0, .int .i64 o0, .int .i64 n0, .string s0, .slice a0 m0 cap0], .int .i64 lf] W (Gives W (.string x))) := Lib.hid hc1
    clear hc1 hlf2
    have HC2 : Hid (∀ W, Below w.heap.size w W → Calls Tryz.prog 92 #[.agg #[.int .i64 kd1, .int .i64 o1, .int .i64 n1, .string s1, .slice a1 m1 cap1], .int .i64 (q + 1)] W (Gives W (.string y))) := Lib.hid hc2
    have HOP := Lib.hid hops
    have hL2 : (1 : Int) < (args.length : Int) := by omega
    have hL3 : (0 : Int) < (args.length : Int) := by omega
    have hL4 : 0 < args.length := by omega
    obtain ⟨ho1, ho2⟩ := ho
    subst hj
    have hj1 : (j : Int) < 15 := by omega
    have hj2 : (0 : Int) ≤ (j : Int) := by omega
    have nA : ¬ 9223372036854775807 < x.size + 1 := by omega
    have nB : ¬ 9223372036854775807 < x.size + 1 + g.size := by omega
    have nC : ¬ 9223372036854775807 < x.size + 1 + g.size + 1 := by omega
    have nD : ¬ 9223372036854775807 < x.size + 1 + g.size + 1 + y.size := by omega
    clear hpart hprint hsa hsh hnm h1n h2t hF hkk e1 ha hsz hz hc2 hx hy hg hr hq hlf hp0 hp1 hp2 hx0 hx1 hel hbw hFb hL hops
    obtain ⟨W1, hW1⟩ : ∃ W1, w.alloc (.cells #[.int .i64 6, .int .i64 (j : Int), .int .i64 n, .string s, .slice (some ⟨b, off, none⟩) args.length cap] 73) = W1 := ⟨_, rfl⟩
    have hb1 : Below w.heap.size w W1 := by rw [← hW1]; exact (Below.refl _ _).alloc (Nat.le_refl _) _
    have hbx1 : BoxAt W1 w.heap.size [.int .i64 6, .int .i64 (j : Int), .int .i64 n, .string s, .slice (some ⟨b, off, none⟩) args.length cap] := by rw [← hW1]; exact BoxAt.new _ _ _
    have HE : Hid (∀ W, Below W1.heap.size W1 W → BoxAt W w.heap.size [.int .i64 6, .int .i64 (j : Int), .int .i64 n, .string s, .slice (some ⟨b, off, none⟩) args.length cap] ∧ Below w.heap.size w W) := Lib.hid fun W hW => ⟨hbx1.below hW hbx1.1, bt hb1 hW⟩
    have HW1 := Lib.hid hW1
    clear hW1 hb1 hbx1
    go_enter Tryz.func49, Tryz.ntmps49
    go_upto_region 1 with fail
    rw [HW1.out]
    obtain ⟨hq, hqt⟩ := HE.out W1 (Below.refl _ _)
    have y0 := hq.2 0 (by simp); have y1 := hq.2 1 (by simp); have y2 := hq.2 2 (by simp); have y3 := hq.2 3 (by simp); have y4 := hq.2 4 (by simp); simp only [cqs, cqz] at y0 y1 y2 y3 y4
    go_upto_region 31 with (go_at_call 93; (with_reducible refine (HL.out _).mono ?_); rintro e w1 ⟨rfl, hb⟩)
    clear y0 y1 y2 y3 y4
    go_upto_if 118 with fail
    have HBL := Lib.hid hb
    go_cut [6] (fun v wc => v = .int .i64 lf ∧ w1 = wc)
    case first =>
      by_cases h4 : q = 4
      · have hv : lf = 5 := by rw [← HLF.out, if_pos h4]
        subst hv
        clear HC1
        go_wp2_with fail
        go_meet
        case rel => exact ⟨rfl, rfl⟩
      · have hv : lf = q := by rw [← HLF.out, if_neg h4]
        subst hv
        go_wp2_with fail
        go_meet
        case rel => exact ⟨rfl, rfl⟩
    case rest =>
      obtain ⟨rfl, rfl⟩ := hcut
      have hb := HBL.out
      have hsk : Hid (∀ W, Below w1.heap.size w1 W → W.cell? ⟨w.heap.size, 1, none⟩ = some (.int .i64 (j : Int)) ∧ W.cell? ⟨w.heap.size, 4, none⟩ = some (.slice (some ⟨b, off, none⟩) args.length cap) ∧ W.cell? ⟨b, off, none⟩ = some (.int .i64 kd0) ∧ W.cell? ⟨b, off + 1, none⟩ = some (.int .i64 o0) ∧ W.cell? ⟨b, off + 2, none⟩ = some (.int .i64 n0) ∧ W.cell? ⟨b, off + 3, none⟩ = some (.string s0) ∧ W.cell? ⟨b, off + 4, none⟩ = some (.slice a0 m0 cap0) ∧ W.cell? ⟨b, off + 5, none⟩ = some (.int .i64 kd1) ∧ W.cell? ⟨b, off + 6, none⟩ = some (.int .i64 o1) ∧ W.cell? ⟨b, off + 7, none⟩ = some (.int .i64 n1) ∧ W.cell? ⟨b, off + 8, none⟩ = some (.string s1) ∧ W.cell? ⟨b, off + 9, none⟩ = some (.slice a1 m1 cap1)) := Lib.hid fun W hW => by
        obtain ⟨hq, hqt⟩ := HE.out W (bt hb hW)
        have y0 := hq.2 0 (by simp); have y1 := hq.2 1 (by simp); have y2 := hq.2 2 (by simp); have y3 := hq.2 3 (by simp); have y4 := hq.2 4 (by simp); simp only [cqs, cqz] at y0 y1 y2 y3 y4
        obtain ⟨x00, x01, x02, x03, x04⟩ := HG0.out _ hqt
        obtain ⟨x10, x11, x12, x13, x14⟩ := HG1.out _ hqt
        exact ⟨y1, y4, x00, x01, x02, x03, x04, x10, x11, x12, x13, x14⟩
      obtain ⟨-, hqt⟩ := HE.out w1 hb
      have HC4 : Hid (∀ W, Below w1.heap.size w1 W → Calls Tryz.prog 92 #[.agg #[.int .i64 kd0, .int .i64 o0, .int .i64 n0, .string s0, .slice a0 m0 cap0], .int .i64 lf] W (Gives W (.string x))) := Lib.hid fun W hW => HC1.out W (bt hqt hW)
      have HC5 : Hid (∀ W, Below w1.heap.size w1 W → Calls Tryz.prog 92 #[.agg #[.int .i64 kd1, .int .i64 o1, .int .i64 n1, .string s1, .slice a1 m1 cap1], .int .i64 (q + 1)] W (Gives W (.string y))) := Lib.hid fun W hW => HC2.out W (bt hqt hW)
      have HQT := Lib.hid hqt
      clear hqt hb HC1 HC2 HG0 HG1 HE HBL HLF
      go_upto_region 33 with fail
      refine wp_region_held_drew (S := fun W => Below w1.heap.size w1 W) (by kernel_rfl) (Below.refl _ _).drew (fun hHeld => ?_)
      have h0 : Below w1.heap.size w1 w1.drew := (Below.refl _ _).drew
      refine wpAnyH_take (i := 0) (v := .pointer (some ⟨w.heap.size, 4, none⟩)) rfl (by kernel_rfl) (by kernel_rfl) (by kernel_rfl) (fun _ _ _ h => h) (Or.inl ⟨by rfl, ?_⟩) (by assumption) ?_
      · intro W hW
        go_simp
      simp only [Act.put]
      refine wpAnyH_take (i := 1) (v := .slice (some ⟨b, off, none⟩) args.length cap) rfl (by kernel_rfl) (by kernel_rfl) (by kernel_rfl) (fun _ _ _ h => h) (Or.inl ⟨by rfl, ?_⟩) (by assumption) ?_
      · intro W hW
        obtain ⟨y1, y4, x00, x01, x02, x03, x04, x10, x11, x12, x13, x14⟩ := hsk.out W hW
        go_simp
      simp only [Act.put]
      refine wpAnyH_take (i := 2) (v := .pointer (some ⟨b, off, none⟩)) rfl (by kernel_rfl) (by kernel_rfl) (by kernel_rfl) (fun _ _ _ h => h) (Or.inl ⟨by rfl, ?_⟩) (by assumption) ?_
      · intro W hW
        go_simp
      simp only [Act.put]
      refine wpAnyH_take (i := 3) (v := .agg #[.int .i64 kd0, .int .i64 o0, .int .i64 n0, .string s0, .slice a0 m0 cap0]) rfl (by kernel_rfl) (by kernel_rfl) (by kernel_rfl) (fun _ _ _ h => h) (Or.inl ⟨by rfl, ?_⟩) (by assumption) ?_
      · intro W hW
        obtain ⟨y1, y4, x00, x01, x02, x03, x04, x10, x11, x12, x13, x14⟩ := hsk.out W hW
        go_simp
      simp only [Act.put]
      refine wpAnyH_take (i := 4) (v := .int .i64 lf) rfl (by kernel_rfl) (by kernel_rfl) (by kernel_rfl) (fun _ _ _ h => h) (Or.inl ⟨by rfl, ?_⟩) (by assumption) ?_
      · intro W hW
        go_simp
      simp only [Act.put]
      refine wpAnyH_take (i := 8) (v := .pointer (some ⟨w.heap.size, 1, none⟩)) rfl (by kernel_rfl) (by kernel_rfl) (by kernel_rfl) (fun _ _ _ h => h) (Or.inl ⟨by rfl, ?_⟩) (by assumption) ?_
      · intro W hW
        go_simp
      simp only [Act.put]
      refine wpAnyH_take (i := 9) (v := .int .i64 (j : Int)) rfl (by kernel_rfl) (by kernel_rfl) (by kernel_rfl) (fun _ _ _ h => h) (Or.inl ⟨by rfl, ?_⟩) (by assumption) ?_
      · intro W hW
        obtain ⟨y1, y4, x00, x01, x02, x03, x04, x10, x11, x12, x13, x14⟩ := hsk.out W hW
        go_simp
      simp only [Act.put]
      refine wpAnyH_take (i := 14) (v := .pointer (some ⟨w.heap.size, 4, none⟩)) rfl (by kernel_rfl) (by kernel_rfl) (by kernel_rfl) (fun _ _ _ h => h) (Or.inl ⟨by rfl, ?_⟩) (by assumption) ?_
      · intro W hW
        go_simp
      simp only [Act.put]
      refine wpAnyH_take (i := 15) (v := .slice (some ⟨b, off, none⟩) args.length cap) rfl (by kernel_rfl) (by kernel_rfl) (by kernel_rfl) (fun _ _ _ h => h) (Or.inl ⟨by rfl, ?_⟩) (by assumption) ?_
      · intro W hW
        obtain ⟨y1, y4, x00, x01, x02, x03, x04, x10, x11, x12, x13, x14⟩ := hsk.out W hW
        go_simp
      simp only [Act.put]
      refine wpAnyH_take (i := 16) (v := .pointer (some ⟨b, off + 5, none⟩)) rfl (by kernel_rfl) (by kernel_rfl) (by kernel_rfl) (fun _ _ _ h => h) (Or.inl ⟨by rfl, ?_⟩) (by assumption) ?_
      · intro W hW
        go_simp
      simp only [Act.put]
      refine wpAnyH_take (i := 17) (v := .agg #[.int .i64 kd1, .int .i64 o1, .int .i64 n1, .string s1, .slice a1 m1 cap1]) rfl (by kernel_rfl) (by kernel_rfl) (by kernel_rfl) (fun _ _ _ h => h) (Or.inl ⟨by rfl, ?_⟩) (by assumption) ?_
      · intro W hW
        obtain ⟨y1, y4, x00, x01, x02, x03, x04, x10, x11, x12, x13, x14⟩ := hsk.out W hW
        go_simp
      simp only [Act.put]
      refine wpAnyH_take (i := 18) (v := .int .i64 q) rfl (by kernel_rfl) (by kernel_rfl) (by kernel_rfl) (fun _ _ _ h => h) (Or.inl ⟨by rfl, ?_⟩) (by assumption) ?_
      · intro W hW
        go_simp
      simp only [Act.put]
      refine wpAnyH_take (i := 19) (v := .int .i64 (q + 1)) rfl (by kernel_rfl) (by kernel_rfl) (by kernel_rfl) (fun _ _ _ h => h) (Or.inl ⟨by rfl, ?_⟩) (by assumption) ?_
      · intro W hW
        go_simp
        rw [IntKind.wrap_i64]
        omega
      simp only [Act.put]
      refine wpAnyH_ready (rs := [5]) (by kernel_rfl) (by simp) ?_
      refine AllReadyH.cons rfl (fun K hK => ?_) (AllReadyH.nil)
      · go_simp
        refine (HC4.out _ h0).mono ?_
        rintro e v1 ⟨rfl, hbv1⟩
        have Hv1 := bt h0 hbv1
        refine hK.out _ _ Hv1 (fun hHeld => ?_)
        clear hK K
        refine wpAnyH_take (i := 6) (v := (.string (x ++ ⟨#[32]⟩))) rfl (by kernel_rfl) (by kernel_rfl) (by kernel_rfl) (fun _ _ _ h => h) (Or.inl ⟨by rfl, ?_⟩) (by assumption) ?_
        · intro W hW
          go_simp
        simp only [Act.put]
        refine wpAnyH_ready (rs := [7]) (by kernel_rfl) (by simp) ?_
        refine AllReadyH.cons rfl (fun K hK => ?_) (AllReadyH.nil)
        · go_simp
          refine (opsR_calls (v1)).mono ?_
          rintro e v2 ⟨bk, rfl, -, hbox, hbv2⟩
          have Hv2 := bt Hv1 hbv2
          have hbx_v2 := hbox
          refine hK.out _ _ Hv2 (fun hHeld => ?_)
          clear hK K
          refine wpAnyH_take (i := 10) (v := .pointer (some ⟨bk, j, none⟩)) rfl (by kernel_rfl) (by kernel_rfl) (by kernel_rfl) (fun _ _ _ h => h) (Or.inl ⟨by rfl, ?_⟩) (by assumption) ?_
          · intro W hW
            go_simp
          simp only [Act.put]
          refine wpAnyH_ready (rs := [11, 20]) (by kernel_rfl) (by simp) ?_
          refine AllReadyH.cons rfl (fun K hK => ?_) (AllReadyH.cons rfl (fun K hK => ?_) (AllReadyH.nil))
          · have hcl := HOP.out _ _ _ (by assumption) (Below.refl (v2).heap.size (v2))
            go_simp
            refine hK.out _ _ Hv2 (fun hHeld => ?_)
            clear hK K
            refine wpAnyH_take (i := 12) (v := (.string (x ++ ⟨#[32]⟩ ++ g))) rfl (by kernel_rfl) (by kernel_rfl) (by kernel_rfl) (fun _ _ _ h => h) (Or.inl ⟨by rfl, ?_⟩) (by assumption) ?_
            · intro W hW
              go_simp
            simp only [Act.put]
            refine wpAnyH_take (i := 13) (v := (.string (x ++ ⟨#[32]⟩ ++ g ++ ⟨#[32]⟩))) rfl (by kernel_rfl) (by kernel_rfl) (by kernel_rfl) (fun _ _ _ h => h) (Or.inl ⟨by rfl, ?_⟩) (by assumption) ?_
            · intro W hW
              go_simp
            simp only [Act.put]
            refine wpAnyH_ready (rs := [20]) (by kernel_rfl) (by simp) ?_
            refine AllReadyH.cons rfl (fun K hK => ?_) (AllReadyH.nil)
            · go_simp
              refine (HC5.out _ Hv2).mono ?_
              rintro e v3 ⟨rfl, hbv3⟩
              have Hv3 := bt Hv2 hbv3
              have hbx_v3 := BoxAt.below hbx_v2 hbv3 (BoxAt.lt hbx_v2)
              refine hK.out _ _ Hv3 (fun hHeld => ?_)
              clear hK K
              refine wpAnyH_take (i := 21) (v := (.string (x ++ ⟨#[32]⟩ ++ g ++ ⟨#[32]⟩ ++ y))) rfl (by kernel_rfl) (by kernel_rfl) (by kernel_rfl) (fun _ _ _ h => h) (Or.inl ⟨by rfl, ?_⟩) (by assumption) ?_
              · intro W hW
                go_simp
              simp only [Act.put]
              refine wpAnyH_take (i := 22) (v := (.string (x ++ ⟨#[32]⟩ ++ g ++ ⟨#[32]⟩ ++ y))) rfl (by kernel_rfl) (by kernel_rfl) (by kernel_rfl) (fun _ _ _ h => h) (Or.inl ⟨by rfl, ?_⟩) (by assumption) ?_
              · intro W hW
                go_simp
              simp only [Act.put]
              refine wpAnyH_done (by kernel_rfl) ?_ _
              go_simp
              go_wp2_with fail
              go_ret
              exact ⟨ret_str HR.out, bt HQT.out Hv3⟩
          · go_simp
            refine (HC5.out _ Hv2).mono ?_
            rintro e v4 ⟨rfl, hbv4⟩
            have Hv4 := bt Hv2 hbv4
            have hbx_v4 := BoxAt.below hbx_v2 hbv4 (BoxAt.lt hbx_v2)
            refine hK.out _ _ Hv4 (fun hHeld => ?_)
            clear hK K
            refine wpAnyH_ready (rs := [11]) (by kernel_rfl) (by simp) ?_
            refine AllReadyH.cons rfl (fun K hK => ?_) (AllReadyH.nil)
            · have hcl := HOP.out _ _ _ (by assumption) (Below.refl (v4).heap.size (v4))
              go_simp
              refine hK.out _ _ Hv4 (fun hHeld => ?_)
              clear hK K
              refine wpAnyH_take (i := 12) (v := (.string (x ++ ⟨#[32]⟩ ++ g))) rfl (by kernel_rfl) (by kernel_rfl) (by kernel_rfl) (fun _ _ _ h => h) (Or.inl ⟨by rfl, ?_⟩) (by assumption) ?_
              · intro W hW
                go_simp
              simp only [Act.put]
              refine wpAnyH_take (i := 13) (v := (.string (x ++ ⟨#[32]⟩ ++ g ++ ⟨#[32]⟩))) rfl (by kernel_rfl) (by kernel_rfl) (by kernel_rfl) (fun _ _ _ h => h) (Or.inl ⟨by rfl, ?_⟩) (by assumption) ?_
              · intro W hW
                go_simp
              simp only [Act.put]
              refine wpAnyH_take (i := 21) (v := (.string (x ++ ⟨#[32]⟩ ++ g ++ ⟨#[32]⟩ ++ y))) rfl (by kernel_rfl) (by kernel_rfl) (by kernel_rfl) (fun _ _ _ h => h) (Or.inl ⟨by rfl, ?_⟩) (by assumption) ?_
              · intro W hW
                go_simp
              simp only [Act.put]
              refine wpAnyH_take (i := 22) (v := (.string (x ++ ⟨#[32]⟩ ++ g ++ ⟨#[32]⟩ ++ y))) rfl (by kernel_rfl) (by kernel_rfl) (by kernel_rfl) (fun _ _ _ h => h) (Or.inl ⟨by rfl, ?_⟩) (by assumption) ?_
              · intro W hW
                go_simp
              simp only [Act.put]
              refine wpAnyH_done (by kernel_rfl) ?_ _
              go_simp
              go_wp2_with fail
              go_ret
              exact ⟨ret_str HR.out, bt HQT.out Hv4⟩
  · have hL : args.length = 1 := by
      have h5 := hsh.2.2.2.2.1; have h6 := hsh.2.2.2.2.2.1
      simp [hasOf] at h5 h6; omega
    have e1 : prE 7 o n s (Ex.prs args) = pt (Ex.prs args) 0 5 ++ ⟨#[32, 104, 97, 115, 32]⟩ ++ s := rfl
    rw [e1] at hsz ⊢
    have hz := hsz
    simp only [ByteArray.size_append] at hz
    have hp0 : (pt (Ex.prs args) 0 5).size ≤ 1000000000000 := by omega
    have hsz1 : s.size ≤ 1000000000000 := by omega
    obtain ⟨b, off, rfl, hFb, hel⟩ := ha (by omega)
    have hbw := hF b hFb
    obtain ⟨kd0, o0, n0, s0, a0, m0, cap0, hx0, g0, g1, g2, g3, g4⟩ := hel w rfl 0 (by omega)
    have HG0 : Hid (∀ W, Below w.heap.size w W → W.cell? ⟨b, off, none⟩ = some (.int .i64 kd0) ∧ W.cell? ⟨b, off + 1, none⟩ = some (.int .i64 o0) ∧ W.cell? ⟨b, off + 2, none⟩ = some (.int .i64 n0) ∧ W.cell? ⟨b, off + 3, none⟩ = some (.string s0) ∧ W.cell? ⟨b, off + 4, none⟩ = some (.slice a0 m0 cap0)) := Lib.hid fun W hW => ⟨(hW.cell (p := ⟨b, off, none⟩) hbw).trans (by simpa using g0), (hW.cell (p := ⟨b, off + 1, none⟩) hbw).trans (by simpa using g1), (hW.cell (p := ⟨b, off + 2, none⟩) hbw).trans (by simpa using g2), (hW.cell (p := ⟨b, off + 3, none⟩) hbw).trans (by simpa using g3), (hW.cell (p := ⟨b, off + 4, none⟩) hbw).trans (by simpa using g4)⟩
    clear g0 g1 g2 g3 g4
    have hc1 := hpart 0 5 (by omega) _ hx0 (Nat.le_trans (pt_le (by omega) 5) hp0)
    obtain ⟨x, hx⟩ : ∃ x, pt (Ex.prs args) 0 5 = x := ⟨_, rfl⟩
    simp only [hx] at hc1 hp0
    have HR : Hid (x ++ (⟨#[32, 104, 97, 115, 32]⟩ : ByteArray) ++ s = pt (Ex.prs args) 0 5 ++ ⟨#[32, 104, 97, 115, 32]⟩ ++ s) := Lib.hid (by rw [hx])
    have HC : Hid (∀ W, Below w.heap.size w W → Calls Tryz.prog 92 #[.agg #[.int .i64 kd0, .int .i64 o0, .int .i64 n0, .string s0, .slice a0 m0 cap0], .int .i64 5] W (Gives W (.string x))) := Lib.hid hc1
    have hL2 : (0 : Int) < (args.length : Int) := by omega
    clear e1 hsa hsh hnm h1n h2t hF hprint hpart hkk ha hsz hz hc1 hx hx0 hel hbw hFb hL
    obtain ⟨W1, hW1⟩ : ∃ W1, w.alloc (.cells #[.int .i64 7, .int .i64 o, .int .i64 n, .string s, .slice (some ⟨b, off, none⟩) args.length cap] 73) = W1 := ⟨_, rfl⟩
    have hb1 : Below w.heap.size w W1 := by rw [← hW1]; exact (Below.refl _ _).alloc (Nat.le_refl _) _
    have hbx1 : BoxAt W1 w.heap.size [.int .i64 7, .int .i64 o, .int .i64 n, .string s, .slice (some ⟨b, off, none⟩) args.length cap] := by rw [← hW1]; exact BoxAt.new _ _ _
    have HE : Hid (∀ W, Below W1.heap.size W1 W → BoxAt W w.heap.size [.int .i64 7, .int .i64 o, .int .i64 n, .string s, .slice (some ⟨b, off, none⟩) args.length cap] ∧ Below w.heap.size w W) := Lib.hid fun W hW => ⟨hbx1.below hW hbx1.1, bt hb1 hW⟩
    have HW1 := Lib.hid hW1
    clear hW1 hb1 hbx1
    go_enter Tryz.func49, Tryz.ntmps49
    go_upto_region 1 with fail
    rw [HW1.out]
    obtain ⟨hq, hqt⟩ := HE.out W1 (Below.refl _ _)
    have y0 := hq.2 0 (by simp); have y1 := hq.2 1 (by simp); have y2 := hq.2 2 (by simp); have y3 := hq.2 3 (by simp); have y4 := hq.2 4 (by simp); simp only [cqs, cqz] at y0 y1 y2 y3 y4
    obtain ⟨x00, x01, x02, x03, x04⟩ := HG0.out _ hqt
    go_upto_region 11 with fail
    have K {f : FuncId} {args : Array Value} {u : Value} (h : ∀ w', Below W1.heap.size W1 w' → Calls Tryz.prog f args w' (Gives w' u)) (p : Regrown) : Calls Tryz.prog f args (grow (redrawn W1 p.d) p.os) fun e w3 => e = .returned u ∧ ∃ p : Regrown, w3 = grow (redrawn W1 p.d) p.os := regrown_gives (fun w3 hb => h w3 hb) p
    have G1 := Lib.hid (K (fun W hW => HC.out W (bt hqt hW)))
    clear K
    have c_y0 := fun d os => cell_regrown y0 d os; have c_y1 := fun d os => cell_regrown y1 d os; have c_y2 := fun d os => cell_regrown y2 d os; have c_y3 := fun d os => cell_regrown y3 d os; have c_y4 := fun d os => cell_regrown y4 d os; have c_x00 := fun d os => cell_regrown x00 d os; have c_x01 := fun d os => cell_regrown x01 d os; have c_x02 := fun d os => cell_regrown x02 d os; have c_x03 := fun d os => cell_regrown x03 d os; have c_x04 := fun d os => cell_regrown x04 d os
    have HQT := Lib.hid hqt
    refine wp_region_quiet_below (by kernel_rfl) (by kernel_rfl) ?_
    repeat (go_big_quiet_step (first | with_reducible exact G1.out _))
    refine wpQuiet_nil ?_
    intro w6 hw6
    have hb6 := below_of_regrown hw6
    clear hw6
    go_wp2_with fail
    go_ret
    exact ⟨ret_str HR.out, bt HQT.out hb6⟩
  · have hL : args.length = 1 := by
      have h5 := hsh.2.2.2.2.1; have h6 := hsh.2.2.2.2.2.1
      simp [hasOf] at h5 h6; omega
    have e1 : prE 8 o n s (Ex.prs args) = pt (Ex.prs args) 0 8 ++ ⟨#[46]⟩ ++ s := rfl
    rw [e1] at hsz ⊢
    have hz := hsz
    simp only [ByteArray.size_append] at hz
    have hp0 : (pt (Ex.prs args) 0 8).size ≤ 1000000000000 := by omega
    have hsz1 : s.size ≤ 1000000000000 := by omega
    obtain ⟨b, off, rfl, hFb, hel⟩ := ha (by omega)
    have hbw := hF b hFb
    obtain ⟨kd0, o0, n0, s0, a0, m0, cap0, hx0, g0, g1, g2, g3, g4⟩ := hel w rfl 0 (by omega)
    have HG0 : Hid (∀ W, Below w.heap.size w W → W.cell? ⟨b, off, none⟩ = some (.int .i64 kd0) ∧ W.cell? ⟨b, off + 1, none⟩ = some (.int .i64 o0) ∧ W.cell? ⟨b, off + 2, none⟩ = some (.int .i64 n0) ∧ W.cell? ⟨b, off + 3, none⟩ = some (.string s0) ∧ W.cell? ⟨b, off + 4, none⟩ = some (.slice a0 m0 cap0)) := Lib.hid fun W hW => ⟨(hW.cell (p := ⟨b, off, none⟩) hbw).trans (by simpa using g0), (hW.cell (p := ⟨b, off + 1, none⟩) hbw).trans (by simpa using g1), (hW.cell (p := ⟨b, off + 2, none⟩) hbw).trans (by simpa using g2), (hW.cell (p := ⟨b, off + 3, none⟩) hbw).trans (by simpa using g3), (hW.cell (p := ⟨b, off + 4, none⟩) hbw).trans (by simpa using g4)⟩
    clear g0 g1 g2 g3 g4
    have hc1 := hpart 0 8 (by omega) _ hx0 (Nat.le_trans (pt_le (by omega) 8) hp0)
    obtain ⟨x, hx⟩ : ∃ x, pt (Ex.prs args) 0 8 = x := ⟨_, rfl⟩
    simp only [hx] at hc1 hp0
    have HR : Hid (x ++ (⟨#[46]⟩ : ByteArray) ++ s = pt (Ex.prs args) 0 8 ++ ⟨#[46]⟩ ++ s) := Lib.hid (by rw [hx])
    have HC : Hid (∀ W, Below w.heap.size w W → Calls Tryz.prog 92 #[.agg #[.int .i64 kd0, .int .i64 o0, .int .i64 n0, .string s0, .slice a0 m0 cap0], .int .i64 8] W (Gives W (.string x))) := Lib.hid hc1
    have hL2 : (0 : Int) < (args.length : Int) := by omega
    clear e1 hsa hsh hnm h1n h2t hF hprint hpart hkk ha hsz hz hc1 hx hx0 hel hbw hFb hL
    obtain ⟨W1, hW1⟩ : ∃ W1, w.alloc (.cells #[.int .i64 8, .int .i64 o, .int .i64 n, .string s, .slice (some ⟨b, off, none⟩) args.length cap] 73) = W1 := ⟨_, rfl⟩
    have hb1 : Below w.heap.size w W1 := by rw [← hW1]; exact (Below.refl _ _).alloc (Nat.le_refl _) _
    have hbx1 : BoxAt W1 w.heap.size [.int .i64 8, .int .i64 o, .int .i64 n, .string s, .slice (some ⟨b, off, none⟩) args.length cap] := by rw [← hW1]; exact BoxAt.new _ _ _
    have HE : Hid (∀ W, Below W1.heap.size W1 W → BoxAt W w.heap.size [.int .i64 8, .int .i64 o, .int .i64 n, .string s, .slice (some ⟨b, off, none⟩) args.length cap] ∧ Below w.heap.size w W) := Lib.hid fun W hW => ⟨hbx1.below hW hbx1.1, bt hb1 hW⟩
    have HW1 := Lib.hid hW1
    clear hW1 hb1 hbx1
    go_enter Tryz.func49, Tryz.ntmps49
    go_upto_region 1 with fail
    rw [HW1.out]
    obtain ⟨hq, hqt⟩ := HE.out W1 (Below.refl _ _)
    have y0 := hq.2 0 (by simp); have y1 := hq.2 1 (by simp); have y2 := hq.2 2 (by simp); have y3 := hq.2 3 (by simp); have y4 := hq.2 4 (by simp); simp only [cqs, cqz] at y0 y1 y2 y3 y4
    obtain ⟨x00, x01, x02, x03, x04⟩ := HG0.out _ hqt
    go_upto_region 13 with fail
    have K {f : FuncId} {args : Array Value} {u : Value} (h : ∀ w', Below W1.heap.size W1 w' → Calls Tryz.prog f args w' (Gives w' u)) (p : Regrown) : Calls Tryz.prog f args (grow (redrawn W1 p.d) p.os) fun e w3 => e = .returned u ∧ ∃ p : Regrown, w3 = grow (redrawn W1 p.d) p.os := regrown_gives (fun w3 hb => h w3 hb) p
    have G1 := Lib.hid (K (fun W hW => HC.out W (bt hqt hW)))
    clear K
    have c_y0 := fun d os => cell_regrown y0 d os; have c_y1 := fun d os => cell_regrown y1 d os; have c_y2 := fun d os => cell_regrown y2 d os; have c_y3 := fun d os => cell_regrown y3 d os; have c_y4 := fun d os => cell_regrown y4 d os; have c_x00 := fun d os => cell_regrown x00 d os; have c_x01 := fun d os => cell_regrown x01 d os; have c_x02 := fun d os => cell_regrown x02 d os; have c_x03 := fun d os => cell_regrown x03 d os; have c_x04 := fun d os => cell_regrown x04 d os
    have HQT := Lib.hid hqt
    refine wp_region_quiet_below (by kernel_rfl) (by kernel_rfl) ?_
    repeat (go_big_quiet_step (first | with_reducible exact G1.out _))
    refine wpQuiet_nil ?_
    intro w6 hw6
    have hb6 := below_of_regrown hw6
    clear hw6
    go_wp2_with fail
    go_ret
    exact ⟨ret_str HR.out, bt HQT.out hb6⟩
  · have e1 : prE 9 o n s (Ex.prs args) = s ++ ⟨#[40]⟩ ++ sepB ⟨#[44, 32]⟩ ((Ex.prs args).map Prod.snd) ++ ⟨#[41]⟩ := rfl
    rw [e1] at hsz ⊢
    obtain ⟨xs, hxs⟩ : ∃ xs, (Ex.prs args).map Prod.snd = xs := ⟨_, rfl⟩
    have hxl : xs.length = args.length := by rw [← hxs, Ex.prs_eq]; simp
    have hxi : ∀ i (hi : i < args.length), args[i].pr = xs[i]'(by rw [hxl]; exact hi) := fun i hi => by
      have h1 : xs[i]? = some args[i].pr := by rw [← hxs, Ex.prs_eq, List.getElem?_map, List.getElem?_map, List.getElem?_eq_getElem hi]; rfl
      rw [List.getElem?_eq_getElem (by rw [hxl]; exact hi)] at h1
      exact (Option.some.inj h1).symm
    rw [hxs] at hsz ⊢
    obtain ⟨r, hr⟩ : ∃ r, s ++ ⟨#[40]⟩ ++ sepB ⟨#[44, 32]⟩ xs ++ ⟨#[41]⟩ = r := ⟨_, rfl⟩
    have HSZ : Hid (∀ k : Nat, (s ++ ⟨#[40]⟩ ++ sepB ⟨#[44, 32]⟩ (xs.take k)).size ≤ 1000000000000) := Lib.hid fun k => by
      have h2 := sepB_take_le ⟨#[44, 32]⟩ xs k
      simp only [ByteArray.size_append] at hsz ⊢
      omega
    have HP : Hid (∀ (i : Nat) (hi : i < args.length) (cs : List Value), RdEx F w args[i] cs → ∀ W, Below w.heap.size w W → Calls Tryz.prog 49 #[.agg cs.toArray] W (Gives W (.string (xs[i]'(by rw [hxl]; exact hi))))) := Lib.hid fun i hi cs hcs W hW => by
      have hz : args[i].pr.size ≤ 1000000000000 := by
        rw [hxi i hi]
        refine Nat.le_trans (sepB_mem ⟨#[44, 32]⟩ xs i (by rw [hxl]; exact hi)) ?_
        simp only [ByteArray.size_append] at hsz
        omega
      have h := hprint i hi cs hcs hz W hW
      rw [hxi i hi] at h
      exact h
    have hsz1 : s.size ≤ 1000000000000 := by
      simp only [ByteArray.size_append] at hsz
      omega
    have HXL := Lib.hid hxl
    have HA := Lib.hid ha
    have HF := Lib.hid hF
    have HR := Lib.hid hr
    rw [hr]
    clear e1 hpart hprint hsa hsh hnm h1n h2t hF hkk hsz hr hxi hxs ha
    obtain ⟨W1, hW1⟩ : ∃ W1, w.alloc (.cells #[.int .i64 9, .int .i64 o, .int .i64 n, .string s, .slice a args.length cap] 73) = W1 := ⟨_, rfl⟩
    have hb1 : Below w.heap.size w W1 := by rw [← hW1]; exact (Below.refl _ _).alloc (Nat.le_refl _) _
    have hbx1 : BoxAt W1 w.heap.size [.int .i64 9, .int .i64 o, .int .i64 n, .string s, .slice a args.length cap] := by rw [← hW1]; exact BoxAt.new _ _ _
    have HE : Hid (∀ W, Below W1.heap.size W1 W → BoxAt W w.heap.size [.int .i64 9, .int .i64 o, .int .i64 n, .string s, .slice a args.length cap] ∧ Below w.heap.size w W) := Lib.hid fun W hW => ⟨hbx1.below hW hbx1.1, bt hb1 hW⟩
    have HW1 := Lib.hid hW1
    clear hW1 hb1 hbx1
    go_enter Tryz.func49, Tryz.ntmps49
    go_upto_region 1 with fail
    rw [HW1.out]
    obtain ⟨hq, hqt⟩ := HE.out W1 (Below.refl _ _)
    have y0 := hq.2 0 (by simp); have y1 := hq.2 1 (by simp); have y2 := hq.2 2 (by simp); have y3 := hq.2 3 (by simp); have y4 := hq.2 4 (by simp); simp only [cqs, cqz] at y0 y1 y2 y3 y4
    go_wp2_with fail
    go_loopw [3, 4] (fun v i wr => ∃ k : Nat, k ≤ args.length ∧ i = .int .i64 k ∧ Hid (∃ A, v = .string A ∧ A = s ++ ⟨#[40]⟩ ++ sepB ⟨#[44, 32]⟩ (xs.take k)) ∧ Below W1.heap.size W1 wr) (fun _ i _ => args.length - (intOf i).toNat)
    case atStart => exact ⟨0, Nat.zero_le _, rfl, Lib.hid ⟨_, rfl, by simp [sepB, app_emp]⟩, Below.refl _ _⟩
    case round =>
      obtain ⟨k, hk, rfl, hA0, hB⟩ := hrel
      obtain ⟨A, rfl, hA⟩ := hA0.out
      have HAA := Lib.hid hA
      clear hA hA0 y0 y1 y2 y3 y4
      have HB := Lib.hid hB
      obtain ⟨hq, hqt⟩ := HE.out wr hB
      have y0 := hq.2 0 (by simp); have y1 := hq.2 1 (by simp); have y2 := hq.2 2 (by simp); have y3 := hq.2 3 (by simp); have y4 := hq.2 4 (by simp); simp only [cqs, cqz] at y0 y1 y2 y3 y4
      by_cases hlt : k < args.length
      · have hz : A.size + 2 + (xs[k]'(by rw [HXL.out]; exact hlt)).size ≤ 1000000000100 := by
          have h1 := HSZ.out (k + 1)
          have h2 := congrArg ByteArray.size (sepB_step ⟨#[44, 32]⟩ (s ++ ⟨#[40]⟩) xs k (by rw [HXL.out]; exact hlt))
          rw [← HAA.out] at h2
          by_cases h0 : k = 0
          · rw [if_pos h0] at h2; simp only [ByteArray.size_append] at h1 h2; omega
          · rw [if_neg h0] at h2; simp only [ByteArray.size_append] at h1 h2; have : (⟨#[44, 32]⟩ : ByteArray).size = 2 := rfl; omega
        have hnx := sepB_step ⟨#[44, 32]⟩ (s ++ ⟨#[40]⟩) xs k (by rw [HXL.out]; exact hlt)
        rw [← HAA.out] at hnx
        obtain ⟨b, off, rfl, hFb, hel⟩ := HA.out (by omega)
        obtain ⟨kd0, o0, n0, s0, a0, m0, cap0, hx0, g0, g1, g2, g3, g4⟩ := hel wr (hqt.block b (HF.out b hFb)) k hlt
        have hc := HP.out k hlt _ hx0
        obtain ⟨x, hx⟩ : ∃ x, xs[k]'(by rw [HXL.out]; exact hlt) = x := ⟨_, rfl⟩
        rw [hx] at hz hnx
        have HC : Hid (∀ W, Below w.heap.size w W → Calls Tryz.prog 49 #[.agg #[.int .i64 kd0, .int .i64 o0, .int .i64 n0, .string s0, .slice a0 m0 cap0]] W (Gives W (.string x))) := Lib.hid fun W hW => by
          have h := hc W hW
          rw [hx] at h
          exact h
        clear hc hel hx0 hx hFb
        by_cases h0 : k = 0
        · rw [if_pos h0] at hnx
          have HN := Lib.hid hnx
          subst h0
          simp only [Nat.zero_mul, Nat.add_zero] at g0 g1 g2 g3 g4
          clear hnx HAA
          go_wp2_with (go_at_call 49; (with_reducible refine (HC.out _ hqt).mono ?_); rintro e w1 ⟨rfl, hb⟩)
          go_roundw
          case rel => exact ⟨1, by omega, by go_num, Lib.hid ⟨_, rfl, HN.out.symm⟩, bt HB.out hb⟩
          case measure => simp [intOf]; omega
        · rw [if_neg h0] at hnx
          have HN := Lib.hid hnx
          clear hnx HAA
          have hk0 : (0 : Int) < (k : Int) := by omega
          go_wp2_with (go_at_call 49; (with_reducible refine (HC.out _ hqt).mono ?_); rintro e w1 ⟨rfl, hb⟩)
          go_roundw
          case rel => exact ⟨k + 1, by omega, by go_num, Lib.hid ⟨_, rfl, HN.out.symm⟩, bt HB.out hb⟩
          case measure => simp [intOf]; omega
      · have hAz : A.size ≤ 1000000000000 := by
          have h1 := HSZ.out k; rw [HAA.out]; simp only [ByteArray.size_append] at h1 ⊢; omega
        have hfin : Hid (A ++ ⟨#[41]⟩ = r) := by
          refine Lib.hid ?_
          rw [HAA.out, ← HR.out, List.take_of_length_le (by rw [HXL.out]; omega)]
        clear HAA
        go_wp2_with fail
        go_ret
        exact ⟨ret_str hfin.out, hqt⟩
  · have hL : args.length = 1 := by
      have h5 := hsh.2.2.2.2.1; have h6 := hsh.2.2.2.2.2.1
      simp [hasOf] at h5 h6; omega
    have hone : sepB ⟨#[44, 32]⟩ ((Ex.prs args).map Prod.snd) = (args[0]'(by omega)).pr := by
      have h1 : args = [args[0]'(by omega)] := by
        apply List.ext_getElem
        · simpa using hL
        · intro i h1 h2
          have : i = 0 := by omega
          subst this
          rfl
      rw [Ex.prs_eq]
      have h2 : (args.map fun e => (tightK e.kind e.op, e.pr)).map Prod.snd = args.map Ex.pr := by simp
      rw [h2]
      conv => lhs; rw [h1]
      simp [sepB, sepTail, app_emp]
    have ho := hsh.2.2.2.2.2.2.2.1 rfl
    have e1 : prE 10 o n s (Ex.prs args) = aroundB o ++ ⟨#[40]⟩ ++ (args[0]'(by omega)).pr ++ ⟨#[41]⟩ := by
      show aroundB o ++ ⟨#[40]⟩ ++ sepB ⟨#[44, 32]⟩ ((Ex.prs args).map Prod.snd) ++ ⟨#[41]⟩ = _
      rw [hone]
    rw [e1] at hsz ⊢
    have hz := hsz
    simp only [ByteArray.size_append] at hz
    have hp0 : (args[0]'(by omega)).pr.size ≤ 1000000000000 := by omega
    obtain ⟨b, off, rfl, hFb, hel⟩ := ha (by omega)
    have hbw := hF b hFb
    obtain ⟨kd0, o0, n0, s0, a0, m0, cap0, hx0, g0, g1, g2, g3, g4⟩ := hel w rfl 0 (by omega)
    have HG0 : Hid (∀ W, Below w.heap.size w W → W.cell? ⟨b, off, none⟩ = some (.int .i64 kd0) ∧ W.cell? ⟨b, off + 1, none⟩ = some (.int .i64 o0) ∧ W.cell? ⟨b, off + 2, none⟩ = some (.int .i64 n0) ∧ W.cell? ⟨b, off + 3, none⟩ = some (.string s0) ∧ W.cell? ⟨b, off + 4, none⟩ = some (.slice a0 m0 cap0)) := Lib.hid fun W hW => ⟨(hW.cell (p := ⟨b, off, none⟩) hbw).trans (by simpa using g0), (hW.cell (p := ⟨b, off + 1, none⟩) hbw).trans (by simpa using g1), (hW.cell (p := ⟨b, off + 2, none⟩) hbw).trans (by simpa using g2), (hW.cell (p := ⟨b, off + 3, none⟩) hbw).trans (by simpa using g3), (hW.cell (p := ⟨b, off + 4, none⟩) hbw).trans (by simpa using g4)⟩
    clear g0 g1 g2 g3 g4
    have hc1 := hprint 0 (by omega) _ hx0 hp0
    obtain ⟨j, hj⟩ : ∃ j : Nat, o = (j : Int) := ⟨o.toNat, by omega⟩
    have hops : ∀ (bk : Nat) (W : World), BoxAt W bk [.string ⟨#[]⟩, .string ⟨#[112, 97, 114, 101, 110, 116]⟩, .string ⟨#[99, 104, 105, 108, 100]⟩, .string ⟨#[110, 101, 120, 116]⟩] → W.cell? ⟨bk, j, none⟩ = some (.string (aroundB o)) := fun bk W hb => by
      have hj3 : j = 1 ∨ j = 2 ∨ j = 3 := by omega
      subst hj
      rcases hj3 with rfl | rfl | rfl
      · exact hb.2 1 (by simp)
      · exact hb.2 2 (by simp)
      · exact hb.2 3 (by simp)
    obtain ⟨x, hx⟩ : ∃ x, (args[0]'(by omega)).pr = x := ⟨_, rfl⟩
    obtain ⟨g, hg⟩ : ∃ g, aroundB o = g := ⟨_, rfl⟩
    obtain ⟨r, hr⟩ : ∃ r, g ++ (⟨#[40]⟩ : ByteArray) ++ x ++ ⟨#[41]⟩ = r := ⟨_, rfl⟩
    simp only [hx] at hc1
    rw [hx, hg] at hz ⊢
    rw [hr]
    simp only [hg] at hops
    have HR := Lib.hid hr
    have HC : Hid (∀ W, Below w.heap.size w W → Calls Tryz.prog 49 #[.agg #[.int .i64 kd0, .int .i64 o0, .int .i64 n0, .string s0, .slice a0 m0 cap0]] W (Gives W (.string x))) := Lib.hid hc1
    have HOP := Lib.hid (fun bk W hb => hops bk W hb)
    have hL2 : (0 : Int) < (args.length : Int) := by omega
    have hL4 : 0 < args.length := by omega
    obtain ⟨ho1, ho2⟩ := ho
    subst hj
    have hj1 : (j : Int) < 4 := by omega
    have hj2 : (0 : Int) ≤ (j : Int) := by omega
    have nA : ¬ 9223372036854775807 < g.size + 1 := by omega
    have nB : ¬ 9223372036854775807 < g.size + 1 + x.size := by omega
    have nC : ¬ 9223372036854775807 < g.size + 1 + x.size + 1 := by have e : (⟨#[41]⟩ : ByteArray).size = 1 := rfl; omega
    clear hprint hpart hsa hsh hnm h1n h2t hF hkk ha hsz hz hc1 hx0 hel hbw hFb hone e1 hr hg hops hp0 hx hL
    obtain ⟨W1, hW1⟩ : ∃ W1, w.alloc (.cells #[.int .i64 10, .int .i64 (j : Int), .int .i64 n, .string s, .slice (some ⟨b, off, none⟩) args.length cap] 73) = W1 := ⟨_, rfl⟩
    have hb1 : Below w.heap.size w W1 := by rw [← hW1]; exact (Below.refl _ _).alloc (Nat.le_refl _) _
    have hbx1 : BoxAt W1 w.heap.size [.int .i64 10, .int .i64 (j : Int), .int .i64 n, .string s, .slice (some ⟨b, off, none⟩) args.length cap] := by rw [← hW1]; exact BoxAt.new _ _ _
    have HE : Hid (∀ W, Below W1.heap.size W1 W → BoxAt W w.heap.size [.int .i64 10, .int .i64 (j : Int), .int .i64 n, .string s, .slice (some ⟨b, off, none⟩) args.length cap] ∧ Below w.heap.size w W) := Lib.hid fun W hW => ⟨hbx1.below hW hbx1.1, bt hb1 hW⟩
    have HW1 := Lib.hid hW1
    clear hW1 hb1 hbx1
    go_enter Tryz.func49, Tryz.ntmps49
    go_upto_region 1 with fail
    rw [HW1.out]
    obtain ⟨hq, hqt⟩ := HE.out W1 (Below.refl _ _)
    have y0 := hq.2 0 (by simp); have y1 := hq.2 1 (by simp); have y2 := hq.2 2 (by simp); have y3 := hq.2 3 (by simp); have y4 := hq.2 4 (by simp); simp only [cqs, cqz] at y0 y1 y2 y3 y4
    clear y0 y1 y2 y3 y4
    have hsk : Hid (∀ W, Below W1.heap.size W1 W → W.cell? ⟨w.heap.size, 1, none⟩ = some (.int .i64 (j : Int)) ∧ W.cell? ⟨w.heap.size, 4, none⟩ = some (.slice (some ⟨b, off, none⟩) args.length cap) ∧ W.cell? ⟨b, off, none⟩ = some (.int .i64 kd0) ∧ W.cell? ⟨b, off + 1, none⟩ = some (.int .i64 o0) ∧ W.cell? ⟨b, off + 2, none⟩ = some (.int .i64 n0) ∧ W.cell? ⟨b, off + 3, none⟩ = some (.string s0) ∧ W.cell? ⟨b, off + 4, none⟩ = some (.slice a0 m0 cap0)) := Lib.hid fun W hW => by
      obtain ⟨hq, hqt⟩ := HE.out W hW
      have y0 := hq.2 0 (by simp); have y1 := hq.2 1 (by simp); have y2 := hq.2 2 (by simp); have y3 := hq.2 3 (by simp); have y4 := hq.2 4 (by simp); simp only [cqs, cqz] at y0 y1 y2 y3 y4
      obtain ⟨x00, x01, x02, x03, x04⟩ := HG0.out _ hqt
      exact ⟨y1, y4, x00, x01, x02, x03, x04⟩
    have HC4 : Hid (∀ W, Below W1.heap.size W1 W → Calls Tryz.prog 49 #[.agg #[.int .i64 kd0, .int .i64 o0, .int .i64 n0, .string s0, .slice a0 m0 cap0]] W (Gives W (.string x))) := Lib.hid fun W hW => HC.out W (bt hqt hW)
    have HQT := Lib.hid hqt
    have y0 := hq.2 0 (by simp)
    simp only [cqz] at y0
    go_upto_region 15 with fail
    clear y0 hqt HC HG0 HE hq
    refine wp_region_held_drew (S := fun W => Below W1.heap.size W1 W) (by kernel_rfl) (Below.refl _ _).drew (fun hHeld => ?_)
    have h0 : Below W1.heap.size W1 W1.drew := (Below.refl _ _).drew
    refine wpAnyH_take (i := 1) (v := .pointer (some ⟨w.heap.size, 1, none⟩)) rfl (by kernel_rfl) (by kernel_rfl) (by kernel_rfl) (fun _ _ _ h => h) (Or.inl ⟨by rfl, ?_⟩) (by assumption) ?_
    · intro W hW
      go_simp
    simp only [Act.put]
    refine wpAnyH_take (i := 2) (v := .int .i64 (j : Int)) rfl (by kernel_rfl) (by kernel_rfl) (by kernel_rfl) (fun _ _ _ h => h) (Or.inl ⟨by rfl, ?_⟩) (by assumption) ?_
    · intro W hW
      obtain ⟨y1, y4, x00, x01, x02, x03, x04⟩ := hsk.out W hW
      go_simp
    simp only [Act.put]
    refine wpAnyH_take (i := 6) (v := .pointer (some ⟨w.heap.size, 4, none⟩)) rfl (by kernel_rfl) (by kernel_rfl) (by kernel_rfl) (fun _ _ _ h => h) (Or.inl ⟨by rfl, ?_⟩) (by assumption) ?_
    · intro W hW
      go_simp
    simp only [Act.put]
    refine wpAnyH_take (i := 7) (v := .slice (some ⟨b, off, none⟩) args.length cap) rfl (by kernel_rfl) (by kernel_rfl) (by kernel_rfl) (fun _ _ _ h => h) (Or.inl ⟨by rfl, ?_⟩) (by assumption) ?_
    · intro W hW
      obtain ⟨y1, y4, x00, x01, x02, x03, x04⟩ := hsk.out W hW
      go_simp
    simp only [Act.put]
    refine wpAnyH_take (i := 8) (v := .pointer (some ⟨b, off, none⟩)) rfl (by kernel_rfl) (by kernel_rfl) (by kernel_rfl) (fun _ _ _ h => h) (Or.inl ⟨by rfl, ?_⟩) (by assumption) ?_
    · intro W hW
      go_simp
    simp only [Act.put]
    refine wpAnyH_take (i := 9) (v := .agg #[.int .i64 kd0, .int .i64 o0, .int .i64 n0, .string s0, .slice a0 m0 cap0]) rfl (by kernel_rfl) (by kernel_rfl) (by kernel_rfl) (fun _ _ _ h => h) (Or.inl ⟨by rfl, ?_⟩) (by assumption) ?_
    · intro W hW
      obtain ⟨y1, y4, x00, x01, x02, x03, x04⟩ := hsk.out W hW
      go_simp
    simp only [Act.put]
    refine wpAnyH_ready (rs := [0, 10]) (by kernel_rfl) (by simp) ?_
    refine AllReadyH.cons rfl (fun K hK => ?_) (AllReadyH.cons rfl (fun K hK => ?_) (AllReadyH.nil))
    · go_simp
      obtain ⟨v1, hvv1⟩ : ∃ X, (W1.alloc (.cells #[.string ⟨#[]⟩, .string ⟨#[112, 97, 114, 101, 110, 116]⟩, .string ⟨#[99, 104, 105, 108, 100]⟩, .string ⟨#[110, 101, 120, 116]⟩] 9)).drew = X := ⟨_, rfl⟩
      rw [hvv1]
      have Hv1 : Below W1.heap.size W1 v1 := by rw [← hvv1]; exact ((Below.refl _ _).alloc (Nat.le_refl _) _).drew
      have hbx_v1 : BoxAt v1 (W1.heap.size) [.string ⟨#[]⟩, .string ⟨#[112, 97, 114, 101, 110, 116]⟩, .string ⟨#[99, 104, 105, 108, 100]⟩, .string ⟨#[110, 101, 120, 116]⟩] := by rw [← hvv1]; exact box_drew (BoxAt.new _ _ _)
      refine hK.out _ _ Hv1 (fun hHeld => ?_)
      clear hK K hvv1
      refine wpAnyH_take (i := 3) (v := .pointer (some ⟨W1.heap.size, j, none⟩)) rfl (by kernel_rfl) (by kernel_rfl) (by kernel_rfl) (fun _ _ _ h => h) (Or.inl ⟨by rfl, ?_⟩) (by assumption) ?_
      · intro W hW
        go_simp
      simp only [Act.put]
      refine wpAnyH_ready (rs := [4, 10]) (by kernel_rfl) (by simp) ?_
      refine AllReadyH.cons rfl (fun K hK => ?_) (AllReadyH.cons rfl (fun K hK => ?_) (AllReadyH.nil))
      · have hcl := HOP.out _ _ (by assumption : BoxAt (v1) _ _)
        go_simp
        refine hK.out _ _ Hv1 (fun hHeld => ?_)
        clear hK K
        refine wpAnyH_take (i := 5) (v := .string (g ++ ⟨#[40]⟩)) rfl (by kernel_rfl) (by kernel_rfl) (by kernel_rfl) (fun _ _ _ h => h) (Or.inl ⟨by rfl, ?_⟩) (by assumption) ?_
        · intro W hW
          go_simp
        simp only [Act.put]
        refine wpAnyH_ready (rs := [10]) (by kernel_rfl) (by simp) ?_
        refine AllReadyH.cons rfl (fun K hK => ?_) (AllReadyH.nil)
        · go_simp
          refine (HC4.out _ Hv1).mono ?_
          rintro e v2 ⟨rfl, hbv2⟩
          have Hv2 := bt Hv1 hbv2
          have hbx_v2 := BoxAt.below hbx_v1 hbv2 (BoxAt.lt hbx_v1)
          refine hK.out _ _ Hv2 (fun hHeld => ?_)
          clear hK K
          refine wpAnyH_take (i := 11) (v := .string (g ++ ⟨#[40]⟩ ++ x)) rfl (by kernel_rfl) (by kernel_rfl) (by kernel_rfl) (fun _ _ _ h => h) (Or.inl ⟨by rfl, ?_⟩) (by assumption) ?_
          · intro W hW
            go_simp
          simp only [Act.put]
          refine wpAnyH_take (i := 12) (v := .string (g ++ ⟨#[40]⟩ ++ x ++ ⟨#[41]⟩)) rfl (by kernel_rfl) (by kernel_rfl) (by kernel_rfl) (fun _ _ _ h => h) (Or.inl ⟨by rfl, ?_⟩) (by assumption) ?_
          · intro W hW
            go_simp
          simp only [Act.put]
          refine wpAnyH_take (i := 13) (v := .string (g ++ ⟨#[40]⟩ ++ x ++ ⟨#[41]⟩)) rfl (by kernel_rfl) (by kernel_rfl) (by kernel_rfl) (fun _ _ _ h => h) (Or.inl ⟨by rfl, ?_⟩) (by assumption) ?_
          · intro W hW
            go_simp
          simp only [Act.put]
          refine wpAnyH_done (by kernel_rfl) ?_ _
          go_simp
          go_wp2_with fail
          go_ret
          exact ⟨ret_str HR.out, bt HQT.out Hv2⟩
      · go_simp
        refine (HC4.out _ Hv1).mono ?_
        rintro e v3 ⟨rfl, hbv3⟩
        have Hv3 := bt Hv1 hbv3
        have hbx_v3 := BoxAt.below hbx_v1 hbv3 (BoxAt.lt hbx_v1)
        refine hK.out _ _ Hv3 (fun hHeld => ?_)
        clear hK K
        refine wpAnyH_ready (rs := [4]) (by kernel_rfl) (by simp) ?_
        refine AllReadyH.cons rfl (fun K hK => ?_) (AllReadyH.nil)
        · have hcl := HOP.out _ _ (by assumption : BoxAt (v3) _ _)
          go_simp
          refine hK.out _ _ Hv3 (fun hHeld => ?_)
          clear hK K
          refine wpAnyH_take (i := 5) (v := .string (g ++ ⟨#[40]⟩)) rfl (by kernel_rfl) (by kernel_rfl) (by kernel_rfl) (fun _ _ _ h => h) (Or.inl ⟨by rfl, ?_⟩) (by assumption) ?_
          · intro W hW
            go_simp
          simp only [Act.put]
          refine wpAnyH_take (i := 11) (v := .string (g ++ ⟨#[40]⟩ ++ x)) rfl (by kernel_rfl) (by kernel_rfl) (by kernel_rfl) (fun _ _ _ h => h) (Or.inl ⟨by rfl, ?_⟩) (by assumption) ?_
          · intro W hW
            go_simp
          simp only [Act.put]
          refine wpAnyH_take (i := 12) (v := .string (g ++ ⟨#[40]⟩ ++ x ++ ⟨#[41]⟩)) rfl (by kernel_rfl) (by kernel_rfl) (by kernel_rfl) (fun _ _ _ h => h) (Or.inl ⟨by rfl, ?_⟩) (by assumption) ?_
          · intro W hW
            go_simp
          simp only [Act.put]
          refine wpAnyH_take (i := 13) (v := .string (g ++ ⟨#[40]⟩ ++ x ++ ⟨#[41]⟩)) rfl (by kernel_rfl) (by kernel_rfl) (by kernel_rfl) (fun _ _ _ h => h) (Or.inl ⟨by rfl, ?_⟩) (by assumption) ?_
          · intro W hW
            go_simp
          simp only [Act.put]
          refine wpAnyH_done (by kernel_rfl) ?_ _
          go_simp
          go_wp2_with fail
          go_ret
          exact ⟨ret_str HR.out, bt HQT.out Hv3⟩
    · go_simp
      refine (HC4.out _ h0).mono ?_
      rintro e v4 ⟨rfl, hbv4⟩
      have Hv4 := bt h0 hbv4
      refine hK.out _ _ Hv4 (fun hHeld => ?_)
      clear hK K
      refine wpAnyH_ready (rs := [0]) (by kernel_rfl) (by simp) ?_
      refine AllReadyH.cons rfl (fun K hK => ?_) (AllReadyH.nil)
      · go_simp
        obtain ⟨v5, hvv5⟩ : ∃ X, (v4).alloc (.cells #[.string ⟨#[]⟩, .string ⟨#[112, 97, 114, 101, 110, 116]⟩, .string ⟨#[99, 104, 105, 108, 100]⟩, .string ⟨#[110, 101, 120, 116]⟩] 9) = X := ⟨_, rfl⟩
        rw [hvv5]
        have Hv5 : Below W1.heap.size W1 v5 := by rw [← hvv5]; exact alloc_on Hv4 _
        have hbx_v5 : BoxAt v5 (v4.heap.size) [.string ⟨#[]⟩, .string ⟨#[112, 97, 114, 101, 110, 116]⟩, .string ⟨#[99, 104, 105, 108, 100]⟩, .string ⟨#[110, 101, 120, 116]⟩] := by rw [← hvv5]; exact (BoxAt.new _ _ _)
        refine hK.out _ _ Hv5 (fun hHeld => ?_)
        clear hK K hvv5
        refine wpAnyH_take (i := 3) (v := .pointer (some ⟨v4.heap.size, j, none⟩)) rfl (by kernel_rfl) (by kernel_rfl) (by kernel_rfl) (fun _ _ _ h => h) (Or.inl ⟨by rfl, ?_⟩) (by assumption) ?_
        · intro W hW
          go_simp
        simp only [Act.put]
        refine wpAnyH_ready (rs := [4]) (by kernel_rfl) (by simp) ?_
        refine AllReadyH.cons rfl (fun K hK => ?_) (AllReadyH.nil)
        · have hcl := HOP.out _ _ (by assumption : BoxAt (v5) _ _)
          go_simp
          refine hK.out _ _ Hv5 (fun hHeld => ?_)
          clear hK K
          refine wpAnyH_take (i := 5) (v := .string (g ++ ⟨#[40]⟩)) rfl (by kernel_rfl) (by kernel_rfl) (by kernel_rfl) (fun _ _ _ h => h) (Or.inl ⟨by rfl, ?_⟩) (by assumption) ?_
          · intro W hW
            go_simp
          simp only [Act.put]
          refine wpAnyH_take (i := 11) (v := .string (g ++ ⟨#[40]⟩ ++ x)) rfl (by kernel_rfl) (by kernel_rfl) (by kernel_rfl) (fun _ _ _ h => h) (Or.inl ⟨by rfl, ?_⟩) (by assumption) ?_
          · intro W hW
            go_simp
          simp only [Act.put]
          refine wpAnyH_take (i := 12) (v := .string (g ++ ⟨#[40]⟩ ++ x ++ ⟨#[41]⟩)) rfl (by kernel_rfl) (by kernel_rfl) (by kernel_rfl) (fun _ _ _ h => h) (Or.inl ⟨by rfl, ?_⟩) (by assumption) ?_
          · intro W hW
            go_simp
          simp only [Act.put]
          refine wpAnyH_take (i := 13) (v := .string (g ++ ⟨#[40]⟩ ++ x ++ ⟨#[41]⟩)) rfl (by kernel_rfl) (by kernel_rfl) (by kernel_rfl) (fun _ _ _ h => h) (Or.inl ⟨by rfl, ?_⟩) (by assumption) ?_
          · intro W hW
            go_simp
          simp only [Act.put]
          refine wpAnyH_done (by kernel_rfl) ?_ _
          go_simp
          go_wp2_with fail
          go_ret
          exact ⟨ret_str HR.out, bt HQT.out Hv5⟩
  · have hL : args.length = 1 := by
      have h5 := hsh.2.2.2.2.1; have h6 := hsh.2.2.2.2.2.1
      simp [hasOf] at h5 h6; omega
    have hone : sepB ⟨#[44, 32]⟩ ((Ex.prs args).map Prod.snd) = (args[0]'(by omega)).pr := by
      have h1 : args = [args[0]'(by omega)] := by
        apply List.ext_getElem
        · simpa using hL
        · intro i h1 h2
          have : i = 0 := by omega
          subst this
          rfl
      rw [Ex.prs_eq]
      have h2 : (args.map fun e => (tightK e.kind e.op, e.pr)).map Prod.snd = args.map Ex.pr := by simp
      rw [h2]
      conv => lhs; rw [h1]
      simp [sepB, sepTail, app_emp]
    have e1 : prE 11 o n s (Ex.prs args) = ⟨#[114, 97, 110, 100, 111, 109, 40]⟩ ++ (args[0]'(by omega)).pr ++ ⟨#[41]⟩ := by
      show (⟨#[114, 97, 110, 100, 111, 109]⟩ : ByteArray) ++ ⟨#[40]⟩ ++ sepB ⟨#[44, 32]⟩ ((Ex.prs args).map Prod.snd) ++ ⟨#[41]⟩ = _
      rw [hone]
      rfl
    rw [e1] at hsz ⊢
    have hz := hsz
    simp only [ByteArray.size_append] at hz
    have hp0 : (args[0]'(by omega)).pr.size ≤ 1000000000000 := by omega
    obtain ⟨b, off, rfl, hFb, hel⟩ := ha (by omega)
    have hbw := hF b hFb
    obtain ⟨kd0, o0, n0, s0, a0, m0, cap0, hx0, g0, g1, g2, g3, g4⟩ := hel w rfl 0 (by omega)
    have HG0 : Hid (∀ W, Below w.heap.size w W → W.cell? ⟨b, off, none⟩ = some (.int .i64 kd0) ∧ W.cell? ⟨b, off + 1, none⟩ = some (.int .i64 o0) ∧ W.cell? ⟨b, off + 2, none⟩ = some (.int .i64 n0) ∧ W.cell? ⟨b, off + 3, none⟩ = some (.string s0) ∧ W.cell? ⟨b, off + 4, none⟩ = some (.slice a0 m0 cap0)) := Lib.hid fun W hW => ⟨(hW.cell (p := ⟨b, off, none⟩) hbw).trans (by simpa using g0), (hW.cell (p := ⟨b, off + 1, none⟩) hbw).trans (by simpa using g1), (hW.cell (p := ⟨b, off + 2, none⟩) hbw).trans (by simpa using g2), (hW.cell (p := ⟨b, off + 3, none⟩) hbw).trans (by simpa using g3), (hW.cell (p := ⟨b, off + 4, none⟩) hbw).trans (by simpa using g4)⟩
    clear g0 g1 g2 g3 g4
    have hc1 := hprint 0 (by omega) _ hx0 hp0
    obtain ⟨x, hx⟩ : ∃ x, (args[0]'(by omega)).pr = x := ⟨_, rfl⟩
    simp only [hx] at hc1 hp0
    have HR : Hid (⟨#[114, 97, 110, 100, 111, 109, 40]⟩ ++ x ++ ⟨#[41]⟩ = (⟨#[114, 97, 110, 100, 111, 109, 40]⟩ : ByteArray) ++ (args[0]'(by omega)).pr ++ ⟨#[41]⟩) := Lib.hid (by rw [hx])
    have HC : Hid (∀ W, Below w.heap.size w W → Calls Tryz.prog 49 #[.agg #[.int .i64 kd0, .int .i64 o0, .int .i64 n0, .string s0, .slice a0 m0 cap0]] W (Gives W (.string x))) := Lib.hid hc1
    have hL2 : (0 : Int) < (args.length : Int) := by omega
    clear hprint hpart hsa hsh hnm h1n h2t hF hkk ha hsz hz hc1 hx0 hel hbw hFb hone e1
    generalize (args[0]'(by omega)).pr = z at HR hx
    clear hx hL
    obtain ⟨W1, hW1⟩ : ∃ W1, w.alloc (.cells #[.int .i64 11, .int .i64 o, .int .i64 n, .string s, .slice (some ⟨b, off, none⟩) args.length cap] 73) = W1 := ⟨_, rfl⟩
    have hb1 : Below w.heap.size w W1 := by rw [← hW1]; exact (Below.refl _ _).alloc (Nat.le_refl _) _
    have hbx1 : BoxAt W1 w.heap.size [.int .i64 11, .int .i64 o, .int .i64 n, .string s, .slice (some ⟨b, off, none⟩) args.length cap] := by rw [← hW1]; exact BoxAt.new _ _ _
    have HE : Hid (∀ W, Below W1.heap.size W1 W → BoxAt W w.heap.size [.int .i64 11, .int .i64 o, .int .i64 n, .string s, .slice (some ⟨b, off, none⟩) args.length cap] ∧ Below w.heap.size w W) := Lib.hid fun W hW => ⟨hbx1.below hW hbx1.1, bt hb1 hW⟩
    have HW1 := Lib.hid hW1
    clear hW1 hb1 hbx1
    go_enter Tryz.func49, Tryz.ntmps49
    go_upto_region 1 with fail
    rw [HW1.out]
    obtain ⟨hq, hqt⟩ := HE.out W1 (Below.refl _ _)
    have y0 := hq.2 0 (by simp); have y1 := hq.2 1 (by simp); have y2 := hq.2 2 (by simp); have y3 := hq.2 3 (by simp); have y4 := hq.2 4 (by simp); simp only [cqs, cqz] at y0 y1 y2 y3 y4
    obtain ⟨x00, x01, x02, x03, x04⟩ := HG0.out _ hqt
    go_wp2_with (go_at_call 49; (with_reducible refine (HC.out _ hqt).mono ?_); rintro e w1 ⟨rfl, hb⟩)
    go_ret
    exact ⟨ret_str HR.out, bt hqt hb⟩
  · have e1 : prE 12 o n s (Ex.prs args) = selfB o := rfl
    rw [e1] at hsz ⊢
    have ho := hsh.2.2.2.2.2.2.2.2 rfl
    have hoc : o = 1 ∨ o = 2 ∨ o = 3 ∨ o = 4 ∨ o = 5 ∨ o = 6 := by omega
    clear e1 hpart hprint hsa hsh hnm h1n h2t hF ha hkk ho hsz
    rcases hoc with rfl | rfl | rfl | rfl | rfl | rfl
    all_goals
      go_enter Tryz.func49, Tryz.ntmps49
      go_wp2
      go_ret
      exact ⟨rfl, ((Below.refl _ w).alloc (Nat.le_refl _) _).alloc (by simp) _⟩
  · exact absurd (Or.inr (Or.inl rfl)) hkk
end Go.Proofs.YtnbfadgclffgkaaGreatDoor
