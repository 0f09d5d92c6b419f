/- The walk of phrase.Print. Printed by gen-pr2.py. -/
import Derived.Test.YtnbfadgclffgkaaGreatDoorPrF
import Derived.Test.YtnbfadgclffgkaaGreatDoorPrG
namespace Go.Proofs.YtnbfadgclffgkaaGreatDoor
open Go.RowKit Go.Sort
theorem pt_get {args : List Ex} {i : Nat} (hi : i < args.length) (t : Int) : pt (Ex.prs args) i t = wrapB (decide (tightK args[i].kind args[i].op < t)) args[i].pr := by
  unfold pt
  rw [Ex.prs_eq, List.getElem?_map, List.getElem?_eq_getElem hi]
  rfl
theorem pt_le {args : List Ex} {i : Nat} (hi : i < args.length) (t : Int) : args[i].pr.size ≤ (pt (Ex.prs args) i t).size := by
  rw [pt_get hi]
  exact wrapB_le _ _
theorem tight_pos {e : Ex} (hs : Src e) (hk : ¬ SaidK e.kind) : 1 ≤ tightK e.kind e.op := by
  obtain ⟨k, o, n, s, args⟩ := e
  have h1 : 1 ≤ k := hs.1.1
  have h2 : k ≤ 13 := hs.1.2
  have h3 : k = 6 → 1 ≤ o ∧ o ≤ 14 := hs.2.1.2.2.2.2.2.2.1
  simp only [SaidK, Ex.kind, not_or] at hk
  simp only [Ex.kind, Ex.op]
  rcases ekind_cases k h1 h2 with rfl | rfl | rfl | rfl | rfl | rfl | rfl | rfl | rfl | rfl | rfl | rfl | rfl
  case inr.inr.inr.inr.inr.inl =>
    obtain ⟨h4, h5⟩ := h3 rfl
    show 1 ≤ lvl o
    unfold lvl
    repeat' split
    all_goals omega
  all_goals first | (exact absurd rfl hk.1) | (exact absurd rfl hk.2.1) | (simp [tightK])
theorem pt_one {args : List Ex} {i : Nat} (hi : i < args.length) (hs : Src args[i]) (hk : ¬ SaidK args[i].kind) : pt (Ex.prs args) i 1 = args[i].pr := by
  rw [pt_get hi]
  have := tight_pos hs hk
  unfold wrapB
  rw [if_neg (by simp; omega)]
set_option maxRecDepth 100000 in
set_option maxHeartbeats 8000000 in
theorem printT_calls (e : Ex) : PrTC e := by
  induction e using Ex.ind with
  | h k o n s args ih =>
  intro F w cs hF ht hs hsz hr
  obtain ⟨k', o', n', s', a, m, cap, rfl⟩ := hr.shape
  obtain ⟨rfl, rfl, rfl, rfl, -, -, hn64, hs64, hx⟩ := hr.parts
  obtain ⟨rfl, hl, hc, -⟩ := hx.opn
  simp only [Ex.kind, Ex.op, Ex.num, Ex.name, Ex.args] at *
  have hpart : ∀ W, Below w.heap.size w W → ∀ (i : Nat) (t : Int) (hi : i < args.length), args[i].pr.size ≤ 1000000000000 → Calls Tryz.prog 86 #[.agg #[.int .i64 k, .int .i64 o, .int .i64 n, .string s, .slice a args.length cap], .int .i64 i, .int .i64 t] W (Gives W (.string (pt (Ex.prs args) i t))) := by
    intro W hW i t hi hz
    rw [pt_get hi]
    exact partT_calls (.mk k o n s args) i t hi (ih _ (List.getElem_mem hi)) F W _ (hF.below hW) (ht.below hW (Nat.le_refl _)) ((srcs_iff args).1 hs.2.2.2.2.2 _ (List.getElem_mem hi)).2 hz (hr.below hF hW (Nat.le_refl _))
  obtain ⟨hk, hsh, h1n, h2t, hnm, hsa⟩ := hs
  have hsa := (srcs_iff args).1 hsa
  have epr : (Ex.mk k o n s args).pr = prE k o n s (Ex.prs args) := rfl
  rw [epr] at hsz ⊢
  clear epr ih hr hx
  have HTB := Lib.hid ht
  clear ht
  rcases ekind_cases k hk.1 hk.2 with rfl | rfl | rfl | rfl | rfl | rfl | rfl | rfl | rfl | rfl | rfl | rfl | rfl
  · have HN := Lib.hid (fun W (hW : Below w.heap.size w W) => numT_calls n hn64 W (HTB.out.below hW (Nat.le_refl _)))
    have e1 : prE 1 o n s (Ex.prs args) = numB n := rfl
    rw [e1] at hsz ⊢
    clear e1 hpart hsa hsh hnm h1n h2t hF
    obtain ⟨W1, hW1⟩ : ∃ W1, w.alloc (.cells #[.int .i64 1, .int .i64 o, .int .i64 n, .string s, .slice a args.length cap] 73) = W1 := ⟨_, rfl⟩
    have hb1 : Below w.heap.size w W1 := by rw [← hW1]; exact (Below.refl _ _).alloc (Nat.le_refl _) _
    have hbx1 : BoxAt W1 w.heap.size [.int .i64 1, .int .i64 o, .int .i64 n, .string s, .slice a args.length cap] := by rw [← hW1]; exact BoxAt.new _ _ _
    have HE : Hid (∀ W, Below W1.heap.size W1 W → BoxAt W w.heap.size [.int .i64 1, .int .i64 o, .int .i64 n, .string s, .slice a args.length cap] ∧ Below w.heap.size w W) := Lib.hid fun W hW => ⟨hbx1.below hW hbx1.1, bt hb1 hW⟩
    have HW1 := Lib.hid hW1
    clear hW1 hb1 hbx1
    go_enter Tryz.func43, Tryz.ntmps43
    go_upto_region 1 with fail
    rw [HW1.out]
    obtain ⟨hq, hqt⟩ := HE.out W1 (Below.refl _ _)
    have y0 := hq.2 0 (by simp); have y1 := hq.2 1 (by simp); have y2 := hq.2 2 (by simp); have y3 := hq.2 3 (by simp); have y4 := hq.2 4 (by simp); simp only [cqs, cqz] at y0 y1 y2 y3 y4
    go_wp2_with (go_at_call 84; (with_reducible refine (HN.out _ hqt).mono ?_); rintro e w1 ⟨rfl, hb⟩)
    go_ret
    exact ⟨rfl, bt hqt hb⟩
  · have hq2 : s.size ≤ 1000000000 := by have := (h2t rfl).1; omega
    have HN := Lib.hid (fun W => quoteT_calls s W hq2)
    have e1 : prE 2 o n s (Ex.prs args) = quoteB s := rfl
    rw [e1] at hsz ⊢
    clear e1 hpart hsa hsh hnm h1n h2t hF hq2
    obtain ⟨W1, hW1⟩ : ∃ W1, w.alloc (.cells #[.int .i64 2, .int .i64 o, .int .i64 n, .string s, .slice a args.length cap] 73) = W1 := ⟨_, rfl⟩
    have hb1 : Below w.heap.size w W1 := by rw [← hW1]; exact (Below.refl _ _).alloc (Nat.le_refl _) _
    have hbx1 : BoxAt W1 w.heap.size [.int .i64 2, .int .i64 o, .int .i64 n, .string s, .slice a args.length cap] := by rw [← hW1]; exact BoxAt.new _ _ _
    have HE : Hid (∀ W, Below W1.heap.size W1 W → BoxAt W w.heap.size [.int .i64 2, .int .i64 o, .int .i64 n, .string s, .slice a args.length cap] ∧ Below w.heap.size w W) := Lib.hid fun W hW => ⟨hbx1.below hW hbx1.1, bt hb1 hW⟩
    have HW1 := Lib.hid hW1
    clear hW1 hb1 hbx1
    go_enter Tryz.func43, Tryz.ntmps43
    go_upto_region 1 with fail
    rw [HW1.out]
    obtain ⟨hq, hqt⟩ := HE.out W1 (Below.refl _ _)
    have y0 := hq.2 0 (by simp); have y1 := hq.2 1 (by simp); have y2 := hq.2 2 (by simp); have y3 := hq.2 3 (by simp); have y4 := hq.2 4 (by simp); simp only [cqs, cqz] at y0 y1 y2 y3 y4
    go_wp2_with (go_at_call 85; (with_reducible refine (HN.out _).mono ?_); rintro e w1 ⟨rfl, hb⟩)
    go_ret
    exact ⟨rfl, bt hqt hb⟩
  · have e1 : prE 3 o n s (Ex.prs args) = s := rfl
    rw [e1] at hsz ⊢
    clear e1 hpart hsa hsh hnm h1n h2t hF
    obtain ⟨W1, hW1⟩ : ∃ W1, w.alloc (.cells #[.int .i64 3, .int .i64 o, .int .i64 n, .string s, .slice a args.length cap] 73) = W1 := ⟨_, rfl⟩
    have hb1 : Below w.heap.size w W1 := by rw [← hW1]; exact (Below.refl _ _).alloc (Nat.le_refl _) _
    have hbx1 : BoxAt W1 w.heap.size [.int .i64 3, .int .i64 o, .int .i64 n, .string s, .slice a args.length cap] := by rw [← hW1]; exact BoxAt.new _ _ _
    have HE : Hid (∀ W, Below W1.heap.size W1 W → BoxAt W w.heap.size [.int .i64 3, .int .i64 o, .int .i64 n, .string s, .slice a args.length cap] ∧ Below w.heap.size w W) := Lib.hid fun W hW => ⟨hbx1.below hW hbx1.1, bt hb1 hW⟩
    have HW1 := Lib.hid hW1
    clear hW1 hb1 hbx1
    go_enter Tryz.func43, Tryz.ntmps43
    go_upto_region 1 with fail
    rw [HW1.out]
    obtain ⟨hq, hqt⟩ := HE.out W1 (Below.refl _ _)
    have y0 := hq.2 0 (by simp); have y1 := hq.2 1 (by simp); have y2 := hq.2 2 (by simp); have y3 := hq.2 3 (by simp); have y4 := hq.2 4 (by simp); simp only [cqs, cqz] at y0 y1 y2 y3 y4
    go_wp2
    go_ret
    exact ⟨rfl, hqt⟩
  · have hL : args.length = 1 := by
      have h5 := hsh.2.2.2.2.1; have h6 := hsh.2.2.2.2.2.1
      simp [hasOf] at h5 h6; omega
    have e1 : prE 4 o n s (Ex.prs args) = ⟨#[45]⟩ ++ pt (Ex.prs args) 0 7 := rfl
    rw [e1] at hsz ⊢
    have hz := hsz
    simp only [ByteArray.size_append] at hz
    have hp0 : (pt (Ex.prs args) 0 7).size ≤ 1000000000000 := by omega
    have hc1 := fun W hW => hpart W hW 0 7 (by omega) (Nat.le_trans (pt_le (by omega) 7) hp0)
    obtain ⟨x, hx⟩ : ∃ x, pt (Ex.prs args) 0 7 = x := ⟨_, rfl⟩
    simp only [hx] at hc1 hp0
    have HR : Hid (⟨#[45]⟩ ++ x = (⟨#[45]⟩ : ByteArray) ++ pt (Ex.prs args) 0 7) := Lib.hid (by rw [hx])
    have HC : Hid (∀ W, Below w.heap.size w W → Calls Tryz.prog 86 #[.agg #[.int .i64 4, .int .i64 o, .int .i64 n, .string s, .slice a args.length cap], .int .i64 0, .int .i64 7] W (Gives W (.string x))) := Lib.hid hc1
    clear e1 hpart hsa hsh hnm h1n h2t hF hsz hz hc1 hx hL
    obtain ⟨W1, hW1⟩ : ∃ W1, w.alloc (.cells #[.int .i64 4, .int .i64 o, .int .i64 n, .string s, .slice a args.length cap] 73) = W1 := ⟨_, rfl⟩
    have hb1 : Below w.heap.size w W1 := by rw [← hW1]; exact (Below.refl _ _).alloc (Nat.le_refl _) _
    have hbx1 : BoxAt W1 w.heap.size [.int .i64 4, .int .i64 o, .int .i64 n, .string s, .slice a args.length cap] := by rw [← hW1]; exact BoxAt.new _ _ _
    have HE : Hid (∀ W, Below W1.heap.size W1 W → BoxAt W w.heap.size [.int .i64 4, .int .i64 o, .int .i64 n, .string s, .slice a args.length cap] ∧ Below w.heap.size w W) := Lib.hid fun W hW => ⟨hbx1.below hW hbx1.1, bt hb1 hW⟩
    have HW1 := Lib.hid hW1
    clear hW1 hb1 hbx1
    go_enter Tryz.func43, Tryz.ntmps43
    go_upto_region 1 with fail
    rw [HW1.out]
    obtain ⟨hq, hqt⟩ := HE.out W1 (Below.refl _ _)
    have y0 := hq.2 0 (by simp); have y1 := hq.2 1 (by simp); have y2 := hq.2 2 (by simp); have y3 := hq.2 3 (by simp); have y4 := hq.2 4 (by simp); simp only [cqs, cqz] at y0 y1 y2 y3 y4
    go_wp2_with (go_at_call 86; (with_reducible refine (HC.out _ hqt).mono ?_); rintro e w1 ⟨rfl, hb⟩)
    go_ret
    exact ⟨ret_str HR.out, bt hqt hb⟩
  · have hL : args.length = 1 := by
      have h5 := hsh.2.2.2.2.1; have h6 := hsh.2.2.2.2.2.1
      simp [hasOf] at h5 h6; omega
    have e1 : prE 5 o n s (Ex.prs args) = ⟨#[110, 111, 116, 32]⟩ ++ pt (Ex.prs args) 0 3 := rfl
    rw [e1] at hsz ⊢
    have hz := hsz
    simp only [ByteArray.size_append] at hz
    have hp0 : (pt (Ex.prs args) 0 3).size ≤ 1000000000000 := by omega
    have hc1 := fun W hW => hpart W hW 0 3 (by omega) (Nat.le_trans (pt_le (by omega) 3) hp0)
    obtain ⟨x, hx⟩ : ∃ x, pt (Ex.prs args) 0 3 = x := ⟨_, rfl⟩
    simp only [hx] at hc1 hp0
    have HR : Hid (⟨#[110, 111, 116, 32]⟩ ++ x = (⟨#[110, 111, 116, 32]⟩ : ByteArray) ++ pt (Ex.prs args) 0 3) := Lib.hid (by rw [hx])
    have HC : Hid (∀ W, Below w.heap.size w W → Calls Tryz.prog 86 #[.agg #[.int .i64 5, .int .i64 o, .int .i64 n, .string s, .slice a args.length cap], .int .i64 0, .int .i64 3] W (Gives W (.string x))) := Lib.hid hc1
    clear e1 hpart hsa hsh hnm h1n h2t hF hsz hz hc1 hx hL
    obtain ⟨W1, hW1⟩ : ∃ W1, w.alloc (.cells #[.int .i64 5, .int .i64 o, .int .i64 n, .string s, .slice a args.length cap] 73) = W1 := ⟨_, rfl⟩
    have hb1 : Below w.heap.size w W1 := by rw [← hW1]; exact (Below.refl _ _).alloc (Nat.le_refl _) _
    have hbx1 : BoxAt W1 w.heap.size [.int .i64 5, .int .i64 o, .int .i64 n, .string s, .slice a args.length cap] := by rw [← hW1]; exact BoxAt.new _ _ _
    have HE : Hid (∀ W, Below W1.heap.size W1 W → BoxAt W w.heap.size [.int .i64 5, .int .i64 o, .int .i64 n, .string s, .slice a args.length cap] ∧ Below w.heap.size w W) := Lib.hid fun W hW => ⟨hbx1.below hW hbx1.1, bt hb1 hW⟩
    have HW1 := Lib.hid hW1
    clear hW1 hb1 hbx1
    go_enter Tryz.func43, Tryz.ntmps43
    go_upto_region 1 with fail
    rw [HW1.out]
    obtain ⟨hq, hqt⟩ := HE.out W1 (Below.refl _ _)
    have y0 := hq.2 0 (by simp); have y1 := hq.2 1 (by simp); have y2 := hq.2 2 (by simp); have y3 := hq.2 3 (by simp); have y4 := hq.2 4 (by simp); simp only [cqs, cqz] at y0 y1 y2 y3 y4
    go_wp2_with (go_at_call 86; (with_reducible refine (HC.out _ hqt).mono ?_); rintro e w1 ⟨rfl, hb⟩)
    go_ret
    exact ⟨ret_str HR.out, bt hqt hb⟩
  · have hL : args.length = 2 := by
      have h5 := hsh.2.2.2.2.1; have h6 := hsh.2.2.2.2.2.1
      simp [hasOf] at h5 h6; omega
    have ho := hsh.2.2.2.2.2.2.1 rfl
    have e1 : prE 6 o n s (Ex.prs args) = pt (Ex.prs args) 0 (lft o) ++ ⟨#[32]⟩ ++ signB o ++ ⟨#[32]⟩ ++ pt (Ex.prs args) 1 (lvl o + 1) := rfl
    rw [e1] at hsz ⊢
    have hz := hsz
    simp only [ByteArray.size_append] at hz
    have hp0 : (pt (Ex.prs args) 0 (lft o)).size ≤ 1000000000000 := by omega
    have hp1 : (pt (Ex.prs args) 1 (lvl o + 1)).size ≤ 1000000000000 := by omega
    have hp2 : (signB o).size ≤ 1000000000000 := by omega
    have hc1 := fun W hW => hpart W hW 0 (lft o) (by omega) (Nat.le_trans (pt_le (by omega) (lft o)) hp0)
    have hc2 := fun W hW => hpart W hW 1 (lvl o + 1) (by omega) (Nat.le_trans (pt_le (by omega) (lvl o + 1)) hp1)
    have hc3 := fun W => sign_calls o ho.1 ho.2 W
    have hlv := lvl_range o
    have HL := Lib.hid (fun W => level_calls o W)
    have hzz : (pt (Ex.prs args) 0 (lft o)).size + 1 + (signB o).size + 1 + (pt (Ex.prs args) 1 (lvl o + 1)).size ≤ 1000000000000 := hz
    obtain ⟨x, hx⟩ : ∃ x, pt (Ex.prs args) 0 (lft o) = x := ⟨_, rfl⟩
    obtain ⟨y, hy⟩ : ∃ y, pt (Ex.prs args) 1 (lvl o + 1) = y := ⟨_, rfl⟩
    obtain ⟨g, hg⟩ : ∃ g, signB o = g := ⟨_, rfl⟩
    obtain ⟨r, hr⟩ : ∃ r, x ++ (⟨#[32]⟩ : ByteArray) ++ g ++ ⟨#[32]⟩ ++ y = r := ⟨_, rfl⟩
    rw [hx, hy, hg] at hzz ⊢
    rw [hr]
    have HR := Lib.hid hr
    simp only [hx] at hc1; simp only [hy] at hc2; simp only [hg] at hc3
    have hlf : lft o = if lvl o = 4 then 5 else lvl o := rfl
    rw [hlf] at hc1
    obtain ⟨q, hq⟩ : ∃ q, lvl o = q := ⟨_, rfl⟩
    rw [hq] at hlv HL
    simp only [hq] at hc1 hc2
    obtain ⟨hq0, hq6⟩ := hlv
    have HC2 : Hid (∀ W, Below w.heap.size w W → Calls Tryz.prog 86 #[.agg #[.int .i64 6, .int .i64 o, .int .i64 n, .string s, .slice a args.length cap], .int .i64 1, .int .i64 (q + 1)] W (Gives W (.string y))) := Lib.hid hc2
    have HC3 := Lib.hid hc3
    clear e1 hpart hsa hsh hnm h1n h2t hF hsz hz hc2 hc3 hx hy hg hr hq hlf hp0 hp1 hp2 hL
    obtain ⟨W1, hW1⟩ : ∃ W1, w.alloc (.cells #[.int .i64 6, .int .i64 o, .int .i64 n, .string s, .slice a args.length cap] 73) = W1 := ⟨_, rfl⟩
    have hb1 : Below w.heap.size w W1 := by rw [← hW1]; exact (Below.refl _ _).alloc (Nat.le_refl _) _
    have hbx1 : BoxAt W1 w.heap.size [.int .i64 6, .int .i64 o, .int .i64 n, .string s, .slice a args.length cap] := by rw [← hW1]; exact BoxAt.new _ _ _
    have HE : Hid (∀ W, Below W1.heap.size W1 W → BoxAt W w.heap.size [.int .i64 6, .int .i64 o, .int .i64 n, .string s, .slice a args.length cap] ∧ Below w.heap.size w W) := Lib.hid fun W hW => ⟨hbx1.below hW hbx1.1, bt hb1 hW⟩
    have HW1 := Lib.hid hW1
    clear hW1 hb1 hbx1
    by_cases h4 : q = 4
    · rw [if_pos h4] at hc1
      have HC : Hid (∀ W, Below w.heap.size w W → Calls Tryz.prog 86 #[.agg #[.int .i64 6, .int .i64 o, .int .i64 n, .string s, .slice a args.length cap], .int .i64 0, .int .i64 5] W (Gives W (.string x))) := Lib.hid hc1
      clear hc1
      subst h4
      have HC2' : Hid (∀ W, Below w.heap.size w W → Calls Tryz.prog 86 #[.agg #[.int .i64 6, .int .i64 o, .int .i64 n, .string s, .slice a args.length cap], .int .i64 1, .int .i64 5] W (Gives W (.string y))) := Lib.hid HC2.out
      go_enter Tryz.func43, Tryz.ntmps43
      go_upto_region 1 with fail
      rw [HW1.out]
      obtain ⟨hq, hqt⟩ := HE.out W1 (Below.refl _ _)
      have y0 := hq.2 0 (by simp); have y1 := hq.2 1 (by simp); have y2 := hq.2 2 (by simp); have y3 := hq.2 3 (by simp); have y4 := hq.2 4 (by simp); simp only [cqs, cqz] at y0 y1 y2 y3 y4
      go_upto_region 21 with (go_at_call 87; (with_reducible refine (HL.out _).mono ?_); rintro e w1 ⟨rfl, hb⟩)
      clear y0 y1 y2 y3 y4
      obtain ⟨hq, hqt⟩ := HE.out w1 hb
      have y0 := hq.2 0 (by simp); have y1 := hq.2 1 (by simp); have y2 := hq.2 2 (by simp); have y3 := hq.2 3 (by simp); have y4 := hq.2 4 (by simp); simp only [cqs, cqz] at y0 y1 y2 y3 y4
      have K {f : FuncId} {args : Array Value} {u : Value} (h : ∀ w', Below w1.heap.size w1 w' → Calls Tryz.prog f args w' (Gives w' u)) (p : Regrown) : Calls Tryz.prog f args (grow (redrawn w1 p.d) p.os) fun e w3 => e = .returned u ∧ ∃ p : Regrown, w3 = grow (redrawn w1 p.d) p.os := regrown_gives (fun w3 hb => h w3 hb) p
      have G1 := Lib.hid (K (fun W hW => HC.out W (bt hqt hW)))
      have G2 := Lib.hid (K (fun W hW => HC2'.out W (bt hqt hW)))
      have G3 := Lib.hid (K (fun W _ => HC3.out W))
      clear K HC2 HC2' HC HC3
      have c0 := fun d os => cell_regrown y0 d os; have c1 := fun d os => cell_regrown y1 d os; have c2 := fun d os => cell_regrown y2 d os; have c3 := fun d os => cell_regrown y3 d os; have c4 := fun d os => cell_regrown y4 d os
      have HQT := Lib.hid hqt
      refine wp_region_quiet_below (by kernel_rfl) (by kernel_rfl) ?_
      repeat (go_big_quiet_step (first | with_reducible exact G1.out _ | with_reducible exact G2.out _ | with_reducible exact G3.out _))
      refine wpQuiet_nil ?_
      intro w6 hw6
      have hb6 := below_of_regrown hw6
      clear hw6
      go_wp2_with fail
      go_ret
      exact ⟨ret_str HR.out, bt HQT.out hb6⟩
    · rw [if_neg h4] at hc1
      have HC : Hid (∀ W, Below w.heap.size w W → Calls Tryz.prog 86 #[.agg #[.int .i64 6, .int .i64 o, .int .i64 n, .string s, .slice a args.length cap], .int .i64 0, .int .i64 q] W (Gives W (.string x))) := Lib.hid hc1
      clear hc1
      have HC2' := HC2
      go_enter Tryz.func43, Tryz.ntmps43
      go_upto_region 1 with fail
      rw [HW1.out]
      obtain ⟨hq, hqt⟩ := HE.out W1 (Below.refl _ _)
      have y0 := hq.2 0 (by simp); have y1 := hq.2 1 (by simp); have y2 := hq.2 2 (by simp); have y3 := hq.2 3 (by simp); have y4 := hq.2 4 (by simp); simp only [cqs, cqz] at y0 y1 y2 y3 y4
      go_upto_region 21 with (go_at_call 87; (with_reducible refine (HL.out _).mono ?_); rintro e w1 ⟨rfl, hb⟩)
      clear y0 y1 y2 y3 y4
      obtain ⟨hq, hqt⟩ := HE.out w1 hb
      have y0 := hq.2 0 (by simp); have y1 := hq.2 1 (by simp); have y2 := hq.2 2 (by simp); have y3 := hq.2 3 (by simp); have y4 := hq.2 4 (by simp); simp only [cqs, cqz] at y0 y1 y2 y3 y4
      have K {f : FuncId} {args : Array Value} {u : Value} (h : ∀ w', Below w1.heap.size w1 w' → Calls Tryz.prog f args w' (Gives w' u)) (p : Regrown) : Calls Tryz.prog f args (grow (redrawn w1 p.d) p.os) fun e w3 => e = .returned u ∧ ∃ p : Regrown, w3 = grow (redrawn w1 p.d) p.os := regrown_gives (fun w3 hb => h w3 hb) p
      have G1 := Lib.hid (K (fun W hW => HC.out W (bt hqt hW)))
      have G2 := Lib.hid (K (fun W hW => HC2'.out W (bt hqt hW)))
      have G3 := Lib.hid (K (fun W _ => HC3.out W))
      clear K HC2 HC2' HC HC3
      have c0 := fun d os => cell_regrown y0 d os; have c1 := fun d os => cell_regrown y1 d os; have c2 := fun d os => cell_regrown y2 d os; have c3 := fun d os => cell_regrown y3 d os; have c4 := fun d os => cell_regrown y4 d os
      have HQT := Lib.hid hqt
      refine wp_region_quiet_below (by kernel_rfl) (by kernel_rfl) ?_
      repeat (go_big_quiet_step (first | with_reducible exact G1.out _ | with_reducible exact G2.out _ | with_reducible exact G3.out _))
      refine wpQuiet_nil ?_
      intro w6 hw6
      have hb6 := below_of_regrown hw6
      clear hw6
      go_wp2_with fail
      go_ret
      exact ⟨ret_str HR.out, bt HQT.out hb6⟩
  · have hL : args.length = 1 := by
      have h5 := hsh.2.2.2.2.1; have h6 := hsh.2.2.2.2.2.1
      simp [hasOf] at h5 h6; omega
    have e1 : prE 7 o n s (Ex.prs args) = pt (Ex.prs args) 0 5 ++ ⟨#[32, 104, 97, 115, 32]⟩ ++ s := rfl
    rw [e1] at hsz ⊢
    have hz := hsz
    simp only [ByteArray.size_append] at hz
    have hp0 : (pt (Ex.prs args) 0 5).size ≤ 1000000000000 := by omega
    have hsz1 : s.size ≤ 1000000000000 := by omega
    have hc1 := fun W hW => hpart W hW 0 5 (by omega) (Nat.le_trans (pt_le (by omega) 5) hp0)
    obtain ⟨x, hx⟩ : ∃ x, pt (Ex.prs args) 0 5 = x := ⟨_, rfl⟩
    simp only [hx] at hc1 hp0
    have HR : Hid (x ++ (⟨#[32, 104, 97, 115, 32]⟩ : ByteArray) ++ s = pt (Ex.prs args) 0 5 ++ ⟨#[32, 104, 97, 115, 32]⟩ ++ s) := Lib.hid (by rw [hx])
    have HC : Hid (∀ W, Below w.heap.size w W → Calls Tryz.prog 86 #[.agg #[.int .i64 7, .int .i64 o, .int .i64 n, .string s, .slice a args.length cap], .int .i64 0, .int .i64 5] W (Gives W (.string x))) := Lib.hid hc1
    clear e1 hpart hsa hsh hnm h1n h2t hF hsz hz hc1 hx hL
    obtain ⟨W1, hW1⟩ : ∃ W1, w.alloc (.cells #[.int .i64 7, .int .i64 o, .int .i64 n, .string s, .slice a args.length cap] 73) = W1 := ⟨_, rfl⟩
    have hb1 : Below w.heap.size w W1 := by rw [← hW1]; exact (Below.refl _ _).alloc (Nat.le_refl _) _
    have hbx1 : BoxAt W1 w.heap.size [.int .i64 7, .int .i64 o, .int .i64 n, .string s, .slice a args.length cap] := by rw [← hW1]; exact BoxAt.new _ _ _
    have HE : Hid (∀ W, Below W1.heap.size W1 W → BoxAt W w.heap.size [.int .i64 7, .int .i64 o, .int .i64 n, .string s, .slice a args.length cap] ∧ Below w.heap.size w W) := Lib.hid fun W hW => ⟨hbx1.below hW hbx1.1, bt hb1 hW⟩
    have HW1 := Lib.hid hW1
    clear hW1 hb1 hbx1
    go_enter Tryz.func43, Tryz.ntmps43
    go_upto_region 1 with fail
    rw [HW1.out]
    obtain ⟨hq, hqt⟩ := HE.out W1 (Below.refl _ _)
    have y0 := hq.2 0 (by simp); have y1 := hq.2 1 (by simp); have y2 := hq.2 2 (by simp); have y3 := hq.2 3 (by simp); have y4 := hq.2 4 (by simp); simp only [cqs, cqz] at y0 y1 y2 y3 y4
    go_upto_region 13 with fail
    have K {f : FuncId} {args : Array Value} {u : Value} (h : ∀ w', Below W1.heap.size W1 w' → Calls Tryz.prog f args w' (Gives w' u)) (p : Regrown) : Calls Tryz.prog f args (grow (redrawn W1 p.d) p.os) fun e w3 => e = .returned u ∧ ∃ p : Regrown, w3 = grow (redrawn W1 p.d) p.os := regrown_gives (fun w3 hb => h w3 hb) p
    have G1 := Lib.hid (K (fun W hW => HC.out W (bt hqt hW)))
    clear K
    have c0 := fun d os => cell_regrown y0 d os; have c1 := fun d os => cell_regrown y1 d os; have c2 := fun d os => cell_regrown y2 d os; have c3 := fun d os => cell_regrown y3 d os; have c4 := fun d os => cell_regrown y4 d os
    have HQT := Lib.hid hqt
    refine wp_region_quiet_below (by kernel_rfl) (by kernel_rfl) ?_
    repeat (go_big_quiet_step (first | with_reducible exact G1.out _))
    refine wpQuiet_nil ?_
    intro w6 hw6
    have hb6 := below_of_regrown hw6
    clear hw6
    go_wp2_with fail
    go_ret
    exact ⟨ret_str HR.out, bt HQT.out hb6⟩
  · have hL : args.length = 1 := by
      have h5 := hsh.2.2.2.2.1; have h6 := hsh.2.2.2.2.2.1
      simp [hasOf] at h5 h6; omega
    have e1 : prE 8 o n s (Ex.prs args) = pt (Ex.prs args) 0 8 ++ ⟨#[46]⟩ ++ s := rfl
    rw [e1] at hsz ⊢
    have hz := hsz
    simp only [ByteArray.size_append] at hz
    have hp0 : (pt (Ex.prs args) 0 8).size ≤ 1000000000000 := by omega
    have hsz1 : s.size ≤ 1000000000000 := by omega
    have hc1 := fun W hW => hpart W hW 0 8 (by omega) (Nat.le_trans (pt_le (by omega) 8) hp0)
    obtain ⟨x, hx⟩ : ∃ x, pt (Ex.prs args) 0 8 = x := ⟨_, rfl⟩
    simp only [hx] at hc1 hp0
    have HR : Hid (x ++ (⟨#[46]⟩ : ByteArray) ++ s = pt (Ex.prs args) 0 8 ++ ⟨#[46]⟩ ++ s) := Lib.hid (by rw [hx])
    have HC : Hid (∀ W, Below w.heap.size w W → Calls Tryz.prog 86 #[.agg #[.int .i64 8, .int .i64 o, .int .i64 n, .string s, .slice a args.length cap], .int .i64 0, .int .i64 8] W (Gives W (.string x))) := Lib.hid hc1
    clear e1 hpart hsa hsh hnm h1n h2t hF hsz hz hc1 hx hL
    obtain ⟨W1, hW1⟩ : ∃ W1, w.alloc (.cells #[.int .i64 8, .int .i64 o, .int .i64 n, .string s, .slice a args.length cap] 73) = W1 := ⟨_, rfl⟩
    have hb1 : Below w.heap.size w W1 := by rw [← hW1]; exact (Below.refl _ _).alloc (Nat.le_refl _) _
    have hbx1 : BoxAt W1 w.heap.size [.int .i64 8, .int .i64 o, .int .i64 n, .string s, .slice a args.length cap] := by rw [← hW1]; exact BoxAt.new _ _ _
    have HE : Hid (∀ W, Below W1.heap.size W1 W → BoxAt W w.heap.size [.int .i64 8, .int .i64 o, .int .i64 n, .string s, .slice a args.length cap] ∧ Below w.heap.size w W) := Lib.hid fun W hW => ⟨hbx1.below hW hbx1.1, bt hb1 hW⟩
    have HW1 := Lib.hid hW1
    clear hW1 hb1 hbx1
    go_enter Tryz.func43, Tryz.ntmps43
    go_upto_region 1 with fail
    rw [HW1.out]
    obtain ⟨hq, hqt⟩ := HE.out W1 (Below.refl _ _)
    have y0 := hq.2 0 (by simp); have y1 := hq.2 1 (by simp); have y2 := hq.2 2 (by simp); have y3 := hq.2 3 (by simp); have y4 := hq.2 4 (by simp); simp only [cqs, cqz] at y0 y1 y2 y3 y4
    go_upto_region 15 with fail
    have K {f : FuncId} {args : Array Value} {u : Value} (h : ∀ w', Below W1.heap.size W1 w' → Calls Tryz.prog f args w' (Gives w' u)) (p : Regrown) : Calls Tryz.prog f args (grow (redrawn W1 p.d) p.os) fun e w3 => e = .returned u ∧ ∃ p : Regrown, w3 = grow (redrawn W1 p.d) p.os := regrown_gives (fun w3 hb => h w3 hb) p
    have G1 := Lib.hid (K (fun W hW => HC.out W (bt hqt hW)))
    clear K
    have c0 := fun d os => cell_regrown y0 d os; have c1 := fun d os => cell_regrown y1 d os; have c2 := fun d os => cell_regrown y2 d os; have c3 := fun d os => cell_regrown y3 d os; have c4 := fun d os => cell_regrown y4 d os
    have HQT := Lib.hid hqt
    refine wp_region_quiet_below (by kernel_rfl) (by kernel_rfl) ?_
    repeat (go_big_quiet_step (first | with_reducible exact G1.out _))
    refine wpQuiet_nil ?_
    intro w6 hw6
    have hb6 := below_of_regrown hw6
    clear hw6
    go_wp2_with fail
    go_ret
    exact ⟨ret_str HR.out, bt HQT.out hb6⟩
  · have e1 : prE 9 o n s (Ex.prs args) = s ++ ⟨#[40]⟩ ++ sepB ⟨#[44, 32]⟩ ((Ex.prs args).map Prod.snd) ++ ⟨#[41]⟩ := rfl
    rw [e1] at hsz ⊢
    obtain ⟨xs, hxs⟩ : ∃ xs, (Ex.prs args).map Prod.snd = xs := ⟨_, rfl⟩
    have hxl : xs.length = args.length := by rw [← hxs, Ex.prs_eq]; simp
    have hxi : ∀ i (hi : i < args.length), xs[i]'(by rw [hxl]; exact hi) = args[i].pr := fun i hi => by
      have h1 : xs[i]? = some args[i].pr := by rw [← hxs, Ex.prs_eq, List.getElem?_map, List.getElem?_map, List.getElem?_eq_getElem hi]; rfl
      rw [List.getElem?_eq_getElem (by rw [hxl]; exact hi)] at h1
      exact Option.some.inj h1
    rw [hxs] at hsz ⊢
    have hz := hsz
    simp only [ByteArray.size_append] at hz
    have hcall : ∀ W, Below w.heap.size w W → Calls Tryz.prog 89 #[.agg #[.int .i64 9, .int .i64 o, .int .i64 n, .string s, .slice a args.length cap]] W (Gives W (.string (s ++ ⟨#[40]⟩ ++ sepB ⟨#[44, 32]⟩ xs ++ ⟨#[41]⟩))) := fun W hW =>
      called9_calls o n s a args.length cap xs _ W hs64 (Lib.hid hxl) (by omega) (Lib.hid rfl) hsz fun W2 hW2 i hi => by
        have h := hpart W2 (bt hW hW2) i 1 hi (by rw [← hxi i hi]; exact Nat.le_trans (sepB_mem ⟨#[44, 32]⟩ xs i (by rw [hxl]; exact hi)) (by omega))
        rw [pt_one hi (hsa _ (List.getElem_mem hi)).2 (hsa _ (List.getElem_mem hi)).1] at h
        rw [hxi i hi]
        exact h
    obtain ⟨r, hr⟩ : ∃ r, s ++ ⟨#[40]⟩ ++ sepB ⟨#[44, 32]⟩ xs ++ ⟨#[41]⟩ = r := ⟨_, rfl⟩
    simp only [hr] at hcall hsz ⊢
    have HC := Lib.hid hcall
    clear e1 hpart hsa hsh hnm h1n h2t hF hz hxi hxl hxs hr hcall
    obtain ⟨W1, hW1⟩ : ∃ W1, w.alloc (.cells #[.int .i64 9, .int .i64 o, .int .i64 n, .string s, .slice a args.length cap] 73) = W1 := ⟨_, rfl⟩
    have hb1 : Below w.heap.size w W1 := by rw [← hW1]; exact (Below.refl _ _).alloc (Nat.le_refl _) _
    have hbx1 : BoxAt W1 w.heap.size [.int .i64 9, .int .i64 o, .int .i64 n, .string s, .slice a args.length cap] := by rw [← hW1]; exact BoxAt.new _ _ _
    have HE : Hid (∀ W, Below W1.heap.size W1 W → BoxAt W w.heap.size [.int .i64 9, .int .i64 o, .int .i64 n, .string s, .slice a args.length cap] ∧ Below w.heap.size w W) := Lib.hid fun W hW => ⟨hbx1.below hW hbx1.1, bt hb1 hW⟩
    have HW1 := Lib.hid hW1
    clear hW1 hb1 hbx1
    go_enter Tryz.func43, Tryz.ntmps43
    go_upto_region 1 with fail
    rw [HW1.out]
    obtain ⟨hq, hqt⟩ := HE.out W1 (Below.refl _ _)
    have y0 := hq.2 0 (by simp); have y1 := hq.2 1 (by simp); have y2 := hq.2 2 (by simp); have y3 := hq.2 3 (by simp); have y4 := hq.2 4 (by simp); simp only [cqs, cqz] at y0 y1 y2 y3 y4
    go_wp2_with (go_at_call 89; (with_reducible refine (HC.out _ hqt).mono ?_); rintro e w1 ⟨rfl, hb⟩)
    go_ret
    exact ⟨rfl, bt hqt hb⟩
  · have e1 : prE 10 o n s (Ex.prs args) = aroundB o ++ ⟨#[40]⟩ ++ sepB ⟨#[44, 32]⟩ ((Ex.prs args).map Prod.snd) ++ ⟨#[41]⟩ := rfl
    rw [e1] at hsz ⊢
    obtain ⟨xs, hxs⟩ : ∃ xs, (Ex.prs args).map Prod.snd = xs := ⟨_, rfl⟩
    have hxl : xs.length = args.length := by rw [← hxs, Ex.prs_eq]; simp
    have hxi : ∀ i (hi : i < args.length), xs[i]'(by rw [hxl]; exact hi) = args[i].pr := fun i hi => by
      have h1 : xs[i]? = some args[i].pr := by rw [← hxs, Ex.prs_eq, List.getElem?_map, List.getElem?_map, List.getElem?_eq_getElem hi]; rfl
      rw [List.getElem?_eq_getElem (by rw [hxl]; exact hi)] at h1
      exact Option.some.inj h1
    rw [hxs] at hsz ⊢
    have hz := hsz
    simp only [ByteArray.size_append] at hz
    have hcall : ∀ W, Below w.heap.size w W → Calls Tryz.prog 89 #[.agg #[.int .i64 10, .int .i64 o, .int .i64 n, .string s, .slice a args.length cap]] W (Gives W (.string (aroundB o ++ ⟨#[40]⟩ ++ sepB ⟨#[44, 32]⟩ xs ++ ⟨#[41]⟩))) := fun W hW =>
      called10_calls o n s a args.length cap xs _ W (hsh.2.2.2.2.2.2.2.1 rfl).1 (hsh.2.2.2.2.2.2.2.1 rfl).2 hs64 (Lib.hid hxl) (by omega) (Lib.hid rfl) hsz fun W2 hW2 i hi => by
        have h := hpart W2 (bt hW hW2) i 1 hi (by rw [← hxi i hi]; exact Nat.le_trans (sepB_mem ⟨#[44, 32]⟩ xs i (by rw [hxl]; exact hi)) (by omega))
        rw [pt_one hi (hsa _ (List.getElem_mem hi)).2 (hsa _ (List.getElem_mem hi)).1] at h
        rw [hxi i hi]
        exact h
    obtain ⟨r, hr⟩ : ∃ r, aroundB o ++ ⟨#[40]⟩ ++ sepB ⟨#[44, 32]⟩ xs ++ ⟨#[41]⟩ = r := ⟨_, rfl⟩
    simp only [hr] at hcall hsz ⊢
    have HC := Lib.hid hcall
    clear e1 hpart hsa hsh hnm h1n h2t hF hz hxi hxl hxs hr hcall
    obtain ⟨W1, hW1⟩ : ∃ W1, w.alloc (.cells #[.int .i64 10, .int .i64 o, .int .i64 n, .string s, .slice a args.length cap] 73) = W1 := ⟨_, rfl⟩
    have hb1 : Below w.heap.size w W1 := by rw [← hW1]; exact (Below.refl _ _).alloc (Nat.le_refl _) _
    have hbx1 : BoxAt W1 w.heap.size [.int .i64 10, .int .i64 o, .int .i64 n, .string s, .slice a args.length cap] := by rw [← hW1]; exact BoxAt.new _ _ _
    have HE : Hid (∀ W, Below W1.heap.size W1 W → BoxAt W w.heap.size [.int .i64 10, .int .i64 o, .int .i64 n, .string s, .slice a args.length cap] ∧ Below w.heap.size w W) := Lib.hid fun W hW => ⟨hbx1.below hW hbx1.1, bt hb1 hW⟩
    have HW1 := Lib.hid hW1
    clear hW1 hb1 hbx1
    go_enter Tryz.func43, Tryz.ntmps43
    go_upto_region 1 with fail
    rw [HW1.out]
    obtain ⟨hq, hqt⟩ := HE.out W1 (Below.refl _ _)
    have y0 := hq.2 0 (by simp); have y1 := hq.2 1 (by simp); have y2 := hq.2 2 (by simp); have y3 := hq.2 3 (by simp); have y4 := hq.2 4 (by simp); simp only [cqs, cqz] at y0 y1 y2 y3 y4
    go_wp2_with (go_at_call 89; (with_reducible refine (HC.out _ hqt).mono ?_); rintro e w1 ⟨rfl, hb⟩)
    go_ret
    exact ⟨rfl, bt hqt hb⟩
  · have e1 : prE 11 o n s (Ex.prs args) = (⟨#[114, 97, 110, 100, 111, 109]⟩ : ByteArray) ++ ⟨#[40]⟩ ++ sepB ⟨#[44, 32]⟩ ((Ex.prs args).map Prod.snd) ++ ⟨#[41]⟩ := rfl
    rw [e1] at hsz ⊢
    obtain ⟨xs, hxs⟩ : ∃ xs, (Ex.prs args).map Prod.snd = xs := ⟨_, rfl⟩
    have hxl : xs.length = args.length := by rw [← hxs, Ex.prs_eq]; simp
    have hxi : ∀ i (hi : i < args.length), xs[i]'(by rw [hxl]; exact hi) = args[i].pr := fun i hi => by
      have h1 : xs[i]? = some args[i].pr := by rw [← hxs, Ex.prs_eq, List.getElem?_map, List.getElem?_map, List.getElem?_eq_getElem hi]; rfl
      rw [List.getElem?_eq_getElem (by rw [hxl]; exact hi)] at h1
      exact Option.some.inj h1
    rw [hxs] at hsz ⊢
    have hz := hsz
    simp only [ByteArray.size_append] at hz
    have hcall : ∀ W, Below w.heap.size w W → Calls Tryz.prog 89 #[.agg #[.int .i64 11, .int .i64 o, .int .i64 n, .string s, .slice a args.length cap]] W (Gives W (.string ((⟨#[114, 97, 110, 100, 111, 109]⟩ : ByteArray) ++ ⟨#[40]⟩ ++ sepB ⟨#[44, 32]⟩ xs ++ ⟨#[41]⟩))) := fun W hW =>
      called11_calls o n s a args.length cap xs _ W hs64 (Lib.hid hxl) (by omega) (Lib.hid rfl) hsz fun W2 hW2 i hi => by
        have h := hpart W2 (bt hW hW2) i 1 hi (by rw [← hxi i hi]; exact Nat.le_trans (sepB_mem ⟨#[44, 32]⟩ xs i (by rw [hxl]; exact hi)) (by omega))
        rw [pt_one hi (hsa _ (List.getElem_mem hi)).2 (hsa _ (List.getElem_mem hi)).1] at h
        rw [hxi i hi]
        exact h
    obtain ⟨r, hr⟩ : ∃ r, (⟨#[114, 97, 110, 100, 111, 109]⟩ : ByteArray) ++ ⟨#[40]⟩ ++ sepB ⟨#[44, 32]⟩ xs ++ ⟨#[41]⟩ = r := ⟨_, rfl⟩
    simp only [hr] at hcall hsz ⊢
    have HC := Lib.hid hcall
    clear e1 hpart hsa hsh hnm h1n h2t hF hz hxi hxl hxs hr hcall
    obtain ⟨W1, hW1⟩ : ∃ W1, w.alloc (.cells #[.int .i64 11, .int .i64 o, .int .i64 n, .string s, .slice a args.length cap] 73) = W1 := ⟨_, rfl⟩
    have hb1 : Below w.heap.size w W1 := by rw [← hW1]; exact (Below.refl _ _).alloc (Nat.le_refl _) _
    have hbx1 : BoxAt W1 w.heap.size [.int .i64 11, .int .i64 o, .int .i64 n, .string s, .slice a args.length cap] := by rw [← hW1]; exact BoxAt.new _ _ _
    have HE : Hid (∀ W, Below W1.heap.size W1 W → BoxAt W w.heap.size [.int .i64 11, .int .i64 o, .int .i64 n, .string s, .slice a args.length cap] ∧ Below w.heap.size w W) := Lib.hid fun W hW => ⟨hbx1.below hW hbx1.1, bt hb1 hW⟩
    have HW1 := Lib.hid hW1
    clear hW1 hb1 hbx1
    go_enter Tryz.func43, Tryz.ntmps43
    go_upto_region 1 with fail
    rw [HW1.out]
    obtain ⟨hq, hqt⟩ := HE.out W1 (Below.refl _ _)
    have y0 := hq.2 0 (by simp); have y1 := hq.2 1 (by simp); have y2 := hq.2 2 (by simp); have y3 := hq.2 3 (by simp); have y4 := hq.2 4 (by simp); simp only [cqs, cqz] at y0 y1 y2 y3 y4
    go_wp2_with (go_at_call 89; (with_reducible refine (HC.out _ hqt).mono ?_); rintro e w1 ⟨rfl, hb⟩)
    go_ret
    exact ⟨rfl, bt hqt hb⟩
  · have e1 : prE 12 o n s (Ex.prs args) = selfB o := rfl
    rw [e1] at hsz ⊢
    have ho := hsh.2.2.2.2.2.2.2.2 rfl
    have hcall := fun W => called12_calls o n s a args.length cap W ho.1 ho.2
    obtain ⟨r, hr⟩ : ∃ r, selfB o = r := ⟨_, rfl⟩
    simp only [hr] at hcall hsz ⊢
    have HC := Lib.hid hcall
    clear e1 hpart hsa hsh hnm h1n h2t hF hr hcall
    obtain ⟨W1, hW1⟩ : ∃ W1, w.alloc (.cells #[.int .i64 12, .int .i64 o, .int .i64 n, .string s, .slice a args.length cap] 73) = W1 := ⟨_, rfl⟩
    have hb1 : Below w.heap.size w W1 := by rw [← hW1]; exact (Below.refl _ _).alloc (Nat.le_refl _) _
    have hbx1 : BoxAt W1 w.heap.size [.int .i64 12, .int .i64 o, .int .i64 n, .string s, .slice a args.length cap] := by rw [← hW1]; exact BoxAt.new _ _ _
    have HE : Hid (∀ W, Below W1.heap.size W1 W → BoxAt W w.heap.size [.int .i64 12, .int .i64 o, .int .i64 n, .string s, .slice a args.length cap] ∧ Below w.heap.size w W) := Lib.hid fun W hW => ⟨hbx1.below hW hbx1.1, bt hb1 hW⟩
    have HW1 := Lib.hid hW1
    clear hW1 hb1 hbx1
    go_enter Tryz.func43, Tryz.ntmps43
    go_upto_region 1 with fail
    rw [HW1.out]
    obtain ⟨hq, hqt⟩ := HE.out W1 (Below.refl _ _)
    have y0 := hq.2 0 (by simp); have y1 := hq.2 1 (by simp); have y2 := hq.2 2 (by simp); have y3 := hq.2 3 (by simp); have y4 := hq.2 4 (by simp); simp only [cqs, cqz] at y0 y1 y2 y3 y4
    go_wp2_with (go_at_call 89; (with_reducible refine (HC.out _).mono ?_); rintro e w1 ⟨rfl, hb⟩)
    go_ret
    exact ⟨rfl, bt hqt hb⟩
  · have e1 : prE 13 o n s (Ex.prs args) = (⟨#[116, 105, 116, 108, 101]⟩ : ByteArray) ++ ⟨#[40]⟩ ++ sepB ⟨#[44, 32]⟩ ((Ex.prs args).map Prod.snd) ++ ⟨#[41]⟩ := rfl
    rw [e1] at hsz ⊢
    obtain ⟨xs, hxs⟩ : ∃ xs, (Ex.prs args).map Prod.snd = xs := ⟨_, rfl⟩
    have hxl : xs.length = args.length := by rw [← hxs, Ex.prs_eq]; simp
    have hxi : ∀ i (hi : i < args.length), xs[i]'(by rw [hxl]; exact hi) = args[i].pr := fun i hi => by
      have h1 : xs[i]? = some args[i].pr := by rw [← hxs, Ex.prs_eq, List.getElem?_map, List.getElem?_map, List.getElem?_eq_getElem hi]; rfl
      rw [List.getElem?_eq_getElem (by rw [hxl]; exact hi)] at h1
      exact Option.some.inj h1
    rw [hxs] at hsz ⊢
    have hz := hsz
    simp only [ByteArray.size_append] at hz
    have hcall : ∀ W, Below w.heap.size w W → Calls Tryz.prog 89 #[.agg #[.int .i64 13, .int .i64 o, .int .i64 n, .string s, .slice a args.length cap]] W (Gives W (.string ((⟨#[116, 105, 116, 108, 101]⟩ : ByteArray) ++ ⟨#[40]⟩ ++ sepB ⟨#[44, 32]⟩ xs ++ ⟨#[41]⟩))) := fun W hW =>
      called13_calls o n s a args.length cap xs _ W hs64 (Lib.hid hxl) (by omega) (Lib.hid rfl) hsz fun W2 hW2 i hi => by
        have h := hpart W2 (bt hW hW2) i 1 hi (by rw [← hxi i hi]; exact Nat.le_trans (sepB_mem ⟨#[44, 32]⟩ xs i (by rw [hxl]; exact hi)) (by omega))
        rw [pt_one hi (hsa _ (List.getElem_mem hi)).2 (hsa _ (List.getElem_mem hi)).1] at h
        rw [hxi i hi]
        exact h
    obtain ⟨r, hr⟩ : ∃ r, (⟨#[116, 105, 116, 108, 101]⟩ : ByteArray) ++ ⟨#[40]⟩ ++ sepB ⟨#[44, 32]⟩ xs ++ ⟨#[41]⟩ = r := ⟨_, rfl⟩
    simp only [hr] at hcall hsz ⊢
    have HC := Lib.hid hcall
    clear e1 hpart hsa hsh hnm h1n h2t hF hz hxi hxl hxs hr hcall
    obtain ⟨W1, hW1⟩ : ∃ W1, w.alloc (.cells #[.int .i64 13, .int .i64 o, .int .i64 n, .string s, .slice a args.length cap] 73) = W1 := ⟨_, rfl⟩
    have hb1 : Below w.heap.size w W1 := by rw [← hW1]; exact (Below.refl _ _).alloc (Nat.le_refl _) _
    have hbx1 : BoxAt W1 w.heap.size [.int .i64 13, .int .i64 o, .int .i64 n, .string s, .slice a args.length cap] := by rw [← hW1]; exact BoxAt.new _ _ _
    have HE : Hid (∀ W, Below W1.heap.size W1 W → BoxAt W w.heap.size [.int .i64 13, .int .i64 o, .int .i64 n, .string s, .slice a args.length cap] ∧ Below w.heap.size w W) := Lib.hid fun W hW => ⟨hbx1.below hW hbx1.1, bt hb1 hW⟩
    have HW1 := Lib.hid hW1
    clear hW1 hb1 hbx1
    go_enter Tryz.func43, Tryz.ntmps43
    go_upto_region 1 with fail
    rw [HW1.out]
    obtain ⟨hq, hqt⟩ := HE.out W1 (Below.refl _ _)
    have y0 := hq.2 0 (by simp); have y1 := hq.2 1 (by simp); have y2 := hq.2 2 (by simp); have y3 := hq.2 3 (by simp); have y4 := hq.2 4 (by simp); simp only [cqs, cqz] at y0 y1 y2 y3 y4
    go_wp2_with (go_at_call 89; (with_reducible refine (HC.out _ hqt).mono ?_); rintro e w1 ⟨rfl, hb⟩)
    go_ret
    exact ⟨rfl, bt hqt hb⟩
end Go.Proofs.YtnbfadgclffgkaaGreatDoor
