/- The walks of clewref16: Has, fresh, own. Printed by gen-kinds23.py. -/
import Derived.Test.YtblhpiebheommaaGreatKinds22
import Derived.Test.YtblhpiebheommaaGreatKindsChecksPart13
import Derived.BigRegion
namespace Go.Proofs.YtblhpiebheommaaGreat
open Go.RowKit

set_option maxRecDepth 20000 in
set_option maxHeartbeats 1000000 in
theorem hasR_calls (l : List ByteArray) (n : ByteArray) (F : Nat → Prop) (w : World) (lv : Value) (hr : RdStrs F w l lv) :
    Calls Tryz.prog 58 #[lv, .string n] w (Same0 w (.bool (dec (n ∈ l)))) := by
  obtain ⟨a, cap, rfl, hl, hc, ha⟩ := hr.opn
  unfold maxLen at hc
  have hyes : Hid (n ∈ l → dec (n ∈ l) = true) := fun h => dec_true h
  have hno : Hid ((∀ i (hi : i < l.length), l[i] ≠ n) → dec (n ∈ l) = false) := fun h => by
    refine dec_false fun hm => ?_
    obtain ⟨i, hi, e⟩ := List.getElem_of_mem hm
    exact h i hi e
  generalize dec (n ∈ l) = r at hyes hno ⊢
  clear hr
  go_enter Tryz.func58, Tryz.ntmps58
  go_wp2
  go_loop [5] (fun i => ∃ (k : Nat), k ≤ l.length ∧ i = .int .i64 k ∧ Hid (∀ i (hi : i < l.length), i < k → l[i] ≠ n)) (fun i => l.length - (intOf i).toNat)
  case atStart => exact ⟨0, Nat.zero_le _, rfl, fun i _ h => absurd h (by omega)⟩
  case round =>
    obtain ⟨k, hk, rfl, hq⟩ := hrel
    by_cases hlt : k < l.length
    · obtain ⟨b, off, rfl, hFb, hel⟩ := ha (by omega)
      obtain ⟨cs, ⟨h1, rfl⟩, -, hcell⟩ := hel w rfl k hlt
      have g0 := hcell 0 _ rfl
      simp only [Nat.add_zero, Nat.mul_one] at g0
      obtain ⟨x, hx⟩ : ∃ x, x = l[k] := ⟨_, rfl⟩
      rw [← hx] at g0
      have hm : x ∈ l := by rw [hx]; exact List.getElem_mem hlt
      have HX := Lib.hid hx
      clear hel hcell ha h1 hx
      by_cases he : x = n
      · subst he
        have hfin := Lib.hid (hyes.out hm)
        clear hq hyes hno hm
        go_wp2
        go_ret
        exact ⟨ret_bool hfin.out.symm, rfl⟩
      · have e1 : (x.toList == n.toList) = false := by rw [beq_str]; simpa using he
        have hnx : Hid (∀ i (hi : i < l.length), i < k + 1 → l[i] ≠ n) := fun i hi h => by
          by_cases hik : i = k
          · subst hik; rw [← HX.out]; exact he
          · exact hq.out i hi (by omega)
        clear hq hyes hno he hm
        go_wp2
        go_round
        case rel => exact ⟨k + 1, by omega, by go_num, hnx⟩
        case measure => simp [intOf]; omega
    · have hfin := Lib.hid (hno.out (fun i hi => hq.out i hi (by omega)))
      clear hq hyes hno
      go_wp2
      go_ret
      exact ⟨ret_bool hfin.out.symm, rfl⟩

set_option maxRecDepth 100000 in
set_option maxHeartbeats 2000000 in
theorem freshR_calls (t : List NameD) (l : List ByteArray) (n : ByteArray) (m : Int) (F : Nat → Prop) (w : World) (tv lv : Value) (hF : Inn F w) (hr : RdNames F w t tv) (hl : RdStrs F w l lv) :
    Calls Tryz.prog 79 #[tv, lv, .string n, .int .i64 m] w (Gives w (wrongR (freshW t l n m))) := by
  have hB : Below w.heap.size w (w.alloc (.cells #[.int .i64 0, .string ⟨#[]⟩] 79)) := (Below.refl w.heap.size w).alloc (Nat.le_refl _) _
  have HB := Lib.hid hB
  have hfd := findR_calls t n F (w.alloc (.cells #[.int .i64 0, .string ⟨#[]⟩] 79)) tv (hF.alloc _) (hr.alloc hF _)
  have HW := Lib.hid (wr_new w 0 ⟨#[]⟩ 79)
  have HFI := Lib.hid fineR_calls
  have HH := Lib.hid (fun W (hW : Below w.heap.size w W) => hasR_calls l n F W lv (RdL.below hl hF hW (Nat.le_refl _)))
  obtain ⟨a0, c0, rfl⟩ := hr.shape
  obtain ⟨la, lc, rfl⟩ := hl.shape
  have hfin : Hid (∀ w1 w2, Below (w.alloc (.cells #[.int .i64 0, .string ⟨#[]⟩] 79)).heap.size (w.alloc (.cells #[.int .i64 0, .string ⟨#[]⟩] 79)) w1 → Below w1.heap.size w1 w2 → WrAt w2 w.heap.size (0, ⟨#[]⟩) ∧ Below w.heap.size w w2) := fun w1 w2 hb hb2 => ⟨wr_kept HW.out (by simp) (hb.trans (hb2.mono hb.size)), HB.out.trans ((hb.trans (hb2.mono hb.size)).mono HB.out.size)⟩
  unfold freshW
  clear hr hl hB
  cases ho : findN t n with
  | some x =>
    rw [ho] at hfd
    have HD := Lib.hid (found_some hfd)
    rw [if_pos (by simp)]
    obtain ⟨xn, xk, xm⟩ := x
    simp only at HD
    clear ho hfd
    go_enter Tryz.func79, Tryz.ntmps79
    go_wp2_with (go_at_call 17; refine HD.out.mono ?_; rintro e w1 ⟨rfl, hb⟩; obtain ⟨⟨⟨f0, f1⟩, z0, z1⟩, hbw⟩ := hfin.out w1 (w1.alloc (.cells #[.string xn, .int .i64 xk, .int .i64 xm] 63)) hb ((Below.refl _ _).alloc (Nat.le_refl _) _))
    exact bodyPost_ret (v := wrongR (10, n)) (by simp [results, Tryz.results79, go_sem, wrongR, f0, f1]; try rfl) rfl ⟨rfl, two_set hbw (Nat.le_refl _)⟩
  | none =>
    rw [ho] at hfd
    have HD := Lib.hid (found_none hfd)
    clear ho hfd
    by_cases hm : n ∈ l
    · rw [dec_true hm] at HH
      rw [if_pos (by simp [dec_true hm])]
      clear hm
      go_enter Tryz.func79, Tryz.ntmps79
      go_wp2_with (first | (go_at_call 17; refine HD.out.mono ?_; rintro e w1 ⟨rfl, hb⟩; obtain ⟨⟨⟨f0, f1⟩, z0, z1⟩, hbw⟩ := hfin.out w1 (w1.alloc (.cells #[.string ⟨#[]⟩, .int .i64 0, .int .i64 0] 63)) hb ((Below.refl _ _).alloc (Nat.le_refl _) _)) | (go_at_call 58; refine (HH.out _ hbw).mono ?_; rintro e w2 ⟨rfl, rfl⟩))
      exact bodyPost_ret (v := wrongR (10, n)) (by simp [results, Tryz.results79, go_sem, wrongR, f0, f1]; try rfl) rfl ⟨rfl, two_set hbw (Nat.le_refl _)⟩
    · rw [dec_false hm] at HH
      rw [if_neg (by simp [dec_false hm])]
      clear hm
      by_cases hbig : 16 < m
      · rw [if_pos hbig]
        have hbg : decide (m > 16) = true := by simpa using hbig
        clear hbig
        go_enter Tryz.func79, Tryz.ntmps79
        go_wp2_with (first | (go_at_call 17; refine HD.out.mono ?_; rintro e w1 ⟨rfl, hb⟩; obtain ⟨⟨⟨f0, f1⟩, z0, z1⟩, hbw⟩ := hfin.out w1 (w1.alloc (.cells #[.string ⟨#[]⟩, .int .i64 0, .int .i64 0] 63)) hb ((Below.refl _ _).alloc (Nat.le_refl _) _)) | (go_at_call 58; refine (HH.out _ hbw).mono ?_; rintro e w2 ⟨rfl, rfl⟩))
        exact bodyPost_ret (v := wrongR (7, n)) (by simp [results, Tryz.results79, go_sem, wrongR, f0, f1]; try rfl) rfl ⟨rfl, two_set hbw (Nat.le_refl _)⟩
      · rw [if_neg hbig]
        have hbg : decide (m > 16) = false := by simpa using hbig
        clear hbig
        go_enter Tryz.func79, Tryz.ntmps79
        go_wp2_with (first | (go_at_call 17; refine HD.out.mono ?_; rintro e w1 ⟨rfl, hb⟩; obtain ⟨⟨⟨f0, f1⟩, z0, z1⟩, hbw⟩ := hfin.out w1 (w1.alloc (.cells #[.string ⟨#[]⟩, .int .i64 0, .int .i64 0] 63)) hb ((Below.refl _ _).alloc (Nat.le_refl _) _)) | (go_at_call 58; refine (HH.out _ hbw).mono ?_; rintro e w2 ⟨rfl, rfl⟩; clear f0 f1 z0 z1) | (go_at_call 52; refine (HFI.out _).mono ?_; rintro e w3 ⟨rfl, hb3⟩; obtain ⟨⟨⟨f0, f1⟩, z0, z1⟩, hbw3⟩ := hfin.out _ w3 (hb.alloc hb.size (.cells #[.string ⟨#[]⟩, .int .i64 0, .int .i64 0] 63)) hb3; unfold wrongR fineW))
        exact bodyPost_ret (v := wrongR fineW) (by simp [results, Tryz.results79, go_sem, wrongR, fineW, f0, f1]; try rfl) rfl ⟨rfl, two_set hbw3 (Nat.le_refl _)⟩

set_option maxRecDepth 100000 in
set_option maxHeartbeats 4000000 in
theorem ownR_calls (t : List NameD) (l : List ByteArray) (s : St) (wh m : Int) (F : Nat → Prop) (w : World) (tv lv : Value) (cs : List Value) (hF : Inn F w) (h0 : RdNames F w t tv) (h2 : RdStrs F w l lv) (hr : RdSt F w s cs) (hm0 : -1000000 ≤ m) (hm1 : m ≤ 1000000) :
    Calls Tryz.prog 59 #[tv, lv, .int .i64 wh, .int .i64 m, .agg cs.toArray] w (Gives w (wrongR (ownSt t l wh m s.kind s.name))) := by
  obtain ⟨k, n', s', a', m', cap', a2, m2, cap2, a3, m3, cap3, rfl⟩ := hr.shape
  have hk : s.kind = k := hr.parts.1
  have hn : s.name = s' := hr.parts.2.2.1
  rw [hk, hn]
  clear hk hn hr
  have HO := fun kd (W : World) (hW : Below w.heap.size w W) => ofW_calls t kd s' F W tv (hF.below hW) (RdL.below h0 hF hW (Nat.le_refl _))
  have HE := fun (W : World) (hW : Below w.heap.size w W) => eitherR_calls t l false s' F W tv lv (hF.below hW) (RdL.below h0 hF hW (Nat.le_refl _)) (RdL.below h2 hF hW (Nat.le_refl _))
  have HM := fun mm (W : World) (hW : Below w.heap.size w W) => freshR_calls t l s' mm F W tv lv (hF.below hW) (RdL.below h0 hF hW (Nat.le_refl _)) (RdL.below h2 hF hW (Nat.le_refl _))
  have HFI := fun W (_ : Below w.heap.size w W) => fineR_calls W
  obtain ⟨a0, c0, rfl⟩ := h0.shape
  obtain ⟨la, lc, rfl⟩ := h2.shape
  have HB := fun o o2 => ((Below.refl w.heap.size w).alloc (Nat.le_refl _) o).alloc (by simp) o2
  have hwr := wr_new (w.alloc (.cells #[.int .i64 k, .int .i64 n', .string s', .slice a' m' cap', .slice a2 m2 cap2, .slice a3 m3 cap3] 60)) 0 ⟨#[]⟩ 79
  rw [show (w.alloc (.cells #[.int .i64 k, .int .i64 n', .string s', .slice a' m' cap', .slice a2 m2 cap2, .slice a3 m3 cap3] 60)).heap.size = w.heap.size + 1 by simp] at hwr
  have HWR := Lib.hid hwr
  have hfin : Hid (∀ w2, Below ((w.alloc (.cells #[.int .i64 k, .int .i64 n', .string s', .slice a' m' cap', .slice a2 m2 cap2, .slice a3 m3 cap3] 60)).alloc (.cells #[.int .i64 0, .string ⟨#[]⟩] 79)).heap.size ((w.alloc (.cells #[.int .i64 k, .int .i64 n', .string s', .slice a' m' cap', .slice a2 m2 cap2, .slice a3 m3 cap3] 60)).alloc (.cells #[.int .i64 0, .string ⟨#[]⟩] 79)) w2 → WrAt w2 (w.heap.size + 1) (0, ⟨#[]⟩) ∧ Below w.heap.size w w2) := fun w2 hb => ⟨wr_kept HWR.out (by simp) hb, (HB (.cells #[.int .i64 k, .int .i64 n', .string s', .slice a' m' cap', .slice a2 m2 cap2, .slice a3 m3 cap3] 60) (.cells #[.int .i64 0, .string ⟨#[]⟩] 79)).trans (hb.mono (HB (.cells #[.int .i64 k, .int .i64 n', .string s', .slice a' m' cap', .slice a2 m2 cap2, .slice a3 m3 cap3] 60) (.cells #[.int .i64 0, .string ⟨#[]⟩] 79)).size)⟩
  clear h0 h2 hwr
  by_cases h2 : k = 2
  · subst h2
    have hc := HM (m + 1) ((w.alloc (.cells #[.int .i64 2, .int .i64 n', .string s', .slice a' m' cap', .slice a2 m2 cap2, .slice a3 m3 cap3] 60)).alloc (.cells #[.int .i64 0, .string ⟨#[]⟩] 79)) (HB _ _)
    have hv : Hid (ownSt t l wh m 2 s' = freshW t l s' (m + 1)) := rfl
    rw [show freshW t l s' (m + 1) = freshW t l s' (m + 1) from rfl] at hc
    rw [hv.out]
    generalize freshW t l s' (m + 1) = p at hc
    have HC := Lib.hid hc
    clear hc HO HE HM HFI HB hv
    go_enter Tryz.func59, Tryz.ntmps59
    go_wp2_with (go_at_call 79; refine HC.out.mono ?_; rintro e w2 ⟨rfl, hb⟩; obtain ⟨⟨⟨f0, f1⟩, z0, z1⟩, hbw⟩ := hfin.out w2 hb; unfold wrongR)
    exact bodyPost_ret (v := wrongR p) (by simp [results, Tryz.results59, go_sem, wrongR, f0, f1]; try rfl) rfl ⟨rfl, two_set hbw (by omega)⟩
  have e2 : (k == 2) = false := by simpa using h2
  by_cases h11 : k = 11
  · subst h11
    have hc := HM (m + 2) ((w.alloc (.cells #[.int .i64 11, .int .i64 n', .string s', .slice a' m' cap', .slice a2 m2 cap2, .slice a3 m3 cap3] 60)).alloc (.cells #[.int .i64 0, .string ⟨#[]⟩] 79)) (HB _ _)
    have hv : Hid (ownSt t l wh m 11 s' = freshW t l s' (m + 2)) := rfl
    rw [show freshW t l s' (m + 2) = freshW t l s' (m + 2) from rfl] at hc
    rw [hv.out]
    generalize freshW t l s' (m + 2) = p at hc
    have HC := Lib.hid hc
    clear hc HO HE HM HFI HB hv
    go_enter Tryz.func59, Tryz.ntmps59
    go_wp2_with (go_at_call 79; refine HC.out.mono ?_; rintro e w2 ⟨rfl, hb⟩; obtain ⟨⟨⟨f0, f1⟩, z0, z1⟩, hbw⟩ := hfin.out w2 hb; unfold wrongR)
    exact bodyPost_ret (v := wrongR p) (by simp [results, Tryz.results59, go_sem, wrongR, f0, f1]; try rfl) rfl ⟨rfl, two_set hbw (by omega)⟩
  have e11 : (k == 11) = false := by simpa using h11
  by_cases h3 : k = 3
  · subst h3
    have hc := HE ((w.alloc (.cells #[.int .i64 3, .int .i64 n', .string s', .slice a' m' cap', .slice a2 m2 cap2, .slice a3 m3 cap3] 60)).alloc (.cells #[.int .i64 0, .string ⟨#[]⟩] 79)) (HB _ _)
    have hv : Hid (ownSt t l wh m 3 s' = eitherW t l [3] s') := rfl
    rw [show eitherW t l (ksOf false) s' = eitherW t l [3] s' from rfl] at hc
    rw [hv.out]
    generalize eitherW t l [3] s' = p at hc
    have HC := Lib.hid hc
    clear hc HO HE HM HFI HB hv
    go_enter Tryz.func59, Tryz.ntmps59
    go_wp2_with (go_at_call 78; refine HC.out.mono ?_; rintro e w2 ⟨rfl, hb⟩; obtain ⟨⟨⟨f0, f1⟩, z0, z1⟩, hbw⟩ := hfin.out w2 hb; unfold wrongR)
    exact bodyPost_ret (v := wrongR p) (by simp [results, Tryz.results59, go_sem, wrongR, f0, f1]; try rfl) rfl ⟨rfl, two_set hbw (by omega)⟩
  have e3 : (k == 3) = false := by simpa using h3
  by_cases h4 : k = 4
  · subst h4
    have hc := HO 2 ((w.alloc (.cells #[.int .i64 4, .int .i64 n', .string s', .slice a' m' cap', .slice a2 m2 cap2, .slice a3 m3 cap3] 60)).alloc (.cells #[.int .i64 0, .string ⟨#[]⟩] 79)) (HB _ _)
    have hv : Hid (ownSt t l wh m 4 s' = ofW t 2 s') := rfl
    rw [show ofW t 2 s' = ofW t 2 s' from rfl] at hc
    rw [hv.out]
    generalize ofW t 2 s' = p at hc
    have HC := Lib.hid hc
    clear hc HO HE HM HFI HB hv
    go_enter Tryz.func59, Tryz.ntmps59
    go_wp2_with (go_at_call 50; refine HC.out.mono ?_; rintro e w2 ⟨rfl, hb⟩; obtain ⟨⟨⟨f0, f1⟩, z0, z1⟩, hbw⟩ := hfin.out w2 hb; unfold wrongR)
    exact bodyPost_ret (v := wrongR p) (by simp [results, Tryz.results59, go_sem, wrongR, f0, f1]; try rfl) rfl ⟨rfl, two_set hbw (by omega)⟩
  have e4 : (k == 4) = false := by simpa using h4
  by_cases h5 : k = 5
  · subst h5
    have hc := HO 1 ((w.alloc (.cells #[.int .i64 5, .int .i64 n', .string s', .slice a' m' cap', .slice a2 m2 cap2, .slice a3 m3 cap3] 60)).alloc (.cells #[.int .i64 0, .string ⟨#[]⟩] 79)) (HB _ _)
    have hv : Hid (ownSt t l wh m 5 s' = ofW t 1 s') := rfl
    rw [show ofW t 1 s' = ofW t 1 s' from rfl] at hc
    rw [hv.out]
    generalize ofW t 1 s' = p at hc
    have HC := Lib.hid hc
    clear hc HO HE HM HFI HB hv
    go_enter Tryz.func59, Tryz.ntmps59
    go_wp2_with (go_at_call 50; refine HC.out.mono ?_; rintro e w2 ⟨rfl, hb⟩; obtain ⟨⟨⟨f0, f1⟩, z0, z1⟩, hbw⟩ := hfin.out w2 hb; unfold wrongR)
    exact bodyPost_ret (v := wrongR p) (by simp [results, Tryz.results59, go_sem, wrongR, f0, f1]; try rfl) rfl ⟨rfl, two_set hbw (by omega)⟩
  have e5 : (k == 5) = false := by simpa using h5
  by_cases h6 : k = 6
  · subst h6
    have hc := HO 1 ((w.alloc (.cells #[.int .i64 6, .int .i64 n', .string s', .slice a' m' cap', .slice a2 m2 cap2, .slice a3 m3 cap3] 60)).alloc (.cells #[.int .i64 0, .string ⟨#[]⟩] 79)) (HB _ _)
    have hv : Hid (ownSt t l wh m 6 s' = ofW t 1 s') := rfl
    rw [show ofW t 1 s' = ofW t 1 s' from rfl] at hc
    rw [hv.out]
    generalize ofW t 1 s' = p at hc
    have HC := Lib.hid hc
    clear hc HO HE HM HFI HB hv
    go_enter Tryz.func59, Tryz.ntmps59
    go_wp2_with (go_at_call 50; refine HC.out.mono ?_; rintro e w2 ⟨rfl, hb⟩; obtain ⟨⟨⟨f0, f1⟩, z0, z1⟩, hbw⟩ := hfin.out w2 hb; unfold wrongR)
    exact bodyPost_ret (v := wrongR p) (by simp [results, Tryz.results59, go_sem, wrongR, f0, f1]; try rfl) rfl ⟨rfl, two_set hbw (by omega)⟩
  have e6 : (k == 6) = false := by simpa using h6
  by_cases h17 : k = 17
  · subst h17
    have hc := HO 7 ((w.alloc (.cells #[.int .i64 17, .int .i64 n', .string s', .slice a' m' cap', .slice a2 m2 cap2, .slice a3 m3 cap3] 60)).alloc (.cells #[.int .i64 0, .string ⟨#[]⟩] 79)) (HB _ _)
    have hv : Hid (ownSt t l wh m 17 s' = ofW t 7 s') := rfl
    rw [show ofW t 7 s' = ofW t 7 s' from rfl] at hc
    rw [hv.out]
    generalize ofW t 7 s' = p at hc
    have HC := Lib.hid hc
    clear hc HO HE HM HFI HB hv
    go_enter Tryz.func59, Tryz.ntmps59
    go_wp2_with (go_at_call 50; refine HC.out.mono ?_; rintro e w2 ⟨rfl, hb⟩; obtain ⟨⟨⟨f0, f1⟩, z0, z1⟩, hbw⟩ := hfin.out w2 hb; unfold wrongR)
    exact bodyPost_ret (v := wrongR p) (by simp [results, Tryz.results59, go_sem, wrongR, f0, f1]; try rfl) rfl ⟨rfl, two_set hbw (by omega)⟩
  have e17 : (k == 17) = false := by simpa using h17
  by_cases h18 : k = 18
  · subst h18
    have hc := HO 7 ((w.alloc (.cells #[.int .i64 18, .int .i64 n', .string s', .slice a' m' cap', .slice a2 m2 cap2, .slice a3 m3 cap3] 60)).alloc (.cells #[.int .i64 0, .string ⟨#[]⟩] 79)) (HB _ _)
    have hv : Hid (ownSt t l wh m 18 s' = ofW t 7 s') := rfl
    rw [show ofW t 7 s' = ofW t 7 s' from rfl] at hc
    rw [hv.out]
    generalize ofW t 7 s' = p at hc
    have HC := Lib.hid hc
    clear hc HO HE HM HFI HB hv
    go_enter Tryz.func59, Tryz.ntmps59
    go_wp2_with (go_at_call 50; refine HC.out.mono ?_; rintro e w2 ⟨rfl, hb⟩; obtain ⟨⟨⟨f0, f1⟩, z0, z1⟩, hbw⟩ := hfin.out w2 hb; unfold wrongR)
    exact bodyPost_ret (v := wrongR p) (by simp [results, Tryz.results59, go_sem, wrongR, f0, f1]; try rfl) rfl ⟨rfl, two_set hbw (by omega)⟩
  have e18 : (k == 18) = false := by simpa using h18
  by_cases h13 : k = 13
  · subst h13
    by_cases hp : wh = 7
    · subst hp
      have hv : Hid (ownSt t l 7 m 13 s' = fineW) := rfl
      have HC := Lib.hid (HFI ((w.alloc (.cells #[.int .i64 13, .int .i64 n', .string s', .slice a' m' cap', .slice a2 m2 cap2, .slice a3 m3 cap3] 60)).alloc (.cells #[.int .i64 0, .string ⟨#[]⟩] 79)) (HB _ _))
      rw [hv.out]
      clear HO HE HM HFI HB hv
      go_enter Tryz.func59, Tryz.ntmps59
      go_wp2_with (go_at_call 52; refine HC.out.mono ?_; rintro e w2 ⟨rfl, hb⟩; obtain ⟨⟨⟨f0, f1⟩, z0, z1⟩, hbw⟩ := hfin.out w2 hb; unfold wrongR fineW)
      exact bodyPost_ret (v := wrongR fineW) (by simp [results, Tryz.results59, go_sem, wrongR, fineW, f0, f1]; try rfl) rfl ⟨rfl, two_set hbw (by omega)⟩
    · have hv : Hid (ownSt t l wh m 13 s' = (18, ⟨#[]⟩)) := if_neg hp
      have hpn : (wh != 7) = true := by simpa using hp
      rw [hv.out]
      obtain ⟨⟨⟨f0, f1⟩, z0, z1⟩, hbw⟩ := hfin.out _ (Below.refl _ _)
      clear HO HE HM HFI HB hv hp hbw
      go_enter Tryz.func59, Tryz.ntmps59
      go_wp2_with fail
      exact bodyPost_ret (v := wrongR (18, ⟨#[]⟩)) (by simp [results, Tryz.results59, go_sem, wrongR]; try rfl) rfl ⟨rfl, ((Below.refl w.heap.size w).alloc (Nat.le_refl _) _).alloc (by simp) _⟩
  have e13 : (k == 13) = false := by simpa using h13
  by_cases h12 : k = 12
  · subst h12
    by_cases hp : wh = 8
    · subst hp
      have hv : Hid (ownSt t l 8 m 12 s' = fineW) := rfl
      have HC := Lib.hid (HFI ((w.alloc (.cells #[.int .i64 12, .int .i64 n', .string s', .slice a' m' cap', .slice a2 m2 cap2, .slice a3 m3 cap3] 60)).alloc (.cells #[.int .i64 0, .string ⟨#[]⟩] 79)) (HB _ _))
      rw [hv.out]
      clear HO HE HM HFI HB hv
      go_enter Tryz.func59, Tryz.ntmps59
      go_wp2_with (go_at_call 52; refine HC.out.mono ?_; rintro e w2 ⟨rfl, hb⟩; obtain ⟨⟨⟨f0, f1⟩, z0, z1⟩, hbw⟩ := hfin.out w2 hb; unfold wrongR fineW)
      exact bodyPost_ret (v := wrongR fineW) (by simp [results, Tryz.results59, go_sem, wrongR, fineW, f0, f1]; try rfl) rfl ⟨rfl, two_set hbw (by omega)⟩
    · have hv : Hid (ownSt t l wh m 12 s' = (18, ⟨#[]⟩)) := if_neg hp
      have hpn : (wh != 8) = true := by simpa using hp
      rw [hv.out]
      obtain ⟨⟨⟨f0, f1⟩, z0, z1⟩, hbw⟩ := hfin.out _ (Below.refl _ _)
      clear HO HE HM HFI HB hv hp hbw
      go_enter Tryz.func59, Tryz.ntmps59
      go_wp2_with fail
      exact bodyPost_ret (v := wrongR (18, ⟨#[]⟩)) (by simp [results, Tryz.results59, go_sem, wrongR]; try rfl) rfl ⟨rfl, ((Below.refl w.heap.size w).alloc (Nat.le_refl _) _).alloc (by simp) _⟩
  have e12 : (k == 12) = false := by simpa using h12
  have hx : ownSt t l wh m k s' = fineW := by
    unfold ownSt
    rw [if_neg h2, if_neg h11, if_neg h3, if_neg h4, if_neg h5, if_neg h6, if_neg h17, if_neg h18, if_neg h13, if_neg h12]
  clear h2 h11 h3 h4 h5 h6 h17 h18 h13 h12
  have hc := HFI ((w.alloc (.cells #[.int .i64 k, .int .i64 n', .string s', .slice a' m' cap', .slice a2 m2 cap2, .slice a3 m3 cap3] 60)).alloc (.cells #[.int .i64 0, .string ⟨#[]⟩] 79)) (HB _ _)
  have hv : Hid (ownSt t l wh m k s' = fineW) := hx
  rw [show fineW = fineW from rfl] at hc
  rw [hv.out]
  generalize fineW = p at hc
  have HC := Lib.hid hc
  clear hc HO HE HM HFI HB hv
  go_enter Tryz.func59, Tryz.ntmps59
  go_wp2_with (go_at_call 52; refine HC.out.mono ?_; rintro e w2 ⟨rfl, hb⟩; obtain ⟨⟨⟨f0, f1⟩, z0, z1⟩, hbw⟩ := hfin.out w2 hb; unfold wrongR)
  exact bodyPost_ret (v := wrongR p) (by simp [results, Tryz.results59, go_sem, wrongR, f0, f1]; try rfl) rfl ⟨rfl, two_set hbw (by omega)⟩
end Go.Proofs.YtblhpiebheommaaGreat
/- The walk of clewref16.Expr. -/
namespace Go.Proofs.YtblhpiebheommaaGreat
open Go.RowKit

end Go.Proofs.YtblhpiebheommaaGreat
