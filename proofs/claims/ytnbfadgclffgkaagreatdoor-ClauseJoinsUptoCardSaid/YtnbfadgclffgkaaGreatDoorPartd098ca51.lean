/- The walks of clause.tabs and of the reference's tabs. -/
import Derived.Test.YtnbfadgclffgkaaGreatDoorPart68e43f7d
import Derived.Test.YtnbfadgclffgkaaGreatDoorPrR
namespace Go.Proofs.YtnbfadgclffgkaaGreatDoor
open Go.RowKit Go.Sort
theorem repeat_tab (n : Nat) : (⟨(Lib.repeatL [9] n).toArray⟩ : ByteArray) = tabsB n := by
  have h : Lib.repeatL [9] n = List.replicate n 9 := by
    induction n with
    | zero => rfl
    | succ n ih => simp [Lib.repeatL, ih, List.replicate_succ]
  apply ByteArray.ext
  apply Array.toList_inj.1
  rw [tabsB_repeat, h]
def clip (D : Int) : Nat := (max 0 (min D 64)).toNat
theorem clip_cast (D : Int) : (clip D : Int) = max 0 (min D 64) := by unfold clip; omega
theorem clip_le (D : Int) : clip D ≤ 64 := by unfold clip; omega
theorem clip_nat {d : Nat} (h : d ≤ 64) : clip (d : Int) = d := by unfold clip; omega
theorem clip_dn (d : Nat) : clip ((d : Int) + 1) = dn d := by unfold clip dn; omega
set_option maxRecDepth 100000 in
set_option maxHeartbeats 4000000 in
theorem tabsT_calls (D : Int) (w : World) : Calls Tryz.prog 21 #[.int .i64 D] w (Gives w (.string (tabsB (clip D)))) := by
  have hr := fun W => Tryz.strings_Repeat ⟨#[9]⟩ (clip D) W (by have := clip_le D; omega) (by have := clip_le D; show 1 * clip D ≤ _; omega)
  have e : ∀ (W : World), (⟨(Lib.repeatL (⟨#[9]⟩ : ByteArray).data.toList (clip D)).toArray⟩ : ByteArray) = tabsB (clip D) := fun _ => repeat_tab _
  simp only [e w, clip_cast] at hr
  have HR := Lib.hid hr
  obtain ⟨r, hr2⟩ : ∃ r, tabsB (clip D) = r := ⟨_, rfl⟩
  rw [hr2] at HR ⊢
  clear hr e hr2
  go_enter Tryz.func21, Tryz.ntmps21
  go_wp2_with (go_at_call 41; (with_reducible refine (HR.out _).mono ?_); rintro e w1 ⟨rfl, hb⟩)
  go_ret
  exact ⟨rfl, hb⟩
set_option maxRecDepth 100000 in
set_option maxHeartbeats 4000000 in
theorem tabsR_calls (d : Nat) (hd : d ≤ 64) (w : World) : Calls Tryz.prog 23 #[.int .i64 d] w (Gives w (.string (tabsB d))) := by
  go_enter Tryz.func23, Tryz.ntmps23
  go_wp2
  go_loopw [3, 4] (fun v i wr => ∃ k : Nat, k ≤ d ∧ i = .int .i64 k ∧ Hid (∃ A, v = .string A ∧ A = tabsB k) ∧ Below w.heap.size w wr) (fun _ i _ => d - (intOf i).toNat)
  case atStart => exact ⟨0, Nat.zero_le _, rfl, Lib.hid ⟨_, rfl, rfl⟩, Below.refl _ _⟩
  case round =>
    obtain ⟨k, hk, rfl, hA0, hB⟩ := hrel
    obtain ⟨A, rfl, hA⟩ := hA0.out
    have hz : A.size ≤ 64 := by rw [hA, tabsB_size]; omega
    have HA := Lib.hid hA
    have HB := Lib.hid hB
    clear hA hA0 hB
    by_cases hlt : k < d
    · have h1 : (k : Int) < (d : Int) := by omega
      have h2 : (k : Int) < 64 := by omega
      have HN : Hid (A ++ ⟨#[9]⟩ = tabsB (k + 1)) := Lib.hid (by rw [HA.out]; rfl)
      clear HA
      go_wp2_with fail
      go_roundw
      case rel => exact ⟨k + 1, by omega, by go_num, Lib.hid ⟨_, rfl, HN.out⟩, HB.out⟩
      case measure => simp [intOf]; omega
    · have h1 : ¬ (k : Int) < (d : Int) := by omega
      have hkd : k = d := by omega
      have hfin : Hid (A = tabsB d) := Lib.hid (by rw [HA.out, hkd])
      clear HA hkd
      go_wp2_with fail
      go_ret
      exact ⟨ret_str hfin.out, HB.out⟩
end Go.Proofs.YtnbfadgclffgkaaGreatDoor
/- The walks of clause.Print and clause.PrintBlock, by what clause.line makes of each statement. -/
namespace Go.Proofs.YtnbfadgclffgkaaGreatDoor
open Go.RowKit Go.Sort
def LnTC (s : St) : Prop := ∀ (F : Nat → Prop) (w : World) (cs : List Value) (d : Nat), Inn F w → TB w → StOk s → d ≤ 64 → (s.ln d).size ≤ 1000000000000 → RdSt F w s cs →
    Calls Tryz.prog 22 #[.agg cs.toArray, .int .i64 d] w (Gives w (.string (s.ln d)))
def BlkTC (l : List St) : Prop := ∀ (F : Nat → Prop) (w : World) (v : Value) (D : Int), Inn F w → TB w → (∀ s ∈ l, StOk s) → (St.blk l (clip D)).size ≤ 1000000000000 → Sts F w l v →
    Calls Tryz.prog 10 #[v, .int .i64 D] w (Gives w (.string (St.blk l (clip D))))
set_option maxRecDepth 100000 in
set_option maxHeartbeats 8000000 in
theorem stPrintT_calls (s : St) (h : LnTC s) (F : Nat → Prop) (w : World) (cs : List Value) (D : Int) (hF : Inn F w) (ht : TB w) (hs : StOk s) (hsz : (s.pr (clip D)).size ≤ 1000000000000) (hr : RdSt F w s cs) :
    Calls Tryz.prog 8 #[.agg cs.toArray, .int .i64 D] w (Gives w (.string (s.pr (clip D)))) := by
  obtain ⟨k, n, nm, a, m, cap, a2, m2, cap2, a3, m3, cap3, rfl⟩ := hr.shape
  have hd := clip_le D
  have hcast := clip_cast D
  obtain ⟨d, hdd⟩ : ∃ d, clip D = d := ⟨_, rfl⟩
  rw [hdd] at hsz hcast hd ⊢
  have hz := hsz
  unfold St.pr at hz
  simp only [ByteArray.size_append] at hz
  have hT := fun W => tabsT_calls (d : Int) W
  simp only [clip_nat hd] at hT
  have hL := fun (W : World) (hW : Below w.heap.size w W) => h F W _ d (hF.below hW) (ht.below hW (Nat.le_refl _)) hs hd (by omega) (hr.below hF hW (Nat.le_refl _))
  have hrr : tabsB d ++ s.ln d ++ ⟨#[10]⟩ = s.pr d := rfl
  obtain ⟨x, hx⟩ : ∃ x, tabsB d = x := ⟨_, rfl⟩
  obtain ⟨y, hy⟩ : ∃ y, s.ln d = y := ⟨_, rfl⟩
  obtain ⟨r, hr2⟩ : ∃ r, s.pr d = r := ⟨_, rfl⟩
  have hz2 : x.size + y.size + 1 ≤ 1000000000000 := by rw [← hx, ← hy]; exact hz
  simp only [hx] at hT; simp only [hy] at hL
  rw [hx, hy, hr2] at hrr
  rw [hr2]
  have HR := Lib.hid hrr; have HT := Lib.hid hT; have HL := Lib.hid hL; have HC := Lib.hid hcast
  obtain ⟨W1, hW1⟩ : ∃ W1, w.alloc (.cells #[.int .i64 k, .int .i64 n, .string nm, .slice a m cap, .slice a2 m2 cap2, .slice a3 m3 cap3] 27) = W1 := ⟨_, rfl⟩
  have hb1 : Below w.heap.size w W1 := by rw [← hW1]; exact (Below.refl _ _).alloc (Nat.le_refl _) _
  have hbx1 : BoxAt W1 w.heap.size [.int .i64 k, .int .i64 n, .string nm, .slice a m cap, .slice a2 m2 cap2, .slice a3 m3 cap3] := by rw [← hW1]; exact BoxAt.new _ _ _
  have HW1 := Lib.hid hW1
  clear hW1 hT hL hrr hcast h hs hr hF ht hsz hz hx hy hr2 hdd
  go_enter Tryz.func8, Tryz.ntmps8
  go_upto_region 1 with fail
  rw [HW1.out]
  go_cut [1] (fun v wc => v = .int .i64 (d : Int) ∧ W1 = wc)
  case first =>
    go_wp2_with fail
    go_meet
    case rel => exact ⟨by rw [HC.out], rfl⟩
  case rest =>
    obtain ⟨rfl, rfl⟩ := hcut
    have y0 := hbx1.2 0 (by simp); have y1 := hbx1.2 1 (by simp); have y2 := hbx1.2 2 (by simp); have y3 := hbx1.2 3 (by simp); have y4 := hbx1.2 4 (by simp); have y5 := hbx1.2 5 (by simp); simp only [cqs, cqz] at y0 y1 y2 y3 y4 y5
    go_upto_region 2 with fail
    have K {f : FuncId} {args : Array Value} {u : Value} (h : ∀ w', Below W1.heap.size W1 w' → Calls Tryz.prog f args w' (Gives w' u)) (p : Regrown) : Calls Tryz.prog f args (grow (redrawn W1 p.d) p.os) fun e w3 => e = .returned u ∧ ∃ p : Regrown, w3 = grow (redrawn W1 p.d) p.os := regrown_gives (fun w3 hb => h w3 hb) p
    have G1 := Lib.hid (K (fun W _ => HT.out W))
    have G2 := Lib.hid (K (fun W hW => HL.out W (bt hb1 hW)))
    clear K hbx1
    have c0 := fun d os => cell_regrown y0 d os; have c1 := fun d os => cell_regrown y1 d os; have c2 := fun d os => cell_regrown y2 d os; have c3 := fun d os => cell_regrown y3 d os; have c4 := fun d os => cell_regrown y4 d os; have c5 := fun d os => cell_regrown y5 d os
    have HB1 := Lib.hid hb1
    refine wp_region_quiet_below (by kernel_rfl) (by kernel_rfl) ?_
    repeat (go_big_quiet_step (first | with_reducible exact G1.out _ | with_reducible exact G2.out _))
    refine wpQuiet_nil ?_
    intro w6 hw6
    have hb6 := below_of_regrown hw6
    clear hw6
    go_wp2_with fail
    go_ret
    exact ⟨ret_str HR.out, bt HB1.out hb6⟩
set_option maxRecDepth 100000 in
set_option maxHeartbeats 8000000 in
theorem blkT_calls (l : List St) (h : ∀ s ∈ l, LnTC s) : BlkTC l := by
  intro F w v D hF ht hs hsz hr
  obtain ⟨a, cap, rfl⟩ := hr.shape
  obtain ⟨-, hlc, hc, ha⟩ := hr.opn
  have hd := clip_le D
  have hcast := clip_cast D
  obtain ⟨d, hdd⟩ : ∃ d, clip D = d := ⟨_, rfl⟩
  rw [hdd] at hsz hcast hd ⊢
  obtain ⟨ls, hls⟩ : ∃ ls, St.lns l (dn d) = ls := ⟨_, rfl⟩
  have hll : ls.length = l.length := by rw [← hls, St.lns_eq]; simp
  have hli : ∀ i (hi : i < l.length), l[i].ln (dn d) = ls[i]'(by rw [hll]; exact hi) := fun i hi => by
    have h1 : ls[i]? = some (l[i].ln (dn d)) := by rw [← hls, St.lns_eq, List.getElem?_map, List.getElem?_eq_getElem hi]; rfl
    rw [List.getElem?_eq_getElem (by rw [hll]; exact hi)] at h1
    exact (Option.some.inj h1).symm
  have hblk : St.blk l d = ⟨#[123, 10]⟩ ++ linesB (dn d) ls ++ tabsB d ++ ⟨#[125]⟩ := by rw [← hls]; rfl
  obtain ⟨r, hr2⟩ : ∃ r, St.blk l d = r := ⟨_, rfl⟩
  rw [hr2] at hblk hsz ⊢
  have hz := hsz
  rw [hblk] at hz
  simp only [ByteArray.size_append, tabsB_size] at hz
  have HT := Lib.hid (fun W => by have h := tabsT_calls (d : Int) W; rw [clip_nat hd] at h; exact h)
  have HSZ : Hid (∀ k : Nat, (⟨#[123, 10]⟩ ++ linesB (dn d) (ls.take k) : ByteArray).size ≤ 1000000000000) := Lib.hid fun k => by
    have h2 := linesB_take_le (dn d) ls k
    simp only [ByteArray.size_append]
    have e : (⟨#[123, 10]⟩ : ByteArray).size = 2 := rfl
    have e2 : (⟨#[125]⟩ : ByteArray).size = 1 := rfl
    omega
  have HP : Hid (∀ (i : Nat) (hi : i < l.length) (cs : List Value), RdSt F w l[i] cs → ∀ W, Below w.heap.size w W → Calls Tryz.prog 8 #[.agg cs.toArray, .int .i64 ((d : Int) + 1)] W (Gives W (.string (tabsB (dn d) ++ ls[i]'(by rw [hll]; exact hi) ++ ⟨#[10]⟩)))) := Lib.hid fun i hi cs hcs W hW => by
    have hstep : linesB (dn d) (ls.take (i + 1)) = linesB (dn d) (ls.take i) ++ (tabsB (dn d) ++ ls[i]'(by rw [hll]; exact hi) ++ ⟨#[10]⟩) := by
      rw [List.take_succ_eq_append_getElem (by rw [hll]; exact hi), linesB_snoc]
    have h3 := HSZ.out (i + 1)
    rw [hstep] at h3
    have h4 := stPrintT_calls l[i] (h _ (List.getElem_mem hi)) F W cs ((d : Int) + 1) (hF.below hW) (ht.below hW (Nat.le_refl _)) (hs _ (List.getElem_mem hi)) (by
      rw [clip_dn]; unfold St.pr; rw [hli i hi]; simp only [ByteArray.size_append] at h3 ⊢; omega) (hcs.below hF hW (Nat.le_refl _))
    rw [clip_dn] at h4
    unfold St.pr at h4
    rw [hli i hi] at h4
    exact h4
  have HXL := Lib.hid hll
  have HA := Lib.hid ha
  have HF := Lib.hid hF
  have HR := Lib.hid hblk
  have HC := Lib.hid hcast
  have hd1 : (d : Int) ≤ 64 := by omega
  clear hr ha hF ht hs hsz hblk hcast h hli hls hz hr2 hdd hd
  go_enter Tryz.func10, Tryz.ntmps10
  go_upto_region 1 with fail
  go_cut [1] (fun v wc => v = .int .i64 (d : Int) ∧ w = wc)
  case first =>
    go_wp2_with fail
    go_meet
    case rel => exact ⟨by rw [HC.out], rfl⟩
  case rest =>
    obtain ⟨rfl, rfl⟩ := hcut
    go_wp2_with fail
    go_loopw [5, 13] (fun v i wr => ∃ k : Nat, k ≤ l.length ∧ i = .int .i64 k ∧ Hid (∃ A, v = .string A ∧ A = ⟨#[123, 10]⟩ ++ linesB (dn d) (ls.take k)) ∧ Below w.heap.size w wr) (fun _ i _ => l.length - (intOf i).toNat)
    case atStart => exact ⟨0, Nat.zero_le _, rfl, Lib.hid ⟨_, rfl, by simp [linesB, app_emp]⟩, Below.refl _ _⟩
    case round =>
      obtain ⟨k, hk, rfl, hA0, hB⟩ := hrel
      obtain ⟨A, rfl, hA⟩ := hA0.out
      have HAA := Lib.hid hA
      have HB := Lib.hid hB
      clear hA hA0
      by_cases hlt : k < l.length
      · have hlk : k < ls.length := by rw [HXL.out]; exact hlt
        have hstep : linesB (dn d) (ls.take (k + 1)) = linesB (dn d) (ls.take k) ++ (tabsB (dn d) ++ ls[k] ++ ⟨#[10]⟩) := by
          rw [List.take_succ_eq_append_getElem hlk, linesB_snoc]
        have hnx : A ++ (tabsB (dn d) ++ ls[k] ++ ⟨#[10]⟩) = ⟨#[123, 10]⟩ ++ linesB (dn d) (ls.take (k + 1)) := by rw [HAA.out, hstep, ByteArray.append_assoc]
        have hz := HSZ.out (k + 1)
        rw [← hnx] at hz
        obtain ⟨b, off, rfl, hFb, hel⟩ := HA.out (by omega)
        obtain ⟨kd, n0, s0, a0, m0, cap0, a2, m2, cap2, a3, m3, cap3, hx0, g0, g1, g2, g3, g4, g5⟩ := hel wr (hB.block b (HF.out b hFb)) k hlt
        have hc := HP.out k hlt _ hx0
        obtain ⟨x, hx⟩ : ∃ x, tabsB (dn d) ++ ls[k] ++ ⟨#[10]⟩ = x := ⟨_, rfl⟩
        rw [hx] at hz hnx
        simp only [hx] at hc
        simp only [ByteArray.size_append] at hz
        have hbw : b < wr.heap.size := Nat.lt_of_lt_of_le (HF.out b hFb) hB.size
        obtain ⟨wq, hwq⟩ : ∃ wq, wr.alloc (.cells #[.int .i64 kd, .int .i64 n0, .string s0, .slice a0 m0 cap0, .slice a2 m2 cap2, .slice a3 m3 cap3] 27) = wq := ⟨_, rfl⟩
        have hbq : Below w.heap.size w wq := by rw [← hwq]; exact alloc_on hB _
        have HC2 := Lib.hid (hc wq hbq)
        have HN := Lib.hid hnx
        have HBQ := Lib.hid hbq
        have HWQ := Lib.hid hwq
        clear hc hel hx0 hx hFb hnx hstep HAA hB hwq hbq hlk
        go_wp2_with (go_at_call 8; rw [HWQ.out]; (with_reducible refine (HC2.out).mono ?_); rintro e w1 ⟨rfl, hb⟩)
        go_roundw
        case rel => exact ⟨k + 1, by omega, by go_num, Lib.hid ⟨_, rfl, HN.out⟩, bt HBQ.out hb⟩
        case measure => simp [intOf]; omega
      · have hAz : A.size ≤ 1000000000000 := by rw [HAA.out]; exact HSZ.out k
        have hkl : ls.take k = ls := List.take_of_length_le (by rw [HXL.out]; omega)
        obtain ⟨x, hx⟩ : ∃ x, tabsB d = x := ⟨_, rfl⟩
        have hxz : x.size ≤ 64 := by rw [← hx, tabsB_size]; omega
        have hfin : Hid (A ++ x ++ ⟨#[125]⟩ = r) := Lib.hid (by rw [HAA.out, hkl, ← hx, HR.out])
        have HT2 : Hid (∀ W, Calls Tryz.prog 21 #[.int .i64 (d : Int)] W (Gives W (.string x))) := Lib.hid fun W => by rw [← hx]; exact HT.out W
        clear HAA hkl hx hB
        go_wp2_with (go_at_call 21; (with_reducible refine (HT2.out _).mono ?_); rintro e w1 ⟨rfl, hb⟩)
        go_ret
        exact ⟨ret_str hfin.out, bt HB.out hb⟩
end Go.Proofs.YtnbfadgclffgkaaGreatDoor
/- The walks of clause.line's own arg, of clause.say and of clause.simple. -/
namespace Go.Proofs.YtnbfadgclffgkaaGreatDoor
open Go.RowKit Go.Sort
set_option maxRecDepth 100000 in
set_option maxHeartbeats 4000000 in
theorem lineArg_calls (args : List Ex) (i : Nat) (hi : i < args.length) (F : Nat → Prop) (w W : World) (bx : Nat) (a : Option Addr) (cap : Nat) (hF : Inn F w) (ht : TB w) (hx : Exs F w args (.slice a args.length cap)) (hs : Src args[i]) (hsz : args[i].pr.size ≤ 1000000000000)
    (hW : Below w.heap.size w W) (hb : W.cell? ⟨bx, 3, none⟩ = some (.slice a args.length cap)) : Calls Tryz.prog 42 #[.int .i64 i, .pointer (some ⟨bx, 0, none⟩)] W (Gives W (.string args[i].pr)) := by
  obtain ⟨-, hl, hc, ha⟩ := hx.opn
  obtain ⟨b, off, rfl, hFb, hel⟩ := ha (by omega)
  obtain ⟨kd, o', n', s', a', m', cap', hxi, g0, g1, g2, g3, g4⟩ := hel W (hW.block b (hF b hFb)) i hi
  have HP : Hid (Calls Tryz.prog 43 #[.agg #[.int .i64 kd, .int .i64 o', .int .i64 n', .string s', .slice a' m' cap']] W (Gives W (.string args[i].pr))) :=
    Lib.hid (printT_calls args[i] F W _ (hF.below hW) (ht.below hW (Nat.le_refl _)) hs hsz (hxi.below hF hW (Nat.le_refl _)))
  have hil : (i : Int) < (args.length : Int) := by omega
  obtain ⟨L, hL⟩ : ∃ L, args.length = L := ⟨_, rfl⟩
  obtain ⟨x, hxx⟩ : ∃ x, args[i].pr = x := ⟨_, rfl⟩
  have hi' : i < L := by omega
  rw [hL] at hil hl hb
  rw [hxx] at HP ⊢
  clear hx ha hel hxi hs ht hsz hF hFb hW hxx hL hi
  go_enter Tryz.func42, Tryz.ntmps42
  go_wp2_with (go_at_call 43; (with_reducible refine (HP.out).mono ?_); rintro e w1 ⟨rfl, hb⟩)
  go_ret
  exact ⟨rfl, hb⟩
theorem pr_title {o n : Int} {s : ByteArray} {x : Ex} : (Ex.mk 13 o n s [x]).pr = ⟨#[116, 105, 116, 108, 101, 40]⟩ ++ x.pr ++ ⟨#[41]⟩ := by
  show (⟨#[116, 105, 116, 108, 101]⟩ : ByteArray) ++ ⟨#[40]⟩ ++ sepB ⟨#[44, 32]⟩ ((Ex.prs [x]).map Prod.snd) ++ ⟨#[41]⟩ = _
  simp only [Ex.prs, List.map_cons, List.map_nil, sepB, sepTail, app_emp]
  rfl
set_option maxRecDepth 100000 in
set_option maxHeartbeats 4000000 in
theorem sayT_calls (e : Ex) (F : Nat → Prop) (w : World) (cs : List Value) (hF : Inn F w) (ht : TB w) (hs : Src e) (hsz : e.pr.size ≤ 1000000000000) (hr : RdEx F w e cs) :
    Calls Tryz.prog 44 #[.agg cs.toArray] w (Gives w (.string e.pr)) := by
  have hP := fun (W : World) (hW : Below w.heap.size w W) => printT_calls e F W _ (hF.below hW) (ht.below hW (Nat.le_refl _)) hs hsz (hr.below hF hW (Nat.le_refl _))
  obtain ⟨k, o, n, s, args⟩ := e
  obtain ⟨k', o', n', s', a, m, cap, rfl⟩ := hr.shape
  obtain ⟨rfl, rfl, rfl, rfl, -, -, -, -, hx⟩ := hr.parts
  obtain ⟨rfl, hl, hc, ha⟩ := hx.opn
  simp only [Ex.kind, Ex.op, Ex.num, Ex.name, Ex.args] at *
  obtain ⟨W1, hW1⟩ : ∃ W1, w.alloc (.cells #[.int .i64 k, .int .i64 o, .int .i64 n, .string s, .slice a args.length cap] 73) = W1 := ⟨_, rfl⟩
  have hb1 : Below w.heap.size w W1 := by rw [← hW1]; exact (Below.refl _ _).alloc (Nat.le_refl _) _
  have hbx1 : BoxAt W1 w.heap.size [.int .i64 k, .int .i64 o, .int .i64 n, .string s, .slice a args.length cap] := by rw [← hW1]; exact BoxAt.new _ _ _
  have y0 := hbx1.2 0 (by simp); have y1 := hbx1.2 1 (by simp); have y2 := hbx1.2 2 (by simp); have y3 := hbx1.2 3 (by simp); have y4 := hbx1.2 4 (by simp); simp only [cqs, cqz] at y0 y1 y2 y3 y4
  have HW1 := Lib.hid hW1
  have HB1 := Lib.hid hb1
  by_cases h2 : k = 2
  · subst h2
    have hq2 : s.size ≤ 1000000000 := by have := (hs.2.2.2.1 rfl).1; omega
    have HN := Lib.hid (fun W => quoteT_calls s W hq2)
    have e1 : (Ex.mk 2 o n s args).pr = quoteB s := rfl
    rw [e1]
    clear hP hr hx ha hs hsz hF ht hW1 hb1 hbx1 e1 hq2
    go_enter Tryz.func44, Tryz.ntmps44
    go_upto_region 1 with fail
    rw [HW1.out]
    go_wp2_with (go_at_call 85; (with_reducible refine (HN.out _).mono ?_); rintro e w1 ⟨rfl, hb⟩)
    go_ret
    exact ⟨rfl, bt HB1.out hb⟩
  · by_cases h13 : k = 13
    · subst h13
      have hL : args.length = 1 := by
        have h5 := hs.2.1.2.2.2.2.1; have h6 := hs.2.1.2.2.2.2.2.1
        simp [hasOf] at h5 h6; omega
      obtain ⟨x, rfl⟩ : ∃ x, args = [x] := by
        match args, hL with
        | [x], _ => exact ⟨x, rfl⟩
      have hsx := ((srcs_iff [x]).1 hs.2.2.2.2.2 x (by simp)).2
      rw [pr_title] at hsz hP ⊢
      have hz := hsz
      simp only [ByteArray.size_append] at hz
      obtain ⟨b, off, rfl, hFb, hel⟩ := ha (by simp)
      obtain ⟨kd, o0, n0, s0, a0, m0, cap0, hx0, g0, g1, g2, g3, g4⟩ := hel W1 (hb1.block b (hF b hFb)) 0 (by simp)
      simp only [Nat.zero_mul, Nat.add_zero] at g0 g1 g2 g3 g4
      have HP : Hid (Calls Tryz.prog 43 #[.agg #[.int .i64 kd, .int .i64 o0, .int .i64 n0, .string s0, .slice a0 m0 cap0]] W1 (Gives W1 (.string x.pr))) :=
        Lib.hid (printT_calls x F W1 _ (hF.below hb1) (ht.below hb1 (Nat.le_refl _)) hsx (by omega) (hx0.below hF hb1 (Nat.le_refl _)))
      obtain ⟨z, hzz⟩ : ∃ z, x.pr = z := ⟨_, rfl⟩
      rw [hzz] at HP hz ⊢
      clear hP hr hx ha hs hsz hF ht hW1 hb1 hbx1 hL hsx hel hx0 hFb hzz
      go_enter Tryz.func44, Tryz.ntmps44
      go_upto_region 1 with fail
      have HW2 := HW1.out
      simp only [List.length_cons, List.length_nil, Nat.zero_add] at HW2 y4 ⊢
      rw [HW2]
      clear HW2
      go_wp2_with (go_at_call 43; (with_reducible refine (HP.out).mono ?_); rintro e w1 ⟨rfl, hb⟩)
      go_ret
      exact ⟨rfl, bt HB1.out hb⟩
    · have HP := Lib.hid hP
      obtain ⟨r, hr2⟩ : ∃ r, (Ex.mk k o n s args).pr = r := ⟨_, rfl⟩
      rw [hr2] at HP ⊢
      clear hP hr hx ha hs hsz hF ht hW1 hb1 hbx1 hr2
      go_enter Tryz.func44, Tryz.ntmps44
      go_upto_region 1 with fail
      rw [HW1.out]
      go_wp2_with (go_at_call 43; (with_reducible refine (HP.out _ HB1.out).mono ?_); rintro e w1 ⟨rfl, hb⟩)
      go_ret
      exact ⟨rfl, bt HB1.out hb⟩
end Go.Proofs.YtnbfadgclffgkaaGreatDoor
/- The walk of clause.simple. Printed by gen-st1.py. -/
namespace Go.Proofs.YtnbfadgclffgkaaGreatDoor
open Go.RowKit Go.Sort
set_option maxRecDepth 100000 in
set_option maxHeartbeats 4000000 in
theorem simple13_calls (n : Int) (s : ByteArray) (a : Option Addr) (cap : Nat) (a2 : Option Addr) (m2 cap2 : Nat) (a3 : Option Addr) (m3 cap3 : Nat) (w : World) :
    Calls Tryz.prog 46 #[.agg #[.int .i64 13, .int .i64 n, .string s, .slice a 0 cap, .slice a2 m2 cap2, .slice a3 m3 cap3]] w (Gives w (.string (⟨#[115, 116, 111, 112]⟩ ++ ⟨#[59]⟩))) := by
  go_enter Tryz.func46, Tryz.ntmps46
  go_wp2
  go_ret
  exact ⟨rfl, (Below.refl _ w).alloc (Nat.le_refl _) _⟩
set_option maxRecDepth 100000 in
set_option maxHeartbeats 4000000 in
theorem simple14_calls (n : Int) (s : ByteArray) (a : Option Addr) (cap : Nat) (a2 : Option Addr) (m2 cap2 : Nat) (a3 : Option Addr) (m3 cap3 : Nat) (w : World) :
    Calls Tryz.prog 46 #[.agg #[.int .i64 14, .int .i64 n, .string s, .slice a 0 cap, .slice a2 m2 cap2, .slice a3 m3 cap3]] w (Gives w (.string (⟨#[119, 105, 110]⟩ ++ ⟨#[59]⟩))) := by
  go_enter Tryz.func46, Tryz.ntmps46
  go_wp2
  go_ret
  exact ⟨rfl, (Below.refl _ w).alloc (Nat.le_refl _) _⟩
set_option maxRecDepth 100000 in
set_option maxHeartbeats 4000000 in
theorem simple15_calls (n : Int) (s : ByteArray) (a : Option Addr) (cap : Nat) (a2 : Option Addr) (m2 cap2 : Nat) (a3 : Option Addr) (m3 cap3 : Nat) (w : World) :
    Calls Tryz.prog 46 #[.agg #[.int .i64 15, .int .i64 n, .string s, .slice a 0 cap, .slice a2 m2 cap2, .slice a3 m3 cap3]] w (Gives w (.string (⟨#[108, 111, 115, 101]⟩ ++ ⟨#[59]⟩))) := by
  go_enter Tryz.func46, Tryz.ntmps46
  go_wp2
  go_ret
  exact ⟨rfl, (Below.refl _ w).alloc (Nat.le_refl _) _⟩
set_option maxRecDepth 100000 in
set_option maxHeartbeats 4000000 in
theorem simple21_calls (n : Int) (s : ByteArray) (a : Option Addr) (cap : Nat) (a2 : Option Addr) (m2 cap2 : Nat) (a3 : Option Addr) (m3 cap3 : Nat) (w : World) :
    Calls Tryz.prog 46 #[.agg #[.int .i64 21, .int .i64 n, .string s, .slice a 0 cap, .slice a2 m2 cap2, .slice a3 m3 cap3]] w (Gives w (.string (⟨#[108, 111, 111, 107]⟩ ++ ⟨#[59]⟩))) := by
  go_enter Tryz.func46, Tryz.ntmps46
  go_wp2
  go_ret
  exact ⟨rfl, (Below.refl _ w).alloc (Nat.le_refl _) _⟩
set_option maxRecDepth 100000 in
set_option maxHeartbeats 4000000 in
theorem simple8_calls (n : Int) (s : ByteArray) (x : Ex) (a : Option Addr) (cap : Nat) (a2 : Option Addr) (m2 cap2 : Nat) (a3 : Option Addr) (m3 cap3 : Nat) (F : Nat → Prop) (w : World) (hF : Inn F w) (ht : TB w) (hx : Exs F w [x] (.slice a 1 cap)) (hs : Src x) (hsz : x.pr.size ≤ 1000000000000) :
    Calls Tryz.prog 46 #[.agg #[.int .i64 8, .int .i64 n, .string s, .slice a 1 cap, .slice a2 m2 cap2, .slice a3 m3 cap3]] w (Gives w (.string (⟨#[114, 101, 109, 111, 118, 101]⟩ ++ ⟨#[32]⟩ ++ x.pr ++ ⟨#[59]⟩))) := by
  obtain ⟨-, hl, hc, ha⟩ := hx.opn
  obtain ⟨b, off, rfl, hFb, hel⟩ := ha (by simp)
  obtain ⟨W1, hW1⟩ : ∃ W1, w.alloc (.cells #[.int .i64 8, .int .i64 n, .string s, .slice (some ⟨b, off, none⟩) 1 cap, .slice a2 m2 cap2, .slice a3 m3 cap3] 27) = W1 := ⟨_, rfl⟩
  have hb1 : Below w.heap.size w W1 := by rw [← hW1]; exact (Below.refl _ _).alloc (Nat.le_refl _) _
  have hbx1 : BoxAt W1 w.heap.size [.int .i64 8, .int .i64 n, .string s, .slice (some ⟨b, off, none⟩) 1 cap, .slice a2 m2 cap2, .slice a3 m3 cap3] := by rw [← hW1]; exact BoxAt.new _ _ _
  have y0 := hbx1.2 0 (by simp); have y3 := hbx1.2 3 (by simp); simp only [cqs, cqz] at y0 y3
  obtain ⟨kd, o0, n0, s0, a0, m0, cap0, hx0, g0, g1, g2, g3, g4⟩ := hel W1 (hb1.block b (hF b hFb)) 0 (by simp)
  simp only [Nat.zero_mul, Nat.add_zero] at g0 g1 g2 g3 g4
  have HP : Hid (Calls Tryz.prog 43 #[.agg #[.int .i64 kd, .int .i64 o0, .int .i64 n0, .string s0, .slice a0 m0 cap0]] W1 (Gives W1 (.string x.pr))) :=
    Lib.hid (printT_calls x F W1 _ (hF.below hb1) (ht.below hb1 (Nat.le_refl _)) hs hsz (hx0.below hF hb1 (Nat.le_refl _)))
  obtain ⟨z, hzz⟩ : ∃ z, x.pr = z := ⟨_, rfl⟩
  rw [hzz] at HP hsz ⊢
  have HW1 := Lib.hid hW1
  have HB1 := Lib.hid hb1
  clear hx ha hs hF ht hW1 hb1 hbx1 hel hx0 hFb hzz hl hc
  go_enter Tryz.func46, Tryz.ntmps46
  go_upto_region 2 with fail
  rw [HW1.out]
  go_wp2_with (go_at_call 43; (with_reducible refine (HP.out).mono ?_); rintro e w1 ⟨rfl, hb⟩)
  go_ret
  exact ⟨rfl, bt HB1.out hb⟩
set_option maxRecDepth 100000 in
set_option maxHeartbeats 4000000 in
theorem simple12_calls (n : Int) (s : ByteArray) (x : Ex) (a : Option Addr) (cap : Nat) (a2 : Option Addr) (m2 cap2 : Nat) (a3 : Option Addr) (m3 cap3 : Nat) (F : Nat → Prop) (w : World) (hF : Inn F w) (ht : TB w) (hx : Exs F w [x] (.slice a 1 cap)) (hs : Src x) (hsz : x.pr.size ≤ 1000000000000) :
    Calls Tryz.prog 46 #[.agg #[.int .i64 12, .int .i64 n, .string s, .slice a 1 cap, .slice a2 m2 cap2, .slice a3 m3 cap3]] w (Gives w (.string (⟨#[114, 101, 116, 117, 114, 110]⟩ ++ ⟨#[32]⟩ ++ x.pr ++ ⟨#[59]⟩))) := by
  obtain ⟨-, hl, hc, ha⟩ := hx.opn
  obtain ⟨b, off, rfl, hFb, hel⟩ := ha (by simp)
  obtain ⟨W1, hW1⟩ : ∃ W1, w.alloc (.cells #[.int .i64 12, .int .i64 n, .string s, .slice (some ⟨b, off, none⟩) 1 cap, .slice a2 m2 cap2, .slice a3 m3 cap3] 27) = W1 := ⟨_, rfl⟩
  have hb1 : Below w.heap.size w W1 := by rw [← hW1]; exact (Below.refl _ _).alloc (Nat.le_refl _) _
  have hbx1 : BoxAt W1 w.heap.size [.int .i64 12, .int .i64 n, .string s, .slice (some ⟨b, off, none⟩) 1 cap, .slice a2 m2 cap2, .slice a3 m3 cap3] := by rw [← hW1]; exact BoxAt.new _ _ _
  have y0 := hbx1.2 0 (by simp); have y3 := hbx1.2 3 (by simp); simp only [cqs, cqz] at y0 y3
  obtain ⟨kd, o0, n0, s0, a0, m0, cap0, hx0, g0, g1, g2, g3, g4⟩ := hel W1 (hb1.block b (hF b hFb)) 0 (by simp)
  simp only [Nat.zero_mul, Nat.add_zero] at g0 g1 g2 g3 g4
  have HP : Hid (Calls Tryz.prog 43 #[.agg #[.int .i64 kd, .int .i64 o0, .int .i64 n0, .string s0, .slice a0 m0 cap0]] W1 (Gives W1 (.string x.pr))) :=
    Lib.hid (printT_calls x F W1 _ (hF.below hb1) (ht.below hb1 (Nat.le_refl _)) hs hsz (hx0.below hF hb1 (Nat.le_refl _)))
  obtain ⟨z, hzz⟩ : ∃ z, x.pr = z := ⟨_, rfl⟩
  rw [hzz] at HP hsz ⊢
  have HW1 := Lib.hid hW1
  have HB1 := Lib.hid hb1
  clear hx ha hs hF ht hW1 hb1 hbx1 hel hx0 hFb hzz hl hc
  go_enter Tryz.func46, Tryz.ntmps46
  go_upto_region 2 with fail
  rw [HW1.out]
  go_wp2_with (go_at_call 43; (with_reducible refine (HP.out).mono ?_); rintro e w1 ⟨rfl, hb⟩)
  go_ret
  exact ⟨rfl, bt HB1.out hb⟩
set_option maxRecDepth 100000 in
set_option maxHeartbeats 4000000 in
theorem simple16_calls (n : Int) (s : ByteArray) (x : Ex) (a : Option Addr) (cap : Nat) (a2 : Option Addr) (m2 cap2 : Nat) (a3 : Option Addr) (m3 cap3 : Nat) (F : Nat → Prop) (w : World) (hF : Inn F w) (ht : TB w) (hx : Exs F w [x] (.slice a 1 cap)) (hs : Src x) (hsz : x.pr.size ≤ 1000000000000) :
    Calls Tryz.prog 46 #[.agg #[.int .i64 16, .int .i64 n, .string s, .slice a 1 cap, .slice a2 m2 cap2, .slice a3 m3 cap3]] w (Gives w (.string (⟨#[97, 119, 97, 114, 100]⟩ ++ ⟨#[32]⟩ ++ x.pr ++ ⟨#[59]⟩))) := by
  obtain ⟨-, hl, hc, ha⟩ := hx.opn
  obtain ⟨b, off, rfl, hFb, hel⟩ := ha (by simp)
  obtain ⟨W1, hW1⟩ : ∃ W1, w.alloc (.cells #[.int .i64 16, .int .i64 n, .string s, .slice (some ⟨b, off, none⟩) 1 cap, .slice a2 m2 cap2, .slice a3 m3 cap3] 27) = W1 := ⟨_, rfl⟩
  have hb1 : Below w.heap.size w W1 := by rw [← hW1]; exact (Below.refl _ _).alloc (Nat.le_refl _) _
  have hbx1 : BoxAt W1 w.heap.size [.int .i64 16, .int .i64 n, .string s, .slice (some ⟨b, off, none⟩) 1 cap, .slice a2 m2 cap2, .slice a3 m3 cap3] := by rw [← hW1]; exact BoxAt.new _ _ _
  have y0 := hbx1.2 0 (by simp); have y3 := hbx1.2 3 (by simp); simp only [cqs, cqz] at y0 y3
  obtain ⟨kd, o0, n0, s0, a0, m0, cap0, hx0, g0, g1, g2, g3, g4⟩ := hel W1 (hb1.block b (hF b hFb)) 0 (by simp)
  simp only [Nat.zero_mul, Nat.add_zero] at g0 g1 g2 g3 g4
  have HP : Hid (Calls Tryz.prog 43 #[.agg #[.int .i64 kd, .int .i64 o0, .int .i64 n0, .string s0, .slice a0 m0 cap0]] W1 (Gives W1 (.string x.pr))) :=
    Lib.hid (printT_calls x F W1 _ (hF.below hb1) (ht.below hb1 (Nat.le_refl _)) hs hsz (hx0.below hF hb1 (Nat.le_refl _)))
  obtain ⟨z, hzz⟩ : ∃ z, x.pr = z := ⟨_, rfl⟩
  rw [hzz] at HP hsz ⊢
  have HW1 := Lib.hid hW1
  have HB1 := Lib.hid hb1
  clear hx ha hs hF ht hW1 hb1 hbx1 hel hx0 hFb hzz hl hc
  go_enter Tryz.func46, Tryz.ntmps46
  go_upto_region 2 with fail
  rw [HW1.out]
  go_wp2_with (go_at_call 43; (with_reducible refine (HP.out).mono ?_); rintro e w1 ⟨rfl, hb⟩)
  go_ret
  exact ⟨rfl, bt HB1.out hb⟩
set_option maxRecDepth 100000 in
set_option maxHeartbeats 4000000 in
theorem simple20_calls (n : Int) (s : ByteArray) (x : Ex) (a : Option Addr) (cap : Nat) (a2 : Option Addr) (m2 cap2 : Nat) (a3 : Option Addr) (m3 cap3 : Nat) (F : Nat → Prop) (w : World) (hF : Inn F w) (ht : TB w) (hx : Exs F w [x] (.slice a 1 cap)) (hs : Src x) (hsz : x.pr.size ≤ 1000000000000) :
    Calls Tryz.prog 46 #[.agg #[.int .i64 20, .int .i64 n, .string s, .slice a 1 cap, .slice a2 m2 cap2, .slice a3 m3 cap3]] w (Gives w (.string (⟨#[116, 114, 97, 118, 101, 108]⟩ ++ ⟨#[32]⟩ ++ x.pr ++ ⟨#[59]⟩))) := by
  obtain ⟨-, hl, hc, ha⟩ := hx.opn
  obtain ⟨b, off, rfl, hFb, hel⟩ := ha (by simp)
  obtain ⟨W1, hW1⟩ : ∃ W1, w.alloc (.cells #[.int .i64 20, .int .i64 n, .string s, .slice (some ⟨b, off, none⟩) 1 cap, .slice a2 m2 cap2, .slice a3 m3 cap3] 27) = W1 := ⟨_, rfl⟩
  have hb1 : Below w.heap.size w W1 := by rw [← hW1]; exact (Below.refl _ _).alloc (Nat.le_refl _) _
  have hbx1 : BoxAt W1 w.heap.size [.int .i64 20, .int .i64 n, .string s, .slice (some ⟨b, off, none⟩) 1 cap, .slice a2 m2 cap2, .slice a3 m3 cap3] := by rw [← hW1]; exact BoxAt.new _ _ _
  have y0 := hbx1.2 0 (by simp); have y3 := hbx1.2 3 (by simp); simp only [cqs, cqz] at y0 y3
  obtain ⟨kd, o0, n0, s0, a0, m0, cap0, hx0, g0, g1, g2, g3, g4⟩ := hel W1 (hb1.block b (hF b hFb)) 0 (by simp)
  simp only [Nat.zero_mul, Nat.add_zero] at g0 g1 g2 g3 g4
  have HP : Hid (Calls Tryz.prog 43 #[.agg #[.int .i64 kd, .int .i64 o0, .int .i64 n0, .string s0, .slice a0 m0 cap0]] W1 (Gives W1 (.string x.pr))) :=
    Lib.hid (printT_calls x F W1 _ (hF.below hb1) (ht.below hb1 (Nat.le_refl _)) hs hsz (hx0.below hF hb1 (Nat.le_refl _)))
  obtain ⟨z, hzz⟩ : ∃ z, x.pr = z := ⟨_, rfl⟩
  rw [hzz] at HP hsz ⊢
  have HW1 := Lib.hid hW1
  have HB1 := Lib.hid hb1
  clear hx ha hs hF ht hW1 hb1 hbx1 hel hx0 hFb hzz hl hc
  go_enter Tryz.func46, Tryz.ntmps46
  go_upto_region 2 with fail
  rw [HW1.out]
  go_wp2_with (go_at_call 43; (with_reducible refine (HP.out).mono ?_); rintro e w1 ⟨rfl, hb⟩)
  go_ret
  exact ⟨rfl, bt HB1.out hb⟩
set_option maxRecDepth 100000 in
set_option maxHeartbeats 4000000 in
theorem simple22_calls (n : Int) (s : ByteArray) (x : Ex) (a : Option Addr) (cap : Nat) (a2 : Option Addr) (m2 cap2 : Nat) (a3 : Option Addr) (m3 cap3 : Nat) (F : Nat → Prop) (w : World) (hF : Inn F w) (ht : TB w) (hx : Exs F w [x] (.slice a 1 cap)) (hs : Src x) (hsz : x.pr.size ≤ 1000000000000) :
    Calls Tryz.prog 46 #[.agg #[.int .i64 22, .int .i64 n, .string s, .slice a 1 cap, .slice a2 m2 cap2, .slice a3 m3 cap3]] w (Gives w (.string (⟨#[108, 105, 115, 116]⟩ ++ ⟨#[32]⟩ ++ x.pr ++ ⟨#[59]⟩))) := by
  obtain ⟨-, hl, hc, ha⟩ := hx.opn
  obtain ⟨b, off, rfl, hFb, hel⟩ := ha (by simp)
  obtain ⟨W1, hW1⟩ : ∃ W1, w.alloc (.cells #[.int .i64 22, .int .i64 n, .string s, .slice (some ⟨b, off, none⟩) 1 cap, .slice a2 m2 cap2, .slice a3 m3 cap3] 27) = W1 := ⟨_, rfl⟩
  have hb1 : Below w.heap.size w W1 := by rw [← hW1]; exact (Below.refl _ _).alloc (Nat.le_refl _) _
  have hbx1 : BoxAt W1 w.heap.size [.int .i64 22, .int .i64 n, .string s, .slice (some ⟨b, off, none⟩) 1 cap, .slice a2 m2 cap2, .slice a3 m3 cap3] := by rw [← hW1]; exact BoxAt.new _ _ _
  have y0 := hbx1.2 0 (by simp); have y3 := hbx1.2 3 (by simp); simp only [cqs, cqz] at y0 y3
  obtain ⟨kd, o0, n0, s0, a0, m0, cap0, hx0, g0, g1, g2, g3, g4⟩ := hel W1 (hb1.block b (hF b hFb)) 0 (by simp)
  simp only [Nat.zero_mul, Nat.add_zero] at g0 g1 g2 g3 g4
  have HP : Hid (Calls Tryz.prog 43 #[.agg #[.int .i64 kd, .int .i64 o0, .int .i64 n0, .string s0, .slice a0 m0 cap0]] W1 (Gives W1 (.string x.pr))) :=
    Lib.hid (printT_calls x F W1 _ (hF.below hb1) (ht.below hb1 (Nat.le_refl _)) hs hsz (hx0.below hF hb1 (Nat.le_refl _)))
  obtain ⟨z, hzz⟩ : ∃ z, x.pr = z := ⟨_, rfl⟩
  rw [hzz] at HP hsz ⊢
  have HW1 := Lib.hid hW1
  have HB1 := Lib.hid hb1
  clear hx ha hs hF ht hW1 hb1 hbx1 hel hx0 hFb hzz hl hc
  go_enter Tryz.func46, Tryz.ntmps46
  go_upto_region 2 with fail
  rw [HW1.out]
  go_wp2_with (go_at_call 43; (with_reducible refine (HP.out).mono ?_); rintro e w1 ⟨rfl, hb⟩)
  go_ret
  exact ⟨rfl, bt HB1.out hb⟩
end Go.Proofs.YtnbfadgclffgkaaGreatDoor
