/- The walks of clewref12.arg and clewref12.said. -/
import Derived.Test.YtdeecfkipknkbaaGreatDoorStL
import Derived.Test.YtdeecfkipknkbaaGreatDoorPart80d9ab5d
namespace Go.Proofs.YtdeecfkipknkbaaGreatDoor
set_option maxRecDepth 100000
set_option maxHeartbeats 4000000
open Go.RowKit Go.Sort
theorem argR_calls (s : St) (i : Nat) (hi : i < s.args.length) (F : Nat → Prop) (w : World) (cs : List Value) (hF : Inn F w) (hs : Src s.args[i]) (hk : ¬ SaidK s.args[i].kind) (hsz : s.args[i].pr.size ≤ 1000000000000) (hr : RdSt F w s cs) :
 Calls Tryz.prog 130 #[.agg cs.toArray, .int .i64 i] w (Gives w (.string s.args[i].pr)) := by
 obtain ⟨k, n, nm, a, m, cap, a2, m2, cap2, a3, m3, cap3, rfl⟩ := hr.shape
 obtain ⟨-, -, -, -, -, -, hx, -, -⟩ := hr.parts
 obtain ⟨rfl, hl, hc, ha⟩ := hx.opn
 obtain ⟨b, off, rfl, hFb, hel⟩ := ha (by omega)
 obtain ⟨L, hL⟩ : ∃ L, s.args.length = L := ⟨_, rfl⟩
 obtain ⟨W1, hW1⟩ : ∃ W1, w.alloc (.cells #[.int .i64 k, .int .i64 n, .string nm, .slice (some ⟨b, off, none⟩) s.args.length cap, .slice a2 m2 cap2, .slice a3 m3 cap3] 37) = W1 := ⟨_, rfl⟩
 have hb1 := ba' hW1
 have hbx1 := bn' hW1
 obtain ⟨kd, o', n', s', a', m', cap', hxi, g0, g1, g2, g3, g4⟩ := hel W1 (hb1.block b (hF b hFb)) i hi
 have HP : Hid (Calls Tryz.prog 132 #[.agg #[.int .i64 kd, .int .i64 o', .int .i64 n', .string s', .slice a' m' cap']] W1 (Gives W1 (.string s.args[i].pr))) :=
  Lib.hid (printR_calls s.args[i] F W1 _ (hF.below hb1) hs hk hsz (hxi.below hF hb1 (Nat.le_refl _)))
 have hil : (i : Int) < (s.args.length : Int) := by omega
 obtain ⟨x, hxx⟩ : ∃ x, s.args[i].pr = x := ⟨_, rfl⟩
 have hi' : i < L := by omega
 have y3 := e3' hbx1.2
 rw [hL] at hil hl y3 hW1 ⊢
 rw [hxx] at HP ⊢
 have HW1 := Lib.hid hW1
 have HB1 := Lib.hid hb1
 clear hr hx ha hel hxi hs hsz hF hFb hxx hL hi hW1 hb1 hbx1 hk
 go_enter Tryz.func130, Tryz.ntmps130
 go_upto_region 1 with fail
 rw [HW1.out]
 go_wp2_with (go_at_call 132; (with_reducible refine (HP.out).mono ?_); rintro e w1 ⟨rfl, hb⟩)
 go_ret
 exact ⟨rfl, bt HB1.out hb⟩
theorem saidR_calls (e : Ex) (F : Nat → Prop) (w : World) (cs : List Value) (hF : Inn F w) (hs : Src e) (hsz : e.pr.size ≤ 1000000000000) (hr : RdEx F w e cs) :
 Calls Tryz.prog 213 #[.agg cs.toArray] w (Gives w (.string e.pr)) := by
 obtain ⟨k, o, n, s, args⟩ := e
 have hP := fun (W : World) (hW : Below w.heap.size w W) (hk : ¬ SaidK k) => printR_calls (.mk k o n s args) F W _ (hF.below hW) hs hk hsz (hr.below hF hW (Nat.le_refl _))
 obtain ⟨k', o', n', s', a, m, cap, rfl⟩ := hr.shape
 obtain ⟨rfl, rfl, rfl, rfl, -, -, -, -, hx⟩ := hr.parts
 obtain ⟨rfl, hl, hc, ha⟩ := hx.opn
 simp only [Ex.kind, Ex.op, Ex.num, Ex.name, Ex.args] at *
 obtain ⟨W1, hW1⟩ : ∃ W1, w.alloc (.cells #[.int .i64 k, .int .i64 o, .int .i64 n, .string s, .slice a args.length cap] 153) = W1 := ⟨_, rfl⟩
 have hb1 := ba' hW1
 have hbx1 := bn' hW1
 obtain ⟨y0, y1, y2, y3, y4⟩ := p4' hbx1.2
 have HW1 := Lib.hid hW1
 have HB1 := Lib.hid hb1
 by_cases h2 : k = 2
 · subst h2
   have hq2 : s.size ≤ 1000000000 := by have := (hs.2.2.2.1 rfl).1; omega
   have HN := Lib.hid (fun W => quoteR_calls s W hq2)
   have e1 : (Ex.mk 2 o n s args).pr = quoteB s := rfl
   rw [e1]
   clear hP hr hx ha hs hsz hF hW1 hb1 hbx1 e1 hq2
   go_enter Tryz.func213, Tryz.ntmps213
   go_upto_region 1 with fail
   rw [HW1.out]
   go_wp2_with (go_at_call 49; (with_reducible refine (HN.out _).mono ?_); rintro e w1 ⟨rfl, hb⟩)
   go_ret
   exact ⟨rfl, bt HB1.out hb⟩
 by_cases h13 : k = 13
 · subst h13
   have hL : args.length = 1 := by
    have h5 := hs.2.1.2.2.2.2.1; have h6 := hs.2.1.2.2.2.2.2.1
    simp [hasOf] at h5 h6; omega
   obtain ⟨x, rfl⟩ : ∃ x, args = [x] := by
    match args, hL with
    | [x], _ => exact ⟨x, rfl⟩
   have hsx := (srcs_iff [x]).1 hs.2.2.2.2.2 x (by simp)
   rw [pr_title] at hsz ⊢
   have hz := hsz
   simp only [ByteArray.size_append] at hz
   obtain ⟨b, off, rfl, hFb, hel⟩ := ha (by simp)
   obtain ⟨kd, o0, n0, s0, a0, m0, cap0, hx0, g0, g1, g2, g3, g4⟩ := hel W1 (hb1.block b (hF b hFb)) 0 (by simp)
   simp only [Nat.zero_mul, Nat.add_zero] at g0 g1 g2 g3 g4
   have HP : Hid (Calls Tryz.prog 132 #[.agg #[.int .i64 kd, .int .i64 o0, .int .i64 n0, .string s0, .slice a0 m0 cap0]] W1 (Gives W1 (.string x.pr))) :=
    Lib.hid (printR_calls x F W1 _ (hF.below hb1) hsx.2 hsx.1 (by omega) (hx0.below hF hb1 (Nat.le_refl _)))
   obtain ⟨z, hzz⟩ : ∃ z, x.pr = z := ⟨_, rfl⟩
   rw [hzz] at HP hz ⊢
   clear hP hr hx ha hs hsz hF hW1 hb1 hbx1 hL hsx hel hx0 hFb hzz
   go_enter Tryz.func213, Tryz.ntmps213
   go_upto_region 1 with fail
   have HW2 := HW1.out
   simp only [List.length_cons, List.length_nil, Nat.zero_add] at HW2 y4 ⊢
   rw [HW2]
   clear HW2
   go_wp2_with (go_at_call 132; (with_reducible refine (HP.out).mono ?_); rintro e w1 ⟨rfl, hb⟩)
   go_ret
   exact ⟨rfl, bt HB1.out hb⟩
 have hk19 : ¬ SaidK k := by
  have := hs.1
  rintro (h | h | h) <;> omega
 have HP := Lib.hid (fun W hW => hP W hW hk19)
 obtain ⟨r, hr2⟩ : ∃ r, (Ex.mk k o n s args).pr = r := ⟨_, rfl⟩
 rw [hr2] at HP ⊢
 clear hP hr hx ha hs hsz hF hW1 hb1 hbx1 hr2 hk19
 go_enter Tryz.func213, Tryz.ntmps213
 go_upto_region 1 with fail
 rw [HW1.out]
 go_wp2_with (go_at_call 132; (with_reducible refine (HP.out _ HB1.out).mono ?_); rintro e w1 ⟨rfl, hb⟩)
 go_ret
 exact ⟨rfl, bt HB1.out hb⟩
end Go.Proofs.YtdeecfkipknkbaaGreatDoor
/- The walks of clewref12.items and clewref12.word. Printed by gen-tt1.py. -/
namespace Go.Proofs.YtdeecfkipknkbaaGreatDoor
set_option maxRecDepth 100000
set_option maxHeartbeats 8000000
open Go.RowKit Go.Sort
theorem itemsR_calls (l : List Ex) (F : Nat → Prop) (w : World) (v : Value) (hF : Inn F w) (hs : ∀ e ∈ l, Src e) (hsz : (sepB ⟨#[44, 32]⟩ (l.map Ex.pr)).size ≤ 1000000000000) (hr : Exs F w l v) :
 Calls Tryz.prog 131 #[v] w (Gives w (.string (sepB ⟨#[44, 32]⟩ (l.map Ex.pr)))) := by
 obtain ⟨a, cap, rfl⟩ := hr.shape
 obtain ⟨-, hl, hc, ha⟩ := hr.opn
 obtain ⟨xs, hxs⟩ : ∃ xs, l.map Ex.pr = xs := ⟨_, rfl⟩
 have hxl : xs.length = l.length := by rw [← hxs]; simp
 have hxi : ∀ i (hi : i < l.length), l[i].pr = xs[i]'(by rw [hxl]; exact hi) := fun i hi => by
  have h1 : xs[i]? = some l[i].pr := by rw [← hxs, List.getElem?_map, List.getElem?_eq_getElem hi]; rfl
  rw [List.getElem?_eq_getElem (by rw [hxl]; exact hi)] at h1
  exact (Option.some.inj h1).symm
 rw [hxs] at hsz ⊢
 have HSZ : Hid (∀ k : Nat, (sepB ⟨#[44, 32]⟩ (xs.take k)).size ≤ 1000000000000) := Lib.hid fun k => Nat.le_trans (sepB_take_le ⟨#[44, 32]⟩ xs k) hsz
 have HP : Hid (∀ (i : Nat) (hi : i < l.length) (cs : List Value), RdEx F w l[i] cs → ∀ W, Below w.heap.size w W → Calls Tryz.prog 213 #[.agg cs.toArray] W (Gives W (.string (xs[i]'(by rw [hxl]; exact hi))))) := Lib.hid fun i hi cs hcs W hW => by
  have hz : l[i].pr.size ≤ 1000000000000 := by rw [hxi i hi]; exact Nat.le_trans (sepB_mem ⟨#[44, 32]⟩ xs i (by rw [hxl]; exact hi)) hsz
  have h := saidR_calls l[i] F W cs (hF.below hW) (hs _ (List.getElem_mem hi)) hz (hcs.below hF hW (Nat.le_refl _))
  rw [hxi i hi] at h
  exact h
 have HXL := Lib.hid hxl
 have HA := Lib.hid ha
 have HF := Lib.hid hF
 have e0 : ∀ k, sepB ⟨#[44, 32]⟩ (xs.take k) = (⟨#[]⟩ : ByteArray) ++ sepB ⟨#[44, 32]⟩ (xs.take k) := fun k => (emp_app _).symm
 have HE0 := Lib.hid e0
 obtain ⟨r, hr2⟩ : ∃ r, sepB ⟨#[44, 32]⟩ xs = r := ⟨_, rfl⟩
 have HR := Lib.hid hr2
 rw [hr2]
 clear hr ha hF hs hsz hxi hxs hr2 e0
 go_enter Tryz.func131, Tryz.ntmps131
 go_wp2_with fail
 go_loopw [3, 4] (fun v i wr => ∃ k : Nat, k ≤ l.length ∧ i = .int .i64 k ∧ Hid (∃ A, v = .string A ∧ A = sepB ⟨#[44, 32]⟩ (xs.take k)) ∧ Below w.heap.size w wr) (fun _ i _ => l.length - (intOf i).toNat)
 case atStart => exact ⟨0, Nat.zero_le _, rfl, Lib.hid ⟨_, rfl, rfl⟩, Below.refl _ _⟩
 case round =>
  obtain ⟨k, hk, rfl, hA0, hB⟩ := hrel
  obtain ⟨A, rfl, hA⟩ := hA0.out
  have HAA := Lib.hid hA
  clear hA hA0
  have HB := Lib.hid hB
  by_cases hlt : k < l.length
  · have hlk : k < xs.length := by rw [HXL.out]; exact hlt
    have hnx := sepB_step ⟨#[44, 32]⟩ ⟨#[]⟩ xs k hlk
    rw [emp_app, emp_app, ← HAA.out] at hnx
    have hz := HSZ.out (k + 1)
    rw [hnx] at hz
    obtain ⟨b, off, rfl, hFb, hel⟩ := HA.out (by omega)
    obtain ⟨kd0, o0, n0, s0, a0, m0, cap0, hx0, g0, g1, g2, g3, g4⟩ := hel wr (hB.block b (HF.out b hFb)) k hlt
    have hc := HP.out k hlt _ hx0
    obtain ⟨x, hx⟩ : ∃ x, xs[k] = x := ⟨_, rfl⟩
    rw [hx] at hz hnx
    simp only [hx] at hc
    have HC := Lib.hid hc
    clear hc hel hx0 hx hFb hlk
    by_cases h0 : k = 0
    · rw [if_pos h0] at hnx hz
      have hz2 := hz
      simp only [ByteArray.size_append] at hz2
      have HN := Lib.hid hnx
      subst h0
      simp only [Nat.zero_mul, Nat.add_zero] at g0 g1 g2 g3 g4
      clear hnx HAA hz
      go_wp2_with (go_at_call 213; (with_reducible refine (HC.out _ hB).mono ?_); rintro e w1 ⟨rfl, hb⟩)
      go_roundw
      case rel => exact ⟨1, by omega, by go_num, Lib.hid ⟨_, rfl, HN.out.symm⟩, bt HB.out hb⟩
      case measure => simp [intOf]; omega
    rw [if_neg h0] at hnx hz
    have hz2 := hz
    simp only [ByteArray.size_append] at hz2
    have HN := Lib.hid hnx
    clear hnx HAA hz
    have hk0 : (0 : Int) < (k : Int) := by omega
    have h2 : (⟨#[44, 32]⟩ : ByteArray).size = 2 := rfl
    go_wp2_with (go_at_call 213; (with_reducible refine (HC.out _ hB).mono ?_); rintro e w1 ⟨rfl, hb⟩)
    go_roundw
    case rel => exact ⟨k + 1, by omega, by go_num, Lib.hid ⟨_, rfl, HN.out.symm⟩, bt HB.out hb⟩
    case measure => simp [intOf]; omega
  have hfin : Hid (A = r) := Lib.hid (by rw [HAA.out, ← HR.out, List.take_of_length_le (by rw [HXL.out]; omega)])
  clear HAA
  go_wp2_with fail
  go_ret
  exact ⟨ret_str hfin.out, HB.out⟩
theorem word13_calls (n : Int) (s : ByteArray) (a : Option Addr) (L cap : Nat) (a2 : Option Addr) (m2 cap2 : Nat) (a3 : Option Addr) (m3 cap3 : Nat) (w : World) :
 Calls Tryz.prog 133 #[.agg #[.int .i64 13, .int .i64 n, .string s, .slice a L cap, .slice a2 m2 cap2, .slice a3 m3 cap3]] w (Gives w (.string ⟨#[115, 116, 111, 112]⟩)) := by
 go_enter Tryz.func133, Tryz.ntmps133
 go_wp2
 go_ret
 exact ⟨rfl, (Below.refl _ w).alloc (Nat.le_refl _) _⟩
theorem word14_calls (n : Int) (s : ByteArray) (a : Option Addr) (L cap : Nat) (a2 : Option Addr) (m2 cap2 : Nat) (a3 : Option Addr) (m3 cap3 : Nat) (w : World) :
 Calls Tryz.prog 133 #[.agg #[.int .i64 14, .int .i64 n, .string s, .slice a L cap, .slice a2 m2 cap2, .slice a3 m3 cap3]] w (Gives w (.string ⟨#[119, 105, 110]⟩)) := by
 go_enter Tryz.func133, Tryz.ntmps133
 go_wp2
 go_ret
 exact ⟨rfl, (Below.refl _ w).alloc (Nat.le_refl _) _⟩
theorem word15_calls (n : Int) (s : ByteArray) (a : Option Addr) (L cap : Nat) (a2 : Option Addr) (m2 cap2 : Nat) (a3 : Option Addr) (m3 cap3 : Nat) (w : World) :
 Calls Tryz.prog 133 #[.agg #[.int .i64 15, .int .i64 n, .string s, .slice a L cap, .slice a2 m2 cap2, .slice a3 m3 cap3]] w (Gives w (.string ⟨#[108, 111, 115, 101]⟩)) := by
 go_enter Tryz.func133, Tryz.ntmps133
 go_wp2
 go_ret
 exact ⟨rfl, (Below.refl _ w).alloc (Nat.le_refl _) _⟩
theorem word21_calls (n : Int) (s : ByteArray) (a : Option Addr) (L cap : Nat) (a2 : Option Addr) (m2 cap2 : Nat) (a3 : Option Addr) (m3 cap3 : Nat) (w : World) :
 Calls Tryz.prog 133 #[.agg #[.int .i64 21, .int .i64 n, .string s, .slice a L cap, .slice a2 m2 cap2, .slice a3 m3 cap3]] w (Gives w (.string ⟨#[108, 111, 111, 107]⟩)) := by
 go_enter Tryz.func133, Tryz.ntmps133
 go_wp2
 go_ret
 exact ⟨rfl, (Below.refl _ w).alloc (Nat.le_refl _) _⟩
theorem word8_calls (n : Int) (s : ByteArray) (x : ByteArray) (a : Option Addr) (L cap : Nat) (a2 : Option Addr) (m2 cap2 : Nat) (a3 : Option Addr) (m3 cap3 : Nat) (w : World) (hsz : x.size ≤ 1000000000000)
 (ha : ∀ W, Below w.heap.size w W → Calls Tryz.prog 130 #[.agg #[.int .i64 8, .int .i64 n, .string s, .slice a L cap, .slice a2 m2 cap2, .slice a3 m3 cap3], .int .i64 0] W (Gives W (.string x))) :
 Calls Tryz.prog 133 #[.agg #[.int .i64 8, .int .i64 n, .string s, .slice a L cap, .slice a2 m2 cap2, .slice a3 m3 cap3]] w (Gives w (.string (⟨#[114, 101, 109, 111, 118, 101, 32]⟩ ++ x))) := by
 obtain ⟨W1, hW1⟩ : ∃ W1, w.alloc (.cells #[.int .i64 8, .int .i64 n, .string s, .slice a L cap, .slice a2 m2 cap2, .slice a3 m3 cap3] 37) = W1 := ⟨_, rfl⟩
 have hb1 := ba' hW1
 have hbx1 := bn' hW1
 obtain ⟨y0, y1, y2, y3, y4, y5⟩ := p5' hbx1.2
 have HC := Lib.hid (ha W1 hb1)
 have HW1 := Lib.hid hW1
 have HB1 := Lib.hid hb1
 clear ha hW1 hb1 hbx1
 go_enter Tryz.func133, Tryz.ntmps133
 go_upto_region 1 with fail
 rw [HW1.out]
 go_wp2_with (go_at_call 130; (with_reducible refine (HC.out).mono ?_); rintro e w1 ⟨rfl, hb⟩)
 go_ret
 exact ⟨rfl, bt HB1.out hb⟩
theorem word12_calls (n : Int) (s : ByteArray) (x : ByteArray) (a : Option Addr) (L cap : Nat) (a2 : Option Addr) (m2 cap2 : Nat) (a3 : Option Addr) (m3 cap3 : Nat) (w : World) (hsz : x.size ≤ 1000000000000)
 (ha : ∀ W, Below w.heap.size w W → Calls Tryz.prog 130 #[.agg #[.int .i64 12, .int .i64 n, .string s, .slice a L cap, .slice a2 m2 cap2, .slice a3 m3 cap3], .int .i64 0] W (Gives W (.string x))) :
 Calls Tryz.prog 133 #[.agg #[.int .i64 12, .int .i64 n, .string s, .slice a L cap, .slice a2 m2 cap2, .slice a3 m3 cap3]] w (Gives w (.string (⟨#[114, 101, 116, 117, 114, 110, 32]⟩ ++ x))) := by
 obtain ⟨W1, hW1⟩ : ∃ W1, w.alloc (.cells #[.int .i64 12, .int .i64 n, .string s, .slice a L cap, .slice a2 m2 cap2, .slice a3 m3 cap3] 37) = W1 := ⟨_, rfl⟩
 have hb1 := ba' hW1
 have hbx1 := bn' hW1
 obtain ⟨y0, y1, y2, y3, y4, y5⟩ := p5' hbx1.2
 have HC := Lib.hid (ha W1 hb1)
 have HW1 := Lib.hid hW1
 have HB1 := Lib.hid hb1
 clear ha hW1 hb1 hbx1
 go_enter Tryz.func133, Tryz.ntmps133
 go_upto_region 1 with fail
 rw [HW1.out]
 go_wp2_with (go_at_call 130; (with_reducible refine (HC.out).mono ?_); rintro e w1 ⟨rfl, hb⟩)
 go_ret
 exact ⟨rfl, bt HB1.out hb⟩
theorem word16_calls (n : Int) (s : ByteArray) (x : ByteArray) (a : Option Addr) (L cap : Nat) (a2 : Option Addr) (m2 cap2 : Nat) (a3 : Option Addr) (m3 cap3 : Nat) (w : World) (hsz : x.size ≤ 1000000000000)
 (ha : ∀ W, Below w.heap.size w W → Calls Tryz.prog 130 #[.agg #[.int .i64 16, .int .i64 n, .string s, .slice a L cap, .slice a2 m2 cap2, .slice a3 m3 cap3], .int .i64 0] W (Gives W (.string x))) :
 Calls Tryz.prog 133 #[.agg #[.int .i64 16, .int .i64 n, .string s, .slice a L cap, .slice a2 m2 cap2, .slice a3 m3 cap3]] w (Gives w (.string (⟨#[97, 119, 97, 114, 100, 32]⟩ ++ x))) := by
 obtain ⟨W1, hW1⟩ : ∃ W1, w.alloc (.cells #[.int .i64 16, .int .i64 n, .string s, .slice a L cap, .slice a2 m2 cap2, .slice a3 m3 cap3] 37) = W1 := ⟨_, rfl⟩
 have hb1 := ba' hW1
 have hbx1 := bn' hW1
 obtain ⟨y0, y1, y2, y3, y4, y5⟩ := p5' hbx1.2
 have HC := Lib.hid (ha W1 hb1)
 have HW1 := Lib.hid hW1
 have HB1 := Lib.hid hb1
 clear ha hW1 hb1 hbx1
 go_enter Tryz.func133, Tryz.ntmps133
 go_upto_region 1 with fail
 rw [HW1.out]
 go_wp2_with (go_at_call 130; (with_reducible refine (HC.out).mono ?_); rintro e w1 ⟨rfl, hb⟩)
 go_ret
 exact ⟨rfl, bt HB1.out hb⟩
theorem word20_calls (n : Int) (s : ByteArray) (x : ByteArray) (a : Option Addr) (L cap : Nat) (a2 : Option Addr) (m2 cap2 : Nat) (a3 : Option Addr) (m3 cap3 : Nat) (w : World) (hsz : x.size ≤ 1000000000000)
 (ha : ∀ W, Below w.heap.size w W → Calls Tryz.prog 130 #[.agg #[.int .i64 20, .int .i64 n, .string s, .slice a L cap, .slice a2 m2 cap2, .slice a3 m3 cap3], .int .i64 0] W (Gives W (.string x))) :
 Calls Tryz.prog 133 #[.agg #[.int .i64 20, .int .i64 n, .string s, .slice a L cap, .slice a2 m2 cap2, .slice a3 m3 cap3]] w (Gives w (.string (⟨#[116, 114, 97, 118, 101, 108, 32]⟩ ++ x))) := by
 obtain ⟨W1, hW1⟩ : ∃ W1, w.alloc (.cells #[.int .i64 20, .int .i64 n, .string s, .slice a L cap, .slice a2 m2 cap2, .slice a3 m3 cap3] 37) = W1 := ⟨_, rfl⟩
 have hb1 := ba' hW1
 have hbx1 := bn' hW1
 obtain ⟨y0, y1, y2, y3, y4, y5⟩ := p5' hbx1.2
 have HC := Lib.hid (ha W1 hb1)
 have HW1 := Lib.hid hW1
 have HB1 := Lib.hid hb1
 clear ha hW1 hb1 hbx1
 go_enter Tryz.func133, Tryz.ntmps133
 go_upto_region 1 with fail
 rw [HW1.out]
 go_wp2_with (go_at_call 130; (with_reducible refine (HC.out).mono ?_); rintro e w1 ⟨rfl, hb⟩)
 go_ret
 exact ⟨rfl, bt HB1.out hb⟩
theorem word22_calls (n : Int) (s : ByteArray) (x : ByteArray) (a : Option Addr) (L cap : Nat) (a2 : Option Addr) (m2 cap2 : Nat) (a3 : Option Addr) (m3 cap3 : Nat) (w : World) (hsz : x.size ≤ 1000000000000)
 (ha : ∀ W, Below w.heap.size w W → Calls Tryz.prog 130 #[.agg #[.int .i64 22, .int .i64 n, .string s, .slice a L cap, .slice a2 m2 cap2, .slice a3 m3 cap3], .int .i64 0] W (Gives W (.string x))) :
 Calls Tryz.prog 133 #[.agg #[.int .i64 22, .int .i64 n, .string s, .slice a L cap, .slice a2 m2 cap2, .slice a3 m3 cap3]] w (Gives w (.string (⟨#[108, 105, 115, 116, 32]⟩ ++ x))) := by
 obtain ⟨W1, hW1⟩ : ∃ W1, w.alloc (.cells #[.int .i64 22, .int .i64 n, .string s, .slice a L cap, .slice a2 m2 cap2, .slice a3 m3 cap3] 37) = W1 := ⟨_, rfl⟩
 have hb1 := ba' hW1
 have hbx1 := bn' hW1
 obtain ⟨y0, y1, y2, y3, y4, y5⟩ := p5' hbx1.2
 have HC := Lib.hid (ha W1 hb1)
 have HW1 := Lib.hid hW1
 have HB1 := Lib.hid hb1
 clear ha hW1 hb1 hbx1
 go_enter Tryz.func133, Tryz.ntmps133
 go_upto_region 1 with fail
 rw [HW1.out]
 go_wp2_with (go_at_call 130; (with_reducible refine (HC.out).mono ?_); rintro e w1 ⟨rfl, hb⟩)
 go_ret
 exact ⟨rfl, bt HB1.out hb⟩
end Go.Proofs.YtdeecfkipknkbaaGreatDoor
