/- The awake of the law clewlaw12. Printed by gen-cl1.py. -/
import Derived.Test.YtnbfadgclffgkaaGreatDoorPart7c036223
import Derived.Test.YtnbfadgclffgkaaGreatDoorStL
import Derived.Test.YtnbfadgclffgkaaGreatDoorPartcd851cfa
namespace Go.Proofs.YtnbfadgclffgkaaGreatDoor
open Go.RowKit Go.Sort
set_option maxRecDepth 100000 in
set_option maxHeartbeats 4000000 in
theorem awakeC_calls (w : World) (ht : TB w) : Calls Tryz.prog 7 #[] w (Gives w (.bool true)) := by
  have h1 := fun W => all9_calls ssay W (by unfold maxLen; decide)
  have h2 := fun W => all9_calls sput W (by unfold maxLen; decide)
  simp only [ssay_lex] at h1
  simp only [sput_lex] at h2
  have HA1 := Lib.hid (show Calls Tryz.prog 13 #[.string ⟨#[115, 97, 121, 32, 49, 44, 32, 34, 97, 34, 59]⟩] w (fun e w' => ∃ v, e = .returned (.tuple #[v, .agg #[.int .i64 0, .int .i64 0, .int .i64 0]]) ∧ RdL Holds.tok 5 (NewB w.heap.size w'.heap.size) w' tokS v ∧ Below w.heap.size w w') from h1 w)
  have HA2 := Lib.hid (show ∀ W, Calls Tryz.prog 13 #[.string ⟨#[40, 97, 41, 32, 61, 32, 50, 59]⟩] W (fun e w' => ∃ v, e = .returned (.tuple #[v, .agg #[.int .i64 0, .int .i64 0, .int .i64 0]]) ∧ RdL Holds.tok 5 (NewB W.heap.size w'.heap.size) w' tokP v ∧ Below W.heap.size W w') from h2)
  have HT := Lib.hid ht
  clear h1 h2 ht
  go_enter Tryz.func7, Tryz.ntmps7
  go_upto_region 2 with (go_at_call 13; (with_reducible refine HA1.out.mono ?_); rintro e w1 ⟨v1, rfl, hl1, hb1⟩)
  obtain ⟨w2, hw2⟩ : ∃ z, w1.alloc (.cells #[.int .i64 0, .int .i64 0, .int .i64 0] 36) = z := ⟨_, rfl⟩
  rw [hw2]
  have hb2 : Below w1.heap.size w1 w2 := by rw [← hw2]; exact (Below.refl _ _).alloc (Nat.le_refl _) _
  have hl2 : RdL Holds.tok 5 (fun x => x < w2.heap.size) w2 tokS v1 := hl1.keep (fun x hx => hb2.block x hx.2) (fun x hx => Nat.lt_of_lt_of_le hx.2 hb2.size)
  have hB2 := btK hb1 hb2
  generalize w1.heap.size = x2 at hl1 hb2 ⊢
  have HL2 := Lib.hid hl2; have HB2 := Lib.hid hB2
  clear hw2 hb2 hl2 hl1 hb1 hB2
  go_upto_region 3 with (go_at_call 13; (with_reducible refine (HA2.out _).mono ?_); rintro e w3 ⟨v3, rfl, hl3, hb3⟩)
  obtain ⟨w4, hw4⟩ : ∃ z, w3.alloc (.cells #[.int .i64 0, .int .i64 0, .int .i64 0] 36) = z := ⟨_, rfl⟩
  rw [hw4]
  have hb4 : Below w3.heap.size w3 w4 := by rw [← hw4]; exact (Below.refl _ _).alloc (Nat.le_refl _) _
  have hl4 : RdL Holds.tok 5 (fun x => x < w4.heap.size) w4 tokP v3 := hl3.keep (fun x hx => hb4.block x hx.2) (fun x hx => Nat.lt_of_lt_of_le hx.2 hb4.size)
  have hB4 := btK hb3 hb4
  have hs4 : RdL Holds.tok 5 (fun x => x < w4.heap.size) w4 tokS v1 := HL2.out.keep (fun x hx => hB4.block x hx) (fun x hx => Nat.lt_of_lt_of_le hx hB4.size)
  have hP := parseSay_calls w4 v1 hs4
  generalize w3.heap.size = x4 at hl3 hb4 ⊢
  have HL4 := Lib.hid hl4; have HB4 := Lib.hid (btK HB2.out hB4); have HP := Lib.hid hP
  clear hw4 hb4 hl4 hl3 hb3 hB4 hs4 hP HL2 HB2 HA1 HA2
  go_upto_region 4 with (go_at_call 14; (with_reducible refine HP.out.mono ?_); rintro e w5 ⟨g, cap, rfl, hb5⟩)
  obtain ⟨w6, hw6⟩ : ∃ z, w5.alloc (.cells #[.int .i64 1, .int .i64 0, .string ⟨#[]⟩, .slice (some ⟨g, 0, none⟩) 2 cap, .slice none 0 0, .slice none 0 0] 27) = z := ⟨_, rfl⟩
  obtain ⟨w7, hw7⟩ : ∃ z, w6.alloc (.cells #[.int .i64 0, .int .i64 0, .int .i64 0] 36) = z := ⟨_, rfl⟩
  rw [hw6, hw7]
  have hz6 : w6.heap.size = w5.heap.size + 1 := by rw [← hw6]; simp
  have hb6 : Below w5.heap.size w5 w6 := by rw [← hw6]; exact (Below.refl _ _).alloc (Nat.le_refl _) _
  have hb7 : Below w6.heap.size w6 w7 := by rw [← hw7]; exact (Below.refl _ _).alloc (Nat.le_refl _) _
  have hm6 : BoxT w6 w5.heap.size [.int .i64 1, .int .i64 0, .string ⟨#[]⟩, .slice (some ⟨g, 0, none⟩) 2 cap, .slice none 0 0, .slice none 0 0] 27 := by rw [← hw6]; exact BoxT.new _ _ _
  have hg7 : BoxT w7 (w5.heap.size + 1) [.int .i64 0, .int .i64 0, .int .i64 0] 36 := by rw [← hz6, ← hw7]; exact BoxT.new _ _ _
  have hm7 := hm6.below hb7
  have hB57 := btK hb6 hb7
  have hB47 := btK hb5 hB57
  have hl7 : RdL Holds.tok 5 (fun x => x < w7.heap.size) w7 tokP v3 := HL4.out.keep (fun x hx => hB47.block x hx) (fun x hx => Nat.lt_of_lt_of_le hx hB47.size)
  have hP := parsePut_calls w7 v3 hl7
  have hB7 := btK HB4.out hB47
  generalize w5.heap.size = y at hm7 hg7 ⊢
  have HM7 := Lib.hid hm7; have HG7 := Lib.hid hg7; have HB7 := Lib.hid hB7; have HP2 := Lib.hid hP
  clear hw6 hw7 hz6 hb6 hb7 hm6 hg7 hm7 hB57 hB47 hl7 hP hB7 hb5 HL4 HB4 HP
  go_upto_region 5 with (go_at_call 14; (with_reducible refine HP2.out.mono ?_); rintro e w8 ⟨rfl, hb8⟩)
  obtain ⟨w9, hw9⟩ : ∃ z, w8.alloc (.cells #[.int .i64 0, .int .i64 0, .string ⟨#[]⟩, .slice none 0 0, .slice none 0 0, .slice none 0 0] 27) = z := ⟨_, rfl⟩
  obtain ⟨wx, hwx⟩ : ∃ z, w9.alloc (.cells #[.int .i64 8, .int .i64 1, .int .i64 5] 36) = z := ⟨_, rfl⟩
  rw [hw9, hwx]
  have hz9 : w9.heap.size = w8.heap.size + 1 := by rw [← hw9]; simp
  have hb9 : Below w8.heap.size w8 w9 := by rw [← hw9]; exact (Below.refl _ _).alloc (Nat.le_refl _) _
  have hbx : Below w9.heap.size w9 wx := by rw [← hwx]; exact (Below.refl _ _).alloc (Nat.le_refl _) _
  have hfx : BoxT wx (w8.heap.size + 1) [.int .i64 8, .int .i64 1, .int .i64 5] 36 := by rw [← hz9, ← hwx]; exact BoxT.new _ _ _
  have hB8x := btK hb8 (btK hb9 hbx)
  have hmx := HM7.out.below hB8x
  have hgx := HG7.out.below hB8x
  have hBx := btK HB7.out hB8x
  have hpr := blkT_calls [] (fun _ h => by simp at h) (fun _ => False) wx (.slice none 0 0) 1 (fun _ h => h.elim) (HT.out.below hBx (Nat.le_refl _)) (fun _ h => by simp at h) (by decide) ⟨fun _ _ => undef, ⟨none, 0, rfl, Nat.le_refl _, Nat.zero_le _, fun h => absurd h (by simp)⟩, trivial⟩
  generalize w8.heap.size = z at hfx ⊢
  obtain ⟨m0, m1, m2, m3, m4, m5⟩ := hmx.cells6
  have g0 := hgx.cell 0
  have g1 := hgx.cell 1
  have g2 := hgx.cell 2
  simp only [cqs, cqz] at g0 g1 g2
  have h0 := hfx.cell 0
  have h1 := hfx.cell 1
  have h2 := hfx.cell 2
  simp only [cqs, cqz] at h0 h1 h2
  have HPR := Lib.hid (show Calls Tryz.prog 10 #[.slice none 0 0, .int .i64 1] wx (Gives wx (.string ⟨#[123, 10, 9, 125]⟩)) from hpr)
  have HBX := Lib.hid hBx
  clear hw9 hwx hz9 hb9 hbx hfx hB8x hmx hgx hBx hpr hb8 HM7 HG7 HB7 HP2
  go_wp2_with (go_at_call 10; (with_reducible refine HPR.out.mono ?_); rintro e wy ⟨rfl, hby⟩)
  go_ret
  exact ⟨rfl, btK HBX.out hby⟩
end Go.Proofs.YtnbfadgclffgkaaGreatDoor
/- The walks of clewref12.arg and clewref12.said. -/
namespace Go.Proofs.YtnbfadgclffgkaaGreatDoor
open Go.RowKit Go.Sort
set_option maxRecDepth 100000 in
set_option maxHeartbeats 4000000 in
theorem argR_calls (s : St) (i : Nat) (hi : i < s.args.length) (F : Nat → Prop) (w : World) (cs : List Value) (hF : Inn F w) (hs : Src s.args[i]) (hk : ¬ SaidK s.args[i].kind) (hsz : s.args[i].pr.size ≤ 1000000000000) (hr : RdSt F w s cs) :
    Calls Tryz.prog 47 #[.agg cs.toArray, .int .i64 i] w (Gives w (.string s.args[i].pr)) := by
  obtain ⟨k, n, nm, a, m, cap, a2, m2, cap2, a3, m3, cap3, rfl⟩ := hr.shape
  obtain ⟨-, -, -, -, -, -, hx, -, -⟩ := hr.parts
  obtain ⟨rfl, hl, hc, ha⟩ := hx.opn
  obtain ⟨b, off, rfl, hFb, hel⟩ := ha (by omega)
  obtain ⟨L, hL⟩ : ∃ L, s.args.length = L := ⟨_, rfl⟩
  obtain ⟨W1, hW1⟩ : ∃ W1, w.alloc (.cells #[.int .i64 k, .int .i64 n, .string nm, .slice (some ⟨b, off, none⟩) s.args.length cap, .slice a2 m2 cap2, .slice a3 m3 cap3] 27) = W1 := ⟨_, rfl⟩
  have hb1 : Below w.heap.size w W1 := by rw [← hW1]; exact (Below.refl _ _).alloc (Nat.le_refl _) _
  have hbx1 : BoxAt W1 w.heap.size [.int .i64 k, .int .i64 n, .string nm, .slice (some ⟨b, off, none⟩) s.args.length cap, .slice a2 m2 cap2, .slice a3 m3 cap3] := by rw [← hW1]; exact BoxAt.new _ _ _
  obtain ⟨kd, o', n', s', a', m', cap', hxi, g0, g1, g2, g3, g4⟩ := hel W1 (hb1.block b (hF b hFb)) i hi
  have HP : Hid (Calls Tryz.prog 49 #[.agg #[.int .i64 kd, .int .i64 o', .int .i64 n', .string s', .slice a' m' cap']] W1 (Gives W1 (.string s.args[i].pr))) :=
    Lib.hid (printR_calls s.args[i] F W1 _ (hF.below hb1) hs hk hsz (hxi.below hF hb1 (Nat.le_refl _)))
  have hil : (i : Int) < (s.args.length : Int) := by omega
  obtain ⟨x, hxx⟩ : ∃ x, s.args[i].pr = x := ⟨_, rfl⟩
  have hi' : i < L := by omega
  have y3 := hbx1.2 3 (by simp); simp only [cqs, cqz] at y3
  rw [hL] at hil hl y3 hW1 ⊢
  rw [hxx] at HP ⊢
  have HW1 := Lib.hid hW1
  have HB1 := Lib.hid hb1
  clear hr hx ha hel hxi hs hsz hF hFb hxx hL hi hW1 hb1 hbx1 hk
  go_enter Tryz.func47, Tryz.ntmps47
  go_upto_region 1 with fail
  rw [HW1.out]
  go_wp2_with (go_at_call 49; (with_reducible refine (HP.out).mono ?_); rintro e w1 ⟨rfl, hb⟩)
  go_ret
  exact ⟨rfl, bt HB1.out hb⟩
set_option maxRecDepth 100000 in
set_option maxHeartbeats 4000000 in
theorem saidR_calls (e : Ex) (F : Nat → Prop) (w : World) (cs : List Value) (hF : Inn F w) (hs : Src e) (hsz : e.pr.size ≤ 1000000000000) (hr : RdEx F w e cs) :
    Calls Tryz.prog 90 #[.agg cs.toArray] w (Gives w (.string e.pr)) := by
  obtain ⟨k, o, n, s, args⟩ := e
  have hP := fun (W : World) (hW : Below w.heap.size w W) (hk : ¬ SaidK k) => printR_calls (.mk k o n s args) F W _ (hF.below hW) hs hk hsz (hr.below hF hW (Nat.le_refl _))
  obtain ⟨k', o', n', s', a, m, cap, rfl⟩ := hr.shape
  obtain ⟨rfl, rfl, rfl, rfl, -, -, -, -, hx⟩ := hr.parts
  obtain ⟨rfl, hl, hc, ha⟩ := hx.opn
  simp only [Ex.kind, Ex.op, Ex.num, Ex.name, Ex.args] at *
  obtain ⟨W1, hW1⟩ : ∃ W1, w.alloc (.cells #[.int .i64 k, .int .i64 o, .int .i64 n, .string s, .slice a args.length cap] 73) = W1 := ⟨_, rfl⟩
  have hb1 : Below w.heap.size w W1 := by rw [← hW1]; exact (Below.refl _ _).alloc (Nat.le_refl _) _
  have hbx1 : BoxAt W1 w.heap.size [.int .i64 k, .int .i64 o, .int .i64 n, .string s, .slice a args.length cap] := by rw [← hW1]; exact BoxAt.new _ _ _
  have y0 := hbx1.2 0 (by simp); have y1 := hbx1.2 1 (by simp); have y2 := hbx1.2 2 (by simp); have y3 := hbx1.2 3 (by simp); have y4 := hbx1.2 4 (by simp); simp only [cqs, cqz] at y0 y1 y2 y3 y4
  have HW1 := Lib.hid hW1
  have HB1 := Lib.hid hb1
  by_cases h2 : k = 2
  · subst h2
    have hq2 : s.size ≤ 1000000000 := by have := (hs.2.2.2.1 rfl).1; omega
    have HN := Lib.hid (fun W => quoteR_calls s W hq2)
    have e1 : (Ex.mk 2 o n s args).pr = quoteB s := rfl
    rw [e1]
    clear hP hr hx ha hs hsz hF hW1 hb1 hbx1 e1 hq2
    go_enter Tryz.func90, Tryz.ntmps90
    go_upto_region 1 with fail
    rw [HW1.out]
    go_wp2_with (go_at_call 131; (with_reducible refine (HN.out _).mono ?_); rintro e w1 ⟨rfl, hb⟩)
    go_ret
    exact ⟨rfl, bt HB1.out hb⟩
  · by_cases h13 : k = 13
    · subst h13
      have hL : args.length = 1 := by
        have h5 := hs.2.1.2.2.2.2.1; have h6 := hs.2.1.2.2.2.2.2.1
        simp [hasOf] at h5 h6; omega
      obtain ⟨x, rfl⟩ : ∃ x, args = [x] := by
        match args, hL with
        | [x], _ => exact ⟨x, rfl⟩
      have hsx := (srcs_iff [x]).1 hs.2.2.2.2.2 x (by simp)
      rw [pr_title] at hsz ⊢
      have hz := hsz
      simp only [ByteArray.size_append] at hz
      obtain ⟨b, off, rfl, hFb, hel⟩ := ha (by simp)
      obtain ⟨kd, o0, n0, s0, a0, m0, cap0, hx0, g0, g1, g2, g3, g4⟩ := hel W1 (hb1.block b (hF b hFb)) 0 (by simp)
      simp only [Nat.zero_mul, Nat.add_zero] at g0 g1 g2 g3 g4
      have HP : Hid (Calls Tryz.prog 49 #[.agg #[.int .i64 kd, .int .i64 o0, .int .i64 n0, .string s0, .slice a0 m0 cap0]] W1 (Gives W1 (.string x.pr))) :=
        Lib.hid (printR_calls x F W1 _ (hF.below hb1) hsx.2 hsx.1 (by omega) (hx0.below hF hb1 (Nat.le_refl _)))
      obtain ⟨z, hzz⟩ : ∃ z, x.pr = z := ⟨_, rfl⟩
      rw [hzz] at HP hz ⊢
      clear hP hr hx ha hs hsz hF hW1 hb1 hbx1 hL hsx hel hx0 hFb hzz
      go_enter Tryz.func90, Tryz.ntmps90
      go_upto_region 1 with fail
      have HW2 := HW1.out
      simp only [List.length_cons, List.length_nil, Nat.zero_add] at HW2 y4 ⊢
      rw [HW2]
      clear HW2
      go_wp2_with (go_at_call 49; (with_reducible refine (HP.out).mono ?_); rintro e w1 ⟨rfl, hb⟩)
      go_ret
      exact ⟨rfl, bt HB1.out hb⟩
    · have hk19 : ¬ SaidK k := by
        have := hs.1
        rintro (h | h | h) <;> omega
      have HP := Lib.hid (fun W hW => hP W hW hk19)
      obtain ⟨r, hr2⟩ : ∃ r, (Ex.mk k o n s args).pr = r := ⟨_, rfl⟩
      rw [hr2] at HP ⊢
      clear hP hr hx ha hs hsz hF hW1 hb1 hbx1 hr2 hk19
      go_enter Tryz.func90, Tryz.ntmps90
      go_upto_region 1 with fail
      rw [HW1.out]
      go_wp2_with (go_at_call 49; (with_reducible refine (HP.out _ HB1.out).mono ?_); rintro e w1 ⟨rfl, hb⟩)
      go_ret
      exact ⟨rfl, bt HB1.out hb⟩
end Go.Proofs.YtnbfadgclffgkaaGreatDoor
/- The walks of clewref12.items and clewref12.word. Printed by gen-tt1.py. -/
namespace Go.Proofs.YtnbfadgclffgkaaGreatDoor
open Go.RowKit Go.Sort
set_option maxRecDepth 100000 in
set_option maxHeartbeats 8000000 in
theorem itemsR_calls (l : List Ex) (F : Nat → Prop) (w : World) (v : Value) (hF : Inn F w) (hs : ∀ e ∈ l, Src e) (hsz : (sepB ⟨#[44, 32]⟩ (l.map Ex.pr)).size ≤ 1000000000000) (hr : Exs F w l v) :
    Calls Tryz.prog 48 #[v] w (Gives w (.string (sepB ⟨#[44, 32]⟩ (l.map Ex.pr)))) := by
  obtain ⟨a, cap, rfl⟩ := hr.shape
  obtain ⟨-, hl, hc, ha⟩ := hr.opn
  obtain ⟨xs, hxs⟩ : ∃ xs, l.map Ex.pr = xs := ⟨_, rfl⟩
  have hxl : xs.length = l.length := by rw [← hxs]; simp
  have hxi : ∀ i (hi : i < l.length), l[i].pr = xs[i]'(by rw [hxl]; exact hi) := fun i hi => by
    have h1 : xs[i]? = some l[i].pr := by rw [← hxs, List.getElem?_map, List.getElem?_eq_getElem hi]; rfl
    rw [List.getElem?_eq_getElem (by rw [hxl]; exact hi)] at h1
    exact (Option.some.inj h1).symm
  rw [hxs] at hsz ⊢
  have HSZ : Hid (∀ k : Nat, (sepB ⟨#[44, 32]⟩ (xs.take k)).size ≤ 1000000000000) := Lib.hid fun k => Nat.le_trans (sepB_take_le ⟨#[44, 32]⟩ xs k) hsz
  have HP : Hid (∀ (i : Nat) (hi : i < l.length) (cs : List Value), RdEx F w l[i] cs → ∀ W, Below w.heap.size w W → Calls Tryz.prog 90 #[.agg cs.toArray] W (Gives W (.string (xs[i]'(by rw [hxl]; exact hi))))) := Lib.hid fun i hi cs hcs W hW => by
    have hz : l[i].pr.size ≤ 1000000000000 := by rw [hxi i hi]; exact Nat.le_trans (sepB_mem ⟨#[44, 32]⟩ xs i (by rw [hxl]; exact hi)) hsz
    have h := saidR_calls l[i] F W cs (hF.below hW) (hs _ (List.getElem_mem hi)) hz (hcs.below hF hW (Nat.le_refl _))
    rw [hxi i hi] at h
    exact h
  have HXL := Lib.hid hxl
  have HA := Lib.hid ha
  have HF := Lib.hid hF
  have e0 : ∀ k, sepB ⟨#[44, 32]⟩ (xs.take k) = (⟨#[]⟩ : ByteArray) ++ sepB ⟨#[44, 32]⟩ (xs.take k) := fun k => (emp_app _).symm
  have HE0 := Lib.hid e0
  obtain ⟨r, hr2⟩ : ∃ r, sepB ⟨#[44, 32]⟩ xs = r := ⟨_, rfl⟩
  have HR := Lib.hid hr2
  rw [hr2]
  clear hr ha hF hs hsz hxi hxs hr2 e0
  go_enter Tryz.func48, Tryz.ntmps48
  go_wp2_with fail
  go_loopw [3, 4] (fun v i wr => ∃ k : Nat, k ≤ l.length ∧ i = .int .i64 k ∧ Hid (∃ A, v = .string A ∧ A = sepB ⟨#[44, 32]⟩ (xs.take k)) ∧ Below w.heap.size w wr) (fun _ i _ => l.length - (intOf i).toNat)
  case atStart => exact ⟨0, Nat.zero_le _, rfl, Lib.hid ⟨_, rfl, rfl⟩, Below.refl _ _⟩
  case round =>
    obtain ⟨k, hk, rfl, hA0, hB⟩ := hrel
    obtain ⟨A, rfl, hA⟩ := hA0.out
    have HAA := Lib.hid hA
    clear hA hA0
    have HB := Lib.hid hB
    by_cases hlt : k < l.length
    · have hlk : k < xs.length := by rw [HXL.out]; exact hlt
      have hnx := sepB_step ⟨#[44, 32]⟩ ⟨#[]⟩ xs k hlk
      rw [emp_app, emp_app, ← HAA.out] at hnx
      have hz := HSZ.out (k + 1)
      rw [hnx] at hz
      obtain ⟨b, off, rfl, hFb, hel⟩ := HA.out (by omega)
      obtain ⟨kd0, o0, n0, s0, a0, m0, cap0, hx0, g0, g1, g2, g3, g4⟩ := hel wr (hB.block b (HF.out b hFb)) k hlt
      have hc := HP.out k hlt _ hx0
      obtain ⟨x, hx⟩ : ∃ x, xs[k] = x := ⟨_, rfl⟩
      rw [hx] at hz hnx
      simp only [hx] at hc
      have HC := Lib.hid hc
      clear hc hel hx0 hx hFb hlk
      by_cases h0 : k = 0
      · rw [if_pos h0] at hnx hz
        have hz2 := hz
        simp only [ByteArray.size_append] at hz2
        have HN := Lib.hid hnx
        subst h0
        simp only [Nat.zero_mul, Nat.add_zero] at g0 g1 g2 g3 g4
        clear hnx HAA hz
        go_wp2_with (go_at_call 90; (with_reducible refine (HC.out _ hB).mono ?_); rintro e w1 ⟨rfl, hb⟩)
        go_roundw
        case rel => exact ⟨1, by omega, by go_num, Lib.hid ⟨_, rfl, HN.out.symm⟩, bt HB.out hb⟩
        case measure => simp [intOf]; omega
      · rw [if_neg h0] at hnx hz
        have hz2 := hz
        simp only [ByteArray.size_append] at hz2
        have HN := Lib.hid hnx
        clear hnx HAA hz
        have hk0 : (0 : Int) < (k : Int) := by omega
        have h2 : (⟨#[44, 32]⟩ : ByteArray).size = 2 := rfl
        go_wp2_with (go_at_call 90; (with_reducible refine (HC.out _ hB).mono ?_); rintro e w1 ⟨rfl, hb⟩)
        go_roundw
        case rel => exact ⟨k + 1, by omega, by go_num, Lib.hid ⟨_, rfl, HN.out.symm⟩, bt HB.out hb⟩
        case measure => simp [intOf]; omega
    · have hfin : Hid (A = r) := Lib.hid (by rw [HAA.out, ← HR.out, List.take_of_length_le (by rw [HXL.out]; omega)])
      clear HAA
      go_wp2_with fail
      go_ret
      exact ⟨ret_str hfin.out, HB.out⟩
set_option maxRecDepth 100000 in
set_option maxHeartbeats 4000000 in
theorem word13_calls (n : Int) (s : ByteArray) (a : Option Addr) (L cap : Nat) (a2 : Option Addr) (m2 cap2 : Nat) (a3 : Option Addr) (m3 cap3 : Nat) (w : World) :
    Calls Tryz.prog 50 #[.agg #[.int .i64 13, .int .i64 n, .string s, .slice a L cap, .slice a2 m2 cap2, .slice a3 m3 cap3]] w (Gives w (.string ⟨#[115, 116, 111, 112]⟩)) := by
  go_enter Tryz.func50, Tryz.ntmps50
  go_wp2
  go_ret
  exact ⟨rfl, (Below.refl _ w).alloc (Nat.le_refl _) _⟩
set_option maxRecDepth 100000 in
set_option maxHeartbeats 4000000 in
theorem word14_calls (n : Int) (s : ByteArray) (a : Option Addr) (L cap : Nat) (a2 : Option Addr) (m2 cap2 : Nat) (a3 : Option Addr) (m3 cap3 : Nat) (w : World) :
    Calls Tryz.prog 50 #[.agg #[.int .i64 14, .int .i64 n, .string s, .slice a L cap, .slice a2 m2 cap2, .slice a3 m3 cap3]] w (Gives w (.string ⟨#[119, 105, 110]⟩)) := by
  go_enter Tryz.func50, Tryz.ntmps50
  go_wp2
  go_ret
  exact ⟨rfl, (Below.refl _ w).alloc (Nat.le_refl _) _⟩
set_option maxRecDepth 100000 in
set_option maxHeartbeats 4000000 in
theorem word15_calls (n : Int) (s : ByteArray) (a : Option Addr) (L cap : Nat) (a2 : Option Addr) (m2 cap2 : Nat) (a3 : Option Addr) (m3 cap3 : Nat) (w : World) :
    Calls Tryz.prog 50 #[.agg #[.int .i64 15, .int .i64 n, .string s, .slice a L cap, .slice a2 m2 cap2, .slice a3 m3 cap3]] w (Gives w (.string ⟨#[108, 111, 115, 101]⟩)) := by
  go_enter Tryz.func50, Tryz.ntmps50
  go_wp2
  go_ret
  exact ⟨rfl, (Below.refl _ w).alloc (Nat.le_refl _) _⟩
set_option maxRecDepth 100000 in
set_option maxHeartbeats 4000000 in
theorem word21_calls (n : Int) (s : ByteArray) (a : Option Addr) (L cap : Nat) (a2 : Option Addr) (m2 cap2 : Nat) (a3 : Option Addr) (m3 cap3 : Nat) (w : World) :
    Calls Tryz.prog 50 #[.agg #[.int .i64 21, .int .i64 n, .string s, .slice a L cap, .slice a2 m2 cap2, .slice a3 m3 cap3]] w (Gives w (.string ⟨#[108, 111, 111, 107]⟩)) := by
  go_enter Tryz.func50, Tryz.ntmps50
  go_wp2
  go_ret
  exact ⟨rfl, (Below.refl _ w).alloc (Nat.le_refl _) _⟩
set_option maxRecDepth 100000 in
set_option maxHeartbeats 4000000 in
theorem word8_calls (n : Int) (s : ByteArray) (x : ByteArray) (a : Option Addr) (L cap : Nat) (a2 : Option Addr) (m2 cap2 : Nat) (a3 : Option Addr) (m3 cap3 : Nat) (w : World) (hsz : x.size ≤ 1000000000000)
    (ha : ∀ W, Below w.heap.size w W → Calls Tryz.prog 47 #[.agg #[.int .i64 8, .int .i64 n, .string s, .slice a L cap, .slice a2 m2 cap2, .slice a3 m3 cap3], .int .i64 0] W (Gives W (.string x))) :
    Calls Tryz.prog 50 #[.agg #[.int .i64 8, .int .i64 n, .string s, .slice a L cap, .slice a2 m2 cap2, .slice a3 m3 cap3]] w (Gives w (.string (⟨#[114, 101, 109, 111, 118, 101, 32]⟩ ++ x))) := by
  obtain ⟨W1, hW1⟩ : ∃ W1, w.alloc (.cells #[.int .i64 8, .int .i64 n, .string s, .slice a L cap, .slice a2 m2 cap2, .slice a3 m3 cap3] 27) = W1 := ⟨_, rfl⟩
  have hb1 : Below w.heap.size w W1 := by rw [← hW1]; exact (Below.refl _ _).alloc (Nat.le_refl _) _
  have hbx1 : BoxAt W1 w.heap.size [.int .i64 8, .int .i64 n, .string s, .slice a L cap, .slice a2 m2 cap2, .slice a3 m3 cap3] := by rw [← hW1]; exact BoxAt.new _ _ _
  have y0 := hbx1.2 0 (by simp); have y1 := hbx1.2 1 (by simp); have y2 := hbx1.2 2 (by simp); have y3 := hbx1.2 3 (by simp); have y4 := hbx1.2 4 (by simp); have y5 := hbx1.2 5 (by simp); simp only [cqs, cqz] at y0 y1 y2 y3 y4 y5
  have HC := Lib.hid (ha W1 hb1)
  have HW1 := Lib.hid hW1
  have HB1 := Lib.hid hb1
  clear ha hW1 hb1 hbx1
  go_enter Tryz.func50, Tryz.ntmps50
  go_upto_region 1 with fail
  rw [HW1.out]
  go_wp2_with (go_at_call 47; (with_reducible refine (HC.out).mono ?_); rintro e w1 ⟨rfl, hb⟩)
  go_ret
  exact ⟨rfl, bt HB1.out hb⟩
set_option maxRecDepth 100000 in
set_option maxHeartbeats 4000000 in
theorem word12_calls (n : Int) (s : ByteArray) (x : ByteArray) (a : Option Addr) (L cap : Nat) (a2 : Option Addr) (m2 cap2 : Nat) (a3 : Option Addr) (m3 cap3 : Nat) (w : World) (hsz : x.size ≤ 1000000000000)
    (ha : ∀ W, Below w.heap.size w W → Calls Tryz.prog 47 #[.agg #[.int .i64 12, .int .i64 n, .string s, .slice a L cap, .slice a2 m2 cap2, .slice a3 m3 cap3], .int .i64 0] W (Gives W (.string x))) :
    Calls Tryz.prog 50 #[.agg #[.int .i64 12, .int .i64 n, .string s, .slice a L cap, .slice a2 m2 cap2, .slice a3 m3 cap3]] w (Gives w (.string (⟨#[114, 101, 116, 117, 114, 110, 32]⟩ ++ x))) := by
  obtain ⟨W1, hW1⟩ : ∃ W1, w.alloc (.cells #[.int .i64 12, .int .i64 n, .string s, .slice a L cap, .slice a2 m2 cap2, .slice a3 m3 cap3] 27) = W1 := ⟨_, rfl⟩
  have hb1 : Below w.heap.size w W1 := by rw [← hW1]; exact (Below.refl _ _).alloc (Nat.le_refl _) _
  have hbx1 : BoxAt W1 w.heap.size [.int .i64 12, .int .i64 n, .string s, .slice a L cap, .slice a2 m2 cap2, .slice a3 m3 cap3] := by rw [← hW1]; exact BoxAt.new _ _ _
  have y0 := hbx1.2 0 (by simp); have y1 := hbx1.2 1 (by simp); have y2 := hbx1.2 2 (by simp); have y3 := hbx1.2 3 (by simp); have y4 := hbx1.2 4 (by simp); have y5 := hbx1.2 5 (by simp); simp only [cqs, cqz] at y0 y1 y2 y3 y4 y5
  have HC := Lib.hid (ha W1 hb1)
  have HW1 := Lib.hid hW1
  have HB1 := Lib.hid hb1
  clear ha hW1 hb1 hbx1
  go_enter Tryz.func50, Tryz.ntmps50
  go_upto_region 1 with fail
  rw [HW1.out]
  go_wp2_with (go_at_call 47; (with_reducible refine (HC.out).mono ?_); rintro e w1 ⟨rfl, hb⟩)
  go_ret
  exact ⟨rfl, bt HB1.out hb⟩
set_option maxRecDepth 100000 in
set_option maxHeartbeats 4000000 in
theorem word16_calls (n : Int) (s : ByteArray) (x : ByteArray) (a : Option Addr) (L cap : Nat) (a2 : Option Addr) (m2 cap2 : Nat) (a3 : Option Addr) (m3 cap3 : Nat) (w : World) (hsz : x.size ≤ 1000000000000)
    (ha : ∀ W, Below w.heap.size w W → Calls Tryz.prog 47 #[.agg #[.int .i64 16, .int .i64 n, .string s, .slice a L cap, .slice a2 m2 cap2, .slice a3 m3 cap3], .int .i64 0] W (Gives W (.string x))) :
    Calls Tryz.prog 50 #[.agg #[.int .i64 16, .int .i64 n, .string s, .slice a L cap, .slice a2 m2 cap2, .slice a3 m3 cap3]] w (Gives w (.string (⟨#[97, 119, 97, 114, 100, 32]⟩ ++ x))) := by
  obtain ⟨W1, hW1⟩ : ∃ W1, w.alloc (.cells #[.int .i64 16, .int .i64 n, .string s, .slice a L cap, .slice a2 m2 cap2, .slice a3 m3 cap3] 27) = W1 := ⟨_, rfl⟩
  have hb1 : Below w.heap.size w W1 := by rw [← hW1]; exact (Below.refl _ _).alloc (Nat.le_refl _) _
  have hbx1 : BoxAt W1 w.heap.size [.int .i64 16, .int .i64 n, .string s, .slice a L cap, .slice a2 m2 cap2, .slice a3 m3 cap3] := by rw [← hW1]; exact BoxAt.new _ _ _
  have y0 := hbx1.2 0 (by simp); have y1 := hbx1.2 1 (by simp); have y2 := hbx1.2 2 (by simp); have y3 := hbx1.2 3 (by simp); have y4 := hbx1.2 4 (by simp); have y5 := hbx1.2 5 (by simp); simp only [cqs, cqz] at y0 y1 y2 y3 y4 y5
  have HC := Lib.hid (ha W1 hb1)
  have HW1 := Lib.hid hW1
  have HB1 := Lib.hid hb1
  clear ha hW1 hb1 hbx1
  go_enter Tryz.func50, Tryz.ntmps50
  go_upto_region 1 with fail
  rw [HW1.out]
  go_wp2_with (go_at_call 47; (with_reducible refine (HC.out).mono ?_); rintro e w1 ⟨rfl, hb⟩)
  go_ret
  exact ⟨rfl, bt HB1.out hb⟩
set_option maxRecDepth 100000 in
set_option maxHeartbeats 4000000 in
theorem word20_calls (n : Int) (s : ByteArray) (x : ByteArray) (a : Option Addr) (L cap : Nat) (a2 : Option Addr) (m2 cap2 : Nat) (a3 : Option Addr) (m3 cap3 : Nat) (w : World) (hsz : x.size ≤ 1000000000000)
    (ha : ∀ W, Below w.heap.size w W → Calls Tryz.prog 47 #[.agg #[.int .i64 20, .int .i64 n, .string s, .slice a L cap, .slice a2 m2 cap2, .slice a3 m3 cap3], .int .i64 0] W (Gives W (.string x))) :
    Calls Tryz.prog 50 #[.agg #[.int .i64 20, .int .i64 n, .string s, .slice a L cap, .slice a2 m2 cap2, .slice a3 m3 cap3]] w (Gives w (.string (⟨#[116, 114, 97, 118, 101, 108, 32]⟩ ++ x))) := by
  obtain ⟨W1, hW1⟩ : ∃ W1, w.alloc (.cells #[.int .i64 20, .int .i64 n, .string s, .slice a L cap, .slice a2 m2 cap2, .slice a3 m3 cap3] 27) = W1 := ⟨_, rfl⟩
  have hb1 : Below w.heap.size w W1 := by rw [← hW1]; exact (Below.refl _ _).alloc (Nat.le_refl _) _
  have hbx1 : BoxAt W1 w.heap.size [.int .i64 20, .int .i64 n, .string s, .slice a L cap, .slice a2 m2 cap2, .slice a3 m3 cap3] := by rw [← hW1]; exact BoxAt.new _ _ _
  have y0 := hbx1.2 0 (by simp); have y1 := hbx1.2 1 (by simp); have y2 := hbx1.2 2 (by simp); have y3 := hbx1.2 3 (by simp); have y4 := hbx1.2 4 (by simp); have y5 := hbx1.2 5 (by simp); simp only [cqs, cqz] at y0 y1 y2 y3 y4 y5
  have HC := Lib.hid (ha W1 hb1)
  have HW1 := Lib.hid hW1
  have HB1 := Lib.hid hb1
  clear ha hW1 hb1 hbx1
  go_enter Tryz.func50, Tryz.ntmps50
  go_upto_region 1 with fail
  rw [HW1.out]
  go_wp2_with (go_at_call 47; (with_reducible refine (HC.out).mono ?_); rintro e w1 ⟨rfl, hb⟩)
  go_ret
  exact ⟨rfl, bt HB1.out hb⟩
set_option maxRecDepth 100000 in
set_option maxHeartbeats 4000000 in
theorem word22_calls (n : Int) (s : ByteArray) (x : ByteArray) (a : Option Addr) (L cap : Nat) (a2 : Option Addr) (m2 cap2 : Nat) (a3 : Option Addr) (m3 cap3 : Nat) (w : World) (hsz : x.size ≤ 1000000000000)
    (ha : ∀ W, Below w.heap.size w W → Calls Tryz.prog 47 #[.agg #[.int .i64 22, .int .i64 n, .string s, .slice a L cap, .slice a2 m2 cap2, .slice a3 m3 cap3], .int .i64 0] W (Gives W (.string x))) :
    Calls Tryz.prog 50 #[.agg #[.int .i64 22, .int .i64 n, .string s, .slice a L cap, .slice a2 m2 cap2, .slice a3 m3 cap3]] w (Gives w (.string (⟨#[108, 105, 115, 116, 32]⟩ ++ x))) := by
  obtain ⟨W1, hW1⟩ : ∃ W1, w.alloc (.cells #[.int .i64 22, .int .i64 n, .string s, .slice a L cap, .slice a2 m2 cap2, .slice a3 m3 cap3] 27) = W1 := ⟨_, rfl⟩
  have hb1 : Below w.heap.size w W1 := by rw [← hW1]; exact (Below.refl _ _).alloc (Nat.le_refl _) _
  have hbx1 : BoxAt W1 w.heap.size [.int .i64 22, .int .i64 n, .string s, .slice a L cap, .slice a2 m2 cap2, .slice a3 m3 cap3] := by rw [← hW1]; exact BoxAt.new _ _ _
  have y0 := hbx1.2 0 (by simp); have y1 := hbx1.2 1 (by simp); have y2 := hbx1.2 2 (by simp); have y3 := hbx1.2 3 (by simp); have y4 := hbx1.2 4 (by simp); have y5 := hbx1.2 5 (by simp); simp only [cqs, cqz] at y0 y1 y2 y3 y4 y5
  have HC := Lib.hid (ha W1 hb1)
  have HW1 := Lib.hid hW1
  have HB1 := Lib.hid hb1
  clear ha hW1 hb1 hbx1
  go_enter Tryz.func50, Tryz.ntmps50
  go_upto_region 1 with fail
  rw [HW1.out]
  go_wp2_with (go_at_call 47; (with_reducible refine (HC.out).mono ?_); rintro e w1 ⟨rfl, hb⟩)
  go_ret
  exact ⟨rfl, bt HB1.out hb⟩
end Go.Proofs.YtnbfadgclffgkaaGreatDoor
