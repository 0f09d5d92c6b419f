/- The walk of clewref16.Light. Printed by gen-light2.py. -/
import Derived.Test.YtblhpiebheommaaGreatKindsChecksPart45
namespace Go.Proofs.YtblhpiebheommaaGreat
open Go.RowKit Go.Sort

theorem own_empty (w : World) (lo : Nat) (h : lo ≤ w.heap.size) : (w.alloc (.cells #[] 51)).ownsRow lo 51 3 (.slice (some ⟨w.heap.size, 0, none⟩) 0 0) 0 [] := ⟨rfl, .inr ⟨w.heap.size, 0, #[], rfl, h, by show (w.heap.push _)[w.heap.size]? = _; simp, Nat.le_refl _, Nat.zero_le _, rfl, rfl⟩⟩

set_option maxRecDepth 100000 in
set_option maxHeartbeats 8000000 in
theorem lightS_calls (s : SrcD) (F : Nat → Prop) (w : World) (ss : List Value) (hF : Inn F w) (h1 : Holds.src.R F w s ss) (hsm : s.parts ≤ 100000000) : Calls Tryz.prog 4 #[.agg ss.toArray] w (Gives w (.bool (dec (LightS s)))) := by
  have HWH := Lib.hid (fun (l : List Ex) (lv : Value) (hr : Exs F w l lv) W (hW : Below w.heap.size w W) => whenR_calls l F W lv (hF.below hW) (Exs.below hr hF hW (Nat.le_refl _)))
  have HLG := Lib.hid (fun (l : List St) (lv : Value) (hr : Sts F w l lv) W (hW : Below w.heap.size w W) => light_calls l F W lv (hF.below hW) (Sts.below hr hF hW (Nat.le_refl _)))
  obtain ⟨a5, c5, a6, c6, a7, c7, a8, c8, a9, c9, a10, c10, a11, c11, a12, c12, rfl, g5, g6, g7, g8, g9, g10, g11, g12⟩ := src_shape h1
  have HF := Lib.hid hF
  have G8 := Lib.hid g8
  have G10 := Lib.hid g10
  have hpl : s.parts ≤ 60 → s.objects.length ≤ 60 ∧ s.funcs.length + s.daemons.length ≤ 60 := fun h => by unfold SrcD.parts at h; omega
  have hof := fun (W : World) (hW : Below w.heap.size w W) (v : Value) (lo : Nat) (hown : W.ownsRow lo 51 3 v 0 []) (hv : v ≠ .slice none 0 0) (hlo : lo ≤ W.heap.size) (hp : s.parts ≤ 60) => own_funcs g11 hF hW hown hv hlo (by have := hpl hp; omega) 27
  have hod := fun (W : World) (hW : Below w.heap.size w W) (v : Value) (lo : Nat) (olds : List Value) (hown : W.ownsRow lo 51 3 v s.funcs.length olds) (hv : v ≠ .slice none 0 0) (hlo : lo ≤ W.heap.size) (hp : s.parts ≤ 60) => own_funcs g12 hF hW hown hv hlo (by have := hpl hp; omega) 27
  have HOF := Lib.hid hof
  have HOD := Lib.hid hod
  have hlens : s.objects.length ≤ maxLen ∧ s.verbs.length ≤ maxLen ∧ s.rules.length ≤ maxLen ∧ s.funcs.length ≤ maxLen ∧ s.daemons.length ≤ maxLen := ⟨g8.len, g9.len, g10.len, g11.len, g12.len⟩
  have HLEN := Lib.hid hlens
  have hA : Hid (∃ W0, w.alloc (.cells #[.string s.title, .string s.author, .string s.start, .int .i64 s.release, .int .i64 s.most, .slice a5 s.flags.length c5, .slice a6 s.props.length c6, .slice a7 s.globals.length c7, .slice a8 s.objects.length c8, .slice a9 s.verbs.length c9, .slice a10 s.rules.length c10, .slice a11 s.funcs.length c11, .slice a12 s.daemons.length c12] 29) = W0 ∧ Below w.heap.size w W0 ∧ BoxAt W0 w.heap.size [.string s.title, .string s.author, .string s.start, .int .i64 s.release, .int .i64 s.most, .slice a5 s.flags.length c5, .slice a6 s.props.length c6, .slice a7 s.globals.length c7, .slice a8 s.objects.length c8, .slice a9 s.verbs.length c9, .slice a10 s.rules.length c10, .slice a11 s.funcs.length c11, .slice a12 s.daemons.length c12] ∧ w.heap.size < W0.heap.size) := ⟨_, rfl, (Below.refl _ w).alloc (Nat.le_refl _) _, BoxAt.new _ _ _, by simp⟩
  obtain ⟨r, hr⟩ : ∃ r, dec (LightS s) = r := ⟨_, rfl⟩
  rw [hr]
  have HR := Lib.hid hr
  have HSM := Lib.hid hsm
  have hsum : s.objects.length + s.verbs.length + s.rules.length + s.funcs.length + s.daemons.length ≤ 100000000 := hsm
  clear h1 g5 g6 g7 g8 g9 g10 g11 g12 hF hof hod hlens hr hpl hsm
  go_enter Tryz.func4, Tryz.ntmps4
  go_upto_region 1 with fail
  obtain ⟨W0, hW0, hB0, hbox, hz0⟩ := hA.out
  rw [hW0]
  have HB0 := Lib.hid hB0
  have HBOX := Lib.hid hbox
  clear hA hW0 hB0 hbox
  have z8 := HBOX.out.2 8 (by simp)
  have z9 := HBOX.out.2 9 (by simp)
  have z10 := HBOX.out.2 10 (by simp)
  have z11 := HBOX.out.2 11 (by simp)
  have z12 := HBOX.out.2 12 (by simp)
  simp only [List.getElem?_cons_succ, List.getElem?_cons_zero] at z8 z9 z10 z11 z12
  have hk1 : Hid (∀ W, Below W0.heap.size W0 W → BoxAt W w.heap.size [.string s.title, .string s.author, .string s.start, .int .i64 s.release, .int .i64 s.most, .slice a5 s.flags.length c5, .slice a6 s.props.length c6, .slice a7 s.globals.length c7, .slice a8 s.objects.length c8, .slice a9 s.verbs.length c9, .slice a10 s.rules.length c10, .slice a11 s.funcs.length c11, .slice a12 s.daemons.length c12] ∧ Below w.heap.size w W) := fun W hW => ⟨HBOX.out.below hW HBOX.out.1, HB0.out.trans (hW.mono HB0.out.size)⟩
  by_cases hp : s.parts ≤ 60
  rotate_left
  · have hfin : Hid (r = false) := by show _ = _; rw [← HR.out]; exact dec_false fun h => hp h.1
    have hgt : decide (((s.objects.length : Int) + s.verbs.length + s.rules.length + s.funcs.length + s.daemons.length) > 60) = true := by unfold SrcD.parts at hp; simp; omega
    clear hp
    go_wp2_with fail
    go_ret
    exact ⟨ret_bool hfin.out.symm, HB0.out⟩
  have hgt : decide (((s.objects.length : Int) + s.verbs.length + s.rules.length + s.funcs.length + s.daemons.length) > 60) = false := by unfold SrcD.parts at hp; simp; omega
  have HP := Lib.hid hp
  clear hp
  go_upto_region 3 with fail
  clear hgt hsum z9 z11 z12
  have hlo := HLEN.out.1
  have hlr := HLEN.out.2.2.1
  unfold maxLen at hlo hlr
  obtain ⟨_, _, he8, hl8, hc8, h8⟩ := (G8.out).opn
  cases he8
  unfold maxLen at hc8
  go_wp2_with fail
  go_loopw [34] (fun i wr => ∃ k : Nat, k ≤ s.objects.length ∧ i = .int .i64 k ∧ Hid (∀ m (hm : m < s.objects.length), m < k → ∀ x ∈ s.objects[m].exits, WhenB x.cond) ∧ Below W0.heap.size W0 wr) (fun i _ => s.objects.length - (intOf i).toNat)
  case atStart => exact ⟨0, Nat.zero_le _, rfl, fun m hm h => absurd h (by omega), Below.refl _ _⟩
  case round =>
    obtain ⟨k, hk, rfl, hinv, hB⟩ := hrel
    have HB := Lib.hid hB
    obtain ⟨hbs, hbt⟩ := hk1.out wr hB
    by_cases hlt : k < s.objects.length
    · obtain ⟨ob, off, rfl, hFob, hel⟩ := h8 (by omega)
      obtain ⟨cs, ⟨-, -, -, -, v5, v6, v7, v8, v9, rfl, j5, j6, j7, j8, j9⟩, -, hcell⟩ := hel w rfl k hlt
      obtain ⟨d5, f5, rfl⟩ := j5.shape
      obtain ⟨d6, f6, rfl⟩ := j6.shape
      obtain ⟨d7, f7, rfl⟩ := j7.shape
      obtain ⟨d8, f8, rfl⟩ := j8.shape
      obtain ⟨d9, f9, rfl⟩ := j9.shape
      have hbl := fun j => World.cell?_of_block (w := w) (w' := wr) (a := ⟨ob, off + k * 10 + j, none⟩) (hbt.block ob (HF.out ob hFob))
      have hnx : (∀ x ∈ s.objects[k].exits, WhenB x.cond) → ∀ m (hm : m < s.objects.length), m < k + 1 → ∀ x ∈ s.objects[m].exits, WhenB x.cond := fun h m hm hmk => by
        by_cases hmk2 : m = k
        · subst hmk2; exact h
        · exact hinv.out m hm (by omega)
      have hno : (∃ x ∈ s.objects[k].exits, ¬ WhenB x.cond) → r = false := fun ⟨x, hx, hx2⟩ => by rw [← HR.out]; exact dec_false fun h => hx2 (h.2.1 _ (List.getElem_mem hlt) x hx)
      generalize s.objects[k] = x at hcell j5 j6 j7 j8 j9 hnx hno
      have y0 := (hbl 0).trans (hcell 0 _ rfl)
      have y1 := (hbl 1).trans (hcell 1 _ rfl)
      have y2 := (hbl 2).trans (hcell 2 _ rfl)
      have y3 := (hbl 3).trans (hcell 3 _ rfl)
      have y4 := (hbl 4).trans (hcell 4 _ rfl)
      have y5 := (hbl 5).trans (hcell 5 _ rfl)
      have y6 := (hbl 6).trans (hcell 6 _ rfl)
      have y7 := (hbl 7).trans (hcell 7 _ rfl)
      have y8 := (hbl 8).trans (hcell 8 _ rfl)
      have y9 := (hbl 9).trans (hcell 9 _ rfl)
      simp only [Nat.add_zero] at y0
      have HNX := Lib.hid hnx
      have HNO := Lib.hid hno
      have J9 := Lib.hid j9
      have HBT := Lib.hid hbt
      have hA : Hid (∃ wx bx, wr.alloc (.cells #[.string x.name, .string x.title, .string x.inn, .string x.text, .bool x.room, .slice d5 x.words.length f5, .slice d6 x.adjs.length f6, .slice d7 x.flags.length f7, .slice d8 x.props.length f8, .slice d9 x.exits.length f9] 41) = wx ∧ wr.heap.size = bx ∧ Below wr.heap.size wr wx ∧ BoxAt wx bx [.string x.name, .string x.title, .string x.inn, .string x.text, .bool x.room, .slice d5 x.words.length f5, .slice d6 x.adjs.length f6, .slice d7 x.flags.length f7, .slice d8 x.props.length f8, .slice d9 x.exits.length f9]) := ⟨_, _, rfl, rfl, (Below.refl _ wr).alloc (Nat.le_refl _) _, BoxAt.new _ _ _⟩
      have hki : (k : Int) < (s.objects.length : Int) := by omega
      have hki0 : (0 : Int) ≤ (k : Int) := by omega
      clear hel hcell j5 j6 j7 j8 j9 hbl hnx hno hB hbs hbt h8 hinv
      go_upto_region 6 with fail
      obtain ⟨wx, bx, hwx, hbx, hBx0, hbox⟩ := hA.out
      rw [hwx]
      simp only [hbx]
      have HBx := Lib.hid (HB.out.trans (hBx0.mono HB.out.size))
      have t9 := hbox.2 9 (by simp)
      simp only [List.getElem?_cons_succ, List.getElem?_cons_zero] at t9
      obtain ⟨_, _, he9, hl9, hc9, h9⟩ := (J9.out).opn
      cases he9
      unfold maxLen at hc9
      clear hA hwx hbx hBx0 hbox y0 y1 y2 y3 y4 y5 y6 y7 y8 y9
      go_wp2_with fail
      clear t9
      obtain ⟨wo, rfl⟩ : ∃ wo : World, wo = wr := ⟨_, rfl⟩
      go_loopw [41] (fun i wr => ∃ j : Nat, j ≤ x.exits.length ∧ i = .int .i64 j ∧ Hid (∀ m (hm : m < x.exits.length), m < j → WhenB x.exits[m].cond) ∧ Below wx.heap.size wx wr) (fun i _ => x.exits.length - (intOf i).toNat)
      case atStart => exact ⟨0, Nat.zero_le _, rfl, fun m hm h => absurd h (by omega), Below.refl _ _⟩
      case round =>
        obtain ⟨j, hj, rfl, hinv, hB⟩ := hrel
        have HBj := Lib.hid (HBx.out.trans (hB.mono HBx.out.size))
        obtain ⟨hbs, hbt⟩ := hk1.out wr HBj.out
        have HBT2 := Lib.hid hbt
        have HBj2 := Lib.hid hB
        by_cases hlt2 : j < x.exits.length
        · obtain ⟨b9, off9, rfl, hFb9, hel9⟩ := h9 (by omega)
          obtain ⟨cs9, ⟨-, -, -, v, rfl, hex⟩, -, hcell9⟩ := hel9 w rfl j hlt2
          obtain ⟨xa, xc, rfl⟩ := hex.shape
          have hbl := fun m => World.cell?_of_block (w := w) (w' := wr) (a := ⟨b9, off9 + j * 4 + m, none⟩) (hbt.block b9 (HF.out b9 hFb9))
          have hnx : WhenB x.exits[j].cond → ∀ m (hm : m < x.exits.length), m < j + 1 → WhenB x.exits[m].cond := fun h m hm hmk => by
            by_cases hmk2 : m = j
            · subst hmk2; exact h
            · exact hinv.out m hm (by omega)
          have hno : ¬ WhenB x.exits[j].cond → r = false := fun h => HNO.out ⟨_, List.getElem_mem hlt2, h⟩
          have hwn := HWH.out _ _ hex
          generalize x.exits[j] = y at hcell9 hex hnx hno hwn
          have e0 := (hbl 0).trans (hcell9 0 _ rfl)
          have e1 := (hbl 1).trans (hcell9 1 _ rfl)
          have e2 := (hbl 2).trans (hcell9 2 _ rfl)
          have e3 := (hbl 3).trans (hcell9 3 _ rfl)
          simp only [Nat.add_zero] at e0
          have hal : ∀ o, Below w.heap.size w (wr.alloc o) := fun o => hbt.alloc hbt.size o
          have HWN := Lib.hid (fun o => hwn (wr.alloc o) (hal o))
          have hji : (j : Int) < (x.exits.length : Int) := by omega
          have hji0 : (0 : Int) ≤ (j : Int) := by omega
          clear hel9 hcell9 hex hbl h9 hB hbs hbt hinv hwn hal
          by_cases hw : WhenB y.cond
          · rw [dec_true hw] at HWN
            have hnx2 := Lib.hid (hnx hw)
            clear hnx hno hw
            go_wp2_with (go_at_call 9; refine (HWN.out _).mono ?_; rintro e w1 ⟨rfl, hb⟩)
            go_roundw
            case rel => exact ⟨j + 1, by omega, by go_num, hnx2.out, below_on1 HBj2.out (Nat.le_refl _) hb⟩
            case measure => simp [intOf]; omega
          · rw [dec_false hw] at HWN
            have hfin := Lib.hid (hno hw)
            clear hnx hno hw
            go_wp2_with (go_at_call 9; refine (HWN.out _).mono ?_; rintro e w1 ⟨rfl, hb⟩)
            go_ret
            exact ⟨ret_bool hfin.out.symm, below_on1 HBT2.out (Nat.le_refl _) hb⟩
        · have hnx2 : Hid (∀ m (hm : m < s.objects.length), m < k + 1 → ∀ x ∈ s.objects[m].exits, WhenB x.cond) := HNX.out fun y hy => by
            obtain ⟨m, hm, rfl⟩ := List.getElem_of_mem hy
            exact hinv.out m hm (by omega)
          have hji : decide ((j : Int) < (x.exits.length : Int)) = false := by simpa using hlt2
          clear hinv hB hbs hbt h9
          go_wp2_with fail
          go_roundw
          case rel => exact ⟨k + 1, by omega, by go_num, hnx2.out, HBj.out⟩
          case measure => simp [intOf]; omega
    · have HOBJ : Hid (∀ o ∈ s.objects, ∀ x ∈ o.exits, WhenB x.cond) := fun o ho => by
        obtain ⟨m, hm, rfl⟩ := List.getElem_of_mem ho
        exact hinv.out m hm (by omega)
      have hki : decide ((k : Int) < (s.objects.length : Int)) = false := by simpa using hlt
      have z10 := hbs.2 10 (by simp)
      simp only [List.getElem?_cons_succ, List.getElem?_cons_zero] at z10
      obtain ⟨_, _, he10, hl10, hc10, h10⟩ := (G10.out).opn
      cases he10
      unfold maxLen at hc10
      clear hinv hB hbs h8
      go_wp2_with fail
      obtain ⟨wo, rfl⟩ : ∃ wo : World, wo = wr := ⟨_, rfl⟩
      go_loopw [54] (fun i wr => ∃ k2 : Nat, k2 ≤ s.rules.length ∧ i = .int .i64 k2 ∧ Hid (∀ m (hm : m < s.rules.length), m < k2 → WhenB s.rules[m].cond ∧ LightB s.rules[m].body) ∧ Below W0.heap.size W0 wr) (fun i _ => s.rules.length - (intOf i).toNat)
      case atStart => exact ⟨0, Nat.zero_le _, rfl, fun m hm h => absurd h (by omega), HB.out⟩
      case round =>
        clear hki z10
        obtain ⟨k2, hk2, rfl, hinv, hB⟩ := hrel
        have HB2 := Lib.hid hB
        obtain ⟨hbs, hbt⟩ := hk1.out wr hB
        by_cases hlt2 : k2 < s.rules.length
        · obtain ⟨ob, off, rfl, hFob, hel⟩ := h10 (by omega)
          obtain ⟨cs, ⟨-, -, -, -, v4, v5, rfl, j4, j5⟩, -, hcell⟩ := hel w rfl k2 hlt2
          obtain ⟨p4, q4, rfl⟩ := j4.shape
          obtain ⟨p5, q5, rfl⟩ := j5.shape
          have hbl := fun j => World.cell?_of_block (w := w) (w' := wr) (a := ⟨ob, off + k2 * 6 + j, none⟩) (hbt.block ob (HF.out ob hFob))
          have hnx : (WhenB s.rules[k2].cond ∧ LightB s.rules[k2].body) → ∀ m (hm : m < s.rules.length), m < k2 + 1 → WhenB s.rules[m].cond ∧ LightB s.rules[m].body := fun h m hm hmk => by
            by_cases hmk2 : m = k2
            · subst hmk2; exact h
            · exact hinv.out m hm (by omega)
          have hno : ¬ (WhenB s.rules[k2].cond ∧ LightB s.rules[k2].body) → r = false := fun h => by rw [← HR.out]; exact dec_false fun hh => h (hh.2.2.1 _ (List.getElem_mem hlt2))
          have hwn := HWH.out _ _ j4
          have hlg := HLG.out _ _ j5
          generalize s.rules[k2] = x at hcell j4 j5 hnx hno hwn hlg
          have y0 := (hbl 0).trans (hcell 0 _ rfl)
          have y1 := (hbl 1).trans (hcell 1 _ rfl)
          have y2 := (hbl 2).trans (hcell 2 _ rfl)
          have y3 := (hbl 3).trans (hcell 3 _ rfl)
          have y4 := (hbl 4).trans (hcell 4 _ rfl)
          have y5 := (hbl 5).trans (hcell 5 _ rfl)
          simp only [Nat.add_zero] at y0
          have hA : Hid (∃ wx bx, wr.alloc (.cells #[.string x.verb, .int .i64 x.phase, .string x.noun, .string x.second, .slice p4 x.cond.length q4, .slice p5 x.body.length q5] 48) = wx ∧ wr.heap.size = bx ∧ Below wr.heap.size wr wx ∧ BoxAt wx bx [.string x.verb, .int .i64 x.phase, .string x.noun, .string x.second, .slice p4 x.cond.length q4, .slice p5 x.body.length q5]) := ⟨_, _, rfl, rfl, (Below.refl _ wr).alloc (Nat.le_refl _) _, BoxAt.new _ _ _⟩
          have hki : (k2 : Int) < (s.rules.length : Int) := by omega
          have hki0 : (0 : Int) ≤ (k2 : Int) := by omega
          have HBT := Lib.hid hbt
          have HNX := Lib.hid hnx
          have HNO := Lib.hid hno
          clear hel hcell j4 j5 hbl hnx hno hB hbs hbt h10 hinv
          go_upto_region 16 with fail
          obtain ⟨wx, bx, hwx, hbx, hBx0, hbox⟩ := hA.out
          rw [hwx]
          simp only [hbx]
          have HBx := Lib.hid (HB2.out.trans (hBx0.mono HB2.out.size))
          have hbtx : Below w.heap.size w wx := HBT.out.trans (hBx0.mono HBT.out.size)
          have HBTx := Lib.hid hbtx
          have HXB := Lib.hid hbox
          have t4 := hbox.2 4 (by simp)
          simp only [List.getElem?_cons_succ, List.getElem?_cons_zero] at t4
          have hwn2 := hwn wx hbtx
          have HLG2 := Lib.hid (fun W (hW : Below wx.heap.size wx W) => hlg W (hbtx.trans (hW.mono hbtx.size)))
          clear hA hwx hbx hBx0 hbox hbtx y0 y1 y2 y3 y4 y5 hwn hlg
          by_cases hw : WhenB x.cond
          · rw [dec_true hw] at hwn2
            have HWN := Lib.hid hwn2
            by_cases hg : LightB x.body
            · rw [dec_true hg] at HLG2
              have hnx2 := Lib.hid (HNX.out ⟨hw, hg⟩)
              clear hw hg hwn2
              go_wp2_with (first | (go_at_call 9; refine HWN.out.mono ?_; rintro e w1 ⟨rfl, hb⟩; have t5 := (HXB.out.below hb HXB.out.1).2 5 (by simp); simp only [List.getElem?_cons_succ, List.getElem?_cons_zero] at t5) | (go_at_call 10; refine (HLG2.out _ hb).mono ?_; rintro e w2 ⟨rfl, hb2⟩))
              go_roundw
              case rel => exact ⟨k2 + 1, by omega, by go_num, hnx2.out, HBx.out.trans ((hb.trans (hb2.mono hb.size)).mono HBx.out.size)⟩
              case measure => simp [intOf]; omega
            · rw [dec_false hg] at HLG2
              have hfin := Lib.hid (HNO.out (fun h => hg h.2))
              clear hw hg hwn2
              go_wp2_with (first | (go_at_call 9; refine HWN.out.mono ?_; rintro e w1 ⟨rfl, hb⟩; have t5 := (HXB.out.below hb HXB.out.1).2 5 (by simp); simp only [List.getElem?_cons_succ, List.getElem?_cons_zero] at t5) | (go_at_call 10; refine (HLG2.out _ hb).mono ?_; rintro e w2 ⟨rfl, hb2⟩))
              go_ret
              exact ⟨ret_bool hfin.out.symm, HBTx.out.trans ((hb.trans (hb2.mono hb.size)).mono HBTx.out.size)⟩
          · rw [dec_false hw] at hwn2
            have HWN := Lib.hid hwn2
            have hfin := Lib.hid (HNO.out (fun h => hw h.1))
            clear hw hwn2 HLG2
            go_wp2_with (go_at_call 9; refine HWN.out.mono ?_; rintro e w1 ⟨rfl, hb⟩)
            go_ret
            exact ⟨ret_bool hfin.out.symm, HBTx.out.trans (hb.mono HBTx.out.size)⟩
        · have HRUL : Hid (∀ o ∈ s.rules, WhenB o.cond ∧ LightB o.body) := fun o ho => by
            obtain ⟨m, hm, rfl⟩ := List.getElem_of_mem ho
            exact hinv.out m hm (by omega)
          have hki : decide ((k2 : Int) < (s.rules.length : Int)) = false := by simpa using hlt2
          have HBT := Lib.hid hbt
          clear hinv hB hbs hbt h10
          go_upto_region 19 with fail
          go_cut [75, 76, 77] (fun v75 v76 v77 wc => Hid (∃ (g gc : Nat) (ns : List Value), v75 = .slice (some ⟨g, 0, none⟩) (s.funcs.length + s.daemons.length) gc ∧ v76 = .int .i64 ((s.funcs.length + s.daemons.length : Nat) : Int) ∧ v77 = .int .i64 0 ∧ FRow F w (s.funcs ++ s.daemons) ns ∧ (∀ j, j < (s.funcs.length + s.daemons.length) * 3 → ∀ u, ns[j]? = some u → wc.cell? ⟨g, j, none⟩ = some u) ∧ g < wc.heap.size ∧ s.funcs.length + s.daemons.length ≤ gc ∧ gc ≤ 9223372036854775807 ∧ Below wr.heap.size wr wc))
          case first =>
            refine wp_region_held_drew (S := fun W => Below wr.heap.size wr W) (by kernel_rfl) (Below.refl _ _).drew (fun hHeld => ?_)
            refine wpAnyH_take (i := 1) (v := .pointer (some ⟨w.heap.size, 11, none⟩)) rfl (by kernel_rfl) (by kernel_rfl) (by kernel_rfl) (fun _ _ _ h => h) (Or.inl ⟨by rfl, ?_⟩) (by assumption) ?_
            · intro W hW
              go_simp
            simp only [Act.put]
            refine wpAnyH_take (i := 2) (v := .slice a11 s.funcs.length c11) rfl (by kernel_rfl) (by kernel_rfl) (by kernel_rfl) (fun _ _ _ h => h) (Or.inl ⟨by rfl, ?_⟩) (by assumption) ?_
            · intro W hW
              have hb := (hk1.out W (HB2.out.trans (hW.mono HB2.out.size))).1
              have x11 := hb.2 11 (by simp)
              simp only [List.getElem?_cons_succ, List.getElem?_cons_zero] at x11
              go_simp
            simp only [Act.put]
            refine wpAnyH_take (i := 4) (v := .pointer (some ⟨w.heap.size, 12, none⟩)) rfl (by kernel_rfl) (by kernel_rfl) (by kernel_rfl) (fun _ _ _ h => h) (Or.inl ⟨by rfl, ?_⟩) (by assumption) ?_
            · intro W hW
              go_simp
            simp only [Act.put]
            refine wpAnyH_take (i := 5) (v := .slice a12 s.daemons.length c12) rfl (by kernel_rfl) (by kernel_rfl) (by kernel_rfl) (fun _ _ _ h => h) (Or.inl ⟨by rfl, ?_⟩) (by assumption) ?_
            · intro W hW
              have hb := (hk1.out W (HB2.out.trans (hW.mono HB2.out.size))).1
              have x12 := hb.2 12 (by simp)
              simp only [List.getElem?_cons_succ, List.getElem?_cons_zero] at x12
              go_simp
            simp only [Act.put]
            refine wpAnyH_take (i := 8) (v := .int .i64 0) rfl (by kernel_rfl) (by kernel_rfl) (by kernel_rfl) (fun _ _ _ h => h) (Or.inl ⟨by rfl, ?_⟩) (by assumption) ?_
            · intro W hW
              go_simp
            simp only [Act.put]
            refine wpAnyH_ready (rs := [0]) (by kernel_rfl) (by simp) ?_
            refine AllReadyH.cons rfl (fun K hK => ?_) AllReadyH.nil
            go_simp
            have hW2 : Below wr.heap.size wr (wr.alloc (.cells #[] 51)).drew := ((Below.refl _ wr).alloc (Nat.le_refl _) _).drew
            refine hK.out _ _ hW2 (fun hHeld => ?_)
            clear hK K
            obtain ⟨v1, w1, ns1, hrun1, hown1, hv1, hb1, hrow1⟩ := HOF.out (wr.alloc (.cells #[] 51)).drew (HBT.out.trans (hW2.mono HBT.out.size)) (.slice (some ⟨wr.heap.size, 0, none⟩) 0 0) wr.heap.size (own_empty wr wr.heap.size (Nat.le_refl _)) (by simp) hW2.size HP.out
            refine wpAnyH_ready (rs := [3]) (by kernel_rfl) (by simp) ?_
            refine AllReadyH.cons rfl (fun K hK => ?_) AllReadyH.nil
            refine step_run rfl (.tmp 69) (.tmp 71) 27 rfl _ _ v1 w1 rfl rfl hrun1 ?_
            go_simp
            have hS1 : Below wr.heap.size wr w1 := hW2.trans hb1
            refine hK.out _ _ hS1 (fun hHeld => ?_)
            clear hK K
            obtain ⟨v2, w2, ns2, hrun2, hown2, hv2, hb2, hrow2⟩ := HOD.out w1 (HBT.out.trans (hS1.mono HBT.out.size)) v1 wr.heap.size ns1 (by simpa using hown1) hv1 hS1.size HP.out
            refine wpAnyH_ready (rs := [6]) (by kernel_rfl) (by simp) ?_
            refine AllReadyH.cons rfl (fun K hK => ?_) AllReadyH.nil
            refine step_run rfl (.tmp 72) (.tmp 74) 27 rfl _ _ v2 w2 rfl rfl hrun2 ?_
            go_simp
            have hS2 : Below wr.heap.size wr w2 := hS1.trans hb2
            refine hK.out _ _ hS2 (fun hHeld => ?_)
            clear hK K
            obtain ⟨g, gc, rfl⟩ : ∃ g gc, v2 = .slice (some ⟨g, 0, none⟩) (s.funcs.length + s.daemons.length) gc := by
              rcases hown2.2 with ⟨e, _⟩ | ⟨g, cp, cur, e, h⟩
              · exact absurd e hv2
              · exact ⟨g, cp, e⟩
            have hfr := hrow1.append hrow2
            have hgc : s.funcs.length + s.daemons.length ≤ gc := by
              rcases hown2.2 with ⟨e, _⟩ | ⟨g2, cp, cur, e, h1, h2, h3, h4⟩
              · exact absurd e hv2
              · cases e; exact h3
            have hcl : Hid (∀ j, j < (s.funcs.length + s.daemons.length) * 3 → ∀ u, (ns1 ++ ns2)[j]? = some u → w2.cell? ⟨g, j, none⟩ = some u) := fun j hj u hu => by
              rw [own_cell hown2 j hj, List.getD_eq_getElem?_getD, hu]; rfl
            have hgl : g < w2.heap.size := (ownsRow_in hown2 g rfl).2
            have hgcm : gc ≤ 9223372036854775807 := by
              rcases hown2.2 with ⟨e, _⟩ | ⟨g2, cp, cur, e, h1, h2, h3, h4, h5⟩
              · exact absurd e hv2
              · cases e; unfold maxLen at h4; exact h4
            have hREL : Hid (∃ ns : List Value, FRow F w (s.funcs ++ s.daemons) ns ∧ (∀ j, j < (s.funcs.length + s.daemons.length) * 3 → ∀ u, ns[j]? = some u → w2.cell? ⟨g, j, none⟩ = some u) ∧ g < w2.heap.size ∧ s.funcs.length + s.daemons.length ≤ gc ∧ gc ≤ 9223372036854775807 ∧ Below wr.heap.size wr w2) := ⟨_, hfr, hcl.out, hgl, hgc, hgcm, hS2⟩
            clear hrun1 hrun2 hown1 hown2 hb1 hb2 hrow1 hrow2 hfr hS1 hS2 hW2 hv1 hv2 hgc hgl hcl hgcm
            refine wpAnyH_ready (rs := [7]) (by kernel_rfl) (by simp) ?_
            refine AllReadyH.cons rfl (fun K hK => ?_) AllReadyH.nil
            go_simp
            refine hK.out _ _ (hREL.out.choose_spec.2.2.2.2.2) (fun hHeld => ?_)
            clear hK K
            refine wpAnyH_done (by kernel_rfl) ?_ _
            go_wp2_with fail
            go_meet
            obtain ⟨ns, hr1, hr2, hr3, hr4, hr5, hr6⟩ := hREL.out
            exact ⟨g, gc, ns, rfl, by first | rfl | simp, rfl, hr1, hr2, hr3, hr4, hr5, hr6⟩
          case rest =>
            obtain ⟨g, gc, ns, rfl, rfl, rfl, hfr, hcl0, hgl, hgc, hgcm, hS2⟩ := hcut.out
            have hcl := Lib.hid hcl0
            have HFR := Lib.hid hfr
            have HSX := Lib.hid (HBT.out.trans (hS2.mono HBT.out.size))
            have HS3 := Lib.hid (HB2.out.trans (hS2.mono HB2.out.size))
            have hnl : (s.funcs ++ s.daemons).length = s.funcs.length + s.daemons.length := List.length_append
            have hsm60 : s.funcs.length + s.daemons.length ≤ 60 := by have := HP.out; unfold SrcD.parts at this; omega
            clear hfr hS2 hcut hcl0
            generalize hall : s.funcs ++ s.daemons = all at HFR hnl
            have HALL := Lib.hid hall
            clear hall
            rw [← hnl] at hcl hgc hsm60 ⊢
            clear hnl
            obtain ⟨w2, hw2⟩ : ∃ w2, w2 = wc := ⟨_, rfl⟩
            rw [← hw2] at hcl hgl HSX HS3 ⊢
            clear hw2
            go_wp2_with fail
            obtain ⟨wo3, rfl⟩ : ∃ wo3 : World, wo3 = wr := ⟨_, rfl⟩
            go_loopw [77] (fun i wr => ∃ k3 : Nat, k3 ≤ all.length ∧ i = .int .i64 k3 ∧ Hid (∀ m (hm : m < all.length), m < k3 → LightB all[m].body ∧ all[m].params.length ≤ 8) ∧ Below w2.heap.size w2 wr) (fun i _ => all.length - (intOf i).toNat)
            case atStart => exact ⟨0, Nat.zero_le _, rfl, fun m hm h => absurd h (by omega), Below.refl _ _⟩
            case round =>
              obtain ⟨k3, hk3, rfl, hinv, hB⟩ := hrel
              have HB3 := Lib.hid hB
              have hbt : Below w.heap.size w wr := HSX.out.trans (hB.mono HSX.out.size)
              have HBT3 := Lib.hid hbt
              by_cases hlt3 : k3 < all.length
              · obtain ⟨p1, q1, p2, q2, e0, e1, e2, hbody⟩ := HFR.out.2 k3 hlt3
                have y0 := (hB.cell (p := ⟨g, k3 * 3, none⟩) hgl).trans (hcl.out (k3 * 3) (by omega) _ e0)
                have y1 := (hB.cell (p := ⟨g, k3 * 3 + 1, none⟩) hgl).trans (hcl.out (k3 * 3 + 1) (by omega) _ e1)
                have y2 := (hB.cell (p := ⟨g, k3 * 3 + 2, none⟩) hgl).trans (hcl.out (k3 * 3 + 2) (by omega) _ e2)
                have hnx : (LightB all[k3].body ∧ all[k3].params.length ≤ 8) → ∀ m (hm : m < all.length), m < k3 + 1 → LightB all[m].body ∧ all[m].params.length ≤ 8 := fun h m hm hmk => by
                  by_cases hmk2 : m = k3
                  · subst hmk2; exact h
                  · exact hinv.out m hm (by omega)
                have hno : ¬ (LightB all[k3].body ∧ all[k3].params.length ≤ 8) → r = false := fun h => by rw [← HR.out]; exact dec_false fun hh => h (hh.2.2.2 _ (by rw [HALL.out]; exact List.getElem_mem hlt3))
                have hlg := HLG.out _ _ hbody
                generalize all[k3] = x at y0 y1 y2 hnx hno hlg hbody
                have hA : Hid (∃ wx bx, wr.alloc (.cells #[.string x.name, .slice p1 x.params.length q1, .slice p2 x.body.length q2] 51) = wx ∧ wr.heap.size = bx ∧ Below wr.heap.size wr wx ∧ BoxAt wx bx [.string x.name, .slice p1 x.params.length q1, .slice p2 x.body.length q2]) := ⟨_, _, rfl, rfl, (Below.refl _ wr).alloc (Nat.le_refl _) _, BoxAt.new _ _ _⟩
                have hki : (k3 : Int) < (all.length : Int) := by omega
                have hki0 : (0 : Int) ≤ (k3 : Int) := by omega
                have HNX := Lib.hid hnx
                have HNO := Lib.hid hno
                clear e0 e1 e2 hbody hnx hno hB hbt hinv
                go_upto_region 22 with fail
                obtain ⟨wx, bx, hwx, hbx, hBx0, hbox⟩ := hA.out
                rw [hwx]
                simp only [hbx]
                have HBx := Lib.hid (HB3.out.trans (hBx0.mono HB3.out.size))
                have hbtx : Below w.heap.size w wx := HBT3.out.trans (hBx0.mono HBT3.out.size)
                have HBTx := Lib.hid hbtx
                have HXB := Lib.hid hbox
                have t2 := hbox.2 2 (by simp)
                simp only [List.getElem?_cons_succ, List.getElem?_cons_zero] at t2
                have hlg2 := hlg wx hbtx
                clear hA hwx hbx hBx0 hbox hbtx y0 y1 y2 hlg
                by_cases hg : LightB x.body
                · rw [dec_true hg] at hlg2
                  have HLG2 := Lib.hid hlg2
                  by_cases h8 : x.params.length ≤ 8
                  · have hnx2 := Lib.hid (HNX.out ⟨hg, h8⟩)
                    have hd8 : decide ((x.params.length : Int) > 8) = false := by simp; omega
                    clear hg h8 hlg2
                    go_wp2_with (go_at_call 10; refine HLG2.out.mono ?_; rintro e w3 ⟨rfl, hb⟩; have t1 := (HXB.out.below hb HXB.out.1).2 1 (by simp); simp only [List.getElem?_cons_succ, List.getElem?_cons_zero] at t1)
                    go_roundw
                    case rel => exact ⟨k3 + 1, by omega, by go_num, hnx2.out, HBx.out.trans (hb.mono HBx.out.size)⟩
                    case measure => simp [intOf]; omega
                  · have hfin := Lib.hid (HNO.out (fun h => h8 h.2))
                    have hd8 : decide ((x.params.length : Int) > 8) = true := by simp; omega
                    clear hg h8 hlg2
                    go_wp2_with (go_at_call 10; refine HLG2.out.mono ?_; rintro e w3 ⟨rfl, hb⟩; have t1 := (HXB.out.below hb HXB.out.1).2 1 (by simp); simp only [List.getElem?_cons_succ, List.getElem?_cons_zero] at t1)
                    go_ret
                    exact ⟨ret_bool hfin.out.symm, HBTx.out.trans (hb.mono HBTx.out.size)⟩
                · rw [dec_false hg] at hlg2
                  have HLG2 := Lib.hid hlg2
                  have hfin := Lib.hid (HNO.out (fun h => hg h.1))
                  clear hg hlg2
                  go_wp2_with (go_at_call 10; refine HLG2.out.mono ?_; rintro e w3 ⟨rfl, hb⟩)
                  go_ret
                  exact ⟨ret_bool hfin.out.symm, HBTx.out.trans (hb.mono HBTx.out.size)⟩
              · have hfin : Hid (r = true) := by
                  show _ = _
                  rw [← HR.out]
                  exact dec_true ⟨HP.out, HOBJ.out, HRUL.out, fun f hf => by
                    rw [HALL.out] at hf
                    obtain ⟨m, hm, rfl⟩ := List.getElem_of_mem hf
                    exact hinv.out m hm (by omega)⟩
                have hki : decide ((k3 : Int) < (all.length : Int)) = false := by simpa using hlt3
                clear hinv hB hbt
                go_wp2_with fail
                go_ret
                exact ⟨ret_bool hfin.out.symm, HBT3.out⟩
end Go.Proofs.YtblhpiebheommaaGreat
