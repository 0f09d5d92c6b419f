/- The walk of clewlaw16.KindsChecks: it returns true. Printed by gen-lawchecks.py. -/
import Derived.Test.YtblhpiebheommaaGreatRefG
import Derived.Test.YtblhpiebheommaaGreatKindsChecksPart44
import Derived.Test.YtblhpiebheommaaGreatLight2
import Derived.Lib.QuietBelow
namespace Go.Proofs.YtblhpiebheommaaGreat
open Go.RowKit Go.Sort Go.Lib

theorem fault_shape (f : Int → Nat → Int × ByteArray) (o : Option (Int × Nat)) : ∃ a b c d, faultV f o = .agg #[.int .i64 a, .int .i64 b, .int .i64 c, .string d] := by
  cases o with
  | none => exact ⟨_, _, _, _, rfl⟩
  | some x => exact ⟨_, _, _, _, rfl⟩
theorem St.sizes_in : ∀ l : List St, St.sizes l ≤ St.totals l := by
  refine blocks_ind fun l ih => ?_
  induction l with
  | nil => exact Nat.le_refl _
  | cons s r ihr =>
    obtain ⟨h1, h2⟩ := ih s (List.mem_cons_self ..)
    have h3 := ihr fun x hx => ih x (List.mem_cons_of_mem _ hx)
    have h4 := St.size_eq s
    obtain ⟨k, n, nm, args, body, els⟩ := s
    simp only [St.sizes, St.totals, St.total, St.body, St.els] at *
    omega
theorem light_sizes {l : List St} (h : LightB l) : St.lones l ∧ St.sizes l ≤ 1000000 := by
  refine ⟨lones_of_blk l h.2.2, ?_⟩
  have q1 := (St.fews_total l 200 (by omega)).2 h.1
  have q2 := St.sizes_in l
  have q3 := h.1
  omega
theorem no_empty {s : SrcD} {t : List NameD} (h : mkT s.ents namesStart = some t) : (ofN t 4 ⟨#[]⟩).2 ≠ 0 := by
  obtain ⟨h1, h2, h3, h4⟩ := mkT_ok _ _ _ h start_rises
  have hf : findN t ⟨#[]⟩ = none := List.find?_eq_none.2 fun y hy => by
    have hne : y.name ≠ ⟨#[]⟩ := by
      rcases h3 y hy with hs | ⟨x, hx, rfl⟩
      · simp only [namesStart, List.mem_cons, List.not_mem_nil, or_false] at hs
        rcases hs with rfl | rfl | rfl | rfl <;> decide
      · intro he
        obtain ⟨hz, _⟩ := mkT_names _ _ _ h x hx
        have he : x.name = ⟨#[]⟩ := he
        rw [he] at hz
        exact absurd hz (by decide)
    simpa using hne
  unfold ofN
  rw [hf]
  decide

set_option maxRecDepth 100000 in
set_option maxHeartbeats 8000000 in
theorem kindsChecks_calls (s : SrcD) (F : Nat → Prop) (w : World) (ss : List Value) (hF : Inn F w) (hm : MX w) (h1 : Holds.src.R F w s ss)
    (hsz : s.flags.length + s.props.length + s.globals.length + s.objects.length + s.verbs.length + s.rules.length + s.funcs.length + s.daemons.length ≤ 1048576) :
    Calls Tryz.prog 3 #[.agg ss.toArray] w (Gives w (.bool true)) := by
  have HLT := Lib.hid (fun (W : World) (hW : Below w.heap.size w W) => lightS_calls s F W ss (hF.below hW) (Holds.below _ h1 hF hW (Nat.le_refl _)) (by unfold SrcD.parts; omega))
  have HMK := Lib.hid (fun (W : World) (hW : Below w.heap.size w W) => makeR_calls s F W ss (hF.below hW) (Holds.below _ h1 hF hW (Nat.le_refl _)) (by omega))
  have HAW := Lib.hid (fun (W : World) (_ : Below w.heap.size w W) => awake16_calls W)
  have HKE : Hid (∀ (W : World) (hW : Below w.heap.size w W) (t : List NameD) (tv : Value) (G : Nat → Prop), LightS s → Inn G W → (∀ b, F b → G b) → mkT s.ents namesStart = some t → RdNames G W t tv →
      Calls Tryz.prog 7 #[.agg ss.toArray, tv] W (Gives W (faultV (checkW t s) (firstBad (checkW t s) (pairsOf s parts6)))) ∧ Calls Tryz.prog 8 #[.agg ss.toArray, tv] W (Gives W (faultV (checkW t s) (firstBad (checkW t s) (pairsOf s parts6))))) := fun W hW t tv G hL hG hFG hmk hr => by
    have hlen : t.length ≤ 1000000000000 := by
      rw [(mkT_ok _ _ _ hmk start_rises).2.1]
      unfold SrcD.ents
      simp only [List.length_append, ents_len]
      show 4 + _ ≤ _
      omega
    obtain ⟨q1, q2, q3⟩ := made_tab hmk
    have hs := Holds.src.keep (fun b hb => rfl) hFG (Holds.below _ h1 hF hW (Nat.le_refl _))
    obtain ⟨l1, l2, l3, l4⟩ := hL
    have hw1 : ∀ l, WhenB l → l.length ≤ 1 := fun l h => by
      rcases h with rfl | ⟨e, rfl, _⟩
      · simp
      · simp
    refine ⟨kCheckAll_calls t s G W tv ss hG q3 hlen q1 hr hs (hm.below hW (Nat.le_refl _)) fun f hf => by have := (l4 f (List.mem_append_left _ hf)).2; omega, ?_⟩
    exact checkR_calls t s G W tv ss hG q1 hr hs (no_empty hmk) (by unfold SrcD.parts at l1; omega) (fun o ho x hx => hw1 _ (l2 o ho x hx)) (fun r hr => ⟨hw1 _ (l3 r hr).1, (light_sizes (l3 r hr).2).1, (light_sizes (l3 r hr).2).2⟩)
      (fun f hf => ⟨by have := (l4 f (List.mem_append_left _ hf)).2; omega, (light_sizes (l4 f (List.mem_append_left _ hf)).1).1, (light_sizes (l4 f (List.mem_append_left _ hf)).1).2⟩) fun f hf => light_sizes (l4 f (List.mem_append_right _ hf)).1
  obtain ⟨a5, c5, a6, c6, a7, c7, a8, c8, a9, c9, a10, c10, a11, c11, a12, c12, rfl, g5, g6, g7, g8, g9, g10, g11, g12⟩ := src_shape h1
  have HF := Lib.hid hF
  have hA : Hid (∃ W0, w.alloc (.cells #[.string s.title, .string s.author, .string s.start, .int .i64 s.release, .int .i64 s.most, .slice a5 s.flags.length c5, .slice a6 s.props.length c6, .slice a7 s.globals.length c7, .slice a8 s.objects.length c8, .slice a9 s.verbs.length c9, .slice a10 s.rules.length c10, .slice a11 s.funcs.length c11, .slice a12 s.daemons.length c12] 29) = W0 ∧ Below w.heap.size w W0 ∧ BoxAt W0 w.heap.size [.string s.title, .string s.author, .string s.start, .int .i64 s.release, .int .i64 s.most, .slice a5 s.flags.length c5, .slice a6 s.props.length c6, .slice a7 s.globals.length c7, .slice a8 s.objects.length c8, .slice a9 s.verbs.length c9, .slice a10 s.rules.length c10, .slice a11 s.funcs.length c11, .slice a12 s.daemons.length c12] ∧ w.heap.size < W0.heap.size) := ⟨_, rfl, (Below.refl _ w).alloc (Nat.le_refl _) _, BoxAt.new _ _ _, by simp⟩
  have hLL : Hid (dec (LightS s) = true → LightS s) := fun h => by by_cases hr : LightS s; exact hr; rw [dec_false hr] at h; cases h
  generalize dec (LightS s) = lt at HLT hLL
  clear h1 g5 g6 g7 g8 g9 g10 g11 g12 hm
  go_enter Tryz.func3, Tryz.ntmps3
  go_upto_region 1 with fail
  obtain ⟨W0, hW0, hB0, hbox, hz0⟩ := hA.out
  rw [hW0]
  have HB0 := Lib.hid hB0
  have HBOX := Lib.hid hbox
  clear hA hW0 hB0 hbox
  have hk1 : Hid (∀ W, Below W0.heap.size W0 W → BoxAt W w.heap.size [.string s.title, .string s.author, .string s.start, .int .i64 s.release, .int .i64 s.most, .slice a5 s.flags.length c5, .slice a6 s.props.length c6, .slice a7 s.globals.length c7, .slice a8 s.objects.length c8, .slice a9 s.verbs.length c9, .slice a10 s.rules.length c10, .slice a11 s.funcs.length c11, .slice a12 s.daemons.length c12] ∧ Below w.heap.size w W) := fun W hW => ⟨HBOX.out.below hW HBOX.out.1, HB0.out.trans (hW.mono HB0.out.size)⟩
  have hbx := HBOX.out
  have x0 := hbx.2 0 (by simp)
  have x1 := hbx.2 1 (by simp)
  have x2 := hbx.2 2 (by simp)
  have x3 := hbx.2 3 (by simp)
  have x4 := hbx.2 4 (by simp)
  have x5 := hbx.2 5 (by simp)
  have x6 := hbx.2 6 (by simp)
  have x7 := hbx.2 7 (by simp)
  have x8 := hbx.2 8 (by simp)
  have x9 := hbx.2 9 (by simp)
  have x10 := hbx.2 10 (by simp)
  have x11 := hbx.2 11 (by simp)
  have x12 := hbx.2 12 (by simp)
  simp only [List.getElem?_cons_succ, List.getElem?_cons_zero] at x0 x1 x2 x3 x4 x5 x6 x7 x8 x9 x10 x11 x12
  clear hbx
  have HLT0 := Lib.hid (HLT.out W0 HB0.out)
  clear HLT
  cases lt
  · clear HKE HMK
    go_wp2_with (first | (go_at_call 4; refine HLT0.out.mono ?_; rintro e1 w1 ⟨rfl, hb1⟩) | (go_at_call 5; refine (HAW.out _ (HB0.out.trans (hb1.mono HB0.out.size))).mono ?_; rintro e6 w6 ⟨rfl, hb6⟩))
    go_ret
    exact ⟨rfl, HB0.out.trans ((hb1.trans (hb6.mono hb1.size)).mono HB0.out.size)⟩
  have HL := Lib.hid (hLL.out rfl)
  clear hLL
  go_upto_region 3 with (go_at_call 4; refine HLT0.out.mono ?_; rintro e1 w1 ⟨rfl, hb1⟩)
  clear x0 x1 x2 x3 x4 x5 x6 x7 x8 x9 x10 x11 x12 HLT0
  have HB1 := Lib.hid hb1
  obtain ⟨hbx, hbt1⟩ := hk1.out w1 hb1
  have HM1 := Lib.hid (HMK.out w1 hbt1)
  have HBT1 := Lib.hid hbt1
  have x0 := hbx.2 0 (by simp)
  have x1 := hbx.2 1 (by simp)
  have x2 := hbx.2 2 (by simp)
  have x3 := hbx.2 3 (by simp)
  have x4 := hbx.2 4 (by simp)
  have x5 := hbx.2 5 (by simp)
  have x6 := hbx.2 6 (by simp)
  have x7 := hbx.2 7 (by simp)
  have x8 := hbx.2 8 (by simp)
  have x9 := hbx.2 9 (by simp)
  have x10 := hbx.2 10 (by simp)
  have x11 := hbx.2 11 (by simp)
  have x12 := hbx.2 12 (by simp)
  simp only [List.getElem?_cons_succ, List.getElem?_cons_zero] at x0 x1 x2 x3 x4 x5 x6 x7 x8 x9 x10 x11 x12
  clear hbx hbt1 HMK hb1
  obtain ⟨mo, hmoe⟩ : ∃ mo, mkT s.ents namesStart = mo := ⟨_, rfl⟩
  rw [hmoe] at HM1
  have HMO := Lib.hid hmoe
  clear hmoe
  go_upto_region 4 with (go_at_call 6; refine HM1.out.mono ?_; rintro e0 w2 ⟨ta, tn, tc, er, pt, fn, fs, rfl, hb2, ho⟩)
  clear x0 x1 x2 x3 x4 x5 x6 x7 x8 x9 x10 x11 x12
  have hA2 : Hid (∃ (wf : World) (bf : Nat), w2.alloc (.cells #[.int .i64 er, .int .i64 pt, .int .i64 fn, .string fs] 35) = wf ∧ w2.heap.size = bf ∧ Below w2.heap.size w2 wf ∧ wf.cell? ⟨bf, 0, none⟩ = some (.int .i64 er)) := ⟨_, _, rfl, rfl, (Below.refl _ w2).alloc (Nat.le_refl _) _, by simp⟩
  obtain ⟨wf, bf, hwf, hbf, hBf, f0⟩ := hA2.out
  rw [hwf]
  simp only [hbf]
  have hb2f : Below w1.heap.size w1 wf := hb2.trans (hBf.mono hb2.size)
  have hb0f : Below W0.heap.size W0 wf := HB1.out.trans (hb2f.mono HB1.out.size)
  obtain ⟨hbx, hbtf⟩ := hk1.out wf hb0f
  have HBTF := Lib.hid hbtf
  by_cases her : er = 0
  rotate_left
  · have e0 : (er != 0) = true := by simpa using her
    clear her ho HKE hA2 hwf hbf hBf hb2f hb0f hbx hbtf hb2
    go_wp2_with (go_at_call 5; refine (HAW.out _ HBTF.out).mono ?_; rintro e6 w6 ⟨rfl, hb6⟩)
    go_ret
    exact ⟨rfl, HBTF.out.trans (hb6.mono HBTF.out.size)⟩
  have hot : ∃ t, mo = some t ∧ OwnN w1.heap.size w2 t (.slice ta tn tc) := by
    rcases ho with ⟨h, _⟩ | ⟨_, h⟩
    · exact absurd her h
    · exact h
  obtain ⟨t, rfl, hown⟩ := hot
  subst her
  have hgl : ∀ b, (F b ∨ b < wf.heap.size) → b < wf.heap.size := fun b hb => hb.elim (fun h => HF.out.below hbtf b h) id
  have hrdn : RdNames (fun b => F b ∨ b < wf.heap.size) wf t (.slice ta tn tc) := (hown.rd (made_tab HMO.out).2.1).keep (fun b hb => hBf.block b hb.2) (fun b hb => .inr (Nat.lt_of_lt_of_le hb.2 hBf.size))
  have hkc : ∀ W, Below wf.heap.size wf W → _ := fun W hW => HKE.out W (hbtf.trans (hW.mono hbtf.size)) t (.slice ta tn tc) (fun b => F b ∨ b < wf.heap.size) HL.out (fun b hb => Nat.lt_of_lt_of_le (hgl b hb) hW.size) (fun _ h => .inl h) HMO.out (RdL.below hrdn hgl hW (Nat.le_refl _))
  have x0 := hbx.2 0 (by simp)
  have x1 := hbx.2 1 (by simp)
  have x2 := hbx.2 2 (by simp)
  have x3 := hbx.2 3 (by simp)
  have x4 := hbx.2 4 (by simp)
  have x5 := hbx.2 5 (by simp)
  have x6 := hbx.2 6 (by simp)
  have x7 := hbx.2 7 (by simp)
  have x8 := hbx.2 8 (by simp)
  have x9 := hbx.2 9 (by simp)
  have x10 := hbx.2 10 (by simp)
  have x11 := hbx.2 11 (by simp)
  have x12 := hbx.2 12 (by simp)
  simp only [List.getElem?_cons_succ, List.getElem?_cons_zero] at x0 x1 x2 x3 x4 x5 x6 x7 x8 x9 x10 x11 x12
  obtain ⟨a, b, c, d, hfs⟩ := fault_shape (checkW t s) (firstBad (checkW t s) (pairsOf s parts6))
  rw [hfs] at hkc
  go_upto_region 6 with fail
  have K {f : FuncId} {args : Array Value} {u : Value} (h : ∀ w', Below wf.heap.size wf w' → Calls Tryz.prog f args w' (Gives w' u)) (p : Regrown) : Calls Tryz.prog f args (grow (redrawn wf p.d) p.os) fun e w3 => e = .returned u ∧ ∃ p : Regrown, w3 = grow (redrawn wf p.d) p.os := regrown_gives (fun w3 hb => h w3 hb) p
  have GC := Lib.hid (K fun W hW => (hkc W hW).1)
  have GR := Lib.hid (K fun W hW => (hkc W hW).2)
  have GA := Lib.hid (K fun W hW => HAW.out W (hbtf.trans (hW.mono hbtf.size)))
  have hq0 := fun d os => cell_regrown x0 d os
  have hq1 := fun d os => cell_regrown x1 d os
  have hq2 := fun d os => cell_regrown x2 d os
  have hq3 := fun d os => cell_regrown x3 d os
  have hq4 := fun d os => cell_regrown x4 d os
  have hq5 := fun d os => cell_regrown x5 d os
  have hq6 := fun d os => cell_regrown x6 d os
  have hq7 := fun d os => cell_regrown x7 d os
  have hq8 := fun d os => cell_regrown x8 d os
  have hq9 := fun d os => cell_regrown x9 d os
  have hq10 := fun d os => cell_regrown x10 d os
  have hq11 := fun d os => cell_regrown x11 d os
  have hq12 := fun d os => cell_regrown x12 d os
  clear hown hrdn HKE hA2 hwf hbf hBf hb2f hb0f hbx hbtf hb2 hkc hfs hgl K HAW x0 x1 x2 x3 x4 x5 x6 x7 x8 x9 x10 x11 x12
  refine wp_region_quiet_below (by kernel_rfl) (by kernel_rfl) ?_
  repeat (go_big_quiet_step (first | with_reducible exact GC.out _ | with_reducible exact GR.out _ | with_reducible exact GA.out _))
  refine wpQuiet_nil ?_
  intro w3 hw3
  have hb3 := below_of_regrown hw3
  clear hw3 hq0 hq1 hq2 hq3 hq4 hq5 hq6 hq7 hq8 hq9 hq10 hq11 hq12
  go_wp2
  go_ret
  exact ⟨rfl, HBTF.out.trans (hb3.mono HBTF.out.size)⟩
end Go.Proofs.YtblhpiebheommaaGreat
