/- The walk of clewlaw16.KindsHolds: it returns true. Printed by gen-lawholds.py. -/
import Derived.Test.YtblhpiebheommaaKindsHoldsPart39
import Derived.Test.YtblhpiebheommaaKindsHoldsPart40
namespace Go.Proofs.Ytblhpiebheommaa
open Go.RowKit Go.Sort

theorem Loc.kept {B lo : Nat} {w w' : World} {l : List ByteArray} {v : Value} (h : Loc B lo w l v) (hb : Below w.heap.size w w') : Loc B lo w' l v := h.keep (fun g _ hg _ => hb.block g hg) hb.size (Nat.le_refl _)
/-- Two own lists of strings, apart. -/
def Apart (B lo : Nat) (w : World) (l1 l2 : List ByteArray) (v1 v2 : Value) : Prop := Loc B lo w l1 v1 ∧ Loc B lo w l2 v2 ∧ ∀ g, v1.ownBlock = some g → v2.ownBlock ≠ some g
theorem Apart.below {B lo : Nat} {w w' : World} {l1 l2 : List ByteArray} {v1 v2 : Value} (h : Apart B lo w l1 l2 v1 v2) (hb : Below w.heap.size w w') : Apart B lo w' l1 l2 v1 v2 := ⟨h.1.kept hb, h.2.1.kept hb, h.2.2⟩
theorem Apart.swap {B lo : Nat} {w : World} {l1 l2 : List ByteArray} {v1 v2 : Value} (h : Apart B lo w l1 l2 v1 v2) : Apart B lo w l2 l1 v2 v1 := ⟨h.2.1, h.1, fun g h2 h1 => h.2.2 g h1 h2⟩
theorem Loc.ownlt {B lo : Nat} {w : World} {l : List ByteArray} {v : Value} (h : Loc B lo w l v) : ∀ g, v.ownBlock = some g → g < w.heap.size := fun g hg => by
  rcases h.2 with ⟨rfl, _⟩ | ⟨g', cap, rfl, _, h2, _⟩
  · cases hg
  · cases hg; exact h2
/-- One more in the second. -/
theorem Apart.push {B lo : Nat} {w : World} {l1 l2 : List ByteArray} {v1 v2 : Value} (h : Apart B lo w l1 l2 v1 v2) {x : ByteArray} (hx : x.size ≤ maxLen) {ad : Addr} (had : w.cell? ad = some (.string x)) (hB : B < w.heap.size) (hlo : lo ≤ w.heap.size) (hl : l2.length ≤ 1000000) (ty : TypeId) :
    ∃ v' w', (Builtin.append_ #[22, 22] ty #[v2, .slice (some ad) 1 1]).run Try.prog w = .ok v' w' ∧ Apart B lo w' l1 (l2 ++ [x]) v1 v' ∧ Below lo w w' ∧ ∀ g, g < w.heap.size → v2.ownBlock ≠ some g → w'.heap[g]? = w.heap[g]? := by
  obtain ⟨v', w', h1, h2, h3, h4⟩ := loc_one2 h.2.1 x hx ad had hB hlo hl ty
  refine ⟨v', w', h1, ⟨h.1.keep (fun g hg hgl _ => h3.block g hgl fun hs => h.2.2 g hg hs.1) h3.size (Nat.le_refl _), h2, fun g hg hg' => ?_⟩, h3.toBelow hlo fun k hk => hk.2.1, fun g hg hne => h3.block g hg fun hs => hne hs.1⟩
  rcases h4 with h4 | h4
  · exact h.2.2 g hg (h4 ▸ hg')
  · have := h4 g hg'
    have := h.1.ownlt g hg
    omega

set_option maxRecDepth 100000 in
theorem field_err (a b c : Int) (d : ByteArray) (w : World) : (Instr.field 36 (.agg #[.int .i64 a, .int .i64 b, .int .i64 c, .string d]) 0).run Try.prog w = .ok (.int .i64 a) w := by kernel_rfl

set_option maxRecDepth 100000 in
set_option maxHeartbeats 8000000 in
theorem kindsHolds_calls (s : SrcD) (F : Nat → Prop) (w : World) (ss : List Value) (hF : Inn F w) (hm : MX w) (h1 : Holds.src.R F w s ss)
    (hsz : s.flags.length + s.props.length + s.globals.length + s.objects.length + s.verbs.length + s.rules.length + s.funcs.length + s.daemons.length ≤ 1048576) (hwb : ∀ o ∈ s.objects, o.words.length ≤ 1048576 ∧ o.adjs.length ≤ 1048576) :
    Calls Try.prog 6 #[.agg ss.toArray] w (Gives w (.bool true)) := by
  have HLT := Lib.hid (fun (W : World) (hW : Below w.heap.size w W) => lightS_calls s F W ss (hF.below hW) (Holds.below _ h1 hF hW (Nat.le_refl _)) (by unfold SrcD.parts; omega))
  have HMK := Lib.hid (fun (W : World) (hW : Below w.heap.size w W) => makeR_calls s F W ss (hF.below hW) (Holds.below _ h1 hF hW (Nat.le_refl _)) (by omega))
  have HAW := Lib.hid (fun (W : World) (_ : Below w.heap.size w W) => awake16_calls W)
  have HKE : Hid (∀ (W : World) (hW : Below w.heap.size w W) (t : List NameD) (tv : Value) (G : Nat → Prop), LightS s → Inn G W → (∀ b, F b → G b) → mkT s.ents namesStart = some t → RdNames G W t tv → Calls Try.prog 20 #[.agg ss.toArray, tv] W (Gives W (faultV (checkW t s) (firstBad (checkW t s) (pairsOf s parts6))))) := fun W hW t tv G hL hG hFG hmk hr => by
    have hlen : t.length ≤ 1000000000000 := by
      rw [(mkT_ok _ _ _ hmk start_rises).2.1]
      unfold SrcD.ents
      simp only [List.length_append, ents_len]
      show 4 + _ ≤ _
      omega
    obtain ⟨q1, q2, q3⟩ := made_tab hmk
    exact kCheckAll_calls t s G W tv ss hG q3 hlen q1 hr (Holds.src.keep (fun b hb => rfl) hFG (Holds.below _ h1 hF hW (Nat.le_refl _))) (hm.below hW (Nat.le_refl _)) fun f hf => by have := (hL.2.2.2 f (List.mem_append_left _ hf)).2; omega
  obtain ⟨a5, c5, a6, c6, a7, c7, a8, c8, a9, c9, a10, c10, a11, c11, a12, c12, rfl, g5, g6, g7, g8, g9, g10, g11, g12⟩ := src_shape h1
  have HWB := Lib.hid hwb
  clear hwb
  have HF := Lib.hid hF
  have G8 := Lib.hid g8
  have G10 := Lib.hid g10
  have hnames : Hid (∀ o ∈ s.objects, o.name.size ≤ maxLen ∧ ∀ x ∈ o.words ++ o.adjs, x.size ≤ maxLen) := fun o ho => by
    obtain ⟨j, hj, rfl⟩ := List.getElem_of_mem ho
    obtain ⟨c, h2, h3⟩ := g8
    obtain ⟨e1, -, -, -, v5, v6, v7, v8, v9, -, ⟨c5, -, k5⟩, ⟨c6, -, k6⟩, -⟩ := h3 j hj
    exact ⟨e1, fun x hx => (List.mem_append.1 hx).elim (fun hx => by obtain ⟨m, hm, rfl⟩ := List.getElem_of_mem hx; exact (k5 m hm).1) fun hx => by obtain ⟨m, hm, rfl⟩ := List.getElem_of_mem hx; exact (k6 m hm).1⟩
  have HN := Lib.hid hnames.out
  have hA : Hid (∃ W0, w.alloc (.cells #[.string s.title, .string s.author, .string s.start, .int .i64 s.release, .int .i64 s.most, .slice a5 s.flags.length c5, .slice a6 s.props.length c6, .slice a7 s.globals.length c7, .slice a8 s.objects.length c8, .slice a9 s.verbs.length c9, .slice a10 s.rules.length c10, .slice a11 s.funcs.length c11, .slice a12 s.daemons.length c12] 29) = W0 ∧ Below w.heap.size w W0 ∧ BoxAt W0 w.heap.size [.string s.title, .string s.author, .string s.start, .int .i64 s.release, .int .i64 s.most, .slice a5 s.flags.length c5, .slice a6 s.props.length c6, .slice a7 s.globals.length c7, .slice a8 s.objects.length c8, .slice a9 s.verbs.length c9, .slice a10 s.rules.length c10, .slice a11 s.funcs.length c11, .slice a12 s.daemons.length c12] ∧ w.heap.size < W0.heap.size) := ⟨_, rfl, (Below.refl _ w).alloc (Nat.le_refl _) _, BoxAt.new _ _ _, by simp⟩
  have hLL : Hid (dec (LightS s) = true → LightS s) := fun h => by by_cases hr : LightS s; exact hr; rw [dec_false hr] at h; cases h
  generalize dec (LightS s) = lt at HLT hLL
  have hfe := field_err
  clear h1 g5 g6 g7 g8 g9 g10 g11 g12 hm hnames
  go_enter Try.func6, Try.ntmps6
  go_upto_region 1 with fail
  obtain ⟨W0, hW0, hB0, hbox, hz0⟩ := hA.out
  rw [hW0]
  have HB0 := Lib.hid hB0
  have HBOX := Lib.hid hbox
  clear hA hW0 hB0 hbox
  have hk1 : Hid (∀ W, Below W0.heap.size W0 W → BoxAt W w.heap.size [.string s.title, .string s.author, .string s.start, .int .i64 s.release, .int .i64 s.most, .slice a5 s.flags.length c5, .slice a6 s.props.length c6, .slice a7 s.globals.length c7, .slice a8 s.objects.length c8, .slice a9 s.verbs.length c9, .slice a10 s.rules.length c10, .slice a11 s.funcs.length c11, .slice a12 s.daemons.length c12] ∧ Below w.heap.size w W) := fun W hW => ⟨HBOX.out.below hW HBOX.out.1, HB0.out.trans (hW.mono HB0.out.size)⟩
  have hbx := HBOX.out
  have x0 := hbx.2 0 (by simp)
  have x1 := hbx.2 1 (by simp)
  have x2 := hbx.2 2 (by simp)
  have x3 := hbx.2 3 (by simp)
  have x4 := hbx.2 4 (by simp)
  have x5 := hbx.2 5 (by simp)
  have x6 := hbx.2 6 (by simp)
  have x7 := hbx.2 7 (by simp)
  have x8 := hbx.2 8 (by simp)
  have x9 := hbx.2 9 (by simp)
  have x10 := hbx.2 10 (by simp)
  have x11 := hbx.2 11 (by simp)
  have x12 := hbx.2 12 (by simp)
  simp only [List.getElem?_cons_succ, List.getElem?_cons_zero] at x0 x1 x2 x3 x4 x5 x6 x7 x8 x9 x10 x11 x12
  clear hbx
  have HLT0 := Lib.hid (HLT.out W0 HB0.out)
  clear HLT
  cases lt
  · clear HKE HMK
    go_wp2_with (first | (go_at_call 19; refine HLT0.out.mono ?_; rintro e1 w1 ⟨rfl, hb1⟩) | (go_at_call 10; refine (HAW.out _ (HB0.out.trans (hb1.mono HB0.out.size))).mono ?_; rintro e6 w6 ⟨rfl, hb6⟩))
    go_ret
    exact ⟨rfl, HB0.out.trans ((hb1.trans (hb6.mono hb1.size)).mono HB0.out.size)⟩
  have HL := Lib.hid (hLL.out rfl)
  clear hLL
  go_upto_region 3 with (go_at_call 19; refine HLT0.out.mono ?_; rintro e1 w1 ⟨rfl, hb1⟩)
  clear x0 x1 x2 x3 x4 x5 x6 x7 x8 x9 x10 x11 x12 HLT0
  have HB1 := Lib.hid hb1
  obtain ⟨hbx, hbt1⟩ := hk1.out w1 hb1
  have HM1 := Lib.hid (HMK.out w1 hbt1)
  have HBT1 := Lib.hid hbt1
  have x0 := hbx.2 0 (by simp)
  have x1 := hbx.2 1 (by simp)
  have x2 := hbx.2 2 (by simp)
  have x3 := hbx.2 3 (by simp)
  have x4 := hbx.2 4 (by simp)
  have x5 := hbx.2 5 (by simp)
  have x6 := hbx.2 6 (by simp)
  have x7 := hbx.2 7 (by simp)
  have x8 := hbx.2 8 (by simp)
  have x9 := hbx.2 9 (by simp)
  have x10 := hbx.2 10 (by simp)
  have x11 := hbx.2 11 (by simp)
  have x12 := hbx.2 12 (by simp)
  simp only [List.getElem?_cons_succ, List.getElem?_cons_zero] at x0 x1 x2 x3 x4 x5 x6 x7 x8 x9 x10 x11 x12
  clear hbx hbt1 HMK hb1
  obtain ⟨mo, hmoe⟩ : ∃ mo, mkT s.ents namesStart = mo := ⟨_, rfl⟩
  rw [hmoe] at HM1
  have HMO := Lib.hid hmoe
  clear hmoe
  go_upto_region 4 with (go_at_call 7; refine HM1.out.mono ?_; rintro e0 w2 ⟨ta, tn, tc, er, pt, fn, fs, rfl, hb2, ho⟩)
  clear x0 x1 x2 x3 x4 x5 x6 x7 x8 x9 x10 x11 x12
  have hA2 : Hid (∃ (wf : World) (bf : Nat), w2.alloc (.cells #[.int .i64 er, .int .i64 pt, .int .i64 fn, .string fs] 36) = wf ∧ w2.heap.size = bf ∧ Below w2.heap.size w2 wf ∧ wf.cell? ⟨bf, 0, none⟩ = some (.int .i64 er)) := ⟨_, _, rfl, rfl, (Below.refl _ w2).alloc (Nat.le_refl _) _, by simp⟩
  obtain ⟨wf, bf, hwf, hbf, hBf, f0⟩ := hA2.out
  rw [hwf]
  simp only [hbf]
  have hb2f : Below w1.heap.size w1 wf := hb2.trans (hBf.mono hb2.size)
  have hb0f : Below W0.heap.size W0 wf := HB1.out.trans (hb2f.mono HB1.out.size)
  obtain ⟨hbx, hbtf⟩ := hk1.out wf hb0f
  have HB0F := Lib.hid hb0f
  have HBTF := Lib.hid hbtf
  by_cases her : er = 0
  rotate_left
  · have e0 : (er != 0) = true := by simpa using her
    clear her ho HKE hA2 hwf hbf hBf hb2f hb0f hbx hbtf hb2
    go_wp2_with (go_at_call 10; refine (HAW.out _ HBTF.out).mono ?_; rintro e6 w6 ⟨rfl, hb6⟩)
    go_ret
    exact ⟨rfl, HBTF.out.trans (hb6.mono HBTF.out.size)⟩
  have hot : ∃ t, mo = some t ∧ OwnN w1.heap.size w2 t (.slice ta tn tc) := by
    rcases ho with ⟨h, _⟩ | ⟨_, h⟩
    · exact absurd her h
    · exact h
  obtain ⟨t, rfl, hown⟩ := hot
  subst her
  have hrdn : RdNames (fun b => F b ∨ b < wf.heap.size) wf t (.slice ta tn tc) := (hown.rd (made_tab HMO.out).2.1).keep (fun b hb => hBf.block b hb.2) (fun b hb => .inr (Nat.lt_of_lt_of_le hb.2 hBf.size))
  have hkc := HKE.out wf hbtf t (.slice ta tn tc) (fun b => F b ∨ b < wf.heap.size) HL.out (fun b hb => hb.elim (fun h => hF.below hbtf b h) id) (fun _ h => .inl h) HMO.out hrdn
  have x0 := hbx.2 0 (by simp)
  have x1 := hbx.2 1 (by simp)
  have x2 := hbx.2 2 (by simp)
  have x3 := hbx.2 3 (by simp)
  have x4 := hbx.2 4 (by simp)
  have x5 := hbx.2 5 (by simp)
  have x6 := hbx.2 6 (by simp)
  have x7 := hbx.2 7 (by simp)
  have x8 := hbx.2 8 (by simp)
  have x9 := hbx.2 9 (by simp)
  have x10 := hbx.2 10 (by simp)
  have x11 := hbx.2 11 (by simp)
  have x12 := hbx.2 12 (by simp)
  simp only [List.getElem?_cons_succ, List.getElem?_cons_zero] at x0 x1 x2 x3 x4 x5 x6 x7 x8 x9 x10 x11 x12
  clear hown hrdn HKE hA2 hwf hbf hBf hb2f hb0f hbx hbtf hb2
  cases hfb : firstBad (checkW t s) (pairsOf s parts6) with
  | some z =>
    have hz := firstBad_some hfb
    rw [hfb, show faultV (checkW t s) (some z) = .agg #[.int .i64 (checkW t s z.1 z.2).1, .int .i64 z.1, .int .i64 z.2, .string (checkW t s z.1 z.2).2] from rfl] at hkc
    generalize checkW t s z.1 z.2 = pz at hkc hz
    have ez : (pz.1 != 0) = true := by simpa using hz
    have HKC := Lib.hid hkc
    clear hkc hz hfb
    go_wp2_with (first | (go_at_call 20; refine HKC.out.mono ?_; rintro e1 w3 ⟨rfl, hb3⟩; have hbt3 := HBTF.out.trans (hb3.mono HBTF.out.size)) | (go_at_call 10; refine (HAW.out _ hbt3).mono ?_; rintro e6 w6 ⟨rfl, hb6⟩))
    go_ret
    exact ⟨rfl, hbt3.trans (hb6.mono hbt3.size)⟩
  | none =>
    have HS := Lib.hid (sound_of HMO.out hfb)
    rw [hfb, show faultV (checkW t s) none = .agg #[.int .i64 0, .int .i64 0, .int .i64 0, .string ⟨#[]⟩] from rfl] at hkc
    have HKC := Lib.hid hkc
    clear hkc hfb HM1 HMO
    go_upto_region 7 with (go_at_call 20; refine HKC.out.mono ?_; rintro e1 w3 ⟨rfl, hb3⟩)
    clear x0 x1 x2 x3 x4 x5 x6 x7 x8 x9 x10 x11 x12 f0 HKC
    have HB3 := Lib.hid (HB0F.out.trans (hb3.mono HB0F.out.size))
    obtain ⟨hbx, hbt3⟩ := hk1.out w3 HB3.out
    have HBT3 := Lib.hid hbt3
    have x8 := hbx.2 8 (by simp)
    simp only [List.getElem?_cons_succ, List.getElem?_cons_zero] at x8
    clear hbx hbt3 hb3 HB0F HBTF
    obtain ⟨_, _, he8, hl8, hc8, h8⟩ := (G8.out).opn
    cases he8
    unfold maxLen at hc8
    have h8o := Lib.hid h8
    clear h8
    have hol : s.objects.length ≤ 60 := by have := HL.out.1; unfold SrcD.parts at this; omega
    go_wp2_with fail
    go_loopw [5, 6, 40] (fun s5 s6 i wr => ∃ (k : Nat) (v5 v6 : Value), k ≤ s.objects.length ∧ i = .int .i64 k ∧ v5 = s5 ∧ v6 = s6 ∧ Hid (Apart w.heap.size w3.heap.size wr (((s.objects.take k).filter ObjD.room).map ObjD.name) ((s.objects.take k).map ObjD.name) v5 v6) ∧ Below w3.heap.size w3 wr) (fun _ _ i _ => s.objects.length - (intOf i).toNat)
    case atStart => exact ⟨0, _, _, Nat.zero_le _, rfl, rfl, rfl, ⟨Loc.nil _ _ _, Loc.nil _ _ _, fun g hg => by cases hg⟩, Below.refl _ _⟩
    case round =>
      obtain ⟨k, v5, v6, hk, rfl, rfl, rfl, hap, hB⟩ := hrel
      have HBr := Lib.hid hB
      have hbt : Below w.heap.size w wr := HBT3.out.trans (hB.mono HBT3.out.size)
      by_cases hlt : k < s.objects.length
      · obtain ⟨ob, off, rfl, hFob, hel⟩ := h8o.out (by omega)
        obtain ⟨cs, ⟨-, -, -, -, v5', v6', v7', v8', v9', rfl, j5, j6, j7, j8, j9⟩, -, hcell⟩ := hel w rfl k hlt
        obtain ⟨d5, f5, rfl⟩ := j5.shape
        obtain ⟨d6, f6, rfl⟩ := j6.shape
        obtain ⟨d7, f7, rfl⟩ := j7.shape
        obtain ⟨d8, f8, rfl⟩ := j8.shape
        obtain ⟨d9, f9, rfl⟩ := j9.shape
        have hbl := fun j => World.cell?_of_block (w := w) (w' := wr) (a := ⟨ob, off + k * 10 + j, none⟩) (hbt.block ob (HF.out ob hFob))
        have hth : (s.objects.take (k + 1)).map ObjD.name = (s.objects.take k).map ObjD.name ++ [s.objects[k].name] := by rw [List.take_succ_eq_append_getElem hlt, List.map_append]; rfl
        have hrm : ((s.objects.take (k + 1)).filter ObjD.room).map ObjD.name = ((s.objects.take k).filter ObjD.room).map ObjD.name ++ (if s.objects[k].room = true then [s.objects[k].name] else []) := by
          rw [List.take_succ_eq_append_getElem hlt, List.filter_append, List.map_append]
          congr 1
          by_cases hr : s.objects[k].room = true
          · rw [if_pos hr]; simp [hr]
          · rw [if_neg hr]; simp [hr]
        have hnsz := (HN.out _ (List.getElem_mem hlt)).1
        have hl1 : (((s.objects.take k).filter ObjD.room).map ObjD.name).length ≤ 1000000 := by rw [List.length_map]; have := List.length_filter_le ObjD.room (s.objects.take k); rw [List.length_take] at this; omega
        have hl2 : ((s.objects.take k).map ObjD.name).length ≤ 1000000 := by rw [List.length_map, List.length_take]; omega
        generalize ((s.objects.take k).filter ObjD.room).map ObjD.name = ro at hap hrm hl1
        generalize (s.objects.take k).map ObjD.name = th at hap hth hl2
        generalize s.objects[k] = x at hcell j5 j6 j7 j8 j9 hth hrm hnsz
        have y0 := (hbl 0).trans (hcell 0 _ rfl)
        have y1 := (hbl 1).trans (hcell 1 _ rfl)
        have y2 := (hbl 2).trans (hcell 2 _ rfl)
        have y3 := (hbl 3).trans (hcell 3 _ rfl)
        have y4 := (hbl 4).trans (hcell 4 _ rfl)
        have y5 := (hbl 5).trans (hcell 5 _ rfl)
        have y6 := (hbl 6).trans (hcell 6 _ rfl)
        have y7 := (hbl 7).trans (hcell 7 _ rfl)
        have y8 := (hbl 8).trans (hcell 8 _ rfl)
        have y9 := (hbl 9).trans (hcell 9 _ rfl)
        simp only [Nat.add_zero] at y0
        have hki : (k : Int) < (s.objects.length : Int) := by omega
        have hki0 : (0 : Int) ≤ (k : Int) := by omega
        have hA : Hid (∃ wx bx, wr.alloc (.cells #[.string x.name, .string x.title, .string x.inn, .string x.text, .bool x.room, .slice d5 x.words.length f5, .slice d6 x.adjs.length f6, .slice d7 x.flags.length f7, .slice d8 x.props.length f8, .slice d9 x.exits.length f9] 55) = wx ∧ wr.heap.size = bx ∧ Below wr.heap.size wr wx ∧ bx < wx.heap.size ∧ BoxAt wx bx [.string x.name, .string x.title, .string x.inn, .string x.text, .bool x.room, .slice d5 x.words.length f5, .slice d6 x.adjs.length f6, .slice d7 x.flags.length f7, .slice d8 x.props.length f8, .slice d9 x.exits.length f9]) := ⟨_, _, rfl, rfl, (Below.refl _ wr).alloc (Nat.le_refl _) _, by simp, BoxAt.new _ _ _⟩
        have HAP := Lib.hid hap.out
        have HTH := Lib.hid hth
        have HRM := Lib.hid hrm
        have HNS := Lib.hid hnsz
        clear hel hcell j5 j6 j7 j8 j9 hbl hB hbt hap hth hrm hnsz
        go_upto_region 10 with fail
        obtain ⟨wx, bx, hwx, hbx, hBx0, hbx1, hbox⟩ := hA.out
        rw [hwx]
        simp only [hbx]
        have hox : ∀ g, v6.ownBlock = some g → g < bx := fun g hg => by have := HAP.out.2.1.ownlt g hg; omega
        have hor : ∀ g, v5.ownBlock = some g → g < bx := fun g hg => by have := HAP.out.1.ownlt g hg; omega
        have hapx := HAP.out.below hBx0
        have hal : Below wx.heap.size wx (wx.alloc (.cells #[.string x.name] 9)) := (Below.refl _ wx).alloc (Nat.le_refl _) _
        have had : (wx.alloc (.cells #[.string x.name] 9)).cell? ⟨wx.heap.size, 0, none⟩ = some (.string x.name) := bx_new wx [.string x.name] 9 _ rfl 0 (by simp)
        obtain ⟨v6', w4, hrun, hap2, hb4, hk4⟩ := (hapx.below hal).push HNS.out had (by have := HBT3.out.size; have := HBr.out.size; have := hBx0.size; simp; omega) (by have := HBr.out.size; have := hBx0.size; simp; omega) hl2 22
        have hboxl := hbox.below hal hbx1
        have hbx4 : BoxAt w4 bx [.string x.name, .string x.title, .string x.inn, .string x.text, .bool x.room, .slice d5 x.words.length f5, .slice d6 x.adjs.length f6, .slice d7 x.flags.length f7, .slice d8 x.props.length f8, .slice d9 x.exits.length f9] := ⟨Nat.lt_of_lt_of_le (Nat.lt_of_lt_of_le hbx1 hal.size) hb4.size, fun i hi => (World.cell?_of_block (w := wx.alloc (.cells #[.string x.name] 9)) (w' := w4) (a := ⟨bx, i, none⟩) (hk4 bx (Nat.lt_of_lt_of_le hbx1 hal.size) fun e => absurd (hox bx e) (Nat.lt_irrefl _))).trans (hboxl.2 i hi)⟩
        have HRUN := Lib.hid hrun
        have hB4 : Below w3.heap.size w3 w4 := (HBr.out.trans ((hBx0.trans (hal.mono hBx0.size)).mono HBr.out.size)).trans hb4
        have HB4 := Lib.hid hB4
        have HAP2 := Lib.hid hap2
        have HOR := Lib.hid hor
        have HBX4 := Lib.hid hbx4
        have hb0 := hbox.2 0 (by simp)
        have hb4r := hbx4.2 4 (by simp)
        have hb40 := hbx4.2 0 (by simp)
        simp only [List.getElem?_cons_succ, List.getElem?_cons_zero] at hb0 hb4r hb40
        have hb40' := fun o => alloc_cell hb40 o
        clear hA hwx hbx hBx0 hbox hapx hal had hrun hap2 hb4 hk4 hboxl hbx4 hB4 hox hor y0 y1 y2 y3 y4 y5 y6 y7 y8 y9
        go_upto_region 11 with (at_builtin; refine wpList_run rfl _ _ 22 rfl _ _ _ w4 rfl rfl HRUN.out ?_)
        cases hrr : x.room
        · rw [hrr] at hb4r
          have hrm2 := HRM.out
          rw [hrr, if_neg (by simp), List.append_nil] at hrm2
          have HREL : Hid (Apart w.heap.size w3.heap.size w4 (((s.objects.take (k + 1)).filter ObjD.room).map ObjD.name) ((s.objects.take (k + 1)).map ObjD.name) v5 v6') := by rw [hrm2, HTH.out]; exact HAP2.out
          clear hrr hrm2 hb40 hb40' hb0
          go_wp2_with fail
          go_roundw
          case rel => exact ⟨k + 1, _, _, by omega, by go_num, rfl, rfl, HREL.out, HB4.out⟩
          case measure => simp [intOf]; omega
        · rw [hrr] at hb4r
          have hrm2 := HRM.out
          rw [hrr, if_pos rfl] at hrm2
          have hal5 : Below w4.heap.size w4 (w4.alloc (.cells #[.string x.name] 9)) := (Below.refl _ w4).alloc (Nat.le_refl _) _
          have had5 : (w4.alloc (.cells #[.string x.name] 9)).cell? ⟨w4.heap.size, 0, none⟩ = some (.string x.name) := bx_new w4 [.string x.name] 9 _ rfl 0 (by simp)
          obtain ⟨v5', w5, hrun5, hap5, hb5, -⟩ := ((HAP2.out.below hal5).swap).push HNS.out had5 (by have := HBT3.out.size; have := HB4.out.size; simp; omega) (by have := HB4.out.size; simp; omega) hl1 22
          have HRUN5 := Lib.hid hrun5
          have HREL : Hid (Apart w.heap.size w3.heap.size w5 (((s.objects.take (k + 1)).filter ObjD.room).map ObjD.name) ((s.objects.take (k + 1)).map ObjD.name) v5' v6') := by rw [hrm2, HTH.out]; exact hap5.swap
          have HB5 := Lib.hid ((HB4.out.trans (hal5.mono HB4.out.size)).trans hb5)
          clear hrr hrm2 hal5 had5 hrun5 hap5 hb5 hb0
          go_wp2_with (at_builtin; refine wpList_run rfl _ _ 22 rfl _ _ _ w5 rfl rfl HRUN5.out ?_)
          go_roundw
          case rel => exact ⟨k + 1, _, _, by omega, by go_num, rfl, rfl, HREL.out, HB5.out⟩
          case measure => simp [intOf]; omega
      · have hap9 : Apart w.heap.size w3.heap.size wr s.rooms s.things v5 v6 := by
          have := hap.out
          rw [show k = s.objects.length by omega, List.take_length] at this
          exact this
        obtain ⟨wz, hwz⟩ : ∃ wz : World, wz = wr := ⟨_, rfl⟩
        rw [← hwz] at hap9 hB ⊢
        clear hap hwz
        have HRS := Lib.hid (fun (n : ByteArray) W (hW : Below wz.heap.size wz W) => hasR_calls s.rooms n (fun b => b < W.heap.size) W v5 ((hap9.1.kept hW).rd fun b _ h => h))
        have HTS := Lib.hid (fun (n : ByteArray) W (hW : Below wz.heap.size wz W) => hasR_calls s.things n (fun b => b < W.heap.size) W v6 ((hap9.2.1.kept hW).rd fun b _ h => h))
        have HBz := Lib.hid (HB3.out.trans (hB.mono HB3.out.size))
        have HBZ := Lib.hid (HBT3.out.trans (hB.mono HBT3.out.size))
        have hki : decide ((k : Int) < (s.objects.length : Int)) = false := by simpa using hlt
        have hbx := (hk1.out wz HBz.out).1
        have z2 := hbx.2 2 (by simp)
        have z8 := hbx.2 8 (by simp)
        simp only [List.getElem?_cons_succ, List.getElem?_cons_zero] at z2 z8
        have hst := HRS.out s.start wz (Below.refl _ _)
        rw [dec_true HS.out.start] at hst
        have HST := Lib.hid hst
        clear hap9 hB hbx hst
        go_upto_region 16 with (go_at_call 21; refine HST.out.mono ?_; rintro e1 w9 ⟨rfl, rfl⟩)
        go_wp2_with fail
        clear z2 z8 HST
        obtain ⟨wo, rfl⟩ : ∃ wo : World, wo = wr := ⟨_, rfl⟩
        go_loopw [65] (fun i wr => ∃ k2 : Nat, k2 ≤ s.objects.length ∧ i = .int .i64 k2 ∧ Below wz.heap.size wz wr) (fun i _ => s.objects.length - (intOf i).toNat)
        case atStart => exact ⟨0, Nat.zero_le _, rfl, Below.refl _ _⟩
        case round =>
          clear hki
          obtain ⟨k2, hk2, rfl, hB⟩ := hrel
          have hbt : Below w.heap.size w wr := HBZ.out.trans (hB.mono HBZ.out.size)
          have HBr := Lib.hid hB
          by_cases hlt2 : k2 < s.objects.length
          · obtain ⟨ob, off, rfl, hFob, hel⟩ := h8o.out (by omega)
            obtain ⟨cs, ⟨-, -, -, -, v5', v6', v7', v8', v9', rfl, j5, j6, j7, j8, j9⟩, -, hcell⟩ := hel w rfl k2 hlt2
            obtain ⟨d5, f5, rfl⟩ := j5.shape
            obtain ⟨d6, f6, rfl⟩ := j6.shape
            obtain ⟨d7, f7, rfl⟩ := j7.shape
            obtain ⟨d8, f8, rfl⟩ := j8.shape
            obtain ⟨d9, f9, rfl⟩ := j9.shape
            have hbl := fun j => World.cell?_of_block (w := w) (w' := wr) (a := ⟨ob, off + k2 * 10 + j, none⟩) (hbt.block ob (HF.out ob hFob))
            have hso := HS.out.objs _ (List.getElem_mem hlt2)
            have hwl := HWB.out _ (List.getElem_mem hlt2)
            generalize s.objects[k2] = x at hcell j5 j6 j7 j8 j9 hso hwl
            have y0 := (hbl 0).trans (hcell 0 _ rfl)
            have y1 := (hbl 1).trans (hcell 1 _ rfl)
            have y2 := (hbl 2).trans (hcell 2 _ rfl)
            have y3 := (hbl 3).trans (hcell 3 _ rfl)
            have y4 := (hbl 4).trans (hcell 4 _ rfl)
            have y5 := (hbl 5).trans (hcell 5 _ rfl)
            have y6 := (hbl 6).trans (hcell 6 _ rfl)
            have y7 := (hbl 7).trans (hcell 7 _ rfl)
            have y8 := (hbl 8).trans (hcell 8 _ rfl)
            have y9 := (hbl 9).trans (hcell 9 _ rfl)
            simp only [Nat.add_zero] at y0
            have hki : (k2 : Int) < (s.objects.length : Int) := by omega
            have hki0 : (0 : Int) ≤ (k2 : Int) := by omega
            have hA : Hid (∃ wx bx, wr.alloc (.cells #[.string x.name, .string x.title, .string x.inn, .string x.text, .bool x.room, .slice d5 x.words.length f5, .slice d6 x.adjs.length f6, .slice d7 x.flags.length f7, .slice d8 x.props.length f8, .slice d9 x.exits.length f9] 55) = wx ∧ wr.heap.size = bx ∧ Below wr.heap.size wr wx ∧ BoxAt wx bx [.string x.name, .string x.title, .string x.inn, .string x.text, .bool x.room, .slice d5 x.words.length f5, .slice d6 x.adjs.length f6, .slice d7 x.flags.length f7, .slice d8 x.props.length f8, .slice d9 x.exits.length f9]) := ⟨_, _, rfl, rfl, (Below.refl _ wr).alloc (Nat.le_refl _) _, BoxAt.new _ _ _⟩
            have J5 := Lib.hid j5
            have J6 := Lib.hid j6
            have J9 := Lib.hid j9
            have HSO := Lib.hid hso
            clear hel hcell j5 j6 j7 j8 j9 hbl hB hbt hso
            go_upto_region 19 with fail
            obtain ⟨wx, bx, hwx, hbx, hBx0, hbox⟩ := hA.out
            rw [hwx]
            simp only [hbx]
            have HBX := Lib.hid (HBr.out.trans (hBx0.mono HBr.out.size))
            have hbtx : Below w.heap.size w wx := HBZ.out.trans (HBX.out.mono HBZ.out.size)
            have HBTX := Lib.hid hbtx
            have HOB := Lib.hid hbox
            have t0 := hbox.2 0 (by simp)
            have t2 := hbox.2 2 (by simp)
            simp only [List.getElem?_cons_succ, List.getElem?_cons_zero] at t0 t2
            have hin := HTS.out x.inn wx HBX.out
            have hnn : x.inn ≠ x.name := HSO.out.2.1
            clear hA hwx hbx hBx0 hbox hbtx y0 y1 y2 y3 y4 y5 y6 y7 y8 y9
            go_cut [85] (fun v wc => v = .bool false ∧ wc = wx)
            case first =>
              have hmem := HSO.out.1
              generalize x.inn = nm at t2 hin hnn hmem
              generalize x.name = nn at t0 hnn
              have hcmp : (nm.toList == nn.toList) = false := by rw [beq_str]; simpa using hnn
              by_cases hem : nm = ⟨#[]⟩
              · have hl : nm.toList = [] := by rw [hem]; simp
                rw [hl] at hcmp
                clear hin hmem hem hnn
                go_wp2_with fail
                go_meet
                exact ⟨by first | rfl | (simp [hcmp]; done) | (simpa using hcmp) | (congr 1), rfl⟩
              · have hin2 := hin
                rw [dec_true (hmem hem)] at hin2
                have HIN := Lib.hid hin2
                have hl0 : nm.toList ≠ [] := fun h => by
                  have h2 : (nm.toList == (⟨#[]⟩ : ByteArray).toList) = decide (nm = ⟨#[]⟩) := beq_str
                  rw [h, show (⟨#[]⟩ : ByteArray).toList = [] by simp] at h2
                  exact hem (of_decide_eq_true h2.symm)
                obtain ⟨b0, l0, hl⟩ := List.exists_cons_of_ne_nil hl0
                rw [hl] at hcmp
                clear hin hin2 hmem hem hnn hl0
                go_wp2_with (go_at_call 21; refine HIN.out.mono ?_; rintro e1 w9 ⟨rfl, rfl⟩)
                go_meet
                exact ⟨by first | rfl | (simp [hcmp]; done) | (simpa using hcmp) | (congr 1), rfl⟩
            case rest =>
              obtain ⟨rfl, rfl⟩ := hcut
              clear hin hnn t0 t2
              have t9' := HOB.out.2 9 (by simp)
              simp only [List.getElem?_cons_succ, List.getElem?_cons_zero] at t9'
              obtain ⟨_, _, he9, hl9, hc9, h9⟩ := (J9.out).opn
              cases he9
              unfold maxLen at hc9
              have h9o := Lib.hid h9
              clear h9
              go_wp2_with fail
              obtain ⟨wo2, rfl⟩ : ∃ wo2 : World, wo2 = wr := ⟨_, rfl⟩
              go_loopw [89] (fun i wr => ∃ j : Nat, j ≤ x.exits.length ∧ i = .int .i64 j ∧ Below wc.heap.size wc wr) (fun i _ => x.exits.length - (intOf i).toNat)
              case atStart => exact ⟨0, Nat.zero_le _, rfl, Below.refl _ _⟩
              case round =>
                clear t9'
                obtain ⟨j, hj, rfl, hB⟩ := hrel
                have HBj := Lib.hid hB
                have hbt := HBTX.out.trans (hB.mono HBTX.out.size)
                by_cases hlt3 : j < x.exits.length
                · obtain ⟨b9, off9, rfl, hFb9, hel9⟩ := h9o.out (by omega)
                  obtain ⟨cs9, ⟨-, -, -, v, rfl, hex⟩, -, hcell9⟩ := hel9 w rfl j hlt3
                  obtain ⟨xa, xc, rfl⟩ := hex.shape
                  have hbl := fun m => World.cell?_of_block (w := w) (w' := wr) (a := ⟨b9, off9 + j * 4 + m, none⟩) (hbt.block b9 (HF.out b9 hFb9))
                  have hrm := HSO.out.2.2.1 _ (List.getElem_mem hlt3)
                  have hhs := fun W hW => HRS.out x.exits[j].to W hW
                  rw [dec_true hrm] at hhs
                  generalize x.exits[j] = y at hcell9 hex hrm hhs
                  have e0 := (hbl 0).trans (hcell9 0 _ rfl)
                  have e1 := (hbl 1).trans (hcell9 1 _ rfl)
                  have e2 := (hbl 2).trans (hcell9 2 _ rfl)
                  have e3 := (hbl 3).trans (hcell9 3 _ rfl)
                  simp only [Nat.add_zero] at e0
                  have HHS := Lib.hid (fun o => hhs (wr.alloc o) ((HBX.out.trans (hB.mono HBX.out.size)).alloc (HBX.out.trans (hB.mono HBX.out.size)).size o))
                  have hji : (j : Int) < (x.exits.length : Int) := by omega
                  have hji0 : (0 : Int) ≤ (j : Int) := by omega
                  clear hel9 hcell9 hex hbl hB hbt hrm hhs
                  go_wp2_with (go_at_call 21; refine (HHS.out _).mono ?_; rintro e1 w9 ⟨rfl, rfl⟩)
                  go_roundw
                  case rel => exact ⟨j + 1, by omega, by go_num, HBj.out.alloc HBj.out.size _⟩
                  case measure => simp [intOf]; omega
                · have hji : decide ((j : Int) < (x.exits.length : Int)) = false := by simpa using hlt3
                  have HBT4 := Lib.hid hbt
                  have HB4 := Lib.hid (HBX.out.trans (hB.mono HBX.out.size))
                  have HOB4 := Lib.hid (HOB.out.below hB HOB.out.1)
                  clear hB hbt
                  go_upto_region 27 with fail
                  go_cut [105, 106, 107] (fun v5 v6 v7 wd => Hid (∃ (g gc : Nat), v5 = .slice (some ⟨g, 0, none⟩) (x.words.length + x.adjs.length) gc ∧ v6 = .int .i64 ((x.words.length + x.adjs.length : Nat) : Int) ∧ v7 = .int .i64 0 ∧ (∀ m (hm : m < (x.words ++ x.adjs).length), wd.cell? ⟨g, m, none⟩ = some (.string (x.words ++ x.adjs)[m])) ∧ g < wd.heap.size ∧ x.words.length + x.adjs.length ≤ gc ∧ gc ≤ 9223372036854775807 ∧ Below wr.heap.size wr wd))
                  case first =>
                    -- DEVA
                    refine wp_region_held_drew (S := fun W => Below wr.heap.size wr W) (by kernel_rfl) (Below.refl _ _).drew (fun hHeld => ?_)
                    refine wpAnyH_take (i := 1) (v := .pointer (some ⟨bx, 5, none⟩)) rfl (by kernel_rfl) (by kernel_rfl) (by kernel_rfl) (fun _ _ _ h => h) (Or.inl ⟨by rfl, ?_⟩) (by assumption) ?_
                    · intro W hW
                      go_simp
                    simp only [Act.put]
                    refine wpAnyH_take (i := 2) (v := .slice d5 x.words.length f5) rfl (by kernel_rfl) (by kernel_rfl) (by kernel_rfl) (fun _ _ _ h => h) (Or.inl ⟨by rfl, ?_⟩) (by assumption) ?_
                    · intro W hW
                      have x5 := (HOB4.out.below hW HOB4.out.1).2 5 (by simp)
                      simp only [List.getElem?_cons_succ, List.getElem?_cons_zero] at x5
                      go_simp
                    simp only [Act.put]
                    refine wpAnyH_take (i := 4) (v := .pointer (some ⟨bx, 6, none⟩)) rfl (by kernel_rfl) (by kernel_rfl) (by kernel_rfl) (fun _ _ _ h => h) (Or.inl ⟨by rfl, ?_⟩) (by assumption) ?_
                    · intro W hW
                      go_simp
                    simp only [Act.put]
                    refine wpAnyH_take (i := 5) (v := .slice d6 x.adjs.length f6) rfl (by kernel_rfl) (by kernel_rfl) (by kernel_rfl) (fun _ _ _ h => h) (Or.inl ⟨by rfl, ?_⟩) (by assumption) ?_
                    · intro W hW
                      have x6 := (HOB4.out.below hW HOB4.out.1).2 6 (by simp)
                      simp only [List.getElem?_cons_succ, List.getElem?_cons_zero] at x6
                      go_simp
                    simp only [Act.put]
                    refine wpAnyH_take (i := 8) (v := .int .i64 0) rfl (by kernel_rfl) (by kernel_rfl) (by kernel_rfl) (fun _ _ _ h => h) (Or.inl ⟨by rfl, ?_⟩) (by assumption) ?_
                    · intro W hW
                      go_simp
                    simp only [Act.put]
                    refine wpAnyH_ready (rs := [0]) (by kernel_rfl) (by simp) ?_
                    refine AllReadyH.cons rfl (fun K hK => ?_) AllReadyH.nil
                    go_simp
                    have hW2 : Below wr.heap.size wr (wr.alloc (.cells #[] 9)).drew := ((Below.refl _ wr).alloc (Nat.le_refl _) _).drew
                    refine hK.out _ _ hW2 (fun hHeld => ?_)
                    clear hK K
                    obtain ⟨v1, w1', hrun1, hown1, hv1, hb1⟩ := own_strs J5.out HF.out (HBT4.out.trans (hW2.mono HBT4.out.size)) (v := .slice (some ⟨wr.heap.size, 0, none⟩) 0 0) (n := 0) (lo := wr.heap.size) (olds := []) (own_empty_str wr wr.heap.size (Nat.le_refl _)) (by simp) hW2.size (by have := hwl.1; omega) 22
                    refine wpAnyH_ready (rs := [3]) (by kernel_rfl) (by simp) ?_
                    refine AllReadyH.cons rfl (fun K hK => ?_) AllReadyH.nil
                    refine step_run rfl (.tmp 99) (.tmp 101) 22 rfl _ _ v1 w1' rfl rfl hrun1 ?_
                    go_simp
                    have hS1 : Below wr.heap.size wr w1' := hW2.trans hb1
                    refine hK.out _ _ hS1 (fun hHeld => ?_)
                    clear hK K
                    obtain ⟨v2, w2', hrun2, hown2, hv2, hb2⟩ := own_strs J6.out HF.out (HBT4.out.trans (hS1.mono HBT4.out.size)) (v := v1) (n := x.words.length) (lo := wr.heap.size) (olds := x.words.map Value.string) (by simpa using hown1) hv1 hS1.size (by have := hwl.1; have := hwl.2; omega) 22
                    refine wpAnyH_ready (rs := [6]) (by kernel_rfl) (by simp) ?_
                    refine AllReadyH.cons rfl (fun K hK => ?_) AllReadyH.nil
                    refine step_run rfl (.tmp 102) (.tmp 104) 22 rfl _ _ v2 w2' rfl rfl hrun2 ?_
                    go_simp
                    have hS2 : Below wr.heap.size wr w2' := hS1.trans hb2
                    refine hK.out _ _ hS2 (fun hHeld => ?_)
                    clear hK K
                    obtain ⟨g, gc, rfl⟩ : ∃ g gc, v2 = .slice (some ⟨g, 0, none⟩) (x.words.length + x.adjs.length) gc := by
                      rcases hown2.2 with ⟨e, _⟩ | ⟨g, cp, cur, e, h⟩
                      · exact absurd e hv2
                      · exact ⟨g, cp, e⟩
                    have hgc : x.words.length + x.adjs.length ≤ gc ∧ gc ≤ 9223372036854775807 := by
                      rcases hown2.2 with ⟨e, _⟩ | ⟨g2, cp, cur, e, h1, h2, h3, h4, h5⟩
                      · exact absurd e hv2
                      · cases e; unfold maxLen at h4; exact ⟨h3, h4⟩
                    have hREL : Hid ((∀ m (hm : m < (x.words ++ x.adjs).length), w2'.cell? ⟨g, m, none⟩ = some (.string (x.words ++ x.adjs)[m])) ∧ g < w2'.heap.size ∧ x.words.length + x.adjs.length ≤ gc ∧ gc ≤ 9223372036854775807 ∧ Below wr.heap.size wr w2') := ⟨fun m hm => by
                      rw [own_cell hown2 m (by rw [List.length_append] at hm; omega), ← List.map_append, List.getD_eq_getElem?_getD, List.getElem?_map, List.getElem?_eq_getElem hm]; rfl, (ownsRow_in hown2 g rfl).2, hgc.1, hgc.2, hS2⟩
                    clear hrun1 hrun2 hown1 hown2 hb1 hb2 hS1 hS2 hW2 hv1 hv2 hgc
                    refine wpAnyH_ready (rs := [7]) (by kernel_rfl) (by simp) ?_
                    refine AllReadyH.cons rfl (fun K hK => ?_) AllReadyH.nil
                    go_simp
                    refine hK.out _ _ hREL.out.2.2.2.2 (fun hHeld => ?_)
                    clear hK K
                    refine wpAnyH_done (by kernel_rfl) ?_ _
                    go_wp2_with fail
                    go_meet
                    obtain ⟨hr2, hr3, hr4, hr5, hr6⟩ := hREL.out
                    exact ⟨g, gc, rfl, by first | rfl | simp, rfl, hr2, hr3, hr4, hr5, hr6⟩
                    -- DEVB
                  case rest =>
                    obtain ⟨g, gc, rfl, rfl, rfl, hcl, hgl, hgc, hgcm, hS2⟩ := hcut.out
                    have HCL := Lib.hid hcl
                    have HS5 := Lib.hid (HB4.out.trans (hS2.mono HB4.out.size))
                    have HBT5 := Lib.hid (HBT4.out.trans (hS2.mono HBT4.out.size))
                    have hnl : x.words.length + x.adjs.length = (x.words ++ x.adjs).length := List.length_append.symm
                    have HWS := Lib.hid HSO.out.2.2.2
                    generalize x.words ++ x.adjs = ws at HCL HWS hnl
                    generalize x.words.length + x.adjs.length = nw at hnl hgc ⊢
                    have HNL := Lib.hid hnl
                    clear hcl hcut hS2 hnl
                    go_wp2_with fail
                    obtain ⟨wo3, rfl⟩ : ∃ wo3 : World, wo3 = wr := ⟨_, rfl⟩
                    go_loopw [107] (fun i wr => ∃ m : Nat, m ≤ nw ∧ i = .int .i64 m ∧ Below wc.heap.size wc wr) (fun i _ => nw - (intOf i).toNat)
                    case atStart => exact ⟨0, Nat.zero_le _, rfl, Below.refl _ _⟩
                    case round =>
                      obtain ⟨m, hmm, rfl, hB⟩ := hrel
                      have HBm := Lib.hid hB
                      by_cases hlt4 : m < nw
                      · have hml : m < ws.length := by have := HNL.out; omega
                        have hw := HWS.out _ (List.getElem_mem hml)
                        have g0 := (hB.cell (p := ⟨g, m, none⟩) hgl).trans (HCL.out m hml)
                        generalize ws[m] = z at hw g0
                        have hiw := isWordR_calls z wr (by obtain ⟨_, h9, _⟩ := hw; unfold maxLen; omega)
                        rw [dec_true hw] at hiw
                        have HIW := Lib.hid hiw
                        have hmi : (m : Int) < (nw : Int) := by omega
                        have hmi0 : (0 : Int) ≤ (m : Int) := by omega
                        clear hB hiw hw
                        go_wp2_with (go_at_call 22; refine HIW.out.mono ?_; rintro e1 w9 ⟨rfl, rfl⟩)
                        go_roundw
                        case rel => exact ⟨m + 1, by omega, by go_num, HBm.out⟩
                        case measure => simp [intOf]; omega
                      · have hmi : decide ((m : Int) < (nw : Int)) = false := by simpa using hlt4
                        clear hB
                        go_wp2_with fail
                        go_roundw
                        case rel => exact ⟨k2 + 1, by omega, by go_num, HS5.out.trans (HBm.out.mono HS5.out.size)⟩
                        case measure => simp [intOf]; omega
          · have HB5 := Lib.hid (HBz.out.trans (hB.mono HBz.out.size))
            have hki : decide ((k2 : Int) < (s.objects.length : Int)) = false := by simpa using hlt2
            have HTS5 := Lib.hid (fun (n : ByteArray) W (hW : Below wr.heap.size wr W) => HTS.out n W (hB.trans (hW.mono hB.size)))
            have hbx := (hk1.out wr HB5.out).1
            have HBT5 := Lib.hid hbt
            have z10 := hbx.2 10 (by simp)
            simp only [List.getElem?_cons_succ, List.getElem?_cons_zero] at z10
            obtain ⟨_, _, he10, hl10, hc10, h10⟩ := (G10.out).opn
            cases he10
            unfold maxLen at hc10
            have h10o := Lib.hid h10
            clear hB hbt hbx h10 HTS HRS
            go_wp2_with fail
            obtain ⟨wo5, hwo5⟩ : ∃ wo5 : World, wo5 = wr := ⟨_, rfl⟩
            rw [← hwo5] at HB5 HTS5 HBT5 ⊢
            clear hwo5
            go_loopw [119] (fun i wr => ∃ k3 : Nat, k3 ≤ s.rules.length ∧ i = .int .i64 k3 ∧ Below wo5.heap.size wo5 wr) (fun i _ => s.rules.length - (intOf i).toNat)
            case atStart => exact ⟨0, Nat.zero_le _, rfl, Below.refl _ _⟩
            case round =>
              clear hki z10
              obtain ⟨k3, hk3, rfl, hB⟩ := hrel
              have hbt : Below w.heap.size w wr := HBT5.out.trans (hB.mono HBT5.out.size)
              have HBr := Lib.hid hB
              have HBTr := Lib.hid hbt
              by_cases hlt3 : k3 < s.rules.length
              · obtain ⟨ob, off, rfl, hFob, hel⟩ := h10o.out (by omega)
                obtain ⟨cs, ⟨-, -, -, -, v4', v5', rfl, j4, j5⟩, -, hcell⟩ := hel w rfl k3 hlt3
                obtain ⟨p4, q4, rfl⟩ := j4.shape
                obtain ⟨p5, q5, rfl⟩ := j5.shape
                have hbl := fun j => World.cell?_of_block (w := w) (w' := wr) (a := ⟨ob, off + k3 * 6 + j, none⟩) (hbt.block ob (HF.out ob hFob))
                have hsr := HS.out.rules _ (List.getElem_mem hlt3)
                have hlb := (HL.out.2.2.1 _ (List.getElem_mem hlt3)).2
                generalize s.rules[k3] = x at hcell j4 j5 hsr hlb
                have hszb : St.sizes x.body ≤ 1000000 := by
                  have h1 := (St.fews_total x.body 200 (by omega)).2 hlb.1
                  have h2 := St.sizes_totals x.body
                  have h3 := (St.fews_total x.body 200 (by omega)).1
                  omega
                have y0 := (hbl 0).trans (hcell 0 _ rfl)
                have y1 := (hbl 1).trans (hcell 1 _ rfl)
                have y2 := (hbl 2).trans (hcell 2 _ rfl)
                have y3 := (hbl 3).trans (hcell 3 _ rfl)
                have y4 := (hbl 4).trans (hcell 4 _ rfl)
                have y5 := (hbl 5).trans (hcell 5 _ rfl)
                simp only [Nat.add_zero] at y0
                have hlc := fun W (hW : Below w.heap.size w W) => locsR_calls x.body F W _ (HF.out.below hW) hszb (Sts.below j5 HF.out hW (Nat.le_refl _))
                have hA : Hid (∃ wx bx, wr.alloc (.cells #[.string x.verb, .int .i64 x.phase, .string x.noun, .string x.second, .slice p4 x.cond.length q4, .slice p5 x.body.length q5] 61) = wx ∧ wr.heap.size = bx ∧ Below wr.heap.size wr wx ∧ BoxAt wx bx [.string x.verb, .int .i64 x.phase, .string x.noun, .string x.second, .slice p4 x.cond.length q4, .slice p5 x.body.length q5]) := ⟨_, _, rfl, rfl, (Below.refl _ wr).alloc (Nat.le_refl _) _, BoxAt.new _ _ _⟩
                have hki : (k3 : Int) < (s.rules.length : Int) := by omega
                have hki0 : (0 : Int) ≤ (k3 : Int) := by omega
                clear hel hcell j4 j5 hbl hB hbt hlb hszb
                go_upto_region 37 with fail
                obtain ⟨wx, bx, hwx, hbx, hBx0, hbox⟩ := hA.out
                rw [hwx]
                simp only [hbx]
                have HBX := Lib.hid (HBr.out.trans (hBx0.mono HBr.out.size))
                have hlc2 := hlc wx (HBTr.out.trans (hBx0.mono HBTr.out.size))
                have HOB := Lib.hid hbox
                have t5 := hbox.2 5 (by simp)
                simp only [List.getElem?_cons_succ, List.getElem?_cons_zero] at t5
                have hm16 := hsr.1
                have hmem := hsr.2
                generalize St.locsL x.body = ml at hlc2 hm16
                have HLC := Lib.hid hlc2
                have hd16 : decide (ml > 16) = false := by simp; omega
                have hth := fun W (hW : Below wx.heap.size wx W) => HTS5.out x.noun W (HBX.out.trans (hW.mono HBX.out.size))
                clear hA hwx hbx hBx0 hbox y0 y1 y2 y3 y4 y5 hlc hlc2 hsr hm16
                go_cut [138] (fun v wc => v = .bool false ∧ Below wx.heap.size wx wc)
                case first =>
                  have hnf : Hid (∀ W, Below wx.heap.size wx W → W.cell? ⟨bx, 2, none⟩ = some (.string x.noun)) := fun W hW => by
                    have := (HOB.out.below hW HOB.out.1).2 2 (by simp)
                    simpa using this
                  generalize x.noun = nm at hnf hth hmem
                  by_cases hem : nm = ⟨#[]⟩
                  · have hl : nm.toList = [] := by rw [hem]; simp
                    clear hth hmem hem
                    go_wp2_with (go_at_call 18; refine HLC.out.mono ?_; rintro e1 w9 ⟨rfl, hb9⟩; have t2 := hnf.out w9 hb9)
                    go_meet
                    exact ⟨by first | rfl | simp, hb9⟩
                  · rw [dec_true (hmem hem)] at hth
                    have HIN := Lib.hid hth
                    have hl0 : nm.toList ≠ [] := fun h => by
                      have h2 : (nm.toList == (⟨#[]⟩ : ByteArray).toList) = decide (nm = ⟨#[]⟩) := beq_str
                      rw [h, show (⟨#[]⟩ : ByteArray).toList = [] by simp] at h2
                      exact hem (of_decide_eq_true h2.symm)
                    obtain ⟨b0, l0, hl⟩ := List.exists_cons_of_ne_nil hl0
                    clear hth hmem hem hl0
                    go_wp2_with (first | (go_at_call 18; refine HLC.out.mono ?_; rintro e1 w9 ⟨rfl, hb9⟩; have t2 := hnf.out w9 hb9) | (go_at_call 21; refine (HIN.out w9 hb9).mono ?_; rintro e2 w10 ⟨rfl, rfl⟩))
                    go_meet
                    exact ⟨by first | rfl | simp, hb9⟩
                case rest =>
                  obtain ⟨rfl, hbc⟩ := hcut
                  have HBC := Lib.hid (HBX.out.trans (hbc.mono HBX.out.size))
                  clear hth hmem t5 hbc
                  go_wp2_with fail
                  go_roundw
                  case rel => exact ⟨k3 + 1, by omega, by go_num, HBC.out⟩
                  case measure => simp [intOf]; omega
              · have hki : decide ((k3 : Int) < (s.rules.length : Int)) = false := by simpa using hlt3
                clear hB hbt
                go_wp2_with (go_at_call 10; refine (HAW.out _ HBTr.out).mono ?_; rintro e6 w6 ⟨rfl, hb6⟩)
                go_ret
                exact ⟨rfl, HBTr.out.trans (hb6.mono HBTr.out.size)⟩
end Go.Proofs.Ytblhpiebheommaa
