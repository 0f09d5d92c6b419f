/- clewref50's All. Printed by gen-ac18.py. -/
import Derived.Test.YtapjglpiofpbmaaGreatAeG
namespace Go.Proofs.YtapjglpiofpbmaaGreat
open Go.RowKit Go.Sort

/-- Commands that lie in new memory, read. -/
def RdN (lo : Nat) (W : World) (l : List CmdD) (v : Value) : Prop := RdCmds (NewB lo W.heap.size) W l v ∧ ProperSl v
theorem RdN.on {lo : Nat} {W W' : World} {l : List CmdD} {v : Value} (h : RdN lo W l v) (hb : Below W.heap.size W W') : RdN lo W' l v :=
  ⟨h.1.keep (fun b hb' => hb.block b hb'.2) (fun _ hb' => ⟨hb'.1, Nat.lt_of_lt_of_le hb'.2 hb.size⟩), h.2⟩
theorem RdN.ofOwn {lo s : Nat} {W : World} {l : List CmdD} {v : Value} (h : OwnC s W l v) (hs : lo ≤ s) : RdN lo W l v :=
  ⟨h.rdl.keep (fun _ _ => rfl) (fun _ hb => ⟨Nat.le_trans hs hb.1, hb.2⟩), h.proper⟩
theorem RdN.nil (lo : Nat) (W : World) : RdN lo W [] (.slice none 0 0) := ⟨RdL.nil _ _ _ _ _ _ (Nat.zero_le _), .inl rfl⟩
/-- A call that hands back commands to read. -/
def GivesN (l : List CmdD) (w : World) (e : Ending) (w' : World) : Prop := ∃ v, e = .returned v ∧ RdN w.heap.size w' l v ∧ Below w.heap.size w w'
theorem putN {lo : Nat} {W : World} {l : List CmdD} {lv : Value} {c : CmdD} (h : RdN lo W l lv) (hr : l.Pairwise CmdD.lt) (hlen : l.length ≤ 2000000000) (hc : c.Fit) (hlo : lo ≤ W.heap.size) :
    Calls Tryz.prog 26 #[lv, c.val] W (fun e w' => ∃ v, e = .returned v ∧ RdN lo w' (putC l c) v ∧ Below W.heap.size W w') :=
  (put50_calls (NewB lo W.heap.size) W l lv c (newB_inn lo W) h.1 hr hlen hc h.2).mono fun e w' ⟨v, h1, h2, h3⟩ => ⟨v, h1, h2.elim (fun ⟨e1, e2⟩ => by rw [e1, e2]; exact h.on h3) (fun h4 => RdN.ofOwn h4 hlo), h3⟩

theorem line_fit {verb : Int} {l : List SlotD} {seen : List Int} (hv : I64 verb) (hs : ∀ n ∈ seen, I64 n) : ∀ c ∈ lineC verb l seen, c.Fit := by
  intro c hc
  unfold lineC at hc
  have hz : ∀ n ∈ ([0] : List Int), I64 n := by intro n hn; obtain rfl : n = 0 := by simpa using hn
                                                unfold I64; omega
  obtain ⟨x, hx, hc⟩ := List.mem_flatMap.1 hc
  obtain ⟨y, hy, hc⟩ := List.mem_flatMap.1 hc
  obtain ⟨n, hn, hc⟩ := List.mem_flatMap.1 hc
  obtain ⟨d, hd, rfl⟩ := List.mem_map.1 hc
  refine ⟨hv, ?_, ?_, rowI_fit _ 0 10 (by omega) (by omega) n hn, rowI_fit _ 1 12 (by omega) (by omega) d hd⟩
  · split at hx
    · exact hs x hx
    · exact hz x hx
  · split at hy
    · exact hs y hy
    · exact hz y hy
theorem acts_len (seen : List Int) (hs : seen.length ≤ 128) : ∀ (l : List ActD) (v : Nat), (∀ a ∈ l, a.lines.length ≤ 8) → (actsC seen v l).length ≤ l.length * 15728640
  | [], _, _ => by simp [actsC]
  | a :: l, v, h => by
    show ((if a.isMeta then [] else a.lines.flatMap fun s => lineC v s seen) ++ actsC seen (v + 1) l).length ≤ _
    rw [List.length_append, List.length_cons, Nat.succ_mul]
    have h1 := acts_len seen hs l (v + 1) (fun b hb => h b (by simp [hb]))
    have h2 : (if a.isMeta then [] else a.lines.flatMap fun s => lineC v s seen).length ≤ 15728640 := by
      split
      · simp
      · refine Nat.le_trans (flat_len _ _ 1966080 fun s _ => line_len _ _ _ hs) ?_
        have := h a (by simp)
        omega
    omega
/-- All that can be done, by definition. -/
def allC (t : TabD) (x : WorldD) : List CmdD := putsC [] (actsC x.vis 0 t.acts)
theorem vis_len {x : WorldD} (hn : NestK x) (h128 : x.parent.length ≤ 128) : x.vis.length ≤ 128 := by
  unfold WorldD.vis
  split
  · exact Nat.le_trans (List.length_filter_le _ _) (reach_len hn h128 _)
  · exact reach_len hn h128 _
theorem vis_is {x : WorldD} : ∀ n ∈ x.vis, IsTh x.n n := by
  intro n h
  unfold WorldD.vis at h
  split at h
  · exact reach_is _ _ _ (List.mem_filter.1 h).1
  · exact reach_is _ _ _ h
theorem vis_fit {x : WorldD} (h128 : x.parent.length ≤ 128) : ∀ n ∈ x.vis, I64 n := by
  intro n h
  have h9 := vis_is n h
  have hn9 : x.n = x.parent.length := rfl
  unfold IsTh at h9
  unfold I64
  omega
set_option maxRecDepth 100000 in
set_option maxHeartbeats 8000000 in
theorem all50_calls (F : Nat → Prop) (w : World) (t : TabD) (x : WorldD) (cs ds : List Value) (hF : Inn F w) (ht : Holds.tab.R F w t cs) (hx : Holds.world.R F w x ds) (hn : NestK x) (h128 : x.parent.length ≤ 128) (ha : t.acts.length ≤ 64) (ha8 : ∀ a ∈ t.acts, a.lines.length ≤ 8) : Calls Tryz.prog 10 #[.agg cs.toArray, .agg ds.toArray] w (GivesN (allC t x) w) := by
  have HVI0 := Lib.hid (fun (W : World) (h : Below w.heap.size w W) => visible23_calls F W t x cs ds (fun b hb => Nat.lt_of_lt_of_le (hF b hb) h.size) (Holds.tab.keep (fun b hb => h.block b (hF b hb)) (fun _ h => h) ht) (Holds.world.keep (fun b hb => h.block b (hF b hb)) (fun _ h => h) hx) hn h128)
  have hvl := vis_len hn h128
  have hvf := vis_fit (x := x) h128
  obtain ⟨R, hR⟩ : ∃ r, allC t x = r := ⟨_, rfl⟩
  rw [hR]
  have HQ0 : Hid (putsC [] (actsC x.vis 0 (t.acts.drop 0)) = R) := hR
  have HL0 : Hid (([] : List CmdD).length + (actsC x.vis 0 (t.acts.drop 0)).length ≤ 2000000000) := by
    have := acts_len x.vis hvl t.acts 0 ha8
    show _ ≤ _
    rw [List.drop_zero, List.length_nil]
    omega
  clear hR
  generalize x.vis = vis at HVI0 hvl hvf HQ0 HL0
  have HVF := Lib.hid hvf
  have HLN0 := Lib.hid (fun (W : World) (h : Below w.heap.size w W) (s : Nat) (ev : Value) (hev : OwnI s W vis ev) (verb : Int) (hver : I64 verb) (l : List SlotD) (lv : Value) (hl : RdL Holds.slot 2 F W l lv) => line50_calls (fun b => F b ∨ NewB s W.heap.size b) W l lv vis ev verb (fun b hb => hb.elim (fun h1 => Nat.lt_of_lt_of_le (hF b h1) h.size) (fun h1 => h1.2)) (hl.keep (fun _ _ => rfl) (fun _ h => .inl h)) (hev.rdl.keep (fun _ _ => rfl) (fun _ h => .inr h)) hvl hver HVF.out)
  have HT0 := Lib.hid ht
  clear hvf
  obtain ⟨i0, i1, i2, i3, i5, v4, v6, v7, v8, v9, v10, v11, v12, v13, v14, rfl, g4, g6, g7, g8, g9, g10, g11, g12, g13, g14⟩ := ht
  obtain ⟨ad4, ca4, rfl⟩ := g4.shape
  obtain ⟨ad6, ca6, rfl⟩ := g6.shape
  obtain ⟨ad7, ca7, rfl⟩ := g7.shape
  obtain ⟨ad8, ca8, rfl⟩ := g8.shape
  obtain ⟨ad9, ca9, rfl⟩ := g9.shape
  obtain ⟨ad10, ca10, rfl⟩ := g10.shape
  obtain ⟨ad11, ca11, rfl⟩ := g11.shape
  obtain ⟨ad12, ca12, rfl⟩ := g12.shape
  obtain ⟨ad13, ca13, rfl⟩ := g13.shape
  obtain ⟨ad14, ca14, rfl⟩ := g14.shape
  have ln4 := g4.len
  have ln6 := g6.len
  have ln7 := g7.len
  have ln8 := g8.len
  have ln9 := g9.len
  have ln10 := g10.len
  have ln11 := g11.len
  have ln12 := g12.len
  have ln13 := g13.len
  have ln14 := g14.len
  unfold maxLen at ln4 ln6 ln7 ln8 ln9 ln10 ln11 ln12 ln13 ln14
  obtain ⟨-, -, -, -, -, -, wv0, wv1, wv2, wv3, wv4, wv5, wv6, rfl, wg0, wg1, wg2, wg3, wg4, wg5, wg6⟩ := hx
  obtain ⟨wa0, wc0, rfl⟩ := wg0.shape
  have wl0 := wg0.len
  obtain ⟨wa1, wc1, rfl⟩ := wg1.shape
  have wl1 := wg1.len
  obtain ⟨wa2, wc2, rfl⟩ := wg2.shape
  have wl2 := wg2.len
  obtain ⟨wa3, wc3, rfl⟩ := wg3.shape
  have wl3 := wg3.len
  obtain ⟨wa4, wc4, rfl⟩ := wg4.shape
  have wl4 := wg4.len
  obtain ⟨wa5, wc5, rfl⟩ := wg5.shape
  have wl5 := wg5.len
  obtain ⟨wa6, wc6, rfl⟩ := wg6.shape
  have wl6 := wg6.len
  unfold maxLen at wl0 wl1 wl2 wl3 wl4 wl5 wl6
  obtain ⟨a9, c9, he9, -, -, hA9⟩ := RdL.elem g9 hF
  cases he9
  have HA9 := Lib.hid hA9
  clear hA9
  clear g4 g6 g7 g8 g9 g10 g11 g12 g13 g14 wg0 wg1 wg2 wg3 wg4 wg5 wg6
  clear i0 i1 i2 i3 i5
  obtain ⟨W1, hW1⟩ : ∃ z, w.alloc (.cells #[.int .i64 t.title, .int .i64 t.byl, .int .i64 t.release, .int .i64 t.most, .slice ad4 t.texts.length ca4, .int .i64 t.flags, .slice ad6 t.props.length ca6, .slice ad7 t.globals.length ca7, .slice ad8 t.things.length ca8, .slice ad9 t.acts.length ca9, .slice ad10 t.deeds.length ca10, .slice ad11 t.funcs.length ca11, .slice ad12 t.daemons.length ca12, .slice ad13 t.params.length ca13, .slice ad14 t.locals.length ca14] 28) = z := ⟨_, rfl⟩
  obtain ⟨W2, hW2⟩ : ∃ z, W1.alloc (.cells #[.slice wa0 x.globals.length wc0, .slice wa1 x.parent.length wc1, .slice wa2 x.child.length wc2, .slice wa3 x.next.length wc3, .slice wa4 x.flags.length wc4, .slice wa5 x.props.length wc5, .slice wa6 x.timers.length wc6, .int .u64 x.seed, .int .i64 x.score, .int .i64 x.turns, .int .i64 x.over, .int .i64 x.it, .int .i64 x.go] 31) = z := ⟨_, rfl⟩
  have hz1 : W1.heap.size = w.heap.size + 1 := by rw [← hW1]; simp
  have hb1 : Below w.heap.size w W1 := by rw [← hW1]; exact (Below.refl _ _).alloc (Nat.le_refl _) _
  have hb2 : Below W1.heap.size W1 W2 := by rw [← hW2]; exact (Below.refl _ _).alloc (Nat.le_refl _) _
  have hx1 : BoxT W1 w.heap.size [.int .i64 t.title, .int .i64 t.byl, .int .i64 t.release, .int .i64 t.most, .slice ad4 t.texts.length ca4, .int .i64 t.flags, .slice ad6 t.props.length ca6, .slice ad7 t.globals.length ca7, .slice ad8 t.things.length ca8, .slice ad9 t.acts.length ca9, .slice ad10 t.deeds.length ca10, .slice ad11 t.funcs.length ca11, .slice ad12 t.daemons.length ca12, .slice ad13 t.params.length ca13, .slice ad14 t.locals.length ca14] 28 := by rw [← hW1]; exact BoxT.new _ _ _
  have hx2 : BoxT W2 (w.heap.size + 1) [.slice wa0 x.globals.length wc0, .slice wa1 x.parent.length wc1, .slice wa2 x.child.length wc2, .slice wa3 x.next.length wc3, .slice wa4 x.flags.length wc4, .slice wa5 x.props.length wc5, .slice wa6 x.timers.length wc6, .int .u64 x.seed, .int .i64 x.score, .int .i64 x.turns, .int .i64 x.over, .int .i64 x.it, .int .i64 x.go] 31 := by rw [← hz1, ← hW2]; exact BoxT.new _ _ _
  have HXt := Lib.hid (hx1.below hb2); have HXv := Lib.hid hx2; have HBv := Lib.hid (btK hb1 hb2)
  have HW1 := Lib.hid hW1; have HW2 := Lib.hid hW2
  have hs2 : W2.heap.size = W1.heap.size + 1 := by rw [← hW2]; simp
  rw [hz1] at hs2
  have HS2 := Lib.hid hs2
  clear hs2
  clear hW1 hW2 hz1 hb1 hb2 hx1 hx2
  go_enter Tryz.func10, Tryz.ntmps10
  go_upto_region 1 with fail
  rw [HW1.out, HW2.out]
  obtain ⟨TV, hTV⟩ : ∃ v, Value.agg #[.int .i64 t.title, .int .i64 t.byl, .int .i64 t.release, .int .i64 t.most, .slice ad4 t.texts.length ca4, .int .i64 t.flags, .slice ad6 t.props.length ca6, .slice ad7 t.globals.length ca7, .slice ad8 t.things.length ca8, .slice ad9 t.acts.length ca9, .slice ad10 t.deeds.length ca10, .slice ad11 t.funcs.length ca11, .slice ad12 t.daemons.length ca12, .slice ad13 t.params.length ca13, .slice ad14 t.locals.length ca14] = v := ⟨_, rfl⟩
  obtain ⟨WV, hWV⟩ : ∃ v, Value.agg #[.slice wa0 x.globals.length wc0, .slice wa1 x.parent.length wc1, .slice wa2 x.child.length wc2, .slice wa3 x.next.length wc3, .slice wa4 x.flags.length wc4, .slice wa5 x.props.length wc5, .slice wa6 x.timers.length wc6, .int .u64 x.seed, .int .i64 x.score, .int .i64 x.turns, .int .i64 x.over, .int .i64 x.it, .int .i64 x.go] = v := ⟨_, rfl⟩
  have HLT : Hid (∀ W, BoxT W w.heap.size [.int .i64 t.title, .int .i64 t.byl, .int .i64 t.release, .int .i64 t.most, .slice ad4 t.texts.length ca4, .int .i64 t.flags, .slice ad6 t.props.length ca6, .slice ad7 t.globals.length ca7, .slice ad8 t.things.length ca8, .slice ad9 t.acts.length ca9, .slice ad10 t.deeds.length ca10, .slice ad11 t.funcs.length ca11, .slice ad12 t.daemons.length ca12, .slice ad13 t.params.length ca13, .slice ad14 t.locals.length ca14] 28 → (Instr.loadAt 28 (.pointer (some ⟨w.heap.size, 0, none⟩))).run Tryz.prog W = .ok TV W) := fun W h => by
    rw [← hTV]
    exact run_loadAt_mid W _ 0 28 _ _ h.range Tryz.underlying28 rfl (by kernel_rfl)
  have HLW : Hid (∀ W, BoxT W (w.heap.size + 1) [.slice wa0 x.globals.length wc0, .slice wa1 x.parent.length wc1, .slice wa2 x.child.length wc2, .slice wa3 x.next.length wc3, .slice wa4 x.flags.length wc4, .slice wa5 x.props.length wc5, .slice wa6 x.timers.length wc6, .int .u64 x.seed, .int .i64 x.score, .int .i64 x.turns, .int .i64 x.over, .int .i64 x.it, .int .i64 x.go] 31 → (Instr.loadAt 31 (.pointer (some ⟨w.heap.size + 1, 0, none⟩))).run Tryz.prog W = .ok WV W) := fun W h => by
    rw [← hWV]
    exact run_loadAt_mid W _ 0 31 _ _ h.range Tryz.underlying31 rfl (by kernel_rfl)
  rw [hTV, hWV]
  clear HW1 HW2
  clear ln4 ln6 ln7 ln8 ln9 ln10 ln11 ln12 ln13 ln14 wl0 wl1 wl2 wl3 wl4 wl5 wl6
  have HVI := Lib.hid HVI0.out
  rw [hWV, hTV] at HVI
  clear hTV hWV HVI0
  go_upto_region 3 with (first | ((with_reducible refine wpList_load_T 28 (.tmp 2) ?hw9 ⟨w.heap.size, 0, none⟩ ?hx9 TV (HLT.out _ HXt.out) ?_); (case hw9 => rfl); (case hx9 => first | rfl | (exact rfl))) | ((with_reducible refine wpList_load_T 31 (.tmp 3) ?hw9 ⟨w.heap.size + 1, 0, none⟩ ?hx9 WV (HLW.out _ HXv.out) ?_); (case hw9 => rfl); (case hx9 => first | rfl | (exact rfl))) | (go_at_call 13; (with_reducible refine (HVI.out _ HBv.out).mono ?_); rintro e w1 ⟨vv, rfl, hown, hb1⟩))
  have HOV := Lib.hid hown
  have HX1 := Lib.hid (HXt.out.below hb1)
  have HB1 := Lib.hid (btK HBv.out hb1)
  clear hown hb1 HXt HXv HBv
  go_wp2
  go_loopw [5, 7] (fun u i wr => ∃ (k : Nat) (acc : List CmdD), k ≤ t.acts.length ∧ i = .int .i64 k ∧ Hid (putsC acc (actsC vis k (t.acts.drop k)) = R) ∧ Hid (acc.length + (actsC vis k (t.acts.drop k)).length ≤ 2000000000) ∧ Hid (acc.Pairwise CmdD.lt) ∧ Hid (RdN w.heap.size wr acc u) ∧ Below w1.heap.size w1 wr) (fun _ i _ => t.acts.length - (intOf i).toNat)
  case atStart => exact ⟨0, [], Nat.zero_le _, rfl, HQ0.out, HL0.out, List.Pairwise.nil, RdN.nil _ _, Below.refl _ _⟩
  case round =>
    obtain ⟨k, acc, hk, rfl, HQ, HL, HP, HO, hB⟩ := hrel
    have HBL := Lib.hid hB
    have HXt := Lib.hid (HX1.out.below hB)
    have HBv := Lib.hid (btK HB1.out hB)
    clear hB
    have y9 := HXt.out.cell 9
    simp only [List.getElem?_cons_succ, List.getElem?_cons_zero] at y9
    by_cases hlt : k < t.acts.length
    rotate_left
    · have h1 : ¬ (k : Int) < (t.acts.length : Int) := by omega
      have HF : Hid (acc = R) := by
        have h9 := HQ.out
        rwa [List.drop_eq_nil_of_le (by omega)] at h9
      go_wp2
      go_ret
      exact ⟨_, rfl, by rw [← HF.out]; exact HO.out, HBv.out⟩
    have h1 : (k : Int) < (t.acts.length : Int) := by omega
    have h2 : (0 : Int) ≤ (k : Int) := by omega
    obtain ⟨b9, off9, rfl, hel9⟩ := HA9.out (by omega)
    obtain ⟨xs, -, ⟨lv, rfl, hln⟩, hrg⟩ := hel9 k hlt
    have hq1 := HQ.out; have hq2 := HL.out
    rw [List.drop_eq_getElem_cons hlt] at hq1 hq2
    change putsC acc ((if t.acts[k].isMeta then [] else t.acts[k].lines.flatMap fun s => lineC k s vis) ++ actsC vis (k + 1) (t.acts.drop (k + 1))) = R at hq1
    change acc.length + ((if t.acts[k].isMeta then [] else t.acts[k].lines.flatMap fun s => lineC k s vis) ++ actsC vis (k + 1) (t.acts.drop (k + 1))).length ≤ 2000000000 at hq2
    have hl8 := ha8 _ (List.getElem_mem hlt)
    have HRG := Lib.hid hrg
    generalize t.acts[k].isMeta = mt at hq1 hq2 HRG
    generalize t.acts[k].lines = lines at hq1 hq2 HRG hln hl8
    generalize hT1 : actsC vis (k + 1) (t.acts.drop (k + 1)) = T1 at hq1 hq2
    have HT1 := Lib.hid hT1
    clear hrg hT1 hel9
    have hlm := hln.len
    unfold maxLen at hlm
    obtain ⟨wo, rfl⟩ : ∃ z : World, z = wr := ⟨_, rfl⟩
    obtain ⟨uo, rfl⟩ : ∃ z : Value, z = u5 := ⟨_, rfl⟩
    obtain ⟨ladr, lcap, rfl⟩ := hln.shape
    have HLNS := Lib.hid hln
    clear hln
    go_wp2
    go_loopw [5, 8] (fun u iv wr => ∃ (i : Nat) (acc : List CmdD), i ≤ lines.length ∧ iv = .int .i64 i ∧ Hid (putsC acc ((if mt then [] else (lines.drop i).flatMap fun s => lineC k s vis) ++ T1) = R) ∧ Hid (acc.length + ((if mt then [] else (lines.drop i).flatMap fun s => lineC k s vis) ++ T1).length ≤ 2000000000) ∧ Hid (acc.Pairwise CmdD.lt) ∧ Hid (RdN w.heap.size wr acc u) ∧ Below w1.heap.size w1 wr) (fun _ iv _ => lines.length - (intOf iv).toNat)
    case atStart => exact ⟨0, acc, Nat.zero_le _, rfl, hq1, hq2, HP.out, HO.out, HBL.out⟩
    case round =>
      clear hq1 hq2 HQ HL HP HO HXt HBv HBL y9
      obtain ⟨i, acc2, hi, rfl, HQ2, HL2, HP2, HO2, hB⟩ := hrel
      have HBL := Lib.hid hB
      have HXt := Lib.hid (HX1.out.below hB)
      have HBv := Lib.hid (btK HB1.out hB)
      clear hB
      have y9 := HXt.out.cell 9
      simp only [List.getElem?_cons_succ, List.getElem?_cons_zero] at y9
      have p0 := HRG.out _ HBv.out 0 _ rfl
      have p1 := HRG.out _ HBv.out 1 _ rfl
      simp only [Nat.add_zero] at p0
      obtain ⟨w2o, rfl⟩ : ∃ z : World, z = wr := ⟨_, rfl⟩
      obtain ⟨u2o, rfl⟩ : ∃ z : Value, z = u5 := ⟨_, rfl⟩
      by_cases hex : mt = true ∨ ¬ i < lines.length
      · have HF : Hid (putsC acc2 T1 = R) := by
          show _ = _
          have h9 := HQ2.out
          rcases hex with h | h
          · rw [h] at h9; exact h9
          · rw [List.drop_eq_nil_of_le (by omega)] at h9
            simpa using h9
        have HLF : Hid (acc2.length + T1.length ≤ 2000000000) := by
          have h9 := HL2.out
          rw [List.length_append] at h9
          show _ ≤ _
          omega
        by_cases hil : i < lines.length
        · obtain rfl : mt = true := by rcases hex with h | h; exact h; exact absurd hil h
          have e1 : (i : Int) < (lines.length : Int) := by omega
          clear hex
          go_wp2
          go_roundw
          case rel => exact ⟨k + 1, acc2, by omega, by go_num, by rw [HT1.out]; exact HF.out, by rw [HT1.out]; exact HLF.out, HP2.out, HO2.out, HBL.out⟩
          case measure => simp [intOf] <;> omega
        · have e1 : ¬ (i : Int) < (lines.length : Int) := by omega
          clear hex
          go_wp2
          go_roundw
          case rel => exact ⟨k + 1, acc2, by omega, by go_num, by rw [HT1.out]; exact HF.out, by rw [HT1.out]; exact HLF.out, HP2.out, HO2.out, HBL.out⟩
          case measure => simp [intOf] <;> omega
      obtain rfl : mt = false := by
        cases mt
        · rfl
        · exact absurd (Or.inl rfl) hex
      have hil : i < lines.length := by rcases Nat.lt_or_ge i lines.length with h | h; exact h; exact absurd (Or.inr (by omega)) hex
      clear hex
      have e1 : (i : Int) < (lines.length : Int) := by omega
      have e2 : (0 : Int) ≤ (i : Int) := by omega
      obtain ⟨ya, yc, he, -, -, hell⟩ := RdL.elem HLNS.out hF
      cases he
      obtain ⟨b8, off8, rfl, hel8⟩ := hell (by omega)
      obtain ⟨xs8, -, ⟨sv, rfl, hsl⟩, hrg8⟩ := hel8 i hil
      have p8 := hrg8 _ HBv.out 0 _ rfl
      simp only [Nat.mul_one, Nat.add_zero] at p8
      have hq1 := HQ2.out; have hq2 := HL2.out
      simp only [Bool.false_eq_true, if_false] at hq1 hq2
      rw [flat_drop _ _ _ hil, List.append_assoc] at hq1 hq2
      generalize lines[i] = sl at hq1 hq2 hsl
      have HLN := Lib.hid (HLN0.out _ HBv.out _ _ (HOV.out.below HBL.out) (k : Int) (by unfold I64; omega) sl sv (RdL.below hsl hF HBv.out (Nat.le_refl _)))
      have HFT := Lib.hid (line_fit (verb := (k : Int)) (l := sl) (by unfold I64; omega) HVF.out)
      obtain ⟨ssa, ssc, rfl⟩ := hsl.shape
      generalize lineC (k : Int) sl vis = LC at HLN HFT hq1 hq2
      generalize hT2 : ((lines.drop (i + 1)).flatMap fun s => lineC (k : Int) s vis) ++ T1 = T2 at hq1 hq2
      have HT2 := Lib.hid hT2; have HQ3 := Lib.hid hq1; have HL3 := Lib.hid hq2
      clear hsl hrg8 hel8 hell hT2 hq1 hq2
      go_upto_region 10 with (first | (go_at_call 25; (with_reducible refine HLN.out.mono ?_); rintro e w3 ⟨vc, rfl, hoc, hb3⟩; obtain ⟨ca, cc, rfl⟩ := hoc.shape))
      have hrd := hoc.rdl
      obtain ⟨yc1, yc2, he, -, -, helc⟩ := RdL.elem hrd (newB_inn _ w3)
      cases he
      have hlc := hrd.len
      unfold maxLen at hlc
      have HELC := Lib.hid helc
      have HX3 := Lib.hid (HX1.out.below (HBL.out.trans (hb3.mono HBL.out.size)))
      have HB3 := Lib.hid (HBL.out.trans (hb3.mono HBL.out.size))
      have HO3 := Lib.hid (HO2.out.on hb3)
      clear hrd hoc helc hb3 p0 p1 p8 y9
      go_wp2
      go_loopw [5, 54] (fun u iv wr => ∃ (j : Nat) (acc : List CmdD), j ≤ LC.length ∧ iv = .int .i64 j ∧ Hid (putsC acc (LC.drop j ++ T2) = R) ∧ Hid (acc.length + (LC.drop j ++ T2).length ≤ 2000000000) ∧ Hid (acc.Pairwise CmdD.lt) ∧ Hid (RdN w.heap.size wr acc u) ∧ Below w3.heap.size w3 wr) (fun _ iv _ => LC.length - (intOf iv).toNat)
      case atStart => exact ⟨0, acc2, Nat.zero_le _, rfl, HQ3.out, HL3.out, HP2.out, HO3.out, Below.refl _ _⟩
      case round =>
        clear HQ3 HL3 HP2 HO2 HO3 HQ2 HL2
        obtain ⟨j, acc3, hj, rfl, HQ3, HL3, HP3, HO3, hB⟩ := hrel
        have HBK := Lib.hid hB
        clear hB
        obtain ⟨w4o, rfl⟩ : ∃ z : World, z = wr := ⟨_, rfl⟩
        obtain ⟨u4o, rfl⟩ : ∃ z : Value, z = u5 := ⟨_, rfl⟩
        by_cases hjl : j < LC.length
        rotate_left
        · have e3 : ¬ (j : Int) < (LC.length : Int) := by omega
          have HF : Hid (putsC acc3 T2 = R) := by
            have h9 := HQ3.out
            rwa [List.drop_eq_nil_of_le (by omega), List.nil_append] at h9
          have HLF : Hid (acc3.length + T2.length ≤ 2000000000) := by
            have h9 := HL3.out
            rwa [List.drop_eq_nil_of_le (by omega), List.nil_append] at h9
          go_wp2
          go_roundw
          case rel => exact ⟨i + 1, acc3, by omega, by go_num, by rw [if_neg (by decide), HT2.out]; exact HF.out, by rw [if_neg (by decide), HT2.out]; exact HLF.out, HP3.out, HO3.out, HB3.out.trans (HBK.out.mono HB3.out.size)⟩
          case measure => simp [intOf] <;> omega
        have e3 : (j : Int) < (LC.length : Int) := by omega
        have e4 : (0 : Int) ≤ (j : Int) := by omega
        obtain ⟨bc, offc, rfl, helc⟩ := HELC.out (by omega)
        obtain ⟨xsc, -, ⟨-, -, -, -, -, rfl⟩, hrgc⟩ := helc j hjl
        have hq3 := HQ3.out; have hl3 := HL3.out
        rw [List.drop_eq_getElem_cons hjl, List.cons_append] at hq3 hl3
        change putsC (putC acc3 LC[j]) (LC.drop (j + 1) ++ T2) = R at hq3
        have hft := HFT.out _ (List.getElem_mem hjl)
        have hrg9 := hrgc _ HBK.out
        generalize LC[j] = c at hq3 hl3 hft hrg9
        have c0 := hrg9 0 _ rfl; have c1 := hrg9 1 _ rfl; have c2 := hrg9 2 _ rfl; have c3 := hrg9 3 _ rfl; have c4 := hrg9 4 _ rfl
        simp only [Nat.add_zero] at c0
        have HQ4 := Lib.hid hq3
        have HL4 : Hid ((putC acc3 c).length + (LC.drop (j + 1) ++ T2).length ≤ 2000000000) := by
          show _ ≤ _
          have := putC_len acc3 c HP3.out
          rw [List.length_cons] at hl3
          omega
        have HP4 := Lib.hid (putC_rises (c := c) HP3.out)
        have HPUT := Lib.hid (fun (W : World) (h : Below w4o.heap.size w4o W) => putN (HO3.out.on h) HP3.out (by have := HL3.out; omega) hft (by have h7 := HBv.out.size; have h8 := HB3.out.size; have h9 := HBK.out.size; have h10 := h.size; have h11 := HB1.out.size; omega))
        clear hq3 hl3 hft hrg9 hrgc helc
        go_upto_region 12 with fail
        obtain ⟨W5, hW5⟩ : ∃ z, w4o.alloc (.cells #[.int .i64 c.verb, .int .i64 c.noun, .int .i64 c.second, .int .i64 c.number, .int .i64 c.dir] 38) = z := ⟨_, rfl⟩
        rw [hW5]
        have hb5 : Below w4o.heap.size w4o W5 := by rw [← hW5]; exact (Below.refl _ _).alloc (Nat.le_refl _) _
        have hx5 : BoxT W5 w4o.heap.size [.int .i64 c.verb, .int .i64 c.noun, .int .i64 c.second, .int .i64 c.number, .int .i64 c.dir] 38 := by rw [← hW5]; exact BoxT.new _ _ _
        have HLD : Hid ((Instr.loadAt 38 (.pointer (some ⟨w4o.heap.size, 0, none⟩))).run Tryz.prog W5 = .ok c.val W5) := run_loadAt_mid W5 _ 0 38 _ _ hx5.range Tryz.underlying38 rfl (by kernel_rfl)
        have HPU5 := Lib.hid (HPUT.out W5 hb5)
        have HB5 := Lib.hid hb5
        clear hW5 hb5 hx5 c0 c1 c2 c3 c4 HPUT
        go_wp2_with (first | ((with_reducible refine wpList_load_T 38 (.tmp 10) ?hw9 ⟨w4o.heap.size, 0, none⟩ ?hx9 c.val (HLD.out) ?_); (case hw9 => rfl); (case hx9 => first | rfl | (exact rfl))) | (go_at_call 26; (with_reducible refine HPU5.out.mono ?_); rintro e w6 ⟨vp, rfl, hop, hb6⟩))
        go_roundw
        case rel => exact ⟨j + 1, putC acc3 c, by omega, by go_num, HQ4.out, HL4.out, HP4.out, hop, HBK.out.trans ((btK HB5.out hb6).mono HBK.out.size)⟩
        case measure => simp [intOf] <;> omega
end Go.Proofs.YtapjglpiofpbmaaGreat
/- clewref50's Same, Is and Count. Printed by gen-ac19.py. -/
namespace Go.Proofs.YtapjglpiofpbmaaGreat
open Go.RowKit Go.Sort

set_option maxRecDepth 100000 in
set_option maxHeartbeats 4000000 in
/-- Two lists of the same commands are the same. -/
theorem same50_calls (F G : Nat → Prop) (w : World) (l : List CmdD) (va vb : Value) (hF : Inn F w) (hG : Inn G w) (ha : RdCmds F w l va) (hb : RdCmds G w l vb) : Calls Tryz.prog 8 #[va, vb] w (Gives w (.bool true)) := by
  have hll := ha.len
  unfold maxLen at hll
  obtain ⟨aA, cA, rfl, -, -, hA⟩ := ha.elem hF
  obtain ⟨aB, cB, rfl, -, -, hB⟩ := hb.elem hG
  have HA := Lib.hid hA; have HB9 := Lib.hid hB
  clear ha hb hA hB
  go_enter Tryz.func8, Tryz.ntmps8
  go_wp2
  go_loopw [5] (fun i wr => ∃ (k : Nat), k ≤ l.length ∧ i = .int .i64 k ∧ Below w.heap.size w wr) (fun i _ => l.length - (intOf i).toNat)
  case atStart => exact ⟨0, Nat.zero_le _, rfl, Below.refl _ _⟩
  case round =>
    obtain ⟨k, hk, rfl, hB⟩ := hrel
    have HB := Lib.hid hB
    clear hB
    by_cases hlt : k < l.length
    rotate_left
    · have h1 : ¬ (k : Int) < (l.length : Int) := by omega
      go_wp2
      go_ret
      exact ⟨rfl, HB.out⟩
    have h1 : (k : Int) < (l.length : Int) := by omega
    have h2 : (0 : Int) ≤ (k : Int) := by omega
    obtain ⟨bA, offA, rfl, helA⟩ := HA.out (by omega)
    obtain ⟨bB, offB, rfl, helB⟩ := HB9.out (by omega)
    obtain ⟨xA, -, ⟨-, -, -, -, -, rfl⟩, hrA⟩ := helA k hlt
    obtain ⟨xB, -, ⟨-, -, -, -, -, rfl⟩, hrB⟩ := helB k hlt
    have q1 := fun W => cmd_neq l[k] l[k] W
    have q2 := fun W x y => cmd_guard .neq x y l[k] l[k] W
    rw [decide_eq_true rfl] at q1
    generalize l[k] = c at hrA hrB q1 q2
    obtain ⟨ev, hev⟩ : ∃ v, c.val = v := ⟨_, rfl⟩
    rw [hev] at q1 q2
    go_upto_region 6 with fail
    have hlA : ∀ W, (∃ p : Regrown, W = grow (redrawn wr p.d) p.os) → (Instr.loadAt 38 (.pointer (some ⟨bA, offA + k * 5, none⟩))).run Tryz.prog W = .ok ev W := fun W h => by
      have h9 := hrA W (btK HB.out (below_of_regrown h))
      rw [← hev]
      exact run_loadAt_mid W bA (offA + k * 5) 38 _ _ h9 Tryz.underlying38 rfl (by kernel_rfl)
    have QA := Lib.hid hlA
    have hlB : ∀ W, (∃ p : Regrown, W = grow (redrawn wr p.d) p.os) → (Instr.loadAt 38 (.pointer (some ⟨bB, offB + k * 5, none⟩))).run Tryz.prog W = .ok ev W := fun W h => by
      have h9 := hrB W (btK HB.out (below_of_regrown h))
      rw [← hev]
      exact run_loadAt_mid W bB (offB + k * 5) 38 _ _ h9 Tryz.underlying38 rfl (by kernel_rfl)
    have QB := Lib.hid hlB
    clear hlA hlB hrA hrB hev helA helB
    as_aux_lemma =>
      refine wp_region_quiet_below (by kernel_rfl) (by kernel_rfl) ?_
      (try dsimp only [List.append])
      repeat (first | (go_big_quiet_want; (refine quiet_load 38 _ (by rfl) _ (by rfl) ev (fun W hW => QA.out W hW) ?_); simp only [Act.put, List.setIfInBounds_toArray, List.set_cons_succ, List.set_cons_zero]; go_big_quiet_on) | (go_big_quiet_want; (refine quiet_load 38 _ (by rfl) _ (by rfl) ev (fun W hW => QB.out W hW) ?_); simp only [Act.put, List.setIfInBounds_toArray, List.set_cons_succ, List.set_cons_zero]; go_big_quiet_on) | go_big_quiet_step (fail))
      with_reducible refine wpQuiet_nil ?_
      intro w3 hw3
      have hb3 := below_of_regrown hw3
      clear hw3
      go_wp2
      go_roundw
      case rel => exact ⟨k + 1, by omega, by go_num, HB.out.trans (hb3.mono HB.out.size)⟩
      case measure => simp [intOf] <;> omega
set_option maxRecDepth 100000 in
set_option maxHeartbeats 4000000 in
theorem is50_calls (F : Nat → Prop) (w : World) (t : TabD) (x : WorldD) (cs ds : List Value) (hF : Inn F w) (ht : Holds.tab.R F w t cs) (hx : Holds.world.R F w x ds) (hn : NestK x) (h128 : x.parent.length ≤ 128) (ha : t.acts.length ≤ 64) (ha8 : ∀ a ∈ t.acts, a.lines.length ≤ 8) (c : CmdD) : Calls Tryz.prog 12 #[.agg cs.toArray, .agg ds.toArray, c.val] w (Gives w (.bool (decide (c ∈ allC t x)))) := by
  have HAL0 := Lib.hid (fun (W : World) (h : Below w.heap.size w W) => all50_calls F W t x cs ds (fun b hb => Nat.lt_of_lt_of_le (hF b hb) h.size) (Holds.tab.keep (fun b hb => h.block b (hF b hb)) (fun _ h => h) ht) (Holds.world.keep (fun b hb => h.block b (hF b hb)) (fun _ h => h) hx) hn h128 ha ha8)
  generalize allC t x = l at HAL0 ⊢
  obtain ⟨R, hR⟩ : ∃ r, decide (c ∈ l) = r := ⟨_, rfl⟩
  rw [hR]
  have HRR := Lib.hid hR
  clear hR
  obtain ⟨cv, hcv⟩ : ∃ v, c.val = v := ⟨_, rfl⟩
  have HEQ : Hid (∀ (a : CmdD) W, (binOp .eql 38 a.val cv).run Tryz.prog W = .ok (.bool (decide (a = c))) W) := fun a W => hcv ▸ cmd_eql a c W
  have HEG : Hid (∀ (a : CmdD) W x y, (eqGuard .eql 38 x y a.val cv).run Tryz.prog W = .ok () W) := fun a W x y => hcv ▸ cmd_guard .eql x y a c W
  have HLD : Hid (∀ W b (a : CmdD), BoxT W b [.int .i64 a.verb, .int .i64 a.noun, .int .i64 a.second, .int .i64 a.number, .int .i64 a.dir] 38 → (Instr.loadAt 38 (.pointer (some ⟨b, 0, none⟩))).run Tryz.prog W = .ok a.val W) := fun W b a h => run_loadAt_mid W b 0 38 _ _ h.range Tryz.underlying38 rfl (by kernel_rfl)
  have HCV := Lib.hid hcv
  clear hcv
  obtain ⟨i0, i1, i2, i3, i5, v4, v6, v7, v8, v9, v10, v11, v12, v13, v14, rfl, g4, g6, g7, g8, g9, g10, g11, g12, g13, g14⟩ := ht
  obtain ⟨ad4, ca4, rfl⟩ := g4.shape
  obtain ⟨ad6, ca6, rfl⟩ := g6.shape
  obtain ⟨ad7, ca7, rfl⟩ := g7.shape
  obtain ⟨ad8, ca8, rfl⟩ := g8.shape
  obtain ⟨ad9, ca9, rfl⟩ := g9.shape
  obtain ⟨ad10, ca10, rfl⟩ := g10.shape
  obtain ⟨ad11, ca11, rfl⟩ := g11.shape
  obtain ⟨ad12, ca12, rfl⟩ := g12.shape
  obtain ⟨ad13, ca13, rfl⟩ := g13.shape
  obtain ⟨ad14, ca14, rfl⟩ := g14.shape
  have ln4 := g4.len
  have ln6 := g6.len
  have ln7 := g7.len
  have ln8 := g8.len
  have ln9 := g9.len
  have ln10 := g10.len
  have ln11 := g11.len
  have ln12 := g12.len
  have ln13 := g13.len
  have ln14 := g14.len
  unfold maxLen at ln4 ln6 ln7 ln8 ln9 ln10 ln11 ln12 ln13 ln14
  obtain ⟨-, -, -, -, -, -, wv0, wv1, wv2, wv3, wv4, wv5, wv6, rfl, wg0, wg1, wg2, wg3, wg4, wg5, wg6⟩ := hx
  obtain ⟨wa0, wc0, rfl⟩ := wg0.shape
  have wl0 := wg0.len
  obtain ⟨wa1, wc1, rfl⟩ := wg1.shape
  have wl1 := wg1.len
  obtain ⟨wa2, wc2, rfl⟩ := wg2.shape
  have wl2 := wg2.len
  obtain ⟨wa3, wc3, rfl⟩ := wg3.shape
  have wl3 := wg3.len
  obtain ⟨wa4, wc4, rfl⟩ := wg4.shape
  have wl4 := wg4.len
  obtain ⟨wa5, wc5, rfl⟩ := wg5.shape
  have wl5 := wg5.len
  obtain ⟨wa6, wc6, rfl⟩ := wg6.shape
  have wl6 := wg6.len
  unfold maxLen at wl0 wl1 wl2 wl3 wl4 wl5 wl6
  clear g4 g6 g7 g8 g9 g10 g11 g12 g13 g14 wg0 wg1 wg2 wg3 wg4 wg5 wg6
  clear i0 i1 i2 i3 i5
  obtain ⟨W1, hW1⟩ : ∃ z, w.alloc (.cells #[.int .i64 t.title, .int .i64 t.byl, .int .i64 t.release, .int .i64 t.most, .slice ad4 t.texts.length ca4, .int .i64 t.flags, .slice ad6 t.props.length ca6, .slice ad7 t.globals.length ca7, .slice ad8 t.things.length ca8, .slice ad9 t.acts.length ca9, .slice ad10 t.deeds.length ca10, .slice ad11 t.funcs.length ca11, .slice ad12 t.daemons.length ca12, .slice ad13 t.params.length ca13, .slice ad14 t.locals.length ca14] 28) = z := ⟨_, rfl⟩
  obtain ⟨W2, hW2⟩ : ∃ z, W1.alloc (.cells #[.slice wa0 x.globals.length wc0, .slice wa1 x.parent.length wc1, .slice wa2 x.child.length wc2, .slice wa3 x.next.length wc3, .slice wa4 x.flags.length wc4, .slice wa5 x.props.length wc5, .slice wa6 x.timers.length wc6, .int .u64 x.seed, .int .i64 x.score, .int .i64 x.turns, .int .i64 x.over, .int .i64 x.it, .int .i64 x.go] 31) = z := ⟨_, rfl⟩
  have hz1 : W1.heap.size = w.heap.size + 1 := by rw [← hW1]; simp
  have hb1 : Below w.heap.size w W1 := by rw [← hW1]; exact (Below.refl _ _).alloc (Nat.le_refl _) _
  have hb2 : Below W1.heap.size W1 W2 := by rw [← hW2]; exact (Below.refl _ _).alloc (Nat.le_refl _) _
  have hx1 : BoxT W1 w.heap.size [.int .i64 t.title, .int .i64 t.byl, .int .i64 t.release, .int .i64 t.most, .slice ad4 t.texts.length ca4, .int .i64 t.flags, .slice ad6 t.props.length ca6, .slice ad7 t.globals.length ca7, .slice ad8 t.things.length ca8, .slice ad9 t.acts.length ca9, .slice ad10 t.deeds.length ca10, .slice ad11 t.funcs.length ca11, .slice ad12 t.daemons.length ca12, .slice ad13 t.params.length ca13, .slice ad14 t.locals.length ca14] 28 := by rw [← hW1]; exact BoxT.new _ _ _
  have hx2 : BoxT W2 (w.heap.size + 1) [.slice wa0 x.globals.length wc0, .slice wa1 x.parent.length wc1, .slice wa2 x.child.length wc2, .slice wa3 x.next.length wc3, .slice wa4 x.flags.length wc4, .slice wa5 x.props.length wc5, .slice wa6 x.timers.length wc6, .int .u64 x.seed, .int .i64 x.score, .int .i64 x.turns, .int .i64 x.over, .int .i64 x.it, .int .i64 x.go] 31 := by rw [← hz1, ← hW2]; exact BoxT.new _ _ _
  have HXt := Lib.hid (hx1.below hb2); have HXv := Lib.hid hx2; have HBv := Lib.hid (btK hb1 hb2)
  have HW1 := Lib.hid hW1; have HW2 := Lib.hid hW2
  have hs2 : W2.heap.size = W1.heap.size + 1 := by rw [← hW2]; simp
  rw [hz1] at hs2
  have HS2 := Lib.hid hs2
  clear hs2
  clear hW1 hW2 hz1 hb1 hb2 hx1 hx2
  obtain ⟨W3, hW3⟩ : ∃ z, W2.alloc (.cells #[.int .i64 c.verb, .int .i64 c.noun, .int .i64 c.second, .int .i64 c.number, .int .i64 c.dir] 38) = z := ⟨_, rfl⟩
  have hb3 : Below W2.heap.size W2 W3 := by rw [← hW3]; exact (Below.refl _ _).alloc (Nat.le_refl _) _
  have hx3 : BoxT W3 (w.heap.size + 1 + 1) [.int .i64 c.verb, .int .i64 c.noun, .int .i64 c.second, .int .i64 c.number, .int .i64 c.dir] 38 := by rw [← HS2.out, ← hW3]; exact BoxT.new _ _ _
  have HXc := Lib.hid hx3; have HW3 := Lib.hid hW3
  have HXt := Lib.hid (HXt.out.below hb3); have HXv := Lib.hid (HXv.out.below hb3); have HBv := Lib.hid (btK HBv.out hb3)
  clear hW3 hb3 hx3
  unfold CmdD.val
  go_enter Tryz.func12, Tryz.ntmps12
  go_upto_region 1 with fail
  rw [HW1.out, HW2.out, HW3.out]
  have hcw : Value.agg #[.int .i64 c.verb, .int .i64 c.noun, .int .i64 c.second, .int .i64 c.number, .int .i64 c.dir] = cv := HCV.out
  rw [hcw]
  clear hcw HW3
  obtain ⟨TV, hTV⟩ : ∃ v, Value.agg #[.int .i64 t.title, .int .i64 t.byl, .int .i64 t.release, .int .i64 t.most, .slice ad4 t.texts.length ca4, .int .i64 t.flags, .slice ad6 t.props.length ca6, .slice ad7 t.globals.length ca7, .slice ad8 t.things.length ca8, .slice ad9 t.acts.length ca9, .slice ad10 t.deeds.length ca10, .slice ad11 t.funcs.length ca11, .slice ad12 t.daemons.length ca12, .slice ad13 t.params.length ca13, .slice ad14 t.locals.length ca14] = v := ⟨_, rfl⟩
  obtain ⟨WV, hWV⟩ : ∃ v, Value.agg #[.slice wa0 x.globals.length wc0, .slice wa1 x.parent.length wc1, .slice wa2 x.child.length wc2, .slice wa3 x.next.length wc3, .slice wa4 x.flags.length wc4, .slice wa5 x.props.length wc5, .slice wa6 x.timers.length wc6, .int .u64 x.seed, .int .i64 x.score, .int .i64 x.turns, .int .i64 x.over, .int .i64 x.it, .int .i64 x.go] = v := ⟨_, rfl⟩
  have HLT : Hid (∀ W, BoxT W w.heap.size [.int .i64 t.title, .int .i64 t.byl, .int .i64 t.release, .int .i64 t.most, .slice ad4 t.texts.length ca4, .int .i64 t.flags, .slice ad6 t.props.length ca6, .slice ad7 t.globals.length ca7, .slice ad8 t.things.length ca8, .slice ad9 t.acts.length ca9, .slice ad10 t.deeds.length ca10, .slice ad11 t.funcs.length ca11, .slice ad12 t.daemons.length ca12, .slice ad13 t.params.length ca13, .slice ad14 t.locals.length ca14] 28 → (Instr.loadAt 28 (.pointer (some ⟨w.heap.size, 0, none⟩))).run Tryz.prog W = .ok TV W) := fun W h => by
    rw [← hTV]
    exact run_loadAt_mid W _ 0 28 _ _ h.range Tryz.underlying28 rfl (by kernel_rfl)
  have HLW : Hid (∀ W, BoxT W (w.heap.size + 1) [.slice wa0 x.globals.length wc0, .slice wa1 x.parent.length wc1, .slice wa2 x.child.length wc2, .slice wa3 x.next.length wc3, .slice wa4 x.flags.length wc4, .slice wa5 x.props.length wc5, .slice wa6 x.timers.length wc6, .int .u64 x.seed, .int .i64 x.score, .int .i64 x.turns, .int .i64 x.over, .int .i64 x.it, .int .i64 x.go] 31 → (Instr.loadAt 31 (.pointer (some ⟨w.heap.size + 1, 0, none⟩))).run Tryz.prog W = .ok WV W) := fun W h => by
    rw [← hWV]
    exact run_loadAt_mid W _ 0 31 _ _ h.range Tryz.underlying31 rfl (by kernel_rfl)
  rw [hTV, hWV]
  clear HW1 HW2
  clear ln4 ln6 ln7 ln8 ln9 ln10 ln11 ln12 ln13 ln14 wl0 wl1 wl2 wl3 wl4 wl5 wl6
  have HAL := Lib.hid HAL0.out
  rw [hWV, hTV] at HAL
  clear hTV hWV HAL0
  have HLC : Hid (∀ W, BoxT W (w.heap.size + 1 + 1) [.int .i64 c.verb, .int .i64 c.noun, .int .i64 c.second, .int .i64 c.number, .int .i64 c.dir] 38 → (Instr.loadAt 38 (.pointer (some ⟨w.heap.size + 1 + 1, 0, none⟩))).run Tryz.prog W = .ok cv W) := fun W h => HCV.out ▸ HLD.out W _ c h
  go_upto_region 2 with (first | ((with_reducible refine wpList_load_T 28 (.tmp 3) ?hw9 ⟨w.heap.size, 0, none⟩ ?hx9 TV (HLT.out _ HXt.out) ?_); (case hw9 => rfl); (case hx9 => first | rfl | (exact rfl))) | ((with_reducible refine wpList_load_T 31 (.tmp 4) ?hw9 ⟨w.heap.size + 1, 0, none⟩ ?hx9 WV (HLW.out _ HXv.out) ?_); (case hw9 => rfl); (case hx9 => first | rfl | (exact rfl))) | (go_at_call 10; (with_reducible refine (HAL.out _ HBv.out).mono ?_); rintro e w1 ⟨v, rfl, hrn, hb1⟩; (obtain ⟨va, vc, rfl⟩ := hrn.1.shape)))
  have hB1 := btK HBv.out hb1
  have hll := hrn.1.len
  unfold maxLen at hll
  obtain ⟨ya, yc, he, -, -, hel⟩ := hrn.1.elem (newB_inn _ w1)
  cases he
  have HEL := Lib.hid hel; have HB1 := Lib.hid hB1; have HX1 := Lib.hid (HXc.out.below hb1)
  clear hrn hb1 hB1 hel HXt HXv HXc HBv
  go_wp2
  go_loopw [13] (fun i wr => ∃ (k : Nat), k ≤ l.length ∧ i = .int .i64 k ∧ Hid (∀ j (hj : j < l.length), j < k → l[j] ≠ c) ∧ Below w1.heap.size w1 wr) (fun i _ => l.length - (intOf i).toNat)
  case atStart => exact ⟨0, Nat.zero_le _, rfl, fun j hj h => by omega, Below.refl _ _⟩
  case round =>
    obtain ⟨k, hk, rfl, HN, hB⟩ := hrel
    have HBL := Lib.hid hB
    clear hB
    obtain ⟨wo, rfl⟩ : ∃ z : World, z = wr := ⟨_, rfl⟩
    by_cases hlt : k < l.length
    rotate_left
    · have h1 : ¬ (k : Int) < (l.length : Int) := by omega
      have HF : Hid (R = false) := by
        show R = false
        rw [← HRR.out, decide_eq_false_iff_not]
        intro hc
        obtain ⟨j, hj, e⟩ := List.getElem_of_mem hc
        exact HN.out j hj (by omega) e
      go_wp2
      go_ret
      exact ⟨ret_bool HF.out.symm, btK HB1.out HBL.out⟩
    have h1 : (k : Int) < (l.length : Int) := by omega
    have h2 : (0 : Int) ≤ (k : Int) := by omega
    obtain ⟨bA, offA, rfl, helA⟩ := HEL.out (by omega)
    obtain ⟨xA, -, ⟨-, -, -, -, -, rfl⟩, hrA⟩ := helA k hlt
    have hrg := hrA _ HBL.out
    have q1 := HEQ.out l[k]
    have q2 := HEG.out l[k]
    have HLK : Hid (l[k] = c → R = true) := fun e => by rw [← HRR.out, decide_eq_true_iff]; exact e ▸ List.getElem_mem hlt
    have HLN : Hid (l[k] ≠ c → ∀ j (hj : j < l.length), j < k + 1 → l[j] ≠ c) := fun e j hj h => by
      by_cases hjk : j = k
      · subst hjk; exact e
      · exact HN.out j hj (by omega)
    generalize l[k] = a at hrg q1 q2 HLK HLN
    have c0 := hrg 0 _ rfl; have c1 := hrg 1 _ rfl; have c2 := hrg 2 _ rfl; have c3 := hrg 3 _ rfl; have c4 := hrg 4 _ rfl
    simp only [Nat.add_zero] at c0
    clear hrg hrA helA
    go_upto_region 4 with fail
    obtain ⟨W5, hW5⟩ : ∃ z, wo.alloc (.cells #[.int .i64 a.verb, .int .i64 a.noun, .int .i64 a.second, .int .i64 a.number, .int .i64 a.dir] 38) = z := ⟨_, rfl⟩
    rw [hW5]
    have hb5 : Below wo.heap.size wo W5 := by rw [← hW5]; exact (Below.refl _ _).alloc (Nat.le_refl _) _
    have hx5 : BoxT W5 wo.heap.size [.int .i64 a.verb, .int .i64 a.noun, .int .i64 a.second, .int .i64 a.number, .int .i64 a.dir] 38 := by rw [← hW5]; exact BoxT.new _ _ _
    have HLA := Lib.hid (HLD.out W5 _ a hx5)
    have HL5 := Lib.hid (HLC.out W5 (HX1.out.below (HBL.out.trans (hb5.mono HBL.out.size))))
    have HB5 := Lib.hid (HBL.out.trans (hb5.mono HBL.out.size))
    clear hW5 hb5 hx5 c0 c1 c2 c3 c4
    obtain ⟨ev, hev⟩ : ∃ v, a.val = v := ⟨_, rfl⟩
    rw [hev] at q1 q2 HLA
    clear hev
    by_cases hac : a = c
    · rw [decide_eq_true hac] at q1
      have HF := Lib.hid (HLK.out hac)
      clear hac HLK HLN
      go_wp2_with (first | ((with_reducible refine wpList_load_T 38 (.tmp 8) ?hw9 ⟨wo.heap.size, 0, none⟩ ?hx9 ev (HLA.out) ?_); (case hw9 => rfl); (case hx9 => first | rfl | (exact rfl))) | ((with_reducible refine wpList_load_T 38 (.tmp 5) ?hw9 ⟨w.heap.size + 1 + 1, 0, none⟩ ?hx9 cv (HL5.out) ?_); (case hw9 => rfl); (case hx9 => first | rfl | (exact rfl))))
      go_ret
      exact ⟨ret_bool HF.out.symm, btK HB1.out HB5.out⟩
    · rw [decide_eq_false hac] at q1
      have HF := Lib.hid (HLN.out hac)
      clear hac HLK HLN
      go_wp2_with (first | ((with_reducible refine wpList_load_T 38 (.tmp 8) ?hw9 ⟨wo.heap.size, 0, none⟩ ?hx9 ev (HLA.out) ?_); (case hw9 => rfl); (case hx9 => first | rfl | (exact rfl))) | ((with_reducible refine wpList_load_T 38 (.tmp 5) ?hw9 ⟨w.heap.size + 1 + 1, 0, none⟩ ?hx9 cv (HL5.out) ?_); (case hw9 => rfl); (case hx9 => first | rfl | (exact rfl))))
      go_roundw
      case rel => exact ⟨k + 1, by omega, by go_num, HF.out, HB5.out⟩
      case measure => simp [intOf] <;> omega
set_option maxRecDepth 100000 in
set_option maxHeartbeats 4000000 in
/-- How many commands there are, as it counts them: some number. -/
theorem count50_some (F : Nat → Prop) (w : World) (t : TabD) (x : WorldD) (cs ds : List Value) (hF : Inn F w) (ht : Holds.tab.R F w t cs) (hx : Holds.world.R F w x ds) (hn : NestK x) (h128 : x.parent.length ≤ 128) : Calls Tryz.prog 18 #[.agg cs.toArray, .agg ds.toArray] w (fun e w' => ∃ q : Int, e = .returned (.int .i64 q) ∧ Below w.heap.size w w') := by
  have HVI0 := Lib.hid (fun (W : World) (h : Below w.heap.size w W) => visible23_calls F W t x cs ds (fun b hb => Nat.lt_of_lt_of_le (hF b hb) h.size) (Holds.tab.keep (fun b hb => h.block b (hF b hb)) (fun _ h => h) ht) (Holds.world.keep (fun b hb => h.block b (hF b hb)) (fun _ h => h) hx) hn h128)
  have hvl := vis_len hn h128
  generalize x.vis = vis at HVI0 hvl
  obtain ⟨i0, i1, i2, i3, i5, v4, v6, v7, v8, v9, v10, v11, v12, v13, v14, rfl, g4, g6, g7, g8, g9, g10, g11, g12, g13, g14⟩ := ht
  obtain ⟨ad4, ca4, rfl⟩ := g4.shape
  obtain ⟨ad6, ca6, rfl⟩ := g6.shape
  obtain ⟨ad7, ca7, rfl⟩ := g7.shape
  obtain ⟨ad8, ca8, rfl⟩ := g8.shape
  obtain ⟨ad9, ca9, rfl⟩ := g9.shape
  obtain ⟨ad10, ca10, rfl⟩ := g10.shape
  obtain ⟨ad11, ca11, rfl⟩ := g11.shape
  obtain ⟨ad12, ca12, rfl⟩ := g12.shape
  obtain ⟨ad13, ca13, rfl⟩ := g13.shape
  obtain ⟨ad14, ca14, rfl⟩ := g14.shape
  have ln4 := g4.len
  have ln6 := g6.len
  have ln7 := g7.len
  have ln8 := g8.len
  have ln9 := g9.len
  have ln10 := g10.len
  have ln11 := g11.len
  have ln12 := g12.len
  have ln13 := g13.len
  have ln14 := g14.len
  unfold maxLen at ln4 ln6 ln7 ln8 ln9 ln10 ln11 ln12 ln13 ln14
  obtain ⟨-, -, -, -, -, -, wv0, wv1, wv2, wv3, wv4, wv5, wv6, rfl, wg0, wg1, wg2, wg3, wg4, wg5, wg6⟩ := hx
  obtain ⟨wa0, wc0, rfl⟩ := wg0.shape
  have wl0 := wg0.len
  obtain ⟨wa1, wc1, rfl⟩ := wg1.shape
  have wl1 := wg1.len
  obtain ⟨wa2, wc2, rfl⟩ := wg2.shape
  have wl2 := wg2.len
  obtain ⟨wa3, wc3, rfl⟩ := wg3.shape
  have wl3 := wg3.len
  obtain ⟨wa4, wc4, rfl⟩ := wg4.shape
  have wl4 := wg4.len
  obtain ⟨wa5, wc5, rfl⟩ := wg5.shape
  have wl5 := wg5.len
  obtain ⟨wa6, wc6, rfl⟩ := wg6.shape
  have wl6 := wg6.len
  unfold maxLen at wl0 wl1 wl2 wl3 wl4 wl5 wl6
  obtain ⟨a9, c9, he9, -, -, hA9⟩ := RdL.elem g9 hF
  cases he9
  have HA9 := Lib.hid hA9
  clear hA9
  clear g4 g6 g7 g8 g9 g10 g11 g12 g13 g14 wg0 wg1 wg2 wg3 wg4 wg5 wg6
  clear i0 i1 i2 i3 i5
  obtain ⟨W1, hW1⟩ : ∃ z, w.alloc (.cells #[.int .i64 t.title, .int .i64 t.byl, .int .i64 t.release, .int .i64 t.most, .slice ad4 t.texts.length ca4, .int .i64 t.flags, .slice ad6 t.props.length ca6, .slice ad7 t.globals.length ca7, .slice ad8 t.things.length ca8, .slice ad9 t.acts.length ca9, .slice ad10 t.deeds.length ca10, .slice ad11 t.funcs.length ca11, .slice ad12 t.daemons.length ca12, .slice ad13 t.params.length ca13, .slice ad14 t.locals.length ca14] 28) = z := ⟨_, rfl⟩
  obtain ⟨W2, hW2⟩ : ∃ z, W1.alloc (.cells #[.slice wa0 x.globals.length wc0, .slice wa1 x.parent.length wc1, .slice wa2 x.child.length wc2, .slice wa3 x.next.length wc3, .slice wa4 x.flags.length wc4, .slice wa5 x.props.length wc5, .slice wa6 x.timers.length wc6, .int .u64 x.seed, .int .i64 x.score, .int .i64 x.turns, .int .i64 x.over, .int .i64 x.it, .int .i64 x.go] 31) = z := ⟨_, rfl⟩
  have hz1 : W1.heap.size = w.heap.size + 1 := by rw [← hW1]; simp
  have hb1 : Below w.heap.size w W1 := by rw [← hW1]; exact (Below.refl _ _).alloc (Nat.le_refl _) _
  have hb2 : Below W1.heap.size W1 W2 := by rw [← hW2]; exact (Below.refl _ _).alloc (Nat.le_refl _) _
  have hx1 : BoxT W1 w.heap.size [.int .i64 t.title, .int .i64 t.byl, .int .i64 t.release, .int .i64 t.most, .slice ad4 t.texts.length ca4, .int .i64 t.flags, .slice ad6 t.props.length ca6, .slice ad7 t.globals.length ca7, .slice ad8 t.things.length ca8, .slice ad9 t.acts.length ca9, .slice ad10 t.deeds.length ca10, .slice ad11 t.funcs.length ca11, .slice ad12 t.daemons.length ca12, .slice ad13 t.params.length ca13, .slice ad14 t.locals.length ca14] 28 := by rw [← hW1]; exact BoxT.new _ _ _
  have hx2 : BoxT W2 (w.heap.size + 1) [.slice wa0 x.globals.length wc0, .slice wa1 x.parent.length wc1, .slice wa2 x.child.length wc2, .slice wa3 x.next.length wc3, .slice wa4 x.flags.length wc4, .slice wa5 x.props.length wc5, .slice wa6 x.timers.length wc6, .int .u64 x.seed, .int .i64 x.score, .int .i64 x.turns, .int .i64 x.over, .int .i64 x.it, .int .i64 x.go] 31 := by rw [← hz1, ← hW2]; exact BoxT.new _ _ _
  have HXt := Lib.hid (hx1.below hb2); have HXv := Lib.hid hx2; have HBv := Lib.hid (btK hb1 hb2)
  have HW1 := Lib.hid hW1; have HW2 := Lib.hid hW2
  have hs2 : W2.heap.size = W1.heap.size + 1 := by rw [← hW2]; simp
  rw [hz1] at hs2
  have HS2 := Lib.hid hs2
  clear hs2
  clear hW1 hW2 hz1 hb1 hb2 hx1 hx2
  go_enter Tryz.func18, Tryz.ntmps18
  go_upto_region 1 with fail
  rw [HW1.out, HW2.out]
  obtain ⟨TV, hTV⟩ : ∃ v, Value.agg #[.int .i64 t.title, .int .i64 t.byl, .int .i64 t.release, .int .i64 t.most, .slice ad4 t.texts.length ca4, .int .i64 t.flags, .slice ad6 t.props.length ca6, .slice ad7 t.globals.length ca7, .slice ad8 t.things.length ca8, .slice ad9 t.acts.length ca9, .slice ad10 t.deeds.length ca10, .slice ad11 t.funcs.length ca11, .slice ad12 t.daemons.length ca12, .slice ad13 t.params.length ca13, .slice ad14 t.locals.length ca14] = v := ⟨_, rfl⟩
  obtain ⟨WV, hWV⟩ : ∃ v, Value.agg #[.slice wa0 x.globals.length wc0, .slice wa1 x.parent.length wc1, .slice wa2 x.child.length wc2, .slice wa3 x.next.length wc3, .slice wa4 x.flags.length wc4, .slice wa5 x.props.length wc5, .slice wa6 x.timers.length wc6, .int .u64 x.seed, .int .i64 x.score, .int .i64 x.turns, .int .i64 x.over, .int .i64 x.it, .int .i64 x.go] = v := ⟨_, rfl⟩
  have HLT : Hid (∀ W, BoxT W w.heap.size [.int .i64 t.title, .int .i64 t.byl, .int .i64 t.release, .int .i64 t.most, .slice ad4 t.texts.length ca4, .int .i64 t.flags, .slice ad6 t.props.length ca6, .slice ad7 t.globals.length ca7, .slice ad8 t.things.length ca8, .slice ad9 t.acts.length ca9, .slice ad10 t.deeds.length ca10, .slice ad11 t.funcs.length ca11, .slice ad12 t.daemons.length ca12, .slice ad13 t.params.length ca13, .slice ad14 t.locals.length ca14] 28 → (Instr.loadAt 28 (.pointer (some ⟨w.heap.size, 0, none⟩))).run Tryz.prog W = .ok TV W) := fun W h => by
    rw [← hTV]
    exact run_loadAt_mid W _ 0 28 _ _ h.range Tryz.underlying28 rfl (by kernel_rfl)
  have HLW : Hid (∀ W, BoxT W (w.heap.size + 1) [.slice wa0 x.globals.length wc0, .slice wa1 x.parent.length wc1, .slice wa2 x.child.length wc2, .slice wa3 x.next.length wc3, .slice wa4 x.flags.length wc4, .slice wa5 x.props.length wc5, .slice wa6 x.timers.length wc6, .int .u64 x.seed, .int .i64 x.score, .int .i64 x.turns, .int .i64 x.over, .int .i64 x.it, .int .i64 x.go] 31 → (Instr.loadAt 31 (.pointer (some ⟨w.heap.size + 1, 0, none⟩))).run Tryz.prog W = .ok WV W) := fun W h => by
    rw [← hWV]
    exact run_loadAt_mid W _ 0 31 _ _ h.range Tryz.underlying31 rfl (by kernel_rfl)
  rw [hTV, hWV]
  clear HW1 HW2
  clear ln4 ln6 ln7 ln8 ln10 ln11 ln12 ln13 ln14 wl0 wl1 wl2 wl3 wl4 wl5 wl6
  have HVI := Lib.hid HVI0.out
  rw [hWV, hTV] at HVI
  clear hTV hWV HVI0
  go_upto_region 2 with (first | ((with_reducible refine wpList_load_T 28 (.tmp 2) ?hw9 ⟨w.heap.size, 0, none⟩ ?hx9 TV (HLT.out _ HXt.out) ?_); (case hw9 => rfl); (case hx9 => first | rfl | (exact rfl))) | ((with_reducible refine wpList_load_T 31 (.tmp 3) ?hw9 ⟨w.heap.size + 1, 0, none⟩ ?hx9 WV (HLW.out _ HXv.out) ?_); (case hw9 => rfl); (case hx9 => first | rfl | (exact rfl))) | (go_at_call 13; (with_reducible refine (HVI.out _ HBv.out).mono ?_); rintro e w1 ⟨vv, rfl, hown, hb1⟩; (obtain ⟨va, vc, rfl⟩ := hown.shape)))
  have HX1 := Lib.hid (HXt.out.below hb1)
  have HB1 := Lib.hid (btK HBv.out hb1)
  clear hown hb1 HXt HXv HBv
  have y9 := HX1.out.cell 9
  simp only [List.getElem?_cons_succ, List.getElem?_cons_zero] at y9
  go_wp2
  clear y9
  go_loopw [5, 20] (fun n i wr => ∃ (k : Nat) (q : Int), k ≤ t.acts.length ∧ i = .int .i64 k ∧ n = .int .i64 q ∧ Below w1.heap.size w1 wr) (fun _ i _ => t.acts.length - (intOf i).toNat)
  case atStart => exact ⟨0, 0, Nat.zero_le _, rfl, rfl, Below.refl _ _⟩
  case round =>
    obtain ⟨k, q, hk, rfl, rfl, hB⟩ := hrel
    have HBL := Lib.hid hB
    clear hB
    by_cases hlt : k < t.acts.length
    rotate_left
    · have h1 : ¬ (k : Int) < (t.acts.length : Int) := by omega
      go_wp2
      go_ret
      exact ⟨⟨_, rfl⟩, btK HB1.out HBL.out⟩
    have h1 : (k : Int) < (t.acts.length : Int) := by omega
    have h2 : (0 : Int) ≤ (k : Int) := by omega
    obtain ⟨b9, off9, rfl, hel9⟩ := HA9.out (by omega)
    obtain ⟨xs, -, ⟨lv, rfl, hln⟩, hrg⟩ := hel9 k hlt
    obtain ⟨ladr, lcap, rfl⟩ := hln.shape
    have hr9 := hrg _ (btK HB1.out HBL.out)
    have c0 := hr9 0 _ rfl; have c1 := hr9 1 _ rfl
    simp only [Nat.add_zero] at c0
    have hlm := hln.len
    unfold maxLen at hlm
    have HLNS := Lib.hid hln
    generalize t.acts[k].isMeta = mt at c0
    generalize t.acts[k].lines = lines at c1 hlm HLNS
    clear hrg hel9 hln hr9
    obtain ⟨wo, rfl⟩ : ∃ z : World, z = wr := ⟨_, rfl⟩
    go_upto_region 5 with fail
    obtain ⟨W5, hW5⟩ : ∃ z, wo.alloc (.cells #[.bool mt, .slice ladr lines.length lcap] 44) = z := ⟨_, rfl⟩
    rw [hW5]
    have hb5 : Below wo.heap.size wo W5 := by rw [← hW5]; exact (Below.refl _ _).alloc (Nat.le_refl _) _
    have hx5 : BoxT W5 wo.heap.size [.bool mt, .slice ladr lines.length lcap] 44 := by rw [← hW5]; exact BoxT.new _ _ _
    have d1 := hx5.cell 1
    simp only [List.getElem?_cons_succ, List.getElem?_cons_zero] at d1
    have HB5 := Lib.hid (HBL.out.trans (hb5.mono HBL.out.size))
    clear hW5 hb5 hx5 c0 c1
    go_wp2
    clear d1
    go_loopw [5, 27] (fun n i wr => ∃ (j : Nat) (q : Int), j ≤ lines.length ∧ i = .int .i64 j ∧ n = .int .i64 q ∧ Below w1.heap.size w1 wr) (fun _ i _ => lines.length - (intOf i).toNat)
    case atStart => exact ⟨0, q, Nat.zero_le _, rfl, rfl, HB5.out⟩
    case round =>
      obtain ⟨j, q2, hj, rfl, rfl, hB⟩ := hrel
      have HBJ := Lib.hid hB
      clear hB
      obtain ⟨w2o, rfl⟩ : ∃ z : World, z = wr := ⟨_, rfl⟩
      by_cases hjl : j < lines.length
      rotate_left
      · have e1 : ¬ (j : Int) < (lines.length : Int) := by omega
        go_wp2
        go_roundw
        case rel => exact ⟨k + 1, q2, by omega, by go_num, rfl, HBJ.out⟩
        case measure => simp [intOf] <;> omega
      have e1 : (j : Int) < (lines.length : Int) := by omega
      have e2 : (0 : Int) ≤ (j : Int) := by omega
      obtain ⟨yb, yc, he, -, -, hell⟩ := RdL.elem HLNS.out hF
      cases he
      obtain ⟨b8, off8, rfl, hel8⟩ := hell (by omega)
      obtain ⟨xs8, -, ⟨sv, rfl, hsl⟩, hrg8⟩ := hel8 j hjl
      have p8 := hrg8 _ (btK HB1.out HBJ.out) 0 _ rfl
      simp only [Nat.mul_one, Nat.add_zero] at p8
      generalize lines[j] = sl at hsl
      have hsn := hasN_le sl 2 3
      have hsm := hsl.len
      unfold maxLen at hsm
      have HHS := Lib.hid (fun (W : World) (h : Below w1.heap.size w1 W) (a b : Int) => has50_calls F W sl sv (fun b hb => Nat.lt_of_lt_of_le (hF b hb) (btK HB1.out h).size) (RdL.below hsl hF (btK HB1.out h) (Nat.le_refl _)) a b)
      obtain ⟨ssa, ssc, rfl⟩ := hsl.shape
      have HH2 : Hid (∀ W, Below w1.heap.size w1 W → Calls Tryz.prog 41 #[.slice ssa sl.length ssc, .int .i64 2, .int .i64 3] W (Gives W (.int .i64 (hasN sl 2 3 : Nat)))) := fun W h => HHS.out W h 2 3
      have HH4 : Hid (∀ W, Below w1.heap.size w1 W → Calls Tryz.prog 41 #[.slice ssa sl.length ssc, .int .i64 4, .int .i64 4] W (Gives W (.int .i64 (hasN sl 4 4 : Nat)))) := fun W h => HHS.out W h 4 4
      have HH5 : Hid (∀ W, Below w1.heap.size w1 W → Calls Tryz.prog 41 #[.slice ssa sl.length ssc, .int .i64 5, .int .i64 5] W (Gives W (.int .i64 (hasN sl 5 5 : Nat)))) := fun W h => HHS.out W h 5 5
      generalize hasN sl 2 3 = n2 at HH2 hsn
      generalize hasN sl 4 4 = n4 at HH4
      generalize hasN sl 5 5 = n5 at HH5
      have hn2 : n2 ≤ 9223372036854775807 := by omega
      clear hsl hrg8 hel8 hell HHS hsn hsm
      go_wp2
      go_loopw [11, 12] (fun n i wr => ∃ (m : Nat) (q : Int), m ≤ n2 ∧ i = .int .i64 m ∧ n = .int .i64 q ∧ Below w1.heap.size w1 wr) (fun _ i _ => n2 - (intOf i).toNat)
      case atStart => exact ⟨0, 1, Nat.zero_le _, rfl, rfl, HBJ.out⟩
      case round =>
        obtain ⟨m, q3, hm, rfl, rfl, hB⟩ := hrel
        have HBM := Lib.hid hB
        clear hB p8
        by_cases hml : m < n2
        · have f1 : (m : Int) < (n2 : Int) := by omega
          go_wp2_with (go_at_call 41; (with_reducible refine (HH2.out _ HBM.out).mono ?_); rintro e w7 ⟨rfl, hb7⟩)
          go_roundw
          case rel => exact ⟨m + 1, _, by omega, by go_num, rfl, HBM.out.trans (hb7.mono HBM.out.size)⟩
          case measure => simp [intOf] <;> omega
        · have f1 : ¬ (m : Int) < (n2 : Int) := by omega
          go_upto_region 13 with (go_at_call 41; (with_reducible refine (HH2.out _ HBM.out).mono ?_); rintro e w7 ⟨rfl, hb7⟩)
          have HB7 := Lib.hid (HBM.out.trans (hb7.mono HBM.out.size))
          clear hb7
          by_cases g4 : 0 < n4
          · have g4' : (0 : Int) < (n4 : Int) := by omega
            by_cases g5 : 0 < n5
            · have g5' : (0 : Int) < (n5 : Int) := by omega
              go_wp2_with (first | (go_at_call 41; (with_reducible refine (HH4.out _ HB7.out).mono ?_); rintro e w8 ⟨rfl, hb8⟩; have HB8 := Lib.hid (HB7.out.trans (hb8.mono HB7.out.size))) | (go_at_call 41; (with_reducible refine (HH5.out _ HB8.out).mono ?_); rintro e w9 ⟨rfl, hb9⟩))
              go_roundw
              case rel => exact ⟨j + 1, _, by omega, by go_num, rfl, HB8.out.trans (hb9.mono HB8.out.size)⟩
              case measure => simp [intOf] <;> omega
            · have g5' : ¬ (0 : Int) < (n5 : Int) := by omega
              go_wp2_with (first | (go_at_call 41; (with_reducible refine (HH4.out _ HB7.out).mono ?_); rintro e w8 ⟨rfl, hb8⟩; have HB8 := Lib.hid (HB7.out.trans (hb8.mono HB7.out.size))) | (go_at_call 41; (with_reducible refine (HH5.out _ HB8.out).mono ?_); rintro e w9 ⟨rfl, hb9⟩))
              go_roundw
              case rel => exact ⟨j + 1, _, by omega, by go_num, rfl, HB8.out.trans (hb9.mono HB8.out.size)⟩
              case measure => simp [intOf] <;> omega
          · have g4' : ¬ (0 : Int) < (n4 : Int) := by omega
            by_cases g5 : 0 < n5
            · have g5' : (0 : Int) < (n5 : Int) := by omega
              go_wp2_with (first | (go_at_call 41; (with_reducible refine (HH4.out _ HB7.out).mono ?_); rintro e w8 ⟨rfl, hb8⟩; have HB8 := Lib.hid (HB7.out.trans (hb8.mono HB7.out.size))) | (go_at_call 41; (with_reducible refine (HH5.out _ HB8.out).mono ?_); rintro e w9 ⟨rfl, hb9⟩))
              go_roundw
              case rel => exact ⟨j + 1, _, by omega, by go_num, rfl, HB8.out.trans (hb9.mono HB8.out.size)⟩
              case measure => simp [intOf] <;> omega
            · have g5' : ¬ (0 : Int) < (n5 : Int) := by omega
              go_wp2_with (first | (go_at_call 41; (with_reducible refine (HH4.out _ HB7.out).mono ?_); rintro e w8 ⟨rfl, hb8⟩; have HB8 := Lib.hid (HB7.out.trans (hb8.mono HB7.out.size))) | (go_at_call 41; (with_reducible refine (HH5.out _ HB8.out).mono ?_); rintro e w9 ⟨rfl, hb9⟩))
              go_roundw
              case rel => exact ⟨j + 1, _, by omega, by go_num, rfl, HB8.out.trans (hb9.mono HB8.out.size)⟩
              case measure => simp [intOf] <;> omega
end Go.Proofs.YtapjglpiofpbmaaGreat
