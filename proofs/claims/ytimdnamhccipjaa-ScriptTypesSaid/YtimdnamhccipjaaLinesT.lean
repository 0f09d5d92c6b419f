/- The walks of script.lines, its iterator, and script.Typed. -/
import Derived.Test.YtimdnamhccipjaaLinesR
import Derived.Test.YtimdnamhccipjaaRange
import Derived.Test.YtimdnamhccipjaaShelf
import Derived.OwnWalkIn
import Derived.TacticsInMore
import Derived.LoopNIn
import Derived.LoopIn
import Derived.Shelf.RegionOpen
import Derived.Maps.AppendAt
namespace Go.Proofs.Ytimdnamhccipjaa
open Go.RowKit Go.Shelf
attribute [local go_sem] Oper.semAt_some

set_option maxRecDepth 20000 in
theorem cut0_no (s : ByteArray) (w : World) (h : Lib.indexByte s.data.toList 10 = -1) : Calls Try.prog 119 #[.string s, .string ⟨#[10]⟩] w fun e w' => e = .returned (.tuple #[.string s, .string ⟨#[]⟩, .bool false]) ∧ w = w' := by
  have HX := Lib.hid (Try.stringslite_Index_one s 10 w)
  rw [h] at HX
  clear h
  go_enter Try.func119, Try.ntmps119
  go_wp2_with (go_at_call 134; refine HX.out.mono ?_; rintro e w' ⟨rfl, rfl⟩)
  go_ret3
  exact ⟨rfl, rfl⟩

set_option maxRecDepth 20000 in
theorem cut0_yes (s : ByteArray) (o : Nat) (w : World) (h : Lib.indexByte s.data.toList 10 = o) (ho : o < s.size) (hs : s.size ≤ 1000000) : Calls Try.prog 119 #[.string s, .string ⟨#[10]⟩] w fun e w' => e = .returned (.tuple #[.string (s.extract 0 o), .string (s.extract (o + 1) s.size), .bool true]) ∧ ∃ n, w' = w.drewN n := by
  have HX := Lib.hid (Try.stringslite_Index_one s 10 w)
  rw [h] at HX
  clear h
  go_enter Try.func119, Try.ntmps119
  go_wp2_with (go_at_call 134; refine HX.out.mono ?_; rintro e w' ⟨rfl, rfl⟩)
  go_quiet (fail)
  go_wp2
  go_ret3
  exact ⟨rfl, _, rfl⟩

set_option maxRecDepth 20000 in
theorem cut_no (s : ByteArray) (w : World) (h : Lib.indexByte s.data.toList 10 = -1) : Calls Try.prog 85 #[.string s, .string ⟨#[10]⟩] w fun e w' => e = .returned (.tuple #[.string s, .string ⟨#[]⟩, .bool false]) ∧ ∃ n, w' = w.drewN n := by
  have HX := Lib.hid (cut0_no s w h)
  clear h
  go_enter Try.func85, Try.ntmps85
  go_wp2_with (go_at_call 119; refine HX.out.mono ?_; rintro e w' ⟨rfl, rfl⟩)
  go_ret3
  exact ⟨rfl, 0, rfl⟩

set_option maxRecDepth 20000 in
theorem cut_yes (s : ByteArray) (o : Nat) (w : World) (h : Lib.indexByte s.data.toList 10 = o) (ho : o < s.size) (hs : s.size ≤ 1000000) : Calls Try.prog 85 #[.string s, .string ⟨#[10]⟩] w fun e w' => e = .returned (.tuple #[.string (s.extract 0 o), .string (s.extract (o + 1) s.size), .bool true]) ∧ ∃ n, w' = w.drewN n := by
  have HX := Lib.hid (cut0_yes s o w h ho hs)
  clear h
  go_enter Try.func85, Try.ntmps85
  go_wp2_with (go_at_call 119; refine HX.out.mono ?_; rintro e w' ⟨rfl, n, rfl⟩)
  go_ret3
  exact ⟨rfl, n, rfl⟩

/-- How many rounds are left, off the world. -/
def textLeft (q : Nat) (m : Value) (w : World) : Nat := (match w.cell? ⟨q, 0, none⟩ with | some (.string s) => s.size | _ => 0) + (match m with | .bool true => 1 | _ => 0)

theorem str_self (t : ByteArray) : Str t.data.toList = .string t := by unfold Str; simp
theorem str_extract (s : ByteArray) (a b : Nat) : (s.extract a b).data.toList = (s.data.toList.drop a).take (b - a) := by
  rw [ByteArray.data_extract]; simp

theorem setCell_blk {w : World} {q : Nat} {u v : Value} {t : TypeId} (h : w.heap[q]? = some (.cells #[u] t (0, 0))) : (w.setCell ⟨q, 0, none⟩ v).heap[q]? = some (.cells #[v] t (0, 0)) := by
  obtain ⟨hlt, h'⟩ := Array.getElem?_eq_some_iff.1 h
  show (w.heap.modify q _)[q]? = _
  rw [Array.getElem?_eq_getElem (by rw [Array.size_modify]; exact hlt), Array.getElem_modify_self, h']
  rfl

/-- The iterator of a text's lines. -/
theorem lines1_own (n : Nat) (q : Nat) (s : ByteArray) (w : World) (hs : s.size ≤ 1000000) (hq : w.heap[q]? = some (.cells #[.string s] 9 (0, 0))) :
    SeqOwn n Try.prog 84 #[.pointer (some ⟨q, 0, none⟩)] (fun x => #[Str x]) q (linesOf s.data.toList) w := fun l J W hW hJ hY h0 => by
  rw [hq] at hW
  clear hq w
  have HJ := Lib.hid hJ
  have HY := Lib.hid hY
  clear hJ hY
  refine callsIn_of_wp Try.func84 rfl trivial ?_ rfl
  simp only [Try.ntmps84, List.size_toArray, List.length_cons, List.length_nil, Nat.reduceAdd, Nat.reduceSub, Array.replicate_succ, Array.replicate_zero, List.push_toArray, List.append_toArray, List.nil_append, List.cons_append]
  gi_wp2
  gi_loopw [3] (fun m wr => ∃ (pre rest : List (List UInt8)) (t : ByteArray) (more : Bool), m = .bool more ∧ Hid (linesOf s.data.toList = pre ++ rest) ∧ J pre wr ∧ wr.heap[q]? = some (.cells #[.string t] 9 (0, 0)) ∧ t.size ≤ 1000000 ∧ Hid (rest = if more = true then linesOf t.data.toList else [])) (fun m wr => textLeft q m wr)
  case atStart => exact ⟨[], _, s, true, rfl, by show _ = _; rw [List.nil_append], h0, hW, hs, by show _ = _; simp⟩
  case round =>
    obtain ⟨pre, rest, t, more, rfl, hl, hj, hc, ht, hr⟩ := hrel
    cases more with
    | false =>
      have hfin : Hid (J (linesOf s.data.toList) wr) := by
        show J _ _
        have h1 := hr.out
        simp at h1
        rw [hl.out, h1, List.append_nil]; exact hj
      clear hl hr hj
      gi_wp2
      go_end0
      exact ⟨⟨_, rfl⟩, hfin.out⟩
    | true =>
      have hcell : wr.cell? ⟨q, 0, none⟩ = some (.string t) := by unfold World.cell?; rw [hc]; rfl
      have hfz : wr.frozen? ⟨q, 0, none⟩ = false := by unfold World.frozen?; rw [hc]; rfl
      have hml : Hid (textLeft q (.bool true) wr = t.size + 1) := by show _ = _; unfold textLeft; rw [hcell]
      by_cases hi : Lib.indexByte t.data.toList 10 = -1
      · have hC := Lib.hid (fun w => cut_no t w hi)
        have hln := Lib.hid (linesOf_none hi)
        have hst := Lib.hid (str_self t)
        have hnx : Hid (linesOf s.data.toList = (pre ++ [t.data.toList]) ++ []) := by
          show _ = _
          have h1 := hr.out
          simp at h1
          rw [hl.out, h1, hln.out, List.append_nil]
        clear hi hl hr hln
        gi_wp2_with (refine ⟨trivial, fun hh => (by simp [Fence.wide] at hh), ?_⟩; refine (callsIn_wide.2 (hC.out wr)).mono ?_; rintro e w1 ⟨rfl, n1, hw1⟩; have hcell1 : w1.cell? ⟨q, 0, none⟩ = some (.string t) := (by rw [hw1]; exact hcell); have hfz1 : w1.frozen? ⟨q, 0, none⟩ = false := (by rw [hw1]; exact hfz); obtain ⟨fn, tmps, assign, body, hy, hR⟩ := HY.out pre t.data.toList (w1.setCell ⟨q, 0, none⟩ (.string ⟨#[]⟩)) (HJ.out _ _ _ (HJ.out _ _ _ hj (by rw [hw1]; exact Turns.drewN _ _ _)) (Turns.setCell _ _ _)) ⟨_, hnx.out.symm⟩; rw [hst.out] at hy; have hb1 := Lib.hid (show w1.heap[q]? = some (.cells #[.string t] 9 (0, 0)) by rw [hw1]; exact hc); clear hw1)
        refine ⟨fun hh => (by simp [Fence.wide] at hh), hR.mono ?_⟩
        rintro e w3 ⟨rfl, hj3, hk3⟩
        have hc3 : w3.heap[q]? = some (.cells #[(.string ⟨#[]⟩)] 9 (0, 0)) := by rw [hk3]; exact setCell_blk hb1.out
        clear hk3 hy hcell1 hfz1 hcell hfz hc
        gi_wp2
        go_roundw
        case rel => exact ⟨pre ++ [t.data.toList], [], ⟨#[]⟩, false, rfl, hnx, hj3, hc3, by show (0 : Nat) ≤ _; omega, by show _ = _; simp⟩
        case measure => rw [hml.out]; unfold textLeft; rw [show w3.cell? ⟨q, 0, none⟩ = some (.string ⟨#[]⟩) by unfold World.cell?; rw [hc3]; rfl]; show 0 + 0 < t.size + 1; omega
      · obtain ⟨o, hi⟩ : ∃ o : Nat, Lib.indexByte t.data.toList 10 = o := ⟨(Lib.indexByte t.data.toList 10).toNat, by have := Lib.indexByte_ge t.data.toList 10; omega⟩
        have hts : t.data.toList.length = t.size := by simp
        have ho : o < t.size := by have := (Lib.indexByte_some hi).1; have := (List.getElem?_eq_some_iff.1 this).1; omega
        have hC := Lib.hid (fun w => cut_yes t o w hi ho ht)
        have hln := Lib.hid (linesOf_some hi)
        have hst : Hid (Str (t.data.toList.take o) = .string (t.extract 0 o)) := by
          show _ = _
          rw [← str_self (t.extract 0 o), str_extract]; simp
        have hrt : (t.extract (o + 1) t.size).data.toList = t.data.toList.drop (o + 1) := by
          rw [str_extract, List.take_of_length_le (by rw [List.length_drop]; omega)]
        have hnx : Hid (linesOf s.data.toList = (pre ++ [t.data.toList.take o]) ++ linesOf (t.data.toList.drop (o + 1))) := by
          show _ = _
          have h1 := hr.out
          simp at h1
          rw [hl.out, h1, hln.out]; simp
        have HRT := Lib.hid hrt
        clear hi hl hr hln hts hrt
        gi_wp2_with (refine ⟨trivial, fun hh => (by simp [Fence.wide] at hh), ?_⟩; refine (callsIn_wide.2 (hC.out wr)).mono ?_; rintro e w1 ⟨rfl, n1, hw1⟩; have hcell1 : w1.cell? ⟨q, 0, none⟩ = some (.string t) := (by rw [hw1]; exact hcell); have hfz1 : w1.frozen? ⟨q, 0, none⟩ = false := (by rw [hw1]; exact hfz); obtain ⟨fn, tmps, assign, body, hy, hR⟩ := HY.out pre (t.data.toList.take o) (w1.setCell ⟨q, 0, none⟩ (.string (t.extract (o + 1) t.size))) (HJ.out _ _ _ (HJ.out _ _ _ hj (by rw [hw1]; exact Turns.drewN _ _ _)) (Turns.setCell _ _ _)) ⟨_, hnx.out.symm⟩; rw [hst.out] at hy; have hb1 := Lib.hid (show w1.heap[q]? = some (.cells #[.string t] 9 (0, 0)) by rw [hw1]; exact hc); clear hw1)
        refine ⟨fun hh => (by simp [Fence.wide] at hh), hR.mono ?_⟩
        rintro e w3 ⟨rfl, hj3, hk3⟩
        have hc3 : w3.heap[q]? = some (.cells #[(.string (t.extract (o + 1) t.size))] 9 (0, 0)) := by rw [hk3]; exact setCell_blk hb1.out
        clear hk3 hy hcell1 hfz1 hcell hfz hc
        gi_wp2
        go_roundw
        case rel => exact ⟨pre ++ [t.data.toList.take o], _, t.extract (o + 1) t.size, true, rfl, hnx, hj3, hc3, by simp; omega, by show _ = _; rw [HRT.out]; simp⟩
        case measure => rw [hml.out]; unfold textLeft; rw [show w3.cell? ⟨q, 0, none⟩ = some (.string (t.extract (o + 1) t.size)) by unfold World.cell?; rw [hc3]; rfl]; simp; omega

theorem lines_calls (s : ByteArray) (w : World) : Calls Try.prog 47 #[.string s] w fun e w' => e = .returned (.func (.func 84) #[] #[.pointer (some ⟨w.heap.size, 0, none⟩)]) ∧ w' = w.alloc (.cells #[.string s] 9) := by
  go_enter Try.func47, Try.ntmps47
  go_wp2
  go_ret
  exact ⟨rfl, rfl⟩

set_option maxRecDepth 20000 in
set_option maxHeartbeats 2000000 in
theorem typedT_calls (s : ByteArray) (w : World) (hs : s.size ≤ 1000000) : Calls Try.prog 15 #[.string s] w (GivesStrs w (typed s.data.toList)) := by
  obtain ⟨i0, hi, hz0, hz1, hz2⟩ := info_parts Try.infoStr
  refine (callsIn_wide (n := 5)).1 ?_
  refine callsIn_of_wp_marks Try.func15 rfl trivial ?_ rfl
  simp only [Try.ntmps15, List.size_toArray, List.length_cons, List.length_nil, Nat.reduceAdd, Nat.reduceSub, Array.replicate_succ, Array.replicate_zero, List.push_toArray, List.append_toArray, List.nil_append, List.cons_append]
  gi_wp2_with (refine ⟨trivial, ?_⟩; refine (callsIn_wide.2 (lines_calls s _)).mono ?_; rintro e w' ⟨rfl, rfl⟩)
  obtain ⟨W0, hW0⟩ : ∃ W0, (w.alloc (.cells #[.slice none 0 0] 24)).alloc (.cells #[.string s] 9) = W0 := ⟨_, rfl⟩
  have hz0' : W0.heap.size = w.heap.size + 2 := by rw [← hW0]; simp
  have hq0 : W0.heap[w.heap.size + 1]? = some (.cells #[.string s] 9 (0, 0)) := by
    rw [← hW0]
    have := World.alloc_heap_new (w.alloc (.cells #[.slice none 0 0] 24)) (.cells #[.string s] 9)
    rwa [World.size_alloc] at this
  have hb0 : Boxed W0 w.heap.size 24 (.slice none 0 0) := by rw [← hW0]; exact (Boxed.new w _ _).alloc _
  have hB0 : Below w.heap.size w W0 := by rw [← hW0]; exact ((Below.refl _ w).alloc (Nat.le_refl _) _).alloc (by simp) _
  have hll : (linesOf s.data.toList).length ≤ 1000001 := by have := linesOf_len s.data.toList; rw [show s.data.toList.length = s.size by simp] at this; omega
  simp only [hW0]
  clear hW0
  refine wpIn_range_own (gf := 84) (lb := #[.pointer (some ⟨w.heap.size + 1, 0, none⟩)]) rfl (enters_of Try.func84 (by kernel_rfl) rfl)
    (lines1_own _ (w.heap.size + 1) s W0 hs hq0) (by omega) rfl (fun _ => rfl)
    (fun pre W => (∃ v, Boxed W w.heap.size 24 v ∧ W.ownsRow w.heap.size 9 1 v (pre.filterMap pick).length ((pre.filterMap pick).map Str) ∧ v.ownBlock ≠ some (w.heap.size + 1)) ∧ Below w.heap.size w W ∧ w.heap.size + 2 ≤ W.heap.size)
    ?hI ?hIq ?h0
    (fun x => { tmps := #[.string s, undef, .slice none 0 0, .pointer (some ⟨w.heap.size, 0, none⟩), .string ⟨x.toArray⟩, undef, undef, .string s, .func (.func 84) #[] #[.pointer (some ⟨w.heap.size + 1, 0, none⟩)], .string ⟨x.toArray⟩, undef, undef, undef, undef, undef, undef, undef, undef, undef, undef, undef, undef], defers := [] }) ?assign ?body ?done
  case hI =>
    refine OwnFrom.and (Own.from (holdsRow_own w.heap.size w.heap.size 24 9 1 (fun pre : List (List UInt8) => (pre.filterMap pick).length) (fun pre => (pre.filterMap pick).map Str) (fun _ v => v.ownBlock ≠ some (w.heap.size + 1))) _) (OwnFrom.and (ownFrom_below (Nat.le_refl _) (by omega)) ?_)
    intro _ A B row h hg _
    exact Nat.le_trans h hg.size
  case hIq =>
    rintro pre A B ⟨⟨v, hv, hrow, hne⟩, hB, hz⟩ ht
    refine ⟨⟨v, ht.blk hv (by omega), ownsRow_blk hrow fun g hg => ?_, hne⟩, hB.grown ht hB.size (fun k e => by cases e; omega), Nat.le_trans hz ht.size⟩
    exact ht.block g (ownsRow_in hrow g hg).2 (by rw [← hg]; exact hne)
  case h0 => exact ⟨⟨_, hb0, World.ownsRow_nil _ _ _ _, by simp [Value.ownBlock]⟩, hB0, by omega⟩
  case assign =>
    intro l x W K hK
    gi_wp2
    exact hK
  case body =>
    rintro l pre x W ⟨⟨v, hv, hrow, hne⟩, hB, hz⟩ hpx
    have hpl : (pre.filterMap pick).length ≤ 1000000 := by
      have h1 := picks_len pre
      have h2 := hpx.length_le
      rw [List.length_append, List.length_singleton] at h2
      omega
    have hcp := Try.strings_CutPrefix ⟨x.toArray⟩ ⟨#[62]⟩
    simp only [] at hcp
    by_cases hp : Lib.hasPrefix x [62] = true
    · rw [hp] at hcp
      have HCP := Lib.hid hcp
      have htr := Try.strings_TrimPrefix ⟨(Lib.trimPrefix x [62]).toArray⟩ ⟨#[32]⟩
      simp only [] at htr
      have hpk : pick x = some (Lib.trimPrefix (Lib.trimPrefix x [62]) [32]) := by unfold pick; rw [if_pos hp]
      clear hcp hp
      generalize Lib.trimPrefix x [62] = x1 at HCP htr hpk
      generalize Lib.trimPrefix x1 [32] = y at htr hpk
      have HTR := Lib.hid htr
      have HPK := Lib.hid (picks_snoc_some (pre := pre) hpk)
      clear htr hpk
      gi_wp2_with (refine ⟨trivial, ?_⟩; refine (CallsIn.inRound l (callsIn_wide.2 (HCP.out _))).mono ?_; rintro e w' ⟨rfl, hw'⟩; obtain rfl : W = w' := hw'.symm)
      have hvd : Boxed W.drew w.heap.size 24 v := hv
      have hrow : W.drew.ownsRow w.heap.size 9 1 v (pre.filterMap pick).length ((pre.filterMap pick).map Str) := hrow
      have hc := hv.cell
      have hfz := hv.frozen
      have hca := (hv.alloc (.cells #[.string ⟨y.toArray⟩] 9)).cell
      have FIN : ∀ {w1 : World} {v' : Value} {a : Act} {tmp : Obj}, w1.ownsRow w.heap.size 9 1 v' ((pre.filterMap pick).length + 1) ((pre.filterMap pick).map Str ++ [Str y]) →
          (Boxed w1 w.heap.size 24 v ∧ Boxed (w1.setCell ⟨w.heap.size, 0, none⟩ v') w.heap.size 24 v' ∧ (w1.setCell ⟨w.heap.size, 0, none⟩ v').ownsRow w.heap.size 9 1 v' ((pre.filterMap pick).length + 1) ((pre.filterMap pick).map Str ++ [Str y]) ∧ KeepsOthers W.drew (w1.setCell ⟨w.heap.size, 0, none⟩ v') ∧ Below w.heap.size W.drew (w1.setCell ⟨w.heap.size, 0, none⟩ v')) →
          (W.drew.alloc tmp).grownBy w1 v.ownBlock → (v'.ownBlock = v.ownBlock ∨ v'.ownBlock = some (W.drew.alloc tmp).heap.size) →
          goesOn (w.heap.size + 1) (fun pre W => (∃ v, Boxed W w.heap.size 24 v ∧ W.ownsRow w.heap.size 9 1 v (pre.filterMap pick).length ((pre.filterMap pick).map Str) ∧ v.ownBlock ≠ some (w.heap.size + 1)) ∧ Below w.heap.size w W ∧ w.heap.size + 2 ≤ W.heap.size) (pre ++ [x]) W .normal a (w1.setCell ⟨w.heap.size, 0, none⟩ v') := by
        rintro w1 v' a tmp - ⟨-, h2, h3, h4, h5⟩ hg hat
        refine ⟨(KeepsOthers.drew W).trans h4, ?_, ⟨v', h2, ?_, ?_⟩, hB.trans ((below_drewN (Below.refl _ W) 1).trans h5), Nat.le_trans hz h4.size⟩
        · rw [Below.heap_setCell _ _ _ _ (by show w.heap.size + 1 ≠ w.heap.size; omega), hg.block (w.heap.size + 1) (by simp; omega) (fun e => hne e.symm)]
          exact Below.heap_alloc W.drew _ _ (by show w.heap.size + 1 < W.heap.size; omega)
        · rw [HPK.out, List.length_append, List.map_append]; exact h3
        · rcases hat with e | e
          · rw [e]; exact hne
          · rw [e]; simp; omega
      refine wpIn_region_any (by kernel_rfl) ?_
      change wpAnyIn _ _ _ _ _ _ _ _ _ W.drew
      refine wpAnyIn_ready (rs := [0, 1]) (by kernel_rfl) (by simp) ?_
      refine AllReadyIn.cons rfl (fun K hK => ?_) ?_
      · 
        go_simp
        refine hK _ _ ?_
        clear hK K
        refine wpAnyIn_ready (rs := [1]) (by kernel_rfl) (by simp) ?_
        refine AllReadyIn.cons rfl (fun K hK => ?_) ?_
        · 
          go_simp
          refine hK _ _ ?_
          clear hK K
          refine wpAnyIn_ready (rs := [2]) (by kernel_rfl) (by simp) ?_
          refine AllReadyIn.cons rfl (fun K hK => ?_) ?_
          · 
            go_simp
            refine ⟨trivial, ?_⟩
            refine (CallsIn.inRound l (callsIn_wide.2 (HTR.out _))).mono ?_
            rintro e0 w0 ⟨rfl, rfl⟩
            refine hK _ _ ?_
            clear hK K
            refine wpAnyIn_ready (rs := [3]) (by kernel_rfl) (by simp) ?_
            refine AllReadyIn.cons rfl (fun K hK => ?_) ?_
            · 
              go_simp
              refine hK _ _ ?_
              clear hK K
              refine wpAnyIn_ready (rs := [4]) (by kernel_rfl) (by simp) ?_
              refine AllReadyIn.cons rfl (fun K hK => ?_) ?_
              · 
                refine stepIn_append rfl _ _ 24 rfl w.heap.size 9 i0 _ 1 16 Try.underlying24 hi hz0 hz1 hz2 rfl (by decide) _ _ _ rfl (hrow.alloc _) ⟨W.heap.size, 0, none⟩ 1 1 [.string ⟨y.toArray⟩] rfl rfl (cell_one_new _ _ _) (by simp [Value.oneCell']) (by unfold maxLen; omega) (by omega) (by simp; omega) ?_
                intro v' w1 hown' hgrow hat
                obtain ⟨g', cap', rfl⟩ := ownsRow_succ hown'
                have hap := hvd.appended (by decide) hrow (by simp; omega) (Nat.le_refl _) hown' hgrow
                have hc1 := hap.1.cell
                have hf1 := hap.1.frozen
                refine hK _ _ ?_
                clear hK K
                refine wpAnyIn_ready (rs := [5]) (by kernel_rfl) (by simp) ?_
                refine AllReadyIn.cons rfl (fun K hK => ?_) ?_
                · 
                  go_simp
                  refine hK _ _ ?_
                  clear hK K
                  refine wpAnyIn_done (by kernel_rfl) ?_ _
                  exact FIN (a := ⟨#[], []⟩) hown' hap hgrow hat
                exact AllReadyIn.nil
              exact AllReadyIn.nil
            exact AllReadyIn.nil
          exact AllReadyIn.nil
        exact AllReadyIn.nil
      refine AllReadyIn.cons rfl (fun K hK => ?_) ?_
      · 
        go_simp
        refine hK _ _ ?_
        clear hK K
        refine wpAnyIn_ready (rs := [0, 2]) (by kernel_rfl) (by simp) ?_
        refine AllReadyIn.cons rfl (fun K hK => ?_) ?_
        · 
          go_simp
          refine hK _ _ ?_
          clear hK K
          refine wpAnyIn_ready (rs := [2]) (by kernel_rfl) (by simp) ?_
          refine AllReadyIn.cons rfl (fun K hK => ?_) ?_
          · 
            go_simp
            refine ⟨trivial, ?_⟩
            refine (CallsIn.inRound l (callsIn_wide.2 (HTR.out _))).mono ?_
            rintro e0 w0 ⟨rfl, rfl⟩
            refine hK _ _ ?_
            clear hK K
            refine wpAnyIn_ready (rs := [3]) (by kernel_rfl) (by simp) ?_
            refine AllReadyIn.cons rfl (fun K hK => ?_) ?_
            · 
              go_simp
              refine hK _ _ ?_
              clear hK K
              refine wpAnyIn_ready (rs := [4]) (by kernel_rfl) (by simp) ?_
              refine AllReadyIn.cons rfl (fun K hK => ?_) ?_
              · 
                refine stepIn_append rfl _ _ 24 rfl w.heap.size 9 i0 _ 1 16 Try.underlying24 hi hz0 hz1 hz2 rfl (by decide) _ _ _ rfl (hrow.alloc _) ⟨W.heap.size, 0, none⟩ 1 1 [.string ⟨y.toArray⟩] rfl rfl (cell_one_new _ _ _) (by simp [Value.oneCell']) (by unfold maxLen; omega) (by omega) (by simp; omega) ?_
                intro v' w1 hown' hgrow hat
                obtain ⟨g', cap', rfl⟩ := ownsRow_succ hown'
                have hap := hvd.appended (by decide) hrow (by simp; omega) (Nat.le_refl _) hown' hgrow
                have hc1 := hap.1.cell
                have hf1 := hap.1.frozen
                refine hK _ _ ?_
                clear hK K
                refine wpAnyIn_ready (rs := [5]) (by kernel_rfl) (by simp) ?_
                refine AllReadyIn.cons rfl (fun K hK => ?_) ?_
                · 
                  go_simp
                  refine hK _ _ ?_
                  clear hK K
                  refine wpAnyIn_done (by kernel_rfl) ?_ _
                  exact FIN (a := ⟨#[], []⟩) hown' hap hgrow hat
                exact AllReadyIn.nil
              exact AllReadyIn.nil
            exact AllReadyIn.nil
          exact AllReadyIn.nil
        refine AllReadyIn.cons rfl (fun K hK => ?_) ?_
        · 
          go_simp
          refine ⟨trivial, ?_⟩
          refine (CallsIn.inRound l (callsIn_wide.2 (HTR.out _))).mono ?_
          rintro e0 w0 ⟨rfl, rfl⟩
          refine hK _ _ ?_
          clear hK K
          refine wpAnyIn_ready (rs := [0, 3]) (by kernel_rfl) (by simp) ?_
          refine AllReadyIn.cons rfl (fun K hK => ?_) ?_
          · 
            go_simp
            refine hK _ _ ?_
            clear hK K
            refine wpAnyIn_ready (rs := [3]) (by kernel_rfl) (by simp) ?_
            refine AllReadyIn.cons rfl (fun K hK => ?_) ?_
            · 
              go_simp
              refine hK _ _ ?_
              clear hK K
              refine wpAnyIn_ready (rs := [4]) (by kernel_rfl) (by simp) ?_
              refine AllReadyIn.cons rfl (fun K hK => ?_) ?_
              · 
                refine stepIn_append rfl _ _ 24 rfl w.heap.size 9 i0 _ 1 16 Try.underlying24 hi hz0 hz1 hz2 rfl (by decide) _ _ _ rfl (hrow.alloc _) ⟨W.heap.size, 0, none⟩ 1 1 [.string ⟨y.toArray⟩] rfl rfl (cell_one_new _ _ _) (by simp [Value.oneCell']) (by unfold maxLen; omega) (by omega) (by simp; omega) ?_
                intro v' w1 hown' hgrow hat
                obtain ⟨g', cap', rfl⟩ := ownsRow_succ hown'
                have hap := hvd.appended (by decide) hrow (by simp; omega) (Nat.le_refl _) hown' hgrow
                have hc1 := hap.1.cell
                have hf1 := hap.1.frozen
                refine hK _ _ ?_
                clear hK K
                refine wpAnyIn_ready (rs := [5]) (by kernel_rfl) (by simp) ?_
                refine AllReadyIn.cons rfl (fun K hK => ?_) ?_
                · 
                  go_simp
                  refine hK _ _ ?_
                  clear hK K
                  refine wpAnyIn_done (by kernel_rfl) ?_ _
                  exact FIN (a := ⟨#[], []⟩) hown' hap hgrow hat
                exact AllReadyIn.nil
              exact AllReadyIn.nil
            exact AllReadyIn.nil
          refine AllReadyIn.cons rfl (fun K hK => ?_) ?_
          · 
            go_simp
            refine hK _ _ ?_
            clear hK K
            refine wpAnyIn_ready (rs := [0]) (by kernel_rfl) (by simp) ?_
            refine AllReadyIn.cons rfl (fun K hK => ?_) ?_
            · 
              go_simp
              refine hK _ _ ?_
              clear hK K
              refine wpAnyIn_ready (rs := [4]) (by kernel_rfl) (by simp) ?_
              refine AllReadyIn.cons rfl (fun K hK => ?_) ?_
              · 
                refine stepIn_append rfl _ _ 24 rfl w.heap.size 9 i0 _ 1 16 Try.underlying24 hi hz0 hz1 hz2 rfl (by decide) _ _ _ rfl (hrow.alloc _) ⟨W.heap.size, 0, none⟩ 1 1 [.string ⟨y.toArray⟩] rfl rfl (cell_one_new _ _ _) (by simp [Value.oneCell']) (by unfold maxLen; omega) (by omega) (by simp; omega) ?_
                intro v' w1 hown' hgrow hat
                obtain ⟨g', cap', rfl⟩ := ownsRow_succ hown'
                have hap := hvd.appended (by decide) hrow (by simp; omega) (Nat.le_refl _) hown' hgrow
                have hc1 := hap.1.cell
                have hf1 := hap.1.frozen
                refine hK _ _ ?_
                clear hK K
                refine wpAnyIn_ready (rs := [5]) (by kernel_rfl) (by simp) ?_
                refine AllReadyIn.cons rfl (fun K hK => ?_) ?_
                · 
                  go_simp
                  refine hK _ _ ?_
                  clear hK K
                  refine wpAnyIn_done (by kernel_rfl) ?_ _
                  exact FIN (a := ⟨#[], []⟩) hown' hap hgrow hat
                exact AllReadyIn.nil
              exact AllReadyIn.nil
            exact AllReadyIn.nil
          exact AllReadyIn.nil
        exact AllReadyIn.nil
      exact AllReadyIn.nil
    · have hp' : Lib.hasPrefix x [62] = false := by simpa using hp
      rw [hp'] at hcp
      have HCP := Lib.hid hcp
      have HPK := Lib.hid (picks_snoc_none (pre := pre) (x := x) (by unfold pick; rw [if_neg hp]))
      clear hcp hp hp'
      gi_wp2_with (refine ⟨trivial, ?_⟩; refine (CallsIn.inRound l (callsIn_wide.2 (HCP.out _))).mono ?_; rintro e w' ⟨rfl, rfl⟩)
      refine ⟨KeepsOthers.refl _, rfl, ⟨v, hv, ?_, hne⟩, hB, hz⟩
      rw [HPK.out]; exact hrow
  case done =>
    rintro D W hD ⟨⟨v, hv, hrow, hne⟩, hB, hz⟩ hK
    have hc := hv.cell
    gi_wp2
    refine ⟨by simp, .inl ⟨_, _, rfl, run_takeDeferred hK, ?_⟩⟩
    exact ⟨_, results_tmp rfl _ _ _, v, rfl, ownsRow_putObj hrow _ hK rfl, hB.trans (belowK_b (w := w) (Nat.le_refl _) W D _ _ (by omega) hK rfl rfl)⟩
end Go.Proofs.Ytimdnamhccipjaa
