/- The walks of clewref49.parts, clewref49.Typed and clewlaw49.sameTexts. -/
import Derived.Test.YtimdnamhccipjaaLinesP
import Derived.Test.YtimdnamhccipjaaSize
import Derived.Test.YtimdnamhccipjaaOwnX
import Derived.Test.YtimdnamhccipjaaCells
namespace Go.Proofs.Ytimdnamhccipjaa
open Go.RowKit

/-- Bytes, as a Go string. -/
def Str (l : List UInt8) : Value := .string ⟨l.toArray⟩
/-- A slice of the call's own holds these strings. -/
def OwnS (lo : Nat) (w : World) (xs : List (List UInt8)) (v : Value) : Prop := w.ownsRow lo 9 1 v xs.length (xs.map Str)
/-- A call's post: it hands back a slice of its own that holds these strings. -/
def GivesStrs (w : World) (xs : List (List UInt8)) (e : Ending) (w' : World) : Prop := ∃ v : Value, e = .returned v ∧ OwnS w.heap.size w' xs v ∧ Below w.heap.size w w'

theorem Try.infoStr : (Try.prog.info? 9).map (fun i => (i.zero, i.size, i.bytes)) = some (some (.string ⟨#[]⟩), 1, 16) := by kernel_rfl

theorem OwnS.shape {lo : Nat} {w : World} {xs : List (List UInt8)} {v : Value} (h : OwnS lo w xs v) : ∃ a cap, v = .slice a xs.length cap := by
  rcases h.2 with ⟨rfl, h0⟩ | ⟨g', cap, cur, rfl, h3, h4, h5⟩
  · exact ⟨_, _, by rw [h0]⟩
  · exact ⟨_, _, rfl⟩
theorem OwnS.nil (lo : Nat) (w : World) : OwnS lo w [] (.slice none 0 0) := World.ownsRow_nil _ _ _ _
theorem OwnS.below {lo : Nat} {w w' : World} {xs : List (List UInt8)} {v : Value} (h : OwnS lo w xs v) (hb : Below w.heap.size w w') : OwnS lo w' xs v :=
  ownsRow_blk h fun g hg => hb.block g (ownsRow_in h g hg).2

/-- One more string. -/
theorem OwnS.push {lo : Nat} {w0 wr w1 w2 : World} {xs : List (List UInt8)} {x : List UInt8} {v v' : Value} {o : Obj} (hown : OwnS lo wr xs v) (hb : Below wr.heap.size wr w1) (hB : Below lo w0 wr) (hlo : lo ≤ wr.heap.size)
    (hown' : w2.ownsRow lo 9 1 v' (xs.length + 1) (xs.map Str ++ [Str x])) (hg : (w1.alloc o).grownBy w2 v.ownBlock) : OwnS lo w2 (xs ++ [x]) v' ∧ Below lo w0 w2 := by
  refine ⟨?_, hB.trans ((hb.mono hlo).trans ((((Below.refl lo w1).alloc (Nat.le_trans hlo hb.size) o)).grown hg (by have := hb.size; simp; omega) (fun k e => (ownsRow_in hown k e).1)))⟩
  unfold OwnS
  simpa using hown'

theorem str_one (s : ByteArray) (one : List UInt8) (k : Nat) (h : k < s.size) : Value.string ((⟨one.toArray⟩ : ByteArray) ++ s.extract k (k + 1)) = Str (one ++ [s[k]]) := by
  unfold Str
  congr 1
  apply ByteArray.ext
  have : (s.extract k (k + 1)).data = #[s[k]] := by
    rw [ByteArray.data_extract]
    apply Array.ext
    · simp; have : s.data.size = s.size := rfl; omega
    · intro i h1 h2
      have : i = 0 := by simpa using h2
      subst this
      simp; rfl
  rw [ByteArray.data_append, this]
  simp
theorem drop_byte (s : ByteArray) (k : Nat) (h : k < s.size) : s.data.toList.drop k = s[k] :: s.data.toList.drop (k + 1) := by
  rw [List.drop_eq_getElem_cons (by simpa using h)]
  rfl

set_option maxRecDepth 20000 in
set_option maxHeartbeats 1000000 in
theorem partsR_calls (s : ByteArray) (w : World) (hs : s.size ≤ 1000000) : Calls Try.prog 50 #[.string s] w (GivesStrs w (linesOf s.data.toList)) := by
  obtain ⟨i0, hi, hz0, hz1, hz2⟩ := info_parts Try.infoStr
  go_enter Try.func50, Try.ntmps50
  go_wp2
  go_loopw [3, 4, 5] (fun u o i wr => ∃ (k : Nat) (pre : List (List UInt8)) (one : List UInt8), k ≤ s.size ∧ i = .int .i64 k ∧ o = .string ⟨one.toArray⟩ ∧ pre.length ≤ k ∧ Hid (one.length ≤ k) ∧ OwnS w.heap.size wr pre u ∧ Hid (linesOf s.data.toList = pre ++ glue one (linesOf (s.data.toList.drop k))) ∧ Below w.heap.size w wr) (fun _ _ i _ => s.size - (intOf i).toNat)
  case atStart => exact ⟨0, [], [], Nat.zero_le _, rfl, rfl, by simp, by show _ ≤ _; simp, OwnS.nil _ _, by show _ = _; simp [glue_nil _ (linesOf_ne _)], Below.refl _ _⟩
  case round =>
    obtain ⟨k, pre, one, hk, rfl, rfl, hpl, hol, hown, hq, hB⟩ := hrel
    by_cases hlt : k < s.size
    · have hd := drop_byte s k hlt
      by_cases h10 : (s[k]).toNat = 10
      · have hc : s[k] = 10 := UInt8.toNat_inj.1 h10
        have hnx : Hid (linesOf s.data.toList = (pre ++ [one]) ++ glue [] (linesOf (s.data.toList.drop (k + 1)))) := by
          show _ = _
          rw [hq.out, hd, hc, glue_feed]; simp
        have e1 : (((s[k]).toNat : Int) == 10) = true := by rw [h10]; rfl
        clear hd hc hq h10
        go_wp2_with (at_builtin; refine wpList_append_own_at _ rfl _ _ 24 rfl w.heap.size 9 i0 _ 1 16 Try.underlying24 hi hz0 hz1 hz2 rfl (by decide) _ _ _ rfl (ownsRow_blk hown fun g hg => Below.heap_alloc wr _ g (ownsRow_in hown g hg).2) ⟨wr.heap.size, 0, none⟩ 1 1 [.string ⟨one.toArray⟩] rfl rfl (cell_one_new _ _ _) (by simp [Value.oneCell']) (by unfold maxLen; omega) (by omega) (by have h1 := hB.size; simp; omega) ?_; intro v' w2 hown' hgrow _ hat)
        obtain ⟨hnew, hB2⟩ := OwnS.push (x := one) hown (Below.refl _ _) hB hB.size hown' hgrow
        go_roundw
        case rel => exact ⟨k + 1, pre ++ [one], [], by omega, by go_num, rfl, by simp; omega, by show _ ≤ _; simp, hnew, hnx, hB2⟩
        case measure => simp [intOf]; omega
      · have hc : s[k] ≠ 10 := fun h => h10 (by rw [h]; rfl)
        have hnx : Hid (linesOf s.data.toList = pre ++ glue (one ++ [s[k]]) (linesOf (s.data.toList.drop (k + 1)))) := by
          show _ = _
          rw [hq.out, hd, glue_byte _ _ _ hc]
        have e1 : (((s[k]).toNat : Int) == 10) = false := by simp; omega
        clear hd hc hq h10
        have hst := Lib.hid (str_one s one k hlt)
        have hmx : ¬ 9223372036854775807 < one.length + (min (k + 1) s.size - k) := by have := hol.out; omega
        go_wp2
        go_roundw
        case rel => exact ⟨k + 1, pre, one ++ [s[k]], by omega, by go_num, hst.out, by omega, by show _ ≤ _; have := hol.out; simp; omega, hown, hnx, hB⟩
        case measure => simp [intOf]; omega
    · have hd : s.data.toList.drop k = [] := List.drop_eq_nil_of_le (by simp; omega)
      have hnx : Hid (linesOf s.data.toList = pre ++ [one]) := by
        show _ = _
        rw [hq.out, hd]; simp [linesOf, glue]
      clear hd hq
      go_wp2_with (at_builtin; refine wpList_append_own_at _ rfl _ _ 24 rfl w.heap.size 9 i0 _ 1 16 Try.underlying24 hi hz0 hz1 hz2 rfl (by decide) _ _ _ rfl (ownsRow_blk hown fun g hg => Below.heap_alloc wr _ g (ownsRow_in hown g hg).2) ⟨wr.heap.size, 0, none⟩ 1 1 [.string ⟨one.toArray⟩] rfl rfl (cell_one_new _ _ _) (by simp [Value.oneCell']) (by unfold maxLen; omega) (by omega) (by have h1 := hB.size; simp; omega) ?_; intro v' w2 hown' hgrow _ hat)
      obtain ⟨hnew, hB2⟩ := OwnS.push (x := one) hown (Below.refl _ _) hB hB.size hown' hgrow
      go_ret
      exact ⟨_, rfl, by rw [hnx.out]; exact hnew, hB2⟩

theorem OwnS.at {lo : Nat} {w : World} {xs : List (List UInt8)} {v : Value} (h : OwnS lo w xs v) (h0 : 0 < xs.length) : ∃ g cap, v = .slice (some ⟨g, 0, none⟩) xs.length cap ∧ lo ≤ g ∧ g < w.heap.size ∧ xs.length ≤ cap ∧ cap ≤ maxLen ∧ ∀ i (hi : i < xs.length), w.cell? ⟨g, i, none⟩ = some (Str xs[i]) := by
  have h' := h
  rcases h.2 with ⟨rfl, e0⟩ | ⟨g, cap, cur, rfl, h3, h4, h5, h6, _⟩
  · omega
  · refine ⟨g, cap, rfl, h3, (Array.getElem?_eq_some_iff.1 h4).1, h5, h6, fun i hi => ?_⟩
    have := own_cell h' i (by omega)
    rw [this, List.getD_eq_getElem?_getD, List.getElem?_map, List.getElem?_eq_getElem hi]
    rfl

theorem str_of (x : List UInt8) : ∃ b : ByteArray, Str x = .string b ∧ b.data.toList = x := ⟨⟨x.toArray⟩, rfl, by simp⟩

theorem bytes_cons (b : ByteArray) (n : Nat) (hn : b.size = n) (h : 0 < b.size) : b.data.toList = b[0] :: (b.extract 1 n).data.toList := by
  subst hn
  have := drop_byte b 0 h
  rw [List.drop_zero] at this
  rw [this, ByteArray.data_extract]
  have hl : b.data.toList.length = b.size := by simp
  simp
  rw [List.take_of_length_le (by rw [List.length_tail]; omega)]

theorem ownsRow_lo {lo lo' te sz n : Nat} {w : World} {v : Value} {ys : List Value} (h : w.ownsRow lo' te sz v n ys) (hl : lo ≤ lo') : w.ownsRow lo te sz v n ys := by
  refine ⟨h.1, ?_⟩
  rcases h.2 with h2 | ⟨g, cap, cur, rfl, h3, h4⟩
  · exact .inl h2
  · exact .inr ⟨g, cap, cur, rfl, by omega, h4⟩

set_option maxRecDepth 20000 in
set_option maxHeartbeats 1000000 in
theorem typedR_calls (s : ByteArray) (w : World) (hs : s.size ≤ 1000000) : Calls Try.prog 16 #[.string s] w (GivesStrs w (typed s.data.toList)) := by
  obtain ⟨i0, hi, hz0, hz1, hz2⟩ := info_parts Try.infoStr
  have HP := Lib.hid (partsR_calls s w hs)
  have hll := linesOf_len s.data.toList
  have hl0 : 0 < (linesOf s.data.toList).length := List.length_pos_iff.2 (linesOf_ne _)
  have hT : Hid (typed s.data.toList = (linesOf s.data.toList).filterMap pick) := rfl
  have hsz : s.data.toList.length = s.size := by simp
  rw [hsz] at hll
  clear hsz
  generalize linesOf s.data.toList = ls at HP hll hl0 hT
  generalize typed s.data.toList = ty at hT ⊢
  go_enter Try.func16, Try.ntmps16
  go_wp2_with (go_at_call 50; refine HP.out.mono ?_; rintro e w1 ⟨v, rfl, hv, hb1⟩; obtain ⟨g, cap, rfl, hg0, hg1, hg2, hg3, hgc⟩ := hv.at hl0)
  clear HP hv
  go_loopw [3, 5, 6] (fun u i _ wr => ∃ (k : Nat), k ≤ ls.length ∧ i = .int .i64 k ∧ OwnS w1.heap.size wr ((ls.take k).filterMap pick) u ∧ Below w1.heap.size w1 wr) (fun _ i _ _ => ls.length - (intOf i).toNat)
  case atStart => exact ⟨0, Nat.zero_le _, rfl, by simp; exact OwnS.nil _ _, Below.refl _ _⟩
  case round =>
    obtain ⟨k, hk, rfl, hown, hB⟩ := hrel
    by_cases hlt : k < ls.length
    · have gc := hgc k hlt
      rw [← hB.cell (p := ⟨g, k, none⟩) hg1] at gc
      obtain ⟨b, hb, hbl⟩ := str_of ls[k]
      rw [hb] at gc
      have htk := List.take_succ_eq_append_getElem hlt
      have hpl := Lib.hid (picks_len (ls.take k))
      clear hgc hb
      by_cases h0 : 0 < b.size
      rotate_left
      · have e0 : ((b.size : Int) == 0) = true := by rw [show b.size = 0 by omega]; rfl
        have hno : pick ls[k] = none := by
          have : b.data.toList = [] := List.eq_nil_of_length_eq_zero (by rw [show b.data.toList.length = b.size by simp]; omega)
          rw [← hbl, this]; exact pick_nil
        have hnx : Hid ((ls.take (k + 1)).filterMap pick = (ls.take k).filterMap pick) := by show _ = _; rw [htk]; exact picks_snoc_none hno
        clear hno htk hbl h0 hpl
        go_wp2
        go_roundw
        case rel => exact ⟨k + 1, by omega, by go_num, by rw [hnx.out]; exact hown, hB⟩
        case measure => simp [intOf]; omega
      have e0 : ((b.size : Int) == 0) = false := by rw [beq_eq_false_iff_ne]; omega
      have hbc := bytes_cons b _ rfl h0
      by_cases h62 : (b[0]).toNat = 62
      rotate_left
      · have e1 : (((b[0]).toNat : Int) != 62) = true := by simp; omega
        have hno : pick ls[k] = none := by rw [← hbl, hbc]; exact pick_other _ _ (fun h => h62 (by rw [h]; rfl))
        have hnx : Hid ((ls.take (k + 1)).filterMap pick = (ls.take k).filterMap pick) := by show _ = _; rw [htk]; exact picks_snoc_none hno
        clear hno htk hbl hbc hpl
        go_wp2
        go_roundw
        case rel => exact ⟨k + 1, by omega, by go_num, by rw [hnx.out]; exact hown, hB⟩
        case measure => simp [intOf]; omega
      have e1 : (((b[0]).toNat : Int) != 62) = false := by simp [h62]
      have hpk : pick ls[k] = some (Lib.trimPrefix (b.extract 1 b.size).data.toList [32]) := by rw [← hbl, hbc, show b[0] = 62 from UInt8.toNat_inj.1 h62]; exact pick_mark _
      clear h62 hbc hbl
      have hpl := hpl.out
      rw [List.length_take] at hpl
      have hb1 : 0 < (b.extract 1 b.size).size ↔ 0 < b.size - 1 := by simp
      have hbc := bytes_cons (b.extract 1 b.size) (b.size - 1) (by simp)
      by_cases h1 : 0 < b.size - 1
      rotate_left
      · have hnx : Hid ((ls.take (k + 1)).filterMap pick = (ls.take k).filterMap pick ++ [(b.extract 1 b.size).data.toList]) := by
          have : (b.extract 1 b.size).data.toList = [] := List.eq_nil_of_length_eq_zero (by rw [show (b.extract 1 b.size).data.toList.length = (b.extract 1 b.size).size by simp]; omega)
          show _ = _; rw [htk]; refine picks_snoc_some ?_; rw [hpk, this]; rfl
        clear hpk htk hbc
        go_wp2_with (at_builtin; refine wpList_append_own_at _ rfl _ _ 24 rfl w1.heap.size 9 i0 _ 1 16 Try.underlying24 hi hz0 hz1 hz2 rfl (by decide) _ _ _ rfl (ownsRow_blk hown fun g hg => Below.heap_alloc wr _ g (ownsRow_in hown g hg).2) ⟨wr.heap.size, 0, none⟩ 1 1 [.string (b.extract 1 b.size)] rfl rfl (cell_one_new _ _ _) (by simp [Value.oneCell']) (by unfold maxLen; omega) (by omega) (by have h1 := hB.size; simp; omega) ?_; intro v' w2 hown' hgrow _ hat)
        obtain ⟨hnew, hB2⟩ := OwnS.push (x := (b.extract 1 b.size).data.toList) hown (Below.refl _ _) hB hB.size hown' hgrow
        go_roundw
        case rel => exact ⟨k + 1, by omega, by go_num, by rw [hnx.out]; exact hnew, hB2⟩
        case measure => simp [intOf]; omega
      have hbc := hbc (hb1.2 h1)
      by_cases h32 : ((b.extract 1 b.size)[0]'(by simp; omega)).toNat = 32
      · have e2 : ((((b.extract 1 b.size)[0]'(by simp; omega)).toNat : Int) == 32) = true := by rw [h32]; rfl
        have hnx : Hid ((ls.take (k + 1)).filterMap pick = (ls.take k).filterMap pick ++ [((b.extract 1 b.size).extract 1 (b.size - 1)).data.toList]) := by
          show _ = _; rw [htk]; refine picks_snoc_some ?_; rw [hpk, hbc, show (b.extract 1 b.size)[0]'(by simp; omega) = 32 from UInt8.toNat_inj.1 h32, trim_blank]
        clear h32 hpk htk hbc
        go_wp2_with (at_builtin; refine wpList_append_own_at _ rfl _ _ 24 rfl w1.heap.size 9 i0 _ 1 16 Try.underlying24 hi hz0 hz1 hz2 rfl (by decide) _ _ _ rfl (ownsRow_blk hown fun g hg => Below.heap_alloc wr _ g (ownsRow_in hown g hg).2) ⟨wr.heap.size, 0, none⟩ 1 1 [_] rfl rfl (cell_one_new _ _ _) (by simp [Value.oneCell']) (by unfold maxLen; omega) (by omega) (by have h1 := hB.size; simp; omega) ?_; intro v' w2 hown' hgrow _ hat)
        obtain ⟨hnew, hB2⟩ := OwnS.push (x := ((b.extract 1 b.size).extract 1 (b.size - 1)).data.toList) hown (Below.refl _ _) hB hB.size hown' hgrow
        go_roundw
        case rel => exact ⟨k + 1, by omega, by go_num, by rw [hnx.out]; exact hnew, hB2⟩
        case measure => simp [intOf]; omega
      · have e2 : ((((b.extract 1 b.size)[0]'(by simp; omega)).toNat : Int) == 32) = false := by rw [beq_eq_false_iff_ne]; omega
        have hnx : Hid ((ls.take (k + 1)).filterMap pick = (ls.take k).filterMap pick ++ [(b.extract 1 b.size).data.toList]) := by
          show _ = _; rw [htk]; refine picks_snoc_some ?_; rw [hpk, hbc, trim_other _ _ (fun h => h32 (by rw [h]; rfl))]
        clear h32 hpk htk hbc
        go_wp2_with (at_builtin; refine wpList_append_own_at _ rfl _ _ 24 rfl w1.heap.size 9 i0 _ 1 16 Try.underlying24 hi hz0 hz1 hz2 rfl (by decide) _ _ _ rfl (ownsRow_blk hown fun g hg => Below.heap_alloc wr _ g (ownsRow_in hown g hg).2) ⟨wr.heap.size, 0, none⟩ 1 1 [.string (b.extract 1 b.size)] rfl rfl (cell_one_new _ _ _) (by simp [Value.oneCell']) (by unfold maxLen; omega) (by omega) (by have h1 := hB.size; simp; omega) ?_; intro v' w2 hown' hgrow _ hat)
        obtain ⟨hnew, hB2⟩ := OwnS.push (x := (b.extract 1 b.size).data.toList) hown (Below.refl _ _) hB hB.size hown' hgrow
        go_roundw
        case rel => exact ⟨k + 1, by omega, by go_num, by rw [hnx.out]; exact hnew, hB2⟩
        case measure => simp [intOf]; omega
    · go_wp2
      go_ret
      have : k = ls.length := by omega
      subst this
      rw [List.take_length] at hown
      exact ⟨_, rfl, by rw [hT.out]; exact ownsRow_lo hown hb1.size, hb1.trans (hB.mono hb1.size)⟩

/-- A slice that reads as these strings. -/
def SlS (w : World) (xs : List (List UInt8)) (v : Value) : Prop := ∃ (a : Option Addr) (cap : Nat), v = .slice a xs.length cap ∧ xs.length ≤ cap ∧ cap ≤ maxLen ∧ (0 < xs.length → ∃ g, a = some ⟨g, 0, none⟩ ∧ g < w.heap.size ∧ ∀ i (hi : i < xs.length), w.cell? ⟨g, i, none⟩ = some (Str xs[i]))
theorem SlS.below {w w' : World} {xs : List (List UInt8)} {v : Value} (h : SlS w xs v) (hb : Below w.heap.size w w') : SlS w' xs v := by
  obtain ⟨a, cap, rfl, h1, h2, h3⟩ := h
  refine ⟨a, cap, rfl, h1, h2, fun h0 => ?_⟩
  obtain ⟨g, rfl, h4, h5⟩ := h3 h0
  exact ⟨g, rfl, Nat.lt_of_lt_of_le h4 hb.size, fun i hi => by rw [hb.cell (p := ⟨g, i, none⟩) h4]; exact h5 i hi⟩
theorem OwnS.sl {lo : Nat} {w : World} {xs : List (List UInt8)} {v : Value} (h : OwnS lo w xs v) : SlS w xs v := by
  have h' := h
  rcases h.2 with ⟨rfl, e0⟩ | ⟨g, cap, cur, rfl, h3, h4, h5, h6, _⟩
  · exact ⟨none, 0, by rw [e0], by omega, by unfold maxLen; omega, fun h => by omega⟩
  · refine ⟨_, _, rfl, h5, h6, fun h0 => ?_⟩
    obtain ⟨gg, cc, e, _, h7, _, _, h8⟩ := OwnS.at h' h0
    cases e
    exact ⟨_, rfl, h7, h8⟩

theorem str_inj {x y : List UInt8} : Str x = Str y ↔ x = y := by
  unfold Str
  constructor
  · intro h
    have := congrArg (fun v => match v with | Value.string b => b.data.toList | _ => []) h
    simpa using this
  · rintro rfl; rfl

set_option maxRecDepth 20000 in
set_option maxHeartbeats 1000000 in
theorem sameTexts_calls (xs ys : List (List UInt8)) (u v : Value) (w : World) (hu : SlS w xs u) (hv : SlS w ys v) : Calls Try.prog 14 #[u, v] w (Gives w (.bool (decide (xs = ys)))) := by
  obtain ⟨a1, c1, rfl, h11, h12, h13⟩ := hu
  obtain ⟨a2, c2, rfl, h21, h22, h23⟩ := hv
  unfold maxLen at h12 h22
  by_cases hl : xs.length = ys.length
  rotate_left
  · have e1 : decide ((xs.length : Int) = (ys.length : Int)) = false := by simp; omega
    have e2 : ((xs.length : Int) != (ys.length : Int)) = true := by simp; omega
    have hd : Hid (decide (xs = ys) = false) := by show _ = _; simp; intro h; exact hl (by rw [h])
    clear h13 h23
    go_enter Try.func14, Try.ntmps14
    go_wp2
    go_ret
    exact ⟨ret_bool hd.out.symm, Below.refl _ _⟩
  have e2 : ((xs.length : Int) != (ys.length : Int)) = false := by simp; omega
  have HL := Lib.hid hl
  have hlle : xs.length ≤ ys.length := by omega
  clear hl
  go_enter Try.func14, Try.ntmps14
  go_wp2
  go_loopw [5, 13] (fun _ i wr => ∃ (k : Nat), k ≤ xs.length ∧ i = .int .i64 k ∧ Hid (xs.take k = ys.take k) ∧ Below w.heap.size w wr) (fun _ i _ => xs.length - (intOf i).toNat)
  case atStart => exact ⟨0, Nat.zero_le _, rfl, by show _ = _; simp, Below.refl _ _⟩
  case round =>
    obtain ⟨k, hk, rfl, hq, hB⟩ := hrel
    by_cases hlt : k < xs.length
    · obtain ⟨g1, rfl, hg1, hc1⟩ := h13 (by omega)
      obtain ⟨g2, rfl, hg2, hc2⟩ := h23 (by omega)
      have d1 := hc1 k hlt
      have d2 := hc2 k (by omega)
      rw [← hB.cell (p := ⟨g1, k, none⟩) hg1] at d1
      rw [← hB.cell (p := ⟨g2, k, none⟩) hg2] at d2
      have hlt2 : k < ys.length := by omega
      have t1 := List.take_succ_eq_append_getElem hlt
      have t2 := List.take_succ_eq_append_getElem hlt2
      clear hc1 hc2 h13 h23
      by_cases he : xs[k] = ys[k]
      · have hnx : Hid (xs.take (k + 1) = ys.take (k + 1)) := by show _ = _; rw [t1, t2, hq.out, he]
        rw [he] at d1
        obtain ⟨b, hb, -⟩ := str_of ys[k]
        rw [hb] at d1 d2
        clear t1 t2 hq he hb
        go_wp2_with fail
        go_quiet (fail)
        go_wp2_with fail
        go_roundw
        case rel => exact ⟨k + 1, by omega, by go_num, hnx, hB.trans (below_drewN (Below.refl _ _) _)⟩
        case measure => simp [intOf]; omega
      · have hd : Hid (decide (xs = ys) = false) := by show _ = _; simp; rintro rfl; exact he rfl
        obtain ⟨b1, hb1, hl1⟩ := str_of xs[k]
        obtain ⟨b2, hb2, hl2⟩ := str_of ys[k]
        have e3 : (b1.toList == b2.toList) = false := by rw [beq_eq_false_iff_ne]; intro h; rw [ByteArray.toList_eq, ByteArray.toList_eq] at h; exact he (hl1.symm.trans (h.trans hl2))
        rw [hb1] at d1
        rw [hb2] at d2
        clear t1 t2 hq he hb1 hb2 hl1 hl2
        go_wp2_with fail
        go_quiet (fail)
        go_wp2_with fail
        go_ret
        exact ⟨ret_bool hd.out.symm, hB.trans (below_drewN (Below.refl _ _) _)⟩
    · have hd : Hid (decide (xs = ys) = true) := by
        show _ = _
        have h1 := hq.out
        rw [List.take_of_length_le (by omega), List.take_of_length_le (by have := HL.out; omega)] at h1
        simpa using h1
      clear hq h13 h23
      go_wp2
      go_ret
      exact ⟨ret_bool hd.out.symm, hB⟩
end Go.Proofs.Ytimdnamhccipjaa
