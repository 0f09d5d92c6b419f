/- phrase's parser on one path: what stands in memory, the next token, whether it is a keyword or a sign, that it is no operator. Printed by gen-par1.py. -/
import Derived.Test.YtnbfadgclffgkaaGreatDoorPart9f2d795c
import Derived.Test.YtnbfadgclffgkaaGreatDoorBdx
import Derived.Test.YtnbfadgclffgkaaGreatDoorPart68e43f7d
import Derived.BigQuiet
import Derived.Deep.DeepCutAuto
namespace Go.Proofs.YtnbfadgclffgkaaGreatDoor
open Go.RowKit Go.Sort
def tokZ : TokD := ⟨0, ⟨#[]⟩, 0, 0, 0⟩
def tokAt (l : List TokD) (k : Nat) : TokD := l.getD k tokZ
theorem bdN {B : Nat} {a w : World} {n : Nat} (h : Below B a w) : Below B a (w.drewN n) := h.trans ⟨rfl, rfl, rfl, Nat.le_refl _, fun _ _ => rfl⟩
def PS (w : World) (b : Nat) (v : Value) (k op : Nat) : Prop := BoxT w b [v, .int .i64 k, .int .i64 op] 176
theorem PS.cells {w : World} {b : Nat} {v : Value} {k op : Nat} (h : PS w b v k op) : w.cell? ⟨b, 0, none⟩ = some v ∧ w.cell? ⟨b, 1, none⟩ = some (.int .i64 k) ∧ w.cell? ⟨b, 2, none⟩ = some (.int .i64 op) :=
  ⟨BoxT.cell h 0, BoxT.cell h 1, BoxT.cell h 2⟩
theorem PS.below {w w' : World} {b : Nat} {v : Value} {k op : Nat} (h : PS w b v k op) (hb : Below w.heap.size w w') : PS w' b v k op := BoxT.below h hb
noncomputable def isT (t : TokD) (s : ByteArray) : Bool := (decide (t.kind = 4) || decide (t.kind = 5)) && dec (t.text = s)
set_option maxRecDepth 100000 in
set_option maxHeartbeats 4000000 in
theorem ptok_calls (w : World) (b : Nat) (v : Value) (k op : Nat) (l : List TokD) (hp : PS w b v k op) (hl : RdL Holds.tok 5 (fun x => x < b) w l v) (hk : k ≤ 100000) : Calls Tryz.prog 194 #[.pointer (some ⟨b, 0, none⟩)] w (Gives w (tokAt l k).val) := by
  obtain ⟨a, cap, rfl, hn, hc, ha⟩ := hl.opn
  unfold maxLen at hc
  have hk0 : (0 : Int) ≤ (k : Int) := by omega
  obtain ⟨W1, hW1⟩ : ∃ W1, w.alloc (.cells #[.int .i64 0, .string ⟨#[]⟩, .int .i64 0, .int .i64 0, .int .i64 0] 53) = W1 := ⟨_, rfl⟩
  have hb1 : Below w.heap.size w W1 := by rw [← hW1]; exact (Below.refl _ _).alloc (Nat.le_refl _) _
  have hx1 : BoxT W1 w.heap.size [.int .i64 0, .string ⟨#[]⟩, .int .i64 0, .int .i64 0, .int .i64 0] 53 := by rw [← hW1]; exact BoxT.new _ _ _
  obtain ⟨y0, y1, y2⟩ := (PS.below hp hb1).cells
  have q0 := hx1.cell 0
  have q1 := hx1.cell 1
  have q2 := hx1.cell 2
  have q3 := hx1.cell 3
  have q4 := hx1.cell 4
  simp only [cqs, cqz] at q0 q1 q2 q3 q4
  have f0 := Lib.frozen_of_heap hx1 0
  have f1 := Lib.frozen_of_heap hx1 1
  have f2 := Lib.frozen_of_heap hx1 2
  have f3 := Lib.frozen_of_heap hx1 3
  have f4 := Lib.frozen_of_heap hx1 4
  have HW1 := Lib.hid hW1
  have HB1 := Lib.hid hb1
  by_cases hlt : k < l.length
  · have hki : (k : Int) < (l.length : Int) := by omega
    obtain ⟨b2, off, rfl, hFb, hel⟩ := ha (by omega)
    have hb2 : b2 < w.heap.size := Nat.lt_trans hFb hp.lt
    obtain ⟨cs, ⟨-, rfl⟩, -, hcell⟩ := hel W1 (hb1.block b2 hb2) k hlt
    have e : tokAt l k = l[k] := by unfold tokAt; rw [List.getD_eq_getElem?_getD, List.getElem?_eq_getElem hlt]; rfl
    rw [e]
    generalize l[k] = t at hcell
    obtain ⟨t0, t1, t2, t3, t4⟩ := t
    have g0 := hcell 0 _ rfl
    have g1 := hcell 1 _ rfl
    have g2 := hcell 2 _ rfl
    have g3 := hcell 3 _ rfl
    have g4 := hcell 4 _ rfl
    simp only [Nat.add_zero] at g0
    show Calls Tryz.prog 194 #[.pointer (some ⟨b, 0, none⟩)] w (Gives w (.agg #[.int .i64 t0, .string t1, .int .i64 t2, .int .i64 t3, .int .i64 t4]))
    clear hel hcell ha hl hp hb1 hx1 hW1 e
    go_enter Tryz.func194, Tryz.ntmps194
    go_upto_region 1 with fail
    rw [HW1.out]
    go_quiet (fail)
    go_upto_region 2 with fail
    go_region
    go_wp2
    (try simp only [Exit.inBlock, Exit.then])
    exact bodyPost_ret (v := .agg #[.int .i64 t0, .string t1, .int .i64 t2, .int .i64 t3, .int .i64 t4]) (by simp [results, Tryz.results194, go_sem, q0, q1, q2, q3, q4]) rfl ⟨rfl, five9 (bdN HB1.out) (Nat.le_refl _)⟩
  · have hki : ¬ (k : Int) < (l.length : Int) := by omega
    have e : tokAt l k = tokZ := by unfold tokAt; rw [List.getD_eq_getElem?_getD, List.getElem?_eq_none (by omega)]; rfl
    rw [e]
    show Calls Tryz.prog 194 #[.pointer (some ⟨b, 0, none⟩)] w (Gives w (.agg #[.int .i64 0, .string ⟨#[]⟩, .int .i64 0, .int .i64 0, .int .i64 0]))
    clear ha hl hp hb1 hx1 hW1 e
    go_enter Tryz.func194, Tryz.ntmps194
    go_upto_region 1 with fail
    rw [HW1.out]
    go_quiet (fail)
    go_wp2
    (try simp only [Exit.inBlock, Exit.then])
    exact bodyPost_ret (v := .agg #[.int .i64 0, .string ⟨#[]⟩, .int .i64 0, .int .i64 0, .int .i64 0]) (by simp [results, Tryz.results194, go_sem, q0, q1, q2, q3, q4]) rfl ⟨rfl, five9 (bdN HB1.out) (Nat.le_refl _)⟩
theorem eqStr (a b : ByteArray) : (a.toList == b.toList) = dec (a = b) := by
  by_cases h : a = b
  · rw [dec_true h, h]; simp
  · rw [dec_false h]; exact strne h
set_option maxRecDepth 100000 in
set_option maxHeartbeats 4000000 in
theorem pis_calls (w : World) (b : Nat) (v : Value) (k op : Nat) (l : List TokD) (s : ByteArray) (hp : PS w b v k op) (hl : RdL Holds.tok 5 (fun x => x < b) w l v) (hk : k ≤ 100000) : Calls Tryz.prog 197 #[.pointer (some ⟨b, 0, none⟩), .string s] w (Gives w (.bool (isT (tokAt l k) s))) := by
  have hc := ptok_calls w b v k op l hp hl hk
  generalize tokAt l k = t at hc ⊢
  obtain ⟨t0, t1, t2, t3, t4⟩ := t
  have hfin : Hid (isT ⟨t0, t1, t2, t3, t4⟩ s = ((decide (t0 = 4) || decide (t0 = 5)) && (t1.toList == s.toList))) := by show _ = _; rw [eqStr]; rfl
  have HC := Lib.hid (show Calls Tryz.prog 194 #[.pointer (some ⟨b, 0, none⟩)] w (Gives w (.agg #[.int .i64 t0, .string t1, .int .i64 t2, .int .i64 t3, .int .i64 t4])) from hc)
  generalize isT ⟨t0, t1, t2, t3, t4⟩ s = R at hfin ⊢
  clear hc hp hl hk
  go_enter Tryz.func197, Tryz.ntmps197
  go_upto_region 2 with (go_at_call 194; (with_reducible refine HC.out.mono ?_); rintro e w1 ⟨rfl, hb1⟩)
  obtain ⟨w2, hw2⟩ : ∃ x, w1.alloc (.cells #[.int .i64 t0, .string t1, .int .i64 t2, .int .i64 t3, .int .i64 t4] 53) = x := ⟨_, rfl⟩
  have hb2 : Below w.heap.size w w2 := by rw [← hw2]; exact hb1.alloc hb1.size _
  have hx2 : BoxT w2 w1.heap.size [.int .i64 t0, .string t1, .int .i64 t2, .int .i64 t3, .int .i64 t4] 53 := by rw [← hw2]; exact BoxT.new _ _ _
  rw [hw2]
  have q0 := hx2.cell 0
  have q1 := hx2.cell 1
  have q2 := hx2.cell 2
  have q3 := hx2.cell 3
  have q4 := hx2.cell 4
  simp only [cqs, cqz] at q0 q1 q2 q3 q4
  have HB2 := Lib.hid hb2
  clear hb2 hx2 hw2 hb1
  by_cases h4 : t0 = 4
  · have e4 : (t0 == 4) = true := by simpa using h4
    have hR : Hid (R = (t1.toList == s.toList)) := by show _ = _; rw [hfin.out, decide_eq_true h4]; simp
    clear h4 hfin
    go_wp2
    go_ret
    exact ⟨ret_bool hR.out.symm, HB2.out⟩
  by_cases h5 : t0 = 5
  · have e4 : (t0 == 4) = false := by simpa using h4
    have e5 : (t0 == 5) = true := by simpa using h5
    have hR : Hid (R = (t1.toList == s.toList)) := by show _ = _; rw [hfin.out, decide_eq_true h5]; simp
    clear h4 h5 hfin
    go_wp2
    go_ret
    exact ⟨ret_bool hR.out.symm, HB2.out⟩
  have e4 : (t0 == 4) = false := by simpa using h4
  have e5 : (t0 == 5) = false := by simpa using h5
  have hR : Hid (R = false) := by show _ = _; rw [hfin.out, decide_eq_false h4, decide_eq_false h5]; rfl
  clear h4 h5 hfin
  go_wp2
  go_ret
  exact ⟨ret_bool hR.out.symm, HB2.out⟩
def opNone (t : TokD) : Prop := (t.kind ≠ 4 ∧ t.kind ≠ 5) ∨ ∀ o : Int, 1 ≤ o → o ≤ 14 → signB o ≠ t.text
set_option maxRecDepth 100000 in
set_option maxHeartbeats 4000000 in
theorem pop_calls (w : World) (t : TokD) (ht : opNone t) : Calls Tryz.prog 195 #[t.val] w (Gives w (.int .i64 0)) := by
  obtain ⟨t0, t1, t2, t3, t4⟩ := t
  show Calls Tryz.prog 195 #[.agg #[.int .i64 t0, .string t1, .int .i64 t2, .int .i64 t3, .int .i64 t4]] w (Gives w (.int .i64 0))
  obtain ⟨w2, hw2⟩ : ∃ x, w.alloc (.cells #[.int .i64 t0, .string t1, .int .i64 t2, .int .i64 t3, .int .i64 t4] 53) = x := ⟨_, rfl⟩
  have hb2 : Below w.heap.size w w2 := by rw [← hw2]; exact (Below.refl _ _).alloc (Nat.le_refl _) _
  have hx2 : BoxT w2 w.heap.size [.int .i64 t0, .string t1, .int .i64 t2, .int .i64 t3, .int .i64 t4] 53 := by rw [← hw2]; exact BoxT.new _ _ _
  have q0 := hx2.cell 0
  have q1 := hx2.cell 1
  have q2 := hx2.cell 2
  have q3 := hx2.cell 3
  have q4 := hx2.cell 4
  simp only [cqs, cqz] at q0 q1 q2 q3 q4
  have HB2 := Lib.hid hb2
  have HX2 := Lib.hid hx2
  have HW2 := Lib.hid hw2
  clear hb2 hx2 hw2
  by_cases h45 : t0 ≠ 4 ∧ t0 ≠ 5
  · have e4 : (t0 != 4) = true := by simpa using h45.1
    have e5 : (t0 != 5) = true := by simpa using h45.2
    clear ht h45
    go_enter Tryz.func195, Tryz.ntmps195
    go_upto_region 1 with fail
    rw [HW2.out]
    go_wp2
    go_ret
    exact ⟨rfl, HB2.out⟩
  have hs : Hid (∀ o : Int, 1 ≤ o → o ≤ 14 → (( (signB o).toList == t1.toList) = false)) := fun o h1 h2 => strne (ht.resolve_left h45 o h1 h2)
  have h4or : t0 = 4 ∨ t0 = 5 := by omega
  go_enter Tryz.func195, Tryz.ntmps195
  go_upto_region 1 with fail
  rw [HW2.out]
  have HL : ∀ (Q : World → Prop), True := fun _ => trivial
  clear HL
  rcases h4or with rfl | rfl
  all_goals
    clear ht h45
    go_wp2
    go_loopw [3] (fun i wr => ∃ (k : Nat), 1 ≤ k ∧ k ≤ 15 ∧ i = .int .i64 k ∧ Below w2.heap.size w2 wr) (fun i _ => 15 - (intOf i).toNat)
    case atStart => exact ⟨1, Nat.le_refl _, by omega, rfl, Below.refl _ _⟩
    case round =>
      obtain ⟨k, hk1, hk, rfl, hB⟩ := hrel
      by_cases hlt : k < 15
      · have e1 : decide ((k : Int) ≤ 14) = true := decide_eq_true (by omega)
        have hsk := hs.out k (by omega) (by omega)
        have hsg := fun p : Regrown => regrown_gives (w := wr) (fun w3 _ => sign_calls (k : Int) (by omega) (by omega) w3) p
        have y1 := (HX2.out.below hB).cell 1
        simp only [cqs, cqz] at y1
        generalize signB (k : Int) = sg at hsk hsg
        have HSG := Lib.hid hsg
        have c1 := fun d os => cell_regrown y1 d os
        have HB := Lib.hid hB
        clear hB y1 hsg
        go_wp2
        refine wp_region_quiet_below (by kernel_rfl) (by kernel_rfl) ?_
        repeat (go_big_quiet_step (with_reducible exact HSG.out _))
        refine wpQuiet_nil ?_
        intro w' hw'
        have hb := below_of_regrown hw'
        clear hw' HSG c1
        go_wp2
        go_roundw
        case rel => exact ⟨k + 1, by omega, by omega, by go_num, bt HB.out hb⟩
        case measure => simp [intOf]; omega
      · obtain rfl : k = 15 := by omega
        go_wp2
        go_ret
        exact ⟨rfl, bt HB2.out hB⟩
end Go.Proofs.YtnbfadgclffgkaaGreatDoor
/- phrase's chain where the next token is no operator. Printed by gen-par2.py. -/
namespace Go.Proofs.YtnbfadgclffgkaaGreatDoor
open Go.RowKit Go.Sort
theorem Kept.below {b : Nat} {w w' w'' : World} (h : Kept b b w w') (hb : Below w'.heap.size w' w'') (hB : b ≤ w'.heap.size) : Kept b b w w'' := h.trans (Kept.of hb hB)
theorem Kept.five {b r : Nat} {w w' : World} {u0 u1 u2 u3 u4 : Value} (h : Kept b b w w') (hr : w.heap.size ≤ r) (hb : b ≤ r) : Kept b b w (((((w'.setCell ⟨r, 0, none⟩ u0).setCell ⟨r, 1, none⟩ u1).setCell ⟨r, 2, none⟩ u2).setCell ⟨r, 3, none⟩ u3).setCell ⟨r, 4, none⟩ u4) :=
  ⟨five9 h.1 hb, fun x cs T fr hx hT hne => by
    have hlt : x < w.heap.size := by
      rcases Nat.lt_or_ge x w.heap.size with h' | h'
      · exact h'
      · simp [Array.getElem?_eq_none h'] at hx
    have hxr : x ≠ r := by omega
    rw [Below.heap_setCell _ ⟨r, 4, none⟩ _ x hxr, Below.heap_setCell _ ⟨r, 3, none⟩ _ x hxr, Below.heap_setCell _ ⟨r, 2, none⟩ _ x hxr, Below.heap_setCell _ ⟨r, 1, none⟩ _ x hxr, Below.heap_setCell _ ⟨r, 0, none⟩ _ x hxr]
    exact h.2 x cs T fr hx hT hne⟩
theorem BoxT.five {b r : Nat} {w : World} {cs : List Value} {T : TypeId} {u0 u1 u2 u3 u4 : Value} (h : BoxT w b cs T) (hne : b ≠ r) : BoxT (((((w.setCell ⟨r, 0, none⟩ u0).setCell ⟨r, 1, none⟩ u1).setCell ⟨r, 2, none⟩ u2).setCell ⟨r, 3, none⟩ u3).setCell ⟨r, 4, none⟩ u4) b cs T := by
  unfold BoxT at *
  rw [Below.heap_setCell _ ⟨r, 4, none⟩ _ b hne, Below.heap_setCell _ ⟨r, 3, none⟩ _ b hne, Below.heap_setCell _ ⟨r, 2, none⟩ _ b hne, Below.heap_setCell _ ⟨r, 1, none⟩ _ b hne, Below.heap_setCell _ ⟨r, 0, none⟩ _ b hne]
  exact h
theorem Kept.toks {b : Nat} {w w' : World} {l : List TokD} {v : Value} (h : Kept b b w w') (hl : RdL Holds.tok 5 (fun x => x < b) w l v) : RdL Holds.tok 5 (fun x => x < b) w' l v := hl.keep (fun x hx => h.1.block x hx) (fun _ h => h)
def PaQ (w : World) (b : Nat) (v : Value) (k op : Nat) (V : Value) (e : Ending) (w' : World) : Prop := e = .returned V ∧ PS w' b v k op ∧ Kept b b w w'
set_option maxRecDepth 100000 in
set_option maxHeartbeats 8000000 in
theorem chain0_calls (w : World) (b : Nat) (v : Value) (k k' op : Nat) (l : List TokD) (tight : Int) (fn : Nat) (first caps : Array Value) (e0 e1 e2 : Int) (e3 : ByteArray) (e4 : Option Addr) (e5 e6 : Nat) (hp : PS w b v k op) (hl : RdL Holds.tok 5 (fun x => x < b) w l v) (hk' : k' ≤ 100000) (ht : opNone (tokAt l k')) (htt : tight ≠ 0)
    (hcf : ∀ (args : Array Value) (w : World), (callFunc fn args).run Tryz.prog w = .ok (.enter fn args) w)
    (hn : ∀ W, Below w.heap.size w W → Calls Tryz.prog fn (first ++ caps) W (PaQ W b v k' op (.agg #[.int .i64 e0, .int .i64 e1, .int .i64 e2, .string e3, .slice e4 e5 e6]))) :
    Calls Tryz.prog 182 #[.pointer (some ⟨b, 0, none⟩), .int .i64 tight, .func (.func fn) first caps] w (PaQ w b v k' op (.agg #[.int .i64 e0, .int .i64 e1, .int .i64 e2, .string e3, .slice e4 e5 e6])) := by
  have hbl := hp.lt
  obtain ⟨W1, hW1⟩ : ∃ W1, w.alloc (.cells #[.int .i64 0, .int .i64 0, .int .i64 0, .string ⟨#[]⟩, .slice none 0 0] 73) = W1 := ⟨_, rfl⟩
  have hb1 : Below w.heap.size w W1 := by rw [← hW1]; exact (Below.refl _ _).alloc (Nat.le_refl _) _
  have hz1 : W1.heap.size = w.heap.size + 1 := by rw [← hW1]; simp
  have hr1 : BoxT W1 w.heap.size [.int .i64 0, .int .i64 0, .int .i64 0, .string ⟨#[]⟩, .slice none 0 0] 73 := by rw [← hW1]; exact BoxT.new _ _ _
  have HN := Lib.hid (hn W1 hb1)
  have HL := Lib.hid hl
  have HW1 := Lib.hid hW1
  have HB1 := Lib.hid hb1
  have HR1 := Lib.hid hr1
  have HZ1 := Lib.hid hz1
  have HT := Lib.hid ht
  have HBL := Lib.hid hbl
  have e9 : ((0 : Int) == tight) = false := by simpa using fun h => htt h.symm
  clear hn hl hW1 hb1 hr1 hz1 ht hp hbl htt
  go_enter Tryz.func182, Tryz.ntmps182
  go_upto_region 1 with fail
  rw [HW1.out]
  go_upto_region 2 with ((with_reducible refine HN.out.mono ?_); rintro e w2 ⟨rfl, hp2, hk2⟩)
  obtain ⟨w3, hw3⟩ : ∃ x, w2.alloc (.cells #[.int .i64 e0, .int .i64 e1, .int .i64 e2, .string e3, .slice e4 e5 e6] 73) = x := ⟨_, rfl⟩
  have hb3 : Below w2.heap.size w2 w3 := by rw [← hw3]; exact (Below.refl _ _).alloc (Nat.le_refl _) _
  have hx3 : BoxT w3 w2.heap.size [.int .i64 e0, .int .i64 e1, .int .i64 e2, .string e3, .slice e4 e5 e6] 73 := by rw [← hw3]; exact BoxT.new _ _ _
  rw [hw3]
  have hs2 : b ≤ w2.heap.size := Nat.le_of_lt hp2.lt
  have hk1 : Kept b b w W1 := Kept.of HB1.out (Nat.le_of_lt HBL.out)
  have hk3 := (hk1.trans hk2).below hb3 hs2
  have hp3 := PS.below hp2 hb3
  have htk := ptok_calls w3 b v k' op l hp3 (hk3.toks HL.out) hk'
  have hr3 := (HR1.out.keep hk2 (by decide) (by have := HBL.out; omega)).below hb3
  obtain ⟨r2, hr2⟩ : ∃ r, w2.heap.size = r := ⟨_, rfl⟩
  have hrr : w.heap.size < r2 := by rw [← hr2]; exact (HR1.out.keep hk2 (by decide) (by have := HBL.out; omega)).lt
  rw [hr2] at hx3 ⊢
  have hlt3 : r2 < w3.heap.size := hx3.lt
  have HTK := Lib.hid htk
  generalize tokAt l k' = t at HT HTK
  obtain ⟨t0, t1, t2, t3, t4⟩ := t
  have HTK := Lib.hid (show Calls Tryz.prog 194 #[.pointer (some ⟨b, 0, none⟩)] w3 (Gives w3 (.agg #[.int .i64 t0, .string t1, .int .i64 t2, .int .i64 t3, .int .i64 t4])) from HTK.out)
  have HX3 := Lib.hid hx3
  have HR3 := Lib.hid hr3
  have HP3 := Lib.hid hp3
  have HK3 := Lib.hid hk3
  clear hx3 hr3 hp3 hk3 hk1 hk2 hp2 htk hb3 hw3 hr2 hs2
  go_upto_region 3 with ((go_at_call 194; (with_reducible refine HTK.out.mono ?_)); rintro e w4 ⟨rfl, hb4⟩)
  obtain ⟨w5, hw5⟩ : ∃ x, w4.alloc (.cells #[.int .i64 t0, .string t1, .int .i64 t2, .int .i64 t3, .int .i64 t4] 53) = x := ⟨_, rfl⟩
  rw [hw5]
  have hb5 : Below w3.heap.size w3 w5 := by rw [← hw5]; exact hb4.alloc hb4.size _
  have hx5 : BoxT w5 w4.heap.size [.int .i64 t0, .string t1, .int .i64 t2, .int .i64 t3, .int .i64 t4] 53 := by rw [← hw5]; exact BoxT.new _ _ _
  have HOP := Lib.hid (fun W => pop_calls W ⟨t0, t1, t2, t3, t4⟩ HT.out)
  have HOP := Lib.hid (show ∀ W, Calls Tryz.prog 195 #[.agg #[.int .i64 t0, .string t1, .int .i64 t2, .int .i64 t3, .int .i64 t4]] W (Gives W (.int .i64 0)) from HOP.out)
  have HLV := Lib.hid (fun W => (show Calls Tryz.prog 87 #[.int .i64 0] W (Gives W (.int .i64 0)) from level_calls 0 W))
  have HB5 := Lib.hid hb5
  have HX5 := Lib.hid hx5
  clear hb5 hb4 hw5
  go_loopw [8] (fun u wr => u = .pointer (some ⟨w4.heap.size, 0, none⟩) ∧ wr = w5) (fun _ _ => 0)
  case atStart => exact ⟨rfl, rfl⟩
  case round =>
    obtain ⟨rfl, rfl⟩ := hrel
    have y0 := hx5.cell 0
    have y1 := hx5.cell 1
    have y2 := hx5.cell 2
    have y3 := hx5.cell 3
    have y4 := hx5.cell 4
    simp only [cqs, cqz] at y0 y1 y2 y3 y4
    clear hx5
    go_upto_region 9 with (first | (go_at_call 195; (with_reducible refine (HOP.out _).mono ?_); rintro e w6 ⟨rfl, hb6⟩) | (go_at_call 87; (with_reducible refine (HLV.out _).mono ?_); rintro e w7 ⟨rfl, hb7⟩))
    have hb7 : Below w3.heap.size w3 w7 := HB5.out.trans ((bt hb6 hb7).mono HB5.out.size)
    have hx7 := HX3.out.below hb7
    have hr7 := HR3.out.below hb7
    have hp7 := PS.below HP3.out hb7
    have hk7 := HK3.out.below hb7 (by have := HP3.out.lt; omega)
    have g0 := hx7.cell 0
    have g1 := hx7.cell 1
    have g2 := hx7.cell 2
    have g3 := hx7.cell 3
    have g4 := hx7.cell 4
    simp only [cqs, cqz] at g0 g1 g2 g3 g4
    have q0 := hr7.cell 0
    have q1 := hr7.cell 1
    have q2 := hr7.cell 2
    have q3 := hr7.cell 3
    have q4 := hr7.cell 4
    simp only [cqs, cqz] at q0 q1 q2 q3 q4
    have f0 := Lib.frozen_of_heap hr7 0
    have f1 := Lib.frozen_of_heap hr7 1
    have f2 := Lib.frozen_of_heap hr7 2
    have f3 := Lib.frozen_of_heap hr7 3
    have f4 := Lib.frozen_of_heap hr7 4
    have HP7 := Lib.hid hp7
    have HK7 := Lib.hid hk7
    clear hb7 hx7 hr7 hp7 hk7 hb6
    go_wp2
    (try simp only [Exit.inBlock, Exit.then])
    exact bodyPost_ret (v := .agg #[.int .i64 e0, .int .i64 e1, .int .i64 e2, .string e3, .slice e4 e5 e6]) (by simp [results, Tryz.results182, go_sem, q0, q1, q2, q3, q4]) rfl ⟨rfl, BoxT.five HP7.out (Nat.ne_of_lt HBL.out), HK7.out.five (Nat.le_refl _) (Nat.le_of_lt HBL.out)⟩
end Go.Proofs.YtnbfadgclffgkaaGreatDoor
/- phrase's dots, minus and not, where no such sign stands. Printed by gen-par3.py. -/
namespace Go.Proofs.YtnbfadgclffgkaaGreatDoor
open Go.RowKit Go.Sort
def Reads (fn b : Nat) (v : Value) (l : List TokD) (k k' op : Nat) (V : Value) : Prop := ∀ W, PS W b v k op → RdL Holds.tok 5 (fun x => x < b) W l v → Calls Tryz.prog fn #[.pointer (some ⟨b, 0, none⟩)] W (PaQ W b v k' op V)
set_option maxRecDepth 100000 in
set_option maxHeartbeats 4000000 in
theorem minus0_calls (b : Nat) (v : Value) (k k' op : Nat) (l : List TokD) (e0 e1 e2 : Int) (e3 : ByteArray) (e4 : Option Addr) (e5 e6 : Nat) (hk : k ≤ 100000) (hno : isT (tokAt l k) ⟨#[45]⟩ = false) (hd : Reads 212 b v l k k' op (.agg #[.int .i64 e0, .int .i64 e1, .int .i64 e2, .string e3, .slice e4 e5 e6])) : Reads 210 b v l k k' op (.agg #[.int .i64 e0, .int .i64 e1, .int .i64 e2, .string e3, .slice e4 e5 e6]) := by
  intro w hp hl
  have hbl := hp.lt
  obtain ⟨W1, hW1⟩ : ∃ W1, w.alloc (.cells #[.pointer (some ⟨b, 0, none⟩)] 174) = W1 := ⟨_, rfl⟩
  obtain ⟨W2, hW2⟩ : ∃ W2, W1.alloc (.cells #[.int .i64 0, .int .i64 0, .int .i64 0, .string ⟨#[]⟩, .slice none 0 0] 73) = W2 := ⟨_, rfl⟩
  have hz1 : W1.heap.size = w.heap.size + 1 := by rw [← hW1]; simp
  have hb1 : Below w.heap.size w W1 := by rw [← hW1]; exact (Below.refl _ _).alloc (Nat.le_refl _) _
  have hb2 : Below W1.heap.size W1 W2 := by rw [← hW2]; exact (Below.refl _ _).alloc (Nat.le_refl _) _
  have hx1 : BoxT W1 w.heap.size [.pointer (some ⟨b, 0, none⟩)] 174 := by rw [← hW1]; exact BoxT.new _ _ _
  have hx1 := hx1.below hb2
  have hr2 : BoxT W2 W1.heap.size [.int .i64 0, .int .i64 0, .int .i64 0, .string ⟨#[]⟩, .slice none 0 0] 73 := by rw [← hW2]; exact BoxT.new _ _ _
  rw [hz1] at hr2
  have hk2 : Kept b b w W2 := (Kept.of hb1 (Nat.le_of_lt hbl)).below hb2 (by omega)
  have hp2 := PS.below (PS.below hp hb1) hb2
  have y0 := hx1.cell 0
  simp only [cqz] at y0
  have HTK := Lib.hid (ptok_calls W2 b v k op l hp2 (hk2.toks hl) hk)
  have HIS := Lib.hid (fun W (h : Below W2.heap.size W2 W) => pis_calls W b v k op l ⟨#[45]⟩ (PS.below hp2 h) ((hk2.below h (Nat.le_of_lt hp2.lt)).toks hl) hk)
  rw [hno] at HIS
  have HRD := Lib.hid (fun W (h : Below W2.heap.size W2 W) => hd W (PS.below hp2 h) ((hk2.below h (Nat.le_of_lt hp2.lt)).toks hl))
  generalize tokAt l k = t at HTK
  obtain ⟨t0, t1, t2, t3, t4⟩ := t
  have HTK := Lib.hid (show Calls Tryz.prog 194 #[.pointer (some ⟨b, 0, none⟩)] W2 (Gives W2 (.agg #[.int .i64 t0, .string t1, .int .i64 t2, .int .i64 t3, .int .i64 t4])) from HTK.out)
  have HX := Lib.hid hx1
  have HR := Lib.hid hr2
  have HK := Lib.hid hk2
  have HP := Lib.hid hp2
  have HW1 := Lib.hid hW1
  have HW2 := Lib.hid hW2
  have HBL := Lib.hid hbl
  clear hno hd hp hl hz1 hb1 hb2 hx1 hr2 hk2 hp2 hW1 hW2 hbl hk
  go_enter Tryz.func210, Tryz.ntmps210
  go_upto_region 1 with fail
  rw [HW1.out, HW2.out]
  go_upto_region 2 with (go_at_call 194; (with_reducible refine HTK.out.mono ?_); rintro e w3 ⟨rfl, hb3⟩)
  obtain ⟨w4, hw4⟩ : ∃ x, w3.alloc (.cells #[.int .i64 t0, .string t1, .int .i64 t2, .int .i64 t3, .int .i64 t4] 53) = x := ⟨_, rfl⟩
  rw [hw4]
  have hb4 : Below W2.heap.size W2 w4 := by rw [← hw4]; exact hb3.alloc hb3.size _
  have y1 := (HX.out.below hb4).cell 0
  simp only [cqz] at y1
  have HB4 := Lib.hid hb4
  clear y0 hb3 hw4 hb4
  go_upto_region 3 with (go_at_call 197; (with_reducible refine (HIS.out _ HB4.out).mono ?_); rintro e w5 ⟨rfl, hb5⟩; have hb5 := bt HB4.out hb5)
  have y2 := (HX.out.below hb5).cell 0
  simp only [cqz] at y2
  have HB5 := Lib.hid hb5
  clear y1 hb5
  have hrr := HBL.out
  go_wp2_with (go_at_call 212; (with_reducible refine (HRD.out _ HB5.out).mono ?_); rintro e w6 ⟨rfl, hp6, hk6⟩; have hr6 := (HR.out.below HB5.out).keep hk6 (by decide) (by omega); have q0 := hr6.cell 0; have q1 := hr6.cell 1; have q2 := hr6.cell 2; have q3 := hr6.cell 3; have q4 := hr6.cell 4; simp only [cqs, cqz] at q0 q1 q2 q3 q4; have f0 := Lib.frozen_of_heap hr6 0; have f1 := Lib.frozen_of_heap hr6 1; have f2 := Lib.frozen_of_heap hr6 2; have f3 := Lib.frozen_of_heap hr6 3; have f4 := Lib.frozen_of_heap hr6 4)
  (try simp only [Exit.inBlock, Exit.then])
  exact bodyPost_ret (v := .agg #[.int .i64 e0, .int .i64 e1, .int .i64 e2, .string e3, .slice e4 e5 e6]) (by simp [results, Tryz.results210, go_sem, q0, q1, q2, q3, q4]) rfl ⟨rfl, BoxT.five hp6 (by omega), ((HK.out.below HB5.out (Nat.le_of_lt HP.out.lt)).trans hk6).five (by omega) (by omega)⟩
set_option maxRecDepth 100000 in
set_option maxHeartbeats 4000000 in
theorem not0_calls (b : Nat) (v : Value) (k k' op : Nat) (l : List TokD) (e0 e1 e2 : Int) (e3 : ByteArray) (e4 : Option Addr) (e5 e6 : Nat) (hk : k ≤ 100000) (hno : isT (tokAt l k) ⟨#[110, 111, 116]⟩ = false) (hd : Reads 198 b v l k k' op (.agg #[.int .i64 e0, .int .i64 e1, .int .i64 e2, .string e3, .slice e4 e5 e6])) : Reads 184 b v l k k' op (.agg #[.int .i64 e0, .int .i64 e1, .int .i64 e2, .string e3, .slice e4 e5 e6]) := by
  intro w hp hl
  have hbl := hp.lt
  obtain ⟨W1, hW1⟩ : ∃ W1, w.alloc (.cells #[.pointer (some ⟨b, 0, none⟩)] 174) = W1 := ⟨_, rfl⟩
  obtain ⟨W2, hW2⟩ : ∃ W2, W1.alloc (.cells #[.int .i64 0, .int .i64 0, .int .i64 0, .string ⟨#[]⟩, .slice none 0 0] 73) = W2 := ⟨_, rfl⟩
  have hz1 : W1.heap.size = w.heap.size + 1 := by rw [← hW1]; simp
  have hb1 : Below w.heap.size w W1 := by rw [← hW1]; exact (Below.refl _ _).alloc (Nat.le_refl _) _
  have hb2 : Below W1.heap.size W1 W2 := by rw [← hW2]; exact (Below.refl _ _).alloc (Nat.le_refl _) _
  have hx1 : BoxT W1 w.heap.size [.pointer (some ⟨b, 0, none⟩)] 174 := by rw [← hW1]; exact BoxT.new _ _ _
  have hx1 := hx1.below hb2
  have hr2 : BoxT W2 W1.heap.size [.int .i64 0, .int .i64 0, .int .i64 0, .string ⟨#[]⟩, .slice none 0 0] 73 := by rw [← hW2]; exact BoxT.new _ _ _
  rw [hz1] at hr2
  have hk2 : Kept b b w W2 := (Kept.of hb1 (Nat.le_of_lt hbl)).below hb2 (by omega)
  have hp2 := PS.below (PS.below hp hb1) hb2
  have y0 := hx1.cell 0
  simp only [cqz] at y0
  have HTK := Lib.hid (ptok_calls W2 b v k op l hp2 (hk2.toks hl) hk)
  have HIS := Lib.hid (fun W (h : Below W2.heap.size W2 W) => pis_calls W b v k op l ⟨#[110, 111, 116]⟩ (PS.below hp2 h) ((hk2.below h (Nat.le_of_lt hp2.lt)).toks hl) hk)
  rw [hno] at HIS
  have HRD := Lib.hid (fun W (h : Below W2.heap.size W2 W) => hd W (PS.below hp2 h) ((hk2.below h (Nat.le_of_lt hp2.lt)).toks hl))
  generalize tokAt l k = t at HTK
  obtain ⟨t0, t1, t2, t3, t4⟩ := t
  have HTK := Lib.hid (show Calls Tryz.prog 194 #[.pointer (some ⟨b, 0, none⟩)] W2 (Gives W2 (.agg #[.int .i64 t0, .string t1, .int .i64 t2, .int .i64 t3, .int .i64 t4])) from HTK.out)
  have HX := Lib.hid hx1
  have HR := Lib.hid hr2
  have HK := Lib.hid hk2
  have HP := Lib.hid hp2
  have HW1 := Lib.hid hW1
  have HW2 := Lib.hid hW2
  have HBL := Lib.hid hbl
  clear hno hd hp hl hz1 hb1 hb2 hx1 hr2 hk2 hp2 hW1 hW2 hbl hk
  go_enter Tryz.func184, Tryz.ntmps184
  go_upto_region 1 with fail
  rw [HW1.out, HW2.out]
  go_upto_region 2 with (go_at_call 194; (with_reducible refine HTK.out.mono ?_); rintro e w3 ⟨rfl, hb3⟩)
  obtain ⟨w4, hw4⟩ : ∃ x, w3.alloc (.cells #[.int .i64 t0, .string t1, .int .i64 t2, .int .i64 t3, .int .i64 t4] 53) = x := ⟨_, rfl⟩
  rw [hw4]
  have hb4 : Below W2.heap.size W2 w4 := by rw [← hw4]; exact hb3.alloc hb3.size _
  have y1 := (HX.out.below hb4).cell 0
  simp only [cqz] at y1
  have HB4 := Lib.hid hb4
  clear y0 hb3 hw4 hb4
  go_upto_region 3 with (go_at_call 197; (with_reducible refine (HIS.out _ HB4.out).mono ?_); rintro e w5 ⟨rfl, hb5⟩; have hb5 := bt HB4.out hb5)
  have y2 := (HX.out.below hb5).cell 0
  simp only [cqz] at y2
  have HB5 := Lib.hid hb5
  clear y1 hb5
  have hrr := HBL.out
  go_wp2_with (go_at_call 198; (with_reducible refine (HRD.out _ HB5.out).mono ?_); rintro e w6 ⟨rfl, hp6, hk6⟩; have hr6 := (HR.out.below HB5.out).keep hk6 (by decide) (by omega); have q0 := hr6.cell 0; have q1 := hr6.cell 1; have q2 := hr6.cell 2; have q3 := hr6.cell 3; have q4 := hr6.cell 4; simp only [cqs, cqz] at q0 q1 q2 q3 q4; have f0 := Lib.frozen_of_heap hr6 0; have f1 := Lib.frozen_of_heap hr6 1; have f2 := Lib.frozen_of_heap hr6 2; have f3 := Lib.frozen_of_heap hr6 3; have f4 := Lib.frozen_of_heap hr6 4)
  (try simp only [Exit.inBlock, Exit.then])
  exact bodyPost_ret (v := .agg #[.int .i64 e0, .int .i64 e1, .int .i64 e2, .string e3, .slice e4 e5 e6]) (by simp [results, Tryz.results184, go_sem, q0, q1, q2, q3, q4]) rfl ⟨rfl, BoxT.five hp6 (by omega), ((HK.out.below HB5.out (Nat.le_of_lt HP.out.lt)).trans hk6).five (by omega) (by omega)⟩
set_option maxRecDepth 100000 in
set_option maxHeartbeats 4000000 in
theorem dots0_calls (b : Nat) (v : Value) (k k' op : Nat) (l : List TokD) (e0 e1 e2 : Int) (e3 : ByteArray) (e4 : Option Addr) (e5 e6 : Nat) (hk : k' ≤ 100000) (hno : isT (tokAt l k') ⟨#[46]⟩ = false) (hd : Reads 215 b v l k k' op (.agg #[.int .i64 e0, .int .i64 e1, .int .i64 e2, .string e3, .slice e4 e5 e6])) : Reads 212 b v l k k' op (.agg #[.int .i64 e0, .int .i64 e1, .int .i64 e2, .string e3, .slice e4 e5 e6]) := by
  intro w hp hl
  have hbl := hp.lt
  obtain ⟨W1, hW1⟩ : ∃ W1, w.alloc (.cells #[.int .i64 0, .int .i64 0, .int .i64 0, .string ⟨#[]⟩, .slice none 0 0] 73) = W1 := ⟨_, rfl⟩
  have hb1 : Below w.heap.size w W1 := by rw [← hW1]; exact (Below.refl _ _).alloc (Nat.le_refl _) _
  have hr1 : BoxT W1 w.heap.size [.int .i64 0, .int .i64 0, .int .i64 0, .string ⟨#[]⟩, .slice none 0 0] 73 := by rw [← hW1]; exact BoxT.new _ _ _
  have hk1 : Kept b b w W1 := Kept.of hb1 (Nat.le_of_lt hbl)
  have hp1 := PS.below hp hb1
  have HRD := Lib.hid (hd W1 hp1 (hk1.toks hl))
  have HL := Lib.hid hl
  have HR := Lib.hid hr1
  have HK := Lib.hid hk1
  have HW1 := Lib.hid hW1
  have HBL := Lib.hid hbl
  have HNO := Lib.hid hno
  clear hno hd hp hl hb1 hr1 hk1 hp1 hW1 hbl
  go_enter Tryz.func212, Tryz.ntmps212
  go_upto_region 1 with fail
  rw [HW1.out]
  go_upto_region 2 with (go_at_call 215; (with_reducible refine HRD.out.mono ?_); rintro e w2 ⟨rfl, hp2, hk2⟩)
  obtain ⟨w3, hw3⟩ : ∃ x, w2.alloc (.cells #[.int .i64 e0, .int .i64 e1, .int .i64 e2, .string e3, .slice e4 e5 e6] 73) = x := ⟨_, rfl⟩
  have hb3 : Below w2.heap.size w2 w3 := by rw [← hw3]; exact (Below.refl _ _).alloc (Nat.le_refl _) _
  have hx3 : BoxT w3 w2.heap.size [.int .i64 e0, .int .i64 e1, .int .i64 e2, .string e3, .slice e4 e5 e6] 73 := by rw [← hw3]; exact BoxT.new _ _ _
  rw [hw3]
  have hk3 := (HK.out.trans hk2).below hb3 (Nat.le_of_lt hp2.lt)
  have hp3 := PS.below hp2 hb3
  have his := pis_calls w3 b v k' op l ⟨#[46]⟩ hp3 (hk3.toks HL.out) hk
  rw [HNO.out] at his
  have hr3 := (HR.out.keep hk2 (by decide) (by have := HBL.out; omega)).below hb3
  have HIS := Lib.hid his
  have HX3 := Lib.hid hx3
  have HR3 := Lib.hid hr3
  have HP3 := Lib.hid hp3
  have HK3 := Lib.hid hk3
  clear hx3 hr3 hp3 hk3 hk2 hp2 his hb3 hw3
  go_loopw [4] (fun u wr => wr = w3) (fun _ _ => 0)
  case atStart => exact rfl
  case round =>
    subst hrel
    go_upto_region 6 with (go_at_call 197; (with_reducible refine HIS.out.mono ?_); rintro e w4 ⟨rfl, hb4⟩)
    have hx4 := HX3.out.below hb4
    have hr6 := HR3.out.below hb4
    have hp4 := PS.below HP3.out hb4
    have hk4 := HK3.out.below hb4 (Nat.le_of_lt HP3.out.lt)
    have g0 := hx4.cell 0
    have g1 := hx4.cell 1
    have g2 := hx4.cell 2
    have g3 := hx4.cell 3
    have g4 := hx4.cell 4
    simp only [cqs, cqz] at g0 g1 g2 g3 g4
    have q0 := hr6.cell 0; have q1 := hr6.cell 1; have q2 := hr6.cell 2; have q3 := hr6.cell 3; have q4 := hr6.cell 4; simp only [cqs, cqz] at q0 q1 q2 q3 q4; have f0 := Lib.frozen_of_heap hr6 0; have f1 := Lib.frozen_of_heap hr6 1; have f2 := Lib.frozen_of_heap hr6 2; have f3 := Lib.frozen_of_heap hr6 3; have f4 := Lib.frozen_of_heap hr6 4
    have HP4 := Lib.hid hp4
    have HK4 := Lib.hid hk4
    clear hx4 hr6 hp4 hk4 hb4
    go_wp2
    (try simp only [Exit.inBlock, Exit.then])
    exact bodyPost_ret (v := .agg #[.int .i64 e0, .int .i64 e1, .int .i64 e2, .string e3, .slice e4 e5 e6]) (by simp [results, Tryz.results212, go_sem, q0, q1, q2, q3, q4]) rfl ⟨rfl, BoxT.five HP4.out (Nat.ne_of_lt HBL.out), HK4.out.five (Nat.le_refl _) (Nat.le_of_lt HBL.out)⟩
end Go.Proofs.YtnbfadgclffgkaaGreatDoor
