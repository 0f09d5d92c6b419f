/- clause's parser on one path: the token so many behind the place, a sign, a word, must. Printed by gen-par8.py. -/
import Derived.Test.YtnbfadgclffgkaaGreatDoorPartc4ea98e4
namespace Go.Proofs.YtnbfadgclffgkaaGreatDoor
open Go.RowKit Go.Sort
def CS (w : World) (b : Nat) (v : Value) (k own : Nat) : Prop := BoxT w b [v, .int .i64 k, .int .i64 own] 86
theorem CS.cells {w : World} {b : Nat} {v : Value} {k op : Nat} (h : CS w b v k op) : w.cell? ⟨b, 0, none⟩ = some v ∧ w.cell? ⟨b, 1, none⟩ = some (.int .i64 k) ∧ w.cell? ⟨b, 2, none⟩ = some (.int .i64 op) :=
  ⟨BoxT.cell h 0, BoxT.cell h 1, BoxT.cell h 2⟩
theorem CS.below {w w' : World} {b : Nat} {v : Value} {k op : Nat} (h : CS w b v k op) (hb : Below w.heap.size w w') : CS w' b v k op := BoxT.below h hb
noncomputable def isK (c : Int) (t : TokD) (s : ByteArray) : Bool := decide (t.kind = c) && dec (t.text = s)
set_option maxRecDepth 100000 in
set_option maxHeartbeats 4000000 in
theorem ctok_calls (w : World) (b : Nat) (v : Value) (k own i : Nat) (l : List TokD) (hp : CS w b v k own) (hl : RdL Holds.tok 5 (fun x => x < b) w l v) (hk : k + i ≤ 100000) : Calls Tryz.prog 98 #[.pointer (some ⟨b, 0, none⟩), .int .i64 i] w (Gives w (tokAt l (k + i)).val) := by
  obtain ⟨a, cap, rfl, hn, hc, ha⟩ := hl.opn
  unfold maxLen at hc
  have hk0 : (0 : Int) ≤ (k : Int) + (i : Int) := by omega
  obtain ⟨W1, hW1⟩ : ∃ W1, w.alloc (.cells #[.int .i64 0, .string ⟨#[]⟩, .int .i64 0, .int .i64 0, .int .i64 0] 53) = W1 := ⟨_, rfl⟩
  have hb1 : Below w.heap.size w W1 := by rw [← hW1]; exact (Below.refl _ _).alloc (Nat.le_refl _) _
  have hx1 : BoxT W1 w.heap.size [.int .i64 0, .string ⟨#[]⟩, .int .i64 0, .int .i64 0, .int .i64 0] 53 := by rw [← hW1]; exact BoxT.new _ _ _
  obtain ⟨y0, y1, y2⟩ := (CS.below hp hb1).cells
  have q0 := hx1.cell 0
  have q1 := hx1.cell 1
  have q2 := hx1.cell 2
  have q3 := hx1.cell 3
  have q4 := hx1.cell 4
  simp only [cqs, cqz] at q0 q1 q2 q3 q4
  have f0 := Lib.frozen_of_heap hx1 0
  have f1 := Lib.frozen_of_heap hx1 1
  have f2 := Lib.frozen_of_heap hx1 2
  have f3 := Lib.frozen_of_heap hx1 3
  have f4 := Lib.frozen_of_heap hx1 4
  have HW1 := Lib.hid hW1
  have HB1 := Lib.hid hb1
  by_cases hlt : k + i < l.length
  · have hki : (k : Int) + (i : Int) < (l.length : Int) := by omega
    obtain ⟨b2, off, rfl, hFb, hel⟩ := ha (by omega)
    have hb2 : b2 < w.heap.size := Nat.lt_trans hFb hp.lt
    obtain ⟨cs, ⟨-, rfl⟩, -, hcell⟩ := hel W1 (hb1.block b2 hb2) (k + i) hlt
    have e : tokAt l (k + i) = l[k + i] := by unfold tokAt; rw [List.getD_eq_getElem?_getD, List.getElem?_eq_getElem hlt]; rfl
    rw [e]
    generalize l[k + i] = t at hcell
    obtain ⟨t0, t1, t2, t3, t4⟩ := t
    have g0 := hcell 0 _ rfl
    have g1 := hcell 1 _ rfl
    have g2 := hcell 2 _ rfl
    have g3 := hcell 3 _ rfl
    have g4 := hcell 4 _ rfl
    simp only [Nat.add_zero] at g0
    show Calls Tryz.prog 98 #[.pointer (some ⟨b, 0, none⟩), .int .i64 i] w (Gives w (.agg #[.int .i64 t0, .string t1, .int .i64 t2, .int .i64 t3, .int .i64 t4]))
    clear hel hcell ha hl hp hb1 hx1 hW1 e
    go_enter Tryz.func98, Tryz.ntmps98
    go_upto_region 1 with fail
    rw [HW1.out]
    go_quiet (fail)
    go_upto_region 2 with fail
    go_region
    go_wp2
    (try simp only [Exit.inBlock, Exit.then])
    exact bodyPost_ret (v := .agg #[.int .i64 t0, .string t1, .int .i64 t2, .int .i64 t3, .int .i64 t4]) (by simp [results, Tryz.results98, go_sem, q0, q1, q2, q3, q4]) rfl ⟨rfl, five9 (bdN HB1.out) (Nat.le_refl _)⟩
  · have hki : ¬ (k : Int) + (i : Int) < (l.length : Int) := by omega
    have e : tokAt l (k + i) = tokZ := by unfold tokAt; rw [List.getD_eq_getElem?_getD, List.getElem?_eq_none (by omega)]; rfl
    rw [e]
    show Calls Tryz.prog 98 #[.pointer (some ⟨b, 0, none⟩), .int .i64 i] w (Gives w (.agg #[.int .i64 0, .string ⟨#[]⟩, .int .i64 0, .int .i64 0, .int .i64 0]))
    clear ha hl hp hb1 hx1 hW1 e
    go_enter Tryz.func98, Tryz.ntmps98
    go_upto_region 1 with fail
    rw [HW1.out]
    go_quiet (fail)
    go_wp2
    (try simp only [Exit.inBlock, Exit.then])
    exact bodyPost_ret (v := .agg #[.int .i64 0, .string ⟨#[]⟩, .int .i64 0, .int .i64 0, .int .i64 0]) (by simp [results, Tryz.results98, go_sem, q0, q1, q2, q3, q4]) rfl ⟨rfl, five9 (bdN HB1.out) (Nat.le_refl _)⟩
set_option maxRecDepth 100000 in
set_option maxHeartbeats 4000000 in
theorem csign_calls (w : World) (b : Nat) (v : Value) (k own i : Nat) (l : List TokD) (s : ByteArray) (hp : CS w b v k own) (hl : RdL Holds.tok 5 (fun x => x < b) w l v) (hk : k + i ≤ 100000) : Calls Tryz.prog 67 #[.pointer (some ⟨b, 0, none⟩), .int .i64 i, .string s] w (Gives w (.bool (isK 5 (tokAt l (k + i)) s))) := by
  have hc := ctok_calls w b v k own i l hp hl hk
  generalize tokAt l (k + i) = t at hc ⊢
  obtain ⟨t0, t1, t2, t3, t4⟩ := t
  have hfin : Hid (isK 5 ⟨t0, t1, t2, t3, t4⟩ s = (decide (t0 = 5) && (t1.toList == s.toList))) := by show _ = _; rw [eqStr]; rfl
  have HC := Lib.hid (show Calls Tryz.prog 98 #[.pointer (some ⟨b, 0, none⟩), .int .i64 i] w (Gives w (.agg #[.int .i64 t0, .string t1, .int .i64 t2, .int .i64 t3, .int .i64 t4])) from hc)
  generalize isK 5 ⟨t0, t1, t2, t3, t4⟩ s = R at hfin ⊢
  clear hc hp hl hk
  go_enter Tryz.func67, Tryz.ntmps67
  go_upto_region 2 with (go_at_call 98; (with_reducible refine HC.out.mono ?_); rintro e w1 ⟨rfl, hb1⟩)
  obtain ⟨w2, hw2⟩ : ∃ x, w1.alloc (.cells #[.int .i64 t0, .string t1, .int .i64 t2, .int .i64 t3, .int .i64 t4] 53) = x := ⟨_, rfl⟩
  have hb2 : Below w.heap.size w w2 := by rw [← hw2]; exact hb1.alloc hb1.size _
  have hx2 : BoxT w2 w1.heap.size [.int .i64 t0, .string t1, .int .i64 t2, .int .i64 t3, .int .i64 t4] 53 := by rw [← hw2]; exact BoxT.new _ _ _
  rw [hw2]
  have q0 := hx2.cell 0
  have q1 := hx2.cell 1
  have q2 := hx2.cell 2
  have q3 := hx2.cell 3
  have q4 := hx2.cell 4
  simp only [cqs, cqz] at q0 q1 q2 q3 q4
  have HB2 := Lib.hid hb2
  clear hb2 hx2 hw2 hb1
  by_cases h4 : t0 = 5
  · have e4 : (t0 == 5) = true := by simpa using h4
    have hR : Hid (R = (t1.toList == s.toList)) := by show _ = _; rw [hfin.out, decide_eq_true h4]; simp
    clear h4 hfin
    go_wp2
    go_ret
    exact ⟨ret_bool hR.out.symm, HB2.out⟩
  have e4 : (t0 == 5) = false := by simpa using h4
  have hR : Hid (R = false) := by show _ = _; rw [hfin.out, decide_eq_false h4]; rfl
  clear h4 hfin
  go_wp2
  go_ret
  exact ⟨ret_bool hR.out.symm, HB2.out⟩
set_option maxRecDepth 100000 in
set_option maxHeartbeats 4000000 in
theorem cword_calls (w : World) (b : Nat) (v : Value) (k own i : Nat) (l : List TokD) (s : ByteArray) (hp : CS w b v k own) (hl : RdL Holds.tok 5 (fun x => x < b) w l v) (hk : k + i ≤ 100000) : Calls Tryz.prog 164 #[.pointer (some ⟨b, 0, none⟩), .int .i64 i, .string s] w (Gives w (.bool (isK 4 (tokAt l (k + i)) s))) := by
  have hc := ctok_calls w b v k own i l hp hl hk
  generalize tokAt l (k + i) = t at hc ⊢
  obtain ⟨t0, t1, t2, t3, t4⟩ := t
  have hfin : Hid (isK 4 ⟨t0, t1, t2, t3, t4⟩ s = (decide (t0 = 4) && (t1.toList == s.toList))) := by show _ = _; rw [eqStr]; rfl
  have HC := Lib.hid (show Calls Tryz.prog 98 #[.pointer (some ⟨b, 0, none⟩), .int .i64 i] w (Gives w (.agg #[.int .i64 t0, .string t1, .int .i64 t2, .int .i64 t3, .int .i64 t4])) from hc)
  generalize isK 4 ⟨t0, t1, t2, t3, t4⟩ s = R at hfin ⊢
  clear hc hp hl hk
  go_enter Tryz.func164, Tryz.ntmps164
  go_upto_region 2 with (go_at_call 98; (with_reducible refine HC.out.mono ?_); rintro e w1 ⟨rfl, hb1⟩)
  obtain ⟨w2, hw2⟩ : ∃ x, w1.alloc (.cells #[.int .i64 t0, .string t1, .int .i64 t2, .int .i64 t3, .int .i64 t4] 53) = x := ⟨_, rfl⟩
  have hb2 : Below w.heap.size w w2 := by rw [← hw2]; exact hb1.alloc hb1.size _
  have hx2 : BoxT w2 w1.heap.size [.int .i64 t0, .string t1, .int .i64 t2, .int .i64 t3, .int .i64 t4] 53 := by rw [← hw2]; exact BoxT.new _ _ _
  rw [hw2]
  have q0 := hx2.cell 0
  have q1 := hx2.cell 1
  have q2 := hx2.cell 2
  have q3 := hx2.cell 3
  have q4 := hx2.cell 4
  simp only [cqs, cqz] at q0 q1 q2 q3 q4
  have HB2 := Lib.hid hb2
  clear hb2 hx2 hw2 hb1
  by_cases h4 : t0 = 4
  · have e4 : (t0 == 4) = true := by simpa using h4
    have hR : Hid (R = (t1.toList == s.toList)) := by show _ = _; rw [hfin.out, decide_eq_true h4]; simp
    clear h4 hfin
    go_wp2
    go_ret
    exact ⟨ret_bool hR.out.symm, HB2.out⟩
  have e4 : (t0 == 4) = false := by simpa using h4
  have hR : Hid (R = false) := by show _ = _; rw [hfin.out, decide_eq_false h4]; rfl
  clear h4 hfin
  go_wp2
  go_ret
  exact ⟨ret_bool hR.out.symm, HB2.out⟩
set_option maxRecDepth 100000 in
set_option maxHeartbeats 4000000 in
theorem cmust_calls (w : World) (b : Nat) (v : Value) (k own : Nat) (l : List TokD) (s : ByteArray) (hk : k ≤ 1000) (hyes : isK 5 (tokAt l k) s = true) (hp : CS w b v k own) (hl : RdL Holds.tok 5 (fun x => x < b) w l v) : Calls Tryz.prog 68 #[.pointer (some ⟨b, 0, none⟩), .string s] w (fun e w' => e = .returned (.tuple #[]) ∧ CS w' b v (k + 1) own ∧ Kept b b w w') := by
  have hc := csign_calls w b v k own 0 l s hp hl (by omega)
  rw [show k + 0 = k from rfl, hyes] at hc
  have HC := Lib.hid (show Calls Tryz.prog 67 #[.pointer (some ⟨b, 0, none⟩), .int .i64 0, .string s] w (Gives w (.bool true)) from hc)
  have HP := Lib.hid hp
  clear hc hp hl hyes
  go_enter Tryz.func68, Tryz.ntmps68
  go_upto_region 2 with (go_at_call 67; (with_reducible refine HC.out.mono ?_); rintro e w1 ⟨rfl, hb1⟩)
  have hp1 := CS.below HP.out hb1
  have hk1 : Kept b b w w1 := Kept.of hb1 (Nat.le_of_lt HP.out.lt)
  obtain ⟨z0, z1, z2⟩ := hp1.cells
  have f1 := Lib.frozen_of_heap hp1 1
  have HP1 := Lib.hid hp1
  have HK1 := Lib.hid hk1
  clear hp1 hk1 hb1
  go_wp2
  (try simp only [Exit.inBlock, Exit.then])
  refine bodyPost_end (v := .tuple #[]) (by simp [results, Tryz.results68, go_sem]) rfl ⟨rfl, ?_, HK1.out.atB⟩
  have e : ((k + 1 : Nat) : Int) = (k : Int) + 1 := by omega
  rw [CS, e]
  exact BoxT.at1 HP1.out
end Go.Proofs.YtnbfadgclffgkaaGreatDoor
/- slices.Contains at a literal list of texts; clause's calls, primary, begins. Printed by gen-par9.py. -/
namespace Go.Proofs.YtnbfadgclffgkaaGreatDoor
open Go.RowKit Go.Sort
set_option maxRecDepth 100000 in
set_option maxHeartbeats 4000000 in
theorem indexS_calls (w : World) (m : Nat) (xs : List ByteArray) (s : ByteArray) (hn : xs.length ≤ 1000) (hx : ∀ j (h : j < xs.length), w.cell? ⟨m, j, none⟩ = some (.string xs[j])) : Calls Tryz.prog 156 #[.slice (some ⟨m, 0, none⟩) xs.length xs.length, .string s] w (fun e w' => ∃ n : Int, (0 ≤ n ↔ s ∈ xs) ∧ e = .returned (.int .i64 n) ∧ w = w') := by
  have HX := Lib.hid hx
  clear hx
  go_enter Tryz.func156, Tryz.ntmps156
  go_wp2
  go_loopw [8] (fun i wr => ∃ (k : Nat), k ≤ xs.length ∧ i = .int .i64 k ∧ Hid (s ∉ xs.take k) ∧ w = wr) (fun i _ => xs.length - (intOf i).toNat)
  case atStart => exact ⟨0, Nat.zero_le _, rfl, by simp [Hid], rfl⟩
  case round =>
    obtain ⟨k, hk, rfl, hq, rfl⟩ := hrel
    by_cases hlt : k < xs.length
    · have y0 := HX.out k hlt
      have hki : (k : Int) < (xs.length : Int) := by omega
      have hki0 : (0 : Int) ≤ (k : Int) := by omega
      have hin := List.getElem_mem hlt
      have hte : xs.take (k + 1) = xs.take k ++ [xs[k]] := List.take_succ_eq_append_getElem hlt
      generalize xs[k] = x at y0 hin hte
      by_cases hxs : s = x
      · have e1 : (s.toList == x.toList) = true := by rw [hxs]; simp
        have hfin : Hid ((0 : Int) ≤ (k : Int) ↔ s ∈ xs) := ⟨fun _ => hxs ▸ hin, fun _ => hki0⟩
        clear hin hte hq hxs
        go_wp2
        go_ret
        exact ⟨k, hfin.out, rfl, rfl⟩
      · have e1 : (s.toList == x.toList) = false := strne hxs
        have hnx : Hid (s ∉ xs.take (k + 1)) := by
          show _ ∉ _
          rw [hte]; intro h
          rcases List.mem_append.1 h with h | h
          · exact hq.out h
          · exact hxs (List.mem_singleton.1 h)
        clear hin hte hq hxs
        go_wp2
        go_roundw
        case rel => exact ⟨k + 1, by omega, by go_num, hnx, by first | rfl | trivial⟩
        case measure => simp [intOf]; omega
    · obtain rfl : k = xs.length := by omega
      have hfin : Hid ((0 : Int) ≤ -1 ↔ s ∈ xs) := ⟨fun h => absurd h (by decide), fun h => absurd (by rw [List.take_length]; exact h) hq.out⟩
      clear hq
      go_wp2
      go_ret
      exact ⟨-1, hfin.out, rfl, rfl⟩
set_option maxRecDepth 100000 in
set_option maxHeartbeats 4000000 in
theorem contS_calls (W : World) (xs : List ByteArray) (T : TypeId) (s : ByteArray) (hn : xs.length ≤ 1000) : Calls Tryz.prog 114 #[.slice (some ⟨W.heap.size, 0, none⟩) xs.length xs.length, .string s] (W.alloc (.cells (xs.map Value.string).toArray T)) (fun e w' => e = .returned (.bool (dec (s ∈ xs))) ∧ W.alloc (.cells (xs.map Value.string).toArray T) = w') := by
  obtain ⟨w, hw⟩ : ∃ x, W.alloc (.cells (xs.map Value.string).toArray T) = x := ⟨_, rfl⟩
  rw [hw]
  have hc := indexS_calls w W.heap.size xs s hn (fun j h => by
    have := (BoxAt.new W (xs.map Value.string) T).2 j (by simpa using h)
    rw [hw] at this
    rw [this]
    simp [h])
  have hyes : Hid (s ∈ xs → dec (s ∈ xs) = true) := fun h => dec_true h
  have hno : Hid (s ∉ xs → dec (s ∈ xs) = false) := fun h => dec_false h
  generalize dec (s ∈ xs) = r at hyes hno
  have HC := Lib.hid hc
  clear hc hw
  go_enter Tryz.func114, Tryz.ntmps114
  go_wp2_with (go_at_call 156; refine HC.out.mono ?_; rintro e w1 ⟨n, hn2, rfl, rfl⟩; have hn3 := Lib.hid hn2; clear hn2)
  go_ret
  refine ⟨ret_bool ?_, rfl⟩
  by_cases h : s ∈ xs
  · rw [hyes.out h]; simpa using hn3.out.2 h
  · rw [hno.out h]; have := fun h1 => h (hn3.out.1 h1); simpa using this
theorem cellAl {w : World} {a : Addr} {v : Value} (h : w.cell? a = some v) (o : Obj) : (w.alloc o).cell? a = some v := (World.cell?_of_block (w := w) (a := a) (Below.heap_alloc w o _ (World.block_lt_of_cell? w a h))).trans h
def cWords : List ByteArray := [⟨#[112, 97, 114, 101, 110, 116]⟩, ⟨#[99, 104, 105, 108, 100]⟩, ⟨#[110, 101, 120, 116]⟩, ⟨#[114, 97, 110, 100, 111, 109]⟩]
def sWords : List ByteArray := [⟨#[104, 101, 114, 101]⟩, ⟨#[112, 108, 97, 121, 101, 114]⟩, ⟨#[110, 111, 117, 110]⟩, ⟨#[115, 101, 99, 111, 110, 100]⟩, ⟨#[110, 117, 109, 98, 101, 114]⟩, ⟨#[115, 99, 111, 114, 101]⟩]
def bWords : List ByteArray := [⟨#[115, 97, 121]⟩, ⟨#[108, 101, 116]⟩, ⟨#[115, 101, 116]⟩, ⟨#[117, 110, 115, 101, 116]⟩, ⟨#[109, 111, 118, 101]⟩, ⟨#[114, 101, 109, 111, 118, 101]⟩, ⟨#[105, 102]⟩, ⟨#[119, 104, 105, 108, 101]⟩, ⟨#[101, 97, 99, 104]⟩, ⟨#[114, 101, 116, 117, 114, 110]⟩, ⟨#[115, 116, 111, 112]⟩, ⟨#[119, 105, 110]⟩, ⟨#[108, 111, 115, 101]⟩, ⟨#[97, 119, 97, 114, 100]⟩, ⟨#[115, 116, 97, 114, 116]⟩, ⟨#[104, 97, 108, 116]⟩, ⟨#[116, 114, 97, 118, 101, 108]⟩, ⟨#[108, 111, 111, 107]⟩, ⟨#[108, 105, 115, 116]⟩]
noncomputable def callsT (t : TokD) : Bool := decide (t.kind = 4) && dec (t.text ∈ cWords)
set_option maxRecDepth 100000 in
set_option maxHeartbeats 4000000 in
theorem ccalls_calls (w : World) (b : Nat) (v : Value) (k own : Nat) (l : List TokD) (hp : CS w b v k own) (hl : RdL Holds.tok 5 (fun x => x < b) w l v) (hk : k ≤ 1000) : Calls Tryz.prog 135 #[.pointer (some ⟨b, 0, none⟩)] w (Gives w (.bool (callsT (tokAt l k)))) := by
  have hc := ctok_calls w b v k own 0 l hp hl (by omega)
  rw [show k + 0 = k from rfl] at hc
  generalize tokAt l k = t at hc ⊢
  obtain ⟨t0, t1, t2, t3, t4⟩ := t
  have HC := Lib.hid (show Calls Tryz.prog 98 #[.pointer (some ⟨b, 0, none⟩), .int .i64 0] w (Gives w (.agg #[.int .i64 t0, .string t1, .int .i64 t2, .int .i64 t3, .int .i64 t4])) from hc)
  have HCO := Lib.hid (show ∀ W : World, Calls Tryz.prog 114 #[.slice (some ⟨W.heap.size, 0, none⟩) 4 4, .string t1] (W.alloc (.cells #[.string ⟨#[112, 97, 114, 101, 110, 116]⟩, .string ⟨#[99, 104, 105, 108, 100]⟩, .string ⟨#[110, 101, 120, 116]⟩, .string ⟨#[114, 97, 110, 100, 111, 109]⟩] 9)) (fun e w' => e = .returned (.bool (dec (t1 ∈ cWords))) ∧ W.alloc (.cells #[.string ⟨#[112, 97, 114, 101, 110, 116]⟩, .string ⟨#[99, 104, 105, 108, 100]⟩, .string ⟨#[110, 101, 120, 116]⟩, .string ⟨#[114, 97, 110, 100, 111, 109]⟩] 9) = w') from fun W => contS_calls W cWords 9 t1 (by decide))
  have hfin : Hid (callsT ⟨t0, t1, t2, t3, t4⟩ = (decide (t0 = 4) && dec (t1 ∈ cWords))) := rfl
  generalize callsT ⟨t0, t1, t2, t3, t4⟩ = R at hfin ⊢
  generalize dec (t1 ∈ cWords) = D at hfin HCO
  clear hc hp hl hk
  go_enter Tryz.func135, Tryz.ntmps135
  go_upto_region 2 with (go_at_call 98; (with_reducible refine HC.out.mono ?_); rintro e w1 ⟨rfl, hb1⟩)
  obtain ⟨w2, hw2⟩ : ∃ x, w1.alloc (.cells #[.int .i64 t0, .string t1, .int .i64 t2, .int .i64 t3, .int .i64 t4] 53) = x := ⟨_, rfl⟩
  have hb2 : Below w.heap.size w w2 := by rw [← hw2]; exact hb1.alloc hb1.size _
  have hx2 : BoxT w2 w1.heap.size [.int .i64 t0, .string t1, .int .i64 t2, .int .i64 t3, .int .i64 t4] 53 := by rw [← hw2]; exact BoxT.new _ _ _
  rw [hw2]
  have q0 := hx2.cell 0
  have q1 := hx2.cell 1
  have q2 := hx2.cell 2
  have q3 := hx2.cell 3
  have q4 := hx2.cell 4
  simp only [cqs, cqz] at q0 q1 q2 q3 q4
  have HB2 := Lib.hid hb2
  have HX2 := Lib.hid hx2
  have q1a := fun o => cellAl q1 o
  clear hb2 hx2 hw2 hb1
  by_cases h4 : t0 = 4
  · have e4 : (t0 == 4) = true := by simpa using h4
    have hR : Hid (R = D) := by show _ = _; rw [hfin.out, decide_eq_true h4]; simp
    clear h4 hfin
    go_wp2_with (go_at_call 114; (with_reducible refine (HCO.out _).mono ?_); rintro e w9 ⟨rfl, rfl⟩)
    go_ret
    exact ⟨ret_bool hR.out.symm, HB2.out.alloc HB2.out.size _⟩
  have e4 : (t0 == 4) = false := by simpa using h4
  have hR : Hid (R = false) := by show _ = _; rw [hfin.out, decide_eq_false h4]; rfl
  clear h4 hfin
  go_wp2
  go_ret
  exact ⟨ret_bool hR.out.symm, HB2.out⟩
noncomputable def primT (t : TokD) : Bool := if t.kind = 2 then true else if t.kind = 1 then true else if t.kind = 5 then dec (t.text = ⟨#[40]⟩) else if t.kind = 4 then callsT t || dec (t.text ∈ sWords) else false
set_option maxRecDepth 100000 in
set_option maxHeartbeats 4000000 in
theorem cprim_calls (w : World) (b : Nat) (v : Value) (k own : Nat) (l : List TokD) (hp : CS w b v k own) (hl : RdL Holds.tok 5 (fun x => x < b) w l v) (hk : k ≤ 1000) : Calls Tryz.prog 99 #[.pointer (some ⟨b, 0, none⟩)] w (Gives w (.bool (primT (tokAt l k)))) := by
  have HCA := Lib.hid (fun W (h : Below w.heap.size w W) => ccalls_calls W b v k own l (CS.below hp h) ((Kept.of h (Nat.le_of_lt hp.lt)).toks hl) hk)
  have hc := ctok_calls w b v k own 0 l hp hl (by omega)
  rw [show k + 0 = k from rfl] at hc
  generalize tokAt l k = t at hc HCA ⊢
  obtain ⟨t0, t1, t2, t3, t4⟩ := t
  have HC := Lib.hid (show Calls Tryz.prog 98 #[.pointer (some ⟨b, 0, none⟩), .int .i64 0] w (Gives w (.agg #[.int .i64 t0, .string t1, .int .i64 t2, .int .i64 t3, .int .i64 t4])) from hc)
  have HCO := Lib.hid (show ∀ W : World, Calls Tryz.prog 114 #[.slice (some ⟨W.heap.size, 0, none⟩) 6 6, .string t1] (W.alloc (.cells #[.string ⟨#[104, 101, 114, 101]⟩, .string ⟨#[112, 108, 97, 121, 101, 114]⟩, .string ⟨#[110, 111, 117, 110]⟩, .string ⟨#[115, 101, 99, 111, 110, 100]⟩, .string ⟨#[110, 117, 109, 98, 101, 114]⟩, .string ⟨#[115, 99, 111, 114, 101]⟩] 9)) (fun e w' => e = .returned (.bool (dec (t1 ∈ sWords))) ∧ W.alloc (.cells #[.string ⟨#[104, 101, 114, 101]⟩, .string ⟨#[112, 108, 97, 121, 101, 114]⟩, .string ⟨#[110, 111, 117, 110]⟩, .string ⟨#[115, 101, 99, 111, 110, 100]⟩, .string ⟨#[110, 117, 109, 98, 101, 114]⟩, .string ⟨#[115, 99, 111, 114, 101]⟩] 9) = w') from fun W => contS_calls W sWords 9 t1 (by decide))
  have hfin : Hid (primT ⟨t0, t1, t2, t3, t4⟩ = (if t0 = 2 then true else if t0 = 1 then true else if t0 = 5 then dec (t1 = ⟨#[40]⟩) else if t0 = 4 then callsT ⟨t0, t1, t2, t3, t4⟩ || dec (t1 ∈ sWords) else false)) := rfl
  generalize primT ⟨t0, t1, t2, t3, t4⟩ = R at hfin ⊢
  generalize callsT ⟨t0, t1, t2, t3, t4⟩ = A at hfin HCA
  generalize dec (t1 ∈ sWords) = D at hfin HCO
  clear hc hp hl hk
  go_enter Tryz.func99, Tryz.ntmps99
  go_upto_region 2 with (go_at_call 98; (with_reducible refine HC.out.mono ?_); rintro e w1 ⟨rfl, hb1⟩)
  obtain ⟨w2, hw2⟩ : ∃ x, w1.alloc (.cells #[.int .i64 t0, .string t1, .int .i64 t2, .int .i64 t3, .int .i64 t4] 53) = x := ⟨_, rfl⟩
  have hb2 : Below w.heap.size w w2 := by rw [← hw2]; exact hb1.alloc hb1.size _
  have hx2 : BoxT w2 w1.heap.size [.int .i64 t0, .string t1, .int .i64 t2, .int .i64 t3, .int .i64 t4] 53 := by rw [← hw2]; exact BoxT.new _ _ _
  rw [hw2]
  have q0 := hx2.cell 0
  have q1 := hx2.cell 1
  have q2 := hx2.cell 2
  have q3 := hx2.cell 3
  have q4 := hx2.cell 4
  simp only [cqs, cqz] at q0 q1 q2 q3 q4
  have HB2 := Lib.hid hb2
  have HX2 := Lib.hid hx2
  have q1a := fun o => cellAl q1 o
  clear hb2 hx2 hw2 hb1
  have e2 : (t0 == 2) = decide (t0 = 2) := rfl
  clear e2
  by_cases h2 : t0 = 2
  · have e2 : (t0 == 2) = true := by simpa using h2
    have hR : Hid (R = true) := by show _ = _; rw [hfin.out, if_pos h2]
    clear h2 hfin
    go_wp2
    go_ret
    exact ⟨ret_bool hR.out.symm, HB2.out⟩
  have e2 : (t0 == 2) = false := by simpa using h2
  by_cases h1 : t0 = 1
  · have e1 : (t0 == 1) = true := by simpa using h1
    have hR : Hid (R = true) := by show _ = _; rw [hfin.out, if_neg h2, if_pos h1]
    clear h1 h2 hfin
    go_wp2
    go_ret
    exact ⟨ret_bool hR.out.symm, HB2.out⟩
  have e1 : (t0 == 1) = false := by simpa using h1
  by_cases h5 : t0 = 5
  · have e5 : (t0 == 5) = true := by simpa using h5
    have hR : Hid (R = (t1.toList == (⟨#[40]⟩ : ByteArray).toList)) := by show _ = _; rw [hfin.out, if_neg h2, if_neg h1, if_pos h5, eqStr]
    clear h1 h2 h5 hfin
    by_cases hs : t1 = ⟨#[40]⟩
    · have hR2 : Hid (R = true) := by show _ = _; rw [hR.out, hs]; simp
      clear hR
      subst hs
      go_wp2
      go_ret
      exact ⟨ret_bool (by first | exact hR2.out.symm | (rw [hR2.out]; decide)), HB2.out⟩
    have hR2 : Hid (R = false) := by show _ = _; rw [hR.out]; exact strne hs
    have s1 : (t1.toList == (⟨#[40]⟩ : ByteArray).toList) = false := strne hs
    have s2 : (t1.toList == [40]) = false := by have h9 := strne hs; rw [show (⟨#[40]⟩ : ByteArray).toList = [40] from by decide +kernel] at h9; exact h9
    clear hR hs
    go_wp2
    go_ret
    exact ⟨ret_bool hR2.out.symm, HB2.out⟩
  have e5 : (t0 == 5) = false := by simpa using h5
  by_cases h4 : t0 = 4
  rotate_left
  · have e4 : (t0 == 4) = false := by simpa using h4
    have hR : Hid (R = false) := by show _ = _; rw [hfin.out, if_neg h2, if_neg h1, if_neg h5, if_neg h4]
    clear h1 h2 h5 h4 hfin
    go_wp2
    go_ret
    exact ⟨ret_bool hR.out.symm, HB2.out⟩
  have e4 : (t0 == 4) = true := by simpa using h4
  have hR : Hid (R = (A || D)) := by show _ = _; rw [hfin.out, if_neg h2, if_neg h1, if_neg h5, if_pos h4]
  clear h1 h2 h5 h4 hfin
  cases A
  all_goals
    go_wp2_with (first | (go_at_call 135; (with_reducible refine (HCA.out _ HB2.out).mono ?_); rintro e w3 ⟨rfl, hb3⟩; have q1b := (HX2.out.below hb3).cell 1; simp only [cqs, cqz] at q1b; have q1c := fun o => cellAl q1b o) | (go_at_call 114; (with_reducible refine (HCO.out _).mono ?_); rintro e w9 ⟨rfl, rfl⟩))
    go_ret
    first
    | exact ⟨ret_bool (by rw [hR.out]; simp), (bt HB2.out hb3).alloc (by have := HB2.out.size; have := hb3.size; omega) _⟩
    | exact ⟨ret_bool (by rw [hR.out]; simp), bt HB2.out hb3⟩
noncomputable def begT (t : TokD) : Bool := primT t || (decide (t.kind = 4) && dec (t.text ∈ bWords))
set_option maxRecDepth 100000 in
set_option maxHeartbeats 4000000 in
theorem cbegins_calls (w : World) (b : Nat) (v : Value) (k own : Nat) (l : List TokD) (hp : CS w b v k own) (hl : RdL Holds.tok 5 (fun x => x < b) w l v) (hk : k ≤ 1000) : Calls Tryz.prog 69 #[.pointer (some ⟨b, 0, none⟩)] w (Gives w (.bool (begT (tokAt l k)))) := by
  have HCA := Lib.hid (fun W (h : Below w.heap.size w W) => cprim_calls W b v k own l (CS.below hp h) ((Kept.of h (Nat.le_of_lt hp.lt)).toks hl) hk)
  have hc := ctok_calls w b v k own 0 l hp hl (by omega)
  rw [show k + 0 = k from rfl] at hc
  generalize tokAt l k = t at hc HCA ⊢
  obtain ⟨t0, t1, t2, t3, t4⟩ := t
  have HC := Lib.hid (show Calls Tryz.prog 98 #[.pointer (some ⟨b, 0, none⟩), .int .i64 0] w (Gives w (.agg #[.int .i64 t0, .string t1, .int .i64 t2, .int .i64 t3, .int .i64 t4])) from hc)
  have HCO := Lib.hid (show ∀ W : World, Calls Tryz.prog 114 #[.slice (some ⟨W.heap.size, 0, none⟩) 19 19, .string t1] (W.alloc (.cells #[.string ⟨#[115, 97, 121]⟩, .string ⟨#[108, 101, 116]⟩, .string ⟨#[115, 101, 116]⟩, .string ⟨#[117, 110, 115, 101, 116]⟩, .string ⟨#[109, 111, 118, 101]⟩, .string ⟨#[114, 101, 109, 111, 118, 101]⟩, .string ⟨#[105, 102]⟩, .string ⟨#[119, 104, 105, 108, 101]⟩, .string ⟨#[101, 97, 99, 104]⟩, .string ⟨#[114, 101, 116, 117, 114, 110]⟩, .string ⟨#[115, 116, 111, 112]⟩, .string ⟨#[119, 105, 110]⟩, .string ⟨#[108, 111, 115, 101]⟩, .string ⟨#[97, 119, 97, 114, 100]⟩, .string ⟨#[115, 116, 97, 114, 116]⟩, .string ⟨#[104, 97, 108, 116]⟩, .string ⟨#[116, 114, 97, 118, 101, 108]⟩, .string ⟨#[108, 111, 111, 107]⟩, .string ⟨#[108, 105, 115, 116]⟩] 9)) (fun e w' => e = .returned (.bool (dec (t1 ∈ bWords))) ∧ W.alloc (.cells #[.string ⟨#[115, 97, 121]⟩, .string ⟨#[108, 101, 116]⟩, .string ⟨#[115, 101, 116]⟩, .string ⟨#[117, 110, 115, 101, 116]⟩, .string ⟨#[109, 111, 118, 101]⟩, .string ⟨#[114, 101, 109, 111, 118, 101]⟩, .string ⟨#[105, 102]⟩, .string ⟨#[119, 104, 105, 108, 101]⟩, .string ⟨#[101, 97, 99, 104]⟩, .string ⟨#[114, 101, 116, 117, 114, 110]⟩, .string ⟨#[115, 116, 111, 112]⟩, .string ⟨#[119, 105, 110]⟩, .string ⟨#[108, 111, 115, 101]⟩, .string ⟨#[97, 119, 97, 114, 100]⟩, .string ⟨#[115, 116, 97, 114, 116]⟩, .string ⟨#[104, 97, 108, 116]⟩, .string ⟨#[116, 114, 97, 118, 101, 108]⟩, .string ⟨#[108, 111, 111, 107]⟩, .string ⟨#[108, 105, 115, 116]⟩] 9) = w') from fun W => contS_calls W bWords 9 t1 (by decide))
  have hfin : Hid (begT ⟨t0, t1, t2, t3, t4⟩ = (primT ⟨t0, t1, t2, t3, t4⟩ || (decide (t0 = 4) && dec (t1 ∈ bWords)))) := rfl
  generalize begT ⟨t0, t1, t2, t3, t4⟩ = R at hfin ⊢
  generalize primT ⟨t0, t1, t2, t3, t4⟩ = A at hfin HCA
  generalize dec (t1 ∈ bWords) = D at hfin HCO
  clear hc hp hl hk
  go_enter Tryz.func69, Tryz.ntmps69
  go_upto_region 2 with (go_at_call 98; (with_reducible refine HC.out.mono ?_); rintro e w1 ⟨rfl, hb1⟩)
  obtain ⟨w2, hw2⟩ : ∃ x, w1.alloc (.cells #[.int .i64 t0, .string t1, .int .i64 t2, .int .i64 t3, .int .i64 t4] 53) = x := ⟨_, rfl⟩
  have hb2 : Below w.heap.size w w2 := by rw [← hw2]; exact hb1.alloc hb1.size _
  have hx2 : BoxT w2 w1.heap.size [.int .i64 t0, .string t1, .int .i64 t2, .int .i64 t3, .int .i64 t4] 53 := by rw [← hw2]; exact BoxT.new _ _ _
  rw [hw2]
  have q0 := hx2.cell 0
  have q1 := hx2.cell 1
  have q2 := hx2.cell 2
  have q3 := hx2.cell 3
  have q4 := hx2.cell 4
  simp only [cqs, cqz] at q0 q1 q2 q3 q4
  have HB2 := Lib.hid hb2
  have HX2 := Lib.hid hx2
  have q1a := fun o => cellAl q1 o
  clear hb2 hx2 hw2 hb1
  by_cases h4 : t0 = 4
  · have e4 : (t0 == 4) = true := by simpa using h4
    have hR : Hid (R = (A || D)) := by show _ = _; rw [hfin.out, decide_eq_true h4]; simp
    clear h4 hfin
    cases A
    all_goals
      go_wp2_with (first | (go_at_call 99; (with_reducible refine (HCA.out _ HB2.out).mono ?_); rintro e w3 ⟨rfl, hb3⟩; have q0b := (HX2.out.below hb3).cell 0; have q1b := (HX2.out.below hb3).cell 1; simp only [cqs, cqz] at q0b q1b; have q1c := fun o => cellAl q1b o) | (go_at_call 114; (with_reducible refine (HCO.out _).mono ?_); rintro e w9 ⟨rfl, rfl⟩))
      go_ret
      first
      | exact ⟨ret_bool (by rw [hR.out]; simp), (bt HB2.out hb3).alloc (by have := HB2.out.size; have := hb3.size; omega) _⟩
      | exact ⟨ret_bool (by rw [hR.out]; simp), bt HB2.out hb3⟩
  have e4 : (t0 == 4) = false := by simpa using h4
  have hR : Hid (R = A) := by show _ = _; rw [hfin.out, decide_eq_false h4]; simp
  clear h4 hfin
  cases A
  all_goals
    go_wp2_with (go_at_call 99; (with_reducible refine (HCA.out _ HB2.out).mono ?_); rintro e w3 ⟨rfl, hb3⟩; have q0b := (HX2.out.below hb3).cell 0; have q1b := (HX2.out.below hb3).cell 1; simp only [cqs, cqz] at q0b q1b)
    go_ret
    exact ⟨ret_bool hR.out.symm, bt HB2.out hb3⟩
end Go.Proofs.YtnbfadgclffgkaaGreatDoor
