/- The walks of kinds' whole that its example wants: an object of which nothing is told; check of the story and of an object. Printed by gen-kinds16.py. -/
import Derived.Test.YtblhpiebheommaaKindsBlocksPart19
import Derived.Test.YtblhpiebheommaaKindsBlocksPart15
import Derived.Test.YtblhpiebheommaaKindsBlocksPart4
namespace Go.Proofs.Ytblhpiebheommaa
open Go.RowKit

set_option maxRecDepth 100000 in
theorem words_nil (a : Option Addr) (c : Nat) (w : World) : Calls Try.prog 83 #[.slice a 0 c] w (fun e w' => e = .returned (.tuple #[]) ∧ w = w') := by
  go_enter Try.func83, Try.ntmps83
  go_wp2
  go_loop [6] (fun i => i = .int .i64 0) (fun _ => 0)
  case atStart => rfl
  case round =>
    subst hrel
    go_wp2
    go_end0
    exact ⟨rfl, rfl⟩

/-- An object of which nothing is told. -/
def ObjD.bare (o : ObjD) : Prop := o.inn = ⟨#[]⟩ ∧ o.words = [] ∧ o.adjs = [] ∧ o.flags = [] ∧ o.props = [] ∧ o.exits = []

set_option maxRecDepth 100000 in
set_option maxHeartbeats 2000000 in
theorem obare_calls (t : List NameD) (s : SrcD) (i : Nat) (F : Nat → Prop) (w : World) (tv : Value) (ss : List Value) (hF : Inn F w) (h0 : RdNames F w t tv) (h1 : Holds.src.R F w s ss) (hi : i < s.objects.length) (hb : s.objects[i].bare) :
    Calls Try.prog 69 #[.agg (tv :: ss).toArray, .int .i64 i] w (Judged w fineW (.tuple #[])) := by
  obtain ⟨a0, c0, rfl⟩ := h0.shape
  obtain ⟨a5, c5, a6, c6, a7, c7, a8, c8, a9, c9, a10, c10, a11, c11, a12, c12, rfl, g5, g6, g7, g8, g9, g10, g11, g12⟩ := src_shape h1
  obtain ⟨_, _, he8, hl8, hc8, h8⟩ := g8.opn
  cases he8
  obtain ⟨ob, off, rfl, hFob, hel⟩ := h8 (by omega)
  obtain ⟨b1, b2, b3, b4, b5, b6⟩ := hb
  have hW : Below w.heap.size w (w.alloc (.cells #[.slice a0 t.length c0, .string s.title, .string s.author, .string s.start, .int .i64 s.release, .int .i64 s.most, .slice a5 s.flags.length c5, .slice a6 s.props.length c6, .slice a7 s.globals.length c7, .slice (some ⟨ob, off, none⟩) s.objects.length c8, .slice a9 s.verbs.length c9, .slice a10 s.rules.length c10, .slice a11 s.funcs.length c11, .slice a12 s.daemons.length c12] 91)) := (Below.refl _ w).alloc (Nat.le_refl _) _
  obtain ⟨cs, ⟨-, -, -, -, v5, v6, v7, v8, v9, rfl, k5, k6, k7, k8, k9⟩, -, hcell⟩ := hel _ (hW.block ob (hF ob hFob)) i hi
  obtain ⟨d5, f5, rfl⟩ := k5.shape
  obtain ⟨d6, f6, rfl⟩ := k6.shape
  obtain ⟨d7, f7, rfl⟩ := k7.shape
  obtain ⟨d8, f8, rfl⟩ := k8.shape
  obtain ⟨d9, f9, rfl⟩ := k9.shape
  generalize s.objects[i] = o at *
  have hh : o.words.length = 0 ∧ o.adjs.length = 0 ∧ o.flags.length = 0 ∧ o.props.length = 0 ∧ o.exits.length = 0 := by rw [b2, b3, b4, b5, b6]; simp
  obtain ⟨l2, l3, l4, l5, l6⟩ := hh
  rw [l2, l3, l4, l5, l6, b1] at hcell
  have q0 := hcell 0 _ rfl
  have q1 := hcell 1 _ rfl
  have q2 := hcell 2 _ rfl
  have q3 := hcell 3 _ rfl
  have q4 := hcell 4 _ rfl
  have q5 := hcell 5 _ rfl
  have q6 := hcell 6 _ rfl
  have q7 := hcell 7 _ rfl
  have q8 := hcell 8 _ rfl
  have q9 := hcell 9 _ rfl
  simp only [Nat.add_zero] at q0
  have HW := Lib.hid (fun a c w => words_nil a c w)
  have hil : (i : Int) < (s.objects.length : Int) := by omega
  have hi0 : (0 : Int) ≤ (i : Int) := by omega
  have hcap : c8 ≤ 9223372036854775807 := by unfold maxLen at hc8; omega
  have HB := Lib.hid hW
  clear hcell hel h8 k5 k6 k7 k8 k9 g5 g6 g7 g8 g9 g10 g11 g12 h0 h1 b1 b2 b3 b4 b5 b6 l2 l3 l4 l5 l6 hW hc8
  go_enter Try.func69, Try.ntmps69
  go_wp2_with (go_at_call 83; refine (HW.out _ _ _).mono ?_; rintro e w1 ⟨rfl, rfl⟩)
  go_loop [43] (fun i => i = .int .i64 0) (fun _ => 0)
  case atStart => rfl
  case round =>
    subst hrel
    go_wp2
    go_loop [55] (fun i => i = .int .i64 0) (fun _ => 0)
    case atStart => rfl
    case round =>
      subst hrel
      go_wp2
      go_loop [68] (fun i => i = .int .i64 0) (fun _ => 0)
      case atStart => rfl
      case round =>
        subst hrel
        go_wp2
        go_end0
        exact Judged.fine rfl rfl (HB.out.alloc (by simp) _)

set_option maxRecDepth 100000 in
set_option maxHeartbeats 2000000 in
theorem chk1_calls (t : List NameD) (s : SrcD) (i : Int) (q : Int × ByteArray) (F : Nat → Prop) (w : World) (tv : Value) (ss : List Value) (h0 : RdNames F w t tv) (h1 : Holds.src.R F w s ss)
    (hc : ∀ W, Below w.heap.size w W → Calls Try.prog 68 #[.agg (tv :: ss).toArray, .string s.start] W (Judged W q (.tuple #[]))) :
    Calls Try.prog 45 #[.agg (tv :: ss).toArray, .int .i64 1, .int .i64 i] w (Judged w q (.tuple #[])) := by
  obtain ⟨a0, c0, rfl⟩ := h0.shape
  obtain ⟨a5, c5, a6, c6, a7, c7, a8, c8, a9, c9, a10, c10, a11, c11, a12, c12, rfl, g5, g6, g7, g8, g9, g10, g11, g12⟩ := src_shape h1
  have hB := (Below.refl w.heap.size w).alloc (Nat.le_refl _) (.cells #[.slice a0 t.length c0, .string s.title, .string s.author, .string s.start, .int .i64 s.release, .int .i64 s.most, .slice a5 s.flags.length c5, .slice a6 s.props.length c6, .slice a7 s.globals.length c7, .slice a8 s.objects.length c8, .slice a9 s.verbs.length c9, .slice a10 s.rules.length c10, .slice a11 s.funcs.length c11, .slice a12 s.daemons.length c12] 91)
  have hc1 := hc _ hB
  have HB := Lib.hid hB
  clear hc h0 h1 g5 g6 g7 g8 g9 g10 g11 g12
  by_cases hq : q.1 = 0
  · have HC := Lib.hid (judged_ok hc1 hq)
    have HQ := Lib.hid hq
    clear hc1 hq
    go_enter Try.func45, Try.ntmps45
    go_wp2_with (go_at_call 68; refine HC.out.mono ?_; rintro e w1 ⟨rfl, hb⟩)
    go_end0
    exact Judged.fine HQ.out rfl (HB.out.trans (hb.mono HB.out.size))
  · have HC := Lib.hid (judged_bad hc1 hq)
    have HQ := Lib.hid hq
    clear hc1 hq
    go_enter Try.func45, Try.ntmps45
    go_wp2_with (go_at_call 68; refine HC.out.mono ?_; rintro e w1 ⟨rfl, hb⟩)
    exact ⟨rfl, Judged.thrown rfl HQ.out rfl (HB.out.trans (hb.mono HB.out.size))⟩

set_option maxRecDepth 100000 in
set_option maxHeartbeats 2000000 in
theorem chk5_calls (t : List NameD) (s : SrcD) (i : Int) (q : Int × ByteArray) (F : Nat → Prop) (w : World) (tv : Value) (ss : List Value) (h0 : RdNames F w t tv) (h1 : Holds.src.R F w s ss)
    (hc : ∀ W, Below w.heap.size w W → Calls Try.prog 69 #[.agg (tv :: ss).toArray, .int .i64 i] W (Judged W q (.tuple #[]))) :
    Calls Try.prog 45 #[.agg (tv :: ss).toArray, .int .i64 5, .int .i64 i] w (Judged w q (.tuple #[])) := by
  obtain ⟨a0, c0, rfl⟩ := h0.shape
  obtain ⟨a5, c5, a6, c6, a7, c7, a8, c8, a9, c9, a10, c10, a11, c11, a12, c12, rfl, g5, g6, g7, g8, g9, g10, g11, g12⟩ := src_shape h1
  have hB := (Below.refl w.heap.size w).alloc (Nat.le_refl _) (.cells #[.slice a0 t.length c0, .string s.title, .string s.author, .string s.start, .int .i64 s.release, .int .i64 s.most, .slice a5 s.flags.length c5, .slice a6 s.props.length c6, .slice a7 s.globals.length c7, .slice a8 s.objects.length c8, .slice a9 s.verbs.length c9, .slice a10 s.rules.length c10, .slice a11 s.funcs.length c11, .slice a12 s.daemons.length c12] 91)
  have hc1 := hc _ hB
  have HB := Lib.hid hB
  clear hc h0 h1 g5 g6 g7 g8 g9 g10 g11 g12
  by_cases hq : q.1 = 0
  · have HC := Lib.hid (judged_ok hc1 hq)
    have HQ := Lib.hid hq
    clear hc1 hq
    go_enter Try.func45, Try.ntmps45
    go_wp2_with (go_at_call 69; refine HC.out.mono ?_; rintro e w1 ⟨rfl, hb⟩)
    go_end0
    exact Judged.fine HQ.out rfl (HB.out.trans (hb.mono HB.out.size))
  · have HC := Lib.hid (judged_bad hc1 hq)
    have HQ := Lib.hid hq
    clear hc1 hq
    go_enter Try.func45, Try.ntmps45
    go_wp2_with (go_at_call 69; refine HC.out.mono ?_; rintro e w1 ⟨rfl, hb⟩)
    exact ⟨rfl, Judged.thrown rfl HQ.out rfl (HB.out.trans (hb.mono HB.out.size))⟩
end Go.Proofs.Ytblhpiebheommaa
/- The walks of kinds.Locals and clewref16.Locals. Printed by gen-locals.py. -/
namespace Go.Proofs.Ytblhpiebheommaa
open Go.RowKit Go.Sort

theorem St.locsL_take (l : List St) (k : Nat) (h : k < l.length) : St.locsL (l.take (k + 1)) = St.locsL (l.take k) + (addS (l[k]).kind + St.locsL (l[k]).body + St.locsL (l[k]).els) := by
  induction l generalizing k with
  | nil => simp at h
  | cons s r ih =>
    cases k with
    | zero =>
      show St.locsL [s] = 0 + _
      rw [St.locsL_cons]
      show _ + 0 = _
      simp
    | succ k =>
      show St.locsL (s :: r.take (k + 1)) = St.locsL (s :: r.take k) + _
      rw [St.locsL_cons, St.locsL_cons, ih k (by simpa using h)]
      simp only [List.getElem_cons_succ]
      omega
theorem St.locsL_le : ∀ l : List St, St.locsL l ≤ 2 * St.sizes l := by
  refine blocks_ind fun l ih => ?_
  induction l with
  | nil => exact Int.le_refl _
  | cons s r ihr =>
    rw [St.locsL_cons]
    have := addS_nonneg s.kind
    obtain ⟨h1, h2⟩ := ih s (List.mem_cons_self ..)
    have h3 := ihr fun x hx => ih x (List.mem_cons_of_mem _ hx)
    have h4 := St.size_eq s
    show _ ≤ 2 * ((s.size + St.sizes r : Nat) : Int)
    omega

def LocsTC (l : List St) : Prop := ∀ (F : Nat → Prop) (w : World) (v : Value), Inn F w → St.sizes l ≤ 1000000 → Sts F w l v →
    Calls Try.prog 17 #[v] w (Gives w (.int .i64 (St.locsL l)))

set_option maxRecDepth 100000 in
set_option maxHeartbeats 2000000 in
theorem locsT_calls : ∀ l : List St, LocsTC l := by
  refine blocks_ind fun l ih => ?_
  intro F w v hF hsz hr
  obtain ⟨c, ⟨a, cap, rfl, hl, hc, ha⟩, hrow⟩ := hr
  unfold maxLen at hc
  have hlen : l.length ≤ St.sizes l := St.length_le l
  have hlen2 : l.length ≤ 1000000 := by omega
  go_enter Try.func17, Try.ntmps17
  go_wp2
  go_loopw [3, 8] (fun m i wr => ∃ k : Nat, k ≤ l.length ∧ i = .int .i64 k ∧ (∃ z : Int, m = .int .i64 z ∧ Hid (z = St.locsL (l.take k))) ∧ Below w.heap.size w wr) (fun _ i _ => l.length - (intOf i).toNat)
  case atStart => exact ⟨0, Nat.zero_le _, rfl, ⟨0, rfl, rfl⟩, Below.refl _ _⟩
  case round =>
    obtain ⟨k, hk, rfl, ⟨z, rfl, hz⟩, hB⟩ := hrel
    by_cases hlt : k < l.length
    · obtain ⟨b, off, rfl, hFb, hcell⟩ := ha (by omega)
      obtain ⟨kd', n', s', a', m', cap', a2, m2, cap2, a3, m3, cap3, hx, g0, g1, g2, g3, g4, g5⟩ := rows_at hcell hrow (hB.block b (hF b hFb)) k hlt
      clear ha hcell hrow
      have hs1 := St.sizes_take l k hlt
      have hs2 := St.sizes_take_le l (k + 1)
      have hs3 := St.size_eq l[k]
      obtain ⟨ihb, ihe⟩ := ih _ (List.getElem_mem hlt)
      have hI := hF.below hB
      obtain ⟨hkd, _, _, _, _, _, _, hxb, hxe⟩ := (hx.below hF hB (Nat.le_refl _)).parts
      have hcb : ∀ (p : Regrown), Calls Try.prog 17 #[.slice a2 m2 cap2] (grow (redrawn (wr.alloc (.cells #[.int .i64 kd', .int .i64 n', .string s', .slice a' m' cap', .slice a2 m2 cap2, .slice a3 m3 cap3] 76)) p.d) p.os) fun e w'' => e = .returned (.int .i64 (St.locsL (l[k]).body)) ∧ ∃ p : Regrown, w'' = grow (redrawn (wr.alloc (.cells #[.int .i64 kd', .int .i64 n', .string s', .slice a' m' cap', .slice a2 m2 cap2, .slice a3 m3 cap3] 76)) p.d) p.os :=
        fun p => regrown_gives (w := (wr.alloc (.cells #[.int .i64 kd', .int .i64 n', .string s', .slice a' m' cap', .slice a2 m2 cap2, .slice a3 m3 cap3] 76))) (fun w' hb => ihb F w' _ ((hI.alloc _).below hb) (by omega) ((hxb.alloc hI _).below (hI.alloc _) hb (Nat.le_refl _))) p
      have hce : ∀ (p : Regrown), Calls Try.prog 17 #[.slice a3 m3 cap3] (grow (redrawn (wr.alloc (.cells #[.int .i64 kd', .int .i64 n', .string s', .slice a' m' cap', .slice a2 m2 cap2, .slice a3 m3 cap3] 76)) p.d) p.os) fun e w'' => e = .returned (.int .i64 (St.locsL (l[k]).els)) ∧ ∃ p : Regrown, w'' = grow (redrawn (wr.alloc (.cells #[.int .i64 kd', .int .i64 n', .string s', .slice a' m' cap', .slice a2 m2 cap2, .slice a3 m3 cap3] 76)) p.d) p.os :=
        fun p => regrown_gives (w := (wr.alloc (.cells #[.int .i64 kd', .int .i64 n', .string s', .slice a' m' cap', .slice a2 m2 cap2, .slice a3 m3 cap3] 76))) (fun w' hb => ihe F w' _ ((hI.alloc _).below hb) (by omega) ((hxe.alloc hI _).below (hI.alloc _) hb (Nat.le_refl _))) p
      have hq4 : ∀ d os, (grow (redrawn (wr.alloc (.cells #[.int .i64 kd', .int .i64 n', .string s', .slice a' m' cap', .slice a2 m2 cap2, .slice a3 m3 cap3] 76)) d) os).cell? ⟨wr.heap.size, 4, none⟩ = some (.slice a2 m2 cap2) := fun d os => cell_regrown (w := (wr.alloc (.cells #[.int .i64 kd', .int .i64 n', .string s', .slice a' m' cap', .slice a2 m2 cap2, .slice a3 m3 cap3] 76))) (by simp) d os
      have hq5 : ∀ d os, (grow (redrawn (wr.alloc (.cells #[.int .i64 kd', .int .i64 n', .string s', .slice a' m' cap', .slice a2 m2 cap2, .slice a3 m3 cap3] 76)) d) os).cell? ⟨wr.heap.size, 5, none⟩ = some (.slice a3 m3 cap3) := fun d os => cell_regrown (w := (wr.alloc (.cells #[.int .i64 kd', .int .i64 n', .string s', .slice a' m' cap', .slice a2 m2 cap2, .slice a3 m3 cap3] 76))) (by simp) d os
      have hz2 := hz.out
      have hz3 := St.locsL_le (l.take k)
      have hz4 := St.locsL_nonneg (l.take k)
      have hz5 := St.locsL_le (l[k]).body
      have hz6 := St.locsL_nonneg (l[k]).body
      have hz7 := St.locsL_le (l[k]).els
      have hz8 := St.locsL_nonneg (l[k]).els
      have HS : Hid (St.locsL (l.take (k + 1)) = z + (addS kd' + St.locsL (l[k]).body + St.locsL (l[k]).els)) := by
        show _ = _
        rw [St.locsL_take l k hlt, hz.out, hkd]
      have q1 : 0 ≤ z := by omega
      have q2 : z ≤ 2000000 := by omega
      have q3 : 0 ≤ St.locsL (l[k]).body := hz6
      have q4 : St.locsL (l[k]).body ≤ 2000000 := by omega
      have q5 : 0 ≤ St.locsL (l[k]).els := hz8
      have q6 : St.locsL (l[k]).els ≤ 2000000 := by omega
      clear hz2 hz3 hz4 hz5 hz6 hz7 hz8 hz
      generalize St.locsL (l[k]).body = A at hcb q3 q4 HS
      generalize St.locsL (l[k]).els = E at hce q5 q6 HS
      have hcase : (kd' = 2 ∧ Hid (addS kd' = 1)) ∨ (kd' = 11 ∧ Hid (addS kd' = 2)) ∨ ((kd' == 2) = false ∧ (kd' == 11) = false ∧ Hid (addS kd' = 0)) := by
        unfold addS
        by_cases e2 : kd' = 2
        · exact .inl ⟨e2, if_pos e2⟩
        · by_cases e11 : kd' = 11
          · exact .inr (.inl ⟨e11, by show _ = _; rw [if_neg e2, if_pos e11]⟩)
          · exact .inr (.inr ⟨by simpa using e2, by simpa using e11, by show _ = _; rw [if_neg e2, if_neg e11]⟩)
      have HCb := Lib.hid hcb
      have HCe := Lib.hid hce
      clear ih hx hs1 hs2 hs3 hcb hce ihb ihe hxb hxe hsz hkd
      rcases hcase with ⟨rfl, hadd⟩ | ⟨rfl, hadd⟩ | ⟨e2, e11, hadd⟩
      all_goals (
        go_wp2_with fail
        refine wp_region_quiet_below (by kernel_rfl) (by kernel_rfl) ?_
        repeat (go_big_quiet_step (first | with_reducible exact HCb.out _ | with_reducible exact HCe.out _))
        refine wpQuiet_nil ?_
        intro w' hw'
        have hb := below_of_regrown hw'
        clear hw' HCb HCe
        go_wp2
        go_roundw
        case rel => exact ⟨k + 1, by omega, by go_num, ⟨_, rfl, by show _ = _; rw [HS.out, hadd.out]; omega⟩, below_on1 hB (Nat.le_refl _) hb⟩
        case measure => simp [intOf]; omega)
    · have : k = l.length := by omega
      subst this
      rw [List.take_length] at hz
      have hz0 := hz.out
      subst hz0
      go_wp2
      go_ret
      exact ⟨rfl, hB⟩


def LocsRC (l : List St) : Prop := ∀ (F : Nat → Prop) (w : World) (v : Value), Inn F w → St.sizes l ≤ 1000000 → Sts F w l v →
    Calls Try.prog 18 #[v] w (Gives w (.int .i64 (St.locsL l)))

set_option maxRecDepth 100000 in
set_option maxHeartbeats 2000000 in
theorem locsR_calls : ∀ l : List St, LocsRC l := by
  refine blocks_ind fun l ih => ?_
  intro F w v hF hsz hr
  obtain ⟨c, ⟨a, cap, rfl, hl, hc, ha⟩, hrow⟩ := hr
  unfold maxLen at hc
  have hlen : l.length ≤ St.sizes l := St.length_le l
  have hlen2 : l.length ≤ 1000000 := by omega
  go_enter Try.func18, Try.ntmps18
  go_wp2
  go_loopw [3, 4] (fun m i wr => ∃ k : Nat, k ≤ l.length ∧ i = .int .i64 k ∧ (∃ z : Int, m = .int .i64 z ∧ Hid (z = St.locsL (l.take k))) ∧ Below w.heap.size w wr) (fun _ i _ => l.length - (intOf i).toNat)
  case atStart => exact ⟨0, Nat.zero_le _, rfl, ⟨0, rfl, rfl⟩, Below.refl _ _⟩
  case round =>
    obtain ⟨k, hk, rfl, ⟨z, rfl, hz⟩, hB⟩ := hrel
    by_cases hlt : k < l.length
    · obtain ⟨b, off, rfl, hFb, hcell⟩ := ha (by omega)
      obtain ⟨kd', n', s', a', m', cap', a2, m2, cap2, a3, m3, cap3, hx, g0, g1, g2, g3, g4, g5⟩ := rows_at hcell hrow (hB.block b (hF b hFb)) k hlt
      clear ha hcell hrow
      have hs1 := St.sizes_take l k hlt
      have hs2 := St.sizes_take_le l (k + 1)
      have hs3 := St.size_eq l[k]
      obtain ⟨ihb, ihe⟩ := ih _ (List.getElem_mem hlt)
      have hI := hF.below hB
      obtain ⟨hkd, _, _, _, _, _, _, hxb, hxe⟩ := (hx.below hF hB (Nat.le_refl _)).parts
      have hcb : ∀ (p : Regrown), Calls Try.prog 18 #[.slice a2 m2 cap2] (grow (redrawn wr p.d) p.os) fun e w'' => e = .returned (.int .i64 (St.locsL (l[k]).body)) ∧ ∃ p : Regrown, w'' = grow (redrawn wr p.d) p.os :=
        fun p => regrown_gives (w := wr) (fun w' hb => ihb F w' _ (hI.below hb) (by omega) (hxb.below hI hb (Nat.le_refl _))) p
      have hce : ∀ (p : Regrown), Calls Try.prog 18 #[.slice a3 m3 cap3] (grow (redrawn wr p.d) p.os) fun e w'' => e = .returned (.int .i64 (St.locsL (l[k]).els)) ∧ ∃ p : Regrown, w'' = grow (redrawn wr p.d) p.os :=
        fun p => regrown_gives (w := wr) (fun w' hb => ihe F w' _ (hI.below hb) (by omega) (hxe.below hI hb (Nat.le_refl _))) p
      have hq4 : ∀ d os, (grow (redrawn wr d) os).cell? ⟨b, off + k * 6 + 4, none⟩ = some (.slice a2 m2 cap2) := fun d os => cell_regrown g4 d os
      have hq5 : ∀ d os, (grow (redrawn wr d) os).cell? ⟨b, off + k * 6 + 5, none⟩ = some (.slice a3 m3 cap3) := fun d os => cell_regrown g5 d os
      have hz2 := hz.out
      have hz3 := St.locsL_le (l.take k)
      have hz4 := St.locsL_nonneg (l.take k)
      have hz5 := St.locsL_le (l[k]).body
      have hz6 := St.locsL_nonneg (l[k]).body
      have hz7 := St.locsL_le (l[k]).els
      have hz8 := St.locsL_nonneg (l[k]).els
      have HS : Hid (St.locsL (l.take (k + 1)) = z + (addS kd' + St.locsL (l[k]).body + St.locsL (l[k]).els)) := by
        show _ = _
        rw [St.locsL_take l k hlt, hz.out, hkd]
      have q1 : 0 ≤ z := by omega
      have q2 : z ≤ 2000000 := by omega
      have q3 : 0 ≤ St.locsL (l[k]).body := hz6
      have q4 : St.locsL (l[k]).body ≤ 2000000 := by omega
      have q5 : 0 ≤ St.locsL (l[k]).els := hz8
      have q6 : St.locsL (l[k]).els ≤ 2000000 := by omega
      clear hz2 hz3 hz4 hz5 hz6 hz7 hz8 hz
      generalize St.locsL (l[k]).body = A at hcb q3 q4 HS
      generalize St.locsL (l[k]).els = E at hce q5 q6 HS
      have hcase : (kd' = 2 ∧ Hid (addS kd' = 1)) ∨ (kd' = 11 ∧ Hid (addS kd' = 2)) ∨ ((kd' == 2) = false ∧ (kd' == 11) = false ∧ Hid (addS kd' = 0)) := by
        unfold addS
        by_cases e2 : kd' = 2
        · exact .inl ⟨e2, if_pos e2⟩
        · by_cases e11 : kd' = 11
          · exact .inr (.inl ⟨e11, by show _ = _; rw [if_neg e2, if_pos e11]⟩)
          · exact .inr (.inr ⟨by simpa using e2, by simpa using e11, by show _ = _; rw [if_neg e2, if_neg e11]⟩)
      have HCb := Lib.hid hcb
      have HCe := Lib.hid hce
      clear ih hx hs1 hs2 hs3 hcb hce ihb ihe hxb hxe hsz hkd
      rcases hcase with ⟨rfl, hadd⟩ | ⟨rfl, hadd⟩ | ⟨e2, e11, hadd⟩
      all_goals (
        go_wp2_with fail
        refine wp_region_quiet_below (by kernel_rfl) (by kernel_rfl) ?_
        repeat (go_big_quiet_step (first | with_reducible exact HCb.out _ | with_reducible exact HCe.out _))
        refine wpQuiet_nil ?_
        intro w' hw'
        have hb := below_of_regrown hw'
        clear hw' HCb HCe
        go_wp2
        go_roundw
        case rel => exact ⟨k + 1, by omega, by go_num, ⟨_, rfl, by show _ = _; rw [HS.out, hadd.out]; omega⟩, below_on hB (Nat.le_refl _) hb⟩
        case measure => simp [intOf]; omega)
    · have : k = l.length := by omega
      subst this
      rw [List.take_length] at hz
      have hz0 := hz.out
      subst hz0
      go_wp2
      go_ret
      exact ⟨rfl, hB⟩

end Go.Proofs.Ytblhpiebheommaa
/- Chapter 16's example: what its table of names tells; the walks of example and named. -/
namespace Go.Proofs.Ytblhpiebheommaa
open Go.RowKit

def bX : ByteArray := { data := #[120] }
def bA : ByteArray := { data := #[97] }
def bC : ByteArray := { data := #[99] }
def bWorn : ByteArray := { data := #[119, 111, 114, 110] }
def bHall : ByteArray := { data := #[104, 97, 108, 108] }
def bHallT : ByteArray := { data := #[72, 97, 108, 108] }
def exO : ObjD := ⟨bHall, bHallT, ⟨#[]⟩, ⟨#[]⟩, true, [], [], [], [], []⟩
def exS : SrcD := ⟨⟨#[]⟩, ⟨#[]⟩, bHall, 0, 0, [bWorn], [], [], [exO], [], [], [], []⟩

theorem findN_no {t : List NameD} {n : ByteArray} (h : ∀ y ∈ t, y.name ≠ n) : findN t n = none := List.find?_eq_none.2 fun y hy => by simpa using h y hy

theorem name_worn : IsName bWorn := by
  refine ⟨by decide, by decide, ⟨by decide, by decide⟩, fun i hi => ?_⟩
  have hi2 : i < 4 := hi
  match i, hi2 with
  | 0, _ => exact Or.inl ⟨by show 97 ≤ (119 : UInt8).toNat; decide, by show (119 : UInt8).toNat ≤ 122; decide⟩
  | 1, _ => exact Or.inl ⟨by show 97 ≤ (111 : UInt8).toNat; decide, by show (111 : UInt8).toNat ≤ 122; decide⟩
  | 2, _ => exact Or.inl ⟨by show 97 ≤ (114 : UInt8).toNat; decide, by show (114 : UInt8).toNat ≤ 122; decide⟩
  | 3, _ => exact Or.inl ⟨by show 97 ≤ (110 : UInt8).toNat; decide, by show (110 : UInt8).toNat ≤ 122; decide⟩
theorem name_hall : IsName bHall := by
  refine ⟨by decide, by decide, ⟨by decide, by decide⟩, fun i hi => ?_⟩
  have hi2 : i < 4 := hi
  match i, hi2 with
  | 0, _ => exact Or.inl ⟨by show 97 ≤ (104 : UInt8).toNat; decide, by show (104 : UInt8).toNat ≤ 122; decide⟩
  | 1, _ => exact Or.inl ⟨by show 97 ≤ (97 : UInt8).toNat; decide, by show (97 : UInt8).toNat ≤ 122; decide⟩
  | 2, _ => exact Or.inl ⟨by show 97 ≤ (108 : UInt8).toNat; decide, by show (108 : UInt8).toNat ≤ 122; decide⟩
  | 3, _ => exact Or.inl ⟨by show 97 ≤ (108 : UInt8).toNat; decide, by show (108 : UInt8).toNat ≤ 122; decide⟩
theorem key_worn : ¬ IsKey bWorn := by unfold IsKey; decide +kernel
theorem key_hall : ¬ IsKey bHall := by unfold IsKey; decide +kernel

noncomputable def exT : List NameD := putN (putN namesStart ⟨bWorn, 1, 4⟩) ⟨bHall, 4, 2⟩
theorem exT_mem {y : NameD} : y ∈ exT ↔ y = ⟨bHall, 4, 2⟩ ∨ y = ⟨bWorn, 1, 4⟩ ∨ y ∈ namesStart := by unfold exT; rw [putN_mem, putN_mem]
theorem start_ne (n : ByteArray) (h : namesStart.all (fun y => decide (y.name ≠ n)) = true) : ∀ y ∈ namesStart, y.name ≠ n := fun y hy => by
  have := List.all_eq_true.1 h y hy
  simpa using this
theorem exT_made : mkT exS.ents namesStart = some exT := by
  show mkT [⟨bWorn, 1, 2, 0, 4, 12⟩, ⟨bHall, 4, 5, 0, 2, 126⟩] namesStart = _
  unfold mkT
  rw [if_pos (dec_true ⟨name_worn, key_worn, findN_no (start_ne _ (by decide)), by decide⟩)]
  unfold mkT
  rw [if_pos (dec_true ⟨name_hall, key_hall, findN_no (fun y hy => by
    rcases putN_mem.1 hy with rfl | hy
    · decide
    · exact start_ne _ (by decide) y hy), by decide⟩)]
  rfl
theorem exT_rises : Rises exT := (mkT_ok _ _ _ exT_made start_rises).1
theorem exT_len : exT.length = 6 := (mkT_ok _ _ _ exT_made start_rises).2.1
theorem exT_fit : NamesFit exT := fun y hy => by
  rcases exT_mem.1 hy with rfl | rfl | hy
  · exact ⟨by unfold maxLen; decide, by simp only [I64]; omega, by simp only [I64]; omega⟩
  · exact ⟨by unfold maxLen; decide, by simp only [I64]; omega, by simp only [I64]; omega⟩
  · simp only [namesStart, List.mem_cons, List.not_mem_nil, or_false] at hy
    rcases hy with rfl | rfl | rfl | rfl <;> exact ⟨by unfold maxLen; decide, by simp only [I64]; omega, by simp only [I64]; omega⟩
theorem exT_tab : TabOk exT [] 1 := fun y hy => by
  rcases exT_mem.1 hy with rfl | rfl | hy
  · exact ⟨fun h => absurd h (by decide), fun _ => by decide⟩
  · exact ⟨fun h => absurd h (by decide), fun h => absurd h (by decide)⟩
  · simp only [namesStart, List.mem_cons, List.not_mem_nil, or_false] at hy
    rcases hy with rfl | rfl | rfl | rfl <;> exact ⟨fun h => absurd h (by decide), fun h => absurd h (by decide)⟩
theorem exT_no (n : ByteArray) (h1 : bHall ≠ n) (h2 : bWorn ≠ n) (h : namesStart.all (fun y => decide (y.name ≠ n)) = true) : findN exT n = none := findN_no fun y hy => by
  rcases exT_mem.1 hy with rfl | rfl | hy
  · exact h1
  · exact h2
  · exact start_ne _ h y hy
theorem exT_x : findN exT bX = none := exT_no _ (by decide) (by decide) (by decide)
theorem exT_a : findN exT bA = none := exT_no _ (by decide) (by decide) (by decide)
theorem exT_worn : findN exT bWorn = some ⟨bWorn, 1, 4⟩ := exT_rises.find (x := ⟨bWorn, 1, 4⟩) (exT_mem.2 (.inr (.inl rfl)))
theorem exT_hall : findN exT bHall = some ⟨bHall, 4, 2⟩ := exT_rises.find (x := ⟨bHall, 4, 2⟩) (exT_mem.2 (.inl rfl))

def exName (n : ByteArray) : Ex := .mk 3 0 0 n []
def exOne : Ex := .mk 1 0 1 ⟨#[]⟩ []
def exLet : St := .mk 2 0 bA [exOne] [] []
def exStop : St := .mk 13 0 ⟨#[]⟩ [] [] []
def exEach : St := .mk 11 0 bC [exOne] [exLet] []

theorem ex_w_x : (exName bX).kW exT [] [] = (11, bX) := by
  show seqW (ownEx exT [] [] 3 bX 0) fineW = _
  have : ownEx exT [] [] 3 bX 0 = (11, bX) := by
    show eitherW exT [] [3, 4] bX = _
    unfold eitherW
    rw [if_neg (by rw [dec_false (by simp)]; decide), exT_x]
  rw [this]; rfl
theorem ex_w_worn : (exName bWorn).kW exT [] [] = (12, bWorn) := by
  show seqW (ownEx exT [] [] 3 bWorn 0) fineW = _
  have : ownEx exT [] [] 3 bWorn 0 = (12, bWorn) := by
    show eitherW exT [] [3, 4] bWorn = _
    unfold eitherW
    rw [if_neg (by rw [dec_false (by simp)]; decide), exT_worn]
    rfl
  rw [this]; rfl
theorem ex_w_lets : St.kWs exT [] 7 [] 0 [exLet, exLet] = (10, bA) := by
  rw [St.kWs_cons, St.kWs_cons]
  show seqW fineW (seqW (freshW exT [] bA (0 + 1)) (seqW fineW (seqW fineW (seqW fineW (seqW (freshW exT [bA] bA (0 + 1 + 0 + 0 + 1)) _))))) = _
  have h1 : freshW exT [] bA (0 + 1) = fineW := by
    unfold freshW
    rw [exT_a, dec_false (by simp)]; rfl
  have h2 : freshW exT [bA] bA (0 + 1 + 0 + 0 + 1) = (10, bA) := by
    unfold freshW
    rw [exT_a, dec_true (by simp)]; rfl
  rw [h1, h2]; rfl
theorem ex_w_stop : St.kWs exT [] 8 [] 0 [exStop] = (18, ⟨#[]⟩) := by
  rw [St.kWs_cons]
  rfl
theorem ex_locs : St.locsL [exEach] = 3 := by rfl
theorem ex_room : roomW exT [exO] bHall = fineW := by
  have : ofN exT 4 bHall = (2, 0) := by unfold ofN; rw [exT_hall]; rfl
  unfold roomW
  rw [this]; rfl
end Go.Proofs.Ytblhpiebheommaa
/- The walks of clewlaw16's example and named. -/
namespace Go.Proofs.Ytblhpiebheommaa
open Go.RowKit

def exSS (a b : Nat) : List Value := [.string ⟨#[]⟩, .string ⟨#[]⟩, .string { data := #[104, 97, 108, 108] }, .int .i64 0, .int .i64 0, .slice (some ⟨a, 0, none⟩) 1 1, .slice none 0 0, .slice none 0 0, .slice (some ⟨b, 0, none⟩) 1 1, .slice none 0 0, .slice none 0 0, .slice none 0 0, .slice none 0 0]
def exOO : List Value := [.string { data := #[104, 97, 108, 108] }, .string { data := #[72, 97, 108, 108] }, .string ⟨#[]⟩, .string ⟨#[]⟩, .bool true, .slice none 0 0, .slice none 0 0, .slice none 0 0, .slice none 0 0, .slice none 0 0]
theorem exS_held {F : Nat → Prop} {w : World} {a b : Nat} (ha : F a) (hb : F b) (h1 : Bx w a [.string { data := #[119, 111, 114, 110] }]) (h2 : Bx w b exOO) : Holds.src.R F w exS (exSS a b) := by
  have hn : ∀ {α : Type} (R : Holds α) (sz : Nat), RdL R sz F w [] (.slice none 0 0) := fun R sz => RdL.nil R sz F w none 0 (Nat.zero_le _)
  refine ⟨by unfold maxLen; decide, by unfold maxLen; decide, by unfold maxLen; decide, by simp only [I64]; decide, by simp only [I64]; decide, _, _, _, _, _, _, _, _, rfl, ?_, hn _ _, hn _ _, ?_, hn _ _, hn _ _, hn _ _, hn _ _⟩
  · refine ⟨fun _ _ => .string { data := #[119, 111, 114, 110] }, ⟨_, _, rfl, Nat.le_refl _, by unfold maxLen; decide, fun _ => ⟨a, 0, rfl, ha, fun i hi j hj => ?_⟩⟩, fun i hi => ?_⟩
    · have hi2 : i < 1 := hi
      obtain rfl : i = 0 := by omega
      obtain rfl : j = 0 := by omega
      exact h1 0 (by simp)
    · have hi2 : i < 1 := hi
      obtain rfl : i = 0 := by omega
      exact ⟨show bWorn.size ≤ maxLen by unfold maxLen; decide, rfl⟩
  · refine ⟨fun _ j => exOO.getD j undef, ⟨_, _, rfl, Nat.le_refl _, by unfold maxLen; decide, fun _ => ⟨b, 0, rfl, hb, fun i hi j hj => ?_⟩⟩, fun i hi => ?_⟩
    · have hi2 : i < 1 := hi
      obtain rfl : i = 0 := by omega
      rw [show 0 + 0 * 10 + j = j by omega, h2 j hj]
      show _ = some (exOO.getD j undef)
      rw [List.getD_eq_getElem?_getD, List.getElem?_eq_getElem (show j < exOO.length from hj)]
      rfl
    · have hi2 : i < 1 := hi
      obtain rfl : i = 0 := by omega
      exact ⟨show bHall.size ≤ maxLen by unfold maxLen; decide, show bHallT.size ≤ maxLen by unfold maxLen; decide, Nat.zero_le _, Nat.zero_le _, _, _, _, _, _, rfl, hn _ _, hn _ _, hn _ _, hn _ _, hn _ _⟩

def ExPost (w : World) (e : Ending) (w' : World) : Prop := ∃ a b, e = .returned (.agg (exSS a b).toArray) ∧ Holds.src.R (NewB w.heap.size w'.heap.size) w' exS (exSS a b) ∧ Below w.heap.size w w'

set_option maxRecDepth 100000 in
set_option maxHeartbeats 2000000 in
theorem example_calls (w : World) : Calls Try.prog 30 #[] w (ExPost w) := by
  go_enter Try.func30, Try.ntmps30
  go_wp2
  refine bodyPost_ret (v := .agg (exSS (w.heap.size + 1) (w.heap.size + 1 + 1)).toArray) (by simp [results, Try.results30, go_sem, exSS]; try rfl) rfl ⟨w.heap.size + 1, w.heap.size + 1 + 1, rfl, exS_held ⟨by omega, by simp⟩ ⟨by omega, by simp⟩ ?_ ?_, (((Below.refl _ w).alloc (Nat.le_refl _) _).alloc (by simp) _).alloc (by simp <;> omega) _⟩
  · exact (bx_new _ _ _ _ (by simp)).alloc (by simp) _
  · exact bx_new _ _ _ _ (by simp)

set_option maxRecDepth 100000 in
set_option maxHeartbeats 2000000 in
theorem named_calls (n : ByteArray) (w : World) : Calls Try.prog 31 #[.string n] w (Gives w (.agg #[.int .i64 3, .int .i64 0, .int .i64 0, .string n, .slice none 0 0])) := by
  go_enter Try.func31, Try.ntmps31
  go_wp2
  exact bodyPost_ret (v := .agg #[.int .i64 3, .int .i64 0, .int .i64 0, .string n, .slice none 0 0]) (by simp [results, Try.results31, go_sem]; try rfl) rfl ⟨rfl, (Below.refl _ w).alloc (Nat.le_refl _) _⟩
end Go.Proofs.Ytblhpiebheommaa
