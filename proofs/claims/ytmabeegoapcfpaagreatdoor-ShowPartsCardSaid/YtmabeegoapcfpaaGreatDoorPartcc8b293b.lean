/- The walk of tree.each: whether all of a list are so, whatever function is asked. -/
import Derived.Test.YtmabeegoapcfpaaGreatDoorShaped
import Derived.Test.YtmabeegoapcfpaaGreatDoorPart20aa6447
namespace Go.Proofs.YtmabeegoapcfpaaGreatDoor
open Go.RowKit Go.Sort
def Asks (F : Nat → Prop) (w : World) (f : Nat) (caps : Array Value) (x : Ex) (b : Bool) : Prop := ∀ (w' : World) (cs : List Value), Below w.heap.size w w' → RdEx F w' x cs → Calls Tryz.prog f (#[.agg cs.toArray] ++ caps) w' (Gives w' (.bool b))
set_option maxRecDepth 100000 in
set_option maxHeartbeats 1000000 in
theorem each_calls (F : Nat → Prop) (w : World) (f : Nat) (caps : Array Value) (l : List Ex) (v : Value) (P : Ex → Prop) (hF : Inn F w) (hr : Exs F w l v) (hcf : ∀ (args : Array Value) (w : World), (callFunc f args).run Tryz.prog w = .ok (.enter f args) w) (hf : ∀ x ∈ l, Asks F w f caps x (dec (P x))) :
    Calls Tryz.prog 152 #[v, .func (.func f) #[] caps] w (Gives w (.bool (dec (∀ x ∈ l, P x)))) := by
  obtain ⟨a, cap, rfl⟩ := hr.shape
  obtain ⟨_, hl, hc, ha⟩ := hr.opn
  go_enter Tryz.func152, Tryz.ntmps152
  go_wp2
  go_loopw [9] (fun i wr => ∃ (k : Nat), k ≤ l.length ∧ i = .int .i64 k ∧ Hid (∀ x ∈ l.take k, P x) ∧ Below w.heap.size w wr) (fun i _ => l.length - (intOf i).toNat)
  case atStart => exact ⟨0, Nat.zero_le _, rfl, by simp [Hid], Below.refl _ _⟩
  case round =>
    obtain ⟨k, hk, rfl, hq, hB⟩ := hrel
    by_cases hlt : k < l.length
    · obtain ⟨b, off, rfl, hFb, hel⟩ := ha (by omega)
      obtain ⟨kd', o', n', s', a', m', cap', hx, g0, g1, g2, g3, g4⟩ := hel wr (hB.block b (hF b hFb)) k hlt
      clear ha hel
      have hI := hF.below hB
      have hcall : ∀ o, Calls Tryz.prog f (#[.agg #[.int .i64 kd', .int .i64 o', .int .i64 n', .string s', .slice a' m' cap']] ++ caps) (wr.alloc o) (Gives (wr.alloc o) (.bool (dec (P l[k])))) := fun o =>
        hf _ (List.getElem_mem hlt) (wr.alloc o) _ (hB.alloc hB.size o) ((hx.below hF hB (Nat.le_refl _)).alloc hI o)
      have hte : l.take (k + 1) = l.take k ++ [l[k]] := List.take_succ_eq_append_getElem hlt
      by_cases hP : P l[k]
      · rw [dec_true hP] at hcall
        have hnx : Hid (∀ x ∈ l.take (k + 1), P x) := by
          show ∀ x ∈ l.take (k + 1), P x
          rw [hte]; intro x hx1
          rcases List.mem_append.1 hx1 with h | h
          · exact hq.out x h
          · rw [List.mem_singleton.1 h]; exact hP
        have HC := Lib.hid hcall
        clear hcall hx hf hte hP hq
        go_wp2_with ((with_reducible refine (HC.out _).mono ?_); rintro e w' ⟨rfl, hb⟩)
        go_roundw
        case rel => exact ⟨k + 1, by omega, by go_num, hnx, below_on1 hB (Nat.le_refl _) hb⟩
        case measure => simp [intOf]; omega
      · rw [dec_false hP] at hcall
        have hfin : Hid (dec (∀ x ∈ l, P x) = false) := dec_false (fun h => hP (h _ (List.getElem_mem hlt)))
        have HC := Lib.hid hcall
        clear hcall hx hf hte hP hq
        go_wp2_with ((with_reducible refine (HC.out _).mono ?_); rintro e w' ⟨rfl, hb⟩)
        go_ret
        exact ⟨ret_bool hfin.out.symm, below_on1 hB (Nat.le_refl _) hb⟩
    · have : k = l.length := by omega
      subst this
      have hfin : Hid (dec (∀ x ∈ l, P x) = true) := dec_true (by have := hq.out; rwa [List.take_length] at this)
      clear hq hf ha
      go_wp2
      go_ret
      exact ⟨ret_bool hfin.out.symm, hB⟩
end Go.Proofs.YtmabeegoapcfpaaGreatDoor
/- The walks of tree.source, its closure, and tree.Right. -/
namespace Go.Proofs.YtmabeegoapcfpaaGreatDoor
open Go.RowKit Go.Sort
mutual
def Src : Ex → Prop
  | .mk k o n s args => (1 ≤ k ∧ k ≤ 13) ∧ Shaped k o n s args.length ∧ (k = 1 → 0 ≤ n ∧ n ≤ 32767) ∧ (k = 2 → IsText s) ∧ (k = 3 ∨ k = 7 ∨ k = 8 ∨ k = 9 → IsNm s) ∧ Srcs args
def Srcs : List Ex → Prop
  | [] => True
  | a :: l => (¬ SaidK a.kind ∧ Src a) ∧ Srcs l
end
theorem srcs_iff (l : List Ex) : Srcs l ↔ ∀ a ∈ l, ¬ SaidK a.kind ∧ Src a := by
  induction l with
  | nil => simp [Srcs]
  | cons a l ih => simp [Srcs, ih]
def SourceC (e : Ex) : Prop := ∀ (F : Nat → Prop) (w : World) (cs : List Value), Inn F w → MX w → RdEx F w e cs →
    Calls Tryz.prog 85 #[.agg cs.toArray] w (Gives w (.bool (dec (Src e))))
set_option maxHeartbeats 400000 in
theorem source1_calls (e : Ex) (h : SourceC e) (F : Nat → Prop) (w : World) (cs : List Value) (hF : Inn F w) (hm : MX w) (hr : RdEx F w e cs) :
    Calls Tryz.prog 153 #[.agg cs.toArray] w (Gives w (.bool (dec (¬ SaidK e.kind ∧ Src e)))) := by
  obtain ⟨k, o, n, s, a, m, cap, rfl⟩ := hr.shape
  have hk : e.kind = k := hr.parts.1
  have hc := fun ob => h F (w.alloc ob) _ (hF.alloc ob) (hm.alloc ob) (hr.alloc hF ob)
  have hsd := fun w => said_calls k w
  rw [hk]
  clear h hr hm hF hk
  by_cases hs : SaidK k
  · rw [dec_true hs] at hsd
    have hfin : Hid (dec (¬ SaidK k ∧ Src e) = false) := dec_false (fun h => h.1 hs)
    have HS := Lib.hid hsd
    clear hsd hc hs
    go_enter Tryz.func153, Tryz.ntmps153
    go_wp2_with (go_at_call 154; refine (HS.out _).mono ?_; rintro e w' ⟨rfl, rfl⟩)
    go_ret
    exact ⟨ret_bool hfin.out.symm, (Below.refl _ _).alloc (Nat.le_refl _) _⟩
  · rw [dec_false hs] at hsd
    have hfin : Hid (dec (¬ SaidK k ∧ Src e) = dec (Src e)) := dec_congr (by simp [hs])
    have HS := Lib.hid hsd
    have HC := Lib.hid hc
    clear hsd hc hs
    go_enter Tryz.func153, Tryz.ntmps153
    go_wp2_with (first | (go_at_call 154; refine (HS.out _).mono ?_; rintro e w' ⟨rfl, rfl⟩) | (go_at_call 85; refine (HC.out _).mono ?_; rintro e w' ⟨rfl, hb⟩))
    go_ret
    exact ⟨ret_bool hfin.out.symm, below_on1 (Below.refl _ _) (Nat.le_refl _) hb⟩
theorem callFunc_source1 (args : Array Value) (w : World) : (callFunc 153 args).run Tryz.prog w = .ok (.enter 153 args) w := by
  go_simp
set_option maxRecDepth 100000 in
set_option maxHeartbeats 2000000 in
theorem source_calls (e : Ex) : SourceC e := by
  induction e using Ex.ind with
  | h k o n s args ih =>
  intro F w cs hF hm hr
  obtain ⟨k', o', n', s', a, m, cap, rfl⟩ := hr.shape
  obtain ⟨rfl, rfl, rfl, rfl, _, _, _, hsz, hxa⟩ := hr.parts
  simp only [Ex.kind, Ex.op, Ex.num, Ex.name, Ex.args] at *
  obtain ⟨rfl, _, _, _⟩ := hxa.opn
  have hR : Hid (dec (Src (.mk k o n s args)) = dec ((1 ≤ k ∧ k ≤ 13) ∧ Shaped k o n s args.length ∧ (k = 1 → 0 ≤ n ∧ n ≤ 32767) ∧ (k = 2 → IsText s) ∧ (k = 3 ∨ k = 7 ∨ k = 8 ∨ k = 9 → IsNm s) ∧ (∀ x ∈ args, ¬ SaidK x.kind ∧ Src x))) := dec_congr (by simp only [Src, srcs_iff])
  have hea : ∀ w', Below w.heap.size w w' → Calls Tryz.prog 152 #[.slice a args.length cap, .func (.func 153) #[] #[]] w' (Gives w' (.bool (dec (∀ x ∈ args, ¬ SaidK x.kind ∧ Src x)))) := fun w' hb =>
    each_calls F w' 153 #[] args _ (fun x => ¬ SaidK x.kind ∧ Src x) (hF.below hb) (hxa.below hF hb (Nat.le_refl _)) callFunc_source1 (fun x hx w2 cs hb2 hr2 => by
      simpa using source1_calls x (ih x hx) F w2 cs ((hF.below hb).below hb2) ((hm.below hb (Nat.le_refl _)).below hb2 (Nat.le_refl _)) hr2)
  have hsh := fun w => shaped_calls k o n s a args.length cap w
  have htx := fun w => isText_calls s w hsz
  have hnm : ∀ w', Below w.heap.size w w' → Calls Tryz.prog 87 #[.string s] w' (Same0 w' (.bool (dec (IsNm s)))) := fun w' hb => nameT_calls s w' hsz (hm.below hb (Nat.le_refl _))
  have hE2 : k = 2 → Shaped k o n s args.length → (∀ x ∈ args, ¬ SaidK x.kind ∧ Src x) := fun hk hs => by
    subst hk
    have h0 : args.length ≤ 0 := hs.2.2.2.2.2.1
    rw [List.length_eq_zero_iff.1 (Nat.le_zero.1 h0)]
    simp
  generalize dec (Src (.mk k o n s args)) = R at *
  generalize hEa : (∀ x ∈ args, ¬ SaidK x.kind ∧ Src x) = EA at *
  generalize hSh : Shaped k o n s args.length = SH at *
  generalize hTx : IsText s = TX at *
  generalize hNm : IsNm s = NM at *
  clear ih hr hm hF hxa hsz hEa hSh hTx hNm
  have HE := Lib.hid hea
  have HT := Lib.hid htx
  have HE2 := Lib.hid hE2
  clear hea htx hE2
  by_cases hk1 : 1 ≤ k
  rotate_left
  · obtain rfl : R = false := by rw [hR.out]; exact dec_false (by omega)
    have d1 : decide (k < 1) = true := by simp; omega
    clear hR hsh hnm
    go_enter Tryz.func85, Tryz.ntmps85
    go_wp2
    go_ret
    exact ⟨rfl, (Below.refl _ _).alloc (Nat.le_refl _) _⟩
  have d1 : decide (k < 1) = false := by simp; omega
  by_cases hk2 : k ≤ 13
  rotate_left
  · obtain rfl : R = false := by rw [hR.out]; exact dec_false (by omega)
    have d2 : decide (13 < k) = true := by simp; omega
    clear hR hsh hnm
    go_enter Tryz.func85, Tryz.ntmps85
    go_wp2
    go_ret
    exact ⟨rfl, (Below.refl _ _).alloc (Nat.le_refl _) _⟩
  have d2 : decide (13 < k) = false := by simp; omega
  by_cases hsh1 : SH
  rotate_left
  · obtain rfl : R = false := by rw [hR.out]; exact dec_false (fun h => hsh1 h.2.1)
    rw [dec_false hsh1] at hsh
    have HS := Lib.hid hsh
    clear hR hsh hnm hsh1
    go_enter Tryz.func85, Tryz.ntmps85
    go_wp2_with (go_at_call 151; refine (HS.out _).mono ?_; rintro e w' ⟨rfl, hb⟩)
    go_ret
    exact ⟨rfl, below_on1 (Below.refl _ _) (Nat.le_refl _) hb⟩
  rw [dec_true hsh1] at hsh
  have HS := Lib.hid hsh
  clear hsh
  have hcs : k = 1 ∨ k = 2 ∨ k = 3 ∨ k = 7 ∨ k = 8 ∨ k = 9 ∨ (k ≠ 1 ∧ k ≠ 2 ∧ k ≠ 3 ∧ k ≠ 7 ∧ k ≠ 8 ∧ k ≠ 9) := by omega
  rcases hcs with rfl | rfl | rfl | rfl | rfl | rfl | ⟨c1, c2, c3, c4, c5, c6⟩
  case inl =>
    by_cases hn0 : 0 ≤ n
    rotate_left
    · obtain rfl : R = false := by rw [hR.out]; exact dec_false (fun h => hn0 (h.2.2.1 rfl).1)
      have q : decide (n < 0) = true := by simp; omega
      clear hR hnm hsh1
      go_enter Tryz.func85, Tryz.ntmps85
      go_wp2_with (go_at_call 151; refine (HS.out _).mono ?_; rintro e w' ⟨rfl, hb⟩; obtain ⟨hcl, hfz⟩ := bcell hb; have hz1 := one_new hb)
      go_ret
      exact ⟨rfl, below_on1 (Below.refl _ _) (Nat.le_refl _) hb⟩
    have q : decide (n < 0) = false := by simp; omega
    by_cases hn1 : n ≤ 32767
    rotate_left
    · obtain rfl : R = false := by rw [hR.out]; exact dec_false (fun h => hn1 (h.2.2.1 rfl).2)
      have q2 : decide (32767 < n) = true := by simp; omega
      clear hR hnm hsh1
      go_enter Tryz.func85, Tryz.ntmps85
      go_wp2_with (go_at_call 151; refine (HS.out _).mono ?_; rintro e w' ⟨rfl, hb⟩; obtain ⟨hcl, hfz⟩ := bcell hb; have hz1 := one_new hb)
      go_ret
      exact ⟨rfl, below_on1 (Below.refl _ _) (Nat.le_refl _) hb⟩
    have q2 : decide (32767 < n) = false := by simp; omega
    obtain rfl : R = dec EA := by rw [hR.out]; exact dec_congr (by simp [hsh1, hn0, hn1])
    clear hR hnm hsh1
    go_enter Tryz.func85, Tryz.ntmps85
    go_wp2_with (first | (go_at_call 151; refine (HS.out _).mono ?_; rintro e w' ⟨rfl, hb⟩; obtain ⟨hcl, hfz⟩ := bcell hb; have hz1 := one_new hb) | (go_at_call 152; refine (HE.out _ (below_on1 (Below.refl _ _) (Nat.le_refl _) hb)).mono ?_; rintro e w2 ⟨rfl, hb2⟩))
    go_ret
    exact ⟨rfl, below_on (below_on1 (Below.refl _ _) (Nat.le_refl _) hb) (Nat.le_refl _) hb2⟩
  case inr.inl =>
    obtain rfl : R = dec TX := by rw [hR.out]; exact dec_congr (by simp [hsh1, HE2.out rfl hsh1])
    clear hR hnm hsh1
    go_enter Tryz.func85, Tryz.ntmps85
    go_wp2_with (first | (go_at_call 151; refine (HS.out _).mono ?_; rintro e w' ⟨rfl, hb⟩; obtain ⟨hcl, hfz⟩ := bcell hb; have hz1 := one_new hb) | (go_at_call 23; refine (HT.out _).mono ?_; rintro e w2 ⟨rfl, rfl⟩))
    go_ret
    exact ⟨rfl, below_on1 (Below.refl _ _) (Nat.le_refl _) hb⟩
  case inr.inr.inr.inr.inr.inr =>
    obtain rfl : R = dec EA := by rw [hR.out]; exact dec_congr (by simp [hsh1, hk1, hk2, c1, c2, c3, c4, c5, c6])
    have z1 : (k == 1) = false := by simpa using c1
    have z2 : (k == 2) = false := by simpa using c2
    have z3 : (k == 3) = false := by simpa using c3
    have z4 : (k == 7) = false := by simpa using c4
    have z5 : (k == 8) = false := by simpa using c5
    have z6 : (k == 9) = false := by simpa using c6
    clear hR hnm hsh1 c1 c2 c3 c4 c5 c6
    go_enter Tryz.func85, Tryz.ntmps85
    go_wp2_with (first | (go_at_call 151; refine (HS.out _).mono ?_; rintro e w' ⟨rfl, hb⟩; obtain ⟨hcl, hfz⟩ := bcell hb; have hz1 := one_new hb) | (go_at_call 152; refine (HE.out _ (below_on1 (Below.refl _ _) (Nat.le_refl _) hb)).mono ?_; rintro e w2 ⟨rfl, hb2⟩))
    go_ret
    exact ⟨rfl, below_on (below_on1 (Below.refl _ _) (Nat.le_refl _) hb) (Nat.le_refl _) hb2⟩
  all_goals
    by_cases hn : NM
    · obtain rfl : R = dec EA := by rw [hR.out]; exact dec_congr (by simp [hsh1, hn])
      rw [show dec NM = true from dec_true hn] at hnm
      have HN := Lib.hid hnm
      clear hR hnm hsh1 hn
      go_enter Tryz.func85, Tryz.ntmps85
      go_wp2_with (first | (go_at_call 151; refine (HS.out _).mono ?_; rintro e w' ⟨rfl, hb⟩; obtain ⟨hcl, hfz⟩ := bcell hb; have hz1 := one_new hb) | (go_at_call 87; refine (HN.out _ (below_on1 (Below.refl _ _) (Nat.le_refl _) hb)).mono ?_; rintro e w2 ⟨rfl, rfl⟩) | (go_at_call 152; refine (HE.out _ (below_on1 (Below.refl _ _) (Nat.le_refl _) hb)).mono ?_; rintro e w2 ⟨rfl, hb2⟩))
      go_ret
      exact ⟨rfl, below_on (below_on1 (Below.refl _ _) (Nat.le_refl _) hb) (Nat.le_refl _) hb2⟩
    · obtain rfl : R = false := by rw [hR.out]; exact dec_false (fun h => hn (h.2.2.2.2.1 (by simp)))
      rw [show dec NM = false from dec_false hn] at hnm
      have HN := Lib.hid hnm
      clear hR hnm hsh1 hn
      go_enter Tryz.func85, Tryz.ntmps85
      go_wp2_with (first | (go_at_call 151; refine (HS.out _).mono ?_; rintro e w' ⟨rfl, hb⟩; obtain ⟨hcl, hfz⟩ := bcell hb; have hz1 := one_new hb) | (go_at_call 87; refine (HN.out _ (below_on1 (Below.refl _ _) (Nat.le_refl _) hb)).mono ?_; rintro e w2 ⟨rfl, rfl⟩))
      go_ret
      exact ⟨rfl, below_on1 (Below.refl _ _) (Nat.le_refl _) hb⟩
def RightE (e : Ex) : Prop := e.depth ≤ 32 ∧ Src e
def RightC (e : Ex) : Prop := ∀ (F : Nat → Prop) (w : World) (cs : List Value), Inn F w → MX w → RdEx F w e cs →
    Calls Tryz.prog 161 #[.agg cs.toArray] w (Gives w (.bool (dec (RightE e))))
set_option maxHeartbeats 1000000 in
theorem rightT_calls (e : Ex) : RightC e := by
  intro F w cs hF hm hr
  obtain ⟨k, o, n, s, a, m, cap, rfl⟩ := hr.shape
  have hd := fun o => depthT_calls e F (w.alloc o) _ (hF.alloc o) (hr.alloc hF o)
  have hs : ∀ ob w', Below (w.alloc ob).heap.size (w.alloc ob) w' → Calls Tryz.prog 85 #[.agg #[.int .i64 k, .int .i64 o, .int .i64 n, .string s, .slice a m cap]] w' (Gives w' (.bool (dec (Src e)))) := fun ob w' hb =>
    source_calls e F w' _ ((hF.alloc ob).below hb) ((hm.alloc ob).below hb (Nat.le_refl _)) ((hr.alloc hF ob).below (hF.alloc ob) hb (Nat.le_refl _))
  have hR : Hid (dec (RightE e) = dec (e.depth ≤ 32 ∧ Src e)) := rfl
  generalize dec (RightE e) = R at *
  generalize hS : Src e = S at *
  generalize hD : e.depth = D at *
  have HD := Lib.hid hd
  have HS := Lib.hid hs
  clear hd hs hr hm hF hS hD
  by_cases h32 : D ≤ 32
  · obtain rfl : R = dec S := by rw [hR.out]; exact dec_congr (by simp [h32])
    have q : ((min D 65 : Nat) : Int) ≤ 32 := by omega
    clear hR h32
    go_enter Tryz.func161, Tryz.ntmps161
    go_wp2_with (first | (go_at_call 162; refine (HD.out _).mono ?_; rintro e w' ⟨rfl, hb⟩; obtain ⟨hcl, hfz⟩ := bcell hb; have hz1 := one_new hb) | (go_at_call 85; refine (HS.out _ _ hb).mono ?_; rintro e w2 ⟨rfl, hb2⟩))
    go_ret
    exact ⟨rfl, below_on (below_on1 (Below.refl _ _) (Nat.le_refl _) hb) (Nat.le_refl _) hb2⟩
  · obtain rfl : R = false := by rw [hR.out]; exact dec_false (fun h => h32 h.1)
    have q : ¬ ((min D 65 : Nat) : Int) ≤ 32 := by omega
    have q2 : decide (((min D 65 : Nat) : Int) ≤ 32) = false := by simpa using q
    clear hR h32 HS
    go_enter Tryz.func161, Tryz.ntmps161
    go_wp2_with (go_at_call 162; refine (HD.out _).mono ?_; rintro e w' ⟨rfl, hb⟩; obtain ⟨hcl, hfz⟩ := bcell hb; have hz1 := one_new hb)
    go_ret
    exact ⟨by first | rfl | (congr 2; omega) | simp, below_on1 (Below.refl _ _) (Nat.le_refl _) hb⟩
end Go.Proofs.YtmabeegoapcfpaaGreatDoor
/- The walks of clewref10.bare and clewref10.among. -/
namespace Go.Proofs.YtmabeegoapcfpaaGreatDoor
open Go.RowKit Go.Sort
theorem among_calls (n lo hi : Int) (w : World) : Calls Tryz.prog 231 #[.int .i64 n, .int .i64 lo, .int .i64 hi] w (Same0 w (.bool (dec (lo ≤ n ∧ n ≤ hi)))) := by
  by_cases h : lo ≤ n
  · have e : Hid (dec (lo ≤ n ∧ n ≤ hi) = decide (n ≤ hi)) := by
      show dec _ = _
      by_cases h2 : n ≤ hi
      · rw [dec_true ⟨h, h2⟩]; symm; simpa using h2
      · rw [dec_false (fun h3 => h2 h3.2)]; symm; simpa using h2
    go_enter Tryz.func231, Tryz.ntmps231
    go_wp2
    go_ret
    exact ⟨ret_bool e.out.symm, rfl⟩
  · have e : Hid (dec (lo ≤ n ∧ n ≤ hi) = false) := dec_false (fun h3 => h h3.1)
    go_enter Tryz.func231, Tryz.ntmps231
    go_wp2
    go_ret
    exact ⟨ret_bool e.out.symm, rfl⟩
def Bare (o n : Int) (s : ByteArray) (m : Nat) (args : Int) (op num named : Bool) : Prop := (m : Int) = args ∧ (op = true ∨ o = 0) ∧ (num = true ∨ n = 0) ∧ (named = true ∨ s = ByteArray.empty)
set_option maxRecDepth 100000 in
set_option maxHeartbeats 4000000 in
theorem bare_calls (k o n : Int) (s : ByteArray) (a : Option Addr) (m cap : Nat) (args : Int) (op num named : Bool) (w : World) :
    Calls Tryz.prog 232 #[.agg #[.int .i64 k, .int .i64 o, .int .i64 n, .string s, .slice a m cap], .int .i64 args, .bool op, .bool num, .bool named] w (Gives w (.bool (dec (Bare o n s m args op num named)))) := by
  have hR : Hid (dec (Bare o n s m args op num named) = dec ((m : Int) = args ∧ (op = true ∨ o = 0) ∧ (num = true ∨ n = 0) ∧ (named = true ∨ s = ByteArray.empty))) := rfl
  generalize dec (Bare o n s m args op num named) = R at *
  by_cases hm : (m : Int) = args
  rotate_left
  · have q : ((m : Int) == args) = false := by simpa using hm
    obtain rfl : R = false := by rw [hR.out]; exact dec_false (fun h => hm h.1)
    clear hR hm
    go_enter Tryz.func232, Tryz.ntmps232
    go_wp2
    go_ret
    exact ⟨rfl, (Below.refl _ _).alloc (Nat.le_refl _) _⟩
  subst hm
  by_cases ho : op = true ∨ o = 0
  rotate_left
  · have q : op = false := by cases op <;> simp at ho ⊢
    have q2 : (o == 0) = false := by cases op <;> simp at ho ⊢; exact ho
    subst q
    obtain rfl : R = false := by rw [hR.out]; exact dec_false (fun h => ho h.2.1)
    clear hR ho
    go_enter Tryz.func232, Tryz.ntmps232
    go_wp2
    go_ret
    exact ⟨rfl, (Below.refl _ _).alloc (Nat.le_refl _) _⟩
  by_cases hn : num = true ∨ n = 0
  rotate_left
  · have q : num = false := by cases num <;> simp at hn ⊢
    have q2 : (n == 0) = false := by cases num <;> simp at hn ⊢; exact hn
    subst q
    obtain rfl : R = false := by rw [hR.out]; exact dec_false (fun h => hn h.2.2.1)
    clear hR hn
    cases op
    · obtain rfl : o = 0 := by simpa using ho
      clear ho
      go_enter Tryz.func232, Tryz.ntmps232
      go_wp2
      go_ret
      exact ⟨rfl, (Below.refl _ _).alloc (Nat.le_refl _) _⟩
    · clear ho
      go_enter Tryz.func232, Tryz.ntmps232
      go_wp2
      go_ret
      exact ⟨rfl, (Below.refl _ _).alloc (Nat.le_refl _) _⟩
  have hS : Hid (R = dec (named = true ∨ s = ByteArray.empty)) := by show R = _; rw [hR.out]; exact dec_congr (by simp [ho, hn])
  clear hR
  by_cases hs : named = true ∨ s = ByteArray.empty
  · obtain rfl : R = true := by rw [hS.out]; exact dec_true hs
    clear hS
    cases op
    · obtain rfl : o = 0 := by simpa using ho
      cases num
      · obtain rfl : n = 0 := by simpa using hn
        cases named
        · obtain rfl : s = ByteArray.empty := by simpa using hs
          clear ho hn hs
          go_enter Tryz.func232, Tryz.ntmps232
          go_wp2
          go_ret
          exact ⟨rfl, (Below.refl _ _).alloc (Nat.le_refl _) _⟩
        · clear ho hn hs
          go_enter Tryz.func232, Tryz.ntmps232
          go_wp2
          go_ret
          exact ⟨rfl, (Below.refl _ _).alloc (Nat.le_refl _) _⟩
      · cases named
        · obtain rfl : s = ByteArray.empty := by simpa using hs
          clear ho hn hs
          go_enter Tryz.func232, Tryz.ntmps232
          go_wp2
          go_ret
          exact ⟨rfl, (Below.refl _ _).alloc (Nat.le_refl _) _⟩
        · clear ho hn hs
          go_enter Tryz.func232, Tryz.ntmps232
          go_wp2
          go_ret
          exact ⟨rfl, (Below.refl _ _).alloc (Nat.le_refl _) _⟩
    · cases num
      · obtain rfl : n = 0 := by simpa using hn
        cases named
        · obtain rfl : s = ByteArray.empty := by simpa using hs
          clear ho hn hs
          go_enter Tryz.func232, Tryz.ntmps232
          go_wp2
          go_ret
          exact ⟨rfl, (Below.refl _ _).alloc (Nat.le_refl _) _⟩
        · clear ho hn hs
          go_enter Tryz.func232, Tryz.ntmps232
          go_wp2
          go_ret
          exact ⟨rfl, (Below.refl _ _).alloc (Nat.le_refl _) _⟩
      · cases named
        · obtain rfl : s = ByteArray.empty := by simpa using hs
          clear ho hn hs
          go_enter Tryz.func232, Tryz.ntmps232
          go_wp2
          go_ret
          exact ⟨rfl, (Below.refl _ _).alloc (Nat.le_refl _) _⟩
        · clear ho hn hs
          go_enter Tryz.func232, Tryz.ntmps232
          go_wp2
          go_ret
          exact ⟨rfl, (Below.refl _ _).alloc (Nat.le_refl _) _⟩
  · have q : named = false := by cases named <;> simp at hs ⊢
    have q2 : s ≠ ByteArray.empty := fun h => hs (Or.inr h)
    have qs := strne q2
    have qs2 : s.toList.isEmpty = false := by simpa using qs
    subst q
    obtain rfl : R = false := by rw [hS.out]; exact dec_false hs
    clear hS hs q2
    cases op
    · obtain rfl : o = 0 := by simpa using ho
      cases num
      · obtain rfl : n = 0 := by simpa using hn
        clear ho hn
        go_enter Tryz.func232, Tryz.ntmps232
        go_wp2
        go_ret
        exact ⟨by first | rfl | simp, (Below.refl _ _).alloc (Nat.le_refl _) _⟩
      · clear ho hn
        go_enter Tryz.func232, Tryz.ntmps232
        go_wp2
        go_ret
        exact ⟨by first | rfl | simp, (Below.refl _ _).alloc (Nat.le_refl _) _⟩
    · cases num
      · obtain rfl : n = 0 := by simpa using hn
        clear ho hn
        go_enter Tryz.func232, Tryz.ntmps232
        go_wp2
        go_ret
        exact ⟨by first | rfl | simp, (Below.refl _ _).alloc (Nat.le_refl _) _⟩
      · clear ho hn
        go_enter Tryz.func232, Tryz.ntmps232
        go_wp2
        go_ret
        exact ⟨by first | rfl | simp, (Below.refl _ _).alloc (Nat.le_refl _) _⟩
end Go.Proofs.YtmabeegoapcfpaaGreatDoor
