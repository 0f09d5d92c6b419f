/- The walks of clewref10.deepBlock, tree.deepBlock, and of the two DepthBlocks. -/
import Derived.Test.YtdeecfkipknkbaaGreatDoorPart5e38a312
import Derived.Lib.QuietBelow
import Derived.BigQuiet
namespace Go.Proofs.YtdeecfkipknkbaaGreatDoor
set_option maxRecDepth 100000
set_option maxHeartbeats 1000000
open Go.RowKit Go.Sort
def DeepBRC (l : List St) : Prop := ∀ (F : Nat → Prop) (w : World) (v : Value) (m : Nat), Inn F w → 1 ≤ m → m ≤ 1000 → Sts F w l v →
 Calls Tryz.prog 206 #[v, .int .i64 m] w (Gives w (.int .i64 (min (St.depths l) m : Nat)))
theorem St.depths_pos (l : List St) (h : 0 < l.length) : 1 ≤ St.depths l := by
 cases l with
 | nil => simp at h
 | cons e l => simp only [St.depths]; omega
theorem deepBR_calls : ∀ l : List St, DeepBRC l := by
 refine blocks_ind fun l ih => ?_
 intro F w v m hF hm0 hm1 hr
 obtain ⟨a, cap, rfl⟩ := hr.shape
 obtain ⟨_, hl, hc, ha⟩ := hr.opn
 by_cases hl0 : l.length = 0
 · have hz : ((l.length : Int) == 0) = true := by rw [hl0]; rfl
   have hnil : l = [] := List.length_eq_zero_iff.1 hl0
   subst hnil
   go_enter Tryz.func206, Tryz.ntmps206
   go_wp2
   go_ret
   exact ⟨ret_int (by simp [St.depths]), Below.refl _ _⟩
 have hz : ((l.length : Int) == 0) = false := by rw [beq_eq_false_iff_ne]; omega
 have hpos := St.depths_pos l (by omega)
 by_cases hm : m = 1
 · subst hm
   clear ha
   go_enter Tryz.func206, Tryz.ntmps206
   go_wp2
   go_ret
   exact ⟨ret_int (by omega), Below.refl _ _⟩
 have hm2 : 1 < m := by omega
 have hm3 : (1 : Int) < (m : Int) := by omega
 clear hm hl0
 go_enter Tryz.func206, Tryz.ntmps206
 go_wp2
 go_loopw [5, 17] (fun t i wr => ∃ (k : Nat), k ≤ l.length ∧ i = .int .i64 k ∧ t = .int .i64 (min (St.depths (l.take k) - 1) (m - 1) : Nat) ∧ Below w.heap.size w wr) (fun _ i _ => l.length - (intOf i).toNat)
 case atStart => exact ⟨0, Nat.zero_le _, rfl, by simp [St.depths], Below.refl _ _⟩
 case round =>
  obtain ⟨k, hk, rfl, rfl, hB⟩ := hrel
  by_cases hlt : k < l.length
  · obtain ⟨b, off, rfl, hFb, hel⟩ := ha (by omega)
    obtain ⟨kd', n', s', a', m', cap', a2, m2, cap2, a3, m3, cap3, hx, g0, g1, g2, g3, g4, g5⟩ := hel wr (hB.block b (hF b hFb)) k hlt
    clear ha hel
    have hs1 := St.depths_take l k hlt
    have hs3 := St.depth_eq l[k]
    obtain ⟨ihb, ihe⟩ := ih _ (List.getElem_mem hlt)
    have hI := hF.below hB
    obtain ⟨_, _, _, _, _, _, hxa, hxb, hxe⟩ := (hx.below hF hB (Nat.le_refl _)).parts
    obtain ⟨rfl, hal, hac, haa⟩ := hxa.opn
    clear ih hx hr
    generalize hT : St.depths (l.take k) = T at *
    have hT2 : min (T - 1) (m - 1) ≤ 1000 := by omega
    have HS1 := Lib.hid hs1
    have HS3 := Lib.hid hs3
    clear hs1 hs3
    obtain ⟨wo, rfl⟩ : ∃ wo : World, wo = wr := ⟨_, rfl⟩
    go_wp2
    go_loopw [5, 24] (fun t i w2 => ∃ (j : Nat), j ≤ (l[k]).args.length ∧ i = .int .i64 j ∧ t = .int .i64 (min (max (T - 1) (Ex.depths ((l[k]).args.take j))) (m - 1) : Nat) ∧ Below (wo.heap.size + 1) (wo.alloc (.cells #[.int .i64 kd', .int .i64 n', .string s', .slice a' (l[k]).args.length cap', .slice a2 m2 cap2, .slice a3 m3 cap3] 37)) w2) (fun _ i _ => (l[k]).args.length - (intOf i).toNat)
    case atStart => exact ⟨0, Nat.zero_le _, rfl, by simp [Ex.depths], Below.refl _ _⟩
    case round =>
     obtain ⟨j, hj, rfl, rfl, hB0⟩ := hrel
     have hB2 := below_of_alloc hB0
     by_cases hlt2 : j < (l[k]).args.length
     · obtain ⟨b2, off2, rfl, hFb2, hel2⟩ := haa (by omega)
       obtain ⟨kd2, o2, nn2, s2, a2', m2', cap2', hx2, q0, q1, q2, q3, q4⟩ := hel2 wr (hB2.block b2 (hI b2 hFb2)) j hlt2
       clear haa hel2
       have HS2 := Lib.hid (Ex.depths_take (l[k]).args j hlt2)
       have hI2 := hI.below hB2
       have hcall : ∀ o, Calls Tryz.prog 237 #[.agg #[.int .i64 kd2, .int .i64 o2, .int .i64 nn2, .string s2, .slice a2' m2' cap2'], .int .i64 ((m : Int) - 1)] (wr.alloc o) (Gives (wr.alloc o) (.int .i64 (min ((l[k]).args[j]).depth (m - 1) : Nat))) := fun o => by
        have := deepR_calls (l[k]).args[j] F (wr.alloc o) _ (m - 1) (hI2.alloc _) (by omega) (by omega) ((hx2.below hI hB2 (Nat.le_refl _)).alloc hI2 o)
        rwa [show (((m - 1 : Nat)) : Int) = (m : Int) - 1 by omega] at this
       clear hx2 hxb hxe ihb ihe
       generalize hD : min (max (T - 1) (Ex.depths ((l[k]).args.take j))) (m - 1) = D
       generalize hE : min ((l[k]).args[j]).depth (m - 1) = E at hcall
       have HD := Lib.hid hD
       have HE := Lib.hid hE
       have HC := Lib.hid hcall
       have HB0 := Lib.hid hB0
       clear hD hE hcall hB0
       go_wp2_with (first | (go_at_call 237; refine (HC.out _).mono ?_; rintro e w' ⟨rfl, hb⟩) | (go_at_call 269; refine (greater_calls _ _ _).mono ?_; rintro e w'' ⟨rfl, rfl⟩))
       go_roundw
       case rel => exact ⟨j + 1, by omega, by go_num, by rw [HS2.out]; have := HD.out; have := HE.out; congr 1; omega, below_on1 HB0.out (by simp) hb⟩
       case measure => simp [intOf]; omega
     have : j = (l[k]).args.length := by omega
     subst this
     rw [List.take_length]
     clear haa
     have hI2 := hI.below hB2
     have hcb : ∀ (p : Regrown), Calls Tryz.prog 206 #[.slice a2 m2 cap2, .int .i64 ((m : Int) - 1)] (grow (redrawn wr p.d) p.os) fun e w'' => e = .returned (.int .i64 (min (St.depths (l[k]).body) (m - 1) : Nat)) ∧ ∃ p : Regrown, w'' = grow (redrawn wr p.d) p.os :=
      fun p => regrown_gives (fun w' hb => by
       have := ihb F w' _ (m - 1) (hI2.below hb) (by omega) (by omega) ((hxb.below hI hB2 (Nat.le_refl _)).below hI2 hb (Nat.le_refl _))
       rwa [show (((m - 1 : Nat)) : Int) = (m : Int) - 1 by omega] at this) p
     have hce : ∀ (p : Regrown), Calls Tryz.prog 206 #[.slice a3 m3 cap3, .int .i64 ((m : Int) - 1)] (grow (redrawn wr p.d) p.os) fun e w'' => e = .returned (.int .i64 (min (St.depths (l[k]).els) (m - 1) : Nat)) ∧ ∃ p : Regrown, w'' = grow (redrawn wr p.d) p.os :=
      fun p => regrown_gives (fun w' hb => by
       have := ihe F w' _ (m - 1) (hI2.below hb) (by omega) (by omega) ((hxe.below hI hB2 (Nat.le_refl _)).below hI2 hb (Nat.le_refl _))
       rwa [show (((m - 1 : Nat)) : Int) = (m : Int) - 1 by omega] at this) p
     have hcg : ∀ (x y : Int) (p : Regrown), Calls Tryz.prog 269 #[.int .i64 x, .int .i64 y] (grow (redrawn wr p.d) p.os) fun e w'' => e = .returned (.int .i64 (max x y)) ∧ ∃ p : Regrown, w'' = grow (redrawn wr p.d) p.os :=
      fun x y p => regrown_gives (fun w' hb => (greater_calls x y w').mono fun _ _ h => ⟨h.1, h.2 ▸ Below.refl _ _⟩) p
     have hq4 := fun d os => cell_regrown (w := wr) (a := ⟨wo.heap.size, 4, none⟩) (v := .slice a2 m2 cap2) (cell_kept hB0 (by go_simp)) d os
     have hq5 := fun d os => cell_regrown (w := wr) (a := ⟨wo.heap.size, 5, none⟩) (v := .slice a3 m3 cap3) (cell_kept hB0 (by go_simp)) d os
     generalize hA : min (St.depths (l[k]).body) (m - 1) = A at hcb
     generalize hE : min (St.depths (l[k]).els) (m - 1) = E at hce
     generalize hD : min (max (T - 1) (Ex.depths ((l[k]).args))) (m - 1) = D
     have HD := Lib.hid hD
     have HA := Lib.hid hA
     have HE := Lib.hid hE
     have HCb := Lib.hid hcb
     have HCe := Lib.hid hce
     have HCg := Lib.hid hcg
     have HB := Lib.hid (bt hB hB2)
     clear hD hA hE hcb hce hcg hxb hxe ihb ihe hB0 hB2
     go_wp2
     refine wp_region_quiet_below (by kernel_rfl) (by kernel_rfl) ?_
     repeat (go_big_quiet_step (first | with_reducible exact HCb.out _ | with_reducible exact HCe.out _ | with_reducible exact HCg.out _ _ _))
     refine wpQuiet_nil ?_
     intro w' hw'
     have hb := below_of_regrown hw'
     clear hw' HCb HCe HCg hq4 hq5
     go_wp2
     go_roundw
     case rel => exact ⟨k + 1, by omega, by go_num, by rw [HS1.out]; have := HD.out; have := HE.out; have := HA.out; have := HS3.out; congr 1; omega, below_on HB.out (Nat.le_refl _) hb⟩
     case measure => simp [intOf]; omega
  have : k = l.length := by omega
  subst this
  rw [List.take_length]
  have hz : min (St.depths l - 1) (m - 1) ≤ 1000 := by omega
  go_wp2
  go_ret
  exact ⟨ret_int (by omega), hB⟩
end Go.Proofs.YtdeecfkipknkbaaGreatDoor
/- The walk of tree.deepBlock, and of the two DepthBlocks. -/
namespace Go.Proofs.YtdeecfkipknkbaaGreatDoor
set_option maxHeartbeats 400000
open Go.RowKit Go.Sort
def DepthBRC (l : List St) : Prop := ∀ (F : Nat → Prop) (w : World) (v : Value), Inn F w → Sts F w l v →
 Calls Tryz.prog 124 #[v] w (Gives w (.int .i64 (min (St.depths l) 65 : Nat)))
theorem depthBR_calls (l : List St) : DepthBRC l := by
 intro F w v hF hr
 have HC := Lib.hid (deepBR_calls l F w v 65 hF (by omega) (by omega) hr)
 go_enter Tryz.func124, Tryz.ntmps124
 go_wp2_with (go_at_call 206; refine (HC.out).mono ?_; rintro e w' ⟨rfl, hb⟩)
 go_ret
 exact ⟨rfl, hb⟩
end Go.Proofs.YtdeecfkipknkbaaGreatDoor
/- A block whose cells are known (for seats that have no XKinds4). -/
namespace Go.Proofs.YtdeecfkipknkbaaGreatDoor
open Go.RowKit
def BoxAt (w : World) (b : Nat) (cs : List Value) : Prop := b < w.heap.size ∧ ∀ j, j < cs.length → w.cell? ⟨b, j, none⟩ = cs[j]?
theorem BoxAt.below {w w' : World} {b : Nat} {cs : List Value} {B : Nat} (h : BoxAt w b cs) (hb : Below B w w') (hB : b < B) : BoxAt w' b cs :=
 ⟨Nat.lt_of_lt_of_le h.1 hb.size, fun j hj => by rw [hb.cell (p := ⟨b, j, none⟩) hB]; exact h.2 j hj⟩
theorem BoxAt.new (w : World) (cs : List Value) (t : TypeId) : BoxAt (w.alloc (.cells cs.toArray t)) w.heap.size cs := ⟨by simp, fun j hj => by simp [World.cell?_alloc_at, hj]⟩
theorem bn' {w W : World} {cs : List Value} {t : TypeId} (h : w.alloc (.cells cs.toArray t) = W) : BoxAt W w.heap.size cs := by rw [← h]; exact BoxAt.new _ _ _
end Go.Proofs.YtdeecfkipknkbaaGreatDoor
/- A drawn region whose operations are quiet but for the last one, which waits (through others) for all of them: one walk serves every order. Plain law over the model's own orders. -/
namespace Go.Proofs.YtdeecfkipknkbaaGreatDoor
open Go.RowKit Go.Sort
section
variable {P : Program} {ops : Array Oper} {C : World → Prop} {md : Region.Mode}
def Closed (md : Region.Mode) (ops : Array Oper) (listed : Array Bool) : Prop :=
 ∀ j o, ops[j]? = some o → listed.getD j true = true → ∀ e ∈ o.after, Region.binds md e = true → listed.getD e.on false = true
theorem getD_set_mono {l : Array Bool} {i j : Nat} (h : l.getD j false = true) : (l.setIfInBounds i true).getD j false = true := by
 rw [Array.getD_eq_getD_getElem?] at h ⊢
 rw [Array.getElem?_setIfInBounds]
 split
 · rename_i hij
   subst hij
   split
   · rfl
   rename_i hs
   rw [Array.getElem?_eq_none (by omega)] at h
   cases h
 exact h
theorem getD_of_set {l : Array Bool} {i j : Nat} (hij : j ≠ i) (h : (l.setIfInBounds i true).getD j true = true) : l.getD j true = true := by
 rw [Array.getD_eq_getD_getElem?] at h ⊢
 rw [Array.getElem?_setIfInBounds, if_neg (Ne.symm hij)] at h
 exact h
theorem getD_of_set2 {l : Array Bool} {i j : Nat} (hij : j ≠ i) (h : (l.setIfInBounds i true).getD j false = true) : l.getD j false = true := by
 rw [Array.getD_eq_getD_getElem?] at h ⊢
 rw [Array.getElem?_setIfInBounds, if_neg (Ne.symm hij)] at h
 exact h
theorem getD_true {l : Array Bool} {j : Nat} (h : l.getD j false = true) : l.getD j true = true := by
 rw [Array.getD_eq_getD_getElem?] at h ⊢
 cases hj : l[j]? with
 | none => rfl
 | some b => rw [hj] at h; exact h
theorem Closed.set {listed : Array Bool} {i : Nat} (h : Closed md ops listed) (hi : i ∈ Region.ready md ops listed) : Closed md ops (listed.setIfInBounds i true) := by
 intro j o ho hl e he hb
 by_cases hji : j = i
 · subst hji
   obtain ⟨_, o', ho', hall⟩ := mem_ready.1 hi
   rw [ho] at ho'
   cases ho'
   exact getD_set_mono (hall e he hb)
 exact getD_set_mono (h j o ho (getD_of_set hji hl) e he hb)
theorem Closed.start : Closed md ops (Array.replicate ops.size false) := by
 intro j o ho hl
 have hj : j < ops.size := by
  rcases Nat.lt_or_ge j ops.size with h | h
  · exact h
  rw [Array.getElem?_eq_none h] at ho; cases ho
 simp [Array.getD, hj] at hl
def marks (md : Region.Mode) (m : Array Bool) (l : List Edge) : Array Bool := l.foldl (fun m e => if Region.binds md e then m.setIfInBounds e.on true else m) m
def waits (md : Region.Mode) (ops : Array Oper) : Nat → Array Bool → Bool
 | 0, _ => true
 | k + 1, m => m.getD k false && (match ops[k]? with | some o => waits md ops k (marks md m o.after.toList) | none => false)
theorem marks_listed {listed : Array Bool} : ∀ (l : List Edge) (m : Array Bool), (∀ k, m.getD k false = true → listed.getD k false = true) → (∀ e ∈ l, Region.binds md e = true → listed.getD e.on false = true) →
 ∀ k, (marks md m l).getD k false = true → listed.getD k false = true
 | [], m, hm, _, k, h => hm k h
 | e :: l, m, hm, hl, k, h => by
  refine marks_listed l _ ?_ (fun e he => hl e (List.mem_cons_of_mem _ he)) k h
  intro k hk
  by_cases hb : Region.binds md e = true
  · simp only [hb, if_true] at hk
    by_cases hke : k = e.on
    · subst hke; exact hl e List.mem_cons_self hb
    exact hm k (getD_of_set2 hke hk)
  simp only [hb] at hk
  exact hm k hk
theorem waits_all {listed : Array Bool} (hc : Closed md ops listed) : ∀ (k : Nat) (m : Array Bool), waits md ops k m = true → (∀ j, m.getD j false = true → listed.getD j false = true) → ∀ j, j < k → listed.getD j false = true
 | 0, _, _, _, j, hj => absurd hj (by omega)
 | k + 1, m, h, hm, j, hj => by
  unfold waits at h
  rw [Bool.and_eq_true] at h
  obtain ⟨h1, h2⟩ := h
  cases ho : ops[k]? with
  | none => rw [ho] at h2; cases h2
  | some o =>
   rw [ho] at h2
   have hk := hm k h1
   have hk2 : listed.getD k true = true := getD_true hk
   by_cases hjk : j = k
   · subst hjk; exact hk
   exact waits_all hc k _ h2 (marks_listed _ m hm (fun e he hb => hc k o ho hk2 e (by simpa using he) hb)) j (by omega)
def wpAnyT (P : Program) (md : Region.Mode) (ops : Array Oper) (C : World → Prop) (z : Nat) (Q : Act → Prop) : Nat → Array Bool → Act → Prop
 | 0, listed, a => (∀ j ∈ Region.ready md ops listed, j = z) ∧ z ∈ Region.ready md ops listed ∧ Region.ready md ops (listed.setIfInBounds z true) = [] ∧ Q a
 | f + 1, listed, a => z ∉ Region.ready md ops listed ∧ Region.ready md ops listed ≠ [] ∧ ∀ i ∈ Region.ready md ops listed, qOp P ops C i (wpAnyT P md ops C z Q f (listed.setIfInBounds i true)) a
theorem wpAny_of_T {z : Nat} {o : Oper} {Q : Act → Prop} {Q' : Exit → Act → World → Prop} (ho : ops[z]? = some o) (hQ : ∀ a w, C w → Q a → wpList P ops Q' [o] a w) : ∀ (f : Nat) (listed : Array Bool) (a : Act) (w : World), C w →
 wpAnyT P md ops C z Q f listed a → wpAny P md ops Q' (f + 1) listed a w
 | 0, listed, a, w, hw, h => by
  obtain ⟨h1, h2, h3, h4⟩ := h
  refine ⟨fun h0 => (by rw [h0] at h2; cases h2), fun i hi => ?_⟩
  rw [h1 i hi]
  have h5 := hQ a w hw h4
  unfold wpOp
  rw [ho]
  unfold wpList at h5
  show if _ then _ else _
  split at h5
  · rename_i hwd
    rw [if_pos hwd]
    rcases h5 with h5 | h5
    · left
      exact Oper.wp_mono (fun a' w' h6 => ⟨h3, h6⟩) h5
    exact Or.inr h5
  rename_i hwd
  rw [if_neg hwd]
  exact ⟨h3, h5⟩
 | f + 1, listed, a, w, hw, h => ⟨fun h0 => absurd h0 h.2.1, fun i hi => wpOp_of_qOp hw (fun a' w' hw' hk => wpAny_of_T ho hQ f _ a' w' hw' hk) (h.2.2 i hi)⟩
theorem wpAnyT_first {z : Nat} {Q : Act → Prop} {i : Nat} {oi : Oper} {v : Value} (hi : ops[i]? = some oi) (hsel : ∀ (j : Nat) (o : Oper) cs b, ops[j]? = some o → o.op ≠ .select cs b)
 (hz : ∀ listed : Array Bool, Closed md ops listed → z ∈ Region.ready md ops listed → listed.getD i false = true) (hiz : i ≠ z) :
 ∀ (fuel : Nat) (listed : Array Bool) (a : Act), Closed md ops listed →
  (∀ j oj, ops[j]? = some oj → j ≠ i → listed.getD j true = false → (∀ e ∈ oj.after, Region.binds md e = true → e.on ≠ i) → oi.apart ops oj = true) →
  i ∈ Region.ready md ops listed → YieldsIn P ops C oi v a →
  wpAnyT P md ops C z Q fuel (listed.setIfInBounds i true) (a.put oi.dst v) → wpAnyT P md ops C z Q (fuel + 1) listed a := by
 have hzn : ∀ listed : Array Bool, Closed md ops listed → i ∈ Region.ready md ops listed → z ∉ Region.ready md ops listed := fun listed hc hr hzr => by
  have h1 := hz listed hc hzr
  have h0 := (mem_ready.1 hr).1
  rcases Nat.lt_or_ge i listed.size with h' | h'
  · simp [h'] at h0 h1; rw [h0] at h1; cases h1
  simp [Array.getElem?_eq_none h'] at h1
 intro fuel
 induction fuel with
 | zero =>
  intro listed a hc _ hr hy H
  refine ⟨hzn listed hc hr, fun h => (by rw [h] at hr; cases hr), fun j hj => ?_⟩
  by_cases hji : j = i
  · subst hji; exact hy.qOp hi H
  have h2 := H.1 j (ready_mono hj hji)
  rw [h2] at hj
  exact absurd hj (hzn listed hc hr)
 | succ fuel ih =>
  intro listed a hc hfree hr hy H
  refine ⟨hzn listed hc hr, fun h => (by rw [h] at hr; cases hr), fun j hj => ?_⟩
  by_cases hji : j = i
  · subst hji; exact hy.qOp hi H
  have h1 := H.2.2 j (ready_mono hj hji)
  obtain ⟨hjun, oj, hoj, hall⟩ := mem_ready.1 hj
  have hnot : ∀ e ∈ oj.after, Region.binds md e = true → e.on ≠ i := fun e he hb heq => by
   have h1 := hall e he hb
   have h0 := (mem_ready.1 hr).1
   rw [heq] at h1
   rcases Nat.lt_or_ge i listed.size with h' | h'
   · simp [h'] at h0 h1; rw [h0] at h1; cases h1
   simp [Array.getElem?_eq_none h'] at h1
  have h2 := qOp_put hoj (hfree j oj hoj hji hjun hnot) (fun cs b => hsel i oi cs b hi) (fun cs b => hsel j oj cs b hoj) hy h1
  have hfree' : ∀ k ok, ops[k]? = some ok → k ≠ i → (listed.setIfInBounds j true).getD k true = false →
   (∀ e ∈ ok.after, Region.binds md e = true → e.on ≠ i) → oi.apart ops ok = true := fun k ok hk hki hun hno => by
   refine hfree k ok hk hki ?_ hno
   by_cases hjk : j = k
   · subst hjk; exact hjun
   rw [getD_set_ne true hjk] at hun; exact hun
  refine qOp_mono (fun a' h3 => ih (listed.setIfInBounds j true) a' (hc.set hj) hfree' (ready_mono hr (Ne.symm hji)) h3.1 ?_) h2
  rw [Array.setIfInBounds_comm _ _ hji]
  exact h3.2
def lexTo (md : Region.Mode) (ops : Array Oper) (z : Nat) : Nat → Nat → Array Bool → Bool
 | 0, _, listed => (Region.ready md ops listed).all (· == z) && (Region.ready md ops listed).contains z && (Region.ready md ops (listed.setIfInBounds z true)).isEmpty
 | f + 1, k, listed => (Region.ready md ops listed).contains k && Region.free md ops listed k && lexTo md ops z f (k + 1) (listed.setIfInBounds k true)
theorem wpAnyT_lex {z : Nat} {Q : Act → Prop} (hs : Region.noSelect ops = true) (hz : ∀ listed : Array Bool, Closed md ops listed → z ∈ Region.ready md ops listed → ∀ i, i < z → listed.getD i false = true) :
 ∀ (l : List Oper) (k : Nat) (listed : Array Bool) (a : Act), Closed md ops listed → (∀ j, j < l.length → l[j]? = ops[k + j]?) → k + l.length ≤ z →
 lexTo md ops z l.length k listed = true → wpQuiet P ops C Q l a → wpAnyT P md ops C z Q l.length listed a
 | [], _, _, _, _, _, _, hB, h => by
  simp only [List.length_nil, lexTo, Bool.and_eq_true, List.all_eq_true, List.isEmpty_iff] at hB
  obtain ⟨⟨h1, h2⟩, h3⟩ := hB
  exact ⟨fun j hj => by simpa using h1 j hj, by simpa using h2, h3, h⟩
 | o :: l, k, listed, a, hc, hl, hk, hB, h => by
  have h0 : ops[k]? = some o := by simpa using (hl 0 (by simp)).symm
  simp only [List.length_cons, lexTo, Bool.and_eq_true] at hB
  obtain ⟨⟨hr, hf⟩, hB'⟩ := hB
  have hst : qOp P ops C k (wpQuiet P ops C Q l) a := by unfold qOp; simp only [h0]; exact h
  obtain ⟨v, hy, hK⟩ := yieldsIn_of_qOp h0 hst
  have hkz : k < z := by simp only [List.length_cons] at hk; omega
  have hr' : k ∈ Region.ready md ops listed := by simpa using hr
  exact wpAnyT_first h0 (Region.noSelect_spec hs) (fun listed hc hzr => hz listed hc hzr k hkz) (by omega) l.length listed a hc (Region.free_spec h0 hf) hr' hy
   (wpAnyT_lex hs hz l (k + 1) _ _ (hc.set hr') (fun j hj => by have := hl (j + 1) (by simp only [List.length_cons]; omega); simpa [Nat.add_assoc, Nat.add_comm 1 j] using this) (by simp only [List.length_cons] at hk; omega) hB' hK)
def lastB (ops : Array Oper) (z : Nat) : Bool :=
 Region.noSelect ops && lexTo .any ops z z 0 (Array.replicate ops.size false) && (match ops[z]? with | some o => waits .any ops z (marks .any (Array.replicate ops.size false) o.after.toList) | none => false)
theorem wp_region_quiet_last {id : Nat} {Q : Exit → Act → World → Prop} {a : Act} {w : World} {l : List Oper} {o : Oper} (z : Nat) (hm : P.follows .mixedOrders = true) (hzl : l.length = z + 1) (ho : l[z]? = some o)
 (hB : lastB l.toArray z = true) (hC : C { w with drawn := w.drawn + 1 })
 (h : wpQuiet P l.toArray C (fun a' => ∀ w', C w' → wpList P l.toArray Q [o] a' w') l.dropLast a) : (Code.region id l.toArray true).wp P Q a w := by
 have hoz : l.toArray[z]? = some o := by simpa using ho
 simp only [lastB, Bool.and_eq_true] at hB
 obtain ⟨⟨hs, hx⟩, hw⟩ := hB
 rw [hoz] at hw
 have hsz : l.toArray.size = z + 1 := by simpa using hzl
 refine wp_region_any hm ?_
 rw [hsz]
 refine wpAny_of_T hoz (Q := fun a' => ∀ w', C w' → wpList P l.toArray Q [o] a' w') (fun a w' hw' h => h w' hw') z _ _ _ hC ?_
 have hdl : l.dropLast.length = z := by simp [hzl]
 have := wpAnyT_lex (C := C) (md := .any) (z := z) hs (fun listed hc hzr i hi => by
  obtain ⟨_, o', ho', hall⟩ := mem_ready.1 hzr
  rw [hoz] at ho'
  cases ho'
  exact waits_all hc z _ hw (marks_listed _ _ (fun k hk => by simp [Array.getD] at hk) (fun e he hb => hall e (by simpa using he) hb)) i hi)
  l.dropLast 0 (Array.replicate l.toArray.size false) a Closed.start (fun j hj => by
   rw [hdl] at hj
   have : j < l.length := by omega
   simp [List.getElem?_dropLast, this]; omega) (by omega) (by rw [hdl]; simpa using hx) h
 rw [hdl] at this
 rw [hsz] at this
 exact this
theorem wpQuiet_mono {Q Q' : Act → Prop} (h : ∀ a, Q a → Q' a) : ∀ (l : List Oper) (a : Act), wpQuiet P ops C Q l a → wpQuiet P ops C Q' l a
 | [], a, hq => h a hq
 | o :: l, a, hq => by
  unfold wpQuiet at hq ⊢
  split at hq
  · rename_i hw; rw [if_pos hw]; exact Oper.quiet_mono (fun a h2 => wpQuiet_mono h l a h2) hq
  rename_i hw; rw [if_neg hw]; exact wpQuiet_mono h l _ hq
theorem wp_region_quiet_last_below {id : Nat} {Q : Exit → Act → World → Prop} {a : Act} {w : World} {l : List Oper} {o : Oper} (z : Nat) (hm : P.follows .mixedOrders = true) (hzl : l.length = z + 1) (ho : l[z]? = some o)
 (hB : lastB l.toArray z = true)
 (h : wpQuiet P l.toArray (fun w' => ∃ p : Regrown, w' = grow (redrawn w p.d) p.os) (fun a' => ∀ w', Below w.heap.size w w' → wpList P l.toArray Q [o] a' w') l.dropLast a) : (Code.region id l.toArray true).wp P Q a w :=
 wp_region_quiet_last (C := fun w' => ∃ p : Regrown, w' = grow (redrawn w p.d) p.os) z hm hzl ho hB ⟨⟨w.drawn + 1, #[]⟩, by rw [grow_empty]; rfl⟩
  (wpQuiet_mono (fun a' h w' hw' => h w' (below_of_regrown hw')) _ _ h)
end
end Go.Proofs.YtdeecfkipknkbaaGreatDoor
