/- The walks of tree.op, tree.said and tree.shaped. -/
import Derived.Test.YtblhpiebheommaaGreatKindsChecksPart8
import Derived.Test.YtblhpiebheommaaGreatKindsChecksPart4
import Derived.Test.YtblhpiebheommaaGreatKindsChecksPart29
import Derived.Laws.EntriesVeiled
import Derived.Deep.DeepCutAuto
namespace Go.Proofs.YtblhpiebheommaaGreat
open Go.RowKit Go.Sort

def OpOk (k o : Int) : Prop := (k = 6 → 1 ≤ o ∧ o ≤ 14) ∧ (k = 10 → 1 ≤ o ∧ o ≤ 3) ∧ (k = 12 → 1 ≤ o ∧ o ≤ 6)
def SaidK (k : Int) : Prop := k = 2 ∨ k = 13 ∨ k = 19



/-- An expression has just what its kind has. -/
def Shaped (k o n : Int) (s : ByteArray) (m : Nat) : Prop :=
  (hasOf k).is = true ∧ ((hasOf k).op = true ∨ o = 0) ∧ ((hasOf k).num = true ∨ n = 0) ∧ ((hasOf k).name = true ∨ s = ByteArray.empty) ∧ (hasOf k).least ≤ m ∧ m ≤ (hasOf k).most ∧ OpOk k o

theorem hasOf_cases (k : Int) : ((hasOf k).op = true ∧ (hasOf k).num = false ∧ (hasOf k).name = false ∨ (hasOf k).op = false ∧ (hasOf k).num = true ∧ (hasOf k).name = false ∨ (hasOf k).op = false ∧ (hasOf k).num = false ∧ (hasOf k).name = true ∨
    (hasOf k).op = false ∧ (hasOf k).num = false ∧ (hasOf k).name = false) ∧ (hasOf k).least ≤ 8 ∧ (hasOf k).most ≤ 8 := by
  unfold hasOf
  repeat' split
  all_goals simp


end Go.Proofs.YtblhpiebheommaaGreat
/- The walk of tree.each: whether all of a list are so, whatever function is asked. -/
namespace Go.Proofs.YtblhpiebheommaaGreat
open Go.RowKit Go.Sort

/-- What the function value f (with what it has captured) tells of an expression, from world w on. -/
def Asks (F : Nat → Prop) (w : World) (f : Nat) (caps : Array Value) (x : Ex) (b : Bool) : Prop := ∀ (w' : World) (cs : List Value), Below w.heap.size w w' → RdEx F w' x cs → Calls Tryz.prog f (#[.agg cs.toArray] ++ caps) w' (Gives w' (.bool b))


end Go.Proofs.YtblhpiebheommaaGreat
/- The walks of tree.source, its closure, and tree.Right. -/
namespace Go.Proofs.YtblhpiebheommaaGreat
open Go.RowKit Go.Sort

mutual
/-- An expression of a source, whatever its depth. -/
def Src : Ex → Prop
  | .mk k o n s args => (1 ≤ k ∧ k ≤ 13) ∧ Shaped k o n s args.length ∧ (k = 1 → 0 ≤ n ∧ n ≤ 32767) ∧ (k = 2 → IsText s) ∧ (k = 3 ∨ k = 7 ∨ k = 8 ∨ k = 9 → IsNm s) ∧ Srcs args
def Srcs : List Ex → Prop
  | [] => True
  | a :: l => (¬ SaidK a.kind ∧ Src a) ∧ Srcs l
end

theorem srcs_iff (l : List Ex) : Srcs l ↔ ∀ a ∈ l, ¬ SaidK a.kind ∧ Src a := by
  induction l with
  | nil => simp [Srcs]
  | cons a l ih => simp [Srcs, ih]





/-- An expression of a source. -/
def RightE (e : Ex) : Prop := e.depth ≤ 32 ∧ Src e



end Go.Proofs.YtblhpiebheommaaGreat
/- The walks of clewref10.sameArgs and clewref10.Same. -/
namespace Go.Proofs.YtblhpiebheommaaGreat
open Go.RowKit Go.Sort






end Go.Proofs.YtblhpiebheommaaGreat
/- The walk of tree.SameBlock. -/
namespace Go.Proofs.YtblhpiebheommaaGreat
open Go.RowKit Go.Sort


theorem two_new {B : Nat} {w w' : World} {o o2 : Obj} (hb : Below B ((w.alloc o).alloc o2) w') : w.heap.size < w'.heap.size ∧ w.heap.size + 1 < w'.heap.size := by
  have := hb.size
  simp at this
  omega

theorem St.eta (e : St) : e = .mk e.kind e.num e.name e.args e.body e.els := by obtain ⟨_, _, _, _, _, _⟩ := e; rfl
theorem St.ext' {e f : St} (h1 : e.kind = f.kind) (h2 : e.num = f.num) (h3 : e.name = f.name) (h4 : e.args = f.args) (h5 : e.body = f.body) (h6 : e.els = f.els) : e = f := by
  rw [St.eta e, St.eta f, h1, h2, h3, h4, h5, h6]


end Go.Proofs.YtblhpiebheommaaGreat
/- The walks of clewref10.deepBlock, tree.deepBlock, and of the two DepthBlocks. -/
namespace Go.Proofs.YtblhpiebheommaaGreat
open Go.RowKit Go.Sort

def DeepBRC (l : List St) : Prop := ∀ (F : Nat → Prop) (w : World) (v : Value) (m : Nat), Inn F w → 1 ≤ m → m ≤ 1000 → Sts F w l v →
    Calls Tryz.prog 85 #[v, .int .i64 m] w (Gives w (.int .i64 (min (St.depths l) m : Nat)))

theorem St.depths_pos (l : List St) (h : 0 < l.length) : 1 ≤ St.depths l := by
  cases l with
  | nil => simp at h
  | cons e l => simp only [St.depths]; omega

set_option maxRecDepth 100000 in
set_option maxHeartbeats 1000000 in
theorem deepBR_calls : ∀ l : List St, DeepBRC l := by
  refine blocks_ind fun l ih => ?_
  intro F w v m hF hm0 hm1 hr
  obtain ⟨a, cap, rfl⟩ := hr.shape
  obtain ⟨_, hl, hc, ha⟩ := hr.opn
  by_cases hl0 : l.length = 0
  · have hz : ((l.length : Int) == 0) = true := by rw [hl0]; rfl
    have hnil : l = [] := List.length_eq_zero_iff.1 hl0
    subst hnil
    go_enter Tryz.func85, Tryz.ntmps85
    go_wp2
    go_ret
    exact ⟨ret_int (by simp [St.depths]), Below.refl _ _⟩
  have hz : ((l.length : Int) == 0) = false := by rw [beq_eq_false_iff_ne]; omega
  have hpos := St.depths_pos l (by omega)
  by_cases hm : m = 1
  · subst hm
    clear ha
    go_enter Tryz.func85, Tryz.ntmps85
    go_wp2
    go_ret
    exact ⟨ret_int (by omega), Below.refl _ _⟩
  have hm2 : 1 < m := by omega
  have hm3 : (1 : Int) < (m : Int) := by omega
  clear hm hl0
  go_enter Tryz.func85, Tryz.ntmps85
  go_wp2
  go_loopw [5, 17] (fun t i wr => ∃ (k : Nat), k ≤ l.length ∧ i = .int .i64 k ∧ t = .int .i64 (min (St.depths (l.take k) - 1) (m - 1) : Nat) ∧ Below w.heap.size w wr) (fun _ i _ => l.length - (intOf i).toNat)
  case atStart => exact ⟨0, Nat.zero_le _, rfl, by simp [St.depths], Below.refl _ _⟩
  case round =>
    obtain ⟨k, hk, rfl, rfl, hB⟩ := hrel
    by_cases hlt : k < l.length
    · obtain ⟨b, off, rfl, hFb, hel⟩ := ha (by omega)
      obtain ⟨kd', n', s', a', m', cap', a2, m2, cap2, a3, m3, cap3, hx, g0, g1, g2, g3, g4, g5⟩ := hel wr (hB.block b (hF b hFb)) k hlt
      clear ha hel
      have hs1 := St.depths_take l k hlt
      have hs3 := St.depth_eq l[k]
      obtain ⟨ihb, ihe⟩ := ih _ (List.getElem_mem hlt)
      have hI := hF.below hB
      obtain ⟨_, _, _, _, _, _, hxa, hxb, hxe⟩ := (hx.below hF hB (Nat.le_refl _)).parts
      obtain ⟨rfl, hal, hac, haa⟩ := hxa.opn
      clear ih hx hr
      generalize hT : St.depths (l.take k) = T at *
      have hT2 : min (T - 1) (m - 1) ≤ 1000 := by omega
      have HS1 := Lib.hid hs1
      have HS3 := Lib.hid hs3
      clear hs1 hs3
      obtain ⟨wo, rfl⟩ : ∃ wo : World, wo = wr := ⟨_, rfl⟩
      go_wp2
      go_loopw [5, 24] (fun t i w2 => ∃ (j : Nat), j ≤ (l[k]).args.length ∧ i = .int .i64 j ∧ t = .int .i64 (min (max (T - 1) (Ex.depths ((l[k]).args.take j))) (m - 1) : Nat) ∧ Below (wo.heap.size + 1) (wo.alloc (.cells #[.int .i64 kd', .int .i64 n', .string s', .slice a' (l[k]).args.length cap', .slice a2 m2 cap2, .slice a3 m3 cap3] 60)) w2) (fun _ i _ => (l[k]).args.length - (intOf i).toNat)
      case atStart => exact ⟨0, Nat.zero_le _, rfl, by simp [Ex.depths], Below.refl _ _⟩
      case round =>
        obtain ⟨j, hj, rfl, rfl, hB0⟩ := hrel
        have hB2 := below_of_alloc hB0
        by_cases hlt2 : j < (l[k]).args.length
        · obtain ⟨b2, off2, rfl, hFb2, hel2⟩ := haa (by omega)
          obtain ⟨kd2, o2, nn2, s2, a2', m2', cap2', hx2, q0, q1, q2, q3, q4⟩ := hel2 wr (hB2.block b2 (hI b2 hFb2)) j hlt2
          clear haa hel2
          have HS2 := Lib.hid (Ex.depths_take (l[k]).args j hlt2)
          have hI2 := hI.below hB2
          have hcall : ∀ o, Calls Tryz.prog 80 #[.agg #[.int .i64 kd2, .int .i64 o2, .int .i64 nn2, .string s2, .slice a2' m2' cap2'], .int .i64 ((m : Int) - 1)] (wr.alloc o) (Gives (wr.alloc o) (.int .i64 (min ((l[k]).args[j]).depth (m - 1) : Nat))) := fun o => by
            have := deepR_calls (l[k]).args[j] F (wr.alloc o) _ (m - 1) (hI2.alloc _) (by omega) (by omega) ((hx2.below hI hB2 (Nat.le_refl _)).alloc hI2 o)
            rwa [show (((m - 1 : Nat)) : Int) = (m : Int) - 1 by omega] at this
          clear hx2 hxb hxe ihb ihe
          generalize hD : min (max (T - 1) (Ex.depths ((l[k]).args.take j))) (m - 1) = D
          generalize hE : min ((l[k]).args[j]).depth (m - 1) = E at hcall
          have HD := Lib.hid hD
          have HE := Lib.hid hE
          have HC := Lib.hid hcall
          have HB0 := Lib.hid hB0
          clear hD hE hcall hB0
          go_wp2_with (first | (go_at_call 80; refine (HC.out _).mono ?_; rintro e w' ⟨rfl, hb⟩) | (go_at_call 101; refine (greater_calls _ _ _).mono ?_; rintro e w'' ⟨rfl, rfl⟩))
          go_roundw
          case rel => exact ⟨j + 1, by omega, by go_num, by rw [HS2.out]; have := HD.out; have := HE.out; congr 1; omega, below_on1 HB0.out (by simp) hb⟩
          case measure => simp [intOf]; omega
        · have : j = (l[k]).args.length := by omega
          subst this
          rw [List.take_length]
          clear haa
          have hI2 := hI.below hB2
          have hcb : ∀ (p : Regrown), Calls Tryz.prog 85 #[.slice a2 m2 cap2, .int .i64 ((m : Int) - 1)] (grow (redrawn wr p.d) p.os) fun e w'' => e = .returned (.int .i64 (min (St.depths (l[k]).body) (m - 1) : Nat)) ∧ ∃ p : Regrown, w'' = grow (redrawn wr p.d) p.os :=
            fun p => regrown_gives (fun w' hb => by
              have := ihb F w' _ (m - 1) (hI2.below hb) (by omega) (by omega) ((hxb.below hI hB2 (Nat.le_refl _)).below hI2 hb (Nat.le_refl _))
              rwa [show (((m - 1 : Nat)) : Int) = (m : Int) - 1 by omega] at this) p
          have hce : ∀ (p : Regrown), Calls Tryz.prog 85 #[.slice a3 m3 cap3, .int .i64 ((m : Int) - 1)] (grow (redrawn wr p.d) p.os) fun e w'' => e = .returned (.int .i64 (min (St.depths (l[k]).els) (m - 1) : Nat)) ∧ ∃ p : Regrown, w'' = grow (redrawn wr p.d) p.os :=
            fun p => regrown_gives (fun w' hb => by
              have := ihe F w' _ (m - 1) (hI2.below hb) (by omega) (by omega) ((hxe.below hI hB2 (Nat.le_refl _)).below hI2 hb (Nat.le_refl _))
              rwa [show (((m - 1 : Nat)) : Int) = (m : Int) - 1 by omega] at this) p
          have hcg : ∀ (x y : Int) (p : Regrown), Calls Tryz.prog 101 #[.int .i64 x, .int .i64 y] (grow (redrawn wr p.d) p.os) fun e w'' => e = .returned (.int .i64 (max x y)) ∧ ∃ p : Regrown, w'' = grow (redrawn wr p.d) p.os :=
            fun x y p => regrown_gives (fun w' hb => (greater_calls x y w').mono fun _ _ h => ⟨h.1, h.2 ▸ Below.refl _ _⟩) p
          have hq4 := fun d os => cell_regrown (w := wr) (a := ⟨wo.heap.size, 4, none⟩) (v := .slice a2 m2 cap2) (cell_kept hB0 (by go_simp)) d os
          have hq5 := fun d os => cell_regrown (w := wr) (a := ⟨wo.heap.size, 5, none⟩) (v := .slice a3 m3 cap3) (cell_kept hB0 (by go_simp)) d os
          generalize hA : min (St.depths (l[k]).body) (m - 1) = A at hcb
          generalize hE : min (St.depths (l[k]).els) (m - 1) = E at hce
          generalize hD : min (max (T - 1) (Ex.depths ((l[k]).args))) (m - 1) = D
          have HD := Lib.hid hD
          have HA := Lib.hid hA
          have HE := Lib.hid hE
          have HCb := Lib.hid hcb
          have HCe := Lib.hid hce
          have HCg := Lib.hid hcg
          have HB := Lib.hid (hB.trans (hB2.mono hB.size))
          clear hD hA hE hcb hce hcg hxb hxe ihb ihe hB0 hB2
          go_wp2
          refine wp_region_quiet_below (by kernel_rfl) (by kernel_rfl) ?_
          repeat (go_big_quiet_step (first | with_reducible exact HCb.out _ | with_reducible exact HCe.out _ | with_reducible exact HCg.out _ _ _))
          refine wpQuiet_nil ?_
          intro w' hw'
          have hb := below_of_regrown hw'
          clear hw' HCb HCe HCg hq4 hq5
          go_wp2
          go_roundw
          case rel => exact ⟨k + 1, by omega, by go_num, by rw [HS1.out]; have := HD.out; have := HE.out; have := HA.out; have := HS3.out; congr 1; omega, below_on HB.out (Nat.le_refl _) hb⟩
          case measure => simp [intOf]; omega
    · have : k = l.length := by omega
      subst this
      rw [List.take_length]
      have hz : min (St.depths l - 1) (m - 1) ≤ 1000 := by omega
      go_wp2
      go_ret
      exact ⟨ret_int (by omega), hB⟩

end Go.Proofs.YtblhpiebheommaaGreat
/- The walk of tree.deepBlock, and of the two DepthBlocks. -/
namespace Go.Proofs.YtblhpiebheommaaGreat
open Go.RowKit Go.Sort





def DepthBRC (l : List St) : Prop := ∀ (F : Nat → Prop) (w : World) (v : Value), Inn F w → Sts F w l v →
    Calls Tryz.prog 63 #[v] w (Gives w (.int .i64 (min (St.depths l) 65 : Nat)))

set_option maxHeartbeats 400000 in
theorem depthBR_calls (l : List St) : DepthBRC l := by
  intro F w v hF hr
  have HC := Lib.hid (deepBR_calls l F w v 65 hF (by omega) (by omega) hr)
  go_enter Tryz.func63, Tryz.ntmps63
  go_wp2_with (go_at_call 85; refine (HC.out).mono ?_; rintro e w' ⟨rfl, hb⟩)
  go_ret
  exact ⟨rfl, hb⟩

end Go.Proofs.YtblhpiebheommaaGreat
/- The walks of tree's rules.stmt and its closure, as RightBlock uses them. -/
namespace Go.Proofs.YtblhpiebheommaaGreat
open Go.RowKit Go.Sort




/-- A statement's own shape and name. -/
def StGood (k n : Int) (s : ByteArray) (la lb le : Nat) : Prop :=
  (partsOf k).is = true ∧ (partsOf k).least ≤ la ∧ la ≤ (partsOf k).most ∧ ((partsOf k).body = true ∨ lb = 0) ∧ ((partsOf k).other = true ∨ le = 0) ∧ NameOk (partsOf k).named k n s

mutual
/-- A statement of a source, whatever its depth. -/
def StOk : St → Prop
  | .mk k n s args body els => StGood k n s args.length body.length els.length ∧ (k = 19 → ∀ x ∈ args.head?, x.kind = 9) ∧ (∀ x ∈ args, (k = 1 ∨ ¬ SaidK x.kind) ∧ Src x) ∧ (body.length ≤ 256 ∧ StOks body) ∧ els.length ≤ 256 ∧ StOks els
def StOks : List St → Prop
  | [] => True
  | a :: l => StOk a ∧ StOks l
end
theorem stOks_iff (l : List St) : StOks l ↔ ∀ a ∈ l, StOk a := by
  induction l with
  | nil => simp [StOks]
  | cons a l ih => simp [StOks, ih]

/-- Statements of a source, whatever their depth. -/
def Blk (l : List St) : Prop := l.length ≤ 256 ∧ ∀ s ∈ l, StOk s

theorem stOk_eq (e : St) : StOk e ↔ StGood e.kind e.num e.name e.args.length e.body.length e.els.length ∧ (e.kind = 19 → ∀ x ∈ e.args.head?, x.kind = 9) ∧ (∀ x ∈ e.args, (e.kind = 1 ∨ ¬ SaidK x.kind) ∧ Src x) ∧ Blk e.body ∧ Blk e.els := by
  obtain ⟨_, _, _, _, _, _⟩ := e
  simp only [StOk, Blk, stOks_iff, St.kind, St.num, St.name, St.args, St.body, St.els]



theorem partsOf_19 (k : Int) (h : k = 19) : (partsOf k).least = 1 := by subst h; rfl


end Go.Proofs.YtblhpiebheommaaGreat
/- The walks of tree's rules.block and of tree.RightBlock. -/
namespace Go.Proofs.YtblhpiebheommaaGreat
open Go.RowKit Go.Sort


/-- Statements of a source. -/
def RightB (l : List St) : Prop := St.depths l ≤ 32 ∧ Blk l



end Go.Proofs.YtblhpiebheommaaGreat
