/- The walk of tree.deepBlock, and of the two DepthBlocks. -/
import Derived.Test.YtblhpiebheommaaKindsHoldsPart6
import Derived.Laws.EntriesVeiled
import Derived.Deep.DeepCutAuto
namespace Go.Proofs.Ytblhpiebheommaa
open Go.RowKit Go.Sort





def DepthBRC (l : List St) : Prop := ∀ (F : Nat → Prop) (w : World) (v : Value), Inn F w → Sts F w l v →
    Calls Try.prog 36 #[v] w (Gives w (.int .i64 (min (St.depths l) 65 : Nat)))

set_option maxHeartbeats 400000 in
theorem depthBR_calls (l : List St) : DepthBRC l := by
  intro F w v hF hr
  have HC := Lib.hid (deepBR_calls l F w v 65 hF (by omega) (by omega) hr)
  go_enter Try.func36, Try.ntmps36
  go_wp2_with (go_at_call 63; refine (HC.out).mono ?_; rintro e w' ⟨rfl, hb⟩)
  go_ret
  exact ⟨rfl, hb⟩

end Go.Proofs.Ytblhpiebheommaa
/- The walks of tree's rules.stmt and its closure, as RightBlock uses them. -/
namespace Go.Proofs.Ytblhpiebheommaa
open Go.RowKit Go.Sort




/-- A statement's own shape and name. -/
def StGood (k n : Int) (s : ByteArray) (la lb le : Nat) : Prop :=
  (partsOf k).is = true ∧ (partsOf k).least ≤ la ∧ la ≤ (partsOf k).most ∧ ((partsOf k).body = true ∨ lb = 0) ∧ ((partsOf k).other = true ∨ le = 0) ∧ NameOk (partsOf k).named k n s

mutual
/-- A statement of a source, whatever its depth. -/
def StOk : St → Prop
  | .mk k n s args body els => StGood k n s args.length body.length els.length ∧ (k = 19 → ∀ x ∈ args.head?, x.kind = 9) ∧ (∀ x ∈ args, (k = 1 ∨ ¬ SaidK x.kind) ∧ Src x) ∧ (body.length ≤ 256 ∧ StOks body) ∧ els.length ≤ 256 ∧ StOks els
def StOks : List St → Prop
  | [] => True
  | a :: l => StOk a ∧ StOks l
end
theorem stOks_iff (l : List St) : StOks l ↔ ∀ a ∈ l, StOk a := by
  induction l with
  | nil => simp [StOks]
  | cons a l ih => simp [StOks, ih]

/-- Statements of a source, whatever their depth. -/
def Blk (l : List St) : Prop := l.length ≤ 256 ∧ ∀ s ∈ l, StOk s

theorem stOk_eq (e : St) : StOk e ↔ StGood e.kind e.num e.name e.args.length e.body.length e.els.length ∧ (e.kind = 19 → ∀ x ∈ e.args.head?, x.kind = 9) ∧ (∀ x ∈ e.args, (e.kind = 1 ∨ ¬ SaidK x.kind) ∧ Src x) ∧ Blk e.body ∧ Blk e.els := by
  obtain ⟨_, _, _, _, _, _⟩ := e
  simp only [StOk, Blk, stOks_iff, St.kind, St.num, St.name, St.args, St.body, St.els]



theorem partsOf_19 (k : Int) (h : k = 19) : (partsOf k).least = 1 := by subst h; rfl


end Go.Proofs.Ytblhpiebheommaa
/- The walks of tree's rules.block and of tree.RightBlock. -/
namespace Go.Proofs.Ytblhpiebheommaa
open Go.RowKit Go.Sort


/-- Statements of a source. -/
def RightB (l : List St) : Prop := St.depths l ≤ 32 ∧ Blk l



end Go.Proofs.Ytblhpiebheommaa
/- The walks of clewref10.bare and clewref10.among. -/
namespace Go.Proofs.Ytblhpiebheommaa
open Go.RowKit Go.Sort

theorem among_calls (n lo hi : Int) (w : World) : Calls Try.prog 53 #[.int .i64 n, .int .i64 lo, .int .i64 hi] w (Same0 w (.bool (dec (lo ≤ n ∧ n ≤ hi)))) := by
  by_cases h : lo ≤ n
  · have e : Hid (dec (lo ≤ n ∧ n ≤ hi) = decide (n ≤ hi)) := by
      show dec _ = _
      by_cases h2 : n ≤ hi
      · rw [dec_true ⟨h, h2⟩]; symm; simpa using h2
      · rw [dec_false (fun h3 => h2 h3.2)]; symm; simpa using h2
    go_enter Try.func53, Try.ntmps53
    go_wp2
    go_ret
    exact ⟨ret_bool e.out.symm, rfl⟩
  · have e : Hid (dec (lo ≤ n ∧ n ≤ hi) = false) := dec_false (fun h3 => h h3.1)
    go_enter Try.func53, Try.ntmps53
    go_wp2
    go_ret
    exact ⟨ret_bool e.out.symm, rfl⟩

/-- So many Args, and none of Op, Num, Name but those that are said. -/
def Bare (o n : Int) (s : ByteArray) (m : Nat) (args : Int) (op num named : Bool) : Prop := (m : Int) = args ∧ (op = true ∨ o = 0) ∧ (num = true ∨ n = 0) ∧ (named = true ∨ s = ByteArray.empty)

set_option maxRecDepth 100000 in
set_option maxHeartbeats 4000000 in
theorem bare_calls (k o n : Int) (s : ByteArray) (a : Option Addr) (m cap : Nat) (args : Int) (op num named : Bool) (w : World) :
    Calls Try.prog 52 #[.agg #[.int .i64 k, .int .i64 o, .int .i64 n, .string s, .slice a m cap], .int .i64 args, .bool op, .bool num, .bool named] w (Gives w (.bool (dec (Bare o n s m args op num named)))) := by
  have hR : Hid (dec (Bare o n s m args op num named) = dec ((m : Int) = args ∧ (op = true ∨ o = 0) ∧ (num = true ∨ n = 0) ∧ (named = true ∨ s = ByteArray.empty))) := rfl
  generalize dec (Bare o n s m args op num named) = R at *
  by_cases hm : (m : Int) = args
  rotate_left
  · have q : ((m : Int) == args) = false := by simpa using hm
    obtain rfl : R = false := by rw [hR.out]; exact dec_false (fun h => hm h.1)
    clear hR hm
    go_enter Try.func52, Try.ntmps52
    go_wp2
    go_ret
    exact ⟨rfl, (Below.refl _ _).alloc (Nat.le_refl _) _⟩
  subst hm
  by_cases ho : op = true ∨ o = 0
  rotate_left
  · have q : op = false := by cases op <;> simp at ho ⊢
    have q2 : (o == 0) = false := by cases op <;> simp at ho ⊢; exact ho
    subst q
    obtain rfl : R = false := by rw [hR.out]; exact dec_false (fun h => ho h.2.1)
    clear hR ho
    go_enter Try.func52, Try.ntmps52
    go_wp2
    go_ret
    exact ⟨rfl, (Below.refl _ _).alloc (Nat.le_refl _) _⟩
  by_cases hn : num = true ∨ n = 0
  rotate_left
  · have q : num = false := by cases num <;> simp at hn ⊢
    have q2 : (n == 0) = false := by cases num <;> simp at hn ⊢; exact hn
    subst q
    obtain rfl : R = false := by rw [hR.out]; exact dec_false (fun h => hn h.2.2.1)
    clear hR hn
    cases op
    · obtain rfl : o = 0 := by simpa using ho
      clear ho
      go_enter Try.func52, Try.ntmps52
      go_wp2
      go_ret
      exact ⟨rfl, (Below.refl _ _).alloc (Nat.le_refl _) _⟩
    · clear ho
      go_enter Try.func52, Try.ntmps52
      go_wp2
      go_ret
      exact ⟨rfl, (Below.refl _ _).alloc (Nat.le_refl _) _⟩
  have hS : Hid (R = dec (named = true ∨ s = ByteArray.empty)) := by show R = _; rw [hR.out]; exact dec_congr (by simp [ho, hn])
  clear hR
  by_cases hs : named = true ∨ s = ByteArray.empty
  · obtain rfl : R = true := by rw [hS.out]; exact dec_true hs
    clear hS
    cases op
    · obtain rfl : o = 0 := by simpa using ho
      cases num
      · obtain rfl : n = 0 := by simpa using hn
        cases named
        · obtain rfl : s = ByteArray.empty := by simpa using hs
          clear ho hn hs
          go_enter Try.func52, Try.ntmps52
          go_wp2
          go_ret
          exact ⟨rfl, (Below.refl _ _).alloc (Nat.le_refl _) _⟩
        · clear ho hn hs
          go_enter Try.func52, Try.ntmps52
          go_wp2
          go_ret
          exact ⟨rfl, (Below.refl _ _).alloc (Nat.le_refl _) _⟩
      · cases named
        · obtain rfl : s = ByteArray.empty := by simpa using hs
          clear ho hn hs
          go_enter Try.func52, Try.ntmps52
          go_wp2
          go_ret
          exact ⟨rfl, (Below.refl _ _).alloc (Nat.le_refl _) _⟩
        · clear ho hn hs
          go_enter Try.func52, Try.ntmps52
          go_wp2
          go_ret
          exact ⟨rfl, (Below.refl _ _).alloc (Nat.le_refl _) _⟩
    · cases num
      · obtain rfl : n = 0 := by simpa using hn
        cases named
        · obtain rfl : s = ByteArray.empty := by simpa using hs
          clear ho hn hs
          go_enter Try.func52, Try.ntmps52
          go_wp2
          go_ret
          exact ⟨rfl, (Below.refl _ _).alloc (Nat.le_refl _) _⟩
        · clear ho hn hs
          go_enter Try.func52, Try.ntmps52
          go_wp2
          go_ret
          exact ⟨rfl, (Below.refl _ _).alloc (Nat.le_refl _) _⟩
      · cases named
        · obtain rfl : s = ByteArray.empty := by simpa using hs
          clear ho hn hs
          go_enter Try.func52, Try.ntmps52
          go_wp2
          go_ret
          exact ⟨rfl, (Below.refl _ _).alloc (Nat.le_refl _) _⟩
        · clear ho hn hs
          go_enter Try.func52, Try.ntmps52
          go_wp2
          go_ret
          exact ⟨rfl, (Below.refl _ _).alloc (Nat.le_refl _) _⟩
  · have q : named = false := by cases named <;> simp at hs ⊢
    have q2 : s ≠ ByteArray.empty := fun h => hs (Or.inr h)
    have qs := strne q2
    have qs2 : s.toList.isEmpty = false := by simpa using qs
    subst q
    obtain rfl : R = false := by rw [hS.out]; exact dec_false hs
    clear hS hs q2
    cases op
    · obtain rfl : o = 0 := by simpa using ho
      cases num
      · obtain rfl : n = 0 := by simpa using hn
        clear ho hn
        go_enter Try.func52, Try.ntmps52
        go_wp2
        go_ret
        exact ⟨by first | rfl | simp, (Below.refl _ _).alloc (Nat.le_refl _) _⟩
      · clear ho hn
        go_enter Try.func52, Try.ntmps52
        go_wp2
        go_ret
        exact ⟨by first | rfl | simp, (Below.refl _ _).alloc (Nat.le_refl _) _⟩
    · cases num
      · obtain rfl : n = 0 := by simpa using hn
        clear ho hn
        go_enter Try.func52, Try.ntmps52
        go_wp2
        go_ret
        exact ⟨by first | rfl | simp, (Below.refl _ _).alloc (Nat.le_refl _) _⟩
      · clear ho hn
        go_enter Try.func52, Try.ntmps52
        go_wp2
        go_ret
        exact ⟨by first | rfl | simp, (Below.refl _ _).alloc (Nat.le_refl _) _⟩

end Go.Proofs.Ytblhpiebheommaa
