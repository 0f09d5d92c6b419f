/- The walks of tree's rules.stmt and its closure, as RightBlock uses them. -/
import Derived.Test.YtnbfadgclffgkaaGreatDoorPart32955a71
import Derived.Test.YtnbfadgclffgkaaGreatDoorPart2cdae13e
import Derived.Test.YtnbfadgclffgkaaGreatDoorBlockDeepT
import Derived.Laws.EntriesVeiled
import Derived.Deep.DeepCutAuto
import Derived.Test.YtnbfadgclffgkaaGreatDoorPartcd851cfa
import Derived.Lib.ItoaNum
import Derived.Lib.Join
import Derived.WalkSpells
import Derived.WalkLawsBesides
import Derived.IntWalk
import Derived.Test.YtnbfadgclffgkaaGreatDoorShelf
import Derived.BigQuiet
import Derived.Lib.QuietBelow
namespace Go.Proofs.YtnbfadgclffgkaaGreatDoor
open Go.RowKit Go.Sort
def StGood (k n : Int) (s : ByteArray) (la lb le : Nat) : Prop :=
  (partsOf k).is = true ∧ (partsOf k).least ≤ la ∧ la ≤ (partsOf k).most ∧ ((partsOf k).body = true ∨ lb = 0) ∧ ((partsOf k).other = true ∨ le = 0) ∧ NameOk (partsOf k).named k n s
mutual
def StOk : St → Prop
  | .mk k n s args body els => StGood k n s args.length body.length els.length ∧ (k = 19 → ∀ x ∈ args.head?, x.kind = 9) ∧ (∀ x ∈ args, (k = 1 ∨ ¬ SaidK x.kind) ∧ Src x) ∧ (body.length ≤ 256 ∧ StOks body) ∧ els.length ≤ 256 ∧ StOks els
def StOks : List St → Prop
  | [] => True
  | a :: l => StOk a ∧ StOks l
end
theorem stOks_iff (l : List St) : StOks l ↔ ∀ a ∈ l, StOk a := by
  induction l with
  | nil => simp [StOks]
  | cons a l ih => simp [StOks, ih]
def Blk (l : List St) : Prop := l.length ≤ 256 ∧ ∀ s ∈ l, StOk s
theorem stOk_eq (e : St) : StOk e ↔ StGood e.kind e.num e.name e.args.length e.body.length e.els.length ∧ (e.kind = 19 → ∀ x ∈ e.args.head?, x.kind = 9) ∧ (∀ x ∈ e.args, (e.kind = 1 ∨ ¬ SaidK x.kind) ∧ Src x) ∧ Blk e.body ∧ Blk e.els := by
  obtain ⟨_, _, _, _, _, _⟩ := e
  simp only [StOk, Blk, stOks_iff, St.kind, St.num, St.name, St.args, St.body, St.els]
end Go.Proofs.YtnbfadgclffgkaaGreatDoor
/- The walks of tree's rules.block and of tree.RightBlock. -/
namespace Go.Proofs.YtnbfadgclffgkaaGreatDoor
open Go.RowKit Go.Sort
def RightB (l : List St) : Prop := St.depths l ≤ 32 ∧ Blk l
end Go.Proofs.YtnbfadgclffgkaaGreatDoor
/- How expressions and statements of a source are written, as plain functions on plain data. No program in sight. -/
namespace Go.Proofs.YtnbfadgclffgkaaGreatDoor
open Go.RowKit
theorem ret_str {a b : ByteArray} (h : a = b) : Ending.returned (.string a) = .returned (.string b) := by rw [h]
def lvl (o : Int) : Int := if o < 1 ∨ 14 < o then 0 else if o ≤ 2 then o else if o ≤ 9 then 4 else if o ≤ 11 then 5 else 6
def tightK (k o : Int) : Int :=
  if k = 6 then lvl o else if k = 5 then 3 else if k = 7 then 4 else if k = 4 then 7 else if k = 8 then 8 else if k = 1 ∨ k = 3 ∨ k = 9 ∨ k = 10 ∨ k = 11 ∨ k = 12 then 9 else 0
def signs : List ByteArray := [⟨#[]⟩, ⟨#[111, 114]⟩, ⟨#[97, 110, 100]⟩, ⟨#[61, 61]⟩, ⟨#[33, 61]⟩, ⟨#[60]⟩, ⟨#[60, 61]⟩, ⟨#[62]⟩, ⟨#[62, 61]⟩, ⟨#[105, 110]⟩, ⟨#[43]⟩, ⟨#[45]⟩, ⟨#[42]⟩, ⟨#[47]⟩, ⟨#[37]⟩]
def signB (o : Int) : ByteArray := signs.getD o.toNat ⟨#[]⟩
def selves : List ByteArray := [⟨#[104, 101, 114, 101]⟩, ⟨#[112, 108, 97, 121, 101, 114]⟩, ⟨#[110, 111, 117, 110]⟩, ⟨#[115, 101, 99, 111, 110, 100]⟩, ⟨#[110, 117, 109, 98, 101, 114]⟩, ⟨#[115, 99, 111, 114, 101]⟩]
def selfB (o : Int) : ByteArray := selves.getD (o - 1).toNat ⟨#[]⟩
def arounds : List ByteArray := [⟨#[112, 97, 114, 101, 110, 116]⟩, ⟨#[99, 104, 105, 108, 100]⟩, ⟨#[110, 101, 120, 116]⟩]
def aroundB (o : Int) : ByteArray := arounds.getD (o - 1).toNat ⟨#[]⟩
def numB (n : Int) : ByteArray := ⟨(Lib.itoa n).toArray⟩
def sepTail (sep : ByteArray) : List ByteArray → ByteArray
  | [] => ⟨#[]⟩
  | x :: l => sep ++ x ++ sepTail sep l
def sepB (sep : ByteArray) : List ByteArray → ByteArray
  | [] => ⟨#[]⟩
  | x :: l => x ++ sepTail sep l
def wrapB (c : Bool) (x : ByteArray) : ByteArray := if c = true then ⟨#[40]⟩ ++ x ++ ⟨#[41]⟩ else x
def pt (ps : List (Int × ByteArray)) (i : Nat) (t : Int) : ByteArray := match ps[i]? with | none => ⟨#[]⟩ | some p => wrapB (decide (p.1 < t)) p.2
def headB (k o : Int) (s : ByteArray) : ByteArray := if k = 10 then aroundB o else if k = 11 then ⟨#[114, 97, 110, 100, 111, 109]⟩ else if k = 13 then ⟨#[116, 105, 116, 108, 101]⟩ else s
def lft (o : Int) : Int := if lvl o = 4 then 5 else lvl o
def prE (k o n : Int) (s : ByteArray) (ps : List (Int × ByteArray)) : ByteArray :=
  if k = 1 then numB n
  else if k = 2 then quoteB s
  else if k = 3 then s
  else if k = 4 then ⟨#[45]⟩ ++ pt ps 0 7
  else if k = 5 then ⟨#[110, 111, 116, 32]⟩ ++ pt ps 0 3
  else if k = 7 then pt ps 0 5 ++ ⟨#[32, 104, 97, 115, 32]⟩ ++ s
  else if k = 8 then pt ps 0 8 ++ ⟨#[46]⟩ ++ s
  else if k = 6 then pt ps 0 (lft o) ++ ⟨#[32]⟩ ++ signB o ++ ⟨#[32]⟩ ++ pt ps 1 (lvl o + 1)
  else if k = 12 then selfB o
  else headB k o s ++ ⟨#[40]⟩ ++ sepB ⟨#[44, 32]⟩ (ps.map Prod.snd) ++ ⟨#[41]⟩
mutual
def Ex.pr : Ex → ByteArray
  | .mk k o n s args => prE k o n s (Ex.prs args)
def Ex.prs : List Ex → List (Int × ByteArray)
  | [] => []
  | e :: l => (tightK e.kind e.op, e.pr) :: Ex.prs l
end
theorem Ex.prs_eq (l : List Ex) : Ex.prs l = l.map fun e => (tightK e.kind e.op, e.pr) := by
  induction l with
  | nil => rfl
  | cons e l ih => simp [Ex.prs, ih]
theorem emp_app (x : ByteArray) : (⟨#[]⟩ : ByteArray) ++ x = x := ByteArray.empty_append
theorem app_emp (x : ByteArray) : x ++ (⟨#[]⟩ : ByteArray) = x := ByteArray.append_empty
theorem sepTail_snoc (sep x : ByteArray) (l : List ByteArray) : sepTail sep (l ++ [x]) = sepTail sep l ++ (sep ++ x) := by
  induction l with
  | nil => simp [sepTail, emp_app, app_emp]
  | cons y l ih => simp only [List.cons_append, sepTail, ih, ByteArray.append_assoc]
theorem sepB_snoc (sep x : ByteArray) (l : List ByteArray) : sepB sep (l ++ [x]) = if l = [] then x else sepB sep l ++ sep ++ x := by
  cases l with
  | nil => simp [sepB, sepTail, app_emp]
  | cons y l => simp only [List.cons_append, sepB, sepTail_snoc, reduceCtorEq, ↓reduceIte, ByteArray.append_assoc]
theorem sepB_join (sep : ByteArray) (l : List ByteArray) : (sepB sep l).data.toList = Lib.join (l.map (·.data.toList)) sep.data.toList := by
  have ht : ∀ (l : List ByteArray) (y : ByteArray), (y ++ sepTail sep l).data.toList = Lib.join ((y :: l).map (·.data.toList)) sep.data.toList := by
    intro l
    induction l with
    | nil => intro y; simp [sepTail, Lib.join, List.intercalate]
    | cons x l ih =>
      intro y
      have h := ih x
      simp only [sepTail, ByteArray.data_append, Array.toList_append, List.map_cons, Lib.join, List.intercalate, List.intersperse, List.flatten_cons] at h ⊢
      rw [← h]
      simp
  cases l with
  | nil => simp [sepB, Lib.join, List.intercalate]
  | cons y l => exact ht l y
theorem sepTail_append (sep : ByteArray) (a b : List ByteArray) : sepTail sep (a ++ b) = sepTail sep a ++ sepTail sep b := by
  induction a with
  | nil => simp [sepTail, emp_app]
  | cons x a ih => simp only [List.cons_append, sepTail, ih, ByteArray.append_assoc]
theorem sepB_take_le (sep : ByteArray) (l : List ByteArray) (k : Nat) : (sepB sep (l.take k)).size ≤ (sepB sep l).size := by
  cases l with
  | nil => simp
  | cons x l =>
    cases k with
    | zero => exact Nat.zero_le _
    | succ k =>
      have h := congrArg ByteArray.size (sepTail_append sep (l.take k) (l.drop k))
      rw [List.take_append_drop, ByteArray.size_append] at h
      simp only [List.take_succ_cons, sepB, ByteArray.size_append]
      omega
theorem sepB_step (sep H : ByteArray) (l : List ByteArray) (k : Nat) (hk : k < l.length) : H ++ sepB sep (l.take (k + 1)) = if k = 0 then (H ++ sepB sep (l.take k)) ++ l[k] else (H ++ sepB sep (l.take k)) ++ sep ++ l[k] := by
  rw [List.take_succ_eq_append_getElem hk, sepB_snoc]
  by_cases h : k = 0
  · subst h
    simp [sepB, app_emp]
  · rw [if_neg (by intro e; have := congrArg List.length e; rw [List.length_take, List.length_nil] at this; omega), if_neg h]
    simp only [ByteArray.append_assoc]
theorem sepB_mem (sep : ByteArray) (l : List ByteArray) (k : Nat) (hk : k < l.length) : l[k].size ≤ (sepB sep l).size := by
  have h1 := sepB_take_le sep l (k + 1)
  have h2 := congrArg ByteArray.size (sepB_step sep ⟨#[]⟩ l k hk)
  rw [emp_app] at h2
  split at h2 <;> simp only [ByteArray.size_append] at h2 <;> omega
theorem wrapB_le (c : Bool) (x : ByteArray) : x.size ≤ (wrapB c x).size := by
  unfold wrapB
  split
  · simp only [ByteArray.size_append]; omega
  · exact Nat.le_refl _
theorem lvl_range (o : Int) : 0 ≤ lvl o ∧ lvl o ≤ 6 := by
  unfold lvl
  repeat' split
  all_goals omega
end Go.Proofs.YtnbfadgclffgkaaGreatDoor
/- The walks of phrase.level, phrase.sign and phrase.Tight, and of the reference's level, ops and Tight. -/
namespace Go.Proofs.YtnbfadgclffgkaaGreatDoor
open Go.RowKit Go.Sort
theorem op_cases (o : Int) : o = 1 ∨ o = 2 ∨ o = 3 ∨ o = 4 ∨ o = 5 ∨ o = 6 ∨ o = 7 ∨ o = 8 ∨ o = 9 ∨ o = 10 ∨ o = 11 ∨ o = 12 ∨ o = 13 ∨ o = 14 ∨ o < 1 ∨ 14 < o := by omega
set_option maxRecDepth 100000 in
set_option maxHeartbeats 4000000 in
theorem level_calls (o : Int) (w : World) : Calls Tryz.prog 87 #[.int .i64 o] w (Gives w (.int .i64 (lvl o))) := by
  rcases op_cases o with rfl | rfl | rfl | rfl | rfl | rfl | rfl | rfl | rfl | rfl | rfl | rfl | rfl | rfl | h | h
  case inr.inr.inr.inr.inr.inr.inr.inr.inr.inr.inr.inr.inr.inr.inl =>
    have e : lvl o = 0 := by unfold lvl; rw [if_pos (Or.inl h)]
    rw [e]
    clear e
    go_enter Tryz.func87, Tryz.ntmps87
    go_wp2
    go_ret
    exact ⟨rfl, Below.refl _ _⟩
  case inr.inr.inr.inr.inr.inr.inr.inr.inr.inr.inr.inr.inr.inr.inr =>
    have e : lvl o = 0 := by unfold lvl; rw [if_pos (Or.inr h)]
    rw [e]
    clear e
    have h1 : ¬ o < 1 := by omega
    go_enter Tryz.func87, Tryz.ntmps87
    go_wp2
    go_ret
    exact ⟨rfl, Below.refl _ _⟩
  all_goals
    go_enter Tryz.func87, Tryz.ntmps87
    go_wp2
    go_ret
    exact ⟨rfl, Below.refl _ _⟩
set_option maxRecDepth 100000 in
set_option maxHeartbeats 4000000 in
theorem sign_calls (o : Int) (h1 : 1 ≤ o) (h2 : o ≤ 14) (w : World) : Calls Tryz.prog 88 #[.int .i64 o] w (Gives w (.string (signB o))) := by
  rcases op_cases o with rfl | rfl | rfl | rfl | rfl | rfl | rfl | rfl | rfl | rfl | rfl | rfl | rfl | rfl | h | h
  case inr.inr.inr.inr.inr.inr.inr.inr.inr.inr.inr.inr.inr.inr.inl => omega
  case inr.inr.inr.inr.inr.inr.inr.inr.inr.inr.inr.inr.inr.inr.inr => omega
  all_goals
    clear h1 h2
    go_enter Tryz.func88, Tryz.ntmps88
    go_wp2
    go_ret
    exact ⟨rfl, (Below.refl _ _).alloc (Nat.le_refl _) _⟩
theorem ekind_cases (k : Int) (h1 : 1 ≤ k) (h2 : k ≤ 13) : k = 1 ∨ k = 2 ∨ k = 3 ∨ k = 4 ∨ k = 5 ∨ k = 6 ∨ k = 7 ∨ k = 8 ∨ k = 9 ∨ k = 10 ∨ k = 11 ∨ k = 12 ∨ k = 13 := by omega
set_option maxRecDepth 100000 in
set_option maxHeartbeats 4000000 in
theorem tightT_calls (k o n : Int) (s : ByteArray) (d : Option Addr) (l f : Nat) (hk1 : 1 ≤ k) (hk2 : k ≤ 13) (w : World) :
    Calls Tryz.prog 130 #[.agg #[.int .i64 k, .int .i64 o, .int .i64 n, .string s, .slice d l f]] w (Gives w (.int .i64 (tightK k o))) := by
  rcases ekind_cases k hk1 hk2 with rfl | rfl | rfl | rfl | rfl | rfl | rfl | rfl | rfl | rfl | rfl | rfl | rfl
  case inr.inr.inr.inr.inr.inl =>
    have HL := Lib.hid (fun W => level_calls o W)
    have e : tightK 6 o = lvl o := rfl
    rw [e]
    clear hk1 hk2 e
    obtain ⟨r, hr⟩ : ∃ r, lvl o = r := ⟨_, rfl⟩
    rw [hr] at HL ⊢
    clear hr
    go_enter Tryz.func130, Tryz.ntmps130
    go_wp2_with (go_at_call 87; (with_reducible refine (HL.out _).mono ?_); rintro e w1 ⟨rfl, hb⟩)
    go_ret
    exact ⟨rfl, ((Below.refl _ w).alloc (Nat.le_refl _) _).trans (hb.mono (by simp))⟩
  all_goals
    clear hk1 hk2
    go_enter Tryz.func130, Tryz.ntmps130
    go_wp2
    go_ret
    exact ⟨rfl, (Below.refl _ w).alloc (Nat.le_refl _) _⟩
set_option maxRecDepth 100000 in
set_option maxHeartbeats 4000000 in
theorem levelR_calls (o : Int) (w : World) : Calls Tryz.prog 93 #[.int .i64 o] w (Gives w (.int .i64 (lvl o))) := by
  rcases op_cases o with rfl | rfl | rfl | rfl | rfl | rfl | rfl | rfl | rfl | rfl | rfl | rfl | rfl | rfl | h | h
  case inr.inr.inr.inr.inr.inr.inr.inr.inr.inr.inr.inr.inr.inr.inl =>
    have e : lvl o = 0 := by unfold lvl; rw [if_pos (Or.inl h)]
    rw [e]
    clear e
    go_enter Tryz.func93, Tryz.ntmps93
    go_wp2
    go_ret
    exact ⟨rfl, Below.refl _ _⟩
  case inr.inr.inr.inr.inr.inr.inr.inr.inr.inr.inr.inr.inr.inr.inr =>
    have e : lvl o = 0 := by unfold lvl; rw [if_pos (Or.inr h)]
    rw [e]
    clear e
    have h1 : ¬ o < 1 := by omega
    go_enter Tryz.func93, Tryz.ntmps93
    go_wp2
    go_ret
    exact ⟨rfl, Below.refl _ _⟩
  all_goals
    go_enter Tryz.func93, Tryz.ntmps93
    go_wp2
    go_ret
    exact ⟨rfl, (Below.refl _ _).alloc (Nat.le_refl _) _⟩
set_option maxRecDepth 100000 in
set_option maxHeartbeats 4000000 in
theorem tightR_calls (k o n : Int) (s : ByteArray) (d : Option Addr) (l f : Nat) (hk1 : 1 ≤ k) (hk2 : k ≤ 13) (w : World) :
    Calls Tryz.prog 133 #[.agg #[.int .i64 k, .int .i64 o, .int .i64 n, .string s, .slice d l f]] w (Gives w (.int .i64 (tightK k o))) := by
  rcases ekind_cases k hk1 hk2 with rfl | rfl | rfl | rfl | rfl | rfl | rfl | rfl | rfl | rfl | rfl | rfl | rfl
  case inr.inr.inr.inr.inr.inl =>
    have HL := Lib.hid (fun W => levelR_calls o W)
    have e : tightK 6 o = lvl o := rfl
    rw [e]
    clear hk1 hk2 e
    obtain ⟨r, hr⟩ : ∃ r, lvl o = r := ⟨_, rfl⟩
    rw [hr] at HL ⊢
    clear hr
    go_enter Tryz.func133, Tryz.ntmps133
    go_wp2_with (go_at_call 93; (with_reducible refine (HL.out _).mono ?_); rintro e w1 ⟨rfl, hb⟩)
    go_ret
    exact ⟨rfl, ((Below.refl _ w).alloc (Nat.le_refl _) _).trans (hb.mono (by simp))⟩
  all_goals
    clear hk1 hk2
    go_enter Tryz.func133, Tryz.ntmps133
    go_wp2
    go_ret
    exact ⟨rfl, (Below.refl _ w).alloc (Nat.le_refl _) _⟩
def GivesOps (w : World) (e : Ending) (w' : World) : Prop := ∃ b, e = .returned (.slice (some ⟨b, 0, none⟩) 15 15) ∧ w.heap.size ≤ b ∧ BoxAt w' b (signs.map Value.string) ∧ Below w.heap.size w w'
set_option maxRecDepth 100000 in
theorem opsR_calls (w : World) : Calls Tryz.prog 94 #[] w (GivesOps w) := by
  go_enter Tryz.func94, Tryz.ntmps94
  go_wp2
  go_ret
  exact ⟨_, rfl, Nat.le_refl _, BoxAt.new w (signs.map Value.string) 9, (Below.refl _ w).alloc (Nat.le_refl _) _⟩
end Go.Proofs.YtnbfadgclffgkaaGreatDoor
/- How statements of a source are written, as plain functions on plain data. No program in sight. -/
namespace Go.Proofs.YtnbfadgclffgkaaGreatDoor
open Go.RowKit
def tabsB : Nat → ByteArray
  | 0 => ⟨#[]⟩
  | n + 1 => tabsB n ++ ⟨#[9]⟩
def dn (d : Nat) : Nat := min (d + 1) 64
def linesB (d : Nat) : List ByteArray → ByteArray
  | [] => ⟨#[]⟩
  | x :: l => tabsB d ++ x ++ ⟨#[10]⟩ ++ linesB d l
def blockB (d : Nat) (l : List ByteArray) : ByteArray := ⟨#[123, 10]⟩ ++ linesB (dn d) l ++ tabsB d ++ ⟨#[125]⟩
def wordB (k : Int) : ByteArray :=
  if k = 8 then ⟨#[114, 101, 109, 111, 118, 101]⟩ else if k = 12 then ⟨#[114, 101, 116, 117, 114, 110]⟩ else if k = 13 then ⟨#[115, 116, 111, 112]⟩ else if k = 14 then ⟨#[119, 105, 110]⟩
  else if k = 15 then ⟨#[108, 111, 115, 101]⟩ else if k = 16 then ⟨#[97, 119, 97, 114, 100]⟩ else if k = 20 then ⟨#[116, 114, 97, 118, 101, 108]⟩ else if k = 21 then ⟨#[108, 111, 111, 107]⟩ else if k = 22 then ⟨#[108, 105, 115, 116]⟩ else ⟨#[]⟩
def elsB (d : Nat) (one : Bool) (l0 l1 : List ByteArray) : ByteArray :=
  match l0 with
  | [] => ⟨#[]⟩
  | x :: _ => if one = true then ⟨#[32, 101, 108, 115, 101, 32]⟩ ++ x else ⟨#[32, 101, 108, 115, 101, 32]⟩ ++ blockB d l1
def argB (ps : List (Int × ByteArray)) (i : Nat) : ByteArray := ((ps.map Prod.snd)[i]?).getD ⟨#[]⟩
def lnE (k : Int) (s : ByteArray) (ps : List (Int × ByteArray)) (body els : ByteArray) : ByteArray :=
  if k = 1 then ⟨#[115, 97, 121, 32]⟩ ++ sepB ⟨#[44, 32]⟩ (ps.map Prod.snd) ++ ⟨#[59]⟩
  else if k = 2 then ⟨#[108, 101, 116, 32]⟩ ++ s ++ ⟨#[32, 61, 32]⟩ ++ argB ps 0 ++ ⟨#[59]⟩
  else if k = 3 then s ++ ⟨#[32, 61, 32]⟩ ++ argB ps 0 ++ ⟨#[59]⟩
  else if k = 4 then (pt ps 0 8 ++ ⟨#[46]⟩ ++ s) ++ ⟨#[32, 61, 32]⟩ ++ argB ps 1 ++ ⟨#[59]⟩
  else if k = 5 then ⟨#[115, 101, 116, 32]⟩ ++ argB ps 0 ++ ⟨#[32, 105, 115, 32]⟩ ++ s ++ ⟨#[59]⟩
  else if k = 6 then ⟨#[117, 110, 115, 101, 116, 32]⟩ ++ argB ps 0 ++ ⟨#[32, 105, 115, 32]⟩ ++ s ++ ⟨#[59]⟩
  else if k = 7 then ⟨#[109, 111, 118, 101, 32]⟩ ++ argB ps 0 ++ ⟨#[32, 116, 111, 32]⟩ ++ argB ps 1 ++ ⟨#[59]⟩
  else if k = 9 then ⟨#[105, 102, 32]⟩ ++ argB ps 0 ++ ⟨#[32]⟩ ++ body ++ els
  else if k = 10 then ⟨#[119, 104, 105, 108, 101, 32]⟩ ++ argB ps 0 ++ ⟨#[32]⟩ ++ body
  else if k = 11 then ⟨#[101, 97, 99, 104, 32]⟩ ++ s ++ ⟨#[32, 105, 110, 32]⟩ ++ argB ps 0 ++ ⟨#[32]⟩ ++ body
  else if k = 17 then ⟨#[115, 116, 97, 114, 116, 32]⟩ ++ s ++ ⟨#[32, 105, 110, 32]⟩ ++ argB ps 0 ++ ⟨#[59]⟩
  else if k = 18 then ⟨#[104, 97, 108, 116, 32]⟩ ++ s ++ ⟨#[59]⟩
  else if k = 19 then argB ps 0 ++ ⟨#[59]⟩
  else if ps = [] then wordB k ++ ⟨#[59]⟩
  else wordB k ++ ⟨#[32]⟩ ++ argB ps 0 ++ ⟨#[59]⟩
def oneIf : List St → Bool
  | [x] => decide (x.kind = 9)
  | _ => false
mutual
def St.ln : St → Nat → ByteArray
  | .mk k _ s args body els, d => lnE k s (Ex.prs args) (blockB d (St.lns body (dn d))) (elsB d (oneIf els) (St.lns els d) (St.lns els (dn d)))
def St.lns : List St → Nat → List ByteArray
  | [], _ => []
  | x :: l, d => x.ln d :: St.lns l d
end
def St.blk (l : List St) (d : Nat) : ByteArray := blockB d (St.lns l (dn d))
def St.pr (s : St) (d : Nat) : ByteArray := tabsB d ++ s.ln d ++ ⟨#[10]⟩
theorem St.lns_eq (l : List St) (d : Nat) : St.lns l d = l.map fun s => s.ln d := by
  induction l with
  | nil => rfl
  | cons x l ih => simp [St.lns, ih]
theorem linesB_snoc (d : Nat) (l : List ByteArray) (x : ByteArray) : linesB d (l ++ [x]) = linesB d l ++ (tabsB d ++ x ++ ⟨#[10]⟩) := by
  induction l with
  | nil => simp [linesB, app_emp, emp_app]
  | cons y l ih => simp only [List.cons_append, linesB, ih, ByteArray.append_assoc]
theorem tabsB_size (n : Nat) : (tabsB n).size = n := by
  induction n with
  | zero => rfl
  | succ n ih => simp only [tabsB, ByteArray.size_append, ih]; rfl
theorem dn_le (d : Nat) : dn d ≤ 64 := Nat.min_le_right _ _
theorem linesB_append (d : Nat) (a b : List ByteArray) : linesB d (a ++ b) = linesB d a ++ linesB d b := by
  induction a with
  | nil => simp [linesB, emp_app]
  | cons x a ih => simp only [List.cons_append, linesB, ih, ByteArray.append_assoc]
theorem linesB_take_le (d : Nat) (l : List ByteArray) (k : Nat) : (linesB d (l.take k)).size ≤ (linesB d l).size := by
  have h := congrArg ByteArray.size (linesB_append d (l.take k) (l.drop k))
  rw [List.take_append_drop, ByteArray.size_append] at h
  omega
theorem tabsB_repeat (n : Nat) : (tabsB n).data.toList = List.replicate n 9 := by
  induction n with
  | zero => rfl
  | succ n ih => simp only [tabsB, ByteArray.data_append, Array.toList_append, ih, List.replicate_succ']
end Go.Proofs.YtnbfadgclffgkaaGreatDoor
/- The walks of phrase.part, phrase.called and phrase.Print. -/
namespace Go.Proofs.YtnbfadgclffgkaaGreatDoor
open Go.RowKit Go.Sort
def TB (w : World) : Prop := Lib.TabIs Tryz.prog w "internal/strconv.uint64pow10" .u64 Lib.pow10Tab
theorem TB.below {B : Nat} {w w' : World} (h : TB w) (hb : Below B w w') (hB : w.heap.size ≤ B) : TB w' := by
  unfold TB Lib.TabIs World.var? at h ⊢
  have hg : Tryz.prog.globalNamed "internal/strconv.uint64pow10" = some 1 := by kernel_rfl
  rw [hg] at h ⊢
  simp only [Option.bind_some] at h ⊢
  have hlt : 1 < w.heap.size := by
    rcases Nat.lt_or_ge 1 w.heap.size with h1 | h1
    · exact h1
    · rw [Array.getElem?_eq_none h1] at h
      simp at h
  rw [hb.block _ (Nat.lt_of_lt_of_le hlt hB)]
  exact h
theorem numT_calls (n : Int) (hn : I64 n) (w : World) (ht : TB w) : Calls Tryz.prog 84 #[.int .i64 n] w (Gives w (.string (numB n))) := by
  have HC := Lib.hid (Tryz.strconv_Itoa n hn.1 hn.2 w ht)
  clear ht hn
  go_enter Tryz.func84, Tryz.ntmps84
  go_wp2_with (go_at_call 128; (with_reducible refine HC.out.mono ?_); rintro e w1 ⟨rfl, hw⟩)
  go_ret
  obtain ⟨k, os, rfl⟩ := hw
  exact ⟨rfl, below_regrown w (w.drawn + k) os⟩
def PrTC (e : Ex) : Prop := ∀ (F : Nat → Prop) (w : World) (cs : List Value), Inn F w → TB w → Src e → e.pr.size ≤ 1000000000000 → RdEx F w e cs →
    Calls Tryz.prog 43 #[.agg cs.toArray] w (Gives w (.string e.pr))
theorem src_kind {e : Ex} (h : Src e) : 1 ≤ e.kind ∧ e.kind ≤ 13 := by
  obtain ⟨k, o, n, s, args⟩ := e
  exact h.1
set_option maxRecDepth 100000 in
set_option maxHeartbeats 4000000 in
theorem partT_calls (e : Ex) (i : Nat) (t : Int) (hi : i < e.args.length) (h : PrTC e.args[i]) (F : Nat → Prop) (w : World) (cs : List Value) (hF : Inn F w) (ht : TB w) (hs : Src e.args[i]) (hsz : e.args[i].pr.size ≤ 1000000000000) (hr : RdEx F w e cs) :
    Calls Tryz.prog 86 #[.agg cs.toArray, .int .i64 i, .int .i64 t] w (Gives w (.string (wrapB (decide (tightK e.args[i].kind e.args[i].op < t)) e.args[i].pr))) := by
  obtain ⟨k, o, n, s, a, m, cap, rfl⟩ := hr.shape
  obtain ⟨-, -, -, -, -, -, -, -, hx⟩ := hr.parts
  obtain ⟨rfl, hl, hc, ha⟩ := hx.opn
  obtain ⟨b, off, rfl, hFb, hel⟩ := ha (by omega)
  obtain ⟨hk1, hk2⟩ := src_kind hs
  obtain ⟨kd, o', n', s', a', m', cap', hxi, g0, g1, g2, g3, g4⟩ := hel w rfl i hi
  obtain ⟨e1, e2, -⟩ := hxi.parts
  have hbw := hF b hFb
  rw [e1] at hk1 hk2
  have HP : Hid (∀ W, Below w.heap.size w W → Calls Tryz.prog 43 #[.agg #[.int .i64 kd, .int .i64 o', .int .i64 n', .string s', .slice a' m' cap']] W (Gives W (.string e.args[i].pr))) :=
    Lib.hid fun W hW => h F W _ (hF.below hW) (ht.below hW (Nat.le_refl _)) hs hsz (hxi.below hF hW (Nat.le_refl _))
  have HT : Hid (∀ W, Calls Tryz.prog 130 #[.agg #[.int .i64 kd, .int .i64 o', .int .i64 n', .string s', .slice a' m' cap']] W (Gives W (.int .i64 (tightK kd o')))) := Lib.hid fun W => tightT_calls kd o' n' s' a' m' cap' hk1 hk2 W
  rw [e1, e2]
  have HG : Hid (∀ W, Below w.heap.size w W → W.cell? ⟨b, off + i * 5, none⟩ = some (.int .i64 kd) ∧ W.cell? ⟨b, off + i * 5 + 1, none⟩ = some (.int .i64 o') ∧ W.cell? ⟨b, off + i * 5 + 2, none⟩ = some (.int .i64 n') ∧ W.cell? ⟨b, off + i * 5 + 3, none⟩ = some (.string s') ∧ W.cell? ⟨b, off + i * 5 + 4, none⟩ = some (.slice a' m' cap')) :=
    Lib.hid fun W hW => ⟨(hW.cell (p := ⟨b, _, none⟩) hbw).trans g0, (hW.cell (p := ⟨b, _, none⟩) hbw).trans g1, (hW.cell (p := ⟨b, _, none⟩) hbw).trans g2, (hW.cell (p := ⟨b, _, none⟩) hbw).trans g3, (hW.cell (p := ⟨b, _, none⟩) hbw).trans g4⟩
  obtain ⟨x, hxx⟩ : ∃ x, e.args[i].pr = x := ⟨_, rfl⟩
  obtain ⟨q, hq⟩ : ∃ q, tightK kd o' = q := ⟨_, rfl⟩
  rw [hxx] at HP hsz ⊢
  rw [hq] at HT ⊢
  have hil : (i : Int) < (e.args.length : Int) := by omega
  obtain ⟨L, hL⟩ : ∃ L, e.args.length = L := ⟨_, rfl⟩
  have hi' : i < L := by omega
  rw [hL] at hil hl ⊢
  obtain ⟨W1, hW1⟩ : ∃ W1, w.alloc (.cells #[.int .i64 k, .int .i64 o, .int .i64 n, .string s, .slice (some ⟨b, off, none⟩) L cap] 73) = W1 := ⟨_, rfl⟩
  have hb1 : Below w.heap.size w W1 := by rw [← hW1]; exact (Below.refl _ _).alloc (Nat.le_refl _) _
  have hbx : BoxAt W1 w.heap.size [.int .i64 k, .int .i64 o, .int .i64 n, .string s, .slice (some ⟨b, off, none⟩) L cap] := by rw [← hW1]; exact BoxAt.new _ _ _
  have HW1 := Lib.hid hW1
  have HE : Hid (∀ W, Below W1.heap.size W1 W → W.cell? ⟨w.heap.size, 4, none⟩ = some (.slice (some ⟨b, off, none⟩) L cap) ∧ Below w.heap.size w W) := Lib.hid fun W hW => ⟨(hbx.below hW hbx.1).2 4 (by simp), bt hb1 hW⟩
  clear hr hx ha hel hxi g0 g1 g2 g3 g4 h hs ht e1 e2 hk1 hk2 hF hFb hq hxx hL hi hW1 hb1 hbx hbw
  go_enter Tryz.func86, Tryz.ntmps86
  go_upto_region 1 with fail
  rw [HW1.out]
  obtain ⟨y4, hB1⟩ := HE.out W1 (Below.refl _ _)
  obtain ⟨g0, g1, g2, g3, g4⟩ := HG.out W1 hB1
  go_upto_region 4 with (go_at_call 43; (with_reducible refine (HP.out _ hB1).mono ?_); rintro e w1 ⟨rfl, hb⟩)
  clear y4 g0 g1 g2 g3 g4
  obtain ⟨y4, hB2⟩ := HE.out w1 hb
  obtain ⟨g0, g1, g2, g3, g4⟩ := HG.out w1 hB2
  have HB2 := Lib.hid hB2
  by_cases hqt : q < t
  · have hw : Hid (wrapB (decide (q < t)) x = ⟨#[40]⟩ ++ x ++ ⟨#[41]⟩) := Lib.hid (by simp [wrapB, hqt])
    go_wp2_with (go_at_call 130; (with_reducible refine (HT.out _).mono ?_); rintro e w2 ⟨rfl, hb2⟩)
    go_ret
    exact ⟨ret_str hw.out.symm, bt HB2.out hb2⟩
  · have hw : Hid (wrapB (decide (q < t)) x = x) := Lib.hid (by simp [wrapB, hqt])
    go_wp2_with (go_at_call 130; (with_reducible refine (HT.out _).mono ?_); rintro e w2 ⟨rfl, hb2⟩)
    go_ret
    exact ⟨ret_str hw.out.symm, bt HB2.out hb2⟩
end Go.Proofs.YtnbfadgclffgkaaGreatDoor
