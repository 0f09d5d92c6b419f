/- The declarations of a source, in order, and the table of names that is made of them: plain data. No program in sight. -/
import Derived.Test.YtblhpiebheommaaSrc
import Derived.Test.YtblhpiebheommaaNamesP
import Derived.Test.YtblhpiebheommaaLetter
import Derived.Test.YtblhpiebheommaaKeyLaw
namespace Go.Proofs.Ytblhpiebheommaa
open Go.RowKit

/-- A declaration. -/
structure EntD where
  name : ByteArray
  kind : Int
  part : Int
  place : Int
  num : Int
  most : Int
def Holds.ent : Holds EntD := ⟨fun _ _ x cs => x.name.size ≤ maxLen ∧ I64 x.kind ∧ I64 x.part ∧ I64 x.place ∧ I64 x.num ∧ I64 x.most ∧ cs = [.string x.name, .int .i64 x.kind, .int .i64 x.part, .int .i64 x.place, .int .i64 x.num, .int .i64 x.most], fun _ _ h => h⟩

/-- The declarations of a list, from place k on. -/
def ents {α : Type} (nm : α → ByteArray) (kd pt sh mo : Int) : Nat → List α → List EntD
  | _, [] => []
  | k, x :: l => ⟨nm x, kd, pt, k, k + sh, mo⟩ :: ents nm kd pt sh mo (k + 1) l

theorem ents_append {α : Type} (nm : α → ByteArray) (kd pt sh mo : Int) : ∀ (a b : List α) (k : Nat), ents nm kd pt sh mo k (a ++ b) = ents nm kd pt sh mo k a ++ ents nm kd pt sh mo (k + a.length) b
  | [], b, k => by simp [ents]
  | x :: a, b, k => by
    simp only [List.cons_append, ents, List.length_cons]
    rw [ents_append nm kd pt sh mo a b (k + 1)]
    rw [show k + 1 + a.length = k + (a.length + 1) by omega]
theorem ents_len {α : Type} (nm : α → ByteArray) (kd pt sh mo : Int) : ∀ (a : List α) (k : Nat), (ents nm kd pt sh mo k a).length = a.length
  | [], _ => rfl
  | _ :: a, k => by simp [ents, ents_len nm kd pt sh mo a (k + 1)]
theorem ents_take {α : Type} (nm : α → ByteArray) (kd pt sh mo : Int) (l : List α) (k : Nat) (h : k < l.length) : ents nm kd pt sh mo 0 (l.take (k + 1)) = ents nm kd pt sh mo 0 (l.take k) ++ [⟨nm l[k], kd, pt, k, k + sh, mo⟩] := by
  rw [List.take_succ_eq_append_getElem h, ents_append]
  simp [ents, Nat.min_eq_left (Nat.le_of_lt h)]

/-- All declarations of a source, in the order in which they are gone through. -/
def SrcD.ents (s : SrcD) : List EntD :=
  ((((((Ytblhpiebheommaa.ents (fun x => x) 1 2 4 12 0 s.flags ++ Ytblhpiebheommaa.ents PairD.name 2 3 0 16 0 s.props) ++ Ytblhpiebheommaa.ents PairD.name 3 4 0 64 0 s.globals) ++ Ytblhpiebheommaa.ents ObjD.name 4 5 2 126 0 s.objects) ++ Ytblhpiebheommaa.ents VerbD.name 5 6 0 64 0 s.verbs) ++ Ytblhpiebheommaa.ents FuncD.name 6 8 0 64 0 s.funcs) ++ Ytblhpiebheommaa.ents FuncD.name 7 9 0 16 0 s.daemons)
end Go.Proofs.Ytblhpiebheommaa
