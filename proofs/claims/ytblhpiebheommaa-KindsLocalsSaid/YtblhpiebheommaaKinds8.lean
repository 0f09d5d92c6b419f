/- What kinds' checker.block computes; the closure that it defers. -/
import Derived.Test.YtblhpiebheommaaKinds7
namespace Go.Proofs.Ytblhpiebheommaa
open Go.RowKit

mutual
/-- How many locals a statement makes. -/
def St.locs : St → Int
  | .mk k _ _ _ body els => addS k + St.locsL body + St.locsL els
def St.locsL : List St → Int
  | [] => 0
  | s :: r => s.locs + St.locsL r
end
/-- The locals that are seen in a statement's body. -/
def eachS (k : Int) (n : ByteArray) : List ByteArray := if k = 11 then [n] else []
mutual
/-- What is wrong with a statement: the locals that are seen ahead of it, how many there have been made. -/
noncomputable def St.kW (t : List NameD) (fs : List FuncD) (wh : Int) (l : List ByteArray) (m : Int) : St → Int × ByteArray
  | .mk k _ n args body els => seqW (Ex.kWs t fs l args) (seqW (ownSt t l wh m k n) (seqW (St.kWs t fs wh (locS k l n ++ eachS k n) (m + addS k) body) (St.kWs t fs wh (locS k l n) (m + addS k + St.locsL body) els)))
noncomputable def St.kWs (t : List NameD) (fs : List FuncD) (wh : Int) (l : List ByteArray) (m : Int) : List St → Int × ByteArray
  | [] => fineW
  | s :: r => seqW (s.kW t fs wh l m) (St.kWs t fs wh (locS s.kind l s.name) (m + s.locs) r)
end
theorem St.kWs_cons (t : List NameD) (fs : List FuncD) (wh : Int) (l : List ByteArray) (m : Int) (s : St) (r : List St) : St.kWs t fs wh l m (s :: r) = seqW (Ex.kWs t fs l s.args) (seqW (ownSt t l wh m s.kind s.name) (seqW (St.kWs t fs wh (locS s.kind l s.name ++ eachS s.kind s.name) (m + addS s.kind) s.body) (seqW (St.kWs t fs wh (locS s.kind l s.name) (m + addS s.kind + St.locsL s.body) s.els) (St.kWs t fs wh (locS s.kind l s.name) (m + addS s.kind + St.locsL s.body + St.locsL s.els) r)))) := by
  obtain ⟨k, n', n, args, body, els⟩ := s
  show seqW (St.kW t fs wh l m (.mk k n' n args body els)) _ = _
  have hassoc : ∀ a b c : Int × ByteArray, seqW (seqW a b) c = seqW a (seqW b c) := fun a b c => by
    by_cases h : a.1 = 0
    · rw [seqW_fine h, seqW_fine h]
    · rw [seqW_bad h, seqW_bad h, seqW_bad h]
  have hl : m + addS k + St.locsL body + St.locsL els = m + St.locs (.mk k n' n args body els) := by show _ = m + (addS k + St.locsL body + St.locsL els); omega
  unfold St.kW
  simp only [hassoc, St.kind, St.name, St.args, St.body, St.els]
  rw [hl]
theorem addS_nonneg (k : Int) : 0 ≤ addS k ∧ addS k ≤ 2 := by
  unfold addS
  split
  · omega
  · split <;> omega
theorem St.locsL_cons (s : St) (r : List St) : St.locsL (s :: r) = addS s.kind + St.locsL s.body + St.locsL s.els + St.locsL r := by
  obtain ⟨k, n', n, args, body, els⟩ := s; rfl
theorem St.locsL_nonneg : ∀ l, 0 ≤ St.locsL l := by
  refine blocks_ind fun l ih => ?_
  induction l with
  | nil => exact Int.le_refl _
  | cons s r ihr =>
    rw [St.locsL_cons]
    have := addS_nonneg s.kind
    obtain ⟨h1, h2⟩ := ih s (List.mem_cons_self ..)
    have h3 := ihr fun x hx => ih x (List.mem_cons_of_mem _ hx)
    omega

theorem ownSt_fine {t : List NameD} {l : List ByteArray} {wh m k : Int} {n : ByteArray} (h : (ownSt t l wh m k n).1 = 0) (hm : m ≤ 16) : m + addS k ≤ 16 := by
  unfold ownSt at h
  unfold addS
  by_cases h2 : k = 2
  · rw [if_pos h2] at h ⊢
    unfold freshW at h
    split at h
    · simp at h
    · split at h
      · simp at h
      · omega
  · rw [if_neg h2] at h ⊢
    by_cases h11 : k = 11
    · rw [if_pos h11] at h ⊢
      unfold freshW at h
      split at h
      · simp at h
      · split at h
        · simp at h
        · omega
    · rw [if_neg h11]; omega
theorem seqW_zero {a b : Int × ByteArray} (h : (seqW a b).1 = 0) : a.1 = 0 ∧ b.1 = 0 := by
  by_cases ha : a.1 = 0
  · rw [seqW_fine ha] at h; exact ⟨ha, h⟩
  · rw [seqW_bad ha] at h; exact absurd h ha
/-- Where nothing is wrong, there are not too many locals. -/
theorem St.kWs_few (t : List NameD) (fs : List FuncD) (wh : Int) : ∀ L : List St, ∀ (l : List ByteArray) (m : Int), (St.kWs t fs wh l m L).1 = 0 → m ≤ 16 → m + St.locsL L ≤ 16 := by
  refine blocks_ind fun L ih => ?_
  induction L with
  | nil => intro l m _ hm; show m + 0 ≤ 16; omega
  | cons s r ihr =>
    intro l m h hm
    rw [St.kWs_cons] at h
    rw [St.locsL_cons]
    obtain ⟨h1, h2⟩ := ih s (List.mem_cons_self ..)
    obtain ⟨_, h⟩ := seqW_zero h
    obtain ⟨h3, h⟩ := seqW_zero h
    obtain ⟨h4, h⟩ := seqW_zero h
    obtain ⟨h5, h6⟩ := seqW_zero h
    have a1 := ownSt_fine h3 hm
    have a2 := h1 _ _ h4 a1
    have a3 := h2 _ _ h5 a2
    have a4 := ihr (fun x hx => ih x (List.mem_cons_of_mem _ hx)) _ _ h6 a3
    omega

theorem add_zero' (a : Addr) : a.add 0 = a := by cases a with | mk b o s => cases s <;> simp [Addr.add]

set_option maxRecDepth 100000 in
set_option maxHeartbeats 1000000 in
theorem block1_calls (p q B n k cap : Nat) (a : Option Addr) (u : FrameMode) (w : World) (h0 : w.cell? ⟨p, 0, none⟩ = some (.pointer (some ⟨B, 0, none⟩))) (h1 : w.cell? ⟨q, 0, none⟩ = some (.int .i64 n)) (h2 : w.cell? ⟨B, 14, none⟩ = some (.slice a k cap)) (hz : w.frozen? ⟨B, 14, none⟩ = false) (hn : n ≤ cap) :
    CallsD Try.prog 65 #[.pointer (some ⟨p, 0, none⟩), .pointer (some ⟨q, 0, none⟩)] u w fun e u' w' => e = .returned (.tuple #[]) ∧ u' = u ∧ w' = w.drew.setCell ⟨B, 14, none⟩ (.slice a n cap) := by
  have hp0 : (0 : Int) ≤ (n : Int) := by omega
  have hp1 : (n : Int) ≤ (cap : Int) := by omega
  have hadd : Option.map (fun x => Addr.add x 0) a = a := by cases a <;> simp [add_zero']
  have hadd2 : (if cap = 0 then a else a) = a := by split <;> rfl
  refine (callsD_of_wp (R := fun e w' => e = .returned (.tuple #[]) ∧ w' = w.drew.setCell ⟨B, 14, none⟩ (.slice a n cap)) Try.func65 rfl ?_).mono fun e u' w' h => ⟨h.2.1, h.1, h.2.2⟩
  simp only [Try.ntmps65]
  go_region
  all_goals (go_wp2_with fail; go_end0; exact ⟨rfl, rfl⟩)
end Go.Proofs.Ytblhpiebheommaa
