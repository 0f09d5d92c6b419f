/- The walks of fold.exprs and of its reference: a list of expressions, each folded. -/
import Derived.Test.YtimdnamhccipjaaOwnX
import Derived.Test.YtimdnamhccipjaaFoldData
import Derived.Test.YtimdnamhccipjaaFoldE
namespace Go.Proofs.Ytimdnamhccipjaa
open Go.RowKit

theorem Try.infoEx : (Try.prog.info? 35).map (fun i => (i.zero, i.size, i.bytes)) = some (some (.agg #[.int .i64 0, .int .i64 0, .int .i64 0, .string ⟨#[]⟩, .slice none 0 0]), 5, 64) := by kernel_rfl

theorem Ex.length_le (l : List Ex) : l.length ≤ Ex.sizes l := by
  induction l with
  | nil => simp
  | cons e l ih => simp only [List.length_cons, Ex.sizes]; have := Ex.size_eq e; omega
theorem Ex.size_mem {l : List Ex} {x : Ex} (hx : x ∈ l) : x.size ≤ Ex.sizes l := by
  induction l with
  | nil => cases hx
  | cons e l ih =>
    simp only [Ex.sizes]
    rcases List.mem_cons.1 hx with rfl | hx
    · omega
    · have := ih hx; omega

def ExprTC (e : Ex) : Prop := ∀ (F : Nat → Prop) (w : World) (cs : List Value), Inn F w → e.shp → RdEx F w e cs → Calls Try.prog 20 #[.agg cs.toArray] w (GivesEx w e.fold)

theorem cells_five (w : World) (a b c d e : Value) (t : TypeId) : ∀ j u, [a, b, c, d, e][j]? = some u → (w.alloc (.cells #[a, b, c, d, e] t)).cell? ((⟨w.heap.size, 0, none⟩ : Addr).add j) = some u := by
  intro j u hj
  match j, hj with
  | 0, hj | 1, hj | 2, hj | 3, hj | 4, hj => simp at hj; subst hj; simp [Addr.add]

set_option maxRecDepth 20000 in
set_option maxHeartbeats 1000000 in
theorem exprsT_calls (l : List Ex) (ih : ∀ x ∈ l, ExprTC x) (F : Nat → Prop) (w : World) (v : Value) (hF : Inn F w) (hs : Ex.shps l) (hlen : l.length ≤ 2199023255488) (hr : Exs F w l v) :
    Calls Try.prog 52 #[v] w (GivesExs w (Ex.folds l)) := by
  obtain ⟨i0, hi, hz0, hz1, hz2⟩ := info_parts Try.infoEx
  obtain ⟨a, cap, rfl⟩ := hr.shape
  obtain ⟨_, hl, hc, ha⟩ := hr.opn
  have HS := Lib.hid (Ex.shps_mem hs)
  clear hr hs
  go_enter Try.func52, Try.ntmps52
  go_wp2
  go_loopw [3, 8] (fun u i wr => ∃ (k : Nat), k ≤ l.length ∧ i = .int .i64 k ∧ OwnR Holds.ex 35 5 w.heap.size wr (Ex.folds (l.take k)) u ∧ Below w.heap.size w wr) (fun _ i _ => l.length - (intOf i).toNat)
  case atStart => exact ⟨0, Nat.zero_le _, rfl, by simp [Ex.folds]; exact OwnR.nil _ _ _ _ _, Below.refl _ _⟩
  case round =>
    obtain ⟨k, hk, rfl, hown, hB⟩ := hrel
    by_cases hlt : k < l.length
    · obtain ⟨b, off, rfl, hFb, hel⟩ := ha (by omega)
      obtain ⟨kd', o', n', s', a', m', cap', hx, g0, g1, g2, g3, g4⟩ := hel wr (hB.block b (hF b hFb)) k hlt
      clear ha hel
      have hI := hF.below hB
      have hmem := List.getElem_mem hlt
      have HC := Lib.hid (fun o => ih _ hmem F (wr.alloc o) _ (hI.alloc _) (HS.out _ hmem) ((hx.below hF hB (Nat.le_refl _)).alloc hI o))
      have hnx : Hid (Ex.folds (l.take (k + 1)) = Ex.folds (l.take k) ++ [(l[k]).fold]) := by
        show _ = _
        rw [List.take_succ_eq_append_getElem hlt, Ex.folds_eq, Ex.folds_eq, List.map_append]; rfl
      have hlk : (Ex.folds (l.take k)).length = k := by rw [Ex.folds_length]; simp; omega
      have HLK := Lib.hid hlk
      clear ih hx hlk
      go_wp2_with (first | (go_at_call 20; refine (HC.out _).mono ?_; rintro e w1 ⟨cs, rfl, hcs, hb⟩; obtain ⟨hcl, hfz⟩ := bcell hb; obtain ⟨k1, o1, n1, s1, a1, m1, c1, rfl⟩ := hcs.shape; have hown1 := hown.below (below_on1 (Below.refl _ _) (Nat.le_refl _) hb); obtain ⟨ys, hys⟩ := hown1.owns) | (at_builtin; refine wpList_append_own_at _ rfl _ _ 33 rfl w.heap.size 35 i0 _ 5 64 Try.underlying33 hi hz0 hz1 hz2 rfl (by decide) _ _ _ rfl (hys.alloc _) ⟨w1.heap.size, 0, none⟩ 1 1 [.int .i64 k1, .int .i64 o1, .int .i64 n1, .string s1, .slice a1 m1 c1] rfl rfl (cells_five _ _ _ _ _ _ _) (by simp [Value.oneCell']) (by have := HLK.out; unfold maxLen; omega) (by have := HLK.out; omega) (by have h1 := hB.size; have h2 := one_new hb; simp; omega) ?_; intro v' w2 hown' hgrow _ hat))
      obtain ⟨hnew, hB2⟩ := OwnR.round hown (below_on1 (Below.refl _ _) (Nat.le_refl _) hb) hB hB.size (hys.alloc _) (by simp) hcs rfl hown' hgrow hat
      go_roundw
      case rel => exact ⟨k + 1, by omega, by go_num, by rw [hnx.out]; exact hnew, hB2⟩
      case measure => simp [intOf]; omega
    · go_wp2
      go_ret
      have : k = l.length := by omega
      subst this
      rw [List.take_length] at hown
      exact ⟨_, rfl, hown.exs, hB⟩
def ExprRC (e : Ex) : Prop := ∀ (F : Nat → Prop) (w : World) (cs : List Value), Inn F w → e.shp → RdEx F w e cs → Calls Try.prog 21 #[.agg cs.toArray] w (GivesEx w e.fold)

set_option maxRecDepth 20000 in
set_option maxHeartbeats 1000000 in
theorem exprsR_calls (l : List Ex) (ih : ∀ x ∈ l, ExprRC x) (F : Nat → Prop) (w : World) (v : Value) (hF : Inn F w) (hs : Ex.shps l) (hlen : l.length ≤ 2199023255488) (hr : Exs F w l v) :
    Calls Try.prog 60 #[v] w (GivesExs w (Ex.folds l)) := by
  obtain ⟨i0, hi, hz0, hz1, hz2⟩ := info_parts Try.infoEx
  obtain ⟨a, cap, rfl⟩ := hr.shape
  obtain ⟨_, hl, hc, ha⟩ := hr.opn
  have HS := Lib.hid (Ex.shps_mem hs)
  clear hr hs
  go_enter Try.func60, Try.ntmps60
  go_wp2
  go_loopw [3, 4] (fun u i wr => ∃ (k : Nat), k ≤ l.length ∧ i = .int .i64 k ∧ OwnR Holds.ex 35 5 w.heap.size wr (Ex.folds (l.take k)) u ∧ Below w.heap.size w wr) (fun _ i _ => l.length - (intOf i).toNat)
  case atStart => exact ⟨0, Nat.zero_le _, rfl, by simp [Ex.folds]; exact OwnR.nil _ _ _ _ _, Below.refl _ _⟩
  case round =>
    obtain ⟨k, hk, rfl, hown, hB⟩ := hrel
    by_cases hlt : k < l.length
    · obtain ⟨b, off, rfl, hFb, hel⟩ := ha (by omega)
      obtain ⟨kd', o', n', s', a', m', cap', hx, g0, g1, g2, g3, g4⟩ := hel wr (hB.block b (hF b hFb)) k hlt
      clear ha hel
      have hI := hF.below hB
      have hmem := List.getElem_mem hlt
      have HC := Lib.hid (ih _ hmem F wr _ hI (HS.out _ hmem) (hx.below hF hB (Nat.le_refl _)))
      have hnx : Hid (Ex.folds (l.take (k + 1)) = Ex.folds (l.take k) ++ [(l[k]).fold]) := by
        show _ = _
        rw [List.take_succ_eq_append_getElem hlt, Ex.folds_eq, Ex.folds_eq, List.map_append]; rfl
      have hlk : (Ex.folds (l.take k)).length = k := by rw [Ex.folds_length]; simp; omega
      have HLK := Lib.hid hlk
      clear ih hx hlk
      go_wp2_with (first | (go_at_call 21; refine (HC.out).mono ?_; rintro e w1 ⟨cs, rfl, hcs, hb⟩; obtain ⟨hcl, hfz⟩ := bcell hb; obtain ⟨k1, o1, n1, s1, a1, m1, c1, rfl⟩ := hcs.shape; have hown1 := hown.below hb; obtain ⟨ys, hys⟩ := hown1.owns) | (at_builtin; refine wpList_append_own_at _ rfl _ _ 33 rfl w.heap.size 35 i0 _ 5 64 Try.underlying33 hi hz0 hz1 hz2 rfl (by decide) _ _ _ rfl (hys.alloc _) ⟨w1.heap.size, 0, none⟩ 1 1 [.int .i64 k1, .int .i64 o1, .int .i64 n1, .string s1, .slice a1 m1 c1] rfl rfl (cells_five _ _ _ _ _ _ _) (by simp [Value.oneCell']) (by have := HLK.out; unfold maxLen; omega) (by have := HLK.out; omega) (by have h1 := hB.size; have h2 := hb.size; simp; omega) ?_; intro v' w2 hown' hgrow _ hat))
      obtain ⟨hnew, hB2⟩ := OwnR.round hown hb hB hB.size (hys.alloc _) (Nat.le_refl _) hcs rfl hown' hgrow hat
      go_roundw
      case rel => exact ⟨k + 1, by omega, by go_num, by rw [hnx.out]; exact hnew, hB2⟩
      case measure => simp [intOf]; omega
    · go_wp2
      go_ret
      have : k = l.length := by omega
      subst this
      rw [List.take_length] at hown
      exact ⟨_, rfl, hown.exs, hB⟩
end Go.Proofs.Ytimdnamhccipjaa
