/- The walks of clewlaw18.stays and clewlaw18.right. -/
import Derived.Test.YtimdnamhccipjaaSizeAny
import Derived.Test.YtimdnamhccipjaaFoldBD
namespace Go.Proofs.Ytimdnamhccipjaa
open Go.RowKit Go.Sort

def StaysC (l : List St) : Prop := ∃ q : Bool, ∀ (F : Nat → Prop) (w : World) (v : Value), Inn F w → Sts F w l v → Calls Try.prog 25 #[v] w (Gives w (.bool q))

mutual
/-- Whether a statement has an if whose condition is a number. -/
def St.stay : St → Bool
  | .mk k _ _ args body els => (k == 9 && (match args with | [x] => x.kind == 1 | _ => false)) || St.stayL body || St.stayL els
def St.stayL : List St → Bool
  | [] => false
  | s :: l => s.stay || St.stayL l
end
theorem St.stay_eq (s : St) : s.stay = ((s.kind == 9 && (match s.args with | [x] => x.kind == 1 | _ => false)) || St.stayL s.body || St.stayL s.els) := by
  obtain ⟨_, _, _, _, _, _⟩ := s; rfl
theorem St.stayL_drop (l : List St) (k : Nat) (h : k < l.length) : St.stayL (l.drop k) = ((l[k]).stay || St.stayL (l.drop (k + 1))) := by
  rw [List.drop_eq_getElem_cons h]; rfl

def StaysC' (l : List St) : Prop := ∀ (F : Nat → Prop) (w : World) (v : Value), Inn F w → Sts F w l v → Calls Try.prog 25 #[v] w (Gives w (.bool (St.stayL l)))

set_option maxRecDepth 100000 in
set_option maxHeartbeats 2000000 in
theorem stays_calls : ∀ l : List St, StaysC' l := by
  refine blocks_ind fun l ih => ?_
  intro F w v hF hr
  obtain ⟨a, cap, rfl⟩ := hr.shape
  obtain ⟨_, hl, hc, ha⟩ := hr.opn
  clear hr
  go_enter Try.func25, Try.ntmps25
  go_wp2
  go_loopw [8] (fun i wr => ∃ (k : Nat), k ≤ l.length ∧ i = .int .i64 k ∧ Hid (St.stayL l = St.stayL (l.drop k)) ∧ Below w.heap.size w wr) (fun i _ => l.length - (intOf i).toNat)
  case atStart => exact ⟨0, Nat.zero_le _, rfl, rfl, Below.refl _ _⟩
  case round =>
    obtain ⟨k, hk, rfl, hq, hB⟩ := hrel
    by_cases hlt : k < l.length
    rotate_left
    · have : k = l.length := by omega
      subst this
      have hfin : Hid (St.stayL l = false) := by have := hq.out; rwa [List.drop_length] at this
      clear hq ih ha
      go_wp2
      go_ret
      exact ⟨ret_bool hfin.out.symm, hB⟩
    obtain ⟨b, off, rfl, hFb, hel⟩ := ha (by omega)
    obtain ⟨kd, n, s, x1, m1, cp1, x2, m2, cp2, x3, m3, cp3, hx, g0, g1, g2, g3, g4, g5⟩ := hel wr (hB.block b (hF b hFb)) k hlt
    have hI := hF.below hB
    have hxr := hx.below hF hB (Nat.le_refl _)
    obtain ⟨ek, en, es, _, _, hsz, hxa, hxb, hxe⟩ := hxr.parts
    obtain ⟨rfl, hal, hac, haa⟩ := hxa.opn
    have HCb := Lib.hid (fun w' (hb : Below wr.heap.size wr w') => (ih _ (List.getElem_mem hlt)).1 F w' _ (hI.below hb) (hxb.below hI hb (Nat.le_refl _)))
    have HCe := Lib.hid (fun w' (hb : Below wr.heap.size wr w') => (ih _ (List.getElem_mem hlt)).2 F w' _ (hI.below hb) (hxe.below hI hb (Nat.le_refl _)))
    have hst : Hid (St.stayL l = ((l[k]).stay || St.stayL (l.drop (k + 1)))) := by show _ = _; rw [hq.out]; exact St.stayL_drop l k hlt
    have hse : Hid ((l[k]).stay = ((kd == 9 && (match (l[k]).args with | [x] => x.kind == 1 | _ => false)) || St.stayL (l[k]).body || St.stayL (l[k]).els)) := by show _ = _; rw [St.stay_eq, ek]
    have hkn : ∀ b : Bool, Hid (b = (kd == 9 && (match (l[k]).args with | [x] => x.kind == 1 | _ => false))) → Hid ((l[k]).stay = (b || St.stayL (l[k]).body || St.stayL (l[k]).els)) := fun b hb => by show _ = _; rw [hse.out, hb.out]
    clear ih ha hel hx hxr hxb hxe ek en es hsz hxa hq
    generalize (l[k]).stay = SS at *
    generalize hAr : (l[k]).args = args at *
    generalize St.stayL (l[k]).body = sb at *
    generalize St.stayL (l[k]).els = se at *
    clear hAr hse
    by_cases hk9 : kd = 9
    rotate_left
    · have hk9' : (kd == 9) = false := by simpa using hk9
      have hs := hkn false (by show _ = _; rw [hk9']; rfl)
      clear haa hkn
      cases sb
      rotate_left
      · have hfin : Hid (St.stayL l = true) := by show _ = _; rw [hst.out, hs.out]; simp
        go_wp2_with (first | (go_at_call 25; (with_reducible refine (HCb.out _ ((Below.refl _ _).alloc (Nat.le_refl _) _)).mono ?_); rintro e w1 ⟨rfl, hb⟩; obtain ⟨hcl, hfz⟩ := bcell hb; have hz1 := one_new hb; have hbo := below_on1 (Below.refl wr.heap.size wr) (Nat.le_refl _) hb) | (go_at_call 25; (with_reducible refine (HCe.out _ hbo).mono ?_); rintro e w2 ⟨rfl, hb2⟩; have hbo2 := below_on hbo (Nat.le_refl _) hb2))
        go_ret
        exact ⟨ret_bool hfin.out.symm, hB.trans (hbo.mono hB.size)⟩
      cases se
      rotate_left
      · have hfin : Hid (St.stayL l = true) := by show _ = _; rw [hst.out, hs.out]; simp
        go_wp2_with (first | (go_at_call 25; (with_reducible refine (HCb.out _ ((Below.refl _ _).alloc (Nat.le_refl _) _)).mono ?_); rintro e w1 ⟨rfl, hb⟩; obtain ⟨hcl, hfz⟩ := bcell hb; have hz1 := one_new hb; have hbo := below_on1 (Below.refl wr.heap.size wr) (Nat.le_refl _) hb) | (go_at_call 25; (with_reducible refine (HCe.out _ hbo).mono ?_); rintro e w2 ⟨rfl, hb2⟩; have hbo2 := below_on hbo (Nat.le_refl _) hb2))
        go_ret
        exact ⟨ret_bool hfin.out.symm, hB.trans (hbo2.mono hB.size)⟩
      have hnx : Hid (St.stayL l = St.stayL (l.drop (k + 1))) := by show _ = _; rw [hst.out, hs.out]; simp
      go_wp2_with (first | (go_at_call 25; (with_reducible refine (HCb.out _ ((Below.refl _ _).alloc (Nat.le_refl _) _)).mono ?_); rintro e w1 ⟨rfl, hb⟩; obtain ⟨hcl, hfz⟩ := bcell hb; have hz1 := one_new hb; have hbo := below_on1 (Below.refl wr.heap.size wr) (Nat.le_refl _) hb) | (go_at_call 25; (with_reducible refine (HCe.out _ hbo).mono ?_); rintro e w2 ⟨rfl, hb2⟩; have hbo2 := below_on hbo (Nat.le_refl _) hb2))
      go_roundw
      case rel => exact ⟨k + 1, by omega, by go_num, hnx, hB.trans (hbo2.mono hB.size)⟩
      case measure => simp [intOf]; omega
    subst hk9
    by_cases hone : args.length = 1
    rotate_left
    · have t1 : ((args.length : Int) == 1) = false := by simp; omega
      have hs := hkn false (by
        show _ = _
        match args, hone with
        | [], _ => rfl
        | [x], h => exact absurd rfl h
        | _ :: _ :: _, _ => rfl)
      clear haa hkn hone
      cases sb
      rotate_left
      · have hfin : Hid (St.stayL l = true) := by show _ = _; rw [hst.out, hs.out]; simp
        go_wp2_with (first | (go_at_call 25; (with_reducible refine (HCb.out _ ((Below.refl _ _).alloc (Nat.le_refl _) _)).mono ?_); rintro e w1 ⟨rfl, hb⟩; obtain ⟨hcl, hfz⟩ := bcell hb; have hz1 := one_new hb; have hbo := below_on1 (Below.refl wr.heap.size wr) (Nat.le_refl _) hb) | (go_at_call 25; (with_reducible refine (HCe.out _ hbo).mono ?_); rintro e w2 ⟨rfl, hb2⟩; have hbo2 := below_on hbo (Nat.le_refl _) hb2))
        go_ret
        exact ⟨ret_bool hfin.out.symm, hB.trans (hbo.mono hB.size)⟩
      cases se
      rotate_left
      · have hfin : Hid (St.stayL l = true) := by show _ = _; rw [hst.out, hs.out]; simp
        go_wp2_with (first | (go_at_call 25; (with_reducible refine (HCb.out _ ((Below.refl _ _).alloc (Nat.le_refl _) _)).mono ?_); rintro e w1 ⟨rfl, hb⟩; obtain ⟨hcl, hfz⟩ := bcell hb; have hz1 := one_new hb; have hbo := below_on1 (Below.refl wr.heap.size wr) (Nat.le_refl _) hb) | (go_at_call 25; (with_reducible refine (HCe.out _ hbo).mono ?_); rintro e w2 ⟨rfl, hb2⟩; have hbo2 := below_on hbo (Nat.le_refl _) hb2))
        go_ret
        exact ⟨ret_bool hfin.out.symm, hB.trans (hbo2.mono hB.size)⟩
      have hnx : Hid (St.stayL l = St.stayL (l.drop (k + 1))) := by show _ = _; rw [hst.out, hs.out]; simp
      go_wp2_with (first | (go_at_call 25; (with_reducible refine (HCb.out _ ((Below.refl _ _).alloc (Nat.le_refl _) _)).mono ?_); rintro e w1 ⟨rfl, hb⟩; obtain ⟨hcl, hfz⟩ := bcell hb; have hz1 := one_new hb; have hbo := below_on1 (Below.refl wr.heap.size wr) (Nat.le_refl _) hb) | (go_at_call 25; (with_reducible refine (HCe.out _ hbo).mono ?_); rintro e w2 ⟨rfl, hb2⟩; have hbo2 := below_on hbo (Nat.le_refl _) hb2))
      go_roundw
      case rel => exact ⟨k + 1, by omega, by go_num, hnx, hB.trans (hbo2.mono hB.size)⟩
      case measure => simp [intOf]; omega
    obtain ⟨x, rfl⟩ := List.length_eq_one_iff.1 hone
    obtain ⟨c, co, rfl, hFc, hel⟩ := haa (by simp)
    obtain ⟨kx, ox, nx, sx, ax, mx, cx, hx, g0', -, -, -, -⟩ := hel wr rfl 0 (by simp)
    have ekx := hx.parts.1
    simp only [List.getElem_cons_zero] at ekx
    have hlc : c < wr.heap.size := hI c hFc
    have e0 : wr.cell? ⟨c, co, none⟩ = some (.int .i64 kx) := by simpa using g0'
    have hkn2 : ∀ b : Bool, b = (kx == 1) → Hid (SS = (b || sb || se)) := fun b hb => hkn b (by show _ = _; rw [hb, ← ekx]; rfl)
    clear hel g0' hx ekx haa hkn hone
    by_cases hkx : (kx == 1) = true
    · have hs := hkn2 true hkx.symm
      have hfin : Hid (St.stayL l = true) := by show _ = _; rw [hst.out, hs.out]; simp
      clear hkn2
      go_wp2
      go_ret
      exact ⟨ret_bool hfin.out.symm, hB.alloc hB.size _⟩
    have hkx2 : (kx == 1) = false := by simpa using hkx
    have hs := hkn2 false hkx2.symm
    clear hkn2 hkx
    cases sb
    rotate_left
    · have hfin : Hid (St.stayL l = true) := by show _ = _; rw [hst.out, hs.out]; simp
      go_wp2_with (first | (go_at_call 25; (with_reducible refine (HCb.out _ ((Below.refl _ _).alloc (Nat.le_refl _) _)).mono ?_); rintro e w1 ⟨rfl, hb⟩; obtain ⟨hcl, hfz⟩ := bcell hb; have hz1 := one_new hb; have hbo := below_on1 (Below.refl wr.heap.size wr) (Nat.le_refl _) hb) | (go_at_call 25; (with_reducible refine (HCe.out _ hbo).mono ?_); rintro e w2 ⟨rfl, hb2⟩; have hbo2 := below_on hbo (Nat.le_refl _) hb2))
      go_ret
      exact ⟨ret_bool hfin.out.symm, hB.trans (hbo.mono hB.size)⟩
    cases se
    rotate_left
    · have hfin : Hid (St.stayL l = true) := by show _ = _; rw [hst.out, hs.out]; simp
      go_wp2_with (first | (go_at_call 25; (with_reducible refine (HCb.out _ ((Below.refl _ _).alloc (Nat.le_refl _) _)).mono ?_); rintro e w1 ⟨rfl, hb⟩; obtain ⟨hcl, hfz⟩ := bcell hb; have hz1 := one_new hb; have hbo := below_on1 (Below.refl wr.heap.size wr) (Nat.le_refl _) hb) | (go_at_call 25; (with_reducible refine (HCe.out _ hbo).mono ?_); rintro e w2 ⟨rfl, hb2⟩; have hbo2 := below_on hbo (Nat.le_refl _) hb2))
      go_ret
      exact ⟨ret_bool hfin.out.symm, hB.trans (hbo2.mono hB.size)⟩
    have hnx : Hid (St.stayL l = St.stayL (l.drop (k + 1))) := by show _ = _; rw [hst.out, hs.out]; simp
    go_wp2_with (first | (go_at_call 25; (with_reducible refine (HCb.out _ ((Below.refl _ _).alloc (Nat.le_refl _) _)).mono ?_); rintro e w1 ⟨rfl, hb⟩; obtain ⟨hcl, hfz⟩ := bcell hb; have hz1 := one_new hb; have hbo := below_on1 (Below.refl wr.heap.size wr) (Nat.le_refl _) hb) | (go_at_call 25; (with_reducible refine (HCe.out _ hbo).mono ?_); rintro e w2 ⟨rfl, hb2⟩; have hbo2 := below_on hbo (Nat.le_refl _) hb2))
    go_roundw
    case rel => exact ⟨k + 1, by omega, by go_num, hnx, hB.trans (hbo2.mono hB.size)⟩
    case measure => simp [intOf]; omega
end Go.Proofs.Ytimdnamhccipjaa
