/- The walk of fold.Block: statements, folded. -/
import Derived.Test.YtimdnamhccipjaaFoldBT
import Derived.Test.YtimdnamhccipjaaCells
import Derived.Deep.RegionWith
import Derived.Laws.AppendOwnNone
namespace Go.Proofs.Ytimdnamhccipjaa
open Go.RowKit

theorem cells_six (w : World) (a b c d e f : Value) (t : TypeId) : ∀ j u, [a, b, c, d, e, f][j]? = some u → (w.alloc (.cells #[a, b, c, d, e, f] t)).cell? ((⟨w.heap.size, 0, none⟩ : Addr).add j) = some u := by
  intro j u hj
  match j, hj with
  | 0, hj | 1, hj | 2, hj | 3, hj | 4, hj | 5, hj => simp at hj; subst hj; simp [Addr.add]

set_option maxRecDepth 20000 in
set_option maxHeartbeats 4000000 in
theorem blockT_calls : ∀ l : List St, BlockTC l := by
  refine blocks_ind fun l ih => ?_
  intro F w v hF hsh hlen hr
  obtain ⟨i0, hi, hz0, hz1', hz2'⟩ := info_parts Try.infoSt
  obtain ⟨a, cap, rfl⟩ := hr.shape
  obtain ⟨_, hl, hc, ha⟩ := hr.opn
  have HS := Lib.hid (St.shps_mem hsh)
  clear hr hsh
  go_enter Try.func23, Try.ntmps23
  go_wp2
  go_loopw [3, 12] (fun u i wr => ∃ (k : Nat) (out : List St), k ≤ l.length ∧ i = .int .i64 k ∧ Hid (St.folds l [] = St.folds (l.drop k) out) ∧ out.length + (l.length - k) ≤ 256 ∧ OwnR Holds.st 62 6 w.heap.size wr out u ∧ Below w.heap.size w wr) (fun _ i _ => l.length - (intOf i).toNat)
  case atStart => exact ⟨0, [], Nat.zero_le _, rfl, rfl, by simpa using hlen, OwnR.nil _ _ _ _ _, Below.refl _ _⟩
  case round =>
    obtain ⟨k, out, hk, rfl, hq, hlo, hown, hB⟩ := hrel
    by_cases hlt : k < l.length
    rotate_left
    · have : k = l.length := by omega
      subst this
      have hfin : Hid (St.folds l [] = out) := by have := hq.out; rwa [List.drop_length] at this
      clear hq ih ha
      go_wp2
      go_ret
      rw [hfin.out]
      exact ⟨_, rfl, hown.sts, hB, hown.proper⟩
    obtain ⟨b, off, rfl, hFb, hel⟩ := ha (by omega)
    obtain ⟨kd, n, s, x1, m1, cp1, x2, m2, cp2, x3, m3, cp3, hx, g0, g1, g2, g3, g4, g5⟩ := hel wr (hB.block b (hF b hFb)) k hlt
    have hI := hF.below hB
    have hxr := hx.below hF hB (Nat.le_refl _)
    obtain ⟨ek, en, es, h1, h2, hsz, hxa, hxb, hxe⟩ := hxr.parts
    obtain ⟨pa, pl, pb, pe, pbs, pes⟩ := St.shp_parts (HS.out _ (List.getElem_mem hlt))
    obtain ⟨ihb, ihe⟩ := ih _ (List.getElem_mem hlt)
    have hix : (0 : Int) ≤ (k : Int) := by omega
    have hix2 : (k : Int) < (l.length : Int) := by omega
    have HC1 := Lib.hid (fun w' (hb : Below wr.heap.size wr w') => exprsT_all (l[k]).args F w' _ (hI.below hb) pa pl (hxa.below hI hb (Nat.le_refl _)))
    have HC2 := Lib.hid (fun w' (hb : Below wr.heap.size wr w') => ihb F w' _ (hI.below hb) pbs pb (hxb.below hI hb (Nat.le_refl _)))
    have HC3 := Lib.hid (fun w' (hb : Below wr.heap.size wr w') => ihe F w' _ (hI.below hb) pes pe (hxe.below hI hb (Nat.le_refl _)))
    have HP := Lib.hid (And.intro pl (And.intro pb (And.intro pe pa)))
    have HE := Lib.hid (And.intro ek (And.intro en es))
    have HQ : Hid (St.folds l [] = St.folds (l.drop (k + 1)) (foldStep out (l[k]).fold (l.length - k - 1))) := by show _ = _; rw [hq.out, St.folds_drop _ _ hlt]
    clear ih ihb ihe ha hel hx hxr hxa hxb hxe hq ek en es pa pl pb pe pbs pes HS
    generalize l[k] = S at *
    go_upto_region 5 with fail
    go_cut [12] from 12 to 92 (fun i wc => i = .int .i64 k ∧ Folded wr.heap.size wr wc S kd n s)
    case first =>
      go_region_with (first | (go_at_call 52; (with_reducible refine (HC1.out _ (((Below.refl _ _).alloc (Nat.le_refl _) _).drew)).mono ?_); rintro e w1 ⟨v1, rfl, hv1, hb1⟩; obtain ⟨hcl1, hfz1⟩ := bcell hb1; have hz1 := one_new' hb1; have hbo1 := below_on (((Below.refl wr.heap.size wr).alloc (Nat.le_refl _) _).drew) (Nat.le_refl _) hb1; obtain ⟨y1, d1, rfl⟩ := hv1.shape) | (go_at_call 23; (with_reducible refine (HC2.out _ hbo1).mono ?_); rintro e w2 ⟨v2, rfl, hv2, hb2, hp2⟩; obtain ⟨hcl2, hfz2⟩ := bcell hb2; have hbo2 := below_on hbo1 (Nat.le_refl _) hb2; have hz2 := Nat.lt_of_lt_of_le hz1 hb2.size; obtain ⟨y2, d2, rfl⟩ := hv2.shape) | (go_at_call 23; (with_reducible refine (HC3.out _ hbo2).mono ?_); rintro e w3 ⟨v3, rfl, hv3, hb3, hp3⟩; obtain ⟨hcl3, hfz3⟩ := bcell hb3; have hbo3 := below_on hbo2 (Nat.le_refl _) hb3; have hz3 := Nat.lt_of_lt_of_le hz2 hb3.size; obtain ⟨y3, d3, rfl⟩ := hv3.shape))
      all_goals (go_wp2_with fail; go_meet; exact ⟨rfl, folded_mk hb1 hb2 hb3 hv1 hv2 hv3 hp2 hp3⟩)
    case rest =>
      obtain ⟨rfl, a1, c1, b1, e1, hca, hxa, hxb, hxe, hpb, hpe, hBc⟩ := hcut
      obtain ⟨yb, db, rfl⟩ := hxb.shape
      obtain ⟨ye, de, rfl⟩ := hxe.shape
      obtain ⟨ek, en, es⟩ := HE.out
      obtain ⟨pl, pb, pe, pa⟩ := HP.out
      obtain ⟨fk, fn, fs, fa, fb, fe⟩ := S.fold_parts
      rw [ek] at fk
      have hzs : (Ex.folds S.args).length ≤ 2199023255488 := by rw [Ex.folds_length]; exact pl
      have hshz : Hid (Ex.shps (Ex.folds S.args)) := Ex.folds_shps pa
      have hfl1 : (St.folds S.body []).length ≤ 256 := St.folds_len _ _ (by simpa using pb)
      have hfl2 : (St.folds S.els []).length ≤ 256 := St.folds_len _ _ (by simpa using pe)
      obtain ⟨_, _, _, hel⟩ := hxa.opn
      have hIc : Inn (NewB (wr.heap.size + 1) wc.heap.size) wc := fun b hb => hb.2
      have HSt : Hid (∀ W, Below wc.heap.size wc W → RdSt (NewB (wr.heap.size + 1) wc.heap.size) W S.fold [.int .i64 kd, .int .i64 n, .string s, .slice a1 (Ex.folds S.args).length c1, .slice yb (St.folds S.body []).length db, .slice ye (St.folds S.els []).length de]) := fun W hb => by
        obtain ⟨k', n', s', args, body, els⟩ := S
        simp only [St.kind, St.num, St.name] at ek en es
        subst ek en es
        exact rd_st h1 h2 hsz (hxa.below hIc hb (Nat.le_refl _)) (hxb.below hIc hb (Nat.le_refl _)) (hxe.below hIc hb (Nat.le_refl _))
      have hrest : Hid (out.length + 1 + (l.length - k - 1) ≤ 256) := by show _ ≤ _; omega
      have hlo2 : out.length ≤ 256 := by omega
      have hkl : k < 256 := by omega
      have hlo3 : Hid (∀ X : List St, X = foldStep out S.fold (l.length - k - 1) → X.length + (l.length - (k + 1)) ≤ 256) := fun X hX => by
        have := foldStep_len out S.fold (l.length - k - 1) hrest.out
        rw [hX]; omega
      have hbW := Below.refl wc.heap.size wc
      obtain ⟨⟨-, q0⟩, ⟨-, q1⟩, ⟨-, q2⟩, ⟨-, q3⟩, ⟨-, q4⟩, ⟨-, q5⟩, -⟩ := hca.below hbW
      have FA := Lib.hid fa
      have FB := Lib.hid fb
      have FE := Lib.hid fe
      have FK := Lib.hid fk
      have HXB := Lib.hid hxb
      have HXE := Lib.hid hxe
      clear HC1 HC2 HC3 HE HP ek en es fk fn fs fa fb fe pl pb pe pa hrest hxb hxe
      generalize Ex.folds S.args = zs at *
      by_cases hone : zs.length = 1
      rotate_left
      · have t1 : ((zs.length : Int) == 1) = false := by simp; omega
        have hwhy : Hid (knownNum S.fold.args = none) := by
          show _ = _
          rw [FA.out]
          match zs, hone with
          | [], _ => rfl
          | [x], h => exact absurd rfl h
          | _ :: _ :: _, _ => rfl
        clear hel
        by_cases hk9 : kd = 9
        · subst hk9
          have HK : Hid (foldStep out S.fold (l.length - k - 1) = out ++ [S.fold]) := foldStep_keep (.inl hwhy.out)
          go_wp2_with (first | (go_at_call 54; (with_reducible refine (knownT_calls _ _ _ _ _ _ _ _).mono ?_); rintro e w2 ⟨rfl, hb⟩; have hbW := below_on hbW (Nat.le_refl _) hb; obtain ⟨⟨-, q0⟩, ⟨-, q1⟩, ⟨-, q2⟩, ⟨-, q3⟩, ⟨-, q4⟩, ⟨-, q5⟩, -⟩ := hca.below hbW) | (at_builtin; obtain ⟨ys, hys⟩ := (hown.below (hBc.trans (hbW.mono hBc.size))).owns; refine wpList_append_own_at _ rfl (.tmp 88) (.tmp 90) 36 rfl w.heap.size 62 i0 _ 6 104 Try.underlying36 hi hz0 hz1' hz2' rfl (by decide) _ _ _ rfl (hys.alloc _) ⟨_, 0, none⟩ 1 1 _ rfl rfl (cells_six _ _ _ _ _ _ _ _) (by simp [Value.oneCell']) (by unfold maxLen; omega) (by omega) (by have h1 := hB.size; have h2 := hBc.size; have h3 := hbW.size; simp; omega) ?_; intro v' w4 hown' hgrow _ hat))
          all_goals
            obtain ⟨hnew, hB2⟩ := OwnR.round (s := wr.heap.size) hown (hBc.trans (hbW.mono hBc.size)) hB hB.size (hys.alloc _) (Nat.le_refl _) (RdSt.keep (fun _ _ => rfl) (fun b hb => ⟨by have := hb.1; omega, by have := hb.2; have := hbW.size; omega⟩) (HSt.out _ hbW)) rfl hown' hgrow hat
            go_roundw
            case rel => exact ⟨k + 1, _, by omega, by go_num, HQ, hlo3.out _ rfl, by rw [HK.out]; exact hnew, hB2⟩
            case measure => simp [intOf]; omega
        · have hk9' : (kd == 9) = false := by simpa using hk9
          by_cases hk10 : kd = 10
          · subst hk10
            have HK : Hid (foldStep out S.fold (l.length - k - 1) = out ++ [S.fold]) := foldStep_keep (.inl hwhy.out)
            go_wp2_with (first | (go_at_call 54; (with_reducible refine (knownT_calls _ _ _ _ _ _ _ _).mono ?_); rintro e w2 ⟨rfl, hb⟩; have hbW := below_on hbW (Nat.le_refl _) hb; obtain ⟨⟨-, q0⟩, ⟨-, q1⟩, ⟨-, q2⟩, ⟨-, q3⟩, ⟨-, q4⟩, ⟨-, q5⟩, -⟩ := hca.below hbW) | (at_builtin; obtain ⟨ys, hys⟩ := (hown.below (hBc.trans (hbW.mono hBc.size))).owns; refine wpList_append_own_at _ rfl (.tmp 88) (.tmp 90) 36 rfl w.heap.size 62 i0 _ 6 104 Try.underlying36 hi hz0 hz1' hz2' rfl (by decide) _ _ _ rfl (hys.alloc _) ⟨_, 0, none⟩ 1 1 _ rfl rfl (cells_six _ _ _ _ _ _ _ _) (by simp [Value.oneCell']) (by unfold maxLen; omega) (by omega) (by have h1 := hB.size; have h2 := hBc.size; have h3 := hbW.size; simp; omega) ?_; intro v' w4 hown' hgrow _ hat))
            all_goals
              obtain ⟨hnew, hB2⟩ := OwnR.round (s := wr.heap.size) hown (hBc.trans (hbW.mono hBc.size)) hB hB.size (hys.alloc _) (Nat.le_refl _) (RdSt.keep (fun _ _ => rfl) (fun b hb => ⟨by have := hb.1; omega, by have := hb.2; have := hbW.size; omega⟩) (HSt.out _ hbW)) rfl hown' hgrow hat
              go_roundw
              case rel => exact ⟨k + 1, _, by omega, by go_num, HQ, hlo3.out _ rfl, by rw [HK.out]; exact hnew, hB2⟩
              case measure => simp [intOf]; omega
          · have hk10' : (kd == 10) = false := by simpa using hk10
            have HK : Hid (foldStep out S.fold (l.length - k - 1) = out ++ [S.fold]) := foldStep_keep (.inl hwhy.out)
            go_wp2_with (first | (go_at_call 54; (with_reducible refine (knownT_calls _ _ _ _ _ _ _ _).mono ?_); rintro e w2 ⟨rfl, hb⟩; have hbW := below_on hbW (Nat.le_refl _) hb; obtain ⟨⟨-, q0⟩, ⟨-, q1⟩, ⟨-, q2⟩, ⟨-, q3⟩, ⟨-, q4⟩, ⟨-, q5⟩, -⟩ := hca.below hbW) | (at_builtin; obtain ⟨ys, hys⟩ := (hown.below (hBc.trans (hbW.mono hBc.size))).owns; refine wpList_append_own_at _ rfl (.tmp 88) (.tmp 90) 36 rfl w.heap.size 62 i0 _ 6 104 Try.underlying36 hi hz0 hz1' hz2' rfl (by decide) _ _ _ rfl (hys.alloc _) ⟨_, 0, none⟩ 1 1 _ rfl rfl (cells_six _ _ _ _ _ _ _ _) (by simp [Value.oneCell']) (by unfold maxLen; omega) (by omega) (by have h1 := hB.size; have h2 := hBc.size; have h3 := hbW.size; simp; omega) ?_; intro v' w4 hown' hgrow _ hat))
            all_goals
              obtain ⟨hnew, hB2⟩ := OwnR.round (s := wr.heap.size) hown (hBc.trans (hbW.mono hBc.size)) hB hB.size (hys.alloc _) (Nat.le_refl _) (RdSt.keep (fun _ _ => rfl) (fun b hb => ⟨by have := hb.1; omega, by have := hb.2; have := hbW.size; omega⟩) (HSt.out _ hbW)) rfl hown' hgrow hat
              go_roundw
              case rel => exact ⟨k + 1, _, by omega, by go_num, HQ, hlo3.out _ rfl, by rw [HK.out]; exact hnew, hB2⟩
              case measure => simp [intOf]; omega
      obtain ⟨x, rfl⟩ := List.length_eq_one_iff.1 hone
      obtain ⟨c, coff, rfl, hFc, hel⟩ := hel (by simp)
      obtain ⟨kx, ox, nx, sx, ax, mx, cx, hx, g0', g1', g2', g3', g4'⟩ := hel wc rfl 0 (by simp)
      have hlc : c < wc.heap.size := hFc.2
      obtain ⟨ekx, -, enx, -, -, -, hnx, -, -⟩ := hx.parts
      simp only [List.getElem_cons_zero] at ekx enx
      have e0 : wc.cell? ⟨c, coff, none⟩ = some (.int .i64 kx) := by simpa using g0'
      have e1 : wc.cell? ⟨c, coff + 1, none⟩ = some (.int .i64 ox) := by simpa using g1'
      have e2 : wc.cell? ⟨c, coff + 2, none⟩ = some (.int .i64 nx) := by simpa using g2'
      have e3 : wc.cell? ⟨c, coff + 3, none⟩ = some (.string sx) := by simpa using g3'
      have e4 : wc.cell? ⟨c, coff + 4, none⟩ = some (.slice ax mx cx) := by simpa using g4'
      have HKN : Hid (knownNum S.fold.args = if (kx == 1) = true then some nx else none) := by
        show _ = _
        rw [FA.out]
        simp only [knownNum]
        rw [ekx]
        by_cases h : kx = 1
        · have := shp_num (Ex.shps_mem hshz.out x (by simp)) (by rw [ekx]; exact h)
          rw [enx] at this ⊢
          simp [h, wr_id this]
        · simp [h]
      clear hel g0' g1' g2' g3' g4' hx ekx enx hshz FA hone
      by_cases hkx : (kx == 1) = true
      rotate_left
      · have hkx' : (kx == 1) = false := by simpa using hkx
        have hwhy : Hid (knownNum S.fold.args = none) := by show _ = _; rw [HKN.out, if_neg hkx]
        by_cases hk9 : kd = 9
        · subst hk9
          have HK : Hid (foldStep out S.fold (l.length - k - 1) = out ++ [S.fold]) := foldStep_keep (.inl hwhy.out)
          go_wp2_with (first | (go_at_call 54; (with_reducible refine (knownT_calls _ _ _ _ _ _ _ _).mono ?_); rintro e w2 ⟨rfl, hb⟩; have hbW := below_on hbW (Nat.le_refl _) hb; obtain ⟨⟨-, q0⟩, ⟨-, q1⟩, ⟨-, q2⟩, ⟨-, q3⟩, ⟨-, q4⟩, ⟨-, q5⟩, -⟩ := hca.below hbW) | (at_builtin; obtain ⟨ys, hys⟩ := (hown.below (hBc.trans (hbW.mono hBc.size))).owns; refine wpList_append_own_at _ rfl (.tmp 88) (.tmp 90) 36 rfl w.heap.size 62 i0 _ 6 104 Try.underlying36 hi hz0 hz1' hz2' rfl (by decide) _ _ _ rfl (hys.alloc _) ⟨_, 0, none⟩ 1 1 _ rfl rfl (cells_six _ _ _ _ _ _ _ _) (by simp [Value.oneCell']) (by unfold maxLen; omega) (by omega) (by have h1 := hB.size; have h2 := hBc.size; have h3 := hbW.size; simp; omega) ?_; intro v' w4 hown' hgrow _ hat))
          all_goals
            obtain ⟨hnew, hB2⟩ := OwnR.round (s := wr.heap.size) hown (hBc.trans (hbW.mono hBc.size)) hB hB.size (hys.alloc _) (Nat.le_refl _) (RdSt.keep (fun _ _ => rfl) (fun b hb => ⟨by have := hb.1; omega, by have := hb.2; have := hbW.size; omega⟩) (HSt.out _ hbW)) rfl hown' hgrow hat
            go_roundw
            case rel => exact ⟨k + 1, _, by omega, by go_num, HQ, hlo3.out _ rfl, by rw [HK.out]; exact hnew, hB2⟩
            case measure => simp [intOf]; omega
        · have hk9' : (kd == 9) = false := by simpa using hk9
          by_cases hk10 : kd = 10
          · subst hk10
            have HK : Hid (foldStep out S.fold (l.length - k - 1) = out ++ [S.fold]) := foldStep_keep (.inl hwhy.out)
            go_wp2_with (first | (go_at_call 54; (with_reducible refine (knownT_calls _ _ _ _ _ _ _ _).mono ?_); rintro e w2 ⟨rfl, hb⟩; have hbW := below_on hbW (Nat.le_refl _) hb; obtain ⟨⟨-, q0⟩, ⟨-, q1⟩, ⟨-, q2⟩, ⟨-, q3⟩, ⟨-, q4⟩, ⟨-, q5⟩, -⟩ := hca.below hbW) | (at_builtin; obtain ⟨ys, hys⟩ := (hown.below (hBc.trans (hbW.mono hBc.size))).owns; refine wpList_append_own_at _ rfl (.tmp 88) (.tmp 90) 36 rfl w.heap.size 62 i0 _ 6 104 Try.underlying36 hi hz0 hz1' hz2' rfl (by decide) _ _ _ rfl (hys.alloc _) ⟨_, 0, none⟩ 1 1 _ rfl rfl (cells_six _ _ _ _ _ _ _ _) (by simp [Value.oneCell']) (by unfold maxLen; omega) (by omega) (by have h1 := hB.size; have h2 := hBc.size; have h3 := hbW.size; simp; omega) ?_; intro v' w4 hown' hgrow _ hat))
            all_goals
              obtain ⟨hnew, hB2⟩ := OwnR.round (s := wr.heap.size) hown (hBc.trans (hbW.mono hBc.size)) hB hB.size (hys.alloc _) (Nat.le_refl _) (RdSt.keep (fun _ _ => rfl) (fun b hb => ⟨by have := hb.1; omega, by have := hb.2; have := hbW.size; omega⟩) (HSt.out _ hbW)) rfl hown' hgrow hat
              go_roundw
              case rel => exact ⟨k + 1, _, by omega, by go_num, HQ, hlo3.out _ rfl, by rw [HK.out]; exact hnew, hB2⟩
              case measure => simp [intOf]; omega
          · have hk10' : (kd == 10) = false := by simpa using hk10
            have HK : Hid (foldStep out S.fold (l.length - k - 1) = out ++ [S.fold]) := foldStep_keep (.inl hwhy.out)
            go_wp2_with (first | (go_at_call 54; (with_reducible refine (knownT_calls _ _ _ _ _ _ _ _).mono ?_); rintro e w2 ⟨rfl, hb⟩; have hbW := below_on hbW (Nat.le_refl _) hb; obtain ⟨⟨-, q0⟩, ⟨-, q1⟩, ⟨-, q2⟩, ⟨-, q3⟩, ⟨-, q4⟩, ⟨-, q5⟩, -⟩ := hca.below hbW) | (at_builtin; obtain ⟨ys, hys⟩ := (hown.below (hBc.trans (hbW.mono hBc.size))).owns; refine wpList_append_own_at _ rfl (.tmp 88) (.tmp 90) 36 rfl w.heap.size 62 i0 _ 6 104 Try.underlying36 hi hz0 hz1' hz2' rfl (by decide) _ _ _ rfl (hys.alloc _) ⟨_, 0, none⟩ 1 1 _ rfl rfl (cells_six _ _ _ _ _ _ _ _) (by simp [Value.oneCell']) (by unfold maxLen; omega) (by omega) (by have h1 := hB.size; have h2 := hBc.size; have h3 := hbW.size; simp; omega) ?_; intro v' w4 hown' hgrow _ hat))
            all_goals
              obtain ⟨hnew, hB2⟩ := OwnR.round (s := wr.heap.size) hown (hBc.trans (hbW.mono hBc.size)) hB hB.size (hys.alloc _) (Nat.le_refl _) (RdSt.keep (fun _ _ => rfl) (fun b hb => ⟨by have := hb.1; omega, by have := hb.2; have := hbW.size; omega⟩) (HSt.out _ hbW)) rfl hown' hgrow hat
              go_roundw
              case rel => exact ⟨k + 1, _, by omega, by go_num, HQ, hlo3.out _ rfl, by rw [HK.out]; exact hnew, hB2⟩
              case measure => simp [intOf]; omega
      have hkn : Hid (knownNum S.fold.args = some nx) := by show _ = _; rw [HKN.out, if_pos hkx]
      clear HKN
      by_cases hk9 : kd = 9
      · subst hk9
        obtain ⟨ua, uc, rfl⟩ := hown.shape
        by_cases hz : nx = 0
        · have hz1 : (nx == 0) = true := by simpa using hz
          have hz2 : (nx != 0) = false := by simpa using hz
          have HIF : Hid (foldStep out S.fold (l.length - k - 1) = if out.length + (St.folds S.els []).length + (l.length - k - 1) ≤ 256 then out ++ St.folds S.els [] else out ++ [S.fold]) := by
            show _ = _
            rw [foldStep_if hkn.out FK.out, if_pos hz, FE.out]
          by_cases hsum : (out.length : Int) + (St.folds S.els []).length + l.length - k - 1 ≤ 256
          rotate_left
          · have HK : Hid (foldStep out S.fold (l.length - k - 1) = out ++ [S.fold]) := by show _ = _; rw [HIF.out, if_neg (by omega)]
            go_wp2_with (first | (go_at_call 54; (with_reducible refine (knownT_calls _ _ _ _ _ _ _ _).mono ?_); rintro e w2 ⟨rfl, hb⟩; have hbW := below_on hbW (Nat.le_refl _) hb; obtain ⟨⟨-, q0⟩, ⟨-, q1⟩, ⟨-, q2⟩, ⟨-, q3⟩, ⟨-, q4⟩, ⟨-, q5⟩, -⟩ := hca.below hbW) | (at_builtin; obtain ⟨ys, hys⟩ := (hown.below (hBc.trans (hbW.mono hBc.size))).owns; refine wpList_append_own_at _ rfl (.tmp 88) (.tmp 90) 36 rfl w.heap.size 62 i0 _ 6 104 Try.underlying36 hi hz0 hz1' hz2' rfl (by decide) _ _ _ rfl (hys.alloc _) ⟨_, 0, none⟩ 1 1 _ rfl rfl (cells_six _ _ _ _ _ _ _ _) (by simp [Value.oneCell']) (by unfold maxLen; omega) (by omega) (by have h1 := hB.size; have h2 := hBc.size; have h3 := hbW.size; simp; omega) ?_; intro v' w4 hown' hgrow _ hat))
            all_goals
              obtain ⟨hnew, hB2⟩ := OwnR.round (s := wr.heap.size) hown (hBc.trans (hbW.mono hBc.size)) hB hB.size (hys.alloc _) (Nat.le_refl _) (RdSt.keep (fun _ _ => rfl) (fun b hb => ⟨by have := hb.1; omega, by have := hb.2; have := hbW.size; omega⟩) (HSt.out _ hbW)) rfl hown' hgrow hat
              go_roundw
              case rel => exact ⟨k + 1, _, by omega, by go_num, HQ, hlo3.out _ rfl, by rw [HK.out]; exact hnew, hB2⟩
              case measure => simp [intOf]; omega
          have HK : Hid (foldStep out S.fold (l.length - k - 1) = out ++ St.folds S.els []) := by show _ = _; rw [HIF.out, if_pos (by omega)]
          rcases hpe with he | ⟨cb, co, n', d', he⟩
          · simp only [Value.slice.injEq] at he
            obtain ⟨rfl, hl0, rfl⟩ := he
            have hl0' : St.folds S.els [] = [] := List.eq_nil_of_length_eq_zero hl0
            have hl1 : Hid (St.folds S.els [] = []) := hl0'
            (try rw [hl0] at q4); (try rw [hl0] at q5); (try rw [hl0] at hca); (try rw [hl0] at hsum)
            clear hl0 hl0' HSt
            go_wp2_with (first | (go_at_call 54; (with_reducible refine (knownT_calls _ _ _ _ _ _ _ _).mono ?_); rintro e w2 ⟨rfl, hb⟩; have hbW := below_on hbW (Nat.le_refl _) hb; obtain ⟨⟨-, q0⟩, ⟨-, q1⟩, ⟨-, q2⟩, ⟨-, q3⟩, ⟨-, q4⟩, ⟨-, q5⟩, -⟩ := hca.below hbW) | (at_builtin; obtain ⟨ys, hys⟩ := (hown.below (hBc.trans (hbW.mono hBc.size))).owns; refine wpList_append_own_none rfl (.tmp 85) (.tmp 86) 36 rfl w.heap.size 62 i0 6 Try.underlying36 hi _ _ _ rfl hys rfl ?_))
            all_goals
              go_roundw
              case rel => exact ⟨k + 1, _, by omega, by go_num, HQ, hlo3.out _ rfl, by rw [HK.out, hl1.out, List.append_nil]; exact hown.below (hBc.trans (hbW.mono hBc.size)), hB.trans ((hBc.trans (hbW.mono hBc.size)).mono hB.size)⟩
              case measure => simp [intOf]; omega
          · simp only [Value.slice.injEq] at he
            obtain ⟨rfl, -, -⟩ := he
            go_wp2_with (first | (go_at_call 54; (with_reducible refine (knownT_calls _ _ _ _ _ _ _ _).mono ?_); rintro e w2 ⟨rfl, hb⟩; have hbW := below_on hbW (Nat.le_refl _) hb; obtain ⟨⟨-, q0⟩, ⟨-, q1⟩, ⟨-, q2⟩, ⟨-, q3⟩, ⟨-, q4⟩, ⟨-, q5⟩, -⟩ := hca.below hbW) | (at_builtin; obtain ⟨ys, hys⟩ := (hown.below (hBc.trans (hbW.mono hBc.size))).owns; obtain ⟨ns, hns1, hns2, hns3, hns4⟩ := (HXE.out.below hIc hbW (Nat.le_refl _)).news; refine wpList_append_own_at _ rfl (.tmp 85) (.tmp 86) 36 rfl w.heap.size 62 i0 _ 6 104 Try.underlying36 hi hz0 hz1' hz2' rfl (by decide) _ _ _ rfl hys ⟨cb, co, none⟩ _ _ ns rfl hns1 hns2 hns3 (by unfold maxLen; omega) (by omega) (by have h1 := hB.size; have h2 := hBc.size; have h3 := hbW.size; simp; omega) ?_; intro v' w4 hown' hgrow _ hat))
            all_goals
              obtain ⟨hnew, hB2⟩ := OwnR.roundMany (s := wr.heap.size) hown (hBc.trans (hbW.mono hBc.size)) hB hB.size hys (Nat.le_refl _) (fun i hi => RdSt.keep (fun _ _ => rfl) (fun b hb => ⟨by have := hb.1; omega, by have := hb.2; have := hbW.size; omega⟩) (hns4 i hi)) hns1 hown' hgrow hat
              go_roundw
              case rel => exact ⟨k + 1, _, by omega, by go_num, HQ, hlo3.out _ rfl, by rw [HK.out]; exact hnew, hB2⟩
              case measure => simp [intOf]; omega
        · have hz1 : (nx == 0) = false := by simpa using hz
          have hz2 : (nx != 0) = true := by simpa using hz
          have HIF : Hid (foldStep out S.fold (l.length - k - 1) = if out.length + (St.folds S.body []).length + (l.length - k - 1) ≤ 256 then out ++ St.folds S.body [] else out ++ [S.fold]) := by
            show _ = _
            rw [foldStep_if hkn.out FK.out, if_neg hz, FB.out]
          by_cases hsum : (out.length : Int) + (St.folds S.body []).length + l.length - k - 1 ≤ 256
          rotate_left
          · have HK : Hid (foldStep out S.fold (l.length - k - 1) = out ++ [S.fold]) := by show _ = _; rw [HIF.out, if_neg (by omega)]
            go_wp2_with (first | (go_at_call 54; (with_reducible refine (knownT_calls _ _ _ _ _ _ _ _).mono ?_); rintro e w2 ⟨rfl, hb⟩; have hbW := below_on hbW (Nat.le_refl _) hb; obtain ⟨⟨-, q0⟩, ⟨-, q1⟩, ⟨-, q2⟩, ⟨-, q3⟩, ⟨-, q4⟩, ⟨-, q5⟩, -⟩ := hca.below hbW) | (at_builtin; obtain ⟨ys, hys⟩ := (hown.below (hBc.trans (hbW.mono hBc.size))).owns; refine wpList_append_own_at _ rfl (.tmp 88) (.tmp 90) 36 rfl w.heap.size 62 i0 _ 6 104 Try.underlying36 hi hz0 hz1' hz2' rfl (by decide) _ _ _ rfl (hys.alloc _) ⟨_, 0, none⟩ 1 1 _ rfl rfl (cells_six _ _ _ _ _ _ _ _) (by simp [Value.oneCell']) (by unfold maxLen; omega) (by omega) (by have h1 := hB.size; have h2 := hBc.size; have h3 := hbW.size; simp; omega) ?_; intro v' w4 hown' hgrow _ hat))
            all_goals
              obtain ⟨hnew, hB2⟩ := OwnR.round (s := wr.heap.size) hown (hBc.trans (hbW.mono hBc.size)) hB hB.size (hys.alloc _) (Nat.le_refl _) (RdSt.keep (fun _ _ => rfl) (fun b hb => ⟨by have := hb.1; omega, by have := hb.2; have := hbW.size; omega⟩) (HSt.out _ hbW)) rfl hown' hgrow hat
              go_roundw
              case rel => exact ⟨k + 1, _, by omega, by go_num, HQ, hlo3.out _ rfl, by rw [HK.out]; exact hnew, hB2⟩
              case measure => simp [intOf]; omega
          have HK : Hid (foldStep out S.fold (l.length - k - 1) = out ++ St.folds S.body []) := by show _ = _; rw [HIF.out, if_pos (by omega)]
          rcases hpb with he | ⟨cb, co, n', d', he⟩
          · simp only [Value.slice.injEq] at he
            obtain ⟨rfl, hl0, rfl⟩ := he
            have hl0' : St.folds S.body [] = [] := List.eq_nil_of_length_eq_zero hl0
            have hl1 : Hid (St.folds S.body [] = []) := hl0'
            (try rw [hl0] at q4); (try rw [hl0] at q5); (try rw [hl0] at hca); (try rw [hl0] at hsum)
            clear hl0 hl0' HSt
            go_wp2_with (first | (go_at_call 54; (with_reducible refine (knownT_calls _ _ _ _ _ _ _ _).mono ?_); rintro e w2 ⟨rfl, hb⟩; have hbW := below_on hbW (Nat.le_refl _) hb; obtain ⟨⟨-, q0⟩, ⟨-, q1⟩, ⟨-, q2⟩, ⟨-, q3⟩, ⟨-, q4⟩, ⟨-, q5⟩, -⟩ := hca.below hbW) | (at_builtin; obtain ⟨ys, hys⟩ := (hown.below (hBc.trans (hbW.mono hBc.size))).owns; refine wpList_append_own_none rfl (.tmp 85) (.tmp 86) 36 rfl w.heap.size 62 i0 6 Try.underlying36 hi _ _ _ rfl hys rfl ?_))
            all_goals
              go_roundw
              case rel => exact ⟨k + 1, _, by omega, by go_num, HQ, hlo3.out _ rfl, by rw [HK.out, hl1.out, List.append_nil]; exact hown.below (hBc.trans (hbW.mono hBc.size)), hB.trans ((hBc.trans (hbW.mono hBc.size)).mono hB.size)⟩
              case measure => simp [intOf]; omega
          · simp only [Value.slice.injEq] at he
            obtain ⟨rfl, -, -⟩ := he
            go_wp2_with (first | (go_at_call 54; (with_reducible refine (knownT_calls _ _ _ _ _ _ _ _).mono ?_); rintro e w2 ⟨rfl, hb⟩; have hbW := below_on hbW (Nat.le_refl _) hb; obtain ⟨⟨-, q0⟩, ⟨-, q1⟩, ⟨-, q2⟩, ⟨-, q3⟩, ⟨-, q4⟩, ⟨-, q5⟩, -⟩ := hca.below hbW) | (at_builtin; obtain ⟨ys, hys⟩ := (hown.below (hBc.trans (hbW.mono hBc.size))).owns; obtain ⟨ns, hns1, hns2, hns3, hns4⟩ := (HXB.out.below hIc hbW (Nat.le_refl _)).news; refine wpList_append_own_at _ rfl (.tmp 85) (.tmp 86) 36 rfl w.heap.size 62 i0 _ 6 104 Try.underlying36 hi hz0 hz1' hz2' rfl (by decide) _ _ _ rfl hys ⟨cb, co, none⟩ _ _ ns rfl hns1 hns2 hns3 (by unfold maxLen; omega) (by omega) (by have h1 := hB.size; have h2 := hBc.size; have h3 := hbW.size; simp; omega) ?_; intro v' w4 hown' hgrow _ hat))
            all_goals
              obtain ⟨hnew, hB2⟩ := OwnR.roundMany (s := wr.heap.size) hown (hBc.trans (hbW.mono hBc.size)) hB hB.size hys (Nat.le_refl _) (fun i hi => RdSt.keep (fun _ _ => rfl) (fun b hb => ⟨by have := hb.1; omega, by have := hb.2; have := hbW.size; omega⟩) (hns4 i hi)) hns1 hown' hgrow hat
              go_roundw
              case rel => exact ⟨k + 1, _, by omega, by go_num, HQ, hlo3.out _ rfl, by rw [HK.out]; exact hnew, hB2⟩
              case measure => simp [intOf]; omega
      have hk9' : (kd == 9) = false := by simpa using hk9
      by_cases hk10 : kd = 10
      rotate_left
      · have hk10' : (kd == 10) = false := by simpa using hk10
        have HK : Hid (foldStep out S.fold (l.length - k - 1) = out ++ [S.fold]) := foldStep_keep (.inr ⟨by rw [FK.out]; exact beq_f hk9', by rw [FK.out]; exact beq_f hk10'⟩)
        go_wp2_with (first | (go_at_call 54; (with_reducible refine (knownT_calls _ _ _ _ _ _ _ _).mono ?_); rintro e w2 ⟨rfl, hb⟩; have hbW := below_on hbW (Nat.le_refl _) hb; obtain ⟨⟨-, q0⟩, ⟨-, q1⟩, ⟨-, q2⟩, ⟨-, q3⟩, ⟨-, q4⟩, ⟨-, q5⟩, -⟩ := hca.below hbW) | (at_builtin; obtain ⟨ys, hys⟩ := (hown.below (hBc.trans (hbW.mono hBc.size))).owns; refine wpList_append_own_at _ rfl (.tmp 88) (.tmp 90) 36 rfl w.heap.size 62 i0 _ 6 104 Try.underlying36 hi hz0 hz1' hz2' rfl (by decide) _ _ _ rfl (hys.alloc _) ⟨_, 0, none⟩ 1 1 _ rfl rfl (cells_six _ _ _ _ _ _ _ _) (by simp [Value.oneCell']) (by unfold maxLen; omega) (by omega) (by have h1 := hB.size; have h2 := hBc.size; have h3 := hbW.size; simp; omega) ?_; intro v' w4 hown' hgrow _ hat))
        all_goals
          obtain ⟨hnew, hB2⟩ := OwnR.round (s := wr.heap.size) hown (hBc.trans (hbW.mono hBc.size)) hB hB.size (hys.alloc _) (Nat.le_refl _) (RdSt.keep (fun _ _ => rfl) (fun b hb => ⟨by have := hb.1; omega, by have := hb.2; have := hbW.size; omega⟩) (HSt.out _ hbW)) rfl hown' hgrow hat
          go_roundw
          case rel => exact ⟨k + 1, _, by omega, by go_num, HQ, hlo3.out _ rfl, by rw [HK.out]; exact hnew, hB2⟩
          case measure => simp [intOf]; omega
      subst hk10
      by_cases hz : nx = 0
      · have hz1 : (nx == 0) = true := by simpa using hz
        have hz2 : (nx != 0) = false := by simpa using hz
        have HK : Hid (foldStep out S.fold (l.length - k - 1) = out) := by show _ = _; rw [foldStep_while hkn.out FK.out, if_pos hz]
        clear hz
        go_wp2_with (go_at_call 54; (with_reducible refine (knownT_calls _ _ _ _ _ _ _ _).mono ?_); rintro e w2 ⟨rfl, hb⟩; have hbW := below_on hbW (Nat.le_refl _) hb; obtain ⟨⟨-, q0⟩, ⟨-, q1⟩, ⟨-, q2⟩, ⟨-, q3⟩, ⟨-, q4⟩, ⟨-, q5⟩, -⟩ := hca.below hbW)
        all_goals
          go_roundw
          case rel => exact ⟨k + 1, _, by omega, by go_num, HQ, hlo3.out _ rfl, by rw [HK.out]; exact hown.below (hBc.trans (hbW.mono hBc.size)), hB.trans ((hBc.trans (hbW.mono hBc.size)).mono hB.size)⟩
          case measure => simp [intOf]; omega
      have hz1 : (nx == 0) = false := by simpa using hz
      have hz2 : (nx != 0) = true := by simpa using hz
      have HK : Hid (foldStep out S.fold (l.length - k - 1) = out ++ [S.fold]) := by show _ = _; rw [foldStep_while hkn.out FK.out, if_neg hz]
      go_wp2_with (first | (go_at_call 54; (with_reducible refine (knownT_calls _ _ _ _ _ _ _ _).mono ?_); rintro e w2 ⟨rfl, hb⟩; have hbW := below_on hbW (Nat.le_refl _) hb; obtain ⟨⟨-, q0⟩, ⟨-, q1⟩, ⟨-, q2⟩, ⟨-, q3⟩, ⟨-, q4⟩, ⟨-, q5⟩, -⟩ := hca.below hbW) | (at_builtin; obtain ⟨ys, hys⟩ := (hown.below (hBc.trans (hbW.mono hBc.size))).owns; refine wpList_append_own_at _ rfl (.tmp 88) (.tmp 90) 36 rfl w.heap.size 62 i0 _ 6 104 Try.underlying36 hi hz0 hz1' hz2' rfl (by decide) _ _ _ rfl (hys.alloc _) ⟨_, 0, none⟩ 1 1 _ rfl rfl (cells_six _ _ _ _ _ _ _ _) (by simp [Value.oneCell']) (by unfold maxLen; omega) (by omega) (by have h1 := hB.size; have h2 := hBc.size; have h3 := hbW.size; simp; omega) ?_; intro v' w4 hown' hgrow _ hat))
      all_goals
        obtain ⟨hnew, hB2⟩ := OwnR.round (s := wr.heap.size) hown (hBc.trans (hbW.mono hBc.size)) hB hB.size (hys.alloc _) (Nat.le_refl _) (RdSt.keep (fun _ _ => rfl) (fun b hb => ⟨by have := hb.1; omega, by have := hb.2; have := hbW.size; omega⟩) (HSt.out _ hbW)) rfl hown' hgrow hat
        go_roundw
        case rel => exact ⟨k + 1, _, by omega, by go_num, HQ, hlo3.out _ rfl, by rw [HK.out]; exact hnew, hB2⟩
        case measure => simp [intOf]; omega
end Go.Proofs.Ytimdnamhccipjaa
