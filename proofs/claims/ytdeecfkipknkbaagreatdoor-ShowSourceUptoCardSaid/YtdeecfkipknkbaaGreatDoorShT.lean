/- clewref04.Join, clewref14.quoted, cond and dirs. Printed by gen-sh5.py. -/
import Derived.Test.YtdeecfkipknkbaaGreatDoorShS
import Derived.Test.YtdeecfkipknkbaaGreatDoorTtO
namespace Go.Proofs.YtdeecfkipknkbaaGreatDoor
set_option maxRecDepth 100000
set_option maxHeartbeats 4000000
open Go.RowKit Go.Sort
theorem strs_tail {F : Nat → Prop} {w : World} {x : ByteArray} {l : List ByteArray} {b off cap : Nat} (h : RdStrs F w (x :: l) (.slice (some ⟨b, off, none⟩) (l.length + 1) cap)) : RdStrs F w l (.slice (some ⟨b, off + 1, none⟩) l.length (cap - 1)) := by
 obtain ⟨c, ⟨a, cap', he, h1, h2, h3⟩, h4⟩ := h
 simp only [List.length_cons, Value.slice.injEq] at he h1 h3
 obtain ⟨rfl, -, rfl⟩ := he
 obtain ⟨b', off', hab, hb, hc⟩ := h3 (by omega)
 cases hab
 refine ⟨fun i => c (i + 1), ⟨_, _, rfl, by omega, by omega, fun _ => ⟨b, off + 1, rfl, hb, fun i hi j hj => ?_⟩⟩, fun i hi => ?_⟩
 · have h := hc (i + 1) (by omega) j hj
   rw [show off + 1 + i * 1 + j = off + (i + 1) * 1 + j by omega]
   exact h
 have h := h4 (i + 1) (by simp; omega)
 simpa [rowCells] using h
def JoinC (l : List ByteArray) : Prop := ∀ (F : Nat → Prop) (w : World) (v : Value) (sep : ByteArray), Inn F w → RdStrs F w l v → l.length ≤ 1000 → (sepB sep l).size ≤ 1000000000000 →
 Calls Tryz.prog 51 #[v, .string sep] w (Gives w (.string (sepB sep l)))
theorem sepB_cons2 (sep x y : ByteArray) (l : List ByteArray) : sepB sep (x :: y :: l) = x ++ sep ++ sepB sep (y :: l) := by
 simp only [sepB, sepTail, ByteArray.append_assoc]
theorem join_calls (l : List ByteArray) : JoinC l := by
 induction l with
 | nil =>
  intro F w v sep hF hr hl hz
  obtain ⟨a, cap, rfl⟩ := hr.shape
  simp only [List.length_nil]
  clear hr
  go_enter Tryz.func51, Tryz.ntmps51
  go_wp2
  go_ret
  exact ⟨rfl, Below.refl _ _⟩
 | cons x l ih =>
  intro F w v sep hF hr hl hz
  obtain ⟨a, cap, rfl, hlc, hc, ha⟩ := hr.opn
  unfold maxLen at hc
  obtain ⟨b, off, rfl, hFb, hel⟩ := ha (by simp)
  have hbw := hF b hFb
  obtain ⟨cs, ⟨-, rfl⟩, -, hcell⟩ := hel w rfl 0 (by simp)
  have g0 := hcell 0 _ rfl
  simp only [Nat.zero_mul, Nat.add_zero, List.getElem_cons_zero] at g0
  clear ha hel hcell
  cases l with
  | nil =>
   have e : sepB sep [x] = x := by simp [sepB, sepTail, app_emp]
   rw [e]
   simp only [List.length_cons, List.length_nil, Nat.zero_add] at hlc ⊢
   clear ih hr e hz
   go_enter Tryz.func51, Tryz.ntmps51
   go_wp2
   go_ret
   exact ⟨rfl, Below.refl _ _⟩
  | cons y l =>
   have htl := strs_tail hr
   have hz' := hz
   rw [sepB_cons2] at hz' ⊢
   simp only [ByteArray.size_append] at hz'
   have hc2 := fun (W : World) (hW : Below w.heap.size w W) => ih F W _ sep (hF.below hW) (htl.below hF hW (Nat.le_refl _)) (by simp at hl ⊢; omega) (by omega)
   obtain ⟨z, hzz⟩ : ∃ z, sepB sep (y :: l) = z := ⟨_, rfl⟩
   simp only [hzz] at hc2 hz' ⊢
   simp only [List.length_cons] at hlc hl hc2 ⊢
   obtain ⟨n, hn⟩ : ∃ n, l.length + 1 = n := ⟨_, rfl⟩
   rw [hn] at hlc hl ⊢
   simp only [hn] at hc2
   have hn0 : 1 ≤ n := by omega
   have hm0 : ((n : Int) + 1 == 0) = false := by simp; omega
   have hm1 : ((n : Int) + 1 == 1) = false := by simp; omega
   have hi0 : (0 : Int) < (n : Int) + 1 := by omega
   have hi1 : (1 : Int) ≤ (n : Int) + 1 := by omega
   have hi2 : (1 : Int) ≤ (cap : Int) := by omega
   have hi3 : (n : Int) + 1 ≤ (cap : Int) := by omega
   have HC := Lib.hid hc2
   clear ih hr htl hc2 hzz hz
   go_enter Tryz.func51, Tryz.ntmps51
   go_upto_region 5 with fail
   have K := @rg' Tryz.prog w
   have G1 := Lib.hid (K HC.out)
   clear K
   have c0 := fun d os => cell_regrown g0 d os
   refine wp_region_quiet_below (by kernel_rfl) (by kernel_rfl) ?_
   repeat (go_big_quiet_step (with_reducible exact G1.out _))
   refine wpQuiet_nil ?_
   intro w6 hw6
   have hb6 := below_of_regrown hw6
   clear hw6
   go_wp2_with fail
   go_ret
   exact ⟨rfl, hb6⟩
theorem quoted_calls (F : Nat → Prop) (w : World) (l : List ByteArray) (sep : ByteArray) (v : Value) (hF : Inn F w) (hr : RdStrs F w l v) (hl : l.length ≤ 1000) (ht : ∀ x ∈ l, IsText x) (hsep : sep.size ≤ 4) :
 Calls Tryz.prog 121 #[v, .string sep] w (Gives w (.string (quotedB sep l))) := by
 obtain ⟨a, cap, rfl, hlc, hc, ha⟩ := hr.opn
 unfold maxLen at hc
 have hqz := quotedB_sz sep hsep hl ht
 unfold quotedB at hqz ⊢
 obtain ⟨xs, hxs⟩ : ∃ xs, l.map quoteB = xs := ⟨_, rfl⟩
 have hxl : xs.length = l.length := by rw [← hxs]; simp
 have hxi : ∀ i (hi : i < l.length), quoteB l[i] = xs[i]'(by rw [hxl]; exact hi) := fun i hi => by
  have h1 : xs[i]? = some (quoteB l[i]) := by rw [← hxs, List.getElem?_map, List.getElem?_eq_getElem hi]; rfl
  rw [List.getElem?_eq_getElem (by rw [hxl]; exact hi)] at h1
  exact (Option.some.inj h1).symm
 rw [hxs] at hqz ⊢
 have hzx : ∀ i (hi : i < l.length), (xs[i]'(by rw [hxl]; exact hi)).size ≤ 1000000000000 := fun i hi => Nat.le_trans (sepB_mem sep xs i (by rw [hxl]; exact hi)) (by omega)
 have HM : Hid (∀ (i : Nat) (hi : i < l.length) (W : World), Calls Tryz.prog 49 #[.string l[i]] W (Gives W (.string (xs[i]'(by rw [hxl]; exact hi))))) := Lib.hid fun i hi W => by
  have h := quoteR_calls l[i] W (by have := (ht l[i] (List.getElem_mem hi)).1; omega)
  rw [hxi i hi] at h
  exact h
 have HXL := Lib.hid hxl; have HZX := Lib.hid hzx; have HEL := Lib.hid ha; have HF := Lib.hid hF; have HZ := Lib.hid hqz
 obtain ⟨i0, hi, hz0, hz1, hz2⟩ := info_parts Tryz.infoStr
 clear hr hxi hxs hzx ht ha hF hqz
 go_enter Tryz.func121, Tryz.ntmps121
 go_wp2
 go_loopw [5, 6] (fun v i wr => ∃ k : Nat, k ≤ l.length ∧ i = .int .i64 k ∧ Hid (∃ (a6 : Option Addr) (c6 : Nat), v = .slice a6 k c6 ∧ OwnR Holds.str 9 1 w.heap.size wr (xs.take k) (.slice a6 k c6)) ∧ Below w.heap.size w wr) (fun _ i _ => l.length - (intOf i).toNat)
 case atStart => exact ⟨0, Nat.zero_le _, rfl, Lib.hid ⟨_, _, rfl, OwnR.nil _ _ _ _ _⟩, Below.refl _ _⟩
 case round =>
  obtain ⟨k, hk, rfl, hO0, hB⟩ := hrel
  obtain ⟨a6, c6, rfl, hO1⟩ := hO0.out
  have hO := Lib.hid hO1
  clear hO0 hO1
  by_cases hlt : k < l.length
  · obtain ⟨b, off, rfl, hFb, hel⟩ := HEL.out (by omega)
    have hFbw := HF.out b hFb
    obtain ⟨cs, hx, -, hcell⟩ := hel wr (hB.block b hFbw) k hlt
    have hc0 := HM.out k hlt
    have hzk := HZX.out k hlt
    have htk : xs.take (k + 1) = xs.take k ++ [xs[k]'(by rw [HXL.out]; exact hlt)] := List.take_succ_eq_append_getElem (by rw [HXL.out]; exact hlt)
    have hlk : (xs.take k).length ≤ 1000 := by rw [List.length_take]; omega
    have HLE : Hid ((xs.take k).length = k) := Lib.hid (by rw [List.length_take, HXL.out]; omega)
    obtain ⟨z, hz⟩ : ∃ z, xs[k]'(by rw [HXL.out]; exact hlt) = z := ⟨_, rfl⟩
    simp only [hz] at hc0 hzk htk
    generalize l[k] = x at hx hc0 hcell
    obtain ⟨-, rfl⟩ := hx
    have g0 := hcell 0 _ rfl
    simp only [Nat.add_zero, Nat.mul_one] at g0
    have hki : (k : Int) < (l.length : Int) := by omega
    have hki0 : (0 : Int) ≤ (k : Int) := by omega
    have hbw : b < wr.heap.size := Nat.lt_of_lt_of_le hFbw hB.size
    have HTK := Lib.hid htk
    have HC := Lib.hid hc0
    have HOW : Hid (∀ w1, Below wr.heap.size wr w1 → OwnR Holds.str 9 1 w.heap.size w1 (xs.take k) (.slice a6 k c6)) := Lib.hid fun w1 hb => hO.out.below hb
    have HB := Lib.hid hB
    obtain ⟨ys, hys⟩ : ∃ ys : List ByteArray, xs.take k = ys := ⟨_, rfl⟩
    simp only [hys] at HTK HOW hlk HLE
    clear hel hcell hc0 hz htk hO hys hB hFb
    go_wp2_with (first
     | (go_at_call 49; (with_reducible refine (HC.out _).mono ?_); rintro e w1 ⟨rfl, hb⟩; obtain ⟨us, hus⟩ := (HOW.out w1 hb).owns; have hsz1 : w.heap.size ≤ w1.heap.size := Nat.le_trans HB.out.size hb.size)
     | (at_builtin; refine wpList_append_own_opt rfl (.tmp 13) (.tmp 19) 22 rfl w.heap.size 9 i0 _ 1 16 Tryz.underlying22 hi hz0 hz1 hz2 rfl (by decide) _ ys.length us rfl (hus.alloc _) (some ⟨w1.heap.size, 0, none⟩) 1 1 [.string z] rfl rfl (fun _ => ⟨_, rfl, cell_one_new _ _ _⟩) (by simp [Value.oneCell']) (by unfold maxLen; omega) (by omega) (by simp; omega) ?_; intro v2 w2 hown2 hgrow2 hat2; obtain ⟨a7, c7, rfl⟩ := own_shape hown2))
    go_roundw
    case rel =>
     refine ⟨k + 1, by omega, by go_num, Lib.hid ⟨a7, c7, by rw [HLE.out], ?_⟩, ?_⟩
     · rw [HTK.out, ← HLE.out]
       exact OwnR.push (R := Holds.str) (G2 := fun _ => False) ((HOW.out w1 hb).below ((Below.refl _ w1).alloc (Nat.le_refl _) _)) (hus.alloc _) hown2 rfl hgrow2 hat2 (fun _ h => h.elim) ⟨Nat.le_trans hzk (by unfold maxLen; omega), rfl⟩
     exact ((bt HB.out hb).alloc hsz1 _).grown hgrow2 (by simp; omega) (fun b e => (ownsRow_in hus b e).1)
    case measure => simp [intOf]; omega
  have hkl : k = l.length := by omega
  have hki : ¬ (k : Int) < (l.length : Int) := by omega
  have hown := hO.out
  rw [List.take_of_length_le (by rw [HXL.out]; omega)] at hown
  have hJ := join_calls xs (NewB w.heap.size wr.heap.size) wr _ sep (fun b hb => hb.2) hown.rdl (by rw [HXL.out]; omega) (by have := HZ.out; omega)
  have HJ := Lib.hid hJ
  have HB := Lib.hid hB
  obtain ⟨z, hzz⟩ : ∃ z, sepB sep xs = z := ⟨_, rfl⟩
  have HZE := Lib.hid hzz
  rw [hzz] at HJ
  clear hown hJ hO hB hzz hkl
  go_wp2_with (go_at_call 51; (with_reducible refine HJ.out.mono ?_); rintro e w1 ⟨rfl, hb⟩)
  go_ret
  exact ⟨ret_str HZE.out.symm, bt HB.out hb⟩
theorem condR_calls (l : List Ex) (F : Nat → Prop) (w : World) (v : Value) (hF : Inn F w) (hl : l.length ≤ 1) (hs : ∀ e ∈ l, Src e) (hk : ∀ e ∈ l, ¬ SaidK e.kind) (hsz : (condB l).size ≤ 1000000000000) (hr : Exs F w l v) :
 Calls Tryz.prog 123 #[v] w (Gives w (.string (condB l))) := by
 obtain ⟨a, cap, rfl⟩ := hr.shape
 obtain ⟨-, hlc, hc, ha⟩ := hr.opn
 rcases l with _ | ⟨e, _ | ⟨e2, r⟩⟩
 · simp only [List.length_nil]
   clear hr ha hs hk
   go_enter Tryz.func123, Tryz.ntmps123
   go_wp2
   go_ret
   exact ⟨rfl, Below.refl _ _⟩
 · obtain ⟨b, off, rfl, hFb, hel⟩ := ha (by simp)
   have hbw := hF b hFb
   obtain ⟨kd, o, n, s, a4, m4, cap4, hx, g0, g1, g2, g3, g4⟩ := hel w rfl 0 (by simp)
   simp only [Nat.zero_mul, Nat.add_zero, List.getElem_cons_zero] at hx g0 g1 g2 g3 g4
   simp only [condB, ByteArray.size_append] at hsz ⊢
   have hp := printR_calls e F w _ hF (hs e (by simp)) (hk e (by simp)) (by omega) hx
   obtain ⟨z, hzz⟩ : ∃ z, e.pr = z := ⟨_, rfl⟩
   rw [hzz] at hp hsz ⊢
   simp only [List.length_cons, List.length_nil, Nat.zero_add] at hlc ⊢
   have HP := Lib.hid hp
   clear hr ha hs hk hp hzz hx hel hFb
   go_enter Tryz.func123, Tryz.ntmps123
   go_wp2_with (go_at_call 132; (with_reducible refine HP.out.mono ?_); rintro e w1 ⟨rfl, hb⟩)
   go_ret
   exact ⟨rfl, hb⟩
 simp at hl
def dirs13 : List ByteArray := ⟨#[]⟩ :: dirs
def GivesDirs (w : World) (e : Ending) (w' : World) : Prop := ∃ b, e = .returned (.slice (some ⟨b, 0, none⟩) 13 13) ∧ Below w.heap.size w w' ∧ w.heap.size ≤ b ∧ b < w'.heap.size ∧ ∀ j, j < 13 → w'.cell? ⟨b, j, none⟩ = some (.string (dirs13.getD j ⟨#[]⟩))
theorem dirsR_calls (w : World) : Calls Tryz.prog 122 #[] w (GivesDirs w) := by
 have hbx1 : BoxAt (w.alloc (.cells #[.string ⟨#[]⟩, .string ⟨#[110, 111, 114, 116, 104]⟩, .string ⟨#[115, 111, 117, 116, 104]⟩, .string ⟨#[101, 97, 115, 116]⟩, .string ⟨#[119, 101, 115, 116]⟩, .string ⟨#[110, 111, 114, 116, 104, 101, 97, 115, 116]⟩, .string ⟨#[110, 111, 114, 116, 104, 119, 101, 115, 116]⟩, .string ⟨#[115, 111, 117, 116, 104, 101, 97, 115, 116]⟩, .string ⟨#[115, 111, 117, 116, 104, 119, 101, 115, 116]⟩, .string ⟨#[117, 112]⟩, .string ⟨#[100, 111, 119, 110]⟩, .string ⟨#[105, 110]⟩, .string ⟨#[111, 117, 116]⟩] 9)) w.heap.size [.string ⟨#[]⟩, .string ⟨#[110, 111, 114, 116, 104]⟩, .string ⟨#[115, 111, 117, 116, 104]⟩, .string ⟨#[101, 97, 115, 116]⟩, .string ⟨#[119, 101, 115, 116]⟩, .string ⟨#[110, 111, 114, 116, 104, 101, 97, 115, 116]⟩, .string ⟨#[110, 111, 114, 116, 104, 119, 101, 115, 116]⟩, .string ⟨#[115, 111, 117, 116, 104, 101, 97, 115, 116]⟩, .string ⟨#[115, 111, 117, 116, 104, 119, 101, 115, 116]⟩, .string ⟨#[117, 112]⟩, .string ⟨#[100, 111, 119, 110]⟩, .string ⟨#[105, 110]⟩, .string ⟨#[111, 117, 116]⟩] := BoxAt.new _ _ _
 have hfin : Hid (∀ j, j < 13 → (w.alloc (.cells #[.string ⟨#[]⟩, .string ⟨#[110, 111, 114, 116, 104]⟩, .string ⟨#[115, 111, 117, 116, 104]⟩, .string ⟨#[101, 97, 115, 116]⟩, .string ⟨#[119, 101, 115, 116]⟩, .string ⟨#[110, 111, 114, 116, 104, 101, 97, 115, 116]⟩, .string ⟨#[110, 111, 114, 116, 104, 119, 101, 115, 116]⟩, .string ⟨#[115, 111, 117, 116, 104, 101, 97, 115, 116]⟩, .string ⟨#[115, 111, 117, 116, 104, 119, 101, 115, 116]⟩, .string ⟨#[117, 112]⟩, .string ⟨#[100, 111, 119, 110]⟩, .string ⟨#[105, 110]⟩, .string ⟨#[111, 117, 116]⟩] 9)).cell? ⟨w.heap.size, j, none⟩ = some (.string (dirs13.getD j ⟨#[]⟩))) := fun j hj => by
  rw [hbx1.2 j (by simpa using hj)]
  match j, hj with
  | 0, _ | 1, _ | 2, _ | 3, _ | 4, _ | 5, _ | 6, _ | 7, _ | 8, _ | 9, _ | 10, _ | 11, _ | 12, _ => rfl
 clear hbx1
 go_enter Tryz.func122, Tryz.ntmps122
 go_wp2
 go_ret
 exact ⟨_, rfl, (Below.refl _ _).alloc (Nat.le_refl _) _, Nat.le_refl _, by simp, hfin.out⟩
end Go.Proofs.YtdeecfkipknkbaaGreatDoor
