/- show.row: texts of elements with a separator between. Printed by gen-sh1.py. -/
import Derived.Test.YtdeecfkipknkbaaGreatDoorPart16f449ff
import Derived.Test.YtdeecfkipknkbaaGreatDoorPart8a88c5f8
import Derived.Test.YtdeecfkipknkbaaGreatDoorStL
namespace Go.Proofs.YtdeecfkipknkbaaGreatDoor
set_option maxRecDepth 100000
set_option maxHeartbeats 4000000
open Go.RowKit Go.Sort
def Makes {α : Type} (R : Holds α) (arg : List Value → Value) (F : Nat → Prop) (w : World) (f : Nat) (caps : Array Value) (x : α) (y : ByteArray) : Prop := ∀ (w' : World) (cs : List Value), Below w.heap.size w w' → R.R F w' x cs → Calls Tryz.prog f (#[arg cs] ++ caps) w' (Gives w' (.string y))
theorem rowString_calls (F : Nat → Prop) (w : World) (f : Nat) (caps : Array Value) (l : List (ByteArray)) (sep : ByteArray) (v : Value) (g : (ByteArray) → ByteArray) (hF : Inn F w) (hr : RdL Holds.str 1 F w l v) (hl : l.length ≤ 1000) (hcf : ∀ (args : Array Value) (w : World), (callFunc f args).run Tryz.prog w = .ok (.enter f args) w)
 (hf : ∀ x ∈ l, Makes Holds.str oneA F w f caps x (g x)) (hsz : (sepB sep (l.map g)).size ≤ 1000000000000) :
 Calls Tryz.prog 40 #[v, .string sep, .func (.func f) #[] caps] w (Gives w (.string (sepB sep (l.map g)))) := by
 obtain ⟨a, cap, rfl, hlc, hc, ha⟩ := hr.opn
 unfold maxLen at hc
 obtain ⟨xs, hxs⟩ : ∃ xs, l.map g = xs := ⟨_, rfl⟩
 have hxl : xs.length = l.length := by rw [← hxs]; simp
 have hxi : ∀ i (hi : i < l.length), g l[i] = xs[i]'(by rw [hxl]; exact hi) := fun i hi => by
  have h1 : xs[i]? = some (g l[i]) := by rw [← hxs, List.getElem?_map, List.getElem?_eq_getElem hi]; rfl
  rw [List.getElem?_eq_getElem (by rw [hxl]; exact hi)] at h1
  exact (Option.some.inj h1).symm
 rw [hxs] at hsz ⊢
 have hzx : ∀ i (hi : i < l.length), (xs[i]'(by rw [hxl]; exact hi)).size ≤ 1000000000000 := fun i hi => Nat.le_trans (sepB_mem sep xs i (by rw [hxl]; exact hi)) hsz
 have HM : Hid (∀ (i : Nat) (hi : i < l.length) (cs : List Value) (W : World), Below w.heap.size w W → Holds.str.R F W l[i] cs → Calls Tryz.prog f (#[oneA cs] ++ caps) W (Gives W (.string (xs[i]'(by rw [hxl]; exact hi))))) := Lib.hid fun i hi cs W hW hcs => by
  have h := hf l[i] (List.getElem_mem hi) W cs hW hcs
  rw [hxi i hi] at h
  exact h
 have hjoin := sepB_join sep xs
 have hjl : (Lib.join (xs.map (·.data.toList)) sep.data.toList).length ≤ 140737488355328 := by
  rw [← hjoin]
  have e : (sepB sep xs).data.toList.length = (sepB sep xs).size := by simp
  omega
 have hjb : (⟨(Lib.join (xs.map (·.data.toList)) sep.data.toList).toArray⟩ : ByteArray) = sepB sep xs := by
  rw [← hjoin]
 have HJL := Lib.hid hjl; have HJB := Lib.hid hjb; have HXL := Lib.hid hxl; have HZX := Lib.hid hzx; have HEL := Lib.hid ha; have HF := Lib.hid hF; have HZ := Lib.hid hsz
 have HRD := Lib.hid hr
 have HJ0 := Lib.hid (fun W => Tryz.strings_Join_none none 0 sep W)
 obtain ⟨i0, hi, hz0, hz1, hz2⟩ := info_parts Tryz.infoStr
 clear hr hxi hxs hzx hjoin hjl hjb hf ha hF hsz
 go_enter Tryz.func40, Tryz.ntmps40
 go_wp2
 go_loopw [7, 12] (fun v i wr => ∃ k : Nat, k ≤ l.length ∧ i = .int .i64 k ∧ Hid (∃ (a6 : Option Addr) (c6 : Nat), v = .slice a6 k c6 ∧ (k = 0 → a6 = none ∧ c6 = 0) ∧ OwnR Holds.str 9 1 w.heap.size wr (xs.take k) (.slice a6 k c6)) ∧ Below w.heap.size w wr) (fun _ i _ => l.length - (intOf i).toNat)
 case atStart => exact ⟨0, Nat.zero_le _, rfl, Lib.hid ⟨_, _, rfl, fun _ => ⟨rfl, rfl⟩, OwnR.nil _ _ _ _ _⟩, Below.refl _ _⟩
 case round =>
  obtain ⟨k, hk, rfl, hO0, hB⟩ := hrel
  obtain ⟨a6, c6, rfl, hN0, hO1⟩ := hO0.out
  have hO := Lib.hid hO1
  have HN := Lib.hid hN0
  clear hO0 hO1 hN0
  by_cases hlt : k < l.length
  · obtain ⟨b, off, rfl, hFb, hel⟩ := HEL.out (by omega)
    have hFbw := HF.out b hFb
    obtain ⟨cs, hx, -, hcell⟩ := hel wr (hB.block b hFbw) k hlt
    have hc0 := HM.out k hlt
    have hx := Holds.below _ hx HF.out hB (Nat.le_refl _)
    have hx2 := hx
    have hzk := HZX.out k hlt
    have htk : xs.take (k + 1) = xs.take k ++ [xs[k]'(by rw [HXL.out]; exact hlt)] := List.take_succ_eq_append_getElem (by rw [HXL.out]; exact hlt)
    have hlk : (xs.take k).length ≤ 1000 := by rw [List.length_take]; omega
    have HLE : Hid ((xs.take k).length = k) := Lib.hid (by rw [List.length_take, HXL.out]; omega)
    obtain ⟨z, hz⟩ : ∃ z, xs[k]'(by rw [HXL.out]; exact hlt) = z := ⟨_, rfl⟩
    simp only [hz] at hc0 hzk htk
    generalize l[k] = x at hx hx2 hc0 hcell
    obtain ⟨-, rfl⟩ := hx2
    have g0 := hcell 0 _ rfl
    simp only [Nat.add_zero, Nat.mul_one] at g0
    have hbq : Below wr.heap.size wr wr := (Below.refl _ wr)
    have hcall : Calls Tryz.prog f (#[.string x] ++ caps) wr (Gives wr (.string z)) := hc0 [.string x] wr (bt hB hbq) (Holds.below Holds.str hx (HF.out.below hB) hbq (Nat.le_refl _))
    have hki : (k : Int) < (l.length : Int) := by omega
    have hbw : b < wr.heap.size := Nat.lt_of_lt_of_le hFbw hB.size
    have HTK := Lib.hid htk
    have HC := Lib.hid hcall
    have HOW : Hid (∀ w1, Below wr.heap.size wr w1 → OwnR Holds.str 9 1 w.heap.size w1 (xs.take k) (.slice a6 k c6)) := Lib.hid fun w1 hb => hO.out.below (bt hbq hb)
    have HB := Lib.hid (bt hB hbq)
    obtain ⟨ys, hys⟩ : ∃ ys : List ByteArray, xs.take k = ys := ⟨_, rfl⟩
    simp only [hys] at HTK HOW hlk HLE
    clear hel hcell hx hc0 hcall hz htk hO hys hB hFb HN hbq
    go_wp2_with (first
     | ((with_reducible refine HC.out.mono ?_); rintro e w1 ⟨rfl, hb⟩; obtain ⟨us, hus⟩ := (HOW.out w1 hb).owns; have hsz1 : w.heap.size ≤ w1.heap.size := Nat.le_trans HB.out.size hb.size)
     | (at_builtin; refine wpList_append_own_opt rfl (.tmp 16) (.tmp 20) 22 rfl w.heap.size 9 i0 _ 1 16 Tryz.underlying22 hi hz0 hz1 hz2 rfl (by decide) _ ys.length us rfl (hus.alloc _) (some ⟨w1.heap.size, 0, none⟩) 1 1 [.string z] rfl rfl (fun _ => ⟨_, rfl, cell_one_new _ _ _⟩) (by simp [Value.oneCell']) (by unfold maxLen; omega) (by omega) (by simp; omega) ?_; intro v2 w2 hown2 hgrow2 hat2; obtain ⟨a7, c7, rfl⟩ := own_shape hown2))
    go_roundw
    case rel =>
     refine ⟨k + 1, by omega, by go_num, Lib.hid ⟨a7, c7, by rw [HLE.out], fun h => absurd h (by omega), ?_⟩, ?_⟩
     · rw [HTK.out, ← HLE.out]
       exact OwnR.push (R := Holds.str) (G2 := fun _ => False) ((HOW.out w1 hb).below ((Below.refl _ w1).alloc (Nat.le_refl _) _)) (hus.alloc _) hown2 rfl hgrow2 hat2 (fun _ h => h.elim) ⟨Nat.le_trans hzk (by unfold maxLen; omega), rfl⟩
     exact ((bt HB.out hb).alloc hsz1 _).grown hgrow2 (by simp; omega) (fun b e => (ownsRow_in hus b e).1)
    case measure => simp [intOf]; omega
  have hkl : k = l.length := by omega
  have hki : ¬ (k : Int) < (l.length : Int) := by omega
  have hJ : Calls Tryz.prog 110 #[.slice a6 k c6, .string sep] wr (Gives wr (.string (sepB sep xs))) := by
   rcases Nat.eq_zero_or_pos k with h0 | h0
   · obtain ⟨rfl, rfl⟩ := HN.out h0
     have hx0 : xs = [] := List.eq_nil_of_length_eq_zero (by rw [HXL.out]; omega)
     rw [h0, hx0]
     refine (Tryz.strings_Join_none none 0 sep wr).mono ?_
     rintro e w1 ⟨rfl, rfl⟩
     exact ⟨rfl, Below.refl _ _⟩
   have hown := hO.out
   rw [List.take_of_length_le (by rw [HXL.out]; omega)] at hown
   obtain ⟨a7, c7, e6, hl6, hc6, hh6⟩ := hown.rdl.opn
   simp only [Value.slice.injEq] at e6
   obtain ⟨rfl, hkx, rfl⟩ := e6
   obtain ⟨b6, o6, rfl, hF6, hel6⟩ := hh6 (by rw [HXL.out]; omega)
   have hcells : ∀ (j : Nat) x, xs[j]? = some x → wr.cell? ⟨b6, o6 + j, none⟩ = some (.string x) := fun j x hj => by
    obtain ⟨hj1, hj2⟩ := List.getElem?_eq_some_iff.1 hj
    obtain ⟨cs, ⟨-, rfl⟩, -, hcc⟩ := hel6 wr rfl j hj1
    have h := hcc 0 _ rfl
    rw [hj2] at h
    simpa using h
   have hJ := Tryz.strings_Join b6 o6 c6 xs sep wr hcells hF6.2 (by rw [HXL.out]; omega) hl6 HJL.out
   rw [HJB.out] at hJ
   rw [hkx]
   exact hJ.mono (fun e w1 h => h)
  have HJ := Lib.hid hJ
  obtain ⟨z, hzz⟩ : ∃ z, sepB sep xs = z := ⟨_, rfl⟩
  have HZE := Lib.hid hzz
  rw [hzz] at HJ HZ
  have hzs := HZ.out
  have HB := Lib.hid hB
  clear hJ hO hzz hB HN hkl
  go_wp2_with (go_at_call 110; (with_reducible refine (HJ.out).mono ?_); rintro e w1 ⟨rfl, hb⟩)
  go_ret
  exact ⟨ret_str HZE.out.symm, bt HB.out hb⟩
theorem rowExpr_calls (F : Nat → Prop) (w : World) (f : Nat) (caps : Array Value) (l : List (Ex)) (sep : ByteArray) (v : Value) (g : (Ex) → ByteArray) (hF : Inn F w) (hr : RdL Holds.ex 5 F w l v) (hl : l.length ≤ 1000) (hcf : ∀ (args : Array Value) (w : World), (callFunc f args).run Tryz.prog w = .ok (.enter f args) w)
 (hf : ∀ x ∈ l, Makes Holds.ex aggA F w f caps x (g x)) (hsz : (sepB sep (l.map g)).size ≤ 1000000000000) :
 Calls Tryz.prog 117 #[v, .string sep, .func (.func f) #[] caps] w (Gives w (.string (sepB sep (l.map g)))) := by
 obtain ⟨a, cap, rfl, hlc, hc, ha⟩ := hr.opn
 unfold maxLen at hc
 obtain ⟨xs, hxs⟩ : ∃ xs, l.map g = xs := ⟨_, rfl⟩
 have hxl : xs.length = l.length := by rw [← hxs]; simp
 have hxi : ∀ i (hi : i < l.length), g l[i] = xs[i]'(by rw [hxl]; exact hi) := fun i hi => by
  have h1 : xs[i]? = some (g l[i]) := by rw [← hxs, List.getElem?_map, List.getElem?_eq_getElem hi]; rfl
  rw [List.getElem?_eq_getElem (by rw [hxl]; exact hi)] at h1
  exact (Option.some.inj h1).symm
 rw [hxs] at hsz ⊢
 have hzx : ∀ i (hi : i < l.length), (xs[i]'(by rw [hxl]; exact hi)).size ≤ 1000000000000 := fun i hi => Nat.le_trans (sepB_mem sep xs i (by rw [hxl]; exact hi)) hsz
 have HM : Hid (∀ (i : Nat) (hi : i < l.length) (cs : List Value) (W : World), Below w.heap.size w W → Holds.ex.R F W l[i] cs → Calls Tryz.prog f (#[aggA cs] ++ caps) W (Gives W (.string (xs[i]'(by rw [hxl]; exact hi))))) := Lib.hid fun i hi cs W hW hcs => by
  have h := hf l[i] (List.getElem_mem hi) W cs hW hcs
  rw [hxi i hi] at h
  exact h
 have hjoin := sepB_join sep xs
 have hjl : (Lib.join (xs.map (·.data.toList)) sep.data.toList).length ≤ 140737488355328 := by
  rw [← hjoin]
  have e : (sepB sep xs).data.toList.length = (sepB sep xs).size := by simp
  omega
 have hjb : (⟨(Lib.join (xs.map (·.data.toList)) sep.data.toList).toArray⟩ : ByteArray) = sepB sep xs := by
  rw [← hjoin]
 have HJL := Lib.hid hjl; have HJB := Lib.hid hjb; have HXL := Lib.hid hxl; have HZX := Lib.hid hzx; have HEL := Lib.hid ha; have HF := Lib.hid hF; have HZ := Lib.hid hsz
 have HRD := Lib.hid hr
 have HJ0 := Lib.hid (fun W => Tryz.strings_Join_none none 0 sep W)
 obtain ⟨i0, hi, hz0, hz1, hz2⟩ := info_parts Tryz.infoStr
 clear hr hxi hxs hzx hjoin hjl hjb hf ha hF hsz
 go_enter Tryz.func117, Tryz.ntmps117
 go_wp2
 go_loopw [7, 12] (fun v i wr => ∃ k : Nat, k ≤ l.length ∧ i = .int .i64 k ∧ Hid (∃ (a6 : Option Addr) (c6 : Nat), v = .slice a6 k c6 ∧ (k = 0 → a6 = none ∧ c6 = 0) ∧ OwnR Holds.str 9 1 w.heap.size wr (xs.take k) (.slice a6 k c6)) ∧ Below w.heap.size w wr) (fun _ i _ => l.length - (intOf i).toNat)
 case atStart => exact ⟨0, Nat.zero_le _, rfl, Lib.hid ⟨_, _, rfl, fun _ => ⟨rfl, rfl⟩, OwnR.nil _ _ _ _ _⟩, Below.refl _ _⟩
 case round =>
  obtain ⟨k, hk, rfl, hO0, hB⟩ := hrel
  obtain ⟨a6, c6, rfl, hN0, hO1⟩ := hO0.out
  have hO := Lib.hid hO1
  have HN := Lib.hid hN0
  clear hO0 hO1 hN0
  by_cases hlt : k < l.length
  · obtain ⟨b, off, rfl, hFb, hel⟩ := HEL.out (by omega)
    have hFbw := HF.out b hFb
    obtain ⟨cs, hx, -, hcell⟩ := hel wr (hB.block b hFbw) k hlt
    have hc0 := HM.out k hlt
    have hx := Holds.below _ hx HF.out hB (Nat.le_refl _)
    have hx2 := hx
    have hzk := HZX.out k hlt
    have htk : xs.take (k + 1) = xs.take k ++ [xs[k]'(by rw [HXL.out]; exact hlt)] := List.take_succ_eq_append_getElem (by rw [HXL.out]; exact hlt)
    have hlk : (xs.take k).length ≤ 1000 := by rw [List.length_take]; omega
    have HLE : Hid ((xs.take k).length = k) := Lib.hid (by rw [List.length_take, HXL.out]; omega)
    obtain ⟨z, hz⟩ : ∃ z, xs[k]'(by rw [HXL.out]; exact hlt) = z := ⟨_, rfl⟩
    simp only [hz] at hc0 hzk htk
    generalize l[k] = x at hx hx2 hc0 hcell
    obtain ⟨qa1, qa2, qa3, qa4, da9, fa9, rfl⟩ := ex_shape hx2
    have g0 := hcell 0 _ rfl
    have g1 := hcell 1 _ rfl
    have g2 := hcell 2 _ rfl
    have g3 := hcell 3 _ rfl
    have g4 := hcell 4 _ rfl
    simp only [Nat.add_zero] at g0
    have hbq : Below wr.heap.size wr (wr.alloc (.cells #[.int .i64 qa1, .int .i64 qa2, .int .i64 qa3, .string qa4, .slice da9 x.args.length fa9] 153)) := ((Below.refl _ wr).alloc (Nat.le_refl _) _)
    have hcall : Calls Tryz.prog f (#[.agg #[.int .i64 qa1, .int .i64 qa2, .int .i64 qa3, .string qa4, .slice da9 x.args.length fa9]] ++ caps) (wr.alloc (.cells #[.int .i64 qa1, .int .i64 qa2, .int .i64 qa3, .string qa4, .slice da9 x.args.length fa9] 153)) (Gives (wr.alloc (.cells #[.int .i64 qa1, .int .i64 qa2, .int .i64 qa3, .string qa4, .slice da9 x.args.length fa9] 153)) (.string z)) := hc0 [.int .i64 qa1, .int .i64 qa2, .int .i64 qa3, .string qa4, .slice da9 x.args.length fa9] (wr.alloc (.cells #[.int .i64 qa1, .int .i64 qa2, .int .i64 qa3, .string qa4, .slice da9 x.args.length fa9] 153)) (bt hB hbq) (Holds.below Holds.ex hx (HF.out.below hB) hbq (Nat.le_refl _))
    have hki : (k : Int) < (l.length : Int) := by omega
    have hbw : b < wr.heap.size := Nat.lt_of_lt_of_le hFbw hB.size
    have HTK := Lib.hid htk
    have HC := Lib.hid hcall
    have HOW : Hid (∀ w1, Below (wr.alloc (.cells #[.int .i64 qa1, .int .i64 qa2, .int .i64 qa3, .string qa4, .slice da9 x.args.length fa9] 153)).heap.size (wr.alloc (.cells #[.int .i64 qa1, .int .i64 qa2, .int .i64 qa3, .string qa4, .slice da9 x.args.length fa9] 153)) w1 → OwnR Holds.str 9 1 w.heap.size w1 (xs.take k) (.slice a6 k c6)) := Lib.hid fun w1 hb => hO.out.below (bt hbq hb)
    have HB := Lib.hid (bt hB hbq)
    obtain ⟨ys, hys⟩ : ∃ ys : List ByteArray, xs.take k = ys := ⟨_, rfl⟩
    simp only [hys] at HTK HOW hlk HLE
    clear hel hcell hx hc0 hcall hz htk hO hys hB hFb HN hbq
    go_wp2_with (first
     | ((with_reducible refine HC.out.mono ?_); rintro e w1 ⟨rfl, hb⟩; obtain ⟨us, hus⟩ := (HOW.out w1 hb).owns; have hsz1 : w.heap.size ≤ w1.heap.size := Nat.le_trans HB.out.size hb.size)
     | (at_builtin; refine wpList_append_own_opt rfl (.tmp 16) (.tmp 20) 22 rfl w.heap.size 9 i0 _ 1 16 Tryz.underlying22 hi hz0 hz1 hz2 rfl (by decide) _ ys.length us rfl (hus.alloc _) (some ⟨w1.heap.size, 0, none⟩) 1 1 [.string z] rfl rfl (fun _ => ⟨_, rfl, cell_one_new _ _ _⟩) (by simp [Value.oneCell']) (by unfold maxLen; omega) (by omega) (by simp; omega) ?_; intro v2 w2 hown2 hgrow2 hat2; obtain ⟨a7, c7, rfl⟩ := own_shape hown2))
    go_roundw
    case rel =>
     refine ⟨k + 1, by omega, by go_num, Lib.hid ⟨a7, c7, by rw [HLE.out], fun h => absurd h (by omega), ?_⟩, ?_⟩
     · rw [HTK.out, ← HLE.out]
       exact OwnR.push (R := Holds.str) (G2 := fun _ => False) ((HOW.out w1 hb).below ((Below.refl _ w1).alloc (Nat.le_refl _) _)) (hus.alloc _) hown2 rfl hgrow2 hat2 (fun _ h => h.elim) ⟨Nat.le_trans hzk (by unfold maxLen; omega), rfl⟩
     exact ((bt HB.out hb).alloc hsz1 _).grown hgrow2 (by simp; omega) (fun b e => (ownsRow_in hus b e).1)
    case measure => simp [intOf]; omega
  have hkl : k = l.length := by omega
  have hki : ¬ (k : Int) < (l.length : Int) := by omega
  have hJ : Calls Tryz.prog 110 #[.slice a6 k c6, .string sep] wr (Gives wr (.string (sepB sep xs))) := by
   rcases Nat.eq_zero_or_pos k with h0 | h0
   · obtain ⟨rfl, rfl⟩ := HN.out h0
     have hx0 : xs = [] := List.eq_nil_of_length_eq_zero (by rw [HXL.out]; omega)
     rw [h0, hx0]
     refine (Tryz.strings_Join_none none 0 sep wr).mono ?_
     rintro e w1 ⟨rfl, rfl⟩
     exact ⟨rfl, Below.refl _ _⟩
   have hown := hO.out
   rw [List.take_of_length_le (by rw [HXL.out]; omega)] at hown
   obtain ⟨a7, c7, e6, hl6, hc6, hh6⟩ := hown.rdl.opn
   simp only [Value.slice.injEq] at e6
   obtain ⟨rfl, hkx, rfl⟩ := e6
   obtain ⟨b6, o6, rfl, hF6, hel6⟩ := hh6 (by rw [HXL.out]; omega)
   have hcells : ∀ (j : Nat) x, xs[j]? = some x → wr.cell? ⟨b6, o6 + j, none⟩ = some (.string x) := fun j x hj => by
    obtain ⟨hj1, hj2⟩ := List.getElem?_eq_some_iff.1 hj
    obtain ⟨cs, ⟨-, rfl⟩, -, hcc⟩ := hel6 wr rfl j hj1
    have h := hcc 0 _ rfl
    rw [hj2] at h
    simpa using h
   have hJ := Tryz.strings_Join b6 o6 c6 xs sep wr hcells hF6.2 (by rw [HXL.out]; omega) hl6 HJL.out
   rw [HJB.out] at hJ
   rw [hkx]
   exact hJ.mono (fun e w1 h => h)
  have HJ := Lib.hid hJ
  obtain ⟨z, hzz⟩ : ∃ z, sepB sep xs = z := ⟨_, rfl⟩
  have HZE := Lib.hid hzz
  rw [hzz] at HJ HZ
  have hzs := HZ.out
  have HB := Lib.hid hB
  clear hJ hO hzz hB HN hkl
  go_wp2_with (go_at_call 110; (with_reducible refine (HJ.out).mono ?_); rintro e w1 ⟨rfl, hb⟩)
  go_ret
  exact ⟨ret_str HZE.out.symm, bt HB.out hb⟩
theorem rowSlot_calls (F : Nat → Prop) (w : World) (f : Nat) (caps : Array Value) (l : List (SlotD)) (sep : ByteArray) (v : Value) (g : (SlotD) → ByteArray) (hF : Inn F w) (hr : RdL Holds.slot 2 F w l v) (hl : l.length ≤ 1000) (hcf : ∀ (args : Array Value) (w : World), (callFunc f args).run Tryz.prog w = .ok (.enter f args) w)
 (hf : ∀ x ∈ l, Makes Holds.slot aggA F w f caps x (g x)) (hsz : (sepB sep (l.map g)).size ≤ 1000000000000) :
 Calls Tryz.prog 116 #[v, .string sep, .func (.func f) #[] caps] w (Gives w (.string (sepB sep (l.map g)))) := by
 obtain ⟨a, cap, rfl, hlc, hc, ha⟩ := hr.opn
 unfold maxLen at hc
 obtain ⟨xs, hxs⟩ : ∃ xs, l.map g = xs := ⟨_, rfl⟩
 have hxl : xs.length = l.length := by rw [← hxs]; simp
 have hxi : ∀ i (hi : i < l.length), g l[i] = xs[i]'(by rw [hxl]; exact hi) := fun i hi => by
  have h1 : xs[i]? = some (g l[i]) := by rw [← hxs, List.getElem?_map, List.getElem?_eq_getElem hi]; rfl
  rw [List.getElem?_eq_getElem (by rw [hxl]; exact hi)] at h1
  exact (Option.some.inj h1).symm
 rw [hxs] at hsz ⊢
 have hzx : ∀ i (hi : i < l.length), (xs[i]'(by rw [hxl]; exact hi)).size ≤ 1000000000000 := fun i hi => Nat.le_trans (sepB_mem sep xs i (by rw [hxl]; exact hi)) hsz
 have HM : Hid (∀ (i : Nat) (hi : i < l.length) (cs : List Value) (W : World), Below w.heap.size w W → Holds.slot.R F W l[i] cs → Calls Tryz.prog f (#[aggA cs] ++ caps) W (Gives W (.string (xs[i]'(by rw [hxl]; exact hi))))) := Lib.hid fun i hi cs W hW hcs => by
  have h := hf l[i] (List.getElem_mem hi) W cs hW hcs
  rw [hxi i hi] at h
  exact h
 have hjoin := sepB_join sep xs
 have hjl : (Lib.join (xs.map (·.data.toList)) sep.data.toList).length ≤ 140737488355328 := by
  rw [← hjoin]
  have e : (sepB sep xs).data.toList.length = (sepB sep xs).size := by simp
  omega
 have hjb : (⟨(Lib.join (xs.map (·.data.toList)) sep.data.toList).toArray⟩ : ByteArray) = sepB sep xs := by
  rw [← hjoin]
 have HJL := Lib.hid hjl; have HJB := Lib.hid hjb; have HXL := Lib.hid hxl; have HZX := Lib.hid hzx; have HEL := Lib.hid ha; have HF := Lib.hid hF; have HZ := Lib.hid hsz
 have HRD := Lib.hid hr
 have HJ0 := Lib.hid (fun W => Tryz.strings_Join_none none 0 sep W)
 obtain ⟨i0, hi, hz0, hz1, hz2⟩ := info_parts Tryz.infoStr
 clear hr hxi hxs hzx hjoin hjl hjb hf ha hF hsz
 go_enter Tryz.func116, Tryz.ntmps116
 go_wp2
 go_loopw [7, 12] (fun v i wr => ∃ k : Nat, k ≤ l.length ∧ i = .int .i64 k ∧ Hid (∃ (a6 : Option Addr) (c6 : Nat), v = .slice a6 k c6 ∧ (k = 0 → a6 = none ∧ c6 = 0) ∧ OwnR Holds.str 9 1 w.heap.size wr (xs.take k) (.slice a6 k c6)) ∧ Below w.heap.size w wr) (fun _ i _ => l.length - (intOf i).toNat)
 case atStart => exact ⟨0, Nat.zero_le _, rfl, Lib.hid ⟨_, _, rfl, fun _ => ⟨rfl, rfl⟩, OwnR.nil _ _ _ _ _⟩, Below.refl _ _⟩
 case round =>
  obtain ⟨k, hk, rfl, hO0, hB⟩ := hrel
  obtain ⟨a6, c6, rfl, hN0, hO1⟩ := hO0.out
  have hO := Lib.hid hO1
  have HN := Lib.hid hN0
  clear hO0 hO1 hN0
  by_cases hlt : k < l.length
  · obtain ⟨b, off, rfl, hFb, hel⟩ := HEL.out (by omega)
    have hFbw := HF.out b hFb
    obtain ⟨cs, hx, -, hcell⟩ := hel wr (hB.block b hFbw) k hlt
    have hc0 := HM.out k hlt
    have hx := Holds.below _ hx HF.out hB (Nat.le_refl _)
    have hx2 := hx
    have hzk := HZX.out k hlt
    have htk : xs.take (k + 1) = xs.take k ++ [xs[k]'(by rw [HXL.out]; exact hlt)] := List.take_succ_eq_append_getElem (by rw [HXL.out]; exact hlt)
    have hlk : (xs.take k).length ≤ 1000 := by rw [List.length_take]; omega
    have HLE : Hid ((xs.take k).length = k) := Lib.hid (by rw [List.length_take, HXL.out]; omega)
    obtain ⟨z, hz⟩ : ∃ z, xs[k]'(by rw [HXL.out]; exact hlt) = z := ⟨_, rfl⟩
    simp only [hz] at hc0 hzk htk
    generalize l[k] = x at hx hx2 hc0 hcell
    obtain ⟨-, va1, rfl, ka1⟩ := hx2
    obtain ⟨da1, fa1, rfl⟩ := ka1.shape
    have g0 := hcell 0 _ rfl
    have g1 := hcell 1 _ rfl
    simp only [Nat.add_zero] at g0
    have hbq : Below wr.heap.size wr (wr.alloc (.cells #[.int .i64 x.kind, .slice da1 x.words.length fa1] 125)) := ((Below.refl _ wr).alloc (Nat.le_refl _) _)
    have hcall : Calls Tryz.prog f (#[.agg #[.int .i64 x.kind, .slice da1 x.words.length fa1]] ++ caps) (wr.alloc (.cells #[.int .i64 x.kind, .slice da1 x.words.length fa1] 125)) (Gives (wr.alloc (.cells #[.int .i64 x.kind, .slice da1 x.words.length fa1] 125)) (.string z)) := hc0 [.int .i64 x.kind, .slice da1 x.words.length fa1] (wr.alloc (.cells #[.int .i64 x.kind, .slice da1 x.words.length fa1] 125)) (bt hB hbq) (Holds.below Holds.slot hx (HF.out.below hB) hbq (Nat.le_refl _))
    have hki : (k : Int) < (l.length : Int) := by omega
    have hbw : b < wr.heap.size := Nat.lt_of_lt_of_le hFbw hB.size
    have HTK := Lib.hid htk
    have HC := Lib.hid hcall
    have HOW : Hid (∀ w1, Below (wr.alloc (.cells #[.int .i64 x.kind, .slice da1 x.words.length fa1] 125)).heap.size (wr.alloc (.cells #[.int .i64 x.kind, .slice da1 x.words.length fa1] 125)) w1 → OwnR Holds.str 9 1 w.heap.size w1 (xs.take k) (.slice a6 k c6)) := Lib.hid fun w1 hb => hO.out.below (bt hbq hb)
    have HB := Lib.hid (bt hB hbq)
    obtain ⟨ys, hys⟩ : ∃ ys : List ByteArray, xs.take k = ys := ⟨_, rfl⟩
    simp only [hys] at HTK HOW hlk HLE
    clear hel hcell hx hc0 hcall hz htk hO hys hB hFb HN hbq
    go_wp2_with (first
     | ((with_reducible refine HC.out.mono ?_); rintro e w1 ⟨rfl, hb⟩; obtain ⟨us, hus⟩ := (HOW.out w1 hb).owns; have hsz1 : w.heap.size ≤ w1.heap.size := Nat.le_trans HB.out.size hb.size)
     | (at_builtin; refine wpList_append_own_opt rfl (.tmp 16) (.tmp 20) 22 rfl w.heap.size 9 i0 _ 1 16 Tryz.underlying22 hi hz0 hz1 hz2 rfl (by decide) _ ys.length us rfl (hus.alloc _) (some ⟨w1.heap.size, 0, none⟩) 1 1 [.string z] rfl rfl (fun _ => ⟨_, rfl, cell_one_new _ _ _⟩) (by simp [Value.oneCell']) (by unfold maxLen; omega) (by omega) (by simp; omega) ?_; intro v2 w2 hown2 hgrow2 hat2; obtain ⟨a7, c7, rfl⟩ := own_shape hown2))
    go_roundw
    case rel =>
     refine ⟨k + 1, by omega, by go_num, Lib.hid ⟨a7, c7, by rw [HLE.out], fun h => absurd h (by omega), ?_⟩, ?_⟩
     · rw [HTK.out, ← HLE.out]
       exact OwnR.push (R := Holds.str) (G2 := fun _ => False) ((HOW.out w1 hb).below ((Below.refl _ w1).alloc (Nat.le_refl _) _)) (hus.alloc _) hown2 rfl hgrow2 hat2 (fun _ h => h.elim) ⟨Nat.le_trans hzk (by unfold maxLen; omega), rfl⟩
     exact ((bt HB.out hb).alloc hsz1 _).grown hgrow2 (by simp; omega) (fun b e => (ownsRow_in hus b e).1)
    case measure => simp [intOf]; omega
  have hkl : k = l.length := by omega
  have hki : ¬ (k : Int) < (l.length : Int) := by omega
  have hJ : Calls Tryz.prog 110 #[.slice a6 k c6, .string sep] wr (Gives wr (.string (sepB sep xs))) := by
   rcases Nat.eq_zero_or_pos k with h0 | h0
   · obtain ⟨rfl, rfl⟩ := HN.out h0
     have hx0 : xs = [] := List.eq_nil_of_length_eq_zero (by rw [HXL.out]; omega)
     rw [h0, hx0]
     refine (Tryz.strings_Join_none none 0 sep wr).mono ?_
     rintro e w1 ⟨rfl, rfl⟩
     exact ⟨rfl, Below.refl _ _⟩
   have hown := hO.out
   rw [List.take_of_length_le (by rw [HXL.out]; omega)] at hown
   obtain ⟨a7, c7, e6, hl6, hc6, hh6⟩ := hown.rdl.opn
   simp only [Value.slice.injEq] at e6
   obtain ⟨rfl, hkx, rfl⟩ := e6
   obtain ⟨b6, o6, rfl, hF6, hel6⟩ := hh6 (by rw [HXL.out]; omega)
   have hcells : ∀ (j : Nat) x, xs[j]? = some x → wr.cell? ⟨b6, o6 + j, none⟩ = some (.string x) := fun j x hj => by
    obtain ⟨hj1, hj2⟩ := List.getElem?_eq_some_iff.1 hj
    obtain ⟨cs, ⟨-, rfl⟩, -, hcc⟩ := hel6 wr rfl j hj1
    have h := hcc 0 _ rfl
    rw [hj2] at h
    simpa using h
   have hJ := Tryz.strings_Join b6 o6 c6 xs sep wr hcells hF6.2 (by rw [HXL.out]; omega) hl6 HJL.out
   rw [HJB.out] at hJ
   rw [hkx]
   exact hJ.mono (fun e w1 h => h)
  have HJ := Lib.hid hJ
  obtain ⟨z, hzz⟩ : ∃ z, sepB sep xs = z := ⟨_, rfl⟩
  have HZE := Lib.hid hzz
  rw [hzz] at HJ HZ
  have hzs := HZ.out
  have HB := Lib.hid hB
  clear hJ hO hzz hB HN hkl
  go_wp2_with (go_at_call 110; (with_reducible refine (HJ.out).mono ?_); rintro e w1 ⟨rfl, hb⟩)
  go_ret
  exact ⟨ret_str HZE.out.symm, bt HB.out hb⟩
theorem rowLine_calls (F : Nat → Prop) (w : World) (f : Nat) (caps : Array Value) (l : List (List SlotD)) (sep : ByteArray) (v : Value) (g : (List SlotD) → ByteArray) (hF : Inn F w) (hr : RdL (Holds.sl Holds.slot 2) 1 F w l v) (hl : l.length ≤ 1000) (hcf : ∀ (args : Array Value) (w : World), (callFunc f args).run Tryz.prog w = .ok (.enter f args) w)
 (hf : ∀ x ∈ l, Makes (Holds.sl Holds.slot 2) oneA F w f caps x (g x)) (hsz : (sepB sep (l.map g)).size ≤ 1000000000000) :
 Calls Tryz.prog 114 #[v, .string sep, .func (.func f) #[] caps] w (Gives w (.string (sepB sep (l.map g)))) := by
 obtain ⟨a, cap, rfl, hlc, hc, ha⟩ := hr.opn
 unfold maxLen at hc
 obtain ⟨xs, hxs⟩ : ∃ xs, l.map g = xs := ⟨_, rfl⟩
 have hxl : xs.length = l.length := by rw [← hxs]; simp
 have hxi : ∀ i (hi : i < l.length), g l[i] = xs[i]'(by rw [hxl]; exact hi) := fun i hi => by
  have h1 : xs[i]? = some (g l[i]) := by rw [← hxs, List.getElem?_map, List.getElem?_eq_getElem hi]; rfl
  rw [List.getElem?_eq_getElem (by rw [hxl]; exact hi)] at h1
  exact (Option.some.inj h1).symm
 rw [hxs] at hsz ⊢
 have hzx : ∀ i (hi : i < l.length), (xs[i]'(by rw [hxl]; exact hi)).size ≤ 1000000000000 := fun i hi => Nat.le_trans (sepB_mem sep xs i (by rw [hxl]; exact hi)) hsz
 have HM : Hid (∀ (i : Nat) (hi : i < l.length) (cs : List Value) (W : World), Below w.heap.size w W → (Holds.sl Holds.slot 2).R F W l[i] cs → Calls Tryz.prog f (#[oneA cs] ++ caps) W (Gives W (.string (xs[i]'(by rw [hxl]; exact hi))))) := Lib.hid fun i hi cs W hW hcs => by
  have h := hf l[i] (List.getElem_mem hi) W cs hW hcs
  rw [hxi i hi] at h
  exact h
 have hjoin := sepB_join sep xs
 have hjl : (Lib.join (xs.map (·.data.toList)) sep.data.toList).length ≤ 140737488355328 := by
  rw [← hjoin]
  have e : (sepB sep xs).data.toList.length = (sepB sep xs).size := by simp
  omega
 have hjb : (⟨(Lib.join (xs.map (·.data.toList)) sep.data.toList).toArray⟩ : ByteArray) = sepB sep xs := by
  rw [← hjoin]
 have HJL := Lib.hid hjl; have HJB := Lib.hid hjb; have HXL := Lib.hid hxl; have HZX := Lib.hid hzx; have HEL := Lib.hid ha; have HF := Lib.hid hF; have HZ := Lib.hid hsz
 have HRD := Lib.hid hr
 have HJ0 := Lib.hid (fun W => Tryz.strings_Join_none none 0 sep W)
 obtain ⟨i0, hi, hz0, hz1, hz2⟩ := info_parts Tryz.infoStr
 clear hr hxi hxs hzx hjoin hjl hjb hf ha hF hsz
 go_enter Tryz.func114, Tryz.ntmps114
 go_wp2
 go_loopw [7, 12] (fun v i wr => ∃ k : Nat, k ≤ l.length ∧ i = .int .i64 k ∧ Hid (∃ (a6 : Option Addr) (c6 : Nat), v = .slice a6 k c6 ∧ (k = 0 → a6 = none ∧ c6 = 0) ∧ OwnR Holds.str 9 1 w.heap.size wr (xs.take k) (.slice a6 k c6)) ∧ Below w.heap.size w wr) (fun _ i _ => l.length - (intOf i).toNat)
 case atStart => exact ⟨0, Nat.zero_le _, rfl, Lib.hid ⟨_, _, rfl, fun _ => ⟨rfl, rfl⟩, OwnR.nil _ _ _ _ _⟩, Below.refl _ _⟩
 case round =>
  obtain ⟨k, hk, rfl, hO0, hB⟩ := hrel
  obtain ⟨a6, c6, rfl, hN0, hO1⟩ := hO0.out
  have hO := Lib.hid hO1
  have HN := Lib.hid hN0
  clear hO0 hO1 hN0
  by_cases hlt : k < l.length
  · obtain ⟨b, off, rfl, hFb, hel⟩ := HEL.out (by omega)
    have hFbw := HF.out b hFb
    obtain ⟨cs, hx, -, hcell⟩ := hel wr (hB.block b hFbw) k hlt
    have hc0 := HM.out k hlt
    have hx := Holds.below _ hx HF.out hB (Nat.le_refl _)
    have hx2 := hx
    have hzk := HZX.out k hlt
    have htk : xs.take (k + 1) = xs.take k ++ [xs[k]'(by rw [HXL.out]; exact hlt)] := List.take_succ_eq_append_getElem (by rw [HXL.out]; exact hlt)
    have hlk : (xs.take k).length ≤ 1000 := by rw [List.length_take]; omega
    have HLE : Hid ((xs.take k).length = k) := Lib.hid (by rw [List.length_take, HXL.out]; omega)
    obtain ⟨z, hz⟩ : ∃ z, xs[k]'(by rw [HXL.out]; exact hlt) = z := ⟨_, rfl⟩
    simp only [hz] at hc0 hzk htk
    generalize l[k] = x at hx hx2 hc0 hcell
    obtain ⟨va0, rfl, ka0⟩ := hx2
    obtain ⟨da0, fa0, rfl⟩ := ka0.shape
    have g0 := hcell 0 _ rfl
    simp only [Nat.add_zero, Nat.mul_one] at g0
    have hbq : Below wr.heap.size wr wr := (Below.refl _ wr)
    have hcall : Calls Tryz.prog f (#[.slice da0 x.length fa0] ++ caps) wr (Gives wr (.string z)) := hc0 [.slice da0 x.length fa0] wr (bt hB hbq) (Holds.below (Holds.sl Holds.slot 2) hx (HF.out.below hB) hbq (Nat.le_refl _))
    have hki : (k : Int) < (l.length : Int) := by omega
    have hbw : b < wr.heap.size := Nat.lt_of_lt_of_le hFbw hB.size
    have HTK := Lib.hid htk
    have HC := Lib.hid hcall
    have HOW : Hid (∀ w1, Below wr.heap.size wr w1 → OwnR Holds.str 9 1 w.heap.size w1 (xs.take k) (.slice a6 k c6)) := Lib.hid fun w1 hb => hO.out.below (bt hbq hb)
    have HB := Lib.hid (bt hB hbq)
    obtain ⟨ys, hys⟩ : ∃ ys : List ByteArray, xs.take k = ys := ⟨_, rfl⟩
    simp only [hys] at HTK HOW hlk HLE
    clear hel hcell hx hc0 hcall hz htk hO hys hB hFb HN hbq
    go_wp2_with (first
     | ((with_reducible refine HC.out.mono ?_); rintro e w1 ⟨rfl, hb⟩; obtain ⟨us, hus⟩ := (HOW.out w1 hb).owns; have hsz1 : w.heap.size ≤ w1.heap.size := Nat.le_trans HB.out.size hb.size)
     | (at_builtin; refine wpList_append_own_opt rfl (.tmp 16) (.tmp 20) 22 rfl w.heap.size 9 i0 _ 1 16 Tryz.underlying22 hi hz0 hz1 hz2 rfl (by decide) _ ys.length us rfl (hus.alloc _) (some ⟨w1.heap.size, 0, none⟩) 1 1 [.string z] rfl rfl (fun _ => ⟨_, rfl, cell_one_new _ _ _⟩) (by simp [Value.oneCell']) (by unfold maxLen; omega) (by omega) (by simp; omega) ?_; intro v2 w2 hown2 hgrow2 hat2; obtain ⟨a7, c7, rfl⟩ := own_shape hown2))
    go_roundw
    case rel =>
     refine ⟨k + 1, by omega, by go_num, Lib.hid ⟨a7, c7, by rw [HLE.out], fun h => absurd h (by omega), ?_⟩, ?_⟩
     · rw [HTK.out, ← HLE.out]
       exact OwnR.push (R := Holds.str) (G2 := fun _ => False) ((HOW.out w1 hb).below ((Below.refl _ w1).alloc (Nat.le_refl _) _)) (hus.alloc _) hown2 rfl hgrow2 hat2 (fun _ h => h.elim) ⟨Nat.le_trans hzk (by unfold maxLen; omega), rfl⟩
     exact ((bt HB.out hb).alloc hsz1 _).grown hgrow2 (by simp; omega) (fun b e => (ownsRow_in hus b e).1)
    case measure => simp [intOf]; omega
  have hkl : k = l.length := by omega
  have hki : ¬ (k : Int) < (l.length : Int) := by omega
  have hJ : Calls Tryz.prog 110 #[.slice a6 k c6, .string sep] wr (Gives wr (.string (sepB sep xs))) := by
   rcases Nat.eq_zero_or_pos k with h0 | h0
   · obtain ⟨rfl, rfl⟩ := HN.out h0
     have hx0 : xs = [] := List.eq_nil_of_length_eq_zero (by rw [HXL.out]; omega)
     rw [h0, hx0]
     refine (Tryz.strings_Join_none none 0 sep wr).mono ?_
     rintro e w1 ⟨rfl, rfl⟩
     exact ⟨rfl, Below.refl _ _⟩
   have hown := hO.out
   rw [List.take_of_length_le (by rw [HXL.out]; omega)] at hown
   obtain ⟨a7, c7, e6, hl6, hc6, hh6⟩ := hown.rdl.opn
   simp only [Value.slice.injEq] at e6
   obtain ⟨rfl, hkx, rfl⟩ := e6
   obtain ⟨b6, o6, rfl, hF6, hel6⟩ := hh6 (by rw [HXL.out]; omega)
   have hcells : ∀ (j : Nat) x, xs[j]? = some x → wr.cell? ⟨b6, o6 + j, none⟩ = some (.string x) := fun j x hj => by
    obtain ⟨hj1, hj2⟩ := List.getElem?_eq_some_iff.1 hj
    obtain ⟨cs, ⟨-, rfl⟩, -, hcc⟩ := hel6 wr rfl j hj1
    have h := hcc 0 _ rfl
    rw [hj2] at h
    simpa using h
   have hJ := Tryz.strings_Join b6 o6 c6 xs sep wr hcells hF6.2 (by rw [HXL.out]; omega) hl6 HJL.out
   rw [HJB.out] at hJ
   rw [hkx]
   exact hJ.mono (fun e w1 h => h)
  have HJ := Lib.hid hJ
  obtain ⟨z, hzz⟩ : ∃ z, sepB sep xs = z := ⟨_, rfl⟩
  have HZE := Lib.hid hzz
  rw [hzz] at HJ HZ
  have hzs := HZ.out
  have HB := Lib.hid hB
  clear hJ hO hzz hB HN hkl
  go_wp2_with (go_at_call 110; (with_reducible refine (HJ.out).mono ?_); rintro e w1 ⟨rfl, hb⟩)
  go_ret
  exact ⟨ret_str HZE.out.symm, bt HB.out hb⟩
end Go.Proofs.YtdeecfkipknkbaaGreatDoor
