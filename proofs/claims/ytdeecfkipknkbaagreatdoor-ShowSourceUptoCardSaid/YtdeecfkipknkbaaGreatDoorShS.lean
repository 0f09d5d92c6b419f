/- show.value, show.cond, show.dir, show.lines, show.putObject's items; lex.Dir. Printed by gen-sh2.py. -/
import Derived.Test.YtdeecfkipknkbaaGreatDoorShR
import Derived.Test.YtdeecfkipknkbaaGreatDoorPart88a0c298
namespace Go.Proofs.YtdeecfkipknkbaaGreatDoor
set_option maxRecDepth 100000
set_option maxHeartbeats 4000000
open Go.RowKit Go.Sort
def TA (w : World) : Prop := Lib.TabIs Tryz.prog w "strings.asciiSpace" .u8 Lib.asciiSpaceTab
theorem TA.below {B : Nat} {w w' : World} (h : TA w) (hb : Below B w w') (hB : w.heap.size ≤ B) : TA w' := by
 unfold TA Lib.TabIs World.var? at h ⊢
 have hg : Tryz.prog.globalNamed "strings.asciiSpace" = some 0 := by kernel_rfl
 rw [hg] at h ⊢
 simp only [Option.bind_some] at h ⊢
 have hlt : 0 < w.heap.size := by
  rcases Nat.lt_or_ge 0 w.heap.size with h1 | h1
  · exact h1
  rw [Array.getElem?_eq_none h1] at h
  simp at h
 rw [hb.block _ (Nat.lt_of_lt_of_le hlt hB)]
 exact h
def StA (w : World) (b : Nat) (bx : List (Nat × List Value × TypeId)) (A : ByteArray) (W : World) : Prop := StB w b bx A.data.toList W
theorem StA.below {w W W' : World} {b : Nat} {bx : List (Nat × List Value × TypeId)} {A : ByteArray} (h : StA w b bx A W) (hb : Below W.heap.size W W') : StA w b bx A W' := StB.below h hb
theorem StA.text {w W : World} {b : Nat} {bx : List (Nat × List Value × TypeId)} {A : ByteArray} (h : StA w b bx A W) (s : ByteArray) (hl : A.size + s.size ≤ 10000000000000) :
 Calls Tryz.prog 37 #[.pointer (some ⟨b, 0, none⟩), .string s] W fun e w' => e = .returned (.tuple #[.int .i64 s.size, .nilIface]) ∧ StA w b bx (A ++ s) w' := by
 have e : A.data.toList.length = A.size := by simp
 refine (StB.text h s (by rw [e]; omega)).mono ?_
 rintro e w' ⟨rfl, h1⟩
 refine ⟨rfl, ?_⟩
 show StB w b bx (A ++ s).data.toList w'
 rw [ByteArray.data_append, Array.toList_append]
 exact h1
theorem StA.cell {w W : World} {b : Nat} {bx : List (Nat × List Value × TypeId)} {A : ByteArray} (h : StA w b bx A W) (n : Nat) (cs : List Value) (T : TypeId) (ht : (n, cs, T) ∈ bx) (j : Nat) : W.cell? ⟨n, j, none⟩ = cs[j]? := StB.cell h n cs T ht j
theorem StA.add {w W : World} {b : Nat} {bx : List (Nat × List Value × TypeId)} {A : ByteArray} (h : StA w b bx A W) (cs : List Value) (T : TypeId) (hT : T ≠ 5) : StA w b ((W.heap.size, cs, T) :: bx) A (W.alloc (.cells cs.toArray T)) := StB.add h cs T hT
theorem StA.sub {w W : World} {b : Nat} {bx bx' : List (Nat × List Value × TypeId)} {A : ByteArray} (h : StA w b bx A W) (hs : ∀ t ∈ bx', t ∈ bx) : StA w b bx' A W := ⟨h.1, fun t ht => h.2.1 t (hs t ht), h.2.2⟩
theorem StA.same {w W : World} {b : Nat} {bx : List (Nat × List Value × TypeId)} {A A' : ByteArray} (h : StA w b bx A W) (e : A = A') : StA w b bx A' W := e ▸ h
theorem StA.kept {w W : World} {b : Nat} {bx : List (Nat × List Value × TypeId)} {A : ByteArray} (h : StA w b bx A W) : Below b w W := h.2.2.1
theorem StA.done {w W : World} {b : Nat} {bx : List (Nat × List Value × TypeId)} {A : ByteArray} (h : StA w b bx A W) : Wrote b A.data.toList w W := StB.done h
theorem StA.wrote {w W W' : World} {b : Nat} {bx : List (Nat × List Value × TypeId)} {A A' : ByteArray} (h : StA w b bx A W) (k : Wrote b A'.data.toList W W') : StA w b bx A' W' := StB.wrote h k
theorem value_calls (F : Nat → Prop) (w : World) (p : PairD) (cs : List Value) (ht : TB w) (hz : p.name.size ≤ 1000) (hx : Holds.pair.R F w p cs) : Calls Tryz.prog 42 #[.agg cs.toArray] w (Gives w (.string (valueB p))) := by
 obtain ⟨nm, num⟩ := p
 obtain ⟨-, hn, rfl⟩ := hx
 simp only at hn hz ⊢
 obtain ⟨W1, hW1⟩ : ∃ W1, w.alloc (.cells #[.string nm, .int .i64 num] 84) = W1 := ⟨_, rfl⟩
 have hb1 := ba' hW1
 have hbx1 := bn' hW1
 have hN := fun (W : World) (hW : Below W1.heap.size W1 W) => numT_calls num hn W (ht.below (bt hb1 hW) (Nat.le_refl _))
 have hq := numB_le hn
 obtain ⟨r, hr2⟩ : ∃ r, valueB ⟨nm, num⟩ = r := ⟨_, rfl⟩
 have hr3 : nm ++ ⟨#[32, 61, 32]⟩ ++ numB num ++ ⟨#[59, 10]⟩ = r := hr2
 obtain ⟨z, hzz⟩ : ∃ z, numB num = z := ⟨_, rfl⟩
 rw [hzz] at hq hr3
 simp only [hzz] at hN
 rw [hr2]
 have HR := Lib.hid hr3; have HN := Lib.hid hN; have HW1 := Lib.hid hW1; have HB1 := Lib.hid hb1
 clear hr3 hr2 hN hW1 ht hn hzz hb1
 go_enter Tryz.func42, Tryz.ntmps42
 go_upto_region 1 with fail
 rw [HW1.out]
 obtain ⟨y0, y1⟩ := p1' hbx1.2
 have K := @rg' Tryz.prog W1
 have G1 := Lib.hid (K HN.out)
 clear K hbx1
 have c0 := fun d os => cell_regrown y0 d os; have c1 := fun d os => cell_regrown y1 d os
 refine wp_region_quiet_below (by kernel_rfl) (by kernel_rfl) ?_
 repeat (go_big_quiet_step (with_reducible exact G1.out _))
 refine wpQuiet_nil ?_
 intro w6 hw6
 have hb6 := below_of_regrown hw6
 clear hw6
 go_wp2_with fail
 go_ret
 exact ⟨ret_str HR.out, bt HB1.out hb6⟩
theorem cond1_calls (e : Ex) (F : Nat → Prop) (w : World) (cs : List Value) (hF : Inn F w) (ht : TB w) (hs : Src e) (hsz : e.pr.size ≤ 1000000000000) (hr : RdEx F w e cs) :
 Calls Tryz.prog 118 #[.agg cs.toArray] w (Gives w (.string (⟨#[32, 105, 102, 32]⟩ ++ e.pr))) := by
 obtain ⟨k, o, n, s, a, m, cap, rfl⟩ := hr.shape
 obtain ⟨W1, hW1⟩ : ∃ W1, w.alloc (.cells #[.int .i64 k, .int .i64 o, .int .i64 n, .string s, .slice a m cap] 153) = W1 := ⟨_, rfl⟩
 have hb1 := ba' hW1
 have hbx1 := bn' hW1
 have hc := printT_calls e F W1 _ (hF.below hb1) (ht.below hb1 (Nat.le_refl _)) hs hsz (hr.below hF hb1 (Nat.le_refl _))
 obtain ⟨x, hx⟩ : ∃ x, e.pr = x := ⟨_, rfl⟩
 rw [hx] at hc hsz ⊢
 have HC := Lib.hid hc; have HW1 := Lib.hid hW1; have HB1 := Lib.hid hb1
 clear hc hW1 hr hx hs ht hF hb1
 go_enter Tryz.func118, Tryz.ntmps118
 go_upto_region 1 with fail
 rw [HW1.out]
 obtain ⟨y0, y1, y2, y3, y4⟩ := p4' hbx1.2
 go_wp2_with (go_at_call 119; (with_reducible refine (HC.out).mono ?_); rintro e w1 ⟨rfl, hb⟩)
 go_ret
 exact ⟨rfl, bt HB1.out hb⟩
theorem exs_rdl2 {F : Nat → Prop} {w : World} {l : List Ex} {v : Value} (h : Exs F w l v) : RdL Holds.ex 5 F w l v := by
 obtain ⟨c, h1, h2⟩ := h
 exact ⟨c, h1, fun i hi => h2.get i hi⟩
theorem condB_join {l : List Ex} (h : l.length ≤ 1) : sepB ⟨#[]⟩ (l.map fun e => (⟨#[32, 105, 102, 32]⟩ : ByteArray) ++ e.pr) = condB l := by
 match l, h with
 | [], _ => rfl
 | [e], _ => simp [sepB, sepTail, condB, app_emp]
theorem cond_calls (l : List Ex) (F : Nat → Prop) (w : World) (v : Value) (hF : Inn F w) (ht : TB w) (hl : l.length ≤ 1) (hs : ∀ e ∈ l, Src e) (hsz : (condB l).size ≤ 1000000000000) (hr : Exs F w l v) :
 Calls Tryz.prog 47 #[v] w (Gives w (.string (condB l))) := by
 have hz : ∀ e ∈ l, e.pr.size ≤ 1000000000000 := fun e he => by
  match l, hl with
  | [], _ => cases he
  | [x], _ =>
   rw [List.mem_singleton.1 he]
   simp only [condB, ByteArray.size_append] at hsz
   omega
 have hc := rowExpr_calls F w 118 #[] l ⟨#[]⟩ v (fun e => (⟨#[32, 105, 102, 32]⟩ : ByteArray) ++ e.pr) hF (exs_rdl2 hr) (by omega) (fun _ _ => by kernel_rfl)
  (fun x hx w' cs hW hR => cond1_calls x F w' cs (hF.below hW) (ht.below hW (Nat.le_refl _)) (hs x hx) (hz x hx) hR) (by rw [condB_join hl]; exact hsz)
 rw [condB_join hl] at hc
 obtain ⟨a, cap, rfl⟩ := hr.shape
 have HC := Lib.hid hc
 clear hc hz hr hs hsz
 go_enter Tryz.func47, Tryz.ntmps47
 go_wp2_with (go_at_call 117; (with_reducible refine HC.out.mono ?_); rintro e w1 ⟨rfl, hb⟩)
 go_ret
 exact ⟨rfl, hb⟩
/-! Directions. -/
theorem dirs_at : ∀ k, k < 12 → Lib.idxOfS (dirs.take 12) (dirs.getD k ⟨#[]⟩) = k := by decide +kernel
theorem lexDir_calls (k : Nat) (hk : k < 12) (w : World) : Calls Tryz.prog 201 #[.string (dirs.getD k ⟨#[]⟩)] w (Gives w (.int .i64 ((k : Int) + 1))) := by
 obtain ⟨W1, hW1⟩ : ∃ W1, w.alloc (.cells #[.string ⟨#[110, 111, 114, 116, 104]⟩, .string ⟨#[115, 111, 117, 116, 104]⟩, .string ⟨#[101, 97, 115, 116]⟩, .string ⟨#[119, 101, 115, 116]⟩, .string ⟨#[110, 111, 114, 116, 104, 101, 97, 115, 116]⟩, .string ⟨#[110, 111, 114, 116, 104, 119, 101, 115, 116]⟩, .string ⟨#[115, 111, 117, 116, 104, 101, 97, 115, 116]⟩, .string ⟨#[115, 111, 117, 116, 104, 119, 101, 115, 116]⟩, .string ⟨#[117, 112]⟩, .string ⟨#[100, 111, 119, 110]⟩, .string ⟨#[105, 110]⟩, .string ⟨#[111, 117, 116]⟩] 9) = W1 := ⟨_, rfl⟩
 have hb1 := ba' hW1
 have hI := Tryz.slices_Index_string w.heap.size 0 12 12 dirs (dirs.getD k ⟨#[]⟩) W1 (by decide) (by omega) (fun j hj => by
  have hbx1 := bn' hW1
  have hj : j < 12 := hj
  have h := hbx1.2 j (by simpa using hj)
  rw [Nat.zero_add, h]
  match j, hj with
  | 0, _ | 1, _ | 2, _ | 3, _ | 4, _ | 5, _ | 6, _ | 7, _ | 8, _ | 9, _ | 10, _ | 11, _ => rfl)
 rw [dirs_at k hk] at hI
 obtain ⟨x, hx⟩ : ∃ x, dirs.getD k ⟨#[]⟩ = x := ⟨_, rfl⟩
 rw [hx] at hI ⊢
 have HI := Lib.hid hI; have HW1 := Lib.hid hW1; have HB1 := Lib.hid hb1
 have hk2 : (k : Int) < 12 := by omega
 clear hI hW1 hx hb1
 go_enter Tryz.func201, Tryz.ntmps201
 go_wp2_with (go_at_call 267; rw [HW1.out]; (with_reducible refine HI.out.mono ?_); rintro e w1 ⟨rfl, rfl⟩)
 go_ret
 exact ⟨rfl, HB1.out⟩
theorem dirs_fields : (Lib.fields (⟨#[110, 111, 114, 116, 104, 32, 115, 111, 117, 116, 104, 32, 101, 97, 115, 116, 32, 119, 101, 115, 116, 32, 110, 111, 114, 116, 104, 101, 97, 115, 116, 32, 110, 111, 114, 116, 104, 119, 101, 115, 116, 32, 115, 111, 117, 116, 104, 101, 97, 115, 116, 32, 115, 111, 117, 116, 104, 119, 101, 115, 116, 32, 117, 112, 32, 100, 111, 119, 110, 32, 105, 110, 32, 111, 117, 116]⟩ : ByteArray).data.toList).map (fun l => Value.string ⟨l.toArray⟩) = [.string ⟨#[110, 111, 114, 116, 104]⟩, .string ⟨#[115, 111, 117, 116, 104]⟩, .string ⟨#[101, 97, 115, 116]⟩, .string ⟨#[119, 101, 115, 116]⟩, .string ⟨#[110, 111, 114, 116, 104, 101, 97, 115, 116]⟩, .string ⟨#[110, 111, 114, 116, 104, 119, 101, 115, 116]⟩, .string ⟨#[115, 111, 117, 116, 104, 101, 97, 115, 116]⟩, .string ⟨#[115, 111, 117, 116, 104, 119, 101, 115, 116]⟩, .string ⟨#[117, 112]⟩, .string ⟨#[100, 111, 119, 110]⟩, .string ⟨#[105, 110]⟩, .string ⟨#[111, 117, 116]⟩] := by
 have h : Lib.fields (⟨#[110, 111, 114, 116, 104, 32, 115, 111, 117, 116, 104, 32, 101, 97, 115, 116, 32, 119, 101, 115, 116, 32, 110, 111, 114, 116, 104, 101, 97, 115, 116, 32, 110, 111, 114, 116, 104, 119, 101, 115, 116, 32, 115, 111, 117, 116, 104, 101, 97, 115, 116, 32, 115, 111, 117, 116, 104, 119, 101, 115, 116, 32, 117, 112, 32, 100, 111, 119, 110, 32, 105, 110, 32, 111, 117, 116]⟩ : ByteArray).data.toList = [[110, 111, 114, 116, 104], [115, 111, 117, 116, 104], [101, 97, 115, 116], [119, 101, 115, 116], [110, 111, 114, 116, 104, 101, 97, 115, 116], [110, 111, 114, 116, 104, 119, 101, 115, 116], [115, 111, 117, 116, 104, 101, 97, 115, 116], [115, 111, 117, 116, 104, 119, 101, 115, 116], [117, 112], [100, 111, 119, 110], [105, 110], [111, 117, 116]] := by decide +kernel
 rw [h]
 rfl
theorem dirs_fields_len : (Lib.fields (⟨#[110, 111, 114, 116, 104, 32, 115, 111, 117, 116, 104, 32, 101, 97, 115, 116, 32, 119, 101, 115, 116, 32, 110, 111, 114, 116, 104, 101, 97, 115, 116, 32, 110, 111, 114, 116, 104, 119, 101, 115, 116, 32, 115, 111, 117, 116, 104, 101, 97, 115, 116, 32, 115, 111, 117, 116, 104, 119, 101, 115, 116, 32, 117, 112, 32, 100, 111, 119, 110, 32, 105, 110, 32, 111, 117, 116]⟩ : ByteArray).data.toList).length = 12 := by
 have h := congrArg List.length dirs_fields
 simpa using h
theorem dir_calls (d : Int) (h1 : 1 ≤ d) (h2 : d ≤ 12) (w : World) (ha : TA w) : Calls Tryz.prog 112 #[.int .i64 d] w (Gives w (.string (dirB d))) := by
 obtain ⟨W1, hW1⟩ : ∃ W1, w.alloc (.cells #[.string ⟨#[110, 111, 114, 116, 104]⟩, .string ⟨#[115, 111, 117, 116, 104]⟩, .string ⟨#[101, 97, 115, 116]⟩, .string ⟨#[119, 101, 115, 116]⟩, .string ⟨#[110, 111, 114, 116, 104, 101, 97, 115, 116]⟩, .string ⟨#[110, 111, 114, 116, 104, 119, 101, 115, 116]⟩, .string ⟨#[115, 111, 117, 116, 104, 101, 97, 115, 116]⟩, .string ⟨#[115, 111, 117, 116, 104, 119, 101, 115, 116]⟩, .string ⟨#[117, 112]⟩, .string ⟨#[100, 111, 119, 110]⟩, .string ⟨#[105, 110]⟩, .string ⟨#[111, 117, 116]⟩] 9) = W1 := ⟨_, rfl⟩
 have hb1 := ba' hW1
 have hFs : Calls Tryz.prog 200 #[.string ⟨#[110, 111, 114, 116, 104, 32, 115, 111, 117, 116, 104, 32, 101, 97, 115, 116, 32, 119, 101, 115, 116, 32, 110, 111, 114, 116, 104, 101, 97, 115, 116, 32, 110, 111, 114, 116, 104, 119, 101, 115, 116, 32, 115, 111, 117, 116, 104, 101, 97, 115, 116, 32, 115, 111, 117, 116, 104, 119, 101, 115, 116, 32, 117, 112, 32, 100, 111, 119, 110, 32, 105, 110, 32, 111, 117, 116]⟩] w fun e w' => e = .returned (.slice (some ⟨w.heap.size, 0, none⟩) 12 12) ∧ w' = W1 := by
  refine (Tryz.strings_Fields ⟨#[110, 111, 114, 116, 104, 32, 115, 111, 117, 116, 104, 32, 101, 97, 115, 116, 32, 119, 101, 115, 116, 32, 110, 111, 114, 116, 104, 101, 97, 115, 116, 32, 110, 111, 114, 116, 104, 119, 101, 115, 116, 32, 115, 111, 117, 116, 104, 101, 97, 115, 116, 32, 115, 111, 117, 116, 104, 119, 101, 115, 116, 32, 117, 112, 32, 100, 111, 119, 110, 32, 105, 110, 32, 111, 117, 116]⟩ w (by decide) (fun j b hb => ?_) ha).mono ?_
  · have hall : ((⟨#[110, 111, 114, 116, 104, 32, 115, 111, 117, 116, 104, 32, 101, 97, 115, 116, 32, 119, 101, 115, 116, 32, 110, 111, 114, 116, 104, 101, 97, 115, 116, 32, 110, 111, 114, 116, 104, 119, 101, 115, 116, 32, 115, 111, 117, 116, 104, 101, 97, 115, 116, 32, 115, 111, 117, 116, 104, 119, 101, 115, 116, 32, 117, 112, 32, 100, 111, 119, 110, 32, 105, 110, 32, 111, 117, 116]⟩ : ByteArray).data.toList.all fun b => decide (b.toNat < 128)) = true := by decide +kernel
    exact of_decide_eq_true (List.all_eq_true.1 hall b (List.mem_of_getElem? hb))
  rintro e w' ⟨rfl, rfl⟩
  rw [dirs_fields_len]
  refine ⟨rfl, ?_⟩
  rw [← hW1, dirs_fields]
 have hcell : ∀ (W : World), Below W1.heap.size W1 W → ∀ k, k < 12 → W.cell? ⟨w.heap.size, k, none⟩ = some (.string (dirs.getD k ⟨#[]⟩)) := fun W hW k hk => by
  have hbx1 := bn' hW1
  have h := (hbx1.below hW hbx1.1).2 k (by simpa using hk)
  rw [h]
  match k, hk with
  | 0, _ | 1, _ | 2, _ | 3, _ | 4, _ | 5, _ | 6, _ | 7, _ | 8, _ | 9, _ | 10, _ | 11, _ => rfl
 have hlt : w.heap.size < W1.heap.size := by rw [← hW1]; simp
 have HFS := Lib.hid hFs; have HC := Lib.hid hcell; have HB1 := Lib.hid hb1
 have HD := Lib.hid (fun k hk W => lexDir_calls k hk W)
 clear hFs hcell hW1 ha hb1
 go_enter Tryz.func112, Tryz.ntmps112
 go_wp2_with (go_at_call 200; (refine HFS.out.mono ?_); rintro e w1 ⟨rfl, rfl⟩)
 go_loopw [7] (fun i wr => ∃ k : Nat, k < 12 ∧ (k : Int) < d ∧ i = .int .i64 k ∧ Hid (Below w1.heap.size w1 wr)) (fun i _ => 12 - (intOf i).toNat)
 case atStart => exact ⟨0, by omega, by omega, rfl, Below.refl _ _⟩
 case round =>
  obtain ⟨k, hk, hkd, rfl, hB⟩ := hrel
  have hc := HC.out wr hB.out k hk
  have hd := HD.out k hk wr
  have hlt2 : w.heap.size < wr.heap.size := Nat.lt_of_lt_of_le hlt hB.out.size
  have hki : (k : Int) < 12 := by omega
  have hfin : Hid (d = (k : Int) + 1 → dirs.getD k ⟨#[]⟩ = dirB d) := fun h => by
   subst h
   unfold dirB
   congr 1
   omega
  obtain ⟨x, hx⟩ : ∃ x, dirs.getD k ⟨#[]⟩ = x := ⟨_, rfl⟩
  rw [hx] at hc hd hfin
  have HDD := Lib.hid hd
  clear hd hx
  by_cases hdk : d = (k : Int) + 1
  · have hf2 := Lib.hid (hfin.out hdk)
    subst hdk
    clear hfin
    go_wp2_with (go_at_call 201; (with_reducible refine HDD.out.mono ?_); rintro e w2 ⟨rfl, hb2⟩)
    go_ret
    exact ⟨ret_str hf2.out, bt HB1.out (bt hB.out hb2)⟩
  have hne : ((k : Int) + 1 == d) = false := by simp; omega
  have hki2 : (k : Int) + 1 < d := by omega
  clear hfin hdk
  go_wp2_with (go_at_call 201; (with_reducible refine HDD.out.mono ?_); rintro e w2 ⟨rfl, hb2⟩)
  go_roundw
  case rel => exact ⟨k + 1, by omega, by omega, by go_num, bt hB.out hb2⟩
  case measure => simp [intOf]; omega
/-! A verb's lines. -/
theorem itself_sh (s : ByteArray) (w : World) : Calls Tryz.prog 41 #[.string s] w (Gives w (.string s)) := by
 go_enter Tryz.func41, Tryz.ntmps41
 go_wp2
 go_ret
 exact ⟨rfl, Below.refl _ _⟩
theorem rowQuoted (F : Nat → Prop) (w : World) (l : List ByteArray) (sep : ByteArray) (v : Value) (hF : Inn F w) (hr : RdStrs F w l v) (hl : l.length ≤ 1000) (ht : ∀ x ∈ l, IsText x) (hsep : sep.size ≤ 4) :
 Calls Tryz.prog 40 #[v, .string sep, .func (.func 38) #[] #[]] w (Gives w (.string (quotedB sep l))) :=
 rowString_calls F w 38 #[] l sep v quoteB hF hr hl (fun _ _ => by kernel_rfl) (fun x hx w' cs _ hR => by
  obtain ⟨-, rfl⟩ := hR
  exact quoteT_calls x w' (by have := (ht x hx).1; omega)) (by
  have := quotedB_sz sep hsep hl ht
  unfold quotedB at this
  omega)
theorem rowNames (F : Nat → Prop) (w : World) (l : List ByteArray) (sep : ByteArray) (v : Value) (hF : Inn F w) (hr : RdStrs F w l v) (hl : l.length ≤ 1000) (ht : ∀ x ∈ l, IsNm x) (hsep : sep.size ≤ 4) :
 Calls Tryz.prog 40 #[v, .string sep, .func (.func 41) #[] #[]] w (Gives w (.string (sepB sep l))) := by
 have h := rowString_calls F w 41 #[] l sep v (fun x => x) hF hr hl (fun _ _ => by kernel_rfl) (fun x hx w' cs _ hR => by
  obtain ⟨-, rfl⟩ := hR
  exact itself_sh x w') (by
  rw [List.map_id' l]
  have := names_sz sep hsep hl ht
  omega)
 rw [List.map_id' l] at h
 exact h
theorem slot_calls (F : Nat → Prop) (w : World) (s : SlotD) (cs : List Value) (hF : Inn F w) (hs : SlotR s) (hx : Holds.slot.R F w s cs) : Calls Tryz.prog 113 #[.agg cs.toArray] w (Gives w (.string (slotB s))) := by
 obtain ⟨k, words⟩ := s
 obtain ⟨h1, h5, hw, hm, htx⟩ := hs
 obtain ⟨-, v, rfl, kw⟩ := hx
 simp only at h1 h5 hw hm htx kw ⊢
 have hrow := fun (W : World) (hW : Below w.heap.size w W) => rowQuoted F W words ⟨#[32, 47, 32]⟩ v (hF.below hW) (kw.below hF hW (Nat.le_refl _)) (by omega) htx (by decide)
 have hsl : ∀ k' : Int, k' ≠ 2 → k' ≠ 3 → k' ≠ 4 → k' ≠ 5 → slotB ⟨k', words⟩ = quotedB ⟨#[32, 47, 32]⟩ words := fun k' a b c d => by
  unfold slotB
  rw [if_neg a, if_neg b, if_neg c, if_neg d]
 obtain ⟨a, cap, rfl⟩ := kw.shape
 obtain ⟨W1, hW1⟩ : ∃ W1, w.alloc (.cells #[.int .i64 k, .slice a words.length cap] 125) = W1 := ⟨_, rfl⟩
 have hb1 := ba' hW1
 have hbx1 := bn' hW1
 obtain ⟨y0, y1⟩ := p1' hbx1.2
 have HRW := Lib.hid (hrow W1 hb1); have HW1 := Lib.hid hW1; have HB1 := Lib.hid hb1
 have hk : k = 1 ∨ k = 2 ∨ k = 3 ∨ k = 4 ∨ k = 5 := by omega
 clear hrow hW1 hbx1 kw htx hm hw hF h1 h5 hb1
 rcases hk with rfl | rfl | rfl | rfl | rfl
 · rw [hsl 1 (by decide) (by decide) (by decide) (by decide)]
   clear hsl
   go_enter Tryz.func113, Tryz.ntmps113
   go_upto_region 1 with fail
   rw [HW1.out]
   go_wp2_with (go_at_call 40; (with_reducible refine HRW.out.mono ?_); rintro e w1 ⟨rfl, hb⟩)
   go_ret
   exact ⟨rfl, bt HB1.out hb⟩
 all_goals
  clear hsl
  go_enter Tryz.func113, Tryz.ntmps113
  go_upto_region 1 with fail
  rw [HW1.out]
  go_wp2_with fail
  go_ret
  exact ⟨rfl, HB1.out⟩
theorem line_sh (F : Nat → Prop) (w : World) (l : List SlotD) (q : Nat) (cs : List Value) (hF : Inn F w) (hs : LineR l) (hq : w.cell? ⟨q, 0, none⟩ = some (.func (.func 113) #[] #[])) (hx : (Holds.sl Holds.slot 2).R F w l cs) :
 Calls Tryz.prog 115 (#[oneA cs] ++ #[.pointer (some ⟨q, 0, none⟩)]) w (Gives w (.string (lineB l))) := by
 obtain ⟨v, rfl, hv⟩ := hx
 have hr := rowSlot_calls F w 113 #[] l ⟨#[32]⟩ v slotB hF hv (by have := hs.2.1; omega) (fun _ _ => by kernel_rfl) (fun x hx w' cs hW hR => slot_calls F w' x cs (hF.below hW) (hs.2.2 x hx) hR) (by have := lineB_sz hs; unfold lineB at this; omega)
 obtain ⟨a, cap, rfl⟩ := hv.shape
 have hqlt : q < w.heap.size := World.block_lt_of_cell? _ _ hq
 have HR := Lib.hid hr
 show Calls Tryz.prog 115 #[.slice a l.length cap, .pointer (some ⟨q, 0, none⟩)] w _
 unfold lineB
 clear hr hv hs hF
 go_enter Tryz.func115, Tryz.ntmps115
 go_wp2_with (go_at_call 116; (with_reducible refine HR.out.mono ?_); rintro e w1 ⟨rfl, hb⟩)
 go_ret
 exact ⟨rfl, hb⟩
theorem lines_sh (F : Nat → Prop) (w : World) (x : VerbD) (cs : List Value) (hF : Inn F w) (hs : VerbR x) (hx : Holds.verb.R F w x cs) : Calls Tryz.prog 44 #[.agg cs.toArray] w (Gives w (.string (linesV x))) := by
 obtain ⟨-, v, rfl, hv⟩ := hx
 obtain ⟨W1, hW1⟩ : ∃ W1, w.alloc (.cells #[.string x.name, .bool x.isMeta, v] 67) = W1 := ⟨_, rfl⟩
 obtain ⟨W2, hW2⟩ : ∃ W2, W1.alloc (.cells #[.func (.func 113) #[] #[]] 147) = W2 := ⟨_, rfl⟩
 have hb1 := ba' hW1
 have hb2 : Below w.heap.size w W2 := by rw [← hW2]; exact hb1.alloc hb1.size _
 have hs1 := bs' hW1
 have hbx1 : BoxAt W2 w.heap.size [.string x.name, .bool x.isMeta, v] := by
  have h := bn' hW1
  exact h.below (show Below W1.heap.size W1 W2 by rw [← hW2]; exact (Below.refl _ _).alloc (Nat.le_refl _) _) h.1
 have hbx2 : BoxAt W2 (w.heap.size + 1) [.func (.func 113) #[] #[]] := by rw [← hW2, ← hs1]; exact BoxAt.new _ _ _
 have hr := rowLine_calls F W2 115 #[.pointer (some ⟨w.heap.size + 1, 0, none⟩)] x.lines ⟨#[32, 124, 32]⟩ v lineB (hF.below hb2) (hv.below hF hb2 (Nat.le_refl _)) (by have := hs.2.2.1; omega) (fun _ _ => by kernel_rfl)
  (fun l hl w' cs hW hR => line_sh F w' l _ cs (hF.below (bt hb2 hW)) (hs.2.2.2 l hl) (by have h := (hbx2.below hW hbx2.1).2 0 (by simp); simpa using h) hR) (by have := linesV_sz hs; unfold linesV at this; omega)
 have hmf : ∀ (fn : Fn) (first cap : Array Value) (w : World), (Instr.makeFunc fn first cap).run Tryz.prog w = .ok (.func fn first cap) w := fun _ _ _ _ => rfl
 obtain ⟨a, cap, rfl⟩ := hv.shape
 have HR := Lib.hid hr; have HW1 := Lib.hid hW1; have HW2 := Lib.hid hW2; have HB2 := Lib.hid hb2
 unfold linesV
 have y2 := e2' hbx1.2
 clear hr hv hs hF hW1 hW2 hbx1 hbx2 hb1 hb2
 go_enter Tryz.func44, Tryz.ntmps44
 go_upto_region 2 with fail
 rw [HW1.out, HW2.out]
 go_wp2_with (go_at_call 114; (with_reducible refine HR.out.mono ?_); rintro e w1 ⟨rfl, hb⟩)
 go_ret
 exact ⟨rfl, bt HB2.out hb⟩
/-! An object's items. -/
theorem item_sh (w W : World) (b q : Nat) (bx : List (Nat × List Value × TypeId)) (A word what : ByteArray) (hA : StA w b bx A W) (hq : (q, [.pointer (some ⟨b, 0, none⟩)], 73) ∈ bx) (h1 : A.size ≤ 1000000000000) (h2 : word.size ≤ 100) (h3 : what.size ≤ 1000000000000) :
 Calls Tryz.prog 111 #[.string word, .string what, .pointer (some ⟨q, 0, none⟩)] W (fun e w' => e = .returned (.tuple #[]) ∧ StA w b bx (A ++ itemB word what) w') := by
 have g0 := hA.cell q _ _ hq 0
 simp only [cqz] at g0
 have hqlt : q < W.heap.size := World.block_lt_of_cell? _ _ g0
 by_cases hw : what = ⟨#[]⟩
 · have e1 : what.toList.isEmpty = true := emp_t hw
   have hfin : Hid (itemB word what = ⟨#[]⟩) := by show _ = _; unfold itemB emB; rw [if_pos hw]
   have HA := Lib.hid hA
   clear hw hA hq
   go_enter Tryz.func111, Tryz.ntmps111
   go_wp2_with fail
   go_end0
   exact ⟨rfl, by rw [hfin.out, app_emp]; exact HA.out⟩
 have e1 : what.toList.isEmpty = false := emp_f hw
 have hfin : Hid (itemB word what = ⟨#[9]⟩ ++ word ++ what ++ ⟨#[59, 10]⟩) := by show _ = _; unfold itemB emB; rw [if_neg hw]
 have HT := Lib.hid (hA.text (⟨#[9]⟩ ++ word ++ what ++ ⟨#[59, 10]⟩) (by
  have e1 : (⟨#[9]⟩ : ByteArray).size = 1 := rfl
  have e2 : (⟨#[59, 10]⟩ : ByteArray).size = 2 := rfl
  simp only [ByteArray.size_append]
  omega))
 clear hw hA hq
 go_enter Tryz.func111, Tryz.ntmps111
 go_wp2_with (go_at_call 37; (with_reducible refine HT.out.mono ?_); rintro e w4 ⟨rfl, hS⟩)
 go_end0
 exact ⟨rfl, by rw [hfin.out]; exact hS⟩
end Go.Proofs.YtdeecfkipknkbaaGreatDoor
