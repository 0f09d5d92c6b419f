/- The walk of clewlaw10.TreeRight: it returns true. -/
import Derived.Test.YtimdnamhccipjaaLawSizes
import Derived.Test.YtimdnamhccipjaaRightR
namespace Go.Proofs.Ytimdnamhccipjaa
open Go.RowKit Go.Sort

theorem depth_mem : ∀ (l : List Ex) (x : Ex), x ∈ l → x.depth ≤ Ex.depths l
  | [], x, h => absurd h (by simp)
  | a :: l, x, h => by
    simp only [Ex.depths]
    rcases List.mem_cons.1 h with rfl | h1
    · omega
    · have := depth_mem l x h1
      omega

theorem right_sub {k o n : Int} {s : ByteArray} {args : List Ex} (h : RightE (.mk k o n s args)) (x : Ex) (hx : x ∈ args) : RightE x := by
  obtain ⟨h1, h2⟩ := h
  have := depth_mem args x hx
  simp only [Ex.depth] at h1
  simp only [Src] at h2
  exact ⟨by omega, ((srcs_iff args).1 h2.2.2.2.2.2 x hx).2⟩

set_option maxRecDepth 100000 in
set_option maxHeartbeats 1000000 in
theorem treeRight_calls (e : Ex) (F : Nat → Prop) (w : World) (cs : List Value) (hF : Inn F w) (hm : MX w) (he : RdEx F w e cs) :
    Calls Try.prog 7 #[.agg cs.toArray] w (Gives w (.bool true)) := by
  have HA := Lib.hid (awake_below hm)
  have HF := Lib.hid (fun w' (hb : Below w.heap.size w w') => few_calls e F w' _ 400 (hF.below hb) (by omega) (by omega) (he.below hF hb (Nat.le_refl _)))
  have HT := Lib.hid (fun w' (hb : Below w.heap.size w w') => rightT_calls e F w' _ (hF.below hb) (hm.below hb (Nat.le_refl _)) (he.below hF hb (Nat.le_refl _)))
  have HR := Lib.hid (fun w' (hb : Below w.heap.size w w') => rightRef_calls e F w' _ (hF.below hb) (he.below hF hb (Nat.le_refl _)))
  obtain ⟨k, o, n, s, args⟩ := e
  have hsub : dec (RightE (.mk k o n s args)) = true → ∀ x ∈ args, dec (RightE x) = true := fun h x hx => dec_true (right_sub (dec_iff.1 h) x hx)
  have hx0 := (Ex.few_size (.mk k o n s args) 400 (by omega)).1
  obtain ⟨h1, h2, h3, h4, v, c, rfl, hsl, hrow⟩ := he
  obtain ⟨a, cap, rfl, hl, hc, hcells⟩ := hsl
  unfold maxLen at hc
  generalize Ex.few (.mk k o n s args) 400 = x at *
  generalize dec (RightE (.mk k o n s args)) = t at *
  have hW : ∀ o, Below w.heap.size w (w.alloc o) := fun o => (Below.refl _ _).alloc (Nat.le_refl _) o
  by_cases hx : x < 0
  · have hxd : decide (x < 0) = true := by simp [hx]
    clear HT HR hrow hcells
    go_enter Try.func7, Try.ntmps7
    go_wp2_with (first | (go_at_call 30; (with_reducible refine (HF.out _ (hW _)).mono ?_); rintro e w' ⟨rfl, hb⟩; have hbo := below_on1 (Below.refl w.heap.size w) (Nat.le_refl _) hb) | (go_at_call 31; (with_reducible refine (HA.out _ hbo).mono ?_); rintro e w'' ⟨rfl, hb2⟩))
    go_ret
    exact ⟨rfl, below_on hbo (Nat.le_refl _) hb2⟩
  have hxd : decide (x < 0) = false := by simp [hx]
  clear hx hx0
  go_enter Try.func7, Try.ntmps7
  go_wp2_with (first | (go_at_call 30; (with_reducible refine (HF.out _ (hW _)).mono ?_); rintro e w1 ⟨rfl, hb1⟩; have hbo1 : Below w.heap.size w w1 := below_on (hW _) (Nat.le_refl _) hb1; obtain ⟨hcl1, hfz1⟩ := bcell hb1; have hz1 := one_new hb1) |
    (go_at_call 32; (with_reducible refine (HT.out _ hbo1).mono ?_); rintro e w2 ⟨rfl, hb2⟩; have hbo2 : Below w.heap.size w w2 := below_on hbo1 (Nat.le_refl _) hb2; obtain ⟨hcl2, hfz2⟩ := bcell hb2; have hz2 := Nat.lt_of_lt_of_le hz1 hb2.size) |
    (go_at_call 33; (with_reducible refine (HR.out _ hbo2).mono ?_); rintro e w3 ⟨rfl, hb3⟩; have hbo3 : Below w.heap.size w w3 := below_on hbo2 (Nat.le_refl _) hb3; obtain ⟨hcl3, hfz3⟩ := bcell hb3))
  go_loopw [19] (fun i wr => ∃ k : Nat, k ≤ args.length ∧ i = .int .i64 k ∧ Below w.heap.size w wr) (fun i _ => args.length - (intOf i).toNat)
  case atStart => exact ⟨0, Nat.zero_le _, rfl, hbo3⟩
  case round =>
    obtain ⟨k, hk, rfl, hB⟩ := hrel
    clear HF HT HR hcl1 hcl2 hcl3 hfz1 hfz2 hfz3 hb1 hb2 hb3 hbo1 hbo2 hbo3 hz1 hz2
    by_cases hlt : k < args.length
    · obtain ⟨b, off, rfl, hFb, hcell⟩ := hcells (by omega)
      obtain ⟨kd', o', n', s', a', m', cap', hx, g0, g1, g2, g3, g4⟩ := row_at hcell hrow (hB.block b (hF b hFb)) k hlt
      have hI := hF.below hB
      have hmr := hm.below hB (Nat.le_refl _)
      have HX := Lib.hid (fun ob => rightT_calls args[k] F _ _ (hI.alloc ob) (hmr.alloc ob) ((hx.below hF hB (Nat.le_refl _)).alloc hI ob))
      have hsk := fun h => hsub h _ (List.getElem_mem hlt)
      generalize dec (RightE args[k]) = y at *
      clear hcells hcell hrow hsub hx
      have ht : t = true ∨ t = false := by cases t <;> simp
      rcases ht with rfl | rfl
      · obtain rfl := hsk rfl
        go_wp2_with (go_at_call 32; refine (HX.out _).mono ?_; rintro e w' ⟨rfl, hb⟩)
        go_roundw
        case rel => exact ⟨k + 1, by omega, by go_num, below_on1 hB (Nat.le_refl _) hb⟩
        case measure => simp [intOf]; omega
      · go_wp2
        go_roundw
        case rel => exact ⟨k + 1, by omega, by go_num, hB.alloc hB.size _⟩
        case measure => simp [intOf]; omega
    · go_wp2_with (go_at_call 31; (with_reducible refine (HA.out _ hB).mono ?_); rintro e w'' ⟨rfl, hb2⟩)
      go_ret
      exact ⟨rfl, below_on hB (Nat.le_refl _) hb2⟩

end Go.Proofs.Ytimdnamhccipjaa
