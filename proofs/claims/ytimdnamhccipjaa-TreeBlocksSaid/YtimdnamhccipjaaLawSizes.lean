/- The walk of clewlaw10.TreeSizes: it returns true. -/
import Derived.Test.YtimdnamhccipjaaAwake
import Derived.Test.YtimdnamhccipjaaFewBlock
namespace Go.Proofs.Ytimdnamhccipjaa
open Go.RowKit Go.Sort

mutual
theorem St.size_le_total : ∀ e : St, e.size ≤ e.total
  | .mk _ _ _ args body els => by
    have h1 := St.sizes_le_totals body
    have h2 := St.sizes_le_totals els
    simp only [St.size, St.total]
    omega
theorem St.sizes_le_totals : ∀ l : List St, St.sizes l ≤ St.totals l
  | [] => by simp [St.sizes, St.totals]
  | e :: l => by
    have h1 := St.size_le_total e
    have h2 := St.sizes_le_totals l
    simp only [St.sizes, St.totals]
    omega
end

theorem awake_below {w : World} (hm : MX w) (w' : World) (hb : Below w.heap.size w w') : Calls Try.prog 31 #[] w' (Gives w' (.bool true)) := awake_calls w' (hm.below hb (Nat.le_refl _))

set_option maxRecDepth 100000 in
set_option maxHeartbeats 1000000 in
theorem treeSizes_calls (e : Ex) (l : List St) (F : Nat → Prop) (w : World) (cs : List Value) (v : Value) (hF : Inn F w) (hm : MX w) (he : RdEx F w e cs) (hl : Sts F w l v) :
    Calls Try.prog 10 #[.agg cs.toArray, v] w (Gives w (.bool true)) := by
  obtain ⟨kd, o, n, s, a, m, cap, rfl⟩ := he.shape
  obtain ⟨a2, cap2, rfl⟩ := hl.shape
  have HA := Lib.hid (awake_below hm)
  have HF := Lib.hid (fun w' (hb : Below w.heap.size w w') => few_calls e F w' _ 2000 (hF.below hb) (by omega) (by omega) (he.below hF hb (Nat.le_refl _)))
  have HG := Lib.hid (fun w' (hb : Below w.heap.size w w') => fewB_calls l F w' _ 2000 (hF.below hb) (by omega) (by omega) (hl.below hF hb (Nat.le_refl _)))
  have q1 := (Ex.few_size e 2000 (by omega)).2
  have q2 := (St.fews_total l 2000 (by omega)).2
  have q3 := St.sizes_le_totals l
  have q4 := (Ex.few_size e 2000 (by omega)).1
  have q5 := (St.fews_total l 2000 (by omega)).1
  have HS : Hid (e.size ≤ 1000000 → ∀ w', Below w.heap.size w w' → Calls Try.prog 28 #[.agg #[.int .i64 kd, .int .i64 o, .int .i64 n, .string s, .slice a m cap]] w' (Gives w' (.int .i64 e.size))) := Lib.hid (fun hs w' hb => sizeT_calls e F w' _ (hF.below hb) hs (he.below hF hb (Nat.le_refl _)))
  have HSR : Hid (e.size ≤ 1000000 → ∀ w', Below w.heap.size w w' → Calls Try.prog 38 #[.agg #[.int .i64 kd, .int .i64 o, .int .i64 n, .string s, .slice a m cap]] w' (Gives w' (.int .i64 e.size))) := Lib.hid (fun hs w' hb => sizeR_calls e F w' _ (hF.below hb) hs (he.below hF hb (Nat.le_refl _)))
  have HD := Lib.hid (fun w' (hb : Below w.heap.size w w') => depthT_calls e F w' _ (hF.below hb) (he.below hF hb (Nat.le_refl _)))
  have HDR := Lib.hid (fun w' (hb : Below w.heap.size w w') => depthR_calls e F w' _ (hF.below hb) (he.below hF hb (Nat.le_refl _)))
  have HB : Hid (St.sizes l ≤ 1000000 → ∀ w', Below w.heap.size w w' → Calls Try.prog 29 #[.slice a2 l.length cap2] w' (Gives w' (.int .i64 (St.sizes l)))) := Lib.hid (fun hs w' hb => sizeBT_calls l F w' _ (hF.below hb) hs (hl.below hF hb (Nat.le_refl _)))
  have HBR : Hid (St.sizes l ≤ 1000000 → ∀ w', Below w.heap.size w w' → Calls Try.prog 41 #[.slice a2 l.length cap2] w' (Gives w' (.int .i64 (St.sizes l)))) := Lib.hid (fun hs w' hb => sizeBR_calls l F w' _ (hF.below hb) hs (hl.below hF hb (Nat.le_refl _)))
  have HE := Lib.hid (fun w' (hb : Below w.heap.size w w') => depthBT_calls l F w' _ (hF.below hb) (hl.below hF hb (Nat.le_refl _)))
  have HER := Lib.hid (fun w' (hb : Below w.heap.size w w') => depthBR_calls l F w' _ (hF.below hb) (hl.below hF hb (Nat.le_refl _)))
  clear he hl hF hm
  generalize Ex.few e 2000 = x at *
  generalize St.fews l 2000 = y at *
  generalize hes : e.size = es at *
  generalize min e.depth 65 = ed at *
  generalize hls : St.sizes l = ls at *
  generalize min (St.depths l) 65 = ld at *
  generalize St.totals l = lt at *
  generalize l.length = len at *
  by_cases hx : x < 0
  · have hxd : decide (x < 0) = true := by simp [hx]
    clear q1 q2 q3 q4 q5 HS HSR HD HDR HB HBR HE HER HG
    go_enter Try.func10, Try.ntmps10
    go_wp2_with (first | (go_at_call 30; (with_reducible refine (HF.out _ ((Below.refl _ _).alloc (Nat.le_refl _) _)).mono ?_); rintro e w' ⟨rfl, hb⟩; have hbo := below_on1 (Below.refl w.heap.size w) (Nat.le_refl _) hb) | (go_at_call 31; (with_reducible refine (HA.out _ hbo).mono ?_); rintro e w'' ⟨rfl, hb2⟩))
    go_ret
    exact ⟨rfl, below_on hbo (Nat.le_refl _) hb2⟩
  have hxd : decide (x < 0) = false := by simp [hx]
  by_cases hy : y < 0
  · have hyd : decide (y < 0) = true := by simp [hy]
    clear q1 q2 q3 q4 q5 HS HSR HD HDR HB HBR HE HER
    go_enter Try.func10, Try.ntmps10
    go_wp2_with (first | (go_at_call 30; (with_reducible refine (HF.out _ ((Below.refl _ _).alloc (Nat.le_refl _) _)).mono ?_); rintro e w' ⟨rfl, hb⟩; have hbo := below_on1 (Below.refl w.heap.size w) (Nat.le_refl _) hb) | (go_at_call 34; (with_reducible refine (HG.out _ hbo).mono ?_); rintro e w'' ⟨rfl, hb2⟩; have hbp := below_on hbo (Nat.le_refl _) hb2) | (go_at_call 31; (with_reducible refine (HA.out _ hbp).mono ?_); rintro e w3 ⟨rfl, hb3⟩))
    go_ret
    exact ⟨rfl, below_on hbp (Nat.le_refl _) hb3⟩
  have hyd : decide (y < 0) = false := by simp [hy]
  have es1 : es ≤ 1000000 := by have := q1 (by omega); omega
  have ls1 : ls ≤ 1000000 := by have := q2 (by omega); omega
  have HS := Lib.hid (HS.out es1)
  have HSR := Lib.hid (HSR.out es1)
  have HB := Lib.hid (HB.out ls1)
  have HBR := Lib.hid (HBR.out ls1)
  clear q1 q2 q3 q4 q5
  go_enter Try.func10, Try.ntmps10
  go_upto_region 3 with (first | (go_at_call 30; (with_reducible refine (HF.out _ ((Below.refl _ _).alloc (Nat.le_refl _) _)).mono ?_); rintro e w' ⟨rfl, hb⟩; have hbo := below_on1 (Below.refl w.heap.size w) (Nat.le_refl _) hb; obtain ⟨hcl, hfz⟩ := bcell hb; have hz1 := one_new hb) | (go_at_call 34; (with_reducible refine (HG.out _ hbo).mono ?_); rintro e w'' ⟨rfl, hb2⟩; have hbp := below_on hbo (Nat.le_refl _) hb2; obtain ⟨hcl2, hfz2⟩ := bcell hb2; have hz2 := Nat.lt_of_lt_of_le hz1 hb2.size))
  have hg0 : w''.cell? ⟨w.heap.size, 0, none⟩ = some (.int .i64 kd) := by go_simp
  have hg1 : w''.cell? ⟨w.heap.size, 1, none⟩ = some (.int .i64 o) := by go_simp
  have hg2 : w''.cell? ⟨w.heap.size, 2, none⟩ = some (.int .i64 n) := by go_simp
  have hg3 : w''.cell? ⟨w.heap.size, 3, none⟩ = some (.string s) := by go_simp
  have hg4 : w''.cell? ⟨w.heap.size, 4, none⟩ = some (.slice a m cap) := by go_simp
  have hq0 := fun d os => cell_regrown hg0 d os
  have hq1 := fun d os => cell_regrown hg1 d os
  have hq2 := fun d os => cell_regrown hg2 d os
  have hq3 := fun d os => cell_regrown hg3 d os
  have hq4 := fun d os => cell_regrown hg4 d os
  have K {f : FuncId} {args : Array Value} {u : Value} (h : ∀ w', Below w.heap.size w w' → Calls Try.prog f args w' (Gives w' u)) (p : Regrown) : Calls Try.prog f args (grow (redrawn w'' p.d) p.os) fun e w3 => e = .returned u ∧ ∃ p : Regrown, w3 = grow (redrawn w'' p.d) p.os := regrown_gives (fun w3 hb => h w3 (below_on hbp (Nat.le_refl _) hb)) p
  have GS := Lib.hid (K HS.out)
  have GSR := Lib.hid (K HSR.out)
  have GD := Lib.hid (K HD.out)
  have GDR := Lib.hid (K HDR.out)
  have GB := Lib.hid (K HB.out)
  have GBR := Lib.hid (K HBR.out)
  have GE := Lib.hid (K HE.out)
  have GER := Lib.hid (K HER.out)
  have GA := Lib.hid (K HA.out)
  clear hg0 hg1 hg2 hg3 hg4 hcl hcl2 hfz hfz2 hb hb2 hxd hyd hx hy hz1 hz2 HF HG HA HS HSR HD HDR HB HBR HE HER K
  refine wp_region_quiet_below (by kernel_rfl) (by kernel_rfl) ?_
  repeat (go_big_quiet_step (first | with_reducible exact GS.out _ | with_reducible exact GSR.out _ | with_reducible exact GD.out _ | with_reducible exact GDR.out _ | with_reducible exact GB.out _ | with_reducible exact GBR.out _ | with_reducible exact GE.out _ | with_reducible exact GER.out _ | with_reducible exact GA.out _))
  refine wpQuiet_nil ?_
  intro w3 hw3
  have hb3 := below_of_regrown hw3
  clear hw3 hq0 hq1 hq2 hq3 hq4
  go_wp2
  go_ret
  exact ⟨rfl, below_on hbp (Nat.le_refl _) hb3⟩

end Go.Proofs.Ytimdnamhccipjaa
