/- The walks of clewref10.there, clewref10.Bound: they tell some truth. -/
import Derived.Test.YtimdnamhccipjaaBoundR
namespace Go.Proofs.Ytimdnamhccipjaa
open Go.RowKit Go.Sort

set_option maxRecDepth 100000 in
set_option maxHeartbeats 4000000 in
theorem there_calls (F : Nat → Prop) (w : World) (ts : List Value) (k n x : Int) (s : ByteArray) (a : Option Addr) (m cap : Nat) (a2 : Option Addr) (m2 cap2 : Nat) (a3 : Option Addr) (m3 cap3 : Nat) (ht : Tab F w ts) :
    Calls Try.prog 118 #[.agg ts.toArray, .agg #[.int .i64 k, .int .i64 n, .string s, .slice a m cap, .slice a2 m2 cap2, .slice a3 m3 cap3], .int .i64 x] w (Tells w True) := by
  obtain ⟨i0, i1, i2, i3, i5, v4, v6, v7, v8, v9, v10, v11, v12, v13, v14, rfl, hsl, ⟨n11, f11, t11⟩, n13, f13, t13⟩ := ht.p
  obtain ⟨a4, n4, c4, rfl, -, -⟩ := hsl v4 (by simp)
  obtain ⟨a6, n6, c6, rfl, -, -⟩ := hsl v6 (by simp)
  obtain ⟨a7, n7, c7, rfl, -, -⟩ := hsl v7 (by simp)
  obtain ⟨a8, n8, c8, rfl, -, -⟩ := hsl v8 (by simp)
  obtain ⟨a9, n9, c9, rfl, -, -⟩ := hsl v9 (by simp)
  obtain ⟨a10, n10, c10, rfl, -, -⟩ := hsl v10 (by simp)
  obtain ⟨a12, n12, c12, rfl, -, -⟩ := hsl v12 (by simp)
  obtain ⟨a14, n14, c14, rfl, -, -⟩ := hsl v14 (by simp)
  obtain ⟨a11, c11, rfl, -⟩ := t11.opn
  obtain ⟨a13, c13, rfl, -⟩ := t13.opn
  clear hsl t11 t13 ht
  go_enter Try.func118, Try.ntmps118
  go_wp2_with (go_at_call 109; (with_reducible refine (among_calls _ _ _ _).mono ?_); rintro e w1 ⟨rfl, rfl⟩)
  all_goals
    go_ret
    exact ⟨_, rfl, fun _ => trivial, ((Below.refl _ _).alloc (Nat.le_refl _) _).alloc (by simp) _⟩

set_option maxRecDepth 100000 in
set_option maxHeartbeats 4000000 in
theorem boundRef_calls (e : Ex) (F : Nat → Prop) (w : World) (ts cs : List Value) (x : Int) (hF : Inn F w) (ht : Tab F w ts) (hr : RdEx F w e cs) : Calls Try.prog 37 #[.agg ts.toArray, .agg cs.toArray, .int .i64 x] w (Tells w e.bsh) := by
  obtain ⟨kd, op, nm, st, a, m, cap, rfl⟩ := hr.shape
  have HB := Lib.hid (fun w' (hb : Below w.heap.size w w') => boundR_calls e F w' ts _ x true (hF.below hb) (ht.below hF hb (Nat.le_refl _)) (hr.below hF hb (Nat.le_refl _)))
  have HD := Lib.hid (fun w' (hb : Below w.heap.size w w') => depthR_calls e F w' _ (hF.below hb) (hr.below hF hb (Nat.le_refl _)))
  obtain ⟨i0, i1, i2, i3, i5, v4, v6, v7, v8, v9, v10, v11, v12, v13, v14, rfl, hsl, ⟨n11, f11, t11⟩, n13, f13, t13⟩ := ht.p
  obtain ⟨a4, n4, c4, rfl, -, -⟩ := hsl v4 (by simp)
  obtain ⟨a6, n6, c6, rfl, -, -⟩ := hsl v6 (by simp)
  obtain ⟨a7, n7, c7, rfl, -, -⟩ := hsl v7 (by simp)
  obtain ⟨a8, n8, c8, rfl, -, -⟩ := hsl v8 (by simp)
  obtain ⟨a9, n9, c9, rfl, -, -⟩ := hsl v9 (by simp)
  obtain ⟨a10, n10, c10, rfl, -, -⟩ := hsl v10 (by simp)
  obtain ⟨a12, n12, c12, rfl, -, -⟩ := hsl v12 (by simp)
  obtain ⟨a14, n14, c14, rfl, -, -⟩ := hsl v14 (by simp)
  obtain ⟨a11, c11, rfl, -⟩ := t11.opn
  obtain ⟨a13, c13, rfl, -⟩ := t13.opn
  clear hsl t11 t13 ht hr
  generalize min e.depth 65 = d at *
  go_enter Try.func37, Try.ntmps37
  go_wp2_with (first | (go_at_call 40; (with_reducible refine (HD.out _ (((Below.refl _ _).alloc (Nat.le_refl _) _).alloc (by simp) _)).mono ?_); rintro e w1 ⟨rfl, hb⟩; obtain ⟨hcl, hfz⟩ := bcell hb; obtain ⟨hz1, hz2⟩ := two_new' hb; have hbo := below_on2 (Below.refl w.heap.size w) (Nat.le_refl _) hb) | (go_at_call 77; (with_reducible refine (HB.out _ hbo).mono ?_); rintro e w2 ⟨r, rfl, hr, hb2⟩))
  all_goals go_ret
  · exact ⟨_, rfl, hr, below_on hbo (Nat.le_refl _) hb2⟩
  · exact ⟨_, rfl, (fun h => by cases h), hbo⟩
end Go.Proofs.Ytimdnamhccipjaa
