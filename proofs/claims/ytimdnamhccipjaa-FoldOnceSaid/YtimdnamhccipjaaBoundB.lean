/- The walks of clewref10.boundBlock and clewref10.BoundBlock: what they tell of the shape of statements. -/
import Derived.Test.YtimdnamhccipjaaThere
import Derived.Test.YtimdnamhccipjaaStShapeR
import Derived.Test.YtimdnamhccipjaaFoldBD
import Derived.Test.YtimdnamhccipjaaBlockDeepT
import Derived.Deep.CutRange
namespace Go.Proofs.Ytimdnamhccipjaa
open Go.RowKit Go.Sort

mutual
def St.bsh : St → Prop
  | .mk _ _ _ args body els => Ex.bshs args ∧ (body.length ≤ 256 ∧ St.bshs body) ∧ (els.length ≤ 256 ∧ St.bshs els)
def St.bshs : List St → Prop
  | [] => True
  | s :: l => s.bsh ∧ St.bshs l
end
def St.bshB (l : List St) : Prop := l.length ≤ 256 ∧ St.bshs l

theorem St.bsh_of {s : St} (h1 : Ex.bshs s.args) (h2 : St.bshB s.body) (h3 : St.bshB s.els) : s.bsh := by
  obtain ⟨_, _, _, _, _, _⟩ := s; exact ⟨h1, h2, h3⟩
theorem St.bshs_snoc {l : List St} {x : St} (h : St.bshs l) (hx : x.bsh) : St.bshs (l ++ [x]) := by
  induction l with
  | nil => exact ⟨hx, trivial⟩
  | cons e l ih => exact ⟨h.1, ih h.2⟩

theorem nt {b : Bool} (h : (!b) = false) : b = true := by simpa using h
theorem nt2 {b : Bool} (h : ¬ (!b) = true) : b = true := by simpa using h

def BoundBC (l : List St) : Prop := ∀ (F : Nat → Prop) (w : World) (ts : List Value) (v : Value) (x : Int), Inn F w → Tab F w ts → Sts F w l v → Calls Try.prog 83 #[.agg ts.toArray, v, .int .i64 x] w (Tells w (St.bshB l))

set_option maxRecDepth 100000 in
set_option maxHeartbeats 4000000 in
theorem boundB_calls : ∀ l : List St, BoundBC l := by
  refine blocks_ind fun l ih => ?_
  intro F w ts v x hF ht hr
  obtain ⟨a, cap, rfl⟩ := hr.shape
  obtain ⟨_, hl, hc, ha⟩ := hr.opn
  have HT := Lib.hid ht
  obtain ⟨i0, i1, i2, i3, i5, v4, v6, v7, v8, v9, v10, v11, v12, v13, v14, rfl, hsl, ⟨n11, f11, t11⟩, n13, f13, t13⟩ := ht.p
  obtain ⟨a4, n4, c4, rfl, -, -⟩ := hsl v4 (by simp)
  obtain ⟨a6, n6, c6, rfl, -, -⟩ := hsl v6 (by simp)
  obtain ⟨a7, n7, c7, rfl, -, -⟩ := hsl v7 (by simp)
  obtain ⟨a8, n8, c8, rfl, -, -⟩ := hsl v8 (by simp)
  obtain ⟨a9, n9, c9, rfl, -, -⟩ := hsl v9 (by simp)
  obtain ⟨a10, n10, c10, rfl, -, -⟩ := hsl v10 (by simp)
  obtain ⟨a12, n12, c12, rfl, -, -⟩ := hsl v12 (by simp)
  obtain ⟨a14, n14, c14, rfl, -, -⟩ := hsl v14 (by simp)
  obtain ⟨a11, c11, rfl, -⟩ := t11.opn
  obtain ⟨a13, c13, rfl, -⟩ := t13.opn
  clear hsl t11 t13 ht hr
  have hB0 : Below w.heap.size w (w.alloc (.cells #[.int .i64 i0, .int .i64 i1, .int .i64 i2, .int .i64 i3, .slice a4 n4 c4, .int .i64 i5, .slice a6 n6 c6, .slice a7 n7 c7, .slice a8 n8 c8, .slice a9 n9 c9, .slice a10 n10 c10, .slice a11 n11 c11, .slice a12 n12 c12, .slice a13 n13 c13, .slice a14 n14 c14] 32)) := (Below.refl _ _).alloc (Nat.le_refl _) _
  have hsz : (w.alloc (.cells #[.int .i64 i0, .int .i64 i1, .int .i64 i2, .int .i64 i3, .slice a4 n4 c4, .int .i64 i5, .slice a6 n6 c6, .slice a7 n7 c7, .slice a8 n8 c8, .slice a9 n9 c9, .slice a10 n10 c10, .slice a11 n11 c11, .slice a12 n12 c12, .slice a13 n13 c13, .slice a14 n14 c14] 32)).heap.size = w.heap.size + 1 := by simp
  have hct : CA (w.alloc (.cells #[.int .i64 i0, .int .i64 i1, .int .i64 i2, .int .i64 i3, .slice a4 n4 c4, .int .i64 i5, .slice a6 n6 c6, .slice a7 n7 c7, .slice a8 n8 c8, .slice a9 n9 c9, .slice a10 n10 c10, .slice a11 n11 c11, .slice a12 n12 c12, .slice a13 n13 c13, .slice a14 n14 c14] 32)) [(⟨w.heap.size, 0, none⟩, .int .i64 i0), (⟨w.heap.size, 1, none⟩, .int .i64 i1), (⟨w.heap.size, 2, none⟩, .int .i64 i2), (⟨w.heap.size, 3, none⟩, .int .i64 i3), (⟨w.heap.size, 4, none⟩, .slice a4 n4 c4), (⟨w.heap.size, 5, none⟩, .int .i64 i5), (⟨w.heap.size, 6, none⟩, .slice a6 n6 c6), (⟨w.heap.size, 7, none⟩, .slice a7 n7 c7), (⟨w.heap.size, 8, none⟩, .slice a8 n8 c8), (⟨w.heap.size, 9, none⟩, .slice a9 n9 c9), (⟨w.heap.size, 10, none⟩, .slice a10 n10 c10), (⟨w.heap.size, 11, none⟩, .slice a11 n11 c11), (⟨w.heap.size, 12, none⟩, .slice a12 n12 c12), (⟨w.heap.size, 13, none⟩, .slice a13 n13 c13), (⟨w.heap.size, 14, none⟩, .slice a14 n14 c14)] := ⟨⟨by simp, by go_simp⟩, ⟨by simp, by go_simp⟩, ⟨by simp, by go_simp⟩, ⟨by simp, by go_simp⟩, ⟨by simp, by go_simp⟩, ⟨by simp, by go_simp⟩, ⟨by simp, by go_simp⟩, ⟨by simp, by go_simp⟩, ⟨by simp, by go_simp⟩, ⟨by simp, by go_simp⟩, ⟨by simp, by go_simp⟩, ⟨by simp, by go_simp⟩, ⟨by simp, by go_simp⟩, ⟨by simp, by go_simp⟩, ⟨by simp, by go_simp⟩, trivial⟩
  have HG := Lib.hid (⟨hB0, hsz, hct⟩ : Below w.heap.size w (w.alloc (.cells #[.int .i64 i0, .int .i64 i1, .int .i64 i2, .int .i64 i3, .slice a4 n4 c4, .int .i64 i5, .slice a6 n6 c6, .slice a7 n7 c7, .slice a8 n8 c8, .slice a9 n9 c9, .slice a10 n10 c10, .slice a11 n11 c11, .slice a12 n12 c12, .slice a13 n13 c13, .slice a14 n14 c14] 32)) ∧ (w.alloc (.cells #[.int .i64 i0, .int .i64 i1, .int .i64 i2, .int .i64 i3, .slice a4 n4 c4, .int .i64 i5, .slice a6 n6 c6, .slice a7 n7 c7, .slice a8 n8 c8, .slice a9 n9 c9, .slice a10 n10 c10, .slice a11 n11 c11, .slice a12 n12 c12, .slice a13 n13 c13, .slice a14 n14 c14] 32)).heap.size = w.heap.size + 1 ∧ CA (w.alloc (.cells #[.int .i64 i0, .int .i64 i1, .int .i64 i2, .int .i64 i3, .slice a4 n4 c4, .int .i64 i5, .slice a6 n6 c6, .slice a7 n7 c7, .slice a8 n8 c8, .slice a9 n9 c9, .slice a10 n10 c10, .slice a11 n11 c11, .slice a12 n12 c12, .slice a13 n13 c13, .slice a14 n14 c14] 32)) [(⟨w.heap.size, 0, none⟩, .int .i64 i0), (⟨w.heap.size, 1, none⟩, .int .i64 i1), (⟨w.heap.size, 2, none⟩, .int .i64 i2), (⟨w.heap.size, 3, none⟩, .int .i64 i3), (⟨w.heap.size, 4, none⟩, .slice a4 n4 c4), (⟨w.heap.size, 5, none⟩, .int .i64 i5), (⟨w.heap.size, 6, none⟩, .slice a6 n6 c6), (⟨w.heap.size, 7, none⟩, .slice a7 n7 c7), (⟨w.heap.size, 8, none⟩, .slice a8 n8 c8), (⟨w.heap.size, 9, none⟩, .slice a9 n9 c9), (⟨w.heap.size, 10, none⟩, .slice a10 n10 c10), (⟨w.heap.size, 11, none⟩, .slice a11 n11 c11), (⟨w.heap.size, 12, none⟩, .slice a12 n12 c12), (⟨w.heap.size, 13, none⟩, .slice a13 n13 c13), (⟨w.heap.size, 14, none⟩, .slice a14 n14 c14)])
  clear hB0 hsz hct
  go_enter Try.func83, Try.ntmps83
  go_upto_region 1 with fail
  generalize w.alloc (.cells #[.int .i64 i0, .int .i64 i1, .int .i64 i2, .int .i64 i3, .slice a4 n4 c4, .int .i64 i5, .slice a6 n6 c6, .slice a7 n7 c7, .slice a8 n8 c8, .slice a9 n9 c9, .slice a10 n10 c10, .slice a11 n11 c11, .slice a12 n12 c12, .slice a13 n13 c13, .slice a14 n14 c14] 32) = W at *
  go_wp2
  go_loopw [15] (fun i wr => ∃ (k : Nat), k ≤ l.length ∧ i = .int .i64 k ∧ Hid (St.bshs (l.take k)) ∧ Below W.heap.size W wr) (fun i _ => l.length - (intOf i).toNat)
  case atStart => exact ⟨0, Nat.zero_le _, rfl, trivial, Below.refl _ _⟩
  case round =>
    obtain ⟨k, hk, rfl, hq, hB⟩ := hrel
    obtain ⟨wo, rfl⟩ : ∃ wo : World, wo = wr := ⟨_, rfl⟩
    have hBw : Below w.heap.size w wo := HG.out.1.trans (hB.mono (by have := HG.out.2.1; omega))
    by_cases hlt : k < l.length
    rotate_left
    · have : k = l.length := by omega
      subst this
      have hfin := hq.out
      rw [List.take_length] at hfin
      have HF := Lib.hid hfin
      clear hq ih ha hfin
      go_wp2
      go_ret
      exact ⟨_, rfl, fun h => ⟨by have := of_decide_eq_true h; omega, HF.out⟩, hBw⟩
    obtain ⟨b, off, rfl, hFb, hel⟩ := ha (by omega)
    obtain ⟨kd, n, s, x1, m1, cp1, x2, m2, cp2, x3, m3, cp3, hx, g0, g1, g2, g3, g4, g5⟩ := hel wo (hBw.block b (hF b hFb)) k hlt
    have hI := hF.below hBw
    have hxr := hx.below hF hBw (Nat.le_refl _)
    obtain ⟨ek, en, es, _, _, hsz, hxa, hxb, hxe⟩ := hxr.parts
    obtain ⟨rfl, hal, hac, haa⟩ := hxa.opn
    have hte : l.take (k + 1) = l.take k ++ [l[k]] := List.take_succ_eq_append_getElem hlt
    have HCb := Lib.hid (fun w' (hb : Below wo.heap.size wo w') => (ih _ (List.getElem_mem hlt)).1 F w' _ _ x (hI.below hb) (HT.out.below hF (hBw.trans (hb.mono hBw.size)) (Nat.le_refl _)) (hxb.below hI hb (Nat.le_refl _)))
    have HCe := Lib.hid (fun w' (hb : Below wo.heap.size wo w') => (ih _ (List.getElem_mem hlt)).2 F w' _ _ x (hI.below hb) (HT.out.below hF (hBw.trans (hb.mono hBw.size)) (Nat.le_refl _)) (hxe.below hI hb (Nat.le_refl _)))
    have HSh := Lib.hid (fun w' => shape_calls kd n s x1 (l[k]).args.length cp1 x2 m2 cp2 x3 m3 cp3 w')
    have HTh := Lib.hid (fun w' (hb : Below wo.heap.size wo w') => there_calls F w' _ kd n x s x1 (l[k]).args.length cp1 x2 m2 cp2 x3 m3 cp3 (HT.out.below hF (hBw.trans (hb.mono hBw.size)) (Nat.le_refl _)))
    have hnext : Hid (Ex.bshs (l[k]).args → St.bshB (l[k]).body → St.bshB (l[k]).els → St.bshs (l.take (k + 1))) := fun h1 h2 h3 => by rw [hte]; exact St.bshs_snoc hq.out (St.bsh_of h1 h2 h3)
    clear ih ha hel hx hxr hxb hxe hte hq ek en es hsz hxa
    generalize (l[k]).args = args at *
    generalize St.bshB (l[k]).body = BB at *
    generalize St.bshB (l[k]).els = BE at *
    have hlen : Hid (kd = 19 → dec (shapeP kd n s args.length m2 m3) = true → 0 < args.length) := fun h hs => by
      subst h
      have := (dec_iff.1 hs).2.1.1
      simp [partsOf] at this
      omega
    have hzw : w.heap.size < wo.heap.size := by have := hB.size; have := HG.out.2.1; omega
    generalize dec (shapeP kd n s args.length m2 m3) = sp at *
    have hBW : Below wo.heap.size wo (wo.alloc (.cells #[.int .i64 kd, .int .i64 n, .string s, .slice x1 args.length cp1, .slice x2 m2 cp2, .slice x3 m3 cp3] 62)) := (Below.refl _ _).alloc (Nat.le_refl _) _
    have hct1 : Hid (CA (wo.alloc (.cells #[.int .i64 kd, .int .i64 n, .string s, .slice x1 args.length cp1, .slice x2 m2 cp2, .slice x3 m3 cp3] 62)) [(⟨w.heap.size, 0, none⟩, .int .i64 i0), (⟨w.heap.size, 1, none⟩, .int .i64 i1), (⟨w.heap.size, 2, none⟩, .int .i64 i2), (⟨w.heap.size, 3, none⟩, .int .i64 i3), (⟨w.heap.size, 4, none⟩, .slice a4 n4 c4), (⟨w.heap.size, 5, none⟩, .int .i64 i5), (⟨w.heap.size, 6, none⟩, .slice a6 n6 c6), (⟨w.heap.size, 7, none⟩, .slice a7 n7 c7), (⟨w.heap.size, 8, none⟩, .slice a8 n8 c8), (⟨w.heap.size, 9, none⟩, .slice a9 n9 c9), (⟨w.heap.size, 10, none⟩, .slice a10 n10 c10), (⟨w.heap.size, 11, none⟩, .slice a11 n11 c11), (⟨w.heap.size, 12, none⟩, .slice a12 n12 c12), (⟨w.heap.size, 13, none⟩, .slice a13 n13 c13), (⟨w.heap.size, 14, none⟩, .slice a14 n14 c14)]) := HG.out.2.2.below (hB.alloc hB.size _)
    have hcs : Hid (CA (wo.alloc (.cells #[.int .i64 kd, .int .i64 n, .string s, .slice x1 args.length cp1, .slice x2 m2 cp2, .slice x3 m3 cp3] 62)) [(⟨wo.heap.size, 0, none⟩, .int .i64 kd), (⟨wo.heap.size, 1, none⟩, .int .i64 n), (⟨wo.heap.size, 2, none⟩, .string s), (⟨wo.heap.size, 3, none⟩, .slice x1 args.length cp1), (⟨wo.heap.size, 4, none⟩, .slice x2 m2 cp2), (⟨wo.heap.size, 5, none⟩, .slice x3 m3 cp3)]) := ⟨⟨by simp, by go_simp⟩, ⟨by simp, by go_simp⟩, ⟨by simp, by go_simp⟩, ⟨by simp, by go_simp⟩, ⟨by simp, by go_simp⟩, ⟨by simp, by go_simp⟩, trivial⟩
    go_upto_region 4 with fail
    generalize (wo.alloc (.cells #[.int .i64 kd, .int .i64 n, .string s, .slice x1 args.length cp1, .slice x2 m2 cp2, .slice x3 m3 cp3] 62)) = W1 at *
    have hbo := Below.refl W1.heap.size W1
    obtain ⟨⟨-, t0⟩, ⟨-, t1⟩, ⟨-, t2⟩, ⟨-, t3⟩, ⟨-, t4⟩, ⟨-, t5⟩, ⟨-, t6⟩, ⟨-, t7⟩, ⟨-, t8⟩, ⟨-, t9⟩, ⟨-, t10⟩, ⟨-, t11⟩, ⟨-, t12⟩, ⟨-, t13⟩, ⟨-, t14⟩, -⟩ := hct1.out
    obtain ⟨⟨-, s0⟩, ⟨-, s1⟩, ⟨-, s2⟩, ⟨-, s3⟩, ⟨-, s4⟩, ⟨-, s5⟩, -⟩ := hcs.out
    have hBw2 : Hid (∀ wi, Below W1.heap.size W1 wi → ∀ c, F c → wi.heap[c]? = wo.heap[c]?) := fun wi hb c hc => by
      rw [(hBW.trans (hb.mono hBW.size)).block c (hI c hc)]
    cases sp
    · clear HCb HCe HTh haa
      go_wp2_with (go_at_call 114; (with_reducible refine (HSh.out _).mono ?_); rintro e w1 ⟨rfl, hb⟩; have hbo := below_on hbo (Nat.le_refl _) hb)
      go_ret
      exact ⟨_, rfl, (fun h => by cases h), hBw.trans ((hBW.trans (hbo.mono hBW.size)).mono hBw.size)⟩
    go_upto_region 5 with (first | (go_at_call 114; (with_reducible refine (HSh.out _).mono ?_); rintro e w1 ⟨rfl, hb⟩; have hbo := below_on hbo (Nat.le_refl _) hb; obtain ⟨⟨-, t0⟩, ⟨-, t1⟩, ⟨-, t2⟩, ⟨-, t3⟩, ⟨-, t4⟩, ⟨-, t5⟩, ⟨-, t6⟩, ⟨-, t7⟩, ⟨-, t8⟩, ⟨-, t9⟩, ⟨-, t10⟩, ⟨-, t11⟩, ⟨-, t12⟩, ⟨-, t13⟩, ⟨-, t14⟩, -⟩ := hct1.out.below hbo; obtain ⟨⟨-, s0⟩, ⟨-, s1⟩, ⟨-, s2⟩, ⟨-, s3⟩, ⟨-, s4⟩, ⟨-, s5⟩, -⟩ := hcs.out.below hbo))
    have HB1 := Lib.hid hbo
    go_cut [15, 45] from 15 to 76 (fun i p wc => i = .int .i64 k ∧ ∃ pb : Bool, p = .bool pb ∧ Below W1.heap.size W1 wc)
    case first =>
      by_cases hk19 : kd = 19
      · have hpos := hlen.out hk19 (by first | rfl | trivial)
        subst hk19
        obtain ⟨c, co, rfl, hFc, hel⟩ := haa hpos
        obtain ⟨kx, ox, nx, sx, ax, mx, cx, -, g0, -, -, -, -⟩ := hel w1 (hBw2.out w1 hbo c hFc) 0 hpos
        have hlc : c < W1.heap.size := by have := hI c hFc; have := hBW.size; omega
        have e0 : w1.cell? ⟨c, co, none⟩ = some (.int .i64 kx) := by simpa using g0
        have hce : Hid (∀ w', Below w1.heap.size w1 w' → w'.cell? ⟨c, co, none⟩ = some (.int .i64 kx)) := fun w' hb => by rw [hb.cell (p := ⟨c, co, none⟩) (by show c < _; have := hbo.size; omega)]; exact e0
        have hix : (0 : Int) < (args.length : Int) := by omega
        clear g0 haa hel
        go_wp2_with (go_at_call 118; (with_reducible refine (HTh.out _ (hBW.trans (hbo.mono hBW.size))).mono ?_); rintro e w2 ⟨rt, rfl, -, hb⟩; have hbo := below_on hbo (Nat.le_refl _) hb; obtain ⟨⟨-, t0⟩, ⟨-, t1⟩, ⟨-, t2⟩, ⟨-, t3⟩, ⟨-, t4⟩, ⟨-, t5⟩, ⟨-, t6⟩, ⟨-, t7⟩, ⟨-, t8⟩, ⟨-, t9⟩, ⟨-, t10⟩, ⟨-, t11⟩, ⟨-, t12⟩, ⟨-, t13⟩, ⟨-, t14⟩, -⟩ := hct1.out.below hbo; obtain ⟨⟨-, s0⟩, ⟨-, s1⟩, ⟨-, s2⟩, ⟨-, s3⟩, ⟨-, s4⟩, ⟨-, s5⟩, -⟩ := hcs.out.below hbo; have e0 := hce.out _ hb)
        all_goals
          go_meet
          case rel => exact ⟨rfl, _, rfl, hbo⟩
      · have hk19' : (kd == 19) = false := by simpa using hk19
        clear haa
        go_wp2_with (go_at_call 118; (with_reducible refine (HTh.out _ (hBW.trans (hbo.mono hBW.size))).mono ?_); rintro e w2 ⟨rt, rfl, -, hb⟩; have hbo := below_on hbo (Nat.le_refl _) hb; obtain ⟨⟨-, t0⟩, ⟨-, t1⟩, ⟨-, t2⟩, ⟨-, t3⟩, ⟨-, t4⟩, ⟨-, t5⟩, ⟨-, t6⟩, ⟨-, t7⟩, ⟨-, t8⟩, ⟨-, t9⟩, ⟨-, t10⟩, ⟨-, t11⟩, ⟨-, t12⟩, ⟨-, t13⟩, ⟨-, t14⟩, -⟩ := hct1.out.below hbo; obtain ⟨⟨-, s0⟩, ⟨-, s1⟩, ⟨-, s2⟩, ⟨-, s3⟩, ⟨-, s4⟩, ⟨-, s5⟩, -⟩ := hcs.out.below hbo)
        all_goals
          go_meet
          case rel => exact ⟨rfl, _, rfl, hbo⟩
    obtain ⟨rfl, pb, rfl, hbo⟩ := hcut
    obtain ⟨⟨-, t0⟩, ⟨-, t1⟩, ⟨-, t2⟩, ⟨-, t3⟩, ⟨-, t4⟩, ⟨-, t5⟩, ⟨-, t6⟩, ⟨-, t7⟩, ⟨-, t8⟩, ⟨-, t9⟩, ⟨-, t10⟩, ⟨-, t11⟩, ⟨-, t12⟩, ⟨-, t13⟩, ⟨-, t14⟩, -⟩ := hct1.out.below hbo
    obtain ⟨⟨-, s0⟩, ⟨-, s1⟩, ⟨-, s2⟩, ⟨-, s3⟩, ⟨-, s4⟩, ⟨-, s5⟩, -⟩ := hcs.out.below hbo
    clear HTh HSh HB1
    cases pb
    rotate_left
    · go_wp2_with fail
      go_ret
      exact ⟨_, rfl, (fun h => by cases h), hBw.trans ((hBW.trans (hbo.mono hBW.size)).mono hBw.size)⟩
    have haa0 := haa
    go_wp2_with fail
    have HbI := Lib.hid hbo
    go_loopw [49] (fun i wi => ∃ (j : Nat), j ≤ args.length ∧ i = .int .i64 j ∧ Hid (Ex.bshs (args.take j)) ∧ Below W1.heap.size W1 wi) (fun i _ => args.length - (intOf i).toNat)
    case atStart => exact ⟨0, Nat.zero_le _, rfl, trivial, HbI.out⟩
    case round =>
      obtain ⟨j, hj, rfl, hqj, hbo⟩ := hrel
      have hBR : Below w.heap.size w wr := hBw.trans ((hBW.trans (hbo.mono hBW.size)).mono hBw.size)
      obtain ⟨⟨-, t0⟩, ⟨-, t1⟩, ⟨-, t2⟩, ⟨-, t3⟩, ⟨-, t4⟩, ⟨-, t5⟩, ⟨-, t6⟩, ⟨-, t7⟩, ⟨-, t8⟩, ⟨-, t9⟩, ⟨-, t10⟩, ⟨-, t11⟩, ⟨-, t12⟩, ⟨-, t13⟩, ⟨-, t14⟩, -⟩ := hct1.out.below hbo
      obtain ⟨⟨hz0, s0⟩, ⟨-, s1⟩, ⟨-, s2⟩, ⟨-, s3⟩, ⟨-, s4⟩, ⟨-, s5⟩, -⟩ := hcs.out.below hbo
      have hzs : wo.heap.size < wr.heap.size := hz0
      have hzw3 : w.heap.size < wr.heap.size := Nat.lt_trans hzw hzs
      by_cases hltj : j < args.length
      · obtain ⟨c, co, rfl, hFc, hel⟩ := haa (by omega)
        obtain ⟨kd', o', n', s', a', m', cap', hx, g0, g1, g2, g3, g4⟩ := hel wr (hBw2.out wr hbo c (hFc)) j hltj
        have htj : Hid ((args[j]).bsh → Ex.bshs (args.take (j + 1))) := fun h => by rw [List.take_succ_eq_append_getElem hltj]; exact bshs_snoc hqj.out h
        have HBd := Lib.hid (fun (said : Bool) (w0 : World) (w' : World) (hb : Below wr.heap.size wr w') => boundR_calls args[j] F w' _ _ x said (hF.below (hBR.trans (hb.mono hBR.size))) (HT.out.below hF (hBR.trans (hb.mono hBR.size)) (Nat.le_refl _)) (hx.keep (fun b hb' => by rw [hBw.block b (hF b hb')]; exact (hBR.trans (hb.mono hBR.size)).block b (hF b hb')) (fun _ h => h)))
        clear hel hx
        go_wp2_with (go_at_call 77; (with_reducible refine (HBd.out _ wr _ ((Below.refl _ _).alloc (Nat.le_refl _) _)).mono ?_); rintro e w2 ⟨r, rfl, hr, hb⟩)
        all_goals first
          | (go_ret; exact ⟨_, rfl, (fun h => by cases h), hBR.trans ((below_on1 (Below.refl wr.heap.size wr) (Nat.le_refl _) hb).mono hBR.size)⟩)
          | (go_roundw
             case rel => exact ⟨j + 1, by omega, by go_num, htj.out (hr (by first | rfl | assumption | exact nt (by assumption) | exact nt2 (by assumption))), below_on1 hbo (Nat.le_refl _) hb⟩
             case measure => simp [intOf]; omega)
      · have : j = args.length := by omega
        subst this
        have hqa : Hid (Ex.bshs args) := by have := hqj.out; rwa [List.take_length] at this
        have hWr : Below wo.heap.size wo wr := hBW.trans (hbo.mono hBW.size)
        clear hqj
        clear haa0 haa
        go_wp2_with (first | (go_at_call 83; (with_reducible refine (HCb.out _ hWr).mono ?_); rintro e w2 ⟨rb, rfl, hrb, hb⟩; have hWr2 := below_on hWr (Nat.le_refl _) hb; obtain ⟨⟨-, t0⟩, ⟨-, t1⟩, ⟨-, t2⟩, ⟨-, t3⟩, ⟨-, t4⟩, ⟨-, t5⟩, ⟨-, t6⟩, ⟨-, t7⟩, ⟨-, t8⟩, ⟨-, t9⟩, ⟨-, t10⟩, ⟨-, t11⟩, ⟨-, t12⟩, ⟨-, t13⟩, ⟨-, t14⟩, -⟩ := hct1.out.below (below_on hbo (Nat.le_refl _) hb); obtain ⟨⟨-, s0⟩, ⟨-, s1⟩, ⟨-, s2⟩, ⟨-, s3⟩, ⟨-, s4⟩, ⟨-, s5⟩, -⟩ := hcs.out.below (below_on hbo (Nat.le_refl _) hb)) | (go_at_call 83; (with_reducible refine (HCe.out _ hWr2).mono ?_); rintro e w3 ⟨re, rfl, hre, hb3⟩; have hWr3 := below_on hWr2 (Nat.le_refl _) hb3))
        all_goals first
          | (go_roundw
             case rel => exact ⟨k + 1, by omega, by go_num, hnext.out hqa.out (hrb (by first | rfl | assumption | exact nt (by assumption) | exact nt2 (by assumption))) (hre (by first | rfl | assumption | exact nt (by assumption) | exact nt2 (by assumption))), (hB.trans (hWr3.mono hB.size))⟩
             case measure => simp [intOf]; omega)
          | (go_ret; exact ⟨_, rfl, (fun h => by cases h), hBw.trans (hWr3.mono hBw.size)⟩)
          | (go_ret; exact ⟨_, rfl, (fun h => by cases h), hBw.trans (hWr2.mono hBw.size)⟩)
end Go.Proofs.Ytimdnamhccipjaa
