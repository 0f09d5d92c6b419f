/- The walk of clewlaw16.KindsExprs: it returns true. Printed by gen-lawexprs.py. -/
import Derived.Test.YtblhpiebheommaaKindsExprsPart12
import Derived.Test.YtblhpiebheommaaKindsExprsPart21
import Derived.Test.YtblhpiebheommaaKindsExprsPart24
import Derived.Test.YtblhpiebheommaaRightR
namespace Go.Proofs.Ytblhpiebheommaa
open Go.RowKit Go.Sort

set_option maxRecDepth 100000 in
set_option maxHeartbeats 8000000 in
theorem kindsExprs_calls (s : SrcD) (l : List ByteArray) (e : Ex) (F : Nat → Prop) (w : World) (lv : Value) (ss es : List Value) (hF : Inn F w) (h1 : Holds.src.R F w s ss) (h2 : RdStrs F w l lv) (h3 : RdEx F w e es)
    (hsz : s.flags.length + s.props.length + s.globals.length + s.objects.length + s.verbs.length + s.funcs.length + s.daemons.length ≤ 100000000) :
    Calls Try.prog 3 #[.agg ss.toArray, lv, .agg es.toArray] w (Gives w (.bool true)) := by
  have HMK := Lib.hid (fun (W : World) (hW : Below w.heap.size w W) => makeR_calls s F W ss (hF.below hW) (Holds.below _ h1 hF hW (Nat.le_refl _)) hsz)
  have HFW := Lib.hid (fun (W : World) (hW : Below w.heap.size w W) => few_calls e F W es 200 (hF.below hW) (by omega) (by omega) (h3.below hF hW (Nat.le_refl _)))
  have HRT := Lib.hid (fun (W : World) (hW : Below w.heap.size w W) => rightRef_calls e F W es (hF.below hW) (h3.below hF hW (Nat.le_refl _)))
  have HAW := Lib.hid (fun (W : World) (_ : Below w.heap.size w W) => awake16_calls W)
  have hfew := (Ex.few_size e 200 (by omega)).1
  have HKE : Hid (∀ (W : World) (hW : Below w.heap.size w W) (t : List NameD) (tv : Value) (G : Nat → Prop), Inn G W → (∀ b, F b → G b) → mkT s.ents namesStart = some t → RdNames G W t tv → Calls Try.prog 11 #[tv, .agg ss.toArray, lv, .agg es.toArray] W (GivesWrong W (e.kW t s.funcs l)) ∧ Calls Try.prog 12 #[tv, .agg ss.toArray, lv, .agg es.toArray] W (Gives W (.tuple #[.int .i64 (e.kW t s.funcs l).1, .string (e.kW t s.funcs l).2]))) := fun W hW t tv G hG hFG hmk hr => by
    have hlen : t.length ≤ 1000000000000 := by
      rw [(mkT_ok _ _ _ hmk start_rises).2.1]
      unfold SrcD.ents
      simp only [List.length_append, ents_len]
      show 4 + _ ≤ _
      omega
    obtain ⟨q1, q2, q3⟩ := made_tab hmk
    have k1 := Holds.src.keep (fun b hb => rfl) hFG (Holds.below _ h1 hF hW (Nat.le_refl _))
    have k2 := RdL.keep (fun b hb => rfl) hFG (RdL.below h2 hF hW (Nat.le_refl _))
    have k3 := RdEx.keep (fun b hb => rfl) hFG (h3.below hF hW (Nat.le_refl _))
    exact ⟨kExpr_calls t s l e G W tv lv ss es hG q3 hlen q1 hr k1 k2 k3, rExpr_calls t s l e G W tv lv ss es hG q1 hr k1 k2 k3⟩
  obtain ⟨a2, c2, rfl⟩ := h2.shape
  obtain ⟨kd, op, nm, st, ax, mx, cx, rfl⟩ := h3.shape
  obtain ⟨a5, c5, a6, c6, a7, c7, a8, c8, a9, c9, a10, c10, a11, c11, a12, c12, rfl, -⟩ := src_shape h1
  have hB2 : Below w.heap.size w ((w.alloc (.cells #[.string s.title, .string s.author, .string s.start, .int .i64 s.release, .int .i64 s.most, .slice a5 s.flags.length c5, .slice a6 s.props.length c6, .slice a7 s.globals.length c7, .slice a8 s.objects.length c8, .slice a9 s.verbs.length c9, .slice a10 s.rules.length c10, .slice a11 s.funcs.length c11, .slice a12 s.daemons.length c12] 29)).alloc (.cells #[.int .i64 kd, .int .i64 op, .int .i64 nm, .string st, .slice ax mx cx] 32)) := ((Below.refl _ w).alloc (Nat.le_refl _) _).alloc (by simp) _
  have hst : Hid (∀ w1, Below ((w.alloc (.cells #[.string s.title, .string s.author, .string s.start, .int .i64 s.release, .int .i64 s.most, .slice a5 s.flags.length c5, .slice a6 s.props.length c6, .slice a7 s.globals.length c7, .slice a8 s.objects.length c8, .slice a9 s.verbs.length c9, .slice a10 s.rules.length c10, .slice a11 s.funcs.length c11, .slice a12 s.daemons.length c12] 29)).alloc (.cells #[.int .i64 kd, .int .i64 op, .int .i64 nm, .string st, .slice ax mx cx] 32)).heap.size ((w.alloc (.cells #[.string s.title, .string s.author, .string s.start, .int .i64 s.release, .int .i64 s.most, .slice a5 s.flags.length c5, .slice a6 s.props.length c6, .slice a7 s.globals.length c7, .slice a8 s.objects.length c8, .slice a9 s.verbs.length c9, .slice a10 s.rules.length c10, .slice a11 s.funcs.length c11, .slice a12 s.daemons.length c12] 29)).alloc (.cells #[.int .i64 kd, .int .i64 op, .int .i64 nm, .string st, .slice ax mx cx] 32)) w1 → Below w.heap.size w w1 ∧ BoxAt w1 w.heap.size [.string s.title, .string s.author, .string s.start, .int .i64 s.release, .int .i64 s.most, .slice a5 s.flags.length c5, .slice a6 s.props.length c6, .slice a7 s.globals.length c7, .slice a8 s.objects.length c8, .slice a9 s.verbs.length c9, .slice a10 s.rules.length c10, .slice a11 s.funcs.length c11, .slice a12 s.daemons.length c12] ∧ BoxAt w1 (w.heap.size + 1) [.int .i64 kd, .int .i64 op, .int .i64 nm, .string st, .slice ax mx cx]) := fun w1 hb => by
    refine ⟨hB2.trans (hb.mono hB2.size), ?_, ?_⟩
    · exact ((BoxAt.new w [.string s.title, .string s.author, .string s.start, .int .i64 s.release, .int .i64 s.most, .slice a5 s.flags.length c5, .slice a6 s.props.length c6, .slice a7 s.globals.length c7, .slice a8 s.objects.length c8, .slice a9 s.verbs.length c9, .slice a10 s.rules.length c10, .slice a11 s.funcs.length c11, .slice a12 s.daemons.length c12] 29).below ((Below.refl _ _).alloc (Nat.le_refl _) _) (by simp)).below hb (by simp <;> omega)
    · have := (BoxAt.new (w.alloc (.cells #[.string s.title, .string s.author, .string s.start, .int .i64 s.release, .int .i64 s.most, .slice a5 s.flags.length c5, .slice a6 s.props.length c6, .slice a7 s.globals.length c7, .slice a8 s.objects.length c8, .slice a9 s.verbs.length c9, .slice a10 s.rules.length c10, .slice a11 s.funcs.length c11, .slice a12 s.daemons.length c12] 29)) [.int .i64 kd, .int .i64 op, .int .i64 nm, .string st, .slice ax mx cx] 32).below hb (by simp)
      rw [show (w.alloc (.cells #[.string s.title, .string s.author, .string s.start, .int .i64 s.release, .int .i64 s.most, .slice a5 s.flags.length c5, .slice a6 s.props.length c6, .slice a7 s.globals.length c7, .slice a8 s.objects.length c8, .slice a9 s.verbs.length c9, .slice a10 s.rules.length c10, .slice a11 s.funcs.length c11, .slice a12 s.daemons.length c12] 29)).heap.size = w.heap.size + 1 by simp] at this
      exact this
  have HM1 := Lib.hid (HMK.out _ hB2)
  clear h1 h2 h3 hsz HMK hB2
  obtain ⟨mo, hmoe⟩ : ∃ mo, mkT s.ents namesStart = mo := ⟨_, rfl⟩
  rw [hmoe] at HM1 HKE
  generalize e.few 200 = x at HFW hfew
  generalize dec (RightE e) = rr at HRT
  go_enter Try.func3, Try.ntmps3
  go_upto_region 2 with (go_at_call 7; refine HM1.out.mono ?_; rintro e0 w1 ⟨ta, tn, tc, er, pt, fn, fs, rfl, hb1, ho⟩)
  obtain ⟨hbw, hsb0, heb0⟩ := hst.out w1 hb1
  have hsb := hsb0.below ((Below.refl _ w1).alloc (Nat.le_refl _) (.cells #[.int .i64 er, .int .i64 pt, .int .i64 fn, .string fs] 36)) hsb0.1
  have heb := heb0.below ((Below.refl _ w1).alloc (Nat.le_refl _) (.cells #[.int .i64 er, .int .i64 pt, .int .i64 fn, .string fs] 36)) heb0.1
  have hbf := hbw.alloc hbw.size (.cells #[.int .i64 er, .int .i64 pt, .int .i64 fn, .string fs] 36)
  have f0 : (w1.alloc (.cells #[.int .i64 er, .int .i64 pt, .int .i64 fn, .string fs] 36)).cell? ⟨w1.heap.size, 0, none⟩ = some (.int .i64 er) := by simp
  have cs0 := hsb.2 0 (by simp)
  have cs1 := hsb.2 1 (by simp)
  have cs2 := hsb.2 2 (by simp)
  have cs3 := hsb.2 3 (by simp)
  have cs4 := hsb.2 4 (by simp)
  have cs5 := hsb.2 5 (by simp)
  have cs6 := hsb.2 6 (by simp)
  have cs7 := hsb.2 7 (by simp)
  have cs8 := hsb.2 8 (by simp)
  have cs9 := hsb.2 9 (by simp)
  have cs10 := hsb.2 10 (by simp)
  have cs11 := hsb.2 11 (by simp)
  have cs12 := hsb.2 12 (by simp)
  have ce0 := heb.2 0 (by simp)
  have ce1 := heb.2 1 (by simp)
  have ce2 := heb.2 2 (by simp)
  have ce3 := heb.2 3 (by simp)
  have ce4 := heb.2 4 (by simp)
  simp only [List.getElem?_cons_succ, List.getElem?_cons_zero] at cs0 cs1 cs2 cs3 cs4 cs5 cs6 cs7 cs8 cs9 cs10 cs11 cs12 ce0 ce1 ce2 ce3 ce4
  have HBF := Lib.hid hbf
  have HSB := Lib.hid hsb
  have HEB := Lib.hid heb
  have HBW := Lib.hid hbw
  have hkeep : Hid (∀ W, Below (w1.alloc (.cells #[.int .i64 er, .int .i64 pt, .int .i64 fn, .string fs] 36)).heap.size (w1.alloc (.cells #[.int .i64 er, .int .i64 pt, .int .i64 fn, .string fs] 36)) W → Below w.heap.size w W ∧ BoxAt W w.heap.size [.string s.title, .string s.author, .string s.start, .int .i64 s.release, .int .i64 s.most, .slice a5 s.flags.length c5, .slice a6 s.props.length c6, .slice a7 s.globals.length c7, .slice a8 s.objects.length c8, .slice a9 s.verbs.length c9, .slice a10 s.rules.length c10, .slice a11 s.funcs.length c11, .slice a12 s.daemons.length c12] ∧ BoxAt W (w.heap.size + 1) [.int .i64 kd, .int .i64 op, .int .i64 nm, .string st, .slice ax mx cx]) := fun W hW => ⟨HBF.out.trans (hW.mono HBF.out.size), HSB.out.below hW HSB.out.1, HEB.out.below hW HEB.out.1⟩
  clear hbw hsb0 heb0 hsb heb
  by_cases her : er = 0
  · have hot : ∃ t, mo = some t ∧ OwnN ((w.alloc (.cells #[.string s.title, .string s.author, .string s.start, .int .i64 s.release, .int .i64 s.most, .slice a5 s.flags.length c5, .slice a6 s.props.length c6, .slice a7 s.globals.length c7, .slice a8 s.objects.length c8, .slice a9 s.verbs.length c9, .slice a10 s.rules.length c10, .slice a11 s.funcs.length c11, .slice a12 s.daemons.length c12] 29)).alloc (.cells #[.int .i64 kd, .int .i64 op, .int .i64 nm, .string st, .slice ax mx cx] 32)).heap.size w1 t (.slice ta tn tc) := by
      rcases ho with ⟨h, _⟩ | ⟨_, h⟩
      · exact absurd her h
      · exact h
    obtain ⟨t, hmo, hown⟩ := hot
    have HKE2 := Lib.hid (fun (W : World) (hW : Below (w1.alloc (.cells #[.int .i64 er, .int .i64 pt, .int .i64 fn, .string fs] 36)).heap.size (w1.alloc (.cells #[.int .i64 er, .int .i64 pt, .int .i64 fn, .string fs] 36)) W) => HKE.out W (hkeep.out W hW).1 t (.slice ta tn tc) (fun b => F b ∨ b < W.heap.size) (fun b hb => hb.elim (fun h => (hF.below (hkeep.out W hW).1) b h) id) (fun _ h => .inl h) hmo
      ((hown.rd (made_tab (s := s) (by first | exact hmo | (rw [hmoe]; exact hmo))).2.1).keep (fun b hb => (hW.block b (by have := hb.2; simp; omega)).trans (Below.heap_alloc w1 _ b hb.2)) (fun b hb => .inr (by have := hb.2; have := hW.size; simp at this; omega))))
    subst her
    clear ho hown hmo
    by_cases hl : l.length > 30
    · have hld : decide ((l.length : Int) > 30) = true := by simp; omega
      clear HKE2 hl
      go_wp2_with (go_at_call 10; refine (HAW.out _ HBF.out).mono ?_; rintro e6 w6 ⟨rfl, hb6⟩)
      go_ret
      exact ⟨rfl, HBF.out.trans (hb6.mono HBF.out.size)⟩
    have hld : decide ((l.length : Int) > 30) = false := by simp; omega
    clear hl
    by_cases hx : x < 0
    · have hxd : decide (x < 0) = true := by simp [hx]
      clear HKE2
      go_wp2_with (first | (go_at_call 8; refine (HFW.out _ HBF.out).mono ?_; rintro e2 w2 ⟨rfl, hb2⟩; obtain ⟨k2b, k2s, k2e⟩ := hkeep.out w2 hb2; have ge0 := k2e.2 0 (by simp); have ge1 := k2e.2 1 (by simp); have ge2 := k2e.2 2 (by simp); have ge3 := k2e.2 3 (by simp); have ge4 := k2e.2 4 (by simp); simp only [List.getElem?_cons_succ, List.getElem?_cons_zero] at ge0 ge1 ge2 ge3 ge4) | (go_at_call 10; refine (HAW.out _ k2b).mono ?_; rintro e6 w6 ⟨rfl, hb6⟩))
      go_ret
      exact ⟨rfl, k2b.trans (hb6.mono k2b.size)⟩
    have hxd : decide (x < 0) = false := by simp [hx]
    cases rr
    · clear HKE2
      go_wp2_with (first | (go_at_call 8; refine (HFW.out _ HBF.out).mono ?_; rintro e2 w2 ⟨rfl, hb2⟩; obtain ⟨k2b, k2s, k2e⟩ := hkeep.out w2 hb2; have ge0 := k2e.2 0 (by simp); have ge1 := k2e.2 1 (by simp); have ge2 := k2e.2 2 (by simp); have ge3 := k2e.2 3 (by simp); have ge4 := k2e.2 4 (by simp); simp only [List.getElem?_cons_succ, List.getElem?_cons_zero] at ge0 ge1 ge2 ge3 ge4) | (go_at_call 9; refine (HRT.out _ k2b).mono ?_; rintro e3 w3 ⟨rfl, hb3⟩; have hb23 := hb2.trans (hb3.mono hb2.size); obtain ⟨k3b, k3s, k3e⟩ := hkeep.out w3 hb23; clear ge0 ge1 ge2 ge3 ge4; have he0 := k3e.2 0 (by simp); have he1 := k3e.2 1 (by simp); have he2 := k3e.2 2 (by simp); have he3 := k3e.2 3 (by simp); have he4 := k3e.2 4 (by simp); simp only [List.getElem?_cons_succ, List.getElem?_cons_zero] at he0 he1 he2 he3 he4; have hs0 := k3s.2 0 (by simp); have hs1 := k3s.2 1 (by simp); have hs2 := k3s.2 2 (by simp); have hs3 := k3s.2 3 (by simp); have hs4 := k3s.2 4 (by simp); have hs5 := k3s.2 5 (by simp); have hs6 := k3s.2 6 (by simp); have hs7 := k3s.2 7 (by simp); have hs8 := k3s.2 8 (by simp); have hs9 := k3s.2 9 (by simp); have hs10 := k3s.2 10 (by simp); have hs11 := k3s.2 11 (by simp); have hs12 := k3s.2 12 (by simp); simp only [List.getElem?_cons_succ, List.getElem?_cons_zero] at hs0 hs1 hs2 hs3 hs4 hs5 hs6 hs7 hs8 hs9 hs10 hs11 hs12) | (go_at_call 10; refine (HAW.out _ k3b).mono ?_; rintro e6 w6 ⟨rfl, hb6⟩))
      go_ret
      exact ⟨rfl, k3b.trans (hb6.mono k3b.size)⟩
    · have hcle := clean_kW t s.funcs l
      have hnm : Hid (∀ nn : ByteArray, ((e.kW t s.funcs l).1 = 0 → nn = ⟨#[]⟩) → ((e.kW t s.funcs l).1 ≠ 0 → nn = (e.kW t s.funcs l).2) → nn = (e.kW t s.funcs l).2) := fun nn h0 h1 => by
        by_cases hz : (e.kW t s.funcs l).1 = 0
        · rw [h0 hz, hcle e hz]; rfl
        · exact h1 hz
      clear hcle
      generalize e.kW t s.funcs l = pw at HKE2 hnm
      go_wp2_with (first | (go_at_call 8; refine (HFW.out _ HBF.out).mono ?_; rintro e2 w2 ⟨rfl, hb2⟩; obtain ⟨k2b, k2s, k2e⟩ := hkeep.out w2 hb2; have ge0 := k2e.2 0 (by simp); have ge1 := k2e.2 1 (by simp); have ge2 := k2e.2 2 (by simp); have ge3 := k2e.2 3 (by simp); have ge4 := k2e.2 4 (by simp); simp only [List.getElem?_cons_succ, List.getElem?_cons_zero] at ge0 ge1 ge2 ge3 ge4) | (go_at_call 9; refine (HRT.out _ k2b).mono ?_; rintro e3 w3 ⟨rfl, hb3⟩; have hb23 := hb2.trans (hb3.mono hb2.size); obtain ⟨k3b, k3s, k3e⟩ := hkeep.out w3 hb23; clear ge0 ge1 ge2 ge3 ge4; have he0 := k3e.2 0 (by simp); have he1 := k3e.2 1 (by simp); have he2 := k3e.2 2 (by simp); have he3 := k3e.2 3 (by simp); have he4 := k3e.2 4 (by simp); simp only [List.getElem?_cons_succ, List.getElem?_cons_zero] at he0 he1 he2 he3 he4; have hs0 := k3s.2 0 (by simp); have hs1 := k3s.2 1 (by simp); have hs2 := k3s.2 2 (by simp); have hs3 := k3s.2 3 (by simp); have hs4 := k3s.2 4 (by simp); have hs5 := k3s.2 5 (by simp); have hs6 := k3s.2 6 (by simp); have hs7 := k3s.2 7 (by simp); have hs8 := k3s.2 8 (by simp); have hs9 := k3s.2 9 (by simp); have hs10 := k3s.2 10 (by simp); have hs11 := k3s.2 11 (by simp); have hs12 := k3s.2 12 (by simp); simp only [List.getElem?_cons_succ, List.getElem?_cons_zero] at hs0 hs1 hs2 hs3 hs4 hs5 hs6 hs7 hs8 hs9 hs10 hs11 hs12) | (go_at_call 11; refine ((HKE2.out w3 hb23).1).mono ?_; rintro e4 w4 ⟨nn, rfl, hn0, hn1, hb4⟩; have hb24 := hb23.trans (hb4.mono hb23.size); obtain ⟨k4b, k4s, k4e⟩ := hkeep.out w4 hb24; have hnn := hnm.out nn hn0 hn1; subst hnn; clear hn0 hn1 he0 he1 he2 he3 he4 hs0 hs1 hs2 hs3 hs4 hs5 hs6 hs7 hs8 hs9 hs10 hs11 hs12; have ie0 := k4e.2 0 (by simp); have ie1 := k4e.2 1 (by simp); have ie2 := k4e.2 2 (by simp); have ie3 := k4e.2 3 (by simp); have ie4 := k4e.2 4 (by simp); simp only [List.getElem?_cons_succ, List.getElem?_cons_zero] at ie0 ie1 ie2 ie3 ie4; have is0 := k4s.2 0 (by simp); have is1 := k4s.2 1 (by simp); have is2 := k4s.2 2 (by simp); have is3 := k4s.2 3 (by simp); have is4 := k4s.2 4 (by simp); have is5 := k4s.2 5 (by simp); have is6 := k4s.2 6 (by simp); have is7 := k4s.2 7 (by simp); have is8 := k4s.2 8 (by simp); have is9 := k4s.2 9 (by simp); have is10 := k4s.2 10 (by simp); have is11 := k4s.2 11 (by simp); have is12 := k4s.2 12 (by simp); simp only [List.getElem?_cons_succ, List.getElem?_cons_zero] at is0 is1 is2 is3 is4 is5 is6 is7 is8 is9 is10 is11 is12) | (go_at_call 12; refine ((HKE2.out w4 hb24).2).mono ?_; rintro e5 w5 ⟨rfl, hb5⟩; have k5b := k4b.trans (hb5.mono k4b.size)) | (go_at_call 10; refine (HAW.out _ k5b).mono ?_; rintro e6 w6 ⟨rfl, hb6⟩))
      go_ret
      exact ⟨rfl, k5b.trans (hb6.mono k5b.size)⟩
  · have e0 : (er != 0) = true := by simpa using her
    clear her ho HKE
    go_wp2_with (go_at_call 10; refine (HAW.out _ HBF.out).mono ?_; rintro e2 w2 ⟨rfl, hb2⟩)
    go_ret
    exact ⟨rfl, HBF.out.trans (hb2.mono HBF.out.size)⟩
end Go.Proofs.Ytblhpiebheommaa
