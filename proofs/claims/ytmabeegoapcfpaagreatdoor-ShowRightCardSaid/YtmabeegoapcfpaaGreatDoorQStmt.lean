/- The walks of tree's rules.stmt and its closure, as RightBlock uses them. -/
import Derived.Test.YtmabeegoapcfpaaGreatDoorQPart20aa6447
import Derived.Test.YtmabeegoapcfpaaGreatDoorQSource
import Derived.Test.YtmabeegoapcfpaaGreatDoorQPart92d78415
import Derived.Test.YtmabeegoapcfpaaGreatDoorQPart1d3d2de9
import Derived.Laws.EntriesVeiled
import Derived.Deep.DeepCutAuto
namespace Go.Proofs.YtmabeegoapcfpaaGreatDoor
open Go.RowKit Go.Sort
def RV : Value := .agg #[.func (.func 86) #[] #[], .func (.func 85) #[] #[], .int .i64 9]
set_option maxHeartbeats 400000 in
theorem stmt1_calls (x : Ex) (F : Nat → Prop) (w : World) (cs : List Value) (bs br : Nat) (say : Bool) (hF : Inn F w) (hm : MX w) (hr : RdEx F w x cs)
    (h1 : w.cell? ⟨bs, 0, none⟩ = some (.bool say)) (h2 : w.cell? ⟨br, 1, none⟩ = some (.func (.func 85) #[] #[])) :
    Calls Tryz.prog 198 #[.agg cs.toArray, .pointer (some ⟨bs, 0, none⟩), .pointer (some ⟨br, 0, none⟩)] w (Gives w (.bool (dec ((say = true ∨ ¬ SaidK x.kind) ∧ Src x)))) := by
  obtain ⟨k, o, n, s, a, m, cap, rfl⟩ := hr.shape
  have hk : x.kind = k := hr.parts.1
  have hz1 : bs < w.heap.size := World.block_lt_of_cell? _ _ h1
  have hz2 : br < w.heap.size := World.block_lt_of_cell? _ _ h2
  have HC := Lib.hid (fun ob => source_calls x F (w.alloc ob) _ (hF.alloc ob) (hm.alloc ob) (hr.alloc hF ob))
  have hsd := fun w => said_calls k w
  rw [hk]
  clear hr hm hF hk
  cases say
  · by_cases hs : SaidK k
    · rw [dec_true hs] at hsd
      have hfin : Hid (dec ((false = true ∨ ¬ SaidK k) ∧ Src x) = false) := dec_false (by simp [hs])
      have HS := Lib.hid hsd
      clear hsd hs
      go_enter Tryz.func198, Tryz.ntmps198
      go_wp2_with (go_at_call 154; refine (HS.out _).mono ?_; rintro e w' ⟨rfl, rfl⟩)
      go_ret
      exact ⟨ret_bool hfin.out.symm, (Below.refl _ _).alloc (Nat.le_refl _) _⟩
    · rw [dec_false hs] at hsd
      have hfin : Hid (dec ((false = true ∨ ¬ SaidK k) ∧ Src x) = dec (Src x)) := dec_congr (by simp [hs])
      have HS := Lib.hid hsd
      clear hsd hs
      go_enter Tryz.func198, Tryz.ntmps198
      go_wp2_with (first | (go_at_call 154; refine (HS.out _).mono ?_; rintro e w' ⟨rfl, rfl⟩) | (go_at_call 85; refine (HC.out _).mono ?_; rintro e w' ⟨rfl, hb⟩))
      go_ret
      exact ⟨ret_bool hfin.out.symm, below_on1 (Below.refl _ _) (Nat.le_refl _) hb⟩
  · have hfin : Hid (dec ((true = true ∨ ¬ SaidK k) ∧ Src x) = dec (Src x)) := dec_congr (by simp)
    clear hsd
    go_enter Tryz.func198, Tryz.ntmps198
    go_wp2_with (go_at_call 85; refine (HC.out _).mono ?_; rintro e w' ⟨rfl, hb⟩)
    go_ret
    exact ⟨ret_bool hfin.out.symm, below_on1 (Below.refl _ _) (Nat.le_refl _) hb⟩
theorem callFunc_stmt1 (args : Array Value) (w : World) : (callFunc 198 args).run Tryz.prog w = .ok (.enter 198 args) w := by
  go_simp
def StGood (k n : Int) (s : ByteArray) (la lb le : Nat) : Prop :=
  (partsOf k).is = true ∧ (partsOf k).least ≤ la ∧ la ≤ (partsOf k).most ∧ ((partsOf k).body = true ∨ lb = 0) ∧ ((partsOf k).other = true ∨ le = 0) ∧ NameOk (partsOf k).named k n s
mutual
def StOk : St → Prop
  | .mk k n s args body els => StGood k n s args.length body.length els.length ∧ (k = 19 → ∀ x ∈ args.head?, x.kind = 9) ∧ (∀ x ∈ args, (k = 1 ∨ ¬ SaidK x.kind) ∧ Src x) ∧ (body.length ≤ 256 ∧ StOks body) ∧ els.length ≤ 256 ∧ StOks els
def StOks : List St → Prop
  | [] => True
  | a :: l => StOk a ∧ StOks l
end
theorem stOks_iff (l : List St) : StOks l ↔ ∀ a ∈ l, StOk a := by
  induction l with
  | nil => simp [StOks]
  | cons a l ih => simp [StOks, ih]
def Blk (l : List St) : Prop := l.length ≤ 256 ∧ ∀ s ∈ l, StOk s
theorem stOk_eq (e : St) : StOk e ↔ StGood e.kind e.num e.name e.args.length e.body.length e.els.length ∧ (e.kind = 19 → ∀ x ∈ e.args.head?, x.kind = 9) ∧ (∀ x ∈ e.args, (e.kind = 1 ∨ ¬ SaidK x.kind) ∧ Src x) ∧ Blk e.body ∧ Blk e.els := by
  obtain ⟨_, _, _, _, _, _⟩ := e
  simp only [StOk, Blk, stOks_iff, St.kind, St.num, St.name, St.args, St.body, St.els]
def BlkC (l : List St) : Prop := ∀ (F : Nat → Prop) (w : World) (v : Value), Inn F w → MX w → Sts F w l v →
    Calls Tryz.prog 89 #[RV, v] w (Gives w (.bool (dec (Blk l))))
def StmtC (e : St) : Prop := ∀ (F : Nat → Prop) (w : World) (cs : List Value), Inn F w → MX w → RdSt F w e cs →
    Calls Tryz.prog 156 #[RV, .agg cs.toArray] w (Gives w (.bool (dec (StOk e))))
theorem partsOf_19 (k : Int) (h : k = 19) : (partsOf k).least = 1 := by subst h; rfl
set_option maxRecDepth 100000 in
set_option maxHeartbeats 4000000 in
theorem stmt_calls (e : St) (hbd : BlkC e.body) (hel : BlkC e.els) : StmtC e := by
  intro F w cs hF hm hr
  obtain ⟨k, n, s, a, m, cap, a2, m2, cap2, a3, m3, cap3, rfl⟩ := hr.shape
  obtain ⟨rfl, rfl, rfl, _, _, hsz, hxa, hxb, hxe⟩ := hr.parts
  obtain ⟨rfl, hl, hc, ha⟩ := hxa.opn
  obtain ⟨rfl, _, _, _⟩ := hxb.opn
  obtain ⟨rfl, _, _, _⟩ := hxe.opn
  have hfin : Hid (dec (StOk e) = dec (StGood e.kind e.num e.name e.args.length e.body.length e.els.length ∧ (e.kind = 19 → ∀ x ∈ e.args.head?, x.kind = 9) ∧ (∀ x ∈ e.args, (e.kind = 1 ∨ ¬ SaidK x.kind) ∧ Src x) ∧ Blk e.body ∧ Blk e.els)) := dec_congr (stOk_eq e)
  have hG : Hid (dec (StGood e.kind e.num e.name e.args.length e.body.length e.els.length) = dec ((partsOf e.kind).is = true ∧ (partsOf e.kind).least ≤ e.args.length ∧ e.args.length ≤ (partsOf e.kind).most ∧ ((partsOf e.kind).body = true ∨ e.body.length = 0) ∧ ((partsOf e.kind).other = true ∨ e.els.length = 0) ∧ NameOk (partsOf e.kind).named e.kind e.num e.name)) := rfl
  have h19 := partsOf_19 e.kind
  generalize dec (StOk e) = R at *
  generalize e.kind = k at *
  generalize e.num = n at *
  generalize e.name = s at *
  generalize hLa : e.args = args at *
  generalize hLb : e.body = body at *
  generalize hLe : e.els = els at *
  clear hr hLa hLb hLe
  go_enter Tryz.func156, Tryz.ntmps156
  unfold RV
  unfold BlkC RV at hbd hel
  have hh := fun w => stmtHas_calls k w
  unfold PartsV at hh
  generalize partsOf k = H at *
  obtain ⟨named, bodyB, other, least, most, is⟩ := H
  simp only at hh hG h19
  have HH := Lib.hid hh
  clear hh
  have H19 := Lib.hid h19
  clear h19
  go_upto_region 2 with (go_at_call 197; refine (HH.out _).mono ?_; rintro e w' ⟨rfl, hb⟩; obtain ⟨hcl, hfz⟩ := bcell hb; obtain ⟨hz1, hz2⟩ := two_new hb)
  have hnm : ∀ wx, Below w.heap.size w wx → Calls Tryz.prog 86 #[.agg #[.int .i64 k, .int .i64 n, .string s, .slice a args.length cap, .slice a2 body.length cap2, .slice a3 els.length cap3], .bool named] wx (Gives wx (.bool (dec (NameOk named k n s)))) :=
    fun wx hbx => nameOk_calls k n s (a, args.length, cap) (a2, body.length, cap2) (a3, els.length, cap3) named wx hsz (hm.below hbx (Nat.le_refl _))
  have HNM := Lib.hid hnm
  clear hnm
  generalize hGe : StGood k n s args.length body.length els.length = G at *
  clear hGe
  go_cut [62] from 8 to 62 (fun b wc => b = .bool (!dec G) ∧ Below (w.heap.size + 2) ((w.alloc (.cells #[.func (.func 86) #[] #[], .func (.func 85) #[] #[], .int .i64 9] 106)).alloc (.cells #[.int .i64 k, .int .i64 n, .string s, .slice a args.length cap, .slice a2 body.length cap2, .slice a3 els.length cap3] 108)) wc)
  case first =>
    clear hbd hel hF hm hxa hxb hxe ha hfin H19
    generalize hNO : NameOk named k n s = NO at *
    clear hNO
    cases is
    · have hg : Hid (dec G = false) := by show dec G = _; rw [hG.out]; exact dec_false (by simp)
      clear hG
      go_wp2
      go_meet
      case rel => exact ⟨by rw [hg.out]; first | rfl | simp, ((hb.mono (by first | omega | simp)).alloc (by omega) _)⟩
    by_cases c1 : least ≤ args.length
    rotate_left
    · have q1 : decide (args.length < least) = true := by simp; omega
      have q2 : decide ((args.length : Int) < (least : Int)) = true := by simp; omega
      have hg : Hid (dec G = false) := by show dec G = _; rw [hG.out]; exact dec_false (by exact fun h => c1 h.2.1)
      clear hG c1
      go_wp2
      go_meet
      case rel => exact ⟨by rw [hg.out]; first | rfl | simp, ((hb.mono (by first | omega | simp)).alloc (by omega) _)⟩
    have q1 : decide (args.length < least) = false := by simp; omega
    have q2 : decide ((args.length : Int) < (least : Int)) = false := by simp; omega
    by_cases c2 : args.length ≤ most
    rotate_left
    · have q3 : decide (most < args.length) = true := by simp; omega
      have q4 : decide ((most : Int) < (args.length : Int)) = true := by simp; omega
      have hg : Hid (dec G = false) := by show dec G = _; rw [hG.out]; exact dec_false (by exact fun h => c2 h.2.2.1)
      clear hG c2
      go_wp2
      go_meet
      case rel => exact ⟨by rw [hg.out]; first | rfl | simp, ((hb.mono (by first | omega | simp)).alloc (by omega) _)⟩
    have q3 : decide (most < args.length) = false := by simp; omega
    have q4 : decide ((most : Int) < (args.length : Int)) = false := by simp; omega
    by_cases c3 : bodyB = true ∨ body.length = 0
    rotate_left
    · obtain rfl : bodyB = false := by cases bodyB <;> simp at c3 ⊢
      have q5 : decide (0 < body.length) = true := by simp at c3 ⊢; cases body <;> simp at c3 ⊢
      have q6 : decide ((0 : Int) < (body.length : Int)) = true := by simp at q5 ⊢; omega
      have hg : Hid (dec G = false) := by show dec G = _; rw [hG.out]; exact dec_false (by exact fun h => c3 h.2.2.2.1)
      clear hG c3
      go_wp2
      go_meet
      case rel => exact ⟨by rw [hg.out]; first | rfl | simp, ((hb.mono (by first | omega | simp)).alloc (by omega) _)⟩
    cases bodyB
    · have z0 : body.length = 0 := by simpa using c3
      have q5 : decide (0 < body.length) = false := by simp [z0]
      have q6 : decide ((0 : Int) < (body.length : Int)) = false := by simp [z0]
      clear z0
      by_cases c4 : other = true ∨ els.length = 0
      rotate_left
      · obtain rfl : other = false := by cases other <;> simp at c4 ⊢
        have q7 : decide (0 < els.length) = true := by simp at c4 ⊢; cases els <;> simp at c4 ⊢
        have q8 : decide ((0 : Int) < (els.length : Int)) = true := by simp at q7 ⊢; omega
        have hg : Hid (dec G = false) := by show dec G = _; rw [hG.out]; exact dec_false (by exact fun h => c4 h.2.2.2.2.1)
        clear hG c4
        go_wp2
        go_meet
        case rel => exact ⟨by rw [hg.out]; first | rfl | simp, ((hb.mono (by first | omega | simp)).alloc (by omega) _)⟩
      cases other
      · have z0 : els.length = 0 := by simpa using c4
        have q7 : decide (0 < els.length) = false := by simp [z0]
        have q8 : decide ((0 : Int) < (els.length : Int)) = false := by simp [z0]
        clear z0
        have hg : Hid (dec G = dec NO) := by show dec G = _; rw [hG.out]; exact dec_congr ⟨fun h => h.2.2.2.2.2, fun h => ⟨rfl, c1, c2, c3, c4, h⟩⟩
        clear hG c1 c2 c3 c4
        go_wp2_with (refine (HNM.out _ ((below_on2 (Below.refl _ _) (Nat.le_refl _) hb).alloc (by omega) _)).mono ?_; rintro e w2 ⟨rfl, hb2⟩)
        go_meet
        case rel => exact ⟨by rw [hg.out], below_on ((hb.mono (by first | omega | simp)).alloc (by omega) _) (by first | omega | simp | (simp; omega)) hb2⟩
      · have hg : Hid (dec G = dec NO) := by show dec G = _; rw [hG.out]; exact dec_congr ⟨fun h => h.2.2.2.2.2, fun h => ⟨rfl, c1, c2, c3, c4, h⟩⟩
        clear hG c1 c2 c3 c4
        go_wp2_with (refine (HNM.out _ ((below_on2 (Below.refl _ _) (Nat.le_refl _) hb).alloc (by omega) _)).mono ?_; rintro e w2 ⟨rfl, hb2⟩)
        go_meet
        case rel => exact ⟨by rw [hg.out], below_on ((hb.mono (by first | omega | simp)).alloc (by omega) _) (by first | omega | simp | (simp; omega)) hb2⟩
    · by_cases c4 : other = true ∨ els.length = 0
      rotate_left
      · obtain rfl : other = false := by cases other <;> simp at c4 ⊢
        have q7 : decide (0 < els.length) = true := by simp at c4 ⊢; cases els <;> simp at c4 ⊢
        have q8 : decide ((0 : Int) < (els.length : Int)) = true := by simp at q7 ⊢; omega
        have hg : Hid (dec G = false) := by show dec G = _; rw [hG.out]; exact dec_false (by exact fun h => c4 h.2.2.2.2.1)
        clear hG c4
        go_wp2
        go_meet
        case rel => exact ⟨by rw [hg.out]; first | rfl | simp, ((hb.mono (by first | omega | simp)).alloc (by omega) _)⟩
      cases other
      · have z0 : els.length = 0 := by simpa using c4
        have q7 : decide (0 < els.length) = false := by simp [z0]
        have q8 : decide ((0 : Int) < (els.length : Int)) = false := by simp [z0]
        clear z0
        have hg : Hid (dec G = dec NO) := by show dec G = _; rw [hG.out]; exact dec_congr ⟨fun h => h.2.2.2.2.2, fun h => ⟨rfl, c1, c2, c3, c4, h⟩⟩
        clear hG c1 c2 c3 c4
        go_wp2_with (refine (HNM.out _ ((below_on2 (Below.refl _ _) (Nat.le_refl _) hb).alloc (by omega) _)).mono ?_; rintro e w2 ⟨rfl, hb2⟩)
        go_meet
        case rel => exact ⟨by rw [hg.out], below_on ((hb.mono (by first | omega | simp)).alloc (by omega) _) (by first | omega | simp | (simp; omega)) hb2⟩
      · have hg : Hid (dec G = dec NO) := by show dec G = _; rw [hG.out]; exact dec_congr ⟨fun h => h.2.2.2.2.2, fun h => ⟨rfl, c1, c2, c3, c4, h⟩⟩
        clear hG c1 c2 c3 c4
        go_wp2_with (refine (HNM.out _ ((below_on2 (Below.refl _ _) (Nat.le_refl _) hb).alloc (by omega) _)).mono ?_; rintro e w2 ⟨rfl, hb2⟩)
        go_meet
        case rel => exact ⟨by rw [hg.out], below_on ((hb.mono (by first | omega | simp)).alloc (by omega) _) (by first | omega | simp | (simp; omega)) hb2⟩
  case rest =>
    obtain ⟨rfl, hB0⟩ := hcut
    have hBw : Below w.heap.size w wc := (((Below.refl _ _).alloc (Nat.le_refl _) _).alloc (by simp) _).trans (hB0.mono (by omega))
    have hsz2 : w.heap.size + 1 < wc.heap.size := by have := hB0.size; simp at this; omega
    have hsz3 : w.heap.size < wc.heap.size := by omega
    have y0 : wc.cell? ⟨w.heap.size, 0, none⟩ = some (.func (.func 86) #[] #[]) := by rw [hB0.cell (by show w.heap.size < _; omega)]; go_simp
    have y1 : wc.cell? ⟨w.heap.size, 1, none⟩ = some (.func (.func 85) #[] #[]) := by rw [hB0.cell (by show w.heap.size < _; omega)]; go_simp
    have y2 : wc.cell? ⟨w.heap.size, 2, none⟩ = some (.int .i64 9) := by rw [hB0.cell (by show w.heap.size < _; omega)]; go_simp
    have x0 : wc.cell? ⟨w.heap.size + 1, 0, none⟩ = some (.int .i64 k) := by rw [hB0.cell (by show w.heap.size + 1 < _; omega)]; go_simp
    have x3 : wc.cell? ⟨w.heap.size + 1, 3, none⟩ = some (.slice a args.length cap) := by rw [hB0.cell (by show w.heap.size + 1 < _; omega)]; go_simp
    have x4 : wc.cell? ⟨w.heap.size + 1, 4, none⟩ = some (.slice a2 body.length cap2) := by rw [hB0.cell (by show w.heap.size + 1 < _; omega)]; go_simp
    have x5 : wc.cell? ⟨w.heap.size + 1, 5, none⟩ = some (.slice a3 els.length cap3) := by rw [hB0.cell (by show w.heap.size + 1 < _; omega)]; go_simp
    clear hB0
    by_cases hgt : G
    rotate_left
    · obtain rfl : R = false := by rw [hfin.out]; exact dec_false (fun h => hgt h.1)
      have e0 : (!dec G) = true := by rw [dec_false hgt]; rfl
      rw [e0]
      clear hfin hG hgt e0 ha hxa hxb hxe hbd hel
      go_wp2
      go_ret
      exact ⟨rfl, hBw⟩
    have e0 : (!dec G) = false := by rw [dec_true hgt]; rfl
    rw [e0]
    have hlen : k = 19 → 0 < args.length := fun h => by
      have h1 := hG.out
      rw [dec_true hgt] at h1
      have h2 := (dec_iff.1 h1.symm).2.1
      have h3 := H19.out h
      omega
    clear hG e0
    generalize hKe : (k = 19 → ∀ x ∈ args.head?, x.kind = 9) = K19 at *
    go_upto_region 4 with fail
    go_cut [75] from 63 to 75 (fun b w2 => b = .bool (!dec K19) ∧ Below wc.heap.size wc w2)
    case first =>
      clear hfin hbd hel hxb hxe
      by_cases h19 : k = 19
      · have hlp := hlen h19
        obtain ⟨b, off, rfl, hFb, hel2⟩ := ha hlp
        obtain ⟨kd, o, nn, ss, aa, mm, cc, hx, g0, g1, g2, g3, g4⟩ := hel2 wc (hBw.block b (hF b hFb)) 0 hlp
        have hkk : (args[0]).kind = kd := hx.parts.1
        have hKK : Hid (K19 ↔ kd = 9) := by
          show K19 ↔ kd = 9
          rw [← hKe]
          have : args.head? = some args[0] := by rw [List.head?_eq_getElem?, List.getElem?_eq_getElem hlp]
          rw [this]
          constructor
          · intro h; have := h h19 args[0] rfl; omega
          · rintro h _ x hx2; obtain rfl : args[0] = x := by simpa using hx2
            omega
        have hlp2 : (0 : Int) < (args.length : Int) := by omega
        have q19 : (k == 19) = true := by simpa using h19
        clear hel2 ha hx g1 g2 g3 g4 hkk hKe hxa hlen
        simp only [Nat.zero_mul, Nat.add_zero] at g0
        have r0 := fun d os => cell_regrown x0 d os
        have r1 := fun d os => cell_regrown x3 d os
        have r2 := fun d os => cell_regrown y2 d os
        have r3 := fun d os => cell_regrown g0 d os
        have e9 : Hid ((!dec K19) = (kd != 9)) := by
          show (!dec K19) = _
          by_cases h9 : kd = 9
          · rw [dec_true (hKK.out.2 h9), h9]; rfl
          · rw [dec_false (fun h => h9 (hKK.out.1 h))]; symm; simpa using h9
        clear hKK h19
        refine wp_region_quiet_below (by kernel_rfl) (by kernel_rfl) ?_
        repeat (go_big_quiet_step (fail))
        refine wpQuiet_nil ?_
        intro w' hw'
        have hb := below_of_regrown hw'
        go_wp2_with fail
        go_meet
        case rel => exact ⟨by rw [e9.out], hb⟩
      · have hKK : Hid (dec K19 = true) := dec_true (by rw [← hKe]; intro h; exact absurd h h19)
        have q19 : (k == 19) = false := by simpa using h19
        clear ha hKe hxa hlen h19
        have r0 := fun d os => cell_regrown x0 d os
        refine wp_region_quiet_below (by kernel_rfl) (by kernel_rfl) ?_
        repeat (go_big_quiet_step (fail))
        refine wpQuiet_nil ?_
        intro w' hw'
        have hb := below_of_regrown hw'
        go_wp2_with fail
        go_meet
        case rel => exact ⟨by rw [hKK.out]; rfl, hb⟩
    case rest =>
      obtain ⟨rfl, hB1⟩ := hcut
      have hBw2 := below_on hBw (Nat.le_refl _) hB1
      have hsz4 := Nat.lt_of_lt_of_le hsz3 hB1.size
      have hsz5 := Nat.lt_of_lt_of_le hsz2 hB1.size
      have z0 := (hB1.cell (p := ⟨w.heap.size, 0, none⟩) hsz3).trans y0
      have z1 := (hB1.cell (p := ⟨w.heap.size, 1, none⟩) hsz3).trans y1
      have z2 := (hB1.cell (p := ⟨w.heap.size, 2, none⟩) hsz3).trans y2
      have t0 := (hB1.cell (p := ⟨w.heap.size + 1, 0, none⟩) hsz2).trans x0
      have t3 := (hB1.cell (p := ⟨w.heap.size + 1, 3, none⟩) hsz2).trans x3
      have t4 := (hB1.cell (p := ⟨w.heap.size + 1, 4, none⟩) hsz2).trans x4
      have t5 := (hB1.cell (p := ⟨w.heap.size + 1, 5, none⟩) hsz2).trans x5
      clear y0 y1 y2 x0 x3 x4 x5 hB1 hBw hlen ha
      rename_i wd
      by_cases hK : K19
      rotate_left
      · obtain rfl : R = false := by rw [hfin.out]; exact dec_false (fun h => hK h.2.1)
        have e0 : (!dec K19) = true := by rw [dec_false hK]; rfl
        rw [e0]
        clear hfin hgt hK e0 hxa hxb hxe hbd hel hKe
        go_wp2
        go_ret
        exact ⟨rfl, hBw2⟩
      have e0 : (!dec K19) = false := by rw [dec_true hK]; rfl
      rw [e0]
      have hIw := hF.below hBw2
      have hMw := hm.below hBw2 (Nat.le_refl _)
      have heach : Calls Tryz.prog 152 #[.slice a args.length cap, .func (.func 198) #[] #[.pointer (some ⟨wc.heap.size, 0, none⟩), .pointer (some ⟨w.heap.size, 0, none⟩)]] (wc.alloc (.cells #[.bool (k == 1)] 4)) (Gives (wc.alloc (.cells #[.bool (k == 1)] 4)) (.bool (dec (∀ x ∈ args, ((k == 1) = true ∨ ¬ SaidK x.kind) ∧ Src x)))) := by
        refine each_calls F _ 198 #[.pointer (some ⟨wc.heap.size, 0, none⟩), .pointer (some ⟨w.heap.size, 0, none⟩)] args _ (fun x => ((k == 1) = true ∨ ¬ SaidK x.kind) ∧ Src x) (hIw.alloc _) ((hxa.below hF hBw2 (Nat.le_refl _)).alloc hIw _) callFunc_stmt1 ?_
        intro x hx w2 cs hb2 hr2
        refine stmt1_calls x F w2 cs wc.heap.size w.heap.size (k == 1) ((hIw.alloc _).below hb2) ((hMw.alloc _).below hb2 (Nat.le_refl _)) hr2 ?_ ?_
        · rw [hb2.cell (by simp)]; go_simp
        · rw [hb2.cell (by simp; omega)]; go_simp
      have hbB : ∀ w', Below wc.heap.size wc w' → Calls Tryz.prog 89 #[.agg #[.func (.func 86) #[] #[], .func (.func 85) #[] #[], .int .i64 9], .slice a2 body.length cap2] w' (Gives w' (.bool (dec (Blk body)))) := fun w' hb =>
        hbd F w' _ (hIw.below hb) (hMw.below hb (Nat.le_refl _)) ((hxb.below hF hBw2 (Nat.le_refl _)).below hIw hb (Nat.le_refl _))
      have hlB : ∀ w', Below wc.heap.size wc w' → Calls Tryz.prog 89 #[.agg #[.func (.func 86) #[] #[], .func (.func 85) #[] #[], .int .i64 9], .slice a3 els.length cap3] w' (Gives w' (.bool (dec (Blk els)))) := fun w' hb =>
        hel F w' _ (hIw.below hb) (hMw.below hb (Nat.le_refl _)) ((hxe.below hF hBw2 (Nat.le_refl _)).below hIw hb (Nat.le_refl _))
      have hfin2 : Hid (R = dec ((∀ x ∈ args, ((k == 1) = true ∨ ¬ SaidK x.kind) ∧ Src x) ∧ Blk body ∧ Blk els)) := by
        show R = _
        rw [hfin.out]
        refine dec_congr ?_
        have hkk : (k == 1) = true ↔ k = 1 := beq_iff_eq
        simp only [hkk]
        exact ⟨fun h => h.2.2, fun h => ⟨hgt, hK, h⟩⟩
      generalize (∀ x ∈ args, ((k == 1) = true ∨ ¬ SaidK x.kind) ∧ Src x) = EA at *
      generalize Blk body = BB at *
      generalize Blk els = BL at *
      have HL := Lib.hid hlB
      clear hlB hfin hgt hK e0 hxa hxb hxe hbd hel hKe hF hm hIw hMw
      by_cases hE : EA
      rotate_left
      · obtain rfl : R = false := by rw [hfin2.out]; exact dec_false (fun h => hE h.1)
        rw [dec_false hE] at heach
        have HE := Lib.hid heach
        clear hfin2 hE heach hbB HL
        go_wp2_with (go_at_call 152; refine HE.out.mono ?_; rintro e w2 ⟨rfl, hb⟩; obtain ⟨hcl, hfz⟩ := bcell hb; have hbo := below_on1 (Below.refl _ _) (Nat.le_refl _) hb; have hsz6 := Nat.lt_of_lt_of_le hsz4 hbo.size; have hsz7 := Nat.lt_of_lt_of_le hsz5 hbo.size)
        go_ret
        exact ⟨rfl, below_on1 hBw2 (Nat.le_refl _) hb⟩
      rw [dec_true hE] at heach
      have HE := Lib.hid heach
      by_cases hBB : BB
      rotate_left
      · obtain rfl : R = false := by rw [hfin2.out]; exact dec_false (fun h => hBB h.2.1)
        rw [dec_false hBB] at hbB
        have HB := Lib.hid hbB
        clear hfin2 hE heach hbB HL hBB
        go_wp2_with (first | (go_at_call 152; refine HE.out.mono ?_; rintro e w2 ⟨rfl, hb⟩; obtain ⟨hcl, hfz⟩ := bcell hb; have hbo := below_on1 (Below.refl _ _) (Nat.le_refl _) hb; have hsz6 := Nat.lt_of_lt_of_le hsz4 hbo.size; have hsz7 := Nat.lt_of_lt_of_le hsz5 hbo.size) | (go_at_call 89; (with_reducible refine (HB.out _ hbo).mono ?_); rintro e w3 ⟨rfl, hb3⟩; obtain ⟨hcl3, hfz3⟩ := bcell hb3; have hbo3 := below_on hbo (Nat.le_refl _) hb3))
        go_ret
        exact ⟨rfl, below_on (below_on1 hBw2 (Nat.le_refl _) hb) (Nat.le_refl _) hb3⟩
      rw [dec_true hBB] at hbB
      have HB := Lib.hid hbB
      obtain rfl : R = dec BL := by rw [hfin2.out]; exact dec_congr ⟨fun h => h.2.2, fun h => ⟨hE, hBB, h⟩⟩
      clear hfin2 hE heach hbB hBB
      go_wp2_with (first | (go_at_call 152; refine HE.out.mono ?_; rintro e w2 ⟨rfl, hb⟩; obtain ⟨hcl, hfz⟩ := bcell hb; have hbo := below_on1 (Below.refl _ _) (Nat.le_refl _) hb; have hsz6 := Nat.lt_of_lt_of_le hsz4 hbo.size; have hsz7 := Nat.lt_of_lt_of_le hsz5 hbo.size) | (go_at_call 89; (first | ((with_reducible refine (HB.out _ hbo).mono ?_); rintro e w3 ⟨rfl, hb3⟩; obtain ⟨hcl3, hfz3⟩ := bcell hb3; have hbo3 := below_on hbo (Nat.le_refl _) hb3) | ((with_reducible refine (HL.out _ hbo3).mono ?_); rintro e w4 ⟨rfl, hb4⟩))))
      go_ret
      exact ⟨rfl, below_on (below_on (below_on1 hBw2 (Nat.le_refl _) hb) (Nat.le_refl _) hb3) (Nat.le_refl _) hb4⟩
end Go.Proofs.YtmabeegoapcfpaaGreatDoor
