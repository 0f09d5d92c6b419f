/- The walks of clewref10.rightBlock and clewref10.RightBlock: whether statements are those of a source. -/
import Derived.Test.YtblhpiebheommaaGreatKindsChecksPart30
import Derived.Test.YtblhpiebheommaaGreatRightR
import Derived.Test.YtblhpiebheommaaGreatStShapeR
import Derived.Test.YtblhpiebheommaaGreatKindsChecksPart6
import Derived.Test.YtblhpiebheommaaGreatKinds25
import Derived.Test.YtblhpiebheommaaGreatKindsChecksPart16
import Derived.Test.YtblhpiebheommaaGreatKindsChecksPart3
import Derived.Test.YtblhpiebheommaaGreatKindsChecksPart4
namespace Go.Proofs.YtblhpiebheommaaGreat
open Go.RowKit Go.Sort

/-- What the reference tests ahead of a statement's parts. -/
def HeadR (k n : Int) (s : ByteArray) (args : List Ex) (m2 m3 : Nat) : Prop :=
  shapeP k n s args.length m2 m3 ∧ n = 0 ∧ k ≠ 23 ∧ ((partsOf k).named = true → IsNm s) ∧ (k = 19 → ∀ x ∈ args.head?, x.kind = 9)

theorem good_iff (k n : Int) (s : ByteArray) (m m2 m3 : Nat) : StGood k n s m m2 m3 ↔ shapeP k n s m m2 m3 ∧ n = 0 ∧ k ≠ 23 ∧ ((partsOf k).named = true → IsNm s) := by
  unfold StGood shapeP HasP NameOk
  rcases skind_cases k with rfl | rfl | rfl | rfl | rfl | rfl | rfl | rfl | rfl | rfl | rfl | rfl | rfl | rfl | rfl | rfl | rfl | rfl | rfl | rfl | rfl | rfl | rfl | h | h
  case inr.inr.inr.inr.inr.inr.inr.inr.inr.inr.inr.inr.inr.inr.inr.inr.inr.inr.inr.inr.inr.inr.inr.inl =>
    have hz : partsOf k = ⟨false, false, false, 0, 0, false⟩ := by
      unfold partsOf
      repeat (rw [if_neg (by omega)])
    simp [hz]
  case inr.inr.inr.inr.inr.inr.inr.inr.inr.inr.inr.inr.inr.inr.inr.inr.inr.inr.inr.inr.inr.inr.inr.inr =>
    have hz : partsOf k = ⟨false, false, false, 0, 0, false⟩ := by
      unfold partsOf
      repeat (rw [if_neg (by omega)])
    simp [hz]
  all_goals
    simp [partsOf]
    try grind

theorem stOk_head (e : St) : StOk e ↔ HeadR e.kind e.num e.name e.args e.body.length e.els.length ∧ (∀ x ∈ e.args, RightR (decide (e.kind = 1)) x) ∧ Blk e.body ∧ Blk e.els := by
  rw [stOk_eq, good_iff]
  unfold HeadR
  simp only [rightR_iff, decide_eq_true_eq]
  constructor
  · rintro ⟨⟨h1, h2, h3, h4⟩, h5, h6, h7, h8⟩; exact ⟨⟨h1, h2, h3, h4, h5⟩, h6, h7, h8⟩
  · rintro ⟨⟨h1, h2, h3, h4, h5⟩, h6, h7, h8⟩; exact ⟨⟨h1, h2, h3, h4⟩, h5, h6, h7, h8⟩

def BlkRC (l : List St) : Prop := ∀ (F : Nat → Prop) (w : World) (v : Value), Inn F w → Sts F w l v →
    Calls Tryz.prog 64 #[v] w (Gives w (.bool (dec (Blk l))))

set_option maxRecDepth 100000 in
set_option maxHeartbeats 4000000 in
theorem blkR_calls : ∀ l : List St, BlkRC l := by
  refine blocks_ind fun l ih => ?_
  intro F w v hF hr
  obtain ⟨a, cap, rfl⟩ := hr.shape
  obtain ⟨_, hl, hc, ha⟩ := hr.opn
  clear hr
  go_enter Tryz.func64, Tryz.ntmps64
  go_wp2
  go_loopw [11] (fun i wr => ∃ (k : Nat), k ≤ l.length ∧ i = .int .i64 k ∧ Hid (∀ x ∈ l.take k, StOk x) ∧ Below w.heap.size w wr) (fun i _ => l.length - (intOf i).toNat)
  case atStart => exact ⟨0, Nat.zero_le _, rfl, by simp [Hid], Below.refl _ _⟩
  case round =>
    obtain ⟨wo, rfl⟩ : ∃ wo : World, wo = wr := ⟨_, rfl⟩
    obtain ⟨k, hk, rfl, hq, hB⟩ := hrel
    have hBw : Below w.heap.size w wo := hB
    by_cases hlt : k < l.length
    rotate_left
    · have : k = l.length := by omega
      subst this
      have hfin : Hid (dec (Blk l) = dec (l.length ≤ 256)) := dec_congr (by unfold Blk; have := hq.out; rw [List.take_length] at this; exact ⟨fun h => h.1, fun h => ⟨h, this⟩⟩)
      clear hq ih ha
      by_cases h256 : l.length ≤ 256
      · have q : decide ((l.length : Int) ≤ 256) = true := by simp; omega
        have hfin2 : Hid (dec (Blk l) = true) := by show _ = _; rw [hfin.out]; exact dec_true h256
        clear hfin h256
        go_wp2
        go_ret
        exact ⟨ret_bool hfin2.out.symm, hB⟩
      · have q : decide ((l.length : Int) ≤ 256) = false := by simp; omega
        have hfin2 : Hid (dec (Blk l) = false) := by show _ = _; rw [hfin.out]; exact dec_false h256
        clear hfin h256
        go_wp2
        go_ret
        exact ⟨ret_bool hfin2.out.symm, hB⟩
    obtain ⟨b, off, rfl, hFb, hel⟩ := ha (by omega)
    obtain ⟨kd, n, s, x1, m1, cp1, x2, m2, cp2, x3, m3, cp3, hx, g0, g1, g2, g3, g4, g5⟩ := hel wo (hB.block b (hF b hFb)) k hlt
    have hI := hF.below hB
    have hSt := stOk_head l[k]
    have hxr := hx.below hF hB (Nat.le_refl _)
    obtain ⟨ek, en, es, _, _, hsz, hxa, hxb, hxe⟩ := hxr.parts
    obtain ⟨rfl, hal, hac, haa⟩ := hxa.opn
    obtain rfl := hxb.opn.1
    obtain rfl := hxe.opn.1
    rw [ek, en, es] at hSt
    have hte : l.take (k + 1) = l.take k ++ [l[k]] := List.take_succ_eq_append_getElem hlt
    have hnext : Hid (StOk l[k] → (∀ x ∈ l.take (k + 1), StOk x)) := fun h => by
      rw [hte]; intro x hx1
      rcases List.mem_append.1 hx1 with h1 | h1
      · exact hq.out x h1
      · rw [List.mem_singleton.1 h1]; exact h
    have hstop : Hid (¬ StOk l[k] → dec (Blk l) = false) := fun h => dec_false (fun h1 => h (h1.2 _ (List.getElem_mem hlt)))
    have HCb := Lib.hid (fun w' (hb : Below wo.heap.size wo w') => (ih _ (List.getElem_mem hlt)).1 F w' _ (hI.below hb) (hxb.below hI hb (Nat.le_refl _)))
    have HCe := Lib.hid (fun w' (hb : Below wo.heap.size wo w') => (ih _ (List.getElem_mem hlt)).2 F w' _ (hI.below hb) (hxe.below hI hb (Nat.le_refl _)))
    have HSh := Lib.hid (fun ob => shape_calls kd n s x1 (l[k]).args.length cp1 x2 (l[k]).body.length cp2 x3 (l[k]).els.length cp3 (wo.alloc ob))
    have HN := Lib.hid (fun w' => nameR_calls s w' hsz)
    clear ih ha hel hx hxr hxa hxb hxe hte hq ek en es hsz
    generalize StOk l[k] = SO at *
    generalize (l[k]).args = args at *
    generalize (l[k]).body.length = bl at *
    generalize (l[k]).els.length = el at *
    generalize Blk (l[k]).body = BB at *
    generalize Blk (l[k]).els = BE at *
    have hSt2 : Hid (SO ↔ dec (HeadR kd n s args bl el) = true ∧ (∀ x ∈ args, RightR (kd == 1) x) ∧ dec BB = true ∧ dec BE = true) := by
      show _ ↔ _
      rw [hSt, dec_iff, dec_iff, dec_iff]
      rfl
    clear hSt
    generalize dec BB = bb at *
    generalize dec BE = be at *
    generalize hR : dec (HeadR kd n s args bl el) = R at *
    have hlen : kd = 19 → dec (shapeP kd n s args.length bl el) = true → 0 < args.length := fun h hs => by
      subst h
      have := (dec_iff.1 hs).2.1.1
      simp [partsOf] at this
      omega
    generalize hsp : dec (shapeP kd n s args.length bl el) = sp at *
    generalize hnm : (partsOf kd).named = nm at *
    generalize hdn : dec (IsNm s) = dn at *
    have hRv : R = dec (sp = true ∧ n = 0 ∧ kd ≠ 23 ∧ (nm = true → dn = true) ∧ (kd = 19 → ∀ x ∈ args.head?, x.kind = 9)) := by
      rw [← hR]
      refine dec_congr ?_
      unfold HeadR
      rw [← hsp, dec_iff, hnm, ← hdn, dec_iff]
    clear hR hsp hnm hdn
    go_upto_region 5 with (go_at_call 86; (with_reducible refine (HSh.out _).mono ?_); rintro e w1 ⟨rfl, hb⟩; obtain ⟨hcl, hfz⟩ := bcell hb; have hz1 := one_new hb)
    have hBW : Below wo.heap.size wo w1 := below_on1 (Below.refl wo.heap.size wo) (Nat.le_refl _) hb
    have hcs : Hid (CA w1 [(⟨wo.heap.size, 0, none⟩, .int .i64 kd), (⟨wo.heap.size, 1, none⟩, .int .i64 n), (⟨wo.heap.size, 2, none⟩, .string s), (⟨wo.heap.size, 3, none⟩, .slice x1 args.length cp1), (⟨wo.heap.size, 4, none⟩, .slice x2 bl cp2), (⟨wo.heap.size, 5, none⟩, .slice x3 el cp3)]) := ⟨⟨hz1, by go_simp⟩, ⟨hz1, by go_simp⟩, ⟨hz1, by go_simp⟩, ⟨hz1, by go_simp⟩, ⟨hz1, by go_simp⟩, ⟨hz1, by go_simp⟩, trivial⟩
    clear hcl hfz hb HSh g0 g1 g2 g3 g4 g5
    obtain ⟨⟨hz0, s0⟩, ⟨-, s1⟩, ⟨-, s2⟩, ⟨-, s3⟩, ⟨-, s4⟩, ⟨-, s5⟩, -⟩ := hcs.out
    have hBw2 : Hid (∀ wi, Below w1.heap.size w1 wi → ∀ c, F c → wi.heap[c]? = wo.heap[c]?) := fun wi hb c hc => by
      rw [(hBW.trans (hb.mono hBW.size)).block c (hI c hc)]
    have hbo := Below.refl w1.heap.size w1
    go_cut [11, 53] from 11 to 78 (fun i p wc => i = .int .i64 k ∧ p = .bool (!R) ∧ Below w1.heap.size w1 wc)
    case first =>
      clear HCb HCe hSt2 hnext hstop
      cases sp
      · clear haa hlen
        have hr0 : R = false := by rw [hRv]; exact dec_false (fun h => by cases h.1)
        clear hRv
        subst hr0
        go_wp2_with fail
        go_meet
        exact ⟨rfl, rfl, hbo⟩
      have hkx : Hid (kd = 19 → ∃ (c co : Nat) (kx : Int), x1 = some ⟨c, co, none⟩ ∧ w1.cell? ⟨c, co, none⟩ = some (.int .i64 kx) ∧ (0 : Int) < (args.length : Int) ∧ ((∀ x ∈ args.head?, x.kind = 9) ↔ kx = 9)) := fun h => by
        have hpos := hlen h rfl
        obtain ⟨c, co, rfl, hFc, hel⟩ := haa hpos
        obtain ⟨kx, ox, nx, sx, ax, mx, cx, hx, g0, -, -, -, -⟩ := hel w1 (hBw2.out w1 hbo c hFc) 0 hpos
        obtain ⟨ek, -, -, -, -, -, -, -, -⟩ := hx.parts
        refine ⟨c, co, kx, rfl, by simpa using g0, by omega, ?_⟩
        cases args with
        | nil => simp at hpos
        | cons a t =>
          simp only [List.getElem_cons_zero] at ek
          simp [ek]
      clear haa hlen
      by_cases hn : n = 0
      rotate_left
      · have hna : (n == 0) = false := by simp [hn]
        have hnb : (n != 0) = true := by simp [bne, hn]
        have hnc : decide (n = 0) = false := by simp [hn]
        have hnd : decide (¬ n = 0) = true := by simp [hn]
        have hr0 : R = false := by rw [hRv]; exact dec_false (fun h => hn h.2.1)
        clear hRv
        subst hr0
        go_wp2_with fail
        go_meet
        exact ⟨rfl, rfl, hbo⟩
      subst hn
      by_cases h23 : kd = 23
      · have hr0 : R = false := by rw [hRv]; exact dec_false (fun h => h.2.2.1 h23)
        clear hRv
        subst hr0
        subst h23
        clear hkx
        go_wp2_with fail
        go_meet
        exact ⟨rfl, rfl, hbo⟩
      have h23a : (kd == 23) = false := by simp [h23]
      have h23b : (kd != 23) = true := by simp [bne, h23]
      have h23c : decide (kd = 23) = false := by simp [h23]
      have h23d : decide (¬ kd = 23) = true := by simp [h23]
      have hRc : Hid (∀ (p : Prop), (nm = true → dn = true) → ((kd = 19 → ∀ x ∈ args.head?, x.kind = 9) ↔ p) → R = dec p) := fun p h1 h2 => by
        rw [hRv, ← h2]
        exact dec_congr ⟨fun h => h.2.2.2.2, fun h => ⟨rfl, rfl, h23, h1, h⟩⟩
      cases nm
      · clear hRv
        by_cases h19 : kd = 19
        rotate_left
        · have h19a : (kd == 19) = false := by simp [h19]
          have h19b : (kd != 19) = true := by simp [bne, h19]
          have h19c : decide (kd = 19) = false := by simp [h19]
          have h19d : decide (¬ kd = 19) = true := by simp [h19]
          have hr0 : R = true := by rw [hRc.out True (fun h => by cases h) ⟨fun _ => trivial, fun _ h => absurd h h19⟩]; exact dec_true trivial
          clear hRc
          subst hr0
          go_wp2_with fail
          go_meet
          exact ⟨rfl, rfl, hbo⟩
        obtain ⟨c, co, kx, rfl, e0, hix, hh9⟩ := hkx.out h19
        have hRd := hRc.out (kx = 9) (fun h => by cases h) ⟨fun h => hh9.1 (h h19), fun h _ => hh9.2 h⟩
        subst h19
        clear hRc hkx hh9
        by_cases hkx : kx = 9
        · have hr0 : R = true := by rw [hRd]; exact dec_true hkx
          clear hRd
          subst hr0
          subst hkx
          go_wp2_with fail
          go_meet
          exact ⟨rfl, rfl, hbo⟩
        · have hr0 : R = false := by rw [hRd]; exact dec_false hkx
          clear hRd
          subst hr0
          have hkxa : (kx == 9) = false := by simp [hkx]
          have hkxb : (kx != 9) = true := by simp [bne, hkx]
          have hkxc : decide (kx = 9) = false := by simp [hkx]
          have hkxd : decide (¬ kx = 9) = true := by simp [hkx]
          go_wp2_with fail
          go_meet
          exact ⟨rfl, rfl, hbo⟩
      · cases dn
        · clear hRc
          have hr0 : R = false := by rw [hRv]; exact dec_false (fun h => by have := h.2.2.2.1 rfl; cases this)
          clear hRv
          subst hr0
          go_wp2_with (go_at_call 84; (with_reducible refine (HN.out _).mono ?_); rintro e0 w0 ⟨rfl, rfl⟩)
          go_meet
          exact ⟨rfl, rfl, hbo⟩
        clear hRv
        by_cases h19 : kd = 19
        rotate_left
        · have h19a : (kd == 19) = false := by simp [h19]
          have h19b : (kd != 19) = true := by simp [bne, h19]
          have h19c : decide (kd = 19) = false := by simp [h19]
          have h19d : decide (¬ kd = 19) = true := by simp [h19]
          have hr0 : R = true := by rw [hRc.out True (fun _ => rfl) ⟨fun _ => trivial, fun _ h => absurd h h19⟩]; exact dec_true trivial
          clear hRc
          subst hr0
          go_wp2_with (go_at_call 84; (with_reducible refine (HN.out _).mono ?_); rintro e0 w0 ⟨rfl, rfl⟩)
          go_meet
          exact ⟨rfl, rfl, hbo⟩
        obtain ⟨c, co, kx, rfl, e0, hix, hh9⟩ := hkx.out h19
        have hRd := hRc.out (kx = 9) (fun _ => rfl) ⟨fun h => hh9.1 (h h19), fun h _ => hh9.2 h⟩
        subst h19
        clear hRc hkx hh9
        by_cases hkx : kx = 9
        · have hr0 : R = true := by rw [hRd]; exact dec_true hkx
          clear hRd
          subst hr0
          subst hkx
          go_wp2_with (go_at_call 84; (with_reducible refine (HN.out _).mono ?_); rintro e0 w0 ⟨rfl, rfl⟩)
          go_meet
          exact ⟨rfl, rfl, hbo⟩
        · have hr0 : R = false := by rw [hRd]; exact dec_false hkx
          clear hRd
          subst hr0
          have hkxa : (kx == 9) = false := by simp [hkx]
          have hkxb : (kx != 9) = true := by simp [bne, hkx]
          have hkxc : decide (kx = 9) = false := by simp [hkx]
          have hkxd : decide (¬ kx = 9) = true := by simp [hkx]
          go_wp2_with (go_at_call 84; (with_reducible refine (HN.out _).mono ?_); rintro e0 w0 ⟨rfl, rfl⟩)
          go_meet
          exact ⟨rfl, rfl, hbo⟩
    clear hRv hlen HN
    obtain ⟨rfl, rfl, hbo⟩ := hcut
    cases R
    · have hfin : Hid (dec (Blk l) = false) := hstop.out (fun h => by have := (hSt2.out.1 h).1; cases this)
      clear haa HCb HCe hnext hstop hSt2
      go_wp2_with fail
      go_ret
      exact ⟨ret_bool hfin.out.symm, hBw.trans ((hBW.trans (hbo.mono hBW.size)).mono hBw.size)⟩
    have hSt3 : Hid (SO ↔ (∀ x ∈ args, RightR (kd == 1) x) ∧ bb = true ∧ be = true) := ⟨fun h => (hSt2.out.1 h).2, fun h => hSt2.out.2 ⟨rfl, h⟩⟩
    clear hSt2
    obtain ⟨⟨hz0, s0⟩, ⟨-, s1⟩, ⟨-, s2⟩, ⟨-, s3⟩, ⟨-, s4⟩, ⟨-, s5⟩, -⟩ := hcs.out.below hbo
    go_wp2_with fail
    have HbI := Lib.hid hbo
    go_loopw [57] (fun i wi => ∃ (j : Nat), j ≤ args.length ∧ i = .int .i64 j ∧ Hid (∀ x ∈ args.take j, RightR (kd == 1) x) ∧ Below w1.heap.size w1 wi) (fun i _ => args.length - (intOf i).toNat)
    case atStart => exact ⟨0, Nat.zero_le _, rfl, (fun x hx => by simp at hx), HbI.out⟩
    case round =>
      obtain ⟨j, hj, rfl, hqj, hbo⟩ := hrel
      have hBR : Below w.heap.size w wr := hBw.trans ((hBW.trans (hbo.mono hBW.size)).mono hBw.size)
      obtain ⟨⟨hz0, s0⟩, ⟨-, s1⟩, ⟨-, s2⟩, ⟨-, s3⟩, ⟨-, s4⟩, ⟨-, s5⟩, -⟩ := hcs.out.below hbo
      have hzs : wo.heap.size < wr.heap.size := hz0
      by_cases hltj : j < args.length
      · obtain ⟨c, co, rfl, hFc, hel⟩ := haa (by omega)
        obtain ⟨kd', o', n', s', a', m', cap', hx, g0, g1, g2, g3, g4⟩ := hel wr (hBw2.out wr hbo c (hFc)) j hltj
        have hrr := fun (w' : World) (hb : Below wr.heap.size wr w') => rightR_calls args[j] F w' _ (kd == 1) (hF.below (hBR.trans (hb.mono hBR.size))) (hx.keep (fun b hb' => by rw [hBw.block b (hF b hb')]; exact (hBR.trans (hb.mono hBR.size)).block b (hF b hb')) (fun _ h => h))
        have hsn : Hid (dec (RightR (kd == 1) args[j]) = true → ∀ x ∈ args.take (j + 1), RightR (kd == 1) x) := fun h => by
          rw [List.take_succ_eq_append_getElem hltj]; intro x hx1
          rcases List.mem_append.1 hx1 with h1 | h1
          · exact hqj.out x h1
          · rw [List.mem_singleton.1 h1]; exact dec_iff.1 h
        have hsf : Hid (dec (RightR (kd == 1) args[j]) = false → dec (Blk l) = false) := fun h => hstop.out (fun h1 => by have := dec_true ((hSt3.out.1 h1).1 _ (List.getElem_mem hltj)); rw [h] at this; cases this)
        generalize dec (RightR (kd == 1) args[j]) = dj at *
        have HRr := Lib.hid hrr
        clear hrr hel hx haa HCb HCe hstop hSt3 hnext
        cases dj
        · have hfin := Lib.hid (hsf.out rfl)
          go_wp2_with (go_at_call 62; (with_reducible refine (HRr.out _ ((Below.refl _ _).alloc (Nat.le_refl _) _)).mono ?_); rintro e w2 ⟨rfl, hb⟩)
          go_ret
          exact ⟨ret_bool hfin.out.symm, hBR.trans ((below_on1 (Below.refl wr.heap.size wr) (Nat.le_refl _) hb).mono hBR.size)⟩
        · have hsn2 := Lib.hid (hsn.out rfl)
          clear hsn hsf
          go_wp2_with (go_at_call 62; (with_reducible refine (HRr.out _ ((Below.refl _ _).alloc (Nat.le_refl _) _)).mono ?_); rintro e w2 ⟨rfl, hb⟩)
          go_roundw
          case rel => exact ⟨j + 1, by omega, by go_num, hsn2.out, below_on1 hbo (Nat.le_refl _) hb⟩
          case measure => simp [intOf]; omega
      · have : j = args.length := by omega
        subst this
        have hqa : Hid (∀ x ∈ args, RightR (kd == 1) x) := by have := hqj.out; rwa [List.take_length] at this
        have hWr : Below wo.heap.size wo wr := hBW.trans (hbo.mono hBW.size)
        clear hqj haa
        cases bb
        · have hfin := Lib.hid (hstop.out (fun h => by have := (hSt3.out.1 h).2.1; cases this))
          clear hstop hnext hSt3 HCe
          go_wp2_with (go_at_call 64; (with_reducible refine (HCb.out _ hWr).mono ?_); rintro e w2 ⟨rfl, hb⟩)
          go_ret
          exact ⟨ret_bool hfin.out.symm, hBR.trans (hb.mono hBR.size)⟩
        cases be
        · have hfin := Lib.hid (hstop.out (fun h => by have := (hSt3.out.1 h).2.2; cases this))
          clear hstop hnext hSt3
          go_wp2_with (first | (go_at_call 64; (with_reducible refine (HCb.out _ hWr).mono ?_); rintro e w2 ⟨rfl, hb⟩; have hWr2 := below_on hWr (Nat.le_refl _) hb; obtain ⟨⟨hz0, s0⟩, ⟨-, s1⟩, ⟨-, s2⟩, ⟨-, s3⟩, ⟨-, s4⟩, ⟨-, s5⟩, -⟩ := hcs.out.below (below_on hbo (Nat.le_refl _) hb); clear HCb) | (go_at_call 64; (with_reducible refine (HCe.out _ hWr2).mono ?_); rintro e w3 ⟨rfl, hb3⟩; have hWr3 := below_on hWr2 (Nat.le_refl _) hb3))
          go_ret
          exact ⟨ret_bool hfin.out.symm, hB.trans (hWr3.mono hB.size)⟩
        have hnx : Hid (∀ x ∈ l.take (k + 1), StOk x) := hnext.out (hSt3.out.2 ⟨hqa.out, rfl, rfl⟩)
        clear hstop hnext hSt3
        go_wp2_with (first | (go_at_call 64; (with_reducible refine (HCb.out _ hWr).mono ?_); rintro e w2 ⟨rfl, hb⟩; have hWr2 := below_on hWr (Nat.le_refl _) hb; obtain ⟨⟨hz0, s0⟩, ⟨-, s1⟩, ⟨-, s2⟩, ⟨-, s3⟩, ⟨-, s4⟩, ⟨-, s5⟩, -⟩ := hcs.out.below (below_on hbo (Nat.le_refl _) hb); clear HCb) | (go_at_call 64; (with_reducible refine (HCe.out _ hWr2).mono ?_); rintro e w3 ⟨rfl, hb3⟩; have hWr3 := below_on hWr2 (Nat.le_refl _) hb3))
        go_roundw
        case rel => exact ⟨k + 1, by omega, by go_num, hnx, hB.trans (hWr3.mono hB.size)⟩
        case measure => simp [intOf]; omega

/-- The reference's RightBlock. -/
def RightBlockRC (l : List St) : Prop := ∀ (F : Nat → Prop) (w : World) (v : Value), Inn F w → Sts F w l v →
    Calls Tryz.prog 35 #[v] w (Gives w (.bool (dec (RightB l))))

set_option maxRecDepth 100000 in
set_option maxHeartbeats 1000000 in
theorem rightBlockR_calls (l : List St) : RightBlockRC l := by
  intro F w v hF hr
  obtain ⟨a, cap, rfl⟩ := hr.shape
  have hd := fun w' (hb : Below w.heap.size w w') => depthBR_calls l F w' _ (hF.below hb) (hr.below hF hb (Nat.le_refl _))
  have hs := fun w' (hb : Below w.heap.size w w') => blkR_calls l F w' _ (hF.below hb) (hr.below hF hb (Nat.le_refl _))
  have hR : Hid (dec (RightB l) = dec (St.depths l ≤ 32 ∧ Blk l)) := rfl
  generalize dec (RightB l) = R at *
  generalize hS : Blk l = S at *
  generalize hD : St.depths l = D at *
  have HD := Lib.hid hd
  have HS := Lib.hid hs
  clear hd hs hr hF hS hD
  by_cases h32 : D ≤ 32
  · obtain rfl : R = dec S := by rw [hR.out]; exact dec_congr (by simp [h32])
    have q : ((min D 65 : Nat) : Int) ≤ 32 := by omega
    clear hR h32
    go_enter Tryz.func35, Tryz.ntmps35
    go_wp2_with (first | (go_at_call 63; (with_reducible refine (HD.out _ (Below.refl _ _)).mono ?_); rintro e w' ⟨rfl, hb⟩) | (go_at_call 64; (with_reducible refine (HS.out _ hb).mono ?_); rintro e w2 ⟨rfl, hb2⟩))
    go_ret
    exact ⟨rfl, below_on hb (Nat.le_refl _) hb2⟩
  · obtain rfl : R = false := by rw [hR.out]; exact dec_false (fun h => h32 h.1)
    have q : ¬ ((min D 65 : Nat) : Int) ≤ 32 := by omega
    have q2 : decide (((min D 65 : Nat) : Int) ≤ 32) = false := by simpa using q
    clear hR h32 HS
    go_enter Tryz.func35, Tryz.ntmps35
    go_wp2_with (go_at_call 63; (with_reducible refine (HD.out _ (Below.refl _ _)).mono ?_); rintro e w' ⟨rfl, hb⟩)
    go_ret
    exact ⟨by first | rfl | (congr 2; omega) | simp, hb⟩

end Go.Proofs.YtblhpiebheommaaGreat
/- The walk of clewref16.Block; what is wrong with statements has no name where nothing is wrong. -/
namespace Go.Proofs.YtblhpiebheommaaGreat
open Go.RowKit

theorem clean_fresh (t : List NameD) (l : List ByteArray) (n : ByteArray) (m : Int) : Clean (freshW t l n m) := by
  unfold freshW
  split
  · intro h; exact absurd h (show ¬ ((10 : Int) = 0) by decide)
  · split
    · intro h; exact absurd h (show ¬ ((7 : Int) = 0) by decide)
    · intro _; rfl
theorem clean_ownSt (t : List NameD) (l : List ByteArray) (wh m k : Int) (n : ByteArray) : Clean (ownSt t l wh m k n) := by
  unfold ownSt
  split
  · exact clean_fresh _ _ _ _
  split
  · exact clean_fresh _ _ _ _
  split
  · exact clean_either _ _ _ _
  split
  · exact clean_of _ _ _
  split
  · exact clean_of _ _ _
  split
  · exact clean_of _ _ _
  split
  · exact clean_of _ _ _
  split
  · exact clean_of _ _ _
  split
  · split
    · intro _; rfl
    · intro h; exact absurd h (by decide)
  split
  · split
    · intro _; rfl
    · intro h; exact absurd h (by decide)
  · intro _; rfl
theorem clean_kWsS (t : List NameD) (fs : List FuncD) (wh : Int) : ∀ L : List St, ∀ (l : List ByteArray) (m : Int), Clean (St.kWs t fs wh l m L) := by
  refine blocks_ind fun L ih => ?_
  induction L with
  | nil => intro l m _; rfl
  | cons s r ihr =>
    intro l m
    rw [St.kWs_cons]
    obtain ⟨h1, h2⟩ := ih s (List.mem_cons_self ..)
    exact clean_seq (clean_kWs s.args fun x _ => clean_kW t fs l x) (clean_seq (clean_ownSt _ _ _ _ _ _) (clean_seq (h1 _ _) (clean_seq (h2 _ _) (ihr (fun x hx => ih x (List.mem_cons_of_mem _ hx)) _ _))))

theorem lones_of_blk : ∀ L : List St, Blk L → St.lones L := by
  refine blocks_ind fun L ih => ?_
  intro hB
  have h2 := hB.2
  clear hB
  induction L with
  | nil => trivial
  | cons s r ihr =>
    refine ⟨?_, ihr (fun x hx => ih x (List.mem_cons_of_mem _ hx)) fun x hx => h2 x (List.mem_cons_of_mem _ hx)⟩
    have hs := (stOk_eq s).1 (h2 s (List.mem_cons_self ..))
    obtain ⟨h3, h4⟩ := ih s (List.mem_cons_self ..)
    obtain ⟨k, n', n, args, body, els⟩ := s
    simp only [St.kind, St.body, St.els] at hs h3 h4
    refine ⟨fun hk => ?_, h3 hs.2.2.2.1, h4 hs.2.2.2.2⟩
    subst hk
    have hg := hs.1
    unfold StGood at hg
    obtain ⟨-, -, -, hb, he, -⟩ := hg
    constructor
    · rcases hb with hb | hb
      · exact absurd hb (by decide)
      · exact List.eq_nil_of_length_eq_zero hb
    · rcases he with he | he
      · exact absurd he (by decide)
      · exact List.eq_nil_of_length_eq_zero he

end Go.Proofs.YtblhpiebheommaaGreat
/- The walks of kinds' whole: many; Check's closure. Printed by gen-kinds14.py. -/
namespace Go.Proofs.YtblhpiebheommaaGreat
open Go.RowKit

/-- How many there are of a part. -/
def manyN (s : SrcD) (p : Int) : Nat := if p = 1 then 1 else if p = 5 then s.objects.length else if p = 6 then s.verbs.length else if p = 7 then s.rules.length else if p = 8 then s.funcs.length else s.daemons.length

set_option maxRecDepth 100000 in
set_option maxHeartbeats 1000000 in
theorem many_calls (t : List NameD) (s : SrcD) (p : Int) (F : Nat → Prop) (w : World) (tv : Value) (ss : List Value) (h0 : RdNames F w t tv) (h1 : Holds.src.R F w s ss) :
    Calls Tryz.prog 21 #[.agg (tv :: ss).toArray, .int .i64 p] w (Gives w (.int .i64 (manyN s p))) := by
  obtain ⟨a0, c0, rfl⟩ := h0.shape
  obtain ⟨a5, c5, a6, c6, a7, c7, a8, c8, a9, c9, a10, c10, a11, c11, a12, c12, rfl, g5, g6, g7, g8, g9, g10, g11, g12⟩ := src_shape h1
  have hB1 : ∀ o, Below w.heap.size w (w.alloc o) := fun o => (Below.refl _ w).alloc (Nat.le_refl _) _
  have HB := Lib.hid hB1
  clear h0 h1 g5 g6 g7 g8 g9 g10 g11 g12 hB1
  unfold manyN
  by_cases h1 : p = 1
  · subst h1
    go_enter Tryz.func21, Tryz.ntmps21
    go_wp2
    go_ret
    exact ⟨rfl, HB.out _⟩
  have e1 : (p == 1) = false := by simpa using h1
  rw [if_neg h1]
  clear h1
  by_cases h5 : p = 5
  · subst h5
    go_enter Tryz.func21, Tryz.ntmps21
    go_wp2
    go_ret
    exact ⟨rfl, HB.out _⟩
  have e5 : (p == 5) = false := by simpa using h5
  rw [if_neg h5]
  clear h5
  by_cases h6 : p = 6
  · subst h6
    go_enter Tryz.func21, Tryz.ntmps21
    go_wp2
    go_ret
    exact ⟨rfl, HB.out _⟩
  have e6 : (p == 6) = false := by simpa using h6
  rw [if_neg h6]
  clear h6
  by_cases h7 : p = 7
  · subst h7
    go_enter Tryz.func21, Tryz.ntmps21
    go_wp2
    go_ret
    exact ⟨rfl, HB.out _⟩
  have e7 : (p == 7) = false := by simpa using h7
  rw [if_neg h7]
  clear h7
  by_cases h8 : p = 8
  · subst h8
    go_enter Tryz.func21, Tryz.ntmps21
    go_wp2
    go_ret
    exact ⟨rfl, HB.out _⟩
  have e8 : (p == 8) = false := by simpa using h8
  rw [if_neg h8]
  clear h8
  go_enter Tryz.func21, Tryz.ntmps21
  go_wp2
  go_ret
  exact ⟨rfl, HB.out _⟩

set_option maxRecDepth 100000 in
set_option maxHeartbeats 1000000 in
theorem check1_calls (t : List NameD) (s : SrcD) (part i : Int) (q : Int × ByteArray) (F : Nat → Prop) (w : World) (b0 b1 b2 : Nat) (tv : Value) (ss : List Value) (h0 : RdNames F w t tv) (h1 : Holds.src.R F w s ss) (hb0 : BoxAt w b0 (tv :: ss)) (hb1 : BoxAt w b1 [.int .i64 part]) (hb2 : BoxAt w b2 [.int .i64 i])
    (hc : Calls Tryz.prog 24 #[.agg (tv :: ss).toArray, .int .i64 part, .int .i64 i] w (Judged w q (.tuple #[]))) :
    Calls Tryz.prog 23 #[.pointer (some ⟨b0, 0, none⟩), .pointer (some ⟨b1, 0, none⟩), .pointer (some ⟨b2, 0, none⟩)] w (Judged w q (.tuple #[])) := by
  obtain ⟨a0, c0, rfl⟩ := h0.shape
  obtain ⟨a5, c5, a6, c6, a7, c7, a8, c8, a9, c9, a10, c10, a11, c11, a12, c12, rfl, g5, g6, g7, g8, g9, g10, g11, g12⟩ := src_shape h1

  have s0 := hb0.2 0 (by simp)
  have s1 := hb0.2 1 (by simp)
  have s2 := hb0.2 2 (by simp)
  have s3 := hb0.2 3 (by simp)
  have s4 := hb0.2 4 (by simp)
  have s5 := hb0.2 5 (by simp)
  have s6 := hb0.2 6 (by simp)
  have s7 := hb0.2 7 (by simp)
  have s8 := hb0.2 8 (by simp)
  have s9 := hb0.2 9 (by simp)
  have s10 := hb0.2 10 (by simp)
  have s11 := hb0.2 11 (by simp)
  have s12 := hb0.2 12 (by simp)
  have s13 := hb0.2 13 (by simp)
  simp only [List.getElem?_cons_succ, List.getElem?_cons_zero] at s0 s1 s2 s3 s4 s5 s6 s7 s8 s9 s10 s11 s12 s13
  have p0 := hb1.one
  have p1 := hb2.one
  clear h0 h1 g5 g6 g7 g8 g9 g10 g11 g12 hb0 hb1 hb2
  by_cases hq : q.1 = 0
  · have HC := Lib.hid (judged_ok hc hq)
    have HQ := Lib.hid hq
    clear hc hq
    go_enter Tryz.func23, Tryz.ntmps23
    go_wp2_with (go_at_call 24; refine HC.out.mono ?_; rintro e w1 ⟨rfl, hb⟩)
    go_end0
    exact Judged.fine HQ.out rfl hb
  · have HC := Lib.hid (judged_bad hc hq)
    have HQ := Lib.hid hq
    clear hc hq
    go_enter Tryz.func23, Tryz.ntmps23
    go_wp2_with (go_at_call 24; refine HC.out.mono ?_; rintro e w1 ⟨rfl, hb⟩)
    exact ⟨rfl, Judged.thrown rfl HQ.out rfl hb⟩
end Go.Proofs.YtblhpiebheommaaGreat
/- The declarations of a source, in order, and the table of names that is made of them: plain data. No program in sight. -/
namespace Go.Proofs.YtblhpiebheommaaGreat
open Go.RowKit

/-- A declaration. -/
structure EntD where
  name : ByteArray
  kind : Int
  part : Int
  place : Int
  num : Int
  most : Int
def Holds.ent : Holds EntD := ⟨fun _ _ x cs => x.name.size ≤ maxLen ∧ I64 x.kind ∧ I64 x.part ∧ I64 x.place ∧ I64 x.num ∧ I64 x.most ∧ cs = [.string x.name, .int .i64 x.kind, .int .i64 x.part, .int .i64 x.place, .int .i64 x.num, .int .i64 x.most], fun _ _ h => h⟩

/-- The declarations of a list, from place k on. -/
def ents {α : Type} (nm : α → ByteArray) (kd pt sh mo : Int) : Nat → List α → List EntD
  | _, [] => []
  | k, x :: l => ⟨nm x, kd, pt, k, k + sh, mo⟩ :: ents nm kd pt sh mo (k + 1) l

theorem ents_append {α : Type} (nm : α → ByteArray) (kd pt sh mo : Int) : ∀ (a b : List α) (k : Nat), ents nm kd pt sh mo k (a ++ b) = ents nm kd pt sh mo k a ++ ents nm kd pt sh mo (k + a.length) b
  | [], b, k => by simp [ents]
  | x :: a, b, k => by
    simp only [List.cons_append, ents, List.length_cons]
    rw [ents_append nm kd pt sh mo a b (k + 1)]
    rw [show k + 1 + a.length = k + (a.length + 1) by omega]
theorem ents_len {α : Type} (nm : α → ByteArray) (kd pt sh mo : Int) : ∀ (a : List α) (k : Nat), (ents nm kd pt sh mo k a).length = a.length
  | [], _ => rfl
  | _ :: a, k => by simp [ents, ents_len nm kd pt sh mo a (k + 1)]
theorem ents_take {α : Type} (nm : α → ByteArray) (kd pt sh mo : Int) (l : List α) (k : Nat) (h : k < l.length) : ents nm kd pt sh mo 0 (l.take (k + 1)) = ents nm kd pt sh mo 0 (l.take k) ++ [⟨nm l[k], kd, pt, k, k + sh, mo⟩] := by
  rw [List.take_succ_eq_append_getElem h, ents_append]
  simp [ents, Nat.min_eq_left (Nat.le_of_lt h)]

/-- All declarations of a source, in the order in which they are gone through. -/
def SrcD.ents (s : SrcD) : List EntD :=
  ((((((YtblhpiebheommaaGreat.ents (fun x => x) 1 2 4 12 0 s.flags ++ YtblhpiebheommaaGreat.ents PairD.name 2 3 0 16 0 s.props) ++ YtblhpiebheommaaGreat.ents PairD.name 3 4 0 64 0 s.globals) ++ YtblhpiebheommaaGreat.ents ObjD.name 4 5 2 126 0 s.objects) ++ YtblhpiebheommaaGreat.ents VerbD.name 5 6 0 64 0 s.verbs) ++ YtblhpiebheommaaGreat.ents FuncD.name 6 8 0 64 0 s.funcs) ++ YtblhpiebheommaaGreat.ents FuncD.name 7 9 0 16 0 s.daemons)
end Go.Proofs.YtblhpiebheommaaGreat
