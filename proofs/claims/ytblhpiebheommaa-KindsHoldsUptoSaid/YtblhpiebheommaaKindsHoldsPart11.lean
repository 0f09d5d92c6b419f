/- The walks of clewref10.rightBlock and clewref10.RightBlock: whether statements are those of a source. -/
import Derived.Test.YtblhpiebheommaaKindsHoldsPart7
import Derived.Test.YtblhpiebheommaaRightR
import Derived.Test.YtblhpiebheommaaStShapeR
import Derived.Test.YtblhpiebheommaaKindsHoldsPart10
import Derived.Test.YtblhpiebheommaaKindsHoldsPart4
namespace Go.Proofs.Ytblhpiebheommaa
open Go.RowKit Go.Sort

/-- What the reference tests ahead of a statement's parts. -/
def HeadR (k n : Int) (s : ByteArray) (args : List Ex) (m2 m3 : Nat) : Prop :=
  shapeP k n s args.length m2 m3 ∧ n = 0 ∧ k ≠ 23 ∧ ((partsOf k).named = true → IsNm s) ∧ (k = 19 → ∀ x ∈ args.head?, x.kind = 9)

theorem good_iff (k n : Int) (s : ByteArray) (m m2 m3 : Nat) : StGood k n s m m2 m3 ↔ shapeP k n s m m2 m3 ∧ n = 0 ∧ k ≠ 23 ∧ ((partsOf k).named = true → IsNm s) := by
  unfold StGood shapeP HasP NameOk
  rcases skind_cases k with rfl | rfl | rfl | rfl | rfl | rfl | rfl | rfl | rfl | rfl | rfl | rfl | rfl | rfl | rfl | rfl | rfl | rfl | rfl | rfl | rfl | rfl | rfl | h | h
  case inr.inr.inr.inr.inr.inr.inr.inr.inr.inr.inr.inr.inr.inr.inr.inr.inr.inr.inr.inr.inr.inr.inr.inl =>
    have hz : partsOf k = ⟨false, false, false, 0, 0, false⟩ := by
      unfold partsOf
      repeat (rw [if_neg (by omega)])
    simp [hz]
  case inr.inr.inr.inr.inr.inr.inr.inr.inr.inr.inr.inr.inr.inr.inr.inr.inr.inr.inr.inr.inr.inr.inr.inr =>
    have hz : partsOf k = ⟨false, false, false, 0, 0, false⟩ := by
      unfold partsOf
      repeat (rw [if_neg (by omega)])
    simp [hz]
  all_goals
    simp [partsOf]
    try grind

theorem stOk_head (e : St) : StOk e ↔ HeadR e.kind e.num e.name e.args e.body.length e.els.length ∧ (∀ x ∈ e.args, RightR (decide (e.kind = 1)) x) ∧ Blk e.body ∧ Blk e.els := by
  rw [stOk_eq, good_iff]
  unfold HeadR
  simp only [rightR_iff, decide_eq_true_eq]
  constructor
  · rintro ⟨⟨h1, h2, h3, h4⟩, h5, h6, h7, h8⟩; exact ⟨⟨h1, h2, h3, h4, h5⟩, h6, h7, h8⟩
  · rintro ⟨⟨h1, h2, h3, h4, h5⟩, h6, h7, h8⟩; exact ⟨⟨h1, h2, h3, h4⟩, h5, h6, h7, h8⟩

def BlkRC (l : List St) : Prop := ∀ (F : Nat → Prop) (w : World) (v : Value), Inn F w → Sts F w l v →
    Calls Try.prog 37 #[v] w (Gives w (.bool (dec (Blk l))))

set_option maxRecDepth 100000 in
set_option maxHeartbeats 4000000 in
theorem blkR_calls : ∀ l : List St, BlkRC l := by
  refine blocks_ind fun l ih => ?_
  intro F w v hF hr
  obtain ⟨a, cap, rfl⟩ := hr.shape
  obtain ⟨_, hl, hc, ha⟩ := hr.opn
  clear hr
  go_enter Try.func37, Try.ntmps37
  go_wp2
  go_loopw [11] (fun i wr => ∃ (k : Nat), k ≤ l.length ∧ i = .int .i64 k ∧ Hid (∀ x ∈ l.take k, StOk x) ∧ Below w.heap.size w wr) (fun i _ => l.length - (intOf i).toNat)
  case atStart => exact ⟨0, Nat.zero_le _, rfl, by simp [Hid], Below.refl _ _⟩
  case round =>
    obtain ⟨wo, rfl⟩ : ∃ wo : World, wo = wr := ⟨_, rfl⟩
    obtain ⟨k, hk, rfl, hq, hB⟩ := hrel
    have hBw : Below w.heap.size w wo := hB
    by_cases hlt : k < l.length
    rotate_left
    · have : k = l.length := by omega
      subst this
      have hfin : Hid (dec (Blk l) = dec (l.length ≤ 256)) := dec_congr (by unfold Blk; have := hq.out; rw [List.take_length] at this; exact ⟨fun h => h.1, fun h => ⟨h, this⟩⟩)
      clear hq ih ha
      by_cases h256 : l.length ≤ 256
      · have q : decide ((l.length : Int) ≤ 256) = true := by simp; omega
        have hfin2 : Hid (dec (Blk l) = true) := by show _ = _; rw [hfin.out]; exact dec_true h256
        clear hfin h256
        go_wp2
        go_ret
        exact ⟨ret_bool hfin2.out.symm, hB⟩
      · have q : decide ((l.length : Int) ≤ 256) = false := by simp; omega
        have hfin2 : Hid (dec (Blk l) = false) := by show _ = _; rw [hfin.out]; exact dec_false h256
        clear hfin h256
        go_wp2
        go_ret
        exact ⟨ret_bool hfin2.out.symm, hB⟩
    obtain ⟨b, off, rfl, hFb, hel⟩ := ha (by omega)
    obtain ⟨kd, n, s, x1, m1, cp1, x2, m2, cp2, x3, m3, cp3, hx, g0, g1, g2, g3, g4, g5⟩ := hel wo (hB.block b (hF b hFb)) k hlt
    have hI := hF.below hB
    have hSt := stOk_head l[k]
    have hxr := hx.below hF hB (Nat.le_refl _)
    obtain ⟨ek, en, es, _, _, hsz, hxa, hxb, hxe⟩ := hxr.parts
    obtain ⟨rfl, hal, hac, haa⟩ := hxa.opn
    obtain rfl := hxb.opn.1
    obtain rfl := hxe.opn.1
    rw [ek, en, es] at hSt
    have hte : l.take (k + 1) = l.take k ++ [l[k]] := List.take_succ_eq_append_getElem hlt
    have hnext : Hid (StOk l[k] → (∀ x ∈ l.take (k + 1), StOk x)) := fun h => by
      rw [hte]; intro x hx1
      rcases List.mem_append.1 hx1 with h1 | h1
      · exact hq.out x h1
      · rw [List.mem_singleton.1 h1]; exact h
    have hstop : Hid (¬ StOk l[k] → dec (Blk l) = false) := fun h => dec_false (fun h1 => h (h1.2 _ (List.getElem_mem hlt)))
    have HCb := Lib.hid (fun w' (hb : Below wo.heap.size wo w') => (ih _ (List.getElem_mem hlt)).1 F w' _ (hI.below hb) (hxb.below hI hb (Nat.le_refl _)))
    have HCe := Lib.hid (fun w' (hb : Below wo.heap.size wo w') => (ih _ (List.getElem_mem hlt)).2 F w' _ (hI.below hb) (hxe.below hI hb (Nat.le_refl _)))
    have HSh := Lib.hid (fun ob => shape_calls kd n s x1 (l[k]).args.length cp1 x2 (l[k]).body.length cp2 x3 (l[k]).els.length cp3 (wo.alloc ob))
    have HN := Lib.hid (fun w' => nameR_calls s w' hsz)
    clear ih ha hel hx hxr hxa hxb hxe hte hq ek en es hsz
    generalize StOk l[k] = SO at *
    generalize (l[k]).args = args at *
    generalize (l[k]).body.length = bl at *
    generalize (l[k]).els.length = el at *
    generalize Blk (l[k]).body = BB at *
    generalize Blk (l[k]).els = BE at *
    have hSt2 : Hid (SO ↔ dec (HeadR kd n s args bl el) = true ∧ (∀ x ∈ args, RightR (kd == 1) x) ∧ dec BB = true ∧ dec BE = true) := by
      show _ ↔ _
      rw [hSt, dec_iff, dec_iff, dec_iff]
      rfl
    clear hSt
    generalize dec BB = bb at *
    generalize dec BE = be at *
    generalize hR : dec (HeadR kd n s args bl el) = R at *
    have hlen : kd = 19 → dec (shapeP kd n s args.length bl el) = true → 0 < args.length := fun h hs => by
      subst h
      have := (dec_iff.1 hs).2.1.1
      simp [partsOf] at this
      omega
    generalize hsp : dec (shapeP kd n s args.length bl el) = sp at *
    generalize hnm : (partsOf kd).named = nm at *
    generalize hdn : dec (IsNm s) = dn at *
    have hRv : R = dec (sp = true ∧ n = 0 ∧ kd ≠ 23 ∧ (nm = true → dn = true) ∧ (kd = 19 → ∀ x ∈ args.head?, x.kind = 9)) := by
      rw [← hR]
      refine dec_congr ?_
      unfold HeadR
      rw [← hsp, dec_iff, hnm, ← hdn, dec_iff]
    clear hR hsp hnm hdn
    go_upto_region 5 with (go_at_call 64; (with_reducible refine (HSh.out _).mono ?_); rintro e w1 ⟨rfl, hb⟩; obtain ⟨hcl, hfz⟩ := bcell hb; have hz1 := one_new hb)
    have hBW : Below wo.heap.size wo w1 := below_on1 (Below.refl wo.heap.size wo) (Nat.le_refl _) hb
    have hcs : Hid (CA w1 [(⟨wo.heap.size, 0, none⟩, .int .i64 kd), (⟨wo.heap.size, 1, none⟩, .int .i64 n), (⟨wo.heap.size, 2, none⟩, .string s), (⟨wo.heap.size, 3, none⟩, .slice x1 args.length cp1), (⟨wo.heap.size, 4, none⟩, .slice x2 bl cp2), (⟨wo.heap.size, 5, none⟩, .slice x3 el cp3)]) := ⟨⟨hz1, by go_simp⟩, ⟨hz1, by go_simp⟩, ⟨hz1, by go_simp⟩, ⟨hz1, by go_simp⟩, ⟨hz1, by go_simp⟩, ⟨hz1, by go_simp⟩, trivial⟩
    clear hcl hfz hb HSh g0 g1 g2 g3 g4 g5
    obtain ⟨⟨hz0, s0⟩, ⟨-, s1⟩, ⟨-, s2⟩, ⟨-, s3⟩, ⟨-, s4⟩, ⟨-, s5⟩, -⟩ := hcs.out
    have hBw2 : Hid (∀ wi, Below w1.heap.size w1 wi → ∀ c, F c → wi.heap[c]? = wo.heap[c]?) := fun wi hb c hc => by
      rw [(hBW.trans (hb.mono hBW.size)).block c (hI c hc)]
    have hbo := Below.refl w1.heap.size w1
    go_cut [11, 53] from 11 to 78 (fun i p wc => i = .int .i64 k ∧ p = .bool (!R) ∧ Below w1.heap.size w1 wc)
    case first =>
      clear HCb HCe hSt2 hnext hstop
      cases sp
      · clear haa hlen
        have hr0 : R = false := by rw [hRv]; exact dec_false (fun h => by cases h.1)
        clear hRv
        subst hr0
        go_wp2_with fail
        go_meet
        exact ⟨rfl, rfl, hbo⟩
      have hkx : Hid (kd = 19 → ∃ (c co : Nat) (kx : Int), x1 = some ⟨c, co, none⟩ ∧ w1.cell? ⟨c, co, none⟩ = some (.int .i64 kx) ∧ (0 : Int) < (args.length : Int) ∧ ((∀ x ∈ args.head?, x.kind = 9) ↔ kx = 9)) := fun h => by
        have hpos := hlen h rfl
        obtain ⟨c, co, rfl, hFc, hel⟩ := haa hpos
        obtain ⟨kx, ox, nx, sx, ax, mx, cx, hx, g0, -, -, -, -⟩ := hel w1 (hBw2.out w1 hbo c hFc) 0 hpos
        obtain ⟨ek, -, -, -, -, -, -, -, -⟩ := hx.parts
        refine ⟨c, co, kx, rfl, by simpa using g0, by omega, ?_⟩
        cases args with
        | nil => simp at hpos
        | cons a t =>
          simp only [List.getElem_cons_zero] at ek
          simp [ek]
      clear haa hlen
      by_cases hn : n = 0
      rotate_left
      · have hna : (n == 0) = false := by simp [hn]
        have hnb : (n != 0) = true := by simp [bne, hn]
        have hnc : decide (n = 0) = false := by simp [hn]
        have hnd : decide (¬ n = 0) = true := by simp [hn]
        have hr0 : R = false := by rw [hRv]; exact dec_false (fun h => hn h.2.1)
        clear hRv
        subst hr0
        go_wp2_with fail
        go_meet
        exact ⟨rfl, rfl, hbo⟩
      subst hn
      by_cases h23 : kd = 23
      · have hr0 : R = false := by rw [hRv]; exact dec_false (fun h => h.2.2.1 h23)
        clear hRv
        subst hr0
        subst h23
        clear hkx
        go_wp2_with fail
        go_meet
        exact ⟨rfl, rfl, hbo⟩
      have h23a : (kd == 23) = false := by simp [h23]
      have h23b : (kd != 23) = true := by simp [bne, h23]
      have h23c : decide (kd = 23) = false := by simp [h23]
      have h23d : decide (¬ kd = 23) = true := by simp [h23]
      have hRc : Hid (∀ (p : Prop), (nm = true → dn = true) → ((kd = 19 → ∀ x ∈ args.head?, x.kind = 9) ↔ p) → R = dec p) := fun p h1 h2 => by
        rw [hRv, ← h2]
        exact dec_congr ⟨fun h => h.2.2.2.2, fun h => ⟨rfl, rfl, h23, h1, h⟩⟩
      cases nm
      · clear hRv
        by_cases h19 : kd = 19
        rotate_left
        · have h19a : (kd == 19) = false := by simp [h19]
          have h19b : (kd != 19) = true := by simp [bne, h19]
          have h19c : decide (kd = 19) = false := by simp [h19]
          have h19d : decide (¬ kd = 19) = true := by simp [h19]
          have hr0 : R = true := by rw [hRc.out True (fun h => by cases h) ⟨fun _ => trivial, fun _ h => absurd h h19⟩]; exact dec_true trivial
          clear hRc
          subst hr0
          go_wp2_with fail
          go_meet
          exact ⟨rfl, rfl, hbo⟩
        obtain ⟨c, co, kx, rfl, e0, hix, hh9⟩ := hkx.out h19
        have hRd := hRc.out (kx = 9) (fun h => by cases h) ⟨fun h => hh9.1 (h h19), fun h _ => hh9.2 h⟩
        subst h19
        clear hRc hkx hh9
        by_cases hkx : kx = 9
        · have hr0 : R = true := by rw [hRd]; exact dec_true hkx
          clear hRd
          subst hr0
          subst hkx
          go_wp2_with fail
          go_meet
          exact ⟨rfl, rfl, hbo⟩
        · have hr0 : R = false := by rw [hRd]; exact dec_false hkx
          clear hRd
          subst hr0
          have hkxa : (kx == 9) = false := by simp [hkx]
          have hkxb : (kx != 9) = true := by simp [bne, hkx]
          have hkxc : decide (kx = 9) = false := by simp [hkx]
          have hkxd : decide (¬ kx = 9) = true := by simp [hkx]
          go_wp2_with fail
          go_meet
          exact ⟨rfl, rfl, hbo⟩
      · cases dn
        · clear hRc
          have hr0 : R = false := by rw [hRv]; exact dec_false (fun h => by have := h.2.2.2.1 rfl; cases this)
          clear hRv
          subst hr0
          go_wp2_with (go_at_call 55; (with_reducible refine (HN.out _).mono ?_); rintro e0 w0 ⟨rfl, rfl⟩)
          go_meet
          exact ⟨rfl, rfl, hbo⟩
        clear hRv
        by_cases h19 : kd = 19
        rotate_left
        · have h19a : (kd == 19) = false := by simp [h19]
          have h19b : (kd != 19) = true := by simp [bne, h19]
          have h19c : decide (kd = 19) = false := by simp [h19]
          have h19d : decide (¬ kd = 19) = true := by simp [h19]
          have hr0 : R = true := by rw [hRc.out True (fun _ => rfl) ⟨fun _ => trivial, fun _ h => absurd h h19⟩]; exact dec_true trivial
          clear hRc
          subst hr0
          go_wp2_with (go_at_call 55; (with_reducible refine (HN.out _).mono ?_); rintro e0 w0 ⟨rfl, rfl⟩)
          go_meet
          exact ⟨rfl, rfl, hbo⟩
        obtain ⟨c, co, kx, rfl, e0, hix, hh9⟩ := hkx.out h19
        have hRd := hRc.out (kx = 9) (fun _ => rfl) ⟨fun h => hh9.1 (h h19), fun h _ => hh9.2 h⟩
        subst h19
        clear hRc hkx hh9
        by_cases hkx : kx = 9
        · have hr0 : R = true := by rw [hRd]; exact dec_true hkx
          clear hRd
          subst hr0
          subst hkx
          go_wp2_with (go_at_call 55; (with_reducible refine (HN.out _).mono ?_); rintro e0 w0 ⟨rfl, rfl⟩)
          go_meet
          exact ⟨rfl, rfl, hbo⟩
        · have hr0 : R = false := by rw [hRd]; exact dec_false hkx
          clear hRd
          subst hr0
          have hkxa : (kx == 9) = false := by simp [hkx]
          have hkxb : (kx != 9) = true := by simp [bne, hkx]
          have hkxc : decide (kx = 9) = false := by simp [hkx]
          have hkxd : decide (¬ kx = 9) = true := by simp [hkx]
          go_wp2_with (go_at_call 55; (with_reducible refine (HN.out _).mono ?_); rintro e0 w0 ⟨rfl, rfl⟩)
          go_meet
          exact ⟨rfl, rfl, hbo⟩
    clear hRv hlen HN
    obtain ⟨rfl, rfl, hbo⟩ := hcut
    cases R
    · have hfin : Hid (dec (Blk l) = false) := hstop.out (fun h => by have := (hSt2.out.1 h).1; cases this)
      clear haa HCb HCe hnext hstop hSt2
      go_wp2_with fail
      go_ret
      exact ⟨ret_bool hfin.out.symm, hBw.trans ((hBW.trans (hbo.mono hBW.size)).mono hBw.size)⟩
    have hSt3 : Hid (SO ↔ (∀ x ∈ args, RightR (kd == 1) x) ∧ bb = true ∧ be = true) := ⟨fun h => (hSt2.out.1 h).2, fun h => hSt2.out.2 ⟨rfl, h⟩⟩
    clear hSt2
    obtain ⟨⟨hz0, s0⟩, ⟨-, s1⟩, ⟨-, s2⟩, ⟨-, s3⟩, ⟨-, s4⟩, ⟨-, s5⟩, -⟩ := hcs.out.below hbo
    go_wp2_with fail
    have HbI := Lib.hid hbo
    go_loopw [57] (fun i wi => ∃ (j : Nat), j ≤ args.length ∧ i = .int .i64 j ∧ Hid (∀ x ∈ args.take j, RightR (kd == 1) x) ∧ Below w1.heap.size w1 wi) (fun i _ => args.length - (intOf i).toNat)
    case atStart => exact ⟨0, Nat.zero_le _, rfl, (fun x hx => by simp at hx), HbI.out⟩
    case round =>
      obtain ⟨j, hj, rfl, hqj, hbo⟩ := hrel
      have hBR : Below w.heap.size w wr := hBw.trans ((hBW.trans (hbo.mono hBW.size)).mono hBw.size)
      obtain ⟨⟨hz0, s0⟩, ⟨-, s1⟩, ⟨-, s2⟩, ⟨-, s3⟩, ⟨-, s4⟩, ⟨-, s5⟩, -⟩ := hcs.out.below hbo
      have hzs : wo.heap.size < wr.heap.size := hz0
      by_cases hltj : j < args.length
      · obtain ⟨c, co, rfl, hFc, hel⟩ := haa (by omega)
        obtain ⟨kd', o', n', s', a', m', cap', hx, g0, g1, g2, g3, g4⟩ := hel wr (hBw2.out wr hbo c (hFc)) j hltj
        have hrr := fun (w' : World) (hb : Below wr.heap.size wr w') => rightR_calls args[j] F w' _ (kd == 1) (hF.below (hBR.trans (hb.mono hBR.size))) (hx.keep (fun b hb' => by rw [hBw.block b (hF b hb')]; exact (hBR.trans (hb.mono hBR.size)).block b (hF b hb')) (fun _ h => h))
        have hsn : Hid (dec (RightR (kd == 1) args[j]) = true → ∀ x ∈ args.take (j + 1), RightR (kd == 1) x) := fun h => by
          rw [List.take_succ_eq_append_getElem hltj]; intro x hx1
          rcases List.mem_append.1 hx1 with h1 | h1
          · exact hqj.out x h1
          · rw [List.mem_singleton.1 h1]; exact dec_iff.1 h
        have hsf : Hid (dec (RightR (kd == 1) args[j]) = false → dec (Blk l) = false) := fun h => hstop.out (fun h1 => by have := dec_true ((hSt3.out.1 h1).1 _ (List.getElem_mem hltj)); rw [h] at this; cases this)
        generalize dec (RightR (kd == 1) args[j]) = dj at *
        have HRr := Lib.hid hrr
        clear hrr hel hx haa HCb HCe hstop hSt3 hnext
        cases dj
        · have hfin := Lib.hid (hsf.out rfl)
          go_wp2_with (go_at_call 29; (with_reducible refine (HRr.out _ ((Below.refl _ _).alloc (Nat.le_refl _) _)).mono ?_); rintro e w2 ⟨rfl, hb⟩)
          go_ret
          exact ⟨ret_bool hfin.out.symm, hBR.trans ((below_on1 (Below.refl wr.heap.size wr) (Nat.le_refl _) hb).mono hBR.size)⟩
        · have hsn2 := Lib.hid (hsn.out rfl)
          clear hsn hsf
          go_wp2_with (go_at_call 29; (with_reducible refine (HRr.out _ ((Below.refl _ _).alloc (Nat.le_refl _) _)).mono ?_); rintro e w2 ⟨rfl, hb⟩)
          go_roundw
          case rel => exact ⟨j + 1, by omega, by go_num, hsn2.out, below_on1 hbo (Nat.le_refl _) hb⟩
          case measure => simp [intOf]; omega
      · have : j = args.length := by omega
        subst this
        have hqa : Hid (∀ x ∈ args, RightR (kd == 1) x) := by have := hqj.out; rwa [List.take_length] at this
        have hWr : Below wo.heap.size wo wr := hBW.trans (hbo.mono hBW.size)
        clear hqj haa
        cases bb
        · have hfin := Lib.hid (hstop.out (fun h => by have := (hSt3.out.1 h).2.1; cases this))
          clear hstop hnext hSt3 HCe
          go_wp2_with (go_at_call 37; (with_reducible refine (HCb.out _ hWr).mono ?_); rintro e w2 ⟨rfl, hb⟩)
          go_ret
          exact ⟨ret_bool hfin.out.symm, hBR.trans (hb.mono hBR.size)⟩
        cases be
        · have hfin := Lib.hid (hstop.out (fun h => by have := (hSt3.out.1 h).2.2; cases this))
          clear hstop hnext hSt3
          go_wp2_with (first | (go_at_call 37; (with_reducible refine (HCb.out _ hWr).mono ?_); rintro e w2 ⟨rfl, hb⟩; have hWr2 := below_on hWr (Nat.le_refl _) hb; obtain ⟨⟨hz0, s0⟩, ⟨-, s1⟩, ⟨-, s2⟩, ⟨-, s3⟩, ⟨-, s4⟩, ⟨-, s5⟩, -⟩ := hcs.out.below (below_on hbo (Nat.le_refl _) hb); clear HCb) | (go_at_call 37; (with_reducible refine (HCe.out _ hWr2).mono ?_); rintro e w3 ⟨rfl, hb3⟩; have hWr3 := below_on hWr2 (Nat.le_refl _) hb3))
          go_ret
          exact ⟨ret_bool hfin.out.symm, hB.trans (hWr3.mono hB.size)⟩
        have hnx : Hid (∀ x ∈ l.take (k + 1), StOk x) := hnext.out (hSt3.out.2 ⟨hqa.out, rfl, rfl⟩)
        clear hstop hnext hSt3
        go_wp2_with (first | (go_at_call 37; (with_reducible refine (HCb.out _ hWr).mono ?_); rintro e w2 ⟨rfl, hb⟩; have hWr2 := below_on hWr (Nat.le_refl _) hb; obtain ⟨⟨hz0, s0⟩, ⟨-, s1⟩, ⟨-, s2⟩, ⟨-, s3⟩, ⟨-, s4⟩, ⟨-, s5⟩, -⟩ := hcs.out.below (below_on hbo (Nat.le_refl _) hb); clear HCb) | (go_at_call 37; (with_reducible refine (HCe.out _ hWr2).mono ?_); rintro e w3 ⟨rfl, hb3⟩; have hWr3 := below_on hWr2 (Nat.le_refl _) hb3))
        go_roundw
        case rel => exact ⟨k + 1, by omega, by go_num, hnx, hB.trans (hWr3.mono hB.size)⟩
        case measure => simp [intOf]; omega

/-- The reference's RightBlock. -/
def RightBlockRC (l : List St) : Prop := ∀ (F : Nat → Prop) (w : World) (v : Value), Inn F w → Sts F w l v →
    Calls Try.prog 14 #[v] w (Gives w (.bool (dec (RightB l))))

set_option maxRecDepth 100000 in
set_option maxHeartbeats 1000000 in
theorem rightBlockR_calls (l : List St) : RightBlockRC l := by
  intro F w v hF hr
  obtain ⟨a, cap, rfl⟩ := hr.shape
  have hd := fun w' (hb : Below w.heap.size w w') => depthBR_calls l F w' _ (hF.below hb) (hr.below hF hb (Nat.le_refl _))
  have hs := fun w' (hb : Below w.heap.size w w') => blkR_calls l F w' _ (hF.below hb) (hr.below hF hb (Nat.le_refl _))
  have hR : Hid (dec (RightB l) = dec (St.depths l ≤ 32 ∧ Blk l)) := rfl
  generalize dec (RightB l) = R at *
  generalize hS : Blk l = S at *
  generalize hD : St.depths l = D at *
  have HD := Lib.hid hd
  have HS := Lib.hid hs
  clear hd hs hr hF hS hD
  by_cases h32 : D ≤ 32
  · obtain rfl : R = dec S := by rw [hR.out]; exact dec_congr (by simp [h32])
    have q : ((min D 65 : Nat) : Int) ≤ 32 := by omega
    clear hR h32
    go_enter Try.func14, Try.ntmps14
    go_wp2_with (first | (go_at_call 36; (with_reducible refine (HD.out _ (Below.refl _ _)).mono ?_); rintro e w' ⟨rfl, hb⟩) | (go_at_call 37; (with_reducible refine (HS.out _ hb).mono ?_); rintro e w2 ⟨rfl, hb2⟩))
    go_ret
    exact ⟨rfl, below_on hb (Nat.le_refl _) hb2⟩
  · obtain rfl : R = false := by rw [hR.out]; exact dec_false (fun h => h32 h.1)
    have q : ¬ ((min D 65 : Nat) : Int) ≤ 32 := by omega
    have q2 : decide (((min D 65 : Nat) : Int) ≤ 32) = false := by simpa using q
    clear hR h32 HS
    go_enter Try.func14, Try.ntmps14
    go_wp2_with (go_at_call 36; (with_reducible refine (HD.out _ (Below.refl _ _)).mono ?_); rintro e w' ⟨rfl, hb⟩)
    go_ret
    exact ⟨by first | rfl | (congr 2; omega) | simp, hb⟩

end Go.Proofs.Ytblhpiebheommaa
/- The walk of clewref10.FewBlock. -/
namespace Go.Proofs.Ytblhpiebheommaa
open Go.RowKit Go.Sort

def FewBC (l : List St) : Prop := ∀ (F : Nat → Prop) (w : World) (v : Value) (m : Int), Inn F w → -3000000 ≤ m → m ≤ 1000000 → Sts F w l v →
    Calls Try.prog 13 #[v, .int .i64 m] w (Gives w (.int .i64 (St.fews l m)))

set_option maxRecDepth 100000 in
set_option maxHeartbeats 1000000 in
theorem fewB_calls : ∀ l : List St, FewBC l := by
  refine blocks_ind fun l ih => ?_
  intro F w v m hF hm0 hm1 hr
  obtain ⟨a, cap, rfl⟩ := hr.shape
  obtain ⟨_, hl, hc, ha⟩ := hr.opn
  go_enter Try.func13, Try.ntmps13
  go_wp2
  go_loopw [1, 11] (fun t i wr => ∃ (k : Nat) (q : Int), k ≤ l.length ∧ i = .int .i64 k ∧ t = .int .i64 q ∧ -3000000 ≤ q ∧ q ≤ 1000000 ∧ Hid (St.fews l m = St.fews (l.drop k) q) ∧ Below w.heap.size w wr) (fun _ i _ => l.length - (intOf i).toNat)
  case atStart => exact ⟨0, m, Nat.zero_le _, rfl, rfl, by omega, by omega, by rw [List.drop_zero]; exact rfl, Below.refl _ _⟩
  case round =>
    obtain ⟨k, q, hk, rfl, rfl, hq0, hq1, hq, hB⟩ := hrel
    by_cases hlt : k < l.length
    · obtain ⟨b, off, rfl, hFb, hel⟩ := ha (by omega)
      obtain ⟨kd', n', s', a', m', cap', a2, m2, cap2, a3, m3, cap3, hx, g0, g1, g2, g3, g4, g5⟩ := hel wr (hB.block b (hF b hFb)) k hlt
      have hI := hF.below hB
      clear ha hel
      have HD := Lib.hid (St.fews_drop l k hlt q)
      obtain ⟨ihb, ihe⟩ := ih _ (List.getElem_mem hlt)
      obtain ⟨_, _, _, _, _, _, hxa, hxb, hxe⟩ := (hx.below hF hB (Nat.le_refl _)).parts
      obtain ⟨rfl, hal, hac, haa⟩ := hxa.opn
      clear ih hx hr
      obtain ⟨wo, rfl⟩ : ∃ wo : World, wo = wr := ⟨_, rfl⟩
      go_wp2
      go_loopw [1, 20] (fun t i w2 => ∃ (j : Nat) (p : Int), j ≤ (l[k]).args.length ∧ i = .int .i64 j ∧ t = .int .i64 p ∧ -3000001 ≤ p ∧ p ≤ 1000000 ∧ Hid (Ex.fews (l[k]).args (q - 1) = Ex.fews ((l[k]).args.drop j) p) ∧ Below (wo.heap.size + 1) (wo.alloc (.cells #[.int .i64 kd', .int .i64 n', .string s', .slice a' (l[k]).args.length cap', .slice a2 m2 cap2, .slice a3 m3 cap3] 76)) w2) (fun _ i _ => (l[k]).args.length - (intOf i).toNat)
      case atStart => exact ⟨0, q - 1, Nat.zero_le _, rfl, rfl, by omega, by omega, by rw [List.drop_zero]; exact rfl, Below.refl _ _⟩
      case round =>
        obtain ⟨j, p, hj, rfl, rfl, hp0, hp1, hp, hB0⟩ := hrel
        have hB2 := below_of_alloc hB0
        by_cases hlt2 : j < (l[k]).args.length
        · obtain ⟨b2, off2, rfl, hFb2, hel2⟩ := haa (by omega)
          obtain ⟨kd2, o2, nn2, s2, a2', m2', cap2', hx2, q0, q1, q2, q3, q4⟩ := hel2 wr (hB2.block b2 (hI b2 hFb2)) j hlt2
          clear haa hel2
          have HD2 := Lib.hid (Ex.fews_drop (l[k]).args j hlt2 p)
          have hI2 := hI.below hB2
          by_cases hneg : p < 0
          · have hfin : Hid (St.fews l m = p) := by
              show St.fews l m = p
              have h1 : Ex.fews (l[k]).args (q - 1) = p := by rw [hp.out, HD2.out, if_pos hneg]
              rw [hq.out, HD.out, h1, if_pos hneg]
            clear hq HD hp HD2 ihb ihe hxb hxe hx2
            go_wp2
            go_ret
            exact ⟨ret_int hfin.out.symm, (hB.trans (hB2.mono hB.size)).alloc (Nat.le_trans hB.size hB2.size) _⟩
          · have hfs := Ex.few_size (l[k]).args[j] p (by omega)
            have hr1 := hfs.1.1
            have hr2 := hfs.1.2
            have hnx : Hid (Ex.fews (l[k]).args (q - 1) = Ex.fews ((l[k]).args.drop (j + 1)) ((l[k]).args[j].few p)) := by
              show Ex.fews (l[k]).args (q - 1) = _
              rw [hp.out, HD2.out, if_neg hneg]
            have HC := Lib.hid (fun o => few_calls (l[k]).args[j] F (wr.alloc o) _ p (hI2.alloc _) (by omega) (by omega) ((hx2.below hI hB2 (Nat.le_refl _)).alloc hI2 o))
            have HB0 := Lib.hid hB0
            clear hp HD2 hfs hx2 ihb ihe hxb hxe hB0
            go_wp2_with (go_at_call 8; refine (HC.out _).mono ?_; rintro e w' ⟨rfl, hb⟩)
            go_roundw
            case rel => exact ⟨j + 1, _, by omega, by go_num, rfl, by omega, by omega, hnx, below_on1 HB0.out (by simp) hb⟩
            case measure => simp [intOf]; omega
        · have : j = (l[k]).args.length := by omega
          subst this
          have hpe : Ex.fews (l[k]).args (q - 1) = p := by rw [hp.out, List.drop_length]; rfl
          clear haa hp
          by_cases hneg : p < 0
          · have hfin : Hid (St.fews l m = p) := by
              show St.fews l m = p
              rw [hq.out, HD.out, hpe, if_pos hneg]
            clear hq HD hpe ihb ihe hxb hxe
            go_wp2
            go_ret
            exact ⟨ret_int hfin.out.symm, hB.trans (hB2.mono hB.size)⟩
          have hI2 := hI.below hB2
          have ht1 := St.fews_total (l[k]).body p (by omega)
          have hnx : Hid (St.fews l m = St.fews (l.drop (k + 1)) (St.fews (l[k]).els (St.fews (l[k]).body p))) := by
            show St.fews l m = _
            rw [hq.out, HD.out, hpe, if_neg hneg]
          clear hpe hq HD
          generalize hA : St.fews (l[k]).body p = A at ht1 hnx
          have ht2 : -(2 * p + 3) ≤ St.fews (l[k]).els A ∧ St.fews (l[k]).els A ≤ p := by
            by_cases hAn : A < 0
            · have := St.fews_neg (l[k]).els A hAn; omega
            · have := St.fews_total (l[k]).els A (by omega); omega
          have hcb : ∀ (p1 : Regrown), Calls Try.prog 13 #[.slice a2 m2 cap2, .int .i64 p] (grow (redrawn wr p1.d) p1.os) fun e w'' => e = .returned (.int .i64 A) ∧ ∃ p : Regrown, w'' = grow (redrawn wr p.d) p.os :=
            fun p1 => regrown_gives (fun w' hb => by
              have := ihb F w' _ p (hI2.below hb) (by omega) (by omega) ((hxb.below hI hB2 (Nat.le_refl _)).below hI2 hb (Nat.le_refl _))
              rwa [hA] at this) p1
          have hce : ∀ (p1 : Regrown), Calls Try.prog 13 #[.slice a3 m3 cap3, .int .i64 A] (grow (redrawn wr p1.d) p1.os) fun e w'' => e = .returned (.int .i64 (St.fews (l[k]).els A)) ∧ ∃ p : Regrown, w'' = grow (redrawn wr p.d) p.os :=
            fun p1 => regrown_gives (fun w' hb => ihe F w' _ A (hI2.below hb) (by omega) (by omega) ((hxe.below hI hB2 (Nat.le_refl _)).below hI2 hb (Nat.le_refl _))) p1
          have hq4 := fun d os => cell_regrown (w := wr) (a := ⟨wo.heap.size, 4, none⟩) (v := .slice a2 m2 cap2) (cell_kept hB0 (by go_simp)) d os
          have hq5 := fun d os => cell_regrown (w := wr) (a := ⟨wo.heap.size, 5, none⟩) (v := .slice a3 m3 cap3) (cell_kept hB0 (by go_simp)) d os
          generalize hE : St.fews (l[k]).els A = E at ht2 hnx hce
          have HCb := Lib.hid hcb
          have HCe := Lib.hid hce
          have HB := Lib.hid (hB.trans (hB2.mono hB.size))
          clear hA hE hcb hce hxb hxe ihb ihe hB0 hB2 hB
          go_wp2
          refine wp_region_quiet_below (by kernel_rfl) (by kernel_rfl) ?_
          repeat (go_big_quiet_step (first | with_reducible exact HCb.out _ | with_reducible exact HCe.out _))
          refine wpQuiet_nil ?_
          intro w' hw'
          have hb := below_of_regrown hw'
          clear hw' HCb HCe hq4 hq5
          go_wp2
          go_roundw
          case rel => exact ⟨k + 1, _, by omega, by go_num, rfl, by omega, by omega, hnx, below_on HB.out (Nat.le_refl _) hb⟩
          case measure => simp [intOf]; omega
    · have : k = l.length := by omega
      subst this
      have hfin : Hid (St.fews l m = q) := by
        show St.fews l m = q
        rw [hq.out, List.drop_length]; rfl
      clear hq
      go_wp2
      go_ret
      exact ⟨ret_int hfin.out.symm, hB⟩

end Go.Proofs.Ytblhpiebheommaa
