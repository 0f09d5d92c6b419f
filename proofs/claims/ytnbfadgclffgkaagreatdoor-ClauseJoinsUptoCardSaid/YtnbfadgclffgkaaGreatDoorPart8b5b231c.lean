/- The walks of clewref01.Digits and clewref01.Text: a number's numeral. -/
import Derived.Test.YtnbfadgclffgkaaGreatDoorPart68e43f7d
import Derived.Lib.ItoaNum
import Derived.Test.YtnbfadgclffgkaaGreatDoorPartad8ea8a8
import Derived.Test.YtnbfadgclffgkaaGreatDoorStShapeR
import Derived.Test.YtnbfadgclffgkaaGreatDoorCells
namespace Go.Proofs.YtnbfadgclffgkaaGreatDoor
open Go.RowKit Go.Sort
def digB (u : Nat) : ByteArray := ⟨(Lib.decDigits u).toArray⟩
theorem ba_app (a b : List UInt8) : (⟨(a ++ b).toArray⟩ : ByteArray) = ⟨a.toArray⟩ ++ ⟨b.toArray⟩ := by
  apply ByteArray.ext
  simp
theorem digB_big {u : Nat} (h : ¬ u < 10) : digB u = digB (u / 10) ++ digB (u % 10) := by
  unfold digB
  rw [Lib.decDigits, dif_neg h, ba_app]
  congr 2
  rw [Lib.decDigits, dif_pos (Nat.mod_lt _ (by decide))]
theorem digB_small : ∀ u, u < 10 → digB u = ⟨#[UInt8.ofNat (48 + u)]⟩ := fun u h => by unfold digB; rw [Lib.decDigits, dif_pos h]
theorem digB_size (k : Nat) : ∀ u : Nat, u < 10 ^ (k + 1) → (digB u).size ≤ k + 1 := by
  induction k with
  | zero => intro u h; rw [digB_small u (by simpa using h)]; exact Nat.le_refl 1
  | succ k ih =>
    intro u h
    by_cases h10 : u < 10
    · rw [digB_small u h10]; exact Nat.le_add_left 1 (k + 1)
    · rw [digB_big h10, ByteArray.size_append]
      have h1 := ih (u / 10) (by rw [Nat.pow_succ] at h; omega)
      have h2 : (digB (u % 10)).size = 1 := by rw [digB_small _ (Nat.mod_lt _ (by decide))]; rfl
      omega
theorem digB_le (u : Nat) (h : u < 18446744073709551616) : (digB u).size ≤ 20 := digB_size 19 u (by omega)
set_option maxRecDepth 100000 in
set_option maxHeartbeats 4000000 in
theorem digitsR_calls : ∀ (m u : Nat), u < m → u < 18446744073709551616 → ∀ w : World, Calls Tryz.prog 132 #[.int .u64 u] w (Same0 w (.string (digB u)))
  | 0, _, h, _, _ => absurd h (by omega)
  | m + 1, u, h, h64, w => by
    by_cases h10 : u < 10
    · have hc : u = 0 ∨ u = 1 ∨ u = 2 ∨ u = 3 ∨ u = 4 ∨ u = 5 ∨ u = 6 ∨ u = 7 ∨ u = 8 ∨ u = 9 := by omega
      rcases hc with rfl | rfl | rfl | rfl | rfl | rfl | rfl | rfl | rfl | rfl
      all_goals
        rw [digB_small _ (by decide)]
        clear h h64 h10
        go_enter Tryz.func132, Tryz.ntmps132
        go_wp2
        go_ret
        exact ⟨rfl, rfl⟩
    · have HR := Lib.hid (digB_big h10).symm
      have hA := digitsR_calls m (u / 10) (by omega) (by omega) w
      rw [show ((u / 10 : Nat) : Int) = (u : Int) / 10 by omega] at hA
      have HA := Lib.hid hA
      have hB := digitsR_calls m (u % 10) (by omega) (by omega) w
      rw [show ((u % 10 : Nat) : Int) = (u : Int) % 10 by omega] at hB
      have HB := Lib.hid hB
      have hz1 := digB_le (u / 10) (by omega)
      have hz2 := digB_le (u % 10) (by omega)
      have h10' : (10 : Int) ≤ (u : Int) := by omega
      obtain ⟨x, hx⟩ : ∃ x, digB (u / 10) = x := ⟨_, rfl⟩
      obtain ⟨y, hy⟩ : ∃ y, digB (u % 10) = y := ⟨_, rfl⟩
      obtain ⟨r, hr⟩ : ∃ r, digB u = r := ⟨_, rfl⟩
      rw [hx] at HA HR hz1
      rw [hy] at HB HR hz2
      rw [hr] at HR ⊢
      clear hx hy hr h h10 hA hB
      go_enter Tryz.func132, Tryz.ntmps132
      go_wp2_with (first | (go_at_call 132; (with_reducible refine HA.out.mono ?_); rintro e w1 ⟨rfl, rfl⟩) | (go_at_call 132; (with_reducible refine HB.out.mono ?_); rintro e w1 ⟨rfl, rfl⟩))
      go_ret
      exact ⟨ret_str HR.out, rfl⟩
theorem numB_pos {n : Int} (h : 0 ≤ n) : numB n = digB n.toNat := by
  unfold numB Lib.itoa digB
  rw [if_neg (by omega)]
theorem numB_neg {n : Int} (h : n < 0) : numB n = ⟨#[45]⟩ ++ digB n.natAbs := by
  unfold numB Lib.itoa digB
  rw [if_pos h]
  exact ba_app [45] _
theorem numB_far {n : Int} (h : n ≤ -10) : numB n = numB (-((n.natAbs / 10 : Nat) : Int)) ++ digB (n.natAbs % 10) := by
  rw [numB_neg (by omega), numB_neg (by omega), digB_big (by omega), ByteArray.append_assoc]
  congr 3
  omega
theorem numB_le {n : Int} (hn : I64 n) : (numB n).size ≤ 21 := by
  obtain ⟨h1, h2⟩ := hn
  by_cases h : n < 0
  · rw [numB_neg h, ByteArray.size_append]
    have := digB_le n.natAbs (by omega)
    have e : (⟨#[45]⟩ : ByteArray).size = 1 := rfl
    omega
  · rw [numB_pos (by omega)]
    have := digB_le n.toNat (by omega)
    omega
set_option maxRecDepth 100000 in
set_option maxHeartbeats 4000000 in
theorem textR_calls : ∀ (m : Nat) (n : Int), n.natAbs < m → I64 n → ∀ w : World, Calls Tryz.prog 91 #[.int .i64 n] w (Same0 w (.string (numB n)))
  | 0, _, h, _, _ => absurd h (by omega)
  | m + 1, n, h, hn, w => by
    obtain ⟨hn1, hn2⟩ := hn
    by_cases h0 : 0 ≤ n
    · have hA := digitsR_calls (n.toNat + 1) n.toNat (by omega) (by omega) w
      rw [show ((n.toNat : Nat) : Int) = n by omega, ← numB_pos h0] at hA
      have HA := Lib.hid hA
      clear hA h
      go_enter Tryz.func91, Tryz.ntmps91
      go_wp2_with (go_at_call 132; (with_reducible refine HA.out.mono ?_); rintro e w1 ⟨rfl, rfl⟩)
      go_ret
      exact ⟨rfl, rfl⟩
    · by_cases h10 : -10 < n
      · have hA := digitsR_calls (n.natAbs + 1) n.natAbs (by omega) (by omega) w
        rw [show ((n.natAbs : Nat) : Int) = -n by omega] at hA
        have HR := Lib.hid (numB_neg (show n < 0 by omega)).symm
        have hz := digB_le n.natAbs (by omega)
        obtain ⟨x, hx⟩ : ∃ x, digB n.natAbs = x := ⟨_, rfl⟩
        rw [hx] at hA HR hz
        have HA := Lib.hid hA
        clear hA h hx
        go_enter Tryz.func91, Tryz.ntmps91
        go_wp2_with (go_at_call 132; (with_reducible refine HA.out.mono ?_); rintro e w1 ⟨rfl, rfl⟩)
        go_ret
        exact ⟨ret_str HR.out, rfl⟩
      · have hA := textR_calls m (-((n.natAbs / 10 : Nat) : Int)) (by omega) ⟨by omega, by omega⟩ w
        have hB := digitsR_calls (n.natAbs % 10 + 1) (n.natAbs % 10) (by omega) (by omega) w
        have HR := Lib.hid (numB_far (show n ≤ -10 by omega)).symm
        have hz1 := numB_le (n := -((n.natAbs / 10 : Nat) : Int)) ⟨by omega, by omega⟩
        have hz2 := digB_le (n.natAbs % 10) (by omega)
        obtain ⟨x, hx⟩ : ∃ x, numB (-((n.natAbs / 10 : Nat) : Int)) = x := ⟨_, rfl⟩
        obtain ⟨y, hy⟩ : ∃ y, digB (n.natAbs % 10) = y := ⟨_, rfl⟩
        obtain ⟨r, hr⟩ : ∃ r, numB n = r := ⟨_, rfl⟩
        rw [hx] at hA HR hz1
        rw [hy] at hB HR hz2
        rw [hr] at HR ⊢
        have hq : n.tdiv 10 = -((n.natAbs / 10 : Nat) : Int) := by
          rw [show n = -(n.natAbs : Int) by omega, Int.neg_tdiv, Int.tdiv_eq_ediv_of_nonneg (by omega)]
          simp
        rw [← hq] at hA
        have hm : ((n.natAbs % 10 : Nat) : Int) = 10 * n.tdiv 10 - n := by rw [hq]; omega
        rw [hm] at hB
        have hr1 : -922337203685477581 ≤ n.tdiv 10 := by rw [hq]; omega
        have hr2 : n.tdiv 10 ≤ -1 := by rw [hq]; omega
        have hr3 : 0 ≤ 10 * n.tdiv 10 - n := by rw [hq]; omega
        have hr4 : 10 * n.tdiv 10 - n ≤ 9 := by rw [hq]; omega
        have HA := Lib.hid hA
        have HB := Lib.hid hB
        clear hA hB h hx hy hr hq hm
        go_enter Tryz.func91, Tryz.ntmps91
        go_wp2_with (first | (go_at_call 91; (with_reducible refine HA.out.mono ?_); rintro e w1 ⟨rfl, rfl⟩) | (go_at_call 132; (with_reducible refine HB.out.mono ?_); rintro e w1 ⟨rfl, rfl⟩))
        go_ret
        exact ⟨ret_str HR.out, rfl⟩
end Go.Proofs.YtnbfadgclffgkaaGreatDoor
/- The walks of clewref10.rightBlock and clewref10.RightBlock: whether statements are those of a source. -/
namespace Go.Proofs.YtnbfadgclffgkaaGreatDoor
open Go.RowKit Go.Sort
def HeadR (k n : Int) (s : ByteArray) (args : List Ex) (m2 m3 : Nat) : Prop :=
  shapeP k n s args.length m2 m3 ∧ n = 0 ∧ k ≠ 23 ∧ ((partsOf k).named = true → IsNm s) ∧ (k = 19 → ∀ x ∈ args.head?, x.kind = 9)
theorem good_iff (k n : Int) (s : ByteArray) (m m2 m3 : Nat) : StGood k n s m m2 m3 ↔ shapeP k n s m m2 m3 ∧ n = 0 ∧ k ≠ 23 ∧ ((partsOf k).named = true → IsNm s) := by
  unfold StGood shapeP HasP NameOk
  rcases skind_cases k with rfl | rfl | rfl | rfl | rfl | rfl | rfl | rfl | rfl | rfl | rfl | rfl | rfl | rfl | rfl | rfl | rfl | rfl | rfl | rfl | rfl | rfl | rfl | h | h
  case inr.inr.inr.inr.inr.inr.inr.inr.inr.inr.inr.inr.inr.inr.inr.inr.inr.inr.inr.inr.inr.inr.inr.inl =>
    have hz : partsOf k = ⟨false, false, false, 0, 0, false⟩ := by
      unfold partsOf
      repeat (rw [if_neg (by omega)])
    simp [hz]
  case inr.inr.inr.inr.inr.inr.inr.inr.inr.inr.inr.inr.inr.inr.inr.inr.inr.inr.inr.inr.inr.inr.inr.inr =>
    have hz : partsOf k = ⟨false, false, false, 0, 0, false⟩ := by
      unfold partsOf
      repeat (rw [if_neg (by omega)])
    simp [hz]
  all_goals
    simp [partsOf]
    try grind
theorem stOk_head (e : St) : StOk e ↔ HeadR e.kind e.num e.name e.args e.body.length e.els.length ∧ (∀ x ∈ e.args, RightR (decide (e.kind = 1)) x) ∧ Blk e.body ∧ Blk e.els := by
  rw [stOk_eq, good_iff]
  unfold HeadR
  simp only [rightR_iff, decide_eq_true_eq]
  constructor
  · rintro ⟨⟨h1, h2, h3, h4⟩, h5, h6, h7, h8⟩; exact ⟨⟨h1, h2, h3, h4, h5⟩, h6, h7, h8⟩
  · rintro ⟨⟨h1, h2, h3, h4, h5⟩, h6, h7, h8⟩; exact ⟨⟨h1, h2, h3, h4⟩, h5, h6, h7, h8⟩
def BlkRC (l : List St) : Prop := ∀ (F : Nat → Prop) (w : World) (v : Value), Inn F w → Sts F w l v →
    Calls Tryz.prog 40 #[v] w (Gives w (.bool (dec (Blk l))))
set_option maxRecDepth 100000 in
set_option maxHeartbeats 4000000 in
theorem blkR_calls : ∀ l : List St, BlkRC l := by
  refine blocks_ind fun l ih => ?_
  intro F w v hF hr
  obtain ⟨a, cap, rfl⟩ := hr.shape
  obtain ⟨_, hl, hc, ha⟩ := hr.opn
  clear hr
  go_enter Tryz.func40, Tryz.ntmps40
  go_wp2
  go_loopw [11] (fun i wr => ∃ (k : Nat), k ≤ l.length ∧ i = .int .i64 k ∧ Hid (∀ x ∈ l.take k, StOk x) ∧ Below w.heap.size w wr) (fun i _ => l.length - (intOf i).toNat)
  case atStart => exact ⟨0, Nat.zero_le _, rfl, by simp [Hid], Below.refl _ _⟩
  case round =>
    obtain ⟨wo, rfl⟩ : ∃ wo : World, wo = wr := ⟨_, rfl⟩
    obtain ⟨k, hk, rfl, hq, hB⟩ := hrel
    have hBw : Below w.heap.size w wo := hB
    by_cases hlt : k < l.length
    rotate_left
    · have : k = l.length := by omega
      subst this
      have hfin : Hid (dec (Blk l) = dec (l.length ≤ 256)) := dec_congr (by unfold Blk; have := hq.out; rw [List.take_length] at this; exact ⟨fun h => h.1, fun h => ⟨h, this⟩⟩)
      clear hq ih ha
      by_cases h256 : l.length ≤ 256
      · have q : decide ((l.length : Int) ≤ 256) = true := by simp; omega
        have hfin2 : Hid (dec (Blk l) = true) := by show _ = _; rw [hfin.out]; exact dec_true h256
        clear hfin h256
        go_wp2
        go_ret
        exact ⟨ret_bool hfin2.out.symm, hB⟩
      · have q : decide ((l.length : Int) ≤ 256) = false := by simp; omega
        have hfin2 : Hid (dec (Blk l) = false) := by show _ = _; rw [hfin.out]; exact dec_false h256
        clear hfin h256
        go_wp2
        go_ret
        exact ⟨ret_bool hfin2.out.symm, hB⟩
    obtain ⟨b, off, rfl, hFb, hel⟩ := ha (by omega)
    obtain ⟨kd, n, s, x1, m1, cp1, x2, m2, cp2, x3, m3, cp3, hx, g0, g1, g2, g3, g4, g5⟩ := hel wo (hB.block b (hF b hFb)) k hlt
    have hI := hF.below hB
    have hSt := stOk_head l[k]
    have hxr := hx.below hF hB (Nat.le_refl _)
    obtain ⟨ek, en, es, _, _, hsz, hxa, hxb, hxe⟩ := hxr.parts
    obtain ⟨rfl, hal, hac, haa⟩ := hxa.opn
    obtain rfl := hxb.opn.1
    obtain rfl := hxe.opn.1
    rw [ek, en, es] at hSt
    have hte : l.take (k + 1) = l.take k ++ [l[k]] := List.take_succ_eq_append_getElem hlt
    have hnext : Hid (StOk l[k] → (∀ x ∈ l.take (k + 1), StOk x)) := fun h => by
      rw [hte]; intro x hx1
      rcases List.mem_append.1 hx1 with h1 | h1
      · exact hq.out x h1
      · rw [List.mem_singleton.1 h1]; exact h
    have hstop : Hid (¬ StOk l[k] → dec (Blk l) = false) := fun h => dec_false (fun h1 => h (h1.2 _ (List.getElem_mem hlt)))
    have HCb := Lib.hid (fun w' (hb : Below wo.heap.size wo w') => (ih _ (List.getElem_mem hlt)).1 F w' _ (hI.below hb) (hxb.below hI hb (Nat.le_refl _)))
    have HCe := Lib.hid (fun w' (hb : Below wo.heap.size wo w') => (ih _ (List.getElem_mem hlt)).2 F w' _ (hI.below hb) (hxe.below hI hb (Nat.le_refl _)))
    have HSh := Lib.hid (fun ob => shape_calls kd n s x1 (l[k]).args.length cp1 x2 (l[k]).body.length cp2 x3 (l[k]).els.length cp3 (wo.alloc ob))
    have HN := Lib.hid (fun w' => nameR_calls s w' hsz)
    clear ih ha hel hx hxr hxa hxb hxe hte hq ek en es hsz
    generalize StOk l[k] = SO at *
    generalize (l[k]).args = args at *
    generalize (l[k]).body.length = bl at *
    generalize (l[k]).els.length = el at *
    generalize Blk (l[k]).body = BB at *
    generalize Blk (l[k]).els = BE at *
    have hSt2 : Hid (SO ↔ dec (HeadR kd n s args bl el) = true ∧ (∀ x ∈ args, RightR (kd == 1) x) ∧ dec BB = true ∧ dec BE = true) := by
      show _ ↔ _
      rw [hSt, dec_iff, dec_iff, dec_iff]
      rfl
    clear hSt
    generalize dec BB = bb at *
    generalize dec BE = be at *
    generalize hR : dec (HeadR kd n s args bl el) = R at *
    have hlen : kd = 19 → dec (shapeP kd n s args.length bl el) = true → 0 < args.length := fun h hs => by
      subst h
      have := (dec_iff.1 hs).2.1.1
      simp [partsOf] at this
      omega
    generalize hsp : dec (shapeP kd n s args.length bl el) = sp at *
    generalize hnm : (partsOf kd).named = nm at *
    generalize hdn : dec (IsNm s) = dn at *
    have hRv : R = dec (sp = true ∧ n = 0 ∧ kd ≠ 23 ∧ (nm = true → dn = true) ∧ (kd = 19 → ∀ x ∈ args.head?, x.kind = 9)) := by
      rw [← hR]
      refine dec_congr ?_
      unfold HeadR
      rw [← hsp, dec_iff, hnm, ← hdn, dec_iff]
    clear hR hsp hnm hdn
    go_upto_region 5 with (go_at_call 75; (with_reducible refine (HSh.out _).mono ?_); rintro e w1 ⟨rfl, hb⟩; obtain ⟨hcl, hfz⟩ := bcell hb; have hz1 := one_new hb)
    have hBW : Below wo.heap.size wo w1 := below_on1 (Below.refl wo.heap.size wo) (Nat.le_refl _) hb
    have hcs : Hid (CA w1 [(⟨wo.heap.size, 0, none⟩, .int .i64 kd), (⟨wo.heap.size, 1, none⟩, .int .i64 n), (⟨wo.heap.size, 2, none⟩, .string s), (⟨wo.heap.size, 3, none⟩, .slice x1 args.length cp1), (⟨wo.heap.size, 4, none⟩, .slice x2 bl cp2), (⟨wo.heap.size, 5, none⟩, .slice x3 el cp3)]) := ⟨⟨hz1, by go_simp⟩, ⟨hz1, by go_simp⟩, ⟨hz1, by go_simp⟩, ⟨hz1, by go_simp⟩, ⟨hz1, by go_simp⟩, ⟨hz1, by go_simp⟩, trivial⟩
    clear hcl hfz hb HSh g0 g1 g2 g3 g4 g5
    obtain ⟨⟨hz0, s0⟩, ⟨-, s1⟩, ⟨-, s2⟩, ⟨-, s3⟩, ⟨-, s4⟩, ⟨-, s5⟩, -⟩ := hcs.out
    have hBw2 : Hid (∀ wi, Below w1.heap.size w1 wi → ∀ c, F c → wi.heap[c]? = wo.heap[c]?) := fun wi hb c hc => by
      rw [(bt hBW hb).block c (hI c hc)]
    have hbo := Below.refl w1.heap.size w1
    go_cut [11, 53] from 11 to 78 (fun i p wc => i = .int .i64 k ∧ p = .bool (!R) ∧ Below w1.heap.size w1 wc)
    case first =>
      clear HCb HCe hSt2 hnext hstop
      cases sp
      · clear haa hlen
        have hr0 : R = false := by rw [hRv]; exact dec_false (fun h => by cases h.1)
        clear hRv
        subst hr0
        go_wp2_with fail
        go_meet
        exact ⟨rfl, rfl, hbo⟩
      have hkx : Hid (kd = 19 → ∃ (c co : Nat) (kx : Int), x1 = some ⟨c, co, none⟩ ∧ w1.cell? ⟨c, co, none⟩ = some (.int .i64 kx) ∧ (0 : Int) < (args.length : Int) ∧ ((∀ x ∈ args.head?, x.kind = 9) ↔ kx = 9)) := fun h => by
        have hpos := hlen h rfl
        obtain ⟨c, co, rfl, hFc, hel⟩ := haa hpos
        obtain ⟨kx, ox, nx, sx, ax, mx, cx, hx, g0, -, -, -, -⟩ := hel w1 (hBw2.out w1 hbo c hFc) 0 hpos
        obtain ⟨ek, -, -, -, -, -, -, -, -⟩ := hx.parts
        refine ⟨c, co, kx, rfl, by simpa using g0, by omega, ?_⟩
        cases args with
        | nil => simp at hpos
        | cons a t =>
          simp only [List.getElem_cons_zero] at ek
          simp [ek]
      clear haa hlen
      by_cases hn : n = 0
      rotate_left
      · have hna : (n == 0) = false := by simp [hn]
        have hnb : (n != 0) = true := by simp [bne, hn]
        have hnc : decide (n = 0) = false := by simp [hn]
        have hnd : decide (¬ n = 0) = true := by simp [hn]
        have hr0 : R = false := by rw [hRv]; exact dec_false (fun h => hn h.2.1)
        clear hRv
        subst hr0
        go_wp2_with fail
        go_meet
        exact ⟨rfl, rfl, hbo⟩
      subst hn
      by_cases h23 : kd = 23
      · have hr0 : R = false := by rw [hRv]; exact dec_false (fun h => h.2.2.1 h23)
        clear hRv
        subst hr0
        subst h23
        clear hkx
        go_wp2_with fail
        go_meet
        exact ⟨rfl, rfl, hbo⟩
      have h23a : (kd == 23) = false := by simp [h23]
      have h23b : (kd != 23) = true := by simp [bne, h23]
      have h23c : decide (kd = 23) = false := by simp [h23]
      have h23d : decide (¬ kd = 23) = true := by simp [h23]
      have hRc : Hid (∀ (p : Prop), (nm = true → dn = true) → ((kd = 19 → ∀ x ∈ args.head?, x.kind = 9) ↔ p) → R = dec p) := fun p h1 h2 => by
        rw [hRv, ← h2]
        exact dec_congr ⟨fun h => h.2.2.2.2, fun h => ⟨rfl, rfl, h23, h1, h⟩⟩
      cases nm
      · clear hRv
        by_cases h19 : kd = 19
        rotate_left
        · have h19a : (kd == 19) = false := by simp [h19]
          have h19b : (kd != 19) = true := by simp [bne, h19]
          have h19c : decide (kd = 19) = false := by simp [h19]
          have h19d : decide (¬ kd = 19) = true := by simp [h19]
          have hr0 : R = true := by rw [hRc.out True (fun h => by cases h) ⟨fun _ => trivial, fun _ h => absurd h h19⟩]; exact dec_true trivial
          clear hRc
          subst hr0
          go_wp2_with fail
          go_meet
          exact ⟨rfl, rfl, hbo⟩
        obtain ⟨c, co, kx, rfl, e0, hix, hh9⟩ := hkx.out h19
        have hRd := hRc.out (kx = 9) (fun h => by cases h) ⟨fun h => hh9.1 (h h19), fun h _ => hh9.2 h⟩
        subst h19
        clear hRc hkx hh9
        by_cases hkx : kx = 9
        · have hr0 : R = true := by rw [hRd]; exact dec_true hkx
          clear hRd
          subst hr0
          subst hkx
          go_wp2_with fail
          go_meet
          exact ⟨rfl, rfl, hbo⟩
        · have hr0 : R = false := by rw [hRd]; exact dec_false hkx
          clear hRd
          subst hr0
          have hkxa : (kx == 9) = false := by simp [hkx]
          have hkxb : (kx != 9) = true := by simp [bne, hkx]
          have hkxc : decide (kx = 9) = false := by simp [hkx]
          have hkxd : decide (¬ kx = 9) = true := by simp [hkx]
          go_wp2_with fail
          go_meet
          exact ⟨rfl, rfl, hbo⟩
      · cases dn
        · clear hRc
          have hr0 : R = false := by rw [hRv]; exact dec_false (fun h => by have := h.2.2.2.1 rfl; cases this)
          clear hRv
          subst hr0
          go_wp2_with (go_at_call 76; (with_reducible refine (HN.out _).mono ?_); rintro e0 w0 ⟨rfl, rfl⟩)
          go_meet
          exact ⟨rfl, rfl, hbo⟩
        clear hRv
        by_cases h19 : kd = 19
        rotate_left
        · have h19a : (kd == 19) = false := by simp [h19]
          have h19b : (kd != 19) = true := by simp [bne, h19]
          have h19c : decide (kd = 19) = false := by simp [h19]
          have h19d : decide (¬ kd = 19) = true := by simp [h19]
          have hr0 : R = true := by rw [hRc.out True (fun _ => rfl) ⟨fun _ => trivial, fun _ h => absurd h h19⟩]; exact dec_true trivial
          clear hRc
          subst hr0
          go_wp2_with (go_at_call 76; (with_reducible refine (HN.out _).mono ?_); rintro e0 w0 ⟨rfl, rfl⟩)
          go_meet
          exact ⟨rfl, rfl, hbo⟩
        obtain ⟨c, co, kx, rfl, e0, hix, hh9⟩ := hkx.out h19
        have hRd := hRc.out (kx = 9) (fun _ => rfl) ⟨fun h => hh9.1 (h h19), fun h _ => hh9.2 h⟩
        subst h19
        clear hRc hkx hh9
        by_cases hkx : kx = 9
        · have hr0 : R = true := by rw [hRd]; exact dec_true hkx
          clear hRd
          subst hr0
          subst hkx
          go_wp2_with (go_at_call 76; (with_reducible refine (HN.out _).mono ?_); rintro e0 w0 ⟨rfl, rfl⟩)
          go_meet
          exact ⟨rfl, rfl, hbo⟩
        · have hr0 : R = false := by rw [hRd]; exact dec_false hkx
          clear hRd
          subst hr0
          have hkxa : (kx == 9) = false := by simp [hkx]
          have hkxb : (kx != 9) = true := by simp [bne, hkx]
          have hkxc : decide (kx = 9) = false := by simp [hkx]
          have hkxd : decide (¬ kx = 9) = true := by simp [hkx]
          go_wp2_with (go_at_call 76; (with_reducible refine (HN.out _).mono ?_); rintro e0 w0 ⟨rfl, rfl⟩)
          go_meet
          exact ⟨rfl, rfl, hbo⟩
    clear hRv hlen HN
    obtain ⟨rfl, rfl, hbo⟩ := hcut
    cases R
    · have hfin : Hid (dec (Blk l) = false) := hstop.out (fun h => by have := (hSt2.out.1 h).1; cases this)
      clear haa HCb HCe hnext hstop hSt2
      go_wp2_with fail
      go_ret
      exact ⟨ret_bool hfin.out.symm, hBw.trans ((bt hBW hbo).mono hBw.size)⟩
    have hSt3 : Hid (SO ↔ (∀ x ∈ args, RightR (kd == 1) x) ∧ bb = true ∧ be = true) := ⟨fun h => (hSt2.out.1 h).2, fun h => hSt2.out.2 ⟨rfl, h⟩⟩
    clear hSt2
    obtain ⟨⟨hz0, s0⟩, ⟨-, s1⟩, ⟨-, s2⟩, ⟨-, s3⟩, ⟨-, s4⟩, ⟨-, s5⟩, -⟩ := hcs.out.below hbo
    go_wp2_with fail
    have HbI := Lib.hid hbo
    go_loopw [57] (fun i wi => ∃ (j : Nat), j ≤ args.length ∧ i = .int .i64 j ∧ Hid (∀ x ∈ args.take j, RightR (kd == 1) x) ∧ Below w1.heap.size w1 wi) (fun i _ => args.length - (intOf i).toNat)
    case atStart => exact ⟨0, Nat.zero_le _, rfl, (fun x hx => by simp at hx), HbI.out⟩
    case round =>
      obtain ⟨j, hj, rfl, hqj, hbo⟩ := hrel
      have hBR : Below w.heap.size w wr := hBw.trans ((bt hBW hbo).mono hBw.size)
      obtain ⟨⟨hz0, s0⟩, ⟨-, s1⟩, ⟨-, s2⟩, ⟨-, s3⟩, ⟨-, s4⟩, ⟨-, s5⟩, -⟩ := hcs.out.below hbo
      have hzs : wo.heap.size < wr.heap.size := hz0
      by_cases hltj : j < args.length
      · obtain ⟨c, co, rfl, hFc, hel⟩ := haa (by omega)
        obtain ⟨kd', o', n', s', a', m', cap', hx, g0, g1, g2, g3, g4⟩ := hel wr (hBw2.out wr hbo c (hFc)) j hltj
        have hrr := fun (w' : World) (hb : Below wr.heap.size wr w') => rightR_calls args[j] F w' _ (kd == 1) (hF.below (bt hBR hb)) (hx.keep (fun b hb' => by rw [hBw.block b (hF b hb')]; exact (bt hBR hb).block b (hF b hb')) (fun _ h => h))
        have hsn : Hid (dec (RightR (kd == 1) args[j]) = true → ∀ x ∈ args.take (j + 1), RightR (kd == 1) x) := fun h => by
          rw [List.take_succ_eq_append_getElem hltj]; intro x hx1
          rcases List.mem_append.1 hx1 with h1 | h1
          · exact hqj.out x h1
          · rw [List.mem_singleton.1 h1]; exact dec_iff.1 h
        have hsf : Hid (dec (RightR (kd == 1) args[j]) = false → dec (Blk l) = false) := fun h => hstop.out (fun h1 => by have := dec_true ((hSt3.out.1 h1).1 _ (List.getElem_mem hltj)); rw [h] at this; cases this)
        generalize dec (RightR (kd == 1) args[j]) = dj at *
        have HRr := Lib.hid hrr
        clear hrr hel hx haa HCb HCe hstop hSt3 hnext
        cases dj
        · have hfin := Lib.hid (hsf.out rfl)
          go_wp2_with (go_at_call 77; (with_reducible refine (HRr.out _ ((Below.refl _ _).alloc (Nat.le_refl _) _)).mono ?_); rintro e w2 ⟨rfl, hb⟩)
          go_ret
          exact ⟨ret_bool hfin.out.symm, hBR.trans ((below_on1 (Below.refl wr.heap.size wr) (Nat.le_refl _) hb).mono hBR.size)⟩
        · have hsn2 := Lib.hid (hsn.out rfl)
          clear hsn hsf
          go_wp2_with (go_at_call 77; (with_reducible refine (HRr.out _ ((Below.refl _ _).alloc (Nat.le_refl _) _)).mono ?_); rintro e w2 ⟨rfl, hb⟩)
          go_roundw
          case rel => exact ⟨j + 1, by omega, by go_num, hsn2.out, below_on1 hbo (Nat.le_refl _) hb⟩
          case measure => simp [intOf]; omega
      · have : j = args.length := by omega
        subst this
        have hqa : Hid (∀ x ∈ args, RightR (kd == 1) x) := by have := hqj.out; rwa [List.take_length] at this
        have hWr : Below wo.heap.size wo wr := bt hBW hbo
        clear hqj haa
        cases bb
        · have hfin := Lib.hid (hstop.out (fun h => by have := (hSt3.out.1 h).2.1; cases this))
          clear hstop hnext hSt3 HCe
          go_wp2_with (go_at_call 40; (with_reducible refine (HCb.out _ hWr).mono ?_); rintro e w2 ⟨rfl, hb⟩)
          go_ret
          exact ⟨ret_bool hfin.out.symm, bt hBR hb⟩
        cases be
        · have hfin := Lib.hid (hstop.out (fun h => by have := (hSt3.out.1 h).2.2; cases this))
          clear hstop hnext hSt3
          go_wp2_with (first | (go_at_call 40; (with_reducible refine (HCb.out _ hWr).mono ?_); rintro e w2 ⟨rfl, hb⟩; have hWr2 := below_on hWr (Nat.le_refl _) hb; obtain ⟨⟨hz0, s0⟩, ⟨-, s1⟩, ⟨-, s2⟩, ⟨-, s3⟩, ⟨-, s4⟩, ⟨-, s5⟩, -⟩ := hcs.out.below (below_on hbo (Nat.le_refl _) hb); clear HCb) | (go_at_call 40; (with_reducible refine (HCe.out _ hWr2).mono ?_); rintro e w3 ⟨rfl, hb3⟩; have hWr3 := below_on hWr2 (Nat.le_refl _) hb3))
          go_ret
          exact ⟨ret_bool hfin.out.symm, bt hB hWr3⟩
        have hnx : Hid (∀ x ∈ l.take (k + 1), StOk x) := hnext.out (hSt3.out.2 ⟨hqa.out, rfl, rfl⟩)
        clear hstop hnext hSt3
        go_wp2_with (first | (go_at_call 40; (with_reducible refine (HCb.out _ hWr).mono ?_); rintro e w2 ⟨rfl, hb⟩; have hWr2 := below_on hWr (Nat.le_refl _) hb; obtain ⟨⟨hz0, s0⟩, ⟨-, s1⟩, ⟨-, s2⟩, ⟨-, s3⟩, ⟨-, s4⟩, ⟨-, s5⟩, -⟩ := hcs.out.below (below_on hbo (Nat.le_refl _) hb); clear HCb) | (go_at_call 40; (with_reducible refine (HCe.out _ hWr2).mono ?_); rintro e w3 ⟨rfl, hb3⟩; have hWr3 := below_on hWr2 (Nat.le_refl _) hb3))
        go_roundw
        case rel => exact ⟨k + 1, by omega, by go_num, hnx, bt hB hWr3⟩
        case measure => simp [intOf]; omega
def RightBlockRC (l : List St) : Prop := ∀ (F : Nat → Prop) (w : World) (v : Value), Inn F w → Sts F w l v →
    Calls Tryz.prog 20 #[v] w (Gives w (.bool (dec (RightB l))))
set_option maxRecDepth 100000 in
set_option maxHeartbeats 1000000 in
theorem rightBlockR_calls (l : List St) : RightBlockRC l := by
  intro F w v hF hr
  obtain ⟨a, cap, rfl⟩ := hr.shape
  have hd := fun w' (hb : Below w.heap.size w w') => depthBR_calls l F w' _ (hF.below hb) (hr.below hF hb (Nat.le_refl _))
  have hs := fun w' (hb : Below w.heap.size w w') => blkR_calls l F w' _ (hF.below hb) (hr.below hF hb (Nat.le_refl _))
  have hR : Hid (dec (RightB l) = dec (St.depths l ≤ 32 ∧ Blk l)) := rfl
  generalize dec (RightB l) = R at *
  generalize hS : Blk l = S at *
  generalize hD : St.depths l = D at *
  have HD := Lib.hid hd
  have HS := Lib.hid hs
  clear hd hs hr hF hS hD
  by_cases h32 : D ≤ 32
  · obtain rfl : R = dec S := by rw [hR.out]; exact dec_congr (by simp [h32])
    have q : ((min D 65 : Nat) : Int) ≤ 32 := by omega
    clear hR h32
    go_enter Tryz.func20, Tryz.ntmps20
    go_wp2_with (first | (go_at_call 39; (with_reducible refine (HD.out _ (Below.refl _ _)).mono ?_); rintro e w' ⟨rfl, hb⟩) | (go_at_call 40; (with_reducible refine (HS.out _ hb).mono ?_); rintro e w2 ⟨rfl, hb2⟩))
    go_ret
    exact ⟨rfl, below_on hb (Nat.le_refl _) hb2⟩
  · obtain rfl : R = false := by rw [hR.out]; exact dec_false (fun h => h32 h.1)
    have q : ¬ ((min D 65 : Nat) : Int) ≤ 32 := by omega
    have q2 : decide (((min D 65 : Nat) : Int) ≤ 32) = false := by simpa using q
    clear hR h32 HS
    go_enter Tryz.func20, Tryz.ntmps20
    go_wp2_with (go_at_call 39; (with_reducible refine (HD.out _ (Below.refl _ _)).mono ?_); rintro e w' ⟨rfl, hb⟩)
    go_ret
    exact ⟨by first | rfl | (congr 2; omega) | simp, hb⟩
end Go.Proofs.YtnbfadgclffgkaaGreatDoor
