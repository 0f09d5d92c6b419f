/- The walks of tree's rules.block and of tree.RightBlock. -/
import Derived.Test.YtmabeegoapcfpaaGreatDoorQStmt
import Derived.Test.YtmabeegoapcfpaaGreatDoorQPart8b5662ef
namespace Go.Proofs.YtmabeegoapcfpaaGreatDoor
open Go.RowKit Go.Sort
set_option maxRecDepth 100000 in
set_option maxHeartbeats 1000000 in
theorem blk_calls : ∀ l : List St, BlkC l := by
  refine blocks_ind fun l ih => ?_
  intro F w v hF hm hr
  obtain ⟨a, cap, rfl⟩ := hr.shape
  obtain ⟨_, hl, hc, ha⟩ := hr.opn
  unfold RV
  by_cases h256 : l.length ≤ 256
  rotate_left
  · have hfin : Hid (dec (Blk l) = false) := dec_false (fun h => h256 h.1)
    have q : decide (256 < (l.length : Int)) = true := by simp; omega
    clear ih ha hr h256
    go_enter Tryz.func89, Tryz.ntmps89
    go_wp2
    go_ret
    exact ⟨ret_bool hfin.out.symm, (Below.refl _ _).alloc (Nat.le_refl _) _⟩
  have q : decide (256 < (l.length : Int)) = false := by simp; omega
  have hst : ∀ s ∈ l, StmtC s := fun s hs => stmt_calls s (ih s hs).1 (ih s hs).2
  unfold StmtC RV at hst
  clear ih hr
  go_enter Tryz.func89, Tryz.ntmps89
  go_wp2
  go_loopw [12] (fun i wr => ∃ (k : Nat), k ≤ l.length ∧ i = .int .i64 k ∧ Hid (∀ x ∈ l.take k, StOk x) ∧ Below (w.heap.size + 1) (w.alloc (.cells #[.func (.func 86) #[] #[], .func (.func 85) #[] #[], .int .i64 9] 106)) wr) (fun i _ => l.length - (intOf i).toNat)
  case atStart => exact ⟨0, Nat.zero_le _, rfl, by simp [Hid], Below.refl _ _⟩
  case round =>
    obtain ⟨k, hk, rfl, hq, hB0⟩ := hrel
    have hB := below_of_alloc hB0
    by_cases hlt : k < l.length
    · obtain ⟨b, off, rfl, hFb, hel⟩ := ha (by omega)
      obtain ⟨kd, n, s, x1, m1, cp1, x2, m2, cp2, x3, m3, cp3, hx, g0, g1, g2, g3, g4, g5⟩ := hel wr (hB.block b (hF b hFb)) k hlt
      have hI := hF.below hB
      have y0 : wr.cell? ⟨w.heap.size, 0, none⟩ = some (.func (.func 86) #[] #[]) := cell_kept hB0 (by go_simp)
      have y1 : wr.cell? ⟨w.heap.size, 1, none⟩ = some (.func (.func 85) #[] #[]) := cell_kept hB0 (by go_simp)
      have y2 : wr.cell? ⟨w.heap.size, 2, none⟩ = some (.int .i64 9) := cell_kept hB0 (by go_simp)
      have hsz : w.heap.size < wr.heap.size := World.block_lt_of_cell? _ _ y0
      have hcall : ∀ ob, Calls Tryz.prog 156 #[.agg #[.func (.func 86) #[] #[], .func (.func 85) #[] #[], .int .i64 9], .agg #[.int .i64 kd, .int .i64 n, .string s, .slice x1 m1 cp1, .slice x2 m2 cp2, .slice x3 m3 cp3]] (wr.alloc ob) (Gives (wr.alloc ob) (.bool (dec (StOk l[k])))) := fun ob =>
        hst _ (List.getElem_mem hlt) F (wr.alloc ob) _ (hI.alloc ob) ((hm.below hB (Nat.le_refl _)).alloc ob) ((hx.below hF hB (Nat.le_refl _)).alloc hI ob)
      have hte : l.take (k + 1) = l.take k ++ [l[k]] := List.take_succ_eq_append_getElem hlt
      clear ha hel hst
      by_cases hP : StOk l[k]
      · rw [dec_true hP] at hcall
        have hnx : Hid (∀ x ∈ l.take (k + 1), StOk x) := by
          show ∀ x ∈ l.take (k + 1), StOk x
          rw [hte]; intro x hx1
          rcases List.mem_append.1 hx1 with h | h
          · exact hq.out x h
          · rw [List.mem_singleton.1 h]; exact hP
        have HC := Lib.hid hcall
        have HB0 := Lib.hid hB0
        clear hcall hx hte hP hq hB0
        go_wp2_with (go_at_call 156; refine (HC.out _).mono ?_; rintro e w' ⟨rfl, hb⟩)
        go_roundw
        case rel => exact ⟨k + 1, by omega, by go_num, hnx, below_on1 HB0.out (by simp) hb⟩
        case measure => simp [intOf]; omega
      · rw [dec_false hP] at hcall
        have hfin : Hid (dec (Blk l) = false) := dec_false (fun h => hP (h.2 _ (List.getElem_mem hlt)))
        have HC := Lib.hid hcall
        clear hcall hx hte hP hq hB0
        go_wp2_with (go_at_call 156; refine (HC.out _).mono ?_; rintro e w' ⟨rfl, hb⟩)
        go_ret
        exact ⟨ret_bool hfin.out.symm, below_on1 hB (Nat.le_refl _) hb⟩
    · have : k = l.length := by omega
      subst this
      have hfin : Hid (dec (Blk l) = true) := dec_true ⟨h256, by have := hq.out; rwa [List.take_length] at this⟩
      clear hq hst ha
      go_wp2
      go_ret
      exact ⟨ret_bool hfin.out.symm, hB⟩
def RightB (l : List St) : Prop := St.depths l ≤ 32 ∧ Blk l
def RightBC (l : List St) : Prop := ∀ (F : Nat → Prop) (w : World) (v : Value), Inn F w → MX w → Sts F w l v →
    Calls Tryz.prog 20 #[v] w (Gives w (.bool (dec (RightB l))))
set_option maxRecDepth 100000 in
set_option maxHeartbeats 1000000 in
theorem rightBlock_calls (l : List St) : RightBC l := by
  intro F w v hF hm hr
  obtain ⟨a, cap, rfl⟩ := hr.shape
  have hd := fun ob => depthBT_calls l F (w.alloc ob) _ (hF.alloc ob) (hr.alloc hF ob)
  have hs : ∀ ob w', Below (w.alloc ob).heap.size (w.alloc ob) w' → Calls Tryz.prog 89 #[RV, .slice a l.length cap] w' (Gives w' (.bool (dec (Blk l)))) := fun ob w' hb =>
    blk_calls l F w' _ ((hF.alloc ob).below hb) ((hm.alloc ob).below hb (Nat.le_refl _)) ((hr.alloc hF ob).below (hF.alloc ob) hb (Nat.le_refl _))
  unfold RV at hs
  have hR : Hid (dec (RightB l) = dec (St.depths l ≤ 32 ∧ Blk l)) := rfl
  generalize dec (RightB l) = R at *
  generalize hS : Blk l = S at *
  generalize hD : St.depths l = D at *
  have HD := Lib.hid hd
  have HS := Lib.hid hs
  clear hd hs hr hm hF hS hD
  by_cases h32 : D ≤ 32
  · obtain rfl : R = dec S := by rw [hR.out]; exact dec_congr (by simp [h32])
    have q : ((min D 65 : Nat) : Int) ≤ 32 := by omega
    clear hR h32
    go_enter Tryz.func20, Tryz.ntmps20
    go_wp2_with (first | (go_at_call 88; refine (HD.out _).mono ?_; rintro e w' ⟨rfl, hb⟩; obtain ⟨hcl, hfz⟩ := bcell hb; have hz1 := one_new hb) | (go_at_call 89; refine (HS.out _ _ hb).mono ?_; rintro e w2 ⟨rfl, hb2⟩))
    go_ret
    exact ⟨rfl, below_on (below_on1 (Below.refl _ _) (Nat.le_refl _) hb) (Nat.le_refl _) hb2⟩
  · obtain rfl : R = false := by rw [hR.out]; exact dec_false (fun h => h32 h.1)
    have q : ¬ ((min D 65 : Nat) : Int) ≤ 32 := by omega
    have q2 : decide (((min D 65 : Nat) : Int) ≤ 32) = false := by simpa using q
    clear hR h32 HS
    go_enter Tryz.func20, Tryz.ntmps20
    go_wp2_with (go_at_call 88; refine (HD.out _).mono ?_; rintro e w' ⟨rfl, hb⟩; obtain ⟨hcl, hfz⟩ := bcell hb; have hz1 := one_new hb)
    go_ret
    exact ⟨by first | rfl | (congr 2; omega) | simp, below_on1 (Below.refl _ _) (Nat.le_refl _) hb⟩
end Go.Proofs.YtmabeegoapcfpaaGreatDoor
/- What a right source is (plain). Printed by gen-show6.py. -/
namespace Go.Proofs.YtmabeegoapcfpaaGreatDoor
open Go.RowKit
abbrev PairR (p : PairD) : Prop := IsNm p.name ∧ (-32767 ≤ p.num) ∧ (p.num ≤ 32767)
abbrev CondR (e : Ex) : Prop := e.kind ≠ 2 ∧ e.kind ≠ 13 ∧ RightE e ∧ ((min e.depth 65 : Nat) : Int) < 32
abbrev WhenR (l : List Ex) : Prop := (l.length : Int) ≤ 1 ∧ ∀ x ∈ l, CondR x
abbrev TextsR (m : Int) (l : List ByteArray) : Prop := (l.length : Int) ≤ m ∧ ∀ x ∈ l, IsText x
abbrev NamesR (m : Int) (l : List ByteArray) : Prop := (l.length : Int) ≤ m ∧ ∀ x ∈ l, IsNm x
abbrev PairsR (m : Int) (l : List PairD) : Prop := (l.length : Int) ≤ m ∧ ∀ x ∈ l, PairR x
abbrev ExitR (x : ExitD) : Prop := 1 ≤ x.dir ∧ x.dir ≤ 12 ∧ IsNm x.to ∧ IsText x.els ∧ WhenR x.cond
abbrev MaybeR (s : ByteArray) : Prop := s = ⟨#[]⟩ ∨ IsNm s
abbrev ObjR (o : ObjD) : Prop := (o.room = true → o.inn = ⟨#[]⟩) ∧ (o.room = false → o.exits.length = 0) ∧ TextsR 8 o.words ∧ TextsR 8 o.adjs ∧ IsNm o.name ∧ IsText o.title ∧ IsText o.text ∧ MaybeR o.inn ∧ NamesR 16 o.flags ∧ PairsR 16 o.props ∧ ((o.exits.length : Int) ≤ 12 ∧ ∀ x ∈ o.exits, ExitR x)
abbrev SlotR (s : SlotD) : Prop := 1 ≤ s.kind ∧ s.kind ≤ 5 ∧ (s.kind = 1 ↔ 0 < s.words.length) ∧ TextsR 4 s.words
abbrev LineR (l : List SlotD) : Prop := 0 < l.length ∧ ((l.length : Int) ≤ 8 ∧ ∀ x ∈ l, SlotR x)
abbrev VerbR (v : VerbD) : Prop := IsNm v.name ∧ 0 < v.lines.length ∧ ((v.lines.length : Int) ≤ 8 ∧ ∀ x ∈ v.lines, LineR x)
abbrev RuleR (r : RuleD) : Prop := IsNm r.verb ∧ 1 ≤ r.phase ∧ r.phase ≤ 3 ∧ MaybeR r.noun ∧ MaybeR r.second ∧ WhenR r.cond ∧ RightB r.body
abbrev FunR (m : Int) (f : FuncD) : Prop := IsNm f.name ∧ NamesR m f.params ∧ RightB f.body
abbrev DaeR (f : FuncD) : Prop := f.params.length = 0 ∧ FunR 8 f
abbrev NumR (n : Int) : Prop := 0 ≤ n ∧ n ≤ 32767
abbrev SrcR (s : SrcD) : Prop := IsText s.title ∧ IsText s.author ∧ IsNm s.start ∧ NumR s.release ∧ NumR s.most ∧ NamesR 16 s.flags ∧ PairsR 16 s.props ∧ PairsR 64 s.globals ∧ ((s.objects.length : Int) ≤ 126 ∧ ∀ x ∈ s.objects, ObjR x) ∧ ((s.verbs.length : Int) ≤ 64 ∧ ∀ x ∈ s.verbs, VerbR x) ∧ ((s.rules.length : Int) ≤ 512 ∧ ∀ x ∈ s.rules, RuleR x) ∧ ((s.funcs.length : Int) ≤ 64 ∧ ∀ x ∈ s.funcs, FunR 8 x) ∧ ((s.daemons.length : Int) ≤ 16 ∧ ∀ x ∈ s.daemons, DaeR x)
theorem dae_iff (f : FuncD) : DaeR f ↔ FunR 0 f := by
  constructor
  · rintro ⟨h0, h1, h2, h3⟩
    exact ⟨h1, ⟨by omega, h2.2⟩, h3⟩
  · rintro ⟨h1, h2, h3⟩
    have h0 : f.params.length = 0 := by have := h2.1; omega
    exact ⟨h0, h1, ⟨by omega, h2.2⟩, h3⟩
theorem Same0.gv {P : Program} {f : Nat} {a : Array Value} {w : World} {v : Value} (h : Calls P f a w (Same0 w v)) : Calls P f a w (Gives w v) := h.mono (fun _ _ ⟨h1, h2⟩ => ⟨h1, h2 ▸ Below.refl _ _⟩)
theorem emp_bs (a : ByteArray) : a.toList.isEmpty = dec (a = ⟨#[]⟩) := by
  rw [ByteArray.toList_eq]
  by_cases h : a = ⟨#[]⟩
  · rw [dec_true h, h]; rfl
  · rw [dec_false h]
    cases hl : a.data.toList with
    | nil => exact absurd (by cases a; simp only at hl; rw [show _ = #[] from Array.toList_eq_nil_iff.1 hl]) h
    | cons => rfl
theorem emp_t {a : ByteArray} (h : a = ⟨#[]⟩) : a.toList.isEmpty = true := by rw [emp_bs, dec_true h]
theorem emp_f {a : ByteArray} (h : a ≠ ⟨#[]⟩) : a.toList.isEmpty = false := by rw [emp_bs, dec_false h]
end Go.Proofs.YtmabeegoapcfpaaGreatDoor
