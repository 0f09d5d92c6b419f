/- The walk of clewref15.all: a source's declarations, in order. (Printed by gen-make.py.) -/
import Derived.Test.YtblhpiebheommaaGreatKindsChecksPart33
import Derived.Test.YtblhpiebheommaaGreatKindsChecksPart6
import Derived.Test.YtblhpiebheommaaGreatKindsChecksPart3
namespace Go.Proofs.YtblhpiebheommaaGreat
open Go.RowKit

theorem cells_new (w : World) (l : List Value) (t : TypeId) : ∀ j u, l[j]? = some u → (w.alloc (.cells l.toArray t)).cell? ((⟨w.heap.size, 0, none⟩ : Addr).add j) = some u := fun j u hu => by
  have hj : j < l.length := (List.getElem?_eq_some_iff.1 hu).1
  have hadd : (⟨w.heap.size, 0, none⟩ : Addr).add j = ⟨w.heap.size, j, none⟩ := by unfold Addr.add; split <;> simp_all
  rw [hadd, bx_new w l t _ rfl j hj, hu]

theorem Tryz.infoEnt : (Tryz.prog.info? 69).map (fun i => (i.zero, i.size, i.bytes)) = some (some (.agg #[.string ⟨#[]⟩, .int .i64 0, .int .i64 0, .int .i64 0, .int .i64 0, .int .i64 0]), 6, 56) := by kernel_rfl

theorem OwnR.lo {α : Type} {R : Holds α} {te sz lo lo' : Nat} {w : World} {xs : List α} {v : Value} (h : OwnR R te sz lo' w xs v) (hl : lo ≤ lo') : OwnR R te sz lo w xs v := by
  obtain ⟨ys, G, h1, h2, h3⟩ := h
  refine ⟨ys, G, ⟨h1.1, ?_⟩, fun b hb => ⟨Nat.le_trans hl (h2 b hb).1, (h2 b hb).2⟩, h3⟩
  rcases h1.2 with h4 | ⟨g, cap, cur, rfl, h5, h6⟩
  · exact .inl h4
  · exact .inr ⟨g, cap, cur, rfl, Nat.le_trans hl h5, h6⟩

/-- One more declaration: the round's whole work. -/
theorem ent_push {lo : Nat} {w0 wr w2 : World} {xs : List EntD} {x : EntD} {ys : List Value} {v v' : Value} {o : Obj} (hown : OwnR Holds.ent 69 6 lo wr xs v) (hy : wr.ownsRow lo 69 6 v xs.length ys) (hB : Below lo w0 wr) (hlo : lo ≤ wr.heap.size)
    (hx : x.name.size ≤ maxLen ∧ I64 x.kind ∧ I64 x.part ∧ I64 x.place ∧ I64 x.num ∧ I64 x.most)
    (hown' : w2.ownsRow lo 69 6 v' (xs.length + 1) (ys ++ [.string x.name, .int .i64 x.kind, .int .i64 x.part, .int .i64 x.place, .int .i64 x.num, .int .i64 x.most])) (hg : (wr.alloc o).grownBy w2 v.ownBlock) (hat : v'.ownBlock = v.ownBlock ∨ v'.ownBlock = some (wr.alloc o).heap.size) :
    OwnR Holds.ent 69 6 lo w2 (xs ++ [x]) v' ∧ Below lo w0 w2 := by
  have h1 := hown.below ((Below.refl wr.heap.size wr).alloc (Nat.le_refl _) o)
  have hy1 : (wr.alloc o).ownsRow lo 69 6 v xs.length ys := ownsRow_blk hy fun g hg => Below.heap_alloc wr _ g (ownsRow_in hy g hg).2
  refine ⟨h1.push (G2 := fun _ => False) hy1 hown' rfl hg hat (fun _ h => h.elim) ⟨hx.1, hx.2.1, hx.2.2.1, hx.2.2.2.1, hx.2.2.2.2.1, hx.2.2.2.2.2, rfl⟩, ?_⟩
  exact hB.trans (((Below.refl lo wr).alloc hlo o).grown hg (by simp; omega) (fun k e => (ownsRow_in hy k e).1))

set_option maxRecDepth 100000 in
set_option maxHeartbeats 8000000 in
theorem allR_calls (s : SrcD) (F : Nat → Prop) (w : World) (cs : List Value) (hF : Inn F w) (hr : Holds.src.R F w s cs) (hsz : s.flags.length + s.props.length + s.globals.length + s.objects.length + s.verbs.length + s.funcs.length + s.daemons.length ≤ 100000000) :
    Calls Tryz.prog 16 #[.agg cs.toArray] w (fun e w' => ∃ v, e = .returned v ∧ OwnR Holds.ent 69 6 w.heap.size w' s.ents v ∧ Below w.heap.size w w') := by
  obtain ⟨i0, hi, hz0, hz1, hz2⟩ := info_parts Tryz.infoEnt
  obtain ⟨a5, c5, a6, c6, a7, c7, a8, c8, a9, c9, a10, c10, a11, c11, a12, c12, rfl, g5, g6, g7, g8, g9, -, g11, g12⟩ := src_shape hr
  have hN : Hid (s.ents = ((((((ents (fun x => x) 1 2 4 12 0 s.flags ++ ents PairD.name 2 3 0 16 0 s.props) ++ ents PairD.name 3 4 0 64 0 s.globals) ++ ents ObjD.name 4 5 2 126 0 s.objects) ++ ents VerbD.name 5 6 0 64 0 s.verbs) ++ ents FuncD.name 6 8 0 64 0 s.funcs) ++ ents FuncD.name 7 9 0 16 0 s.daemons)) := rfl
  generalize s.ents = fin at hN ⊢
  have hB0 : Below w.heap.size w (w.alloc (.cells #[.string s.title, .string s.author, .string s.start, .int .i64 s.release, .int .i64 s.most, .slice a5 s.flags.length c5, .slice a6 s.props.length c6, .slice a7 s.globals.length c7, .slice a8 s.objects.length c8, .slice a9 s.verbs.length c9, .slice a10 s.rules.length c10, .slice a11 s.funcs.length c11, .slice a12 s.daemons.length c12] 29)) := (Below.refl _ w).alloc (Nat.le_refl _) _
  have R5 := Lib.hid g5
  have R6 := Lib.hid g6
  have R7 := Lib.hid g7
  have R8 := Lib.hid g8
  have R9 := Lib.hid g9
  have R11 := Lib.hid g11
  have R12 := Lib.hid g12
  have hsrc : ∀ j (hj : j < 13), (w.alloc (.cells #[.string s.title, .string s.author, .string s.start, .int .i64 s.release, .int .i64 s.most, .slice a5 s.flags.length c5, .slice a6 s.props.length c6, .slice a7 s.globals.length c7, .slice a8 s.objects.length c8, .slice a9 s.verbs.length c9, .slice a10 s.rules.length c10, .slice a11 s.funcs.length c11, .slice a12 s.daemons.length c12] 29)).cell? ⟨w.heap.size, j, none⟩ = (#[.string s.title, .string s.author, .string s.start, .int .i64 s.release, .int .i64 s.most, .slice a5 s.flags.length c5, .slice a6 s.props.length c6, .slice a7 s.globals.length c7, .slice a8 s.objects.length c8, .slice a9 s.verbs.length c9, .slice a10 s.rules.length c10, .slice a11 s.funcs.length c11, .slice a12 s.daemons.length c12]).toList[j]? := fun j hj => bx_new w (#[.string s.title, .string s.author, .string s.start, .int .i64 s.release, .int .i64 s.most, .slice a5 s.flags.length c5, .slice a6 s.props.length c6, .slice a7 s.globals.length c7, .slice a8 s.objects.length c8, .slice a9 s.verbs.length c9, .slice a10 s.rules.length c10, .slice a11 s.funcs.length c11, .slice a12 s.daemons.length c12]).toList 29 _ rfl j (by simpa using hj)
  have b50 := hsrc 5 (by omega)
  have b60 := hsrc 6 (by omega)
  have b70 := hsrc 7 (by omega)
  have b80 := hsrc 8 (by omega)
  have b90 := hsrc 9 (by omega)
  have b110 := hsrc 11 (by omega)
  have b120 := hsrc 12 (by omega)
  simp only [List.getElem?_cons_succ, List.getElem?_cons_zero] at b50 b60 b70 b80 b90 b110 b120
  clear hsrc g5 g6 g7 g8 g9 g11 g12 hr
  go_enter Tryz.func16, Tryz.ntmps16
  go_wp2
  have hown0 : OwnR Holds.ent 69 6 (w.heap.size + 1) (w.alloc (.cells #[.string s.title, .string s.author, .string s.start, .int .i64 s.release, .int .i64 s.most, .slice a5 s.flags.length c5, .slice a6 s.props.length c6, .slice a7 s.globals.length c7, .slice a8 s.objects.length c8, .slice a9 s.verbs.length c9, .slice a10 s.rules.length c10, .slice a11 s.funcs.length c11, .slice a12 s.daemons.length c12] 29)) [] (.slice none 0 0) := OwnR.nil _ _ _ _ _
  obtain ⟨W0, hW0⟩ : ∃ W0, w.alloc (.cells #[.string s.title, .string s.author, .string s.start, .int .i64 s.release, .int .i64 s.most, .slice a5 s.flags.length c5, .slice a6 s.props.length c6, .slice a7 s.globals.length c7, .slice a8 s.objects.length c8, .slice a9 s.verbs.length c9, .slice a10 s.rules.length c10, .slice a11 s.funcs.length c11, .slice a12 s.daemons.length c12] 29) = W0 := ⟨_, rfl⟩
  have hlt0 : w.heap.size < W0.heap.size := by rw [← hW0]; simp
  rw [hW0] at hB0 hown0 b50 b60 b70 b80 b90 b110 b120
  simp only [hW0]
  clear hW0
  have hBs : Below (w.heap.size + 1) W0 W0 := Below.refl _ _
  go_loopw [3, 4] (fun u i wr => ∃ (k : Nat), k ≤ s.flags.length ∧ i = .int .i64 k ∧ OwnR Holds.ent 69 6 (w.heap.size + 1) wr (ents (fun x => x) 1 2 4 12 0 (s.flags.take k)) u ∧ Below (w.heap.size + 1) W0 wr) (fun _ i _ => s.flags.length - (intOf i).toNat)
  case atStart => exact ⟨0, Nat.zero_le _, rfl, by simpa [ents] using hown0, hBs⟩
  case round =>
    obtain ⟨k, hk, rfl, hown, hB⟩ := hrel
    have b5 := (hB.cell (p := ⟨w.heap.size, 5, none⟩) (Nat.lt_succ_self _)).trans b50
    by_cases hlt : k < s.flags.length
    · obtain ⟨_, _, hsl, hl5, hc5, ha⟩ := R5.out.opn
      cases hsl
      obtain ⟨b, off, rfl, hFb, hel⟩ := ha (by omega)
      unfold maxLen at hc5
      obtain ⟨cs, ⟨h1, rfl⟩, -, hcell⟩ := hel wr ((hB.block b (Nat.lt_succ_of_lt (hF b hFb))).trans (hB0.block b (hF b hFb))) k hlt
      have q0 := hcell 0 _ rfl
      simp only [Nat.add_zero, Nat.mul_one] at q0
      have hnx : Hid (ents (fun x => x) 1 2 4 12 0 (s.flags.take (k + 1)) = (ents (fun x => x) 1 2 4 12 0 (s.flags.take k)) ++ [⟨s.flags[k], 1, 2, k, k + 4, 12⟩]) := by show _ = _; rw [ents_take _ _ _ _ _ _ _ hlt]
      have hln : (ents (fun x => x) 1 2 4 12 0 (s.flags.take k)).length ≤ 100000000 := by simp only [ents_len, List.length_take]; omega
      obtain ⟨ys, hys⟩ := hown.owns
      generalize hxs : ents (fun x => x) 1 2 4 12 0 (s.flags.take k) = xs at hown hys hln hnx
      have hnm := h1
      clear hel hcell ha hxs
      go_wp2_with (at_builtin; refine wpList_append_own_at _ rfl _ _ 64 rfl (w.heap.size + 1) 69 i0 _ 6 56 Tryz.underlying64 hi hz0 hz1 hz2 rfl (by decide) _ _ _ rfl (ownsRow_blk hys fun g hg => Below.heap_alloc wr _ g (ownsRow_in hys g hg).2) ⟨wr.heap.size, 0, none⟩ 1 1 [.string s.flags[k], .int .i64 1, .int .i64 2, .int .i64 k, .int .i64 (k + 4), .int .i64 12] rfl rfl (cells_new wr [_, _, _, _, _, _] 69) (by simp [Value.oneCell']) (by unfold maxLen; omega) (by omega) (by have h1 := hB.size; simp; omega) ?_; intro v' w2 hown' hgrow _ hat)
      obtain ⟨hnew, hB2⟩ := ent_push (x := ⟨s.flags[k], 1, 2, k, k + 4, 12⟩) hown hys hB (by have h1 := hB.size; omega) ⟨hnm, by simp only [I64]; omega, by simp only [I64]; omega, by simp only [I64]; omega, by simp only [I64]; omega, by simp only [I64]; omega⟩ hown' hgrow hat
      go_roundw
      case rel => exact ⟨k + 1, by omega, by go_num, by rw [hnx.out]; exact hnew, hB2⟩
      case measure => simp [intOf]; omega
    · have hkn : k = s.flags.length := by omega
      have hown1 : OwnR Holds.ent 69 6 (w.heap.size + 1) wr (ents (fun x => x) 1 2 4 12 0 s.flags) u3 := by
        rw [hkn, List.take_length] at hown
        exact hown
      have hB1 := hB
      clear hown hB hkn
      obtain ⟨w1, rfl⟩ : ∃ w1 : World, w1 = wr := ⟨_, rfl⟩
      go_wp2
      go_loopw [3, 5] (fun u i wr => ∃ (k : Nat), k ≤ s.props.length ∧ i = .int .i64 k ∧ OwnR Holds.ent 69 6 (w.heap.size + 1) wr (ents (fun x => x) 1 2 4 12 0 s.flags ++ ents PairD.name 2 3 0 16 0 (s.props.take k)) u ∧ Below (w.heap.size + 1) W0 wr) (fun _ i _ => s.props.length - (intOf i).toNat)
      case atStart => exact ⟨0, Nat.zero_le _, rfl, by simpa [ents] using hown1, hB1⟩
      case round =>
        obtain ⟨k, hk, rfl, hown, hB⟩ := hrel
        have b6 := (hB.cell (p := ⟨w.heap.size, 6, none⟩) (Nat.lt_succ_self _)).trans b60
        by_cases hlt : k < s.props.length
        · obtain ⟨_, _, hsl, hl6, hc6, ha⟩ := R6.out.opn
          cases hsl
          obtain ⟨b, off, rfl, hFb, hel⟩ := ha (by omega)
          unfold maxLen at hc6
          obtain ⟨cs, ⟨h1, -, rfl⟩, -, hcell⟩ := hel wr ((hB.block b (Nat.lt_succ_of_lt (hF b hFb))).trans (hB0.block b (hF b hFb))) k hlt
          have q0 := hcell 0 _ rfl
          simp only [Nat.add_zero] at q0
          have hnx : Hid (ents (fun x => x) 1 2 4 12 0 s.flags ++ ents PairD.name 2 3 0 16 0 (s.props.take (k + 1)) = (ents (fun x => x) 1 2 4 12 0 s.flags ++ ents PairD.name 2 3 0 16 0 (s.props.take k)) ++ [⟨s.props[k].name, 2, 3, k, k + 0, 16⟩]) := by show _ = _; rw [ents_take _ _ _ _ _ _ _ hlt, ← List.append_assoc]
          have hln : (ents (fun x => x) 1 2 4 12 0 s.flags ++ ents PairD.name 2 3 0 16 0 (s.props.take k)).length ≤ 100000000 := by simp only [List.length_append, ents_len, List.length_take]; omega
          obtain ⟨ys, hys⟩ := hown.owns
          generalize hxs : ents (fun x => x) 1 2 4 12 0 s.flags ++ ents PairD.name 2 3 0 16 0 (s.props.take k) = xs at hown hys hln hnx
          have hnm := h1
          clear hel hcell ha hxs
          go_wp2_with (at_builtin; refine wpList_append_own_at _ rfl _ _ 64 rfl (w.heap.size + 1) 69 i0 _ 6 56 Tryz.underlying64 hi hz0 hz1 hz2 rfl (by decide) _ _ _ rfl (ownsRow_blk hys fun g hg => Below.heap_alloc wr _ g (ownsRow_in hys g hg).2) ⟨wr.heap.size, 0, none⟩ 1 1 [.string s.props[k].name, .int .i64 2, .int .i64 3, .int .i64 k, .int .i64 k, .int .i64 16] rfl rfl (cells_new wr [_, _, _, _, _, _] 69) (by simp [Value.oneCell']) (by unfold maxLen; omega) (by omega) (by have h1 := hB.size; simp; omega) ?_; intro v' w2 hown' hgrow _ hat)
          obtain ⟨hnew, hB2⟩ := ent_push (x := ⟨s.props[k].name, 2, 3, k, k + 0, 16⟩) hown hys hB (by have h1 := hB.size; omega) ⟨hnm, by simp only [I64]; omega, by simp only [I64]; omega, by simp only [I64]; omega, by simp only [I64]; omega, by simp only [I64]; omega⟩ (by simpa using hown') hgrow hat
          go_roundw
          case rel => exact ⟨k + 1, by omega, by go_num, by rw [hnx.out]; exact hnew, hB2⟩
          case measure => simp [intOf]; omega
        · have hkn : k = s.props.length := by omega
          have hown2 : OwnR Holds.ent 69 6 (w.heap.size + 1) wr ((ents (fun x => x) 1 2 4 12 0 s.flags ++ ents PairD.name 2 3 0 16 0 s.props)) u3 := by
            rw [hkn, List.take_length] at hown
            exact hown
          have hB2 := hB
          clear hown hB hkn
          obtain ⟨w2, rfl⟩ : ∃ w2 : World, w2 = wr := ⟨_, rfl⟩
          go_wp2
          go_loopw [3, 6] (fun u i wr => ∃ (k : Nat), k ≤ s.globals.length ∧ i = .int .i64 k ∧ OwnR Holds.ent 69 6 (w.heap.size + 1) wr ((ents (fun x => x) 1 2 4 12 0 s.flags ++ ents PairD.name 2 3 0 16 0 s.props) ++ ents PairD.name 3 4 0 64 0 (s.globals.take k)) u ∧ Below (w.heap.size + 1) W0 wr) (fun _ i _ => s.globals.length - (intOf i).toNat)
          case atStart => exact ⟨0, Nat.zero_le _, rfl, by simpa [ents] using hown2, hB2⟩
          case round =>
            obtain ⟨k, hk, rfl, hown, hB⟩ := hrel
            have b7 := (hB.cell (p := ⟨w.heap.size, 7, none⟩) (Nat.lt_succ_self _)).trans b70
            by_cases hlt : k < s.globals.length
            · obtain ⟨_, _, hsl, hl7, hc7, ha⟩ := R7.out.opn
              cases hsl
              obtain ⟨b, off, rfl, hFb, hel⟩ := ha (by omega)
              unfold maxLen at hc7
              obtain ⟨cs, ⟨h1, -, rfl⟩, -, hcell⟩ := hel wr ((hB.block b (Nat.lt_succ_of_lt (hF b hFb))).trans (hB0.block b (hF b hFb))) k hlt
              have q0 := hcell 0 _ rfl
              simp only [Nat.add_zero] at q0
              have hnx : Hid ((ents (fun x => x) 1 2 4 12 0 s.flags ++ ents PairD.name 2 3 0 16 0 s.props) ++ ents PairD.name 3 4 0 64 0 (s.globals.take (k + 1)) = ((ents (fun x => x) 1 2 4 12 0 s.flags ++ ents PairD.name 2 3 0 16 0 s.props) ++ ents PairD.name 3 4 0 64 0 (s.globals.take k)) ++ [⟨s.globals[k].name, 3, 4, k, k + 0, 64⟩]) := by show _ = _; rw [ents_take _ _ _ _ _ _ _ hlt, ← List.append_assoc]
              have hln : ((ents (fun x => x) 1 2 4 12 0 s.flags ++ ents PairD.name 2 3 0 16 0 s.props) ++ ents PairD.name 3 4 0 64 0 (s.globals.take k)).length ≤ 100000000 := by simp only [List.length_append, ents_len, List.length_take]; omega
              obtain ⟨ys, hys⟩ := hown.owns
              generalize hxs : (ents (fun x => x) 1 2 4 12 0 s.flags ++ ents PairD.name 2 3 0 16 0 s.props) ++ ents PairD.name 3 4 0 64 0 (s.globals.take k) = xs at hown hys hln hnx
              have hnm := h1
              clear hel hcell ha hxs
              go_wp2_with (at_builtin; refine wpList_append_own_at _ rfl _ _ 64 rfl (w.heap.size + 1) 69 i0 _ 6 56 Tryz.underlying64 hi hz0 hz1 hz2 rfl (by decide) _ _ _ rfl (ownsRow_blk hys fun g hg => Below.heap_alloc wr _ g (ownsRow_in hys g hg).2) ⟨wr.heap.size, 0, none⟩ 1 1 [.string s.globals[k].name, .int .i64 3, .int .i64 4, .int .i64 k, .int .i64 k, .int .i64 64] rfl rfl (cells_new wr [_, _, _, _, _, _] 69) (by simp [Value.oneCell']) (by unfold maxLen; omega) (by omega) (by have h1 := hB.size; simp; omega) ?_; intro v' w2 hown' hgrow _ hat)
              obtain ⟨hnew, hB2⟩ := ent_push (x := ⟨s.globals[k].name, 3, 4, k, k + 0, 64⟩) hown hys hB (by have h1 := hB.size; omega) ⟨hnm, by simp only [I64]; omega, by simp only [I64]; omega, by simp only [I64]; omega, by simp only [I64]; omega, by simp only [I64]; omega⟩ (by simpa using hown') hgrow hat
              go_roundw
              case rel => exact ⟨k + 1, by omega, by go_num, by rw [hnx.out]; exact hnew, hB2⟩
              case measure => simp [intOf]; omega
            · have hkn : k = s.globals.length := by omega
              have hown3 : OwnR Holds.ent 69 6 (w.heap.size + 1) wr (((ents (fun x => x) 1 2 4 12 0 s.flags ++ ents PairD.name 2 3 0 16 0 s.props) ++ ents PairD.name 3 4 0 64 0 s.globals)) u3 := by
                rw [hkn, List.take_length] at hown
                exact hown
              have hB3 := hB
              clear hown hB hkn
              obtain ⟨w3, rfl⟩ : ∃ w3 : World, w3 = wr := ⟨_, rfl⟩
              go_wp2
              go_loopw [3, 7] (fun u i wr => ∃ (k : Nat), k ≤ s.objects.length ∧ i = .int .i64 k ∧ OwnR Holds.ent 69 6 (w.heap.size + 1) wr (((ents (fun x => x) 1 2 4 12 0 s.flags ++ ents PairD.name 2 3 0 16 0 s.props) ++ ents PairD.name 3 4 0 64 0 s.globals) ++ ents ObjD.name 4 5 2 126 0 (s.objects.take k)) u ∧ Below (w.heap.size + 1) W0 wr) (fun _ i _ => s.objects.length - (intOf i).toNat)
              case atStart => exact ⟨0, Nat.zero_le _, rfl, by simpa [ents] using hown3, hB3⟩
              case round =>
                obtain ⟨k, hk, rfl, hown, hB⟩ := hrel
                have b8 := (hB.cell (p := ⟨w.heap.size, 8, none⟩) (Nat.lt_succ_self _)).trans b80
                by_cases hlt : k < s.objects.length
                · obtain ⟨_, _, hsl, hl8, hc8, ha⟩ := R8.out.opn
                  cases hsl
                  obtain ⟨b, off, rfl, hFb, hel⟩ := ha (by omega)
                  unfold maxLen at hc8
                  obtain ⟨cs, ⟨h1, -, -, -, v5, v6, v7, v8, v9, rfl, -⟩, -, hcell⟩ := hel wr ((hB.block b (Nat.lt_succ_of_lt (hF b hFb))).trans (hB0.block b (hF b hFb))) k hlt
                  have q0 := hcell 0 _ rfl
                  simp only [Nat.add_zero] at q0
                  have hnx : Hid (((ents (fun x => x) 1 2 4 12 0 s.flags ++ ents PairD.name 2 3 0 16 0 s.props) ++ ents PairD.name 3 4 0 64 0 s.globals) ++ ents ObjD.name 4 5 2 126 0 (s.objects.take (k + 1)) = (((ents (fun x => x) 1 2 4 12 0 s.flags ++ ents PairD.name 2 3 0 16 0 s.props) ++ ents PairD.name 3 4 0 64 0 s.globals) ++ ents ObjD.name 4 5 2 126 0 (s.objects.take k)) ++ [⟨s.objects[k].name, 4, 5, k, k + 2, 126⟩]) := by show _ = _; rw [ents_take _ _ _ _ _ _ _ hlt, ← List.append_assoc]
                  have hln : (((ents (fun x => x) 1 2 4 12 0 s.flags ++ ents PairD.name 2 3 0 16 0 s.props) ++ ents PairD.name 3 4 0 64 0 s.globals) ++ ents ObjD.name 4 5 2 126 0 (s.objects.take k)).length ≤ 100000000 := by simp only [List.length_append, ents_len, List.length_take]; omega
                  obtain ⟨ys, hys⟩ := hown.owns
                  generalize hxs : ((ents (fun x => x) 1 2 4 12 0 s.flags ++ ents PairD.name 2 3 0 16 0 s.props) ++ ents PairD.name 3 4 0 64 0 s.globals) ++ ents ObjD.name 4 5 2 126 0 (s.objects.take k) = xs at hown hys hln hnx
                  have hnm := h1
                  clear hel hcell ha hxs
                  go_wp2_with (at_builtin; refine wpList_append_own_at _ rfl _ _ 64 rfl (w.heap.size + 1) 69 i0 _ 6 56 Tryz.underlying64 hi hz0 hz1 hz2 rfl (by decide) _ _ _ rfl (ownsRow_blk hys fun g hg => Below.heap_alloc wr _ g (ownsRow_in hys g hg).2) ⟨wr.heap.size, 0, none⟩ 1 1 [.string s.objects[k].name, .int .i64 4, .int .i64 5, .int .i64 k, .int .i64 (k + 2), .int .i64 126] rfl rfl (cells_new wr [_, _, _, _, _, _] 69) (by simp [Value.oneCell']) (by unfold maxLen; omega) (by omega) (by have h1 := hB.size; simp; omega) ?_; intro v' w2 hown' hgrow _ hat)
                  obtain ⟨hnew, hB2⟩ := ent_push (x := ⟨s.objects[k].name, 4, 5, k, k + 2, 126⟩) hown hys hB (by have h1 := hB.size; omega) ⟨hnm, by simp only [I64]; omega, by simp only [I64]; omega, by simp only [I64]; omega, by simp only [I64]; omega, by simp only [I64]; omega⟩ hown' hgrow hat
                  go_roundw
                  case rel => exact ⟨k + 1, by omega, by go_num, by rw [hnx.out]; exact hnew, hB2⟩
                  case measure => simp [intOf]; omega
                · have hkn : k = s.objects.length := by omega
                  have hown4 : OwnR Holds.ent 69 6 (w.heap.size + 1) wr ((((ents (fun x => x) 1 2 4 12 0 s.flags ++ ents PairD.name 2 3 0 16 0 s.props) ++ ents PairD.name 3 4 0 64 0 s.globals) ++ ents ObjD.name 4 5 2 126 0 s.objects)) u3 := by
                    rw [hkn, List.take_length] at hown
                    exact hown
                  have hB4 := hB
                  clear hown hB hkn
                  obtain ⟨w4, rfl⟩ : ∃ w4 : World, w4 = wr := ⟨_, rfl⟩
                  go_wp2
                  go_loopw [3, 8] (fun u i wr => ∃ (k : Nat), k ≤ s.verbs.length ∧ i = .int .i64 k ∧ OwnR Holds.ent 69 6 (w.heap.size + 1) wr ((((ents (fun x => x) 1 2 4 12 0 s.flags ++ ents PairD.name 2 3 0 16 0 s.props) ++ ents PairD.name 3 4 0 64 0 s.globals) ++ ents ObjD.name 4 5 2 126 0 s.objects) ++ ents VerbD.name 5 6 0 64 0 (s.verbs.take k)) u ∧ Below (w.heap.size + 1) W0 wr) (fun _ i _ => s.verbs.length - (intOf i).toNat)
                  case atStart => exact ⟨0, Nat.zero_le _, rfl, by simpa [ents] using hown4, hB4⟩
                  case round =>
                    obtain ⟨k, hk, rfl, hown, hB⟩ := hrel
                    have b9 := (hB.cell (p := ⟨w.heap.size, 9, none⟩) (Nat.lt_succ_self _)).trans b90
                    by_cases hlt : k < s.verbs.length
                    · obtain ⟨_, _, hsl, hl9, hc9, ha⟩ := R9.out.opn
                      cases hsl
                      obtain ⟨b, off, rfl, hFb, hel⟩ := ha (by omega)
                      unfold maxLen at hc9
                      obtain ⟨cs, ⟨h1, v, rfl, -⟩, -, hcell⟩ := hel wr ((hB.block b (Nat.lt_succ_of_lt (hF b hFb))).trans (hB0.block b (hF b hFb))) k hlt
                      have q0 := hcell 0 _ rfl
                      simp only [Nat.add_zero] at q0
                      have hnx : Hid ((((ents (fun x => x) 1 2 4 12 0 s.flags ++ ents PairD.name 2 3 0 16 0 s.props) ++ ents PairD.name 3 4 0 64 0 s.globals) ++ ents ObjD.name 4 5 2 126 0 s.objects) ++ ents VerbD.name 5 6 0 64 0 (s.verbs.take (k + 1)) = ((((ents (fun x => x) 1 2 4 12 0 s.flags ++ ents PairD.name 2 3 0 16 0 s.props) ++ ents PairD.name 3 4 0 64 0 s.globals) ++ ents ObjD.name 4 5 2 126 0 s.objects) ++ ents VerbD.name 5 6 0 64 0 (s.verbs.take k)) ++ [⟨s.verbs[k].name, 5, 6, k, k + 0, 64⟩]) := by show _ = _; rw [ents_take _ _ _ _ _ _ _ hlt, ← List.append_assoc]
                      have hln : ((((ents (fun x => x) 1 2 4 12 0 s.flags ++ ents PairD.name 2 3 0 16 0 s.props) ++ ents PairD.name 3 4 0 64 0 s.globals) ++ ents ObjD.name 4 5 2 126 0 s.objects) ++ ents VerbD.name 5 6 0 64 0 (s.verbs.take k)).length ≤ 100000000 := by simp only [List.length_append, ents_len, List.length_take]; omega
                      obtain ⟨ys, hys⟩ := hown.owns
                      generalize hxs : (((ents (fun x => x) 1 2 4 12 0 s.flags ++ ents PairD.name 2 3 0 16 0 s.props) ++ ents PairD.name 3 4 0 64 0 s.globals) ++ ents ObjD.name 4 5 2 126 0 s.objects) ++ ents VerbD.name 5 6 0 64 0 (s.verbs.take k) = xs at hown hys hln hnx
                      have hnm := h1
                      clear hel hcell ha hxs
                      go_wp2_with (at_builtin; refine wpList_append_own_at _ rfl _ _ 64 rfl (w.heap.size + 1) 69 i0 _ 6 56 Tryz.underlying64 hi hz0 hz1 hz2 rfl (by decide) _ _ _ rfl (ownsRow_blk hys fun g hg => Below.heap_alloc wr _ g (ownsRow_in hys g hg).2) ⟨wr.heap.size, 0, none⟩ 1 1 [.string s.verbs[k].name, .int .i64 5, .int .i64 6, .int .i64 k, .int .i64 k, .int .i64 64] rfl rfl (cells_new wr [_, _, _, _, _, _] 69) (by simp [Value.oneCell']) (by unfold maxLen; omega) (by omega) (by have h1 := hB.size; simp; omega) ?_; intro v' w2 hown' hgrow _ hat)
                      obtain ⟨hnew, hB2⟩ := ent_push (x := ⟨s.verbs[k].name, 5, 6, k, k + 0, 64⟩) hown hys hB (by have h1 := hB.size; omega) ⟨hnm, by simp only [I64]; omega, by simp only [I64]; omega, by simp only [I64]; omega, by simp only [I64]; omega, by simp only [I64]; omega⟩ (by simpa using hown') hgrow hat
                      go_roundw
                      case rel => exact ⟨k + 1, by omega, by go_num, by rw [hnx.out]; exact hnew, hB2⟩
                      case measure => simp [intOf]; omega
                    · have hkn : k = s.verbs.length := by omega
                      have hown5 : OwnR Holds.ent 69 6 (w.heap.size + 1) wr (((((ents (fun x => x) 1 2 4 12 0 s.flags ++ ents PairD.name 2 3 0 16 0 s.props) ++ ents PairD.name 3 4 0 64 0 s.globals) ++ ents ObjD.name 4 5 2 126 0 s.objects) ++ ents VerbD.name 5 6 0 64 0 s.verbs)) u3 := by
                        rw [hkn, List.take_length] at hown
                        exact hown
                      have hB5 := hB
                      clear hown hB hkn
                      obtain ⟨w5, rfl⟩ : ∃ w5 : World, w5 = wr := ⟨_, rfl⟩
                      go_wp2
                      go_loopw [3, 9] (fun u i wr => ∃ (k : Nat), k ≤ s.funcs.length ∧ i = .int .i64 k ∧ OwnR Holds.ent 69 6 (w.heap.size + 1) wr (((((ents (fun x => x) 1 2 4 12 0 s.flags ++ ents PairD.name 2 3 0 16 0 s.props) ++ ents PairD.name 3 4 0 64 0 s.globals) ++ ents ObjD.name 4 5 2 126 0 s.objects) ++ ents VerbD.name 5 6 0 64 0 s.verbs) ++ ents FuncD.name 6 8 0 64 0 (s.funcs.take k)) u ∧ Below (w.heap.size + 1) W0 wr) (fun _ i _ => s.funcs.length - (intOf i).toNat)
                      case atStart => exact ⟨0, Nat.zero_le _, rfl, by simpa [ents] using hown5, hB5⟩
                      case round =>
                        obtain ⟨k, hk, rfl, hown, hB⟩ := hrel
                        have b11 := (hB.cell (p := ⟨w.heap.size, 11, none⟩) (Nat.lt_succ_self _)).trans b110
                        by_cases hlt : k < s.funcs.length
                        · obtain ⟨_, _, hsl, hl11, hc11, ha⟩ := R11.out.opn
                          cases hsl
                          obtain ⟨b, off, rfl, hFb, hel⟩ := ha (by omega)
                          unfold maxLen at hc11
                          obtain ⟨cs, ⟨h1, v1, v2, rfl, -⟩, -, hcell⟩ := hel wr ((hB.block b (Nat.lt_succ_of_lt (hF b hFb))).trans (hB0.block b (hF b hFb))) k hlt
                          have q0 := hcell 0 _ rfl
                          simp only [Nat.add_zero] at q0
                          have hnx : Hid (((((ents (fun x => x) 1 2 4 12 0 s.flags ++ ents PairD.name 2 3 0 16 0 s.props) ++ ents PairD.name 3 4 0 64 0 s.globals) ++ ents ObjD.name 4 5 2 126 0 s.objects) ++ ents VerbD.name 5 6 0 64 0 s.verbs) ++ ents FuncD.name 6 8 0 64 0 (s.funcs.take (k + 1)) = (((((ents (fun x => x) 1 2 4 12 0 s.flags ++ ents PairD.name 2 3 0 16 0 s.props) ++ ents PairD.name 3 4 0 64 0 s.globals) ++ ents ObjD.name 4 5 2 126 0 s.objects) ++ ents VerbD.name 5 6 0 64 0 s.verbs) ++ ents FuncD.name 6 8 0 64 0 (s.funcs.take k)) ++ [⟨s.funcs[k].name, 6, 8, k, k + 0, 64⟩]) := by show _ = _; rw [ents_take _ _ _ _ _ _ _ hlt, ← List.append_assoc]
                          have hln : (((((ents (fun x => x) 1 2 4 12 0 s.flags ++ ents PairD.name 2 3 0 16 0 s.props) ++ ents PairD.name 3 4 0 64 0 s.globals) ++ ents ObjD.name 4 5 2 126 0 s.objects) ++ ents VerbD.name 5 6 0 64 0 s.verbs) ++ ents FuncD.name 6 8 0 64 0 (s.funcs.take k)).length ≤ 100000000 := by simp only [List.length_append, ents_len, List.length_take]; omega
                          obtain ⟨ys, hys⟩ := hown.owns
                          generalize hxs : ((((ents (fun x => x) 1 2 4 12 0 s.flags ++ ents PairD.name 2 3 0 16 0 s.props) ++ ents PairD.name 3 4 0 64 0 s.globals) ++ ents ObjD.name 4 5 2 126 0 s.objects) ++ ents VerbD.name 5 6 0 64 0 s.verbs) ++ ents FuncD.name 6 8 0 64 0 (s.funcs.take k) = xs at hown hys hln hnx
                          have hnm := h1
                          clear hel hcell ha hxs
                          go_wp2_with (at_builtin; refine wpList_append_own_at _ rfl _ _ 64 rfl (w.heap.size + 1) 69 i0 _ 6 56 Tryz.underlying64 hi hz0 hz1 hz2 rfl (by decide) _ _ _ rfl (ownsRow_blk hys fun g hg => Below.heap_alloc wr _ g (ownsRow_in hys g hg).2) ⟨wr.heap.size, 0, none⟩ 1 1 [.string s.funcs[k].name, .int .i64 6, .int .i64 8, .int .i64 k, .int .i64 k, .int .i64 64] rfl rfl (cells_new wr [_, _, _, _, _, _] 69) (by simp [Value.oneCell']) (by unfold maxLen; omega) (by omega) (by have h1 := hB.size; simp; omega) ?_; intro v' w2 hown' hgrow _ hat)
                          obtain ⟨hnew, hB2⟩ := ent_push (x := ⟨s.funcs[k].name, 6, 8, k, k + 0, 64⟩) hown hys hB (by have h1 := hB.size; omega) ⟨hnm, by simp only [I64]; omega, by simp only [I64]; omega, by simp only [I64]; omega, by simp only [I64]; omega, by simp only [I64]; omega⟩ (by simpa using hown') hgrow hat
                          go_roundw
                          case rel => exact ⟨k + 1, by omega, by go_num, by rw [hnx.out]; exact hnew, hB2⟩
                          case measure => simp [intOf]; omega
                        · have hkn : k = s.funcs.length := by omega
                          have hown6 : OwnR Holds.ent 69 6 (w.heap.size + 1) wr ((((((ents (fun x => x) 1 2 4 12 0 s.flags ++ ents PairD.name 2 3 0 16 0 s.props) ++ ents PairD.name 3 4 0 64 0 s.globals) ++ ents ObjD.name 4 5 2 126 0 s.objects) ++ ents VerbD.name 5 6 0 64 0 s.verbs) ++ ents FuncD.name 6 8 0 64 0 s.funcs)) u3 := by
                            rw [hkn, List.take_length] at hown
                            exact hown
                          have hB6 := hB
                          clear hown hB hkn
                          obtain ⟨w6, rfl⟩ : ∃ w6 : World, w6 = wr := ⟨_, rfl⟩
                          go_wp2
                          go_loopw [3, 10] (fun u i wr => ∃ (k : Nat), k ≤ s.daemons.length ∧ i = .int .i64 k ∧ OwnR Holds.ent 69 6 (w.heap.size + 1) wr ((((((ents (fun x => x) 1 2 4 12 0 s.flags ++ ents PairD.name 2 3 0 16 0 s.props) ++ ents PairD.name 3 4 0 64 0 s.globals) ++ ents ObjD.name 4 5 2 126 0 s.objects) ++ ents VerbD.name 5 6 0 64 0 s.verbs) ++ ents FuncD.name 6 8 0 64 0 s.funcs) ++ ents FuncD.name 7 9 0 16 0 (s.daemons.take k)) u ∧ Below (w.heap.size + 1) W0 wr) (fun _ i _ => s.daemons.length - (intOf i).toNat)
                          case atStart => exact ⟨0, Nat.zero_le _, rfl, by simpa [ents] using hown6, hB6⟩
                          case round =>
                            obtain ⟨k, hk, rfl, hown, hB⟩ := hrel
                            have b12 := (hB.cell (p := ⟨w.heap.size, 12, none⟩) (Nat.lt_succ_self _)).trans b120
                            by_cases hlt : k < s.daemons.length
                            · obtain ⟨_, _, hsl, hl12, hc12, ha⟩ := R12.out.opn
                              cases hsl
                              obtain ⟨b, off, rfl, hFb, hel⟩ := ha (by omega)
                              unfold maxLen at hc12
                              obtain ⟨cs, ⟨h1, v1, v2, rfl, -⟩, -, hcell⟩ := hel wr ((hB.block b (Nat.lt_succ_of_lt (hF b hFb))).trans (hB0.block b (hF b hFb))) k hlt
                              have q0 := hcell 0 _ rfl
                              simp only [Nat.add_zero] at q0
                              have hnx : Hid ((((((ents (fun x => x) 1 2 4 12 0 s.flags ++ ents PairD.name 2 3 0 16 0 s.props) ++ ents PairD.name 3 4 0 64 0 s.globals) ++ ents ObjD.name 4 5 2 126 0 s.objects) ++ ents VerbD.name 5 6 0 64 0 s.verbs) ++ ents FuncD.name 6 8 0 64 0 s.funcs) ++ ents FuncD.name 7 9 0 16 0 (s.daemons.take (k + 1)) = ((((((ents (fun x => x) 1 2 4 12 0 s.flags ++ ents PairD.name 2 3 0 16 0 s.props) ++ ents PairD.name 3 4 0 64 0 s.globals) ++ ents ObjD.name 4 5 2 126 0 s.objects) ++ ents VerbD.name 5 6 0 64 0 s.verbs) ++ ents FuncD.name 6 8 0 64 0 s.funcs) ++ ents FuncD.name 7 9 0 16 0 (s.daemons.take k)) ++ [⟨s.daemons[k].name, 7, 9, k, k + 0, 16⟩]) := by show _ = _; rw [ents_take _ _ _ _ _ _ _ hlt, ← List.append_assoc]
                              have hln : ((((((ents (fun x => x) 1 2 4 12 0 s.flags ++ ents PairD.name 2 3 0 16 0 s.props) ++ ents PairD.name 3 4 0 64 0 s.globals) ++ ents ObjD.name 4 5 2 126 0 s.objects) ++ ents VerbD.name 5 6 0 64 0 s.verbs) ++ ents FuncD.name 6 8 0 64 0 s.funcs) ++ ents FuncD.name 7 9 0 16 0 (s.daemons.take k)).length ≤ 100000000 := by simp only [List.length_append, ents_len, List.length_take]; omega
                              obtain ⟨ys, hys⟩ := hown.owns
                              generalize hxs : (((((ents (fun x => x) 1 2 4 12 0 s.flags ++ ents PairD.name 2 3 0 16 0 s.props) ++ ents PairD.name 3 4 0 64 0 s.globals) ++ ents ObjD.name 4 5 2 126 0 s.objects) ++ ents VerbD.name 5 6 0 64 0 s.verbs) ++ ents FuncD.name 6 8 0 64 0 s.funcs) ++ ents FuncD.name 7 9 0 16 0 (s.daemons.take k) = xs at hown hys hln hnx
                              have hnm := h1
                              clear hel hcell ha hxs
                              go_wp2_with (at_builtin; refine wpList_append_own_at _ rfl _ _ 64 rfl (w.heap.size + 1) 69 i0 _ 6 56 Tryz.underlying64 hi hz0 hz1 hz2 rfl (by decide) _ _ _ rfl (ownsRow_blk hys fun g hg => Below.heap_alloc wr _ g (ownsRow_in hys g hg).2) ⟨wr.heap.size, 0, none⟩ 1 1 [.string s.daemons[k].name, .int .i64 7, .int .i64 9, .int .i64 k, .int .i64 k, .int .i64 16] rfl rfl (cells_new wr [_, _, _, _, _, _] 69) (by simp [Value.oneCell']) (by unfold maxLen; omega) (by omega) (by have h1 := hB.size; simp; omega) ?_; intro v' w2 hown' hgrow _ hat)
                              obtain ⟨hnew, hB2⟩ := ent_push (x := ⟨s.daemons[k].name, 7, 9, k, k + 0, 16⟩) hown hys hB (by have h1 := hB.size; omega) ⟨hnm, by simp only [I64]; omega, by simp only [I64]; omega, by simp only [I64]; omega, by simp only [I64]; omega, by simp only [I64]; omega⟩ (by simpa using hown') hgrow hat
                              go_roundw
                              case rel => exact ⟨k + 1, by omega, by go_num, by rw [hnx.out]; exact hnew, hB2⟩
                              case measure => simp [intOf]; omega
                            · have hkn : k = s.daemons.length := by omega
                              have hown7 : OwnR Holds.ent 69 6 (w.heap.size + 1) wr (((((((ents (fun x => x) 1 2 4 12 0 s.flags ++ ents PairD.name 2 3 0 16 0 s.props) ++ ents PairD.name 3 4 0 64 0 s.globals) ++ ents ObjD.name 4 5 2 126 0 s.objects) ++ ents VerbD.name 5 6 0 64 0 s.verbs) ++ ents FuncD.name 6 8 0 64 0 s.funcs) ++ ents FuncD.name 7 9 0 16 0 s.daemons)) u3 := by
                                rw [hkn, List.take_length] at hown
                                exact hown
                              have hB7 := hB
                              clear hown hB hkn
                              obtain ⟨w7, rfl⟩ : ∃ w7 : World, w7 = wr := ⟨_, rfl⟩
                              go_wp2
                              go_ret
                              exact ⟨_, rfl, by rw [hN.out]; exact hown7.lo (Nat.le_succ _), hB0.trans (hB7.mono (Nat.le_succ _))⟩
end Go.Proofs.YtblhpiebheommaaGreat
