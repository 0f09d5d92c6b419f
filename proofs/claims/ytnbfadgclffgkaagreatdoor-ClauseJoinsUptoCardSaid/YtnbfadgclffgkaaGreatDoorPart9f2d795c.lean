/- Bounds on what the lexer's plain functions give; a token in memory. -/
import Derived.Test.YtnbfadgclffgkaaGreatDoorPart32955a71
import Derived.Test.YtnbfadgclffgkaaGreatDoorApp
import Derived.Test.YtnbfadgclffgkaaGreatDoorPart505ed502
namespace Go.Proofs.YtnbfadgclffgkaaGreatDoor
open Go.RowKit
def TokD.fine (t : TokD) : Prop := t.text.size ≤ maxLen ∧ I64 t.kind ∧ I64 t.num ∧ t.line ≤ 1000000000 ∧ t.col ≤ 1000000000
def TokD.cells (t : TokD) : List Value := [.int .i64 t.kind, .string t.text, .int .i64 t.num, .int .i64 t.line, .int .i64 t.col]
def Holds.tok : Holds TokD := ⟨fun _ _ t cs => t.fine ∧ cs = t.cells, fun _ _ h => h⟩
theorem cells_new5 (w : World) (cs : List Value) (T : TypeId) : ∀ j u, cs[j]? = some u → (w.alloc (.cells cs.toArray T)).cell? ((⟨w.heap.size, 0, none⟩ : Addr).add j) = some u := by
  intro j u h
  rw [Addr.add_lit, Nat.zero_add]
  obtain ⟨hj, -⟩ := List.getElem?_eq_some_iff.1 h
  rw [(BoxAt.new w cs T).2 j hj]
  exact h
theorem Tryz.infoTok : (Tryz.prog.info? 53).map (fun i => (i.zero, i.size, i.bytes)) = some (some (.agg #[.int .i64 0, .string ⟨#[]⟩, .int .i64 0, .int .i64 0, .int .i64 0]), 5, 48) := by kernel_rfl
theorem i64_small {n : Int} (h1 : -1000000000 ≤ n) (h2 : n ≤ 1000000000) : I64 n := by unfold I64; omega
theorem gapB_bounds (s : ByteArray) : ∀ (f k : Nat) (r : Bool), k ≤ s.size → k ≤ (gapB s f k r).1 ∧ (gapB s f k r).1 ≤ s.size
  | 0, k, _, h => ⟨Nat.le_refl _, h⟩
  | f + 1, k, r, h => by
    by_cases hk : k < s.size
    · rw [gapB_step s f k r hk _ rfl]
      generalize (if k + 1 < s.size ∧ s[k] = 47 ∧ byteAt s (k + 1) = 47 then true else if s[k] = 10 then false else r) = r2
      by_cases h1 : mayB s[k] = false
      · rw [if_pos h1]; exact ⟨Nat.le_refl _, h⟩
      · rw [if_neg h1]
        by_cases h2 : r2 = false ∧ s[k] ≠ 32 ∧ s[k] ≠ 10 ∧ s[k] ≠ 9
        · rw [if_pos h2]; exact ⟨Nat.le_refl _, h⟩
        · rw [if_neg h2]
          have := gapB_bounds s f (k + 1) r2 (by omega)
          omega
    · rw [gapB_end s _ k r hk]
      exact ⟨Nat.le_refl _, h⟩
theorem textB_bounds (s : ByteArray) (i0 : Nat) : ∀ (f k : Nat) (acc : ByteArray), k ≤ s.size → acc.size ≤ k →
    (textB s i0 f k acc).1.size ≤ s.size ∧ ((textB s i0 f k acc).2.2.1 = 0 → k < (textB s i0 f k acc).2.1 ∧ (textB s i0 f k acc).2.1 ≤ s.size) ∧ I64 (textB s i0 f k acc).2.2.1 ∧ (i0 ≤ s.size → (textB s i0 f k acc).2.2.2 ≤ s.size)
  | 0, k, acc, _, _ => ⟨Nat.zero_le _, fun h => absurd (show (2 : Int) = 0 from h) (by decide), i64_small (n := 2) (by decide) (by decide), fun h => h⟩
  | f + 1, k, acc, h, ha => by
    by_cases hk : k < s.size
    · rw [textB_step s i0 f k acc hk _ rfl]
      split
      · exact ⟨Nat.zero_le _, fun h => absurd (show (2 : Int) = 0 from h) (by decide), i64_small (n := 2) (by decide) (by decide), fun h => h⟩
      split
      · split
        · exact ⟨Nat.zero_le _, fun h => absurd (show (3 : Int) = 0 from h) (by decide), i64_small (n := 3) (by decide) (by decide), fun h => h⟩
        · exact ⟨by show acc.size ≤ s.size; omega, fun _ => ⟨Nat.lt_succ_self k, hk⟩, i64_small (n := 0) (by decide) (by decide), fun _ => Nat.zero_le _⟩
      split
      · exact ⟨Nat.zero_le _, fun h => absurd (show (13 : Int) = 0 from h) (by decide), i64_small (n := 13) (by decide) (by decide), fun _ => h⟩
      split
      · have hz : (acc ++ s.extract k (k + 1)).size ≤ k + 1 := by rw [ByteArray.size_append, ByteArray.size_extract]; omega
        obtain ⟨h1, h2, h3⟩ := textB_bounds s i0 f (k + 1) (acc ++ s.extract k (k + 1)) (by omega) hz
        exact ⟨h1, fun h => by have := h2 h; omega, h3⟩
      split
      · exact ⟨Nat.zero_le _, fun h => absurd (show (4 : Int) = 0 from h) (by decide), i64_small (n := 4) (by decide) (by decide), fun _ => h⟩
      · rename_i hq
        have hl : k + 1 < s.size := by
          rcases Nat.lt_or_ge (k + 1) s.size with h5 | h5
          · exact h5
          · exact absurd (Or.inl h5) hq
        have hz : ∀ x : ByteArray, x.size ≤ 1 → (acc ++ x).size ≤ k + 2 := fun x hx => by rw [ByteArray.size_append]; omega
        have hx : ((if byteAt s (k + 1) = 110 then ⟨#[10]⟩ else s.extract (k + 1) (k + 2)) : ByteArray).size ≤ 1 := by
          split
          · exact Nat.le_refl _
          · rw [ByteArray.size_extract]; omega
        obtain ⟨h1, h2, h3⟩ := textB_bounds s i0 f (k + 2) _ (by omega) (hz _ hx)
        exact ⟨h1, fun h => by have := h2 h; omega, h3⟩
    · rw [textB_end s i0 _ k acc hk]
      exact ⟨Nat.zero_le _, fun h => absurd (show (2 : Int) = 0 from h) (by decide), i64_small (n := 2) (by decide) (by decide), fun h => h⟩
theorem digitsV_err : ∀ (l : List UInt8) (n : Nat), (digitsV 32767 l n).2 = 0 ∨ (digitsV 32767 l n).2 = 5
  | [], _ => Or.inl rfl
  | c :: l, n => by
    rw [digitsV_step]
    split
    · exact Or.inr rfl
    · exact digitsV_err l _
theorem numberB_fine (s : ByteArray) (i j : Nat) : (numberB s i j).1 ≤ 32767 ∧ I64 (numberB s i j).2 := by
  unfold numberB
  split
  · exact ⟨Nat.zero_le _, i64_small (n := 4) (by decide) (by decide)⟩
  · refine ⟨digitsV_le _ 0 (Nat.zero_le _), ?_⟩
    rcases digitsV_err (s.extract i j).data.toList 0 with h | h
    · rw [h]; exact i64_small (by decide) (by decide)
    · rw [h]; exact i64_small (by decide) (by decide)
theorem extract_le (s : ByteArray) (i j : Nat) : (s.extract i j).size ≤ s.size := by rw [ByteArray.size_extract]; omega
theorem oneB_fine (s : ByteArray) (i : Nat) (hi : i < s.size) (_hs : s.size ≤ 100000) :
    (oneB s i).1.text.size ≤ s.size ∧ I64 (oneB s i).1.kind ∧ I64 (oneB s i).1.num ∧ I64 (oneB s i).2.2.1 ∧ (oneB s i).2.2.2 ≤ s.size ∧ ((oneB s i).2.2.1 = 0 → i < (oneB s i).2.1 ∧ (oneB s i).2.1 ≤ s.size) := by
  have hn := numberB_fine s i (rowB s false (s.size - i) i)
  have ht := textB_bounds s i (s.size - i) (i + 1) ⟨#[]⟩ (by omega) (Nat.zero_le _)
  have hb1 := rowB_bounds s false (s.size - i) i (by omega)
  have hb2 := rowB_bounds s true (s.size - i) i (by omega)
  have ho1 := rowB_one s false i hi
  have ho2 := rowB_one s true i hi
  unfold oneB
  by_cases h34 : byteAt s i = 34
  · rw [if_pos h34]
    exact ⟨ht.1, i64_small (n := 3) (by decide) (by decide), i64_small (n := 0) (by decide) (by decide), ht.2.2.1, ht.2.2.2 (by omega), fun h => ⟨Nat.lt_trans (Nat.lt_succ_self i) (ht.2.1 h).1, (ht.2.1 h).2⟩⟩
  rw [if_neg h34]
  by_cases hd : digitC (byteAt s i) = true
  · rw [if_pos hd]
    exact ⟨Nat.zero_le _, i64_small (n := 2) (by decide) (by decide), (show I64 ((numberB s i (rowB s false (s.size - i) i)).1 : Int) from i64_small (by omega) (by have := hn.1; omega)), hn.2, by show i ≤ s.size; omega, fun _ => ⟨ho1 (by rw [hd]; rfl), hb1.2⟩⟩
  rw [if_neg hd]
  by_cases hm : smallC (byteAt s i) = true
  · rw [if_pos hm]
    refine ⟨extract_le _ _ _, ?_, i64_small (n := 0) (by decide) (by decide), ?_, ?_, fun _ => ⟨ho2 (by rw [hm]; simp), hb2.2⟩⟩
    · dsimp only
      split
      · exact i64_small (n := 4) (by decide) (by decide)
      · exact i64_small (n := 1) (by decide) (by decide)
    · dsimp only
      split
      · exact i64_small (n := 9) (by decide) (by decide)
      · exact i64_small (n := 0) (by decide) (by decide)
    · dsimp only
      split
      · show i ≤ s.size; omega
      · exact Nat.zero_le _
  rw [if_neg hm]
  by_cases hz : signC s i = 0
  · rw [if_pos hz]
    exact ⟨Nat.zero_le _, i64_small (n := 0) (by decide) (by decide), i64_small (n := 0) (by decide) (by decide), i64_small (n := 13) (by decide) (by decide), by show i ≤ s.size; omega, fun h => absurd (show (13 : Int) = 0 from h) (by decide)⟩
  · rw [if_neg hz]
    have hsz : i + signC s i ≤ s.size := by
      unfold signC at hz ⊢
      by_cases hA : i + 1 < s.size ∧ byteAt s (i + 1) = 61 ∧ (byteAt s i = 61 ∨ byteAt s i = 33 ∨ byteAt s i = 60 ∨ byteAt s i = 62)
      · rw [if_pos hA]; have := hA.1; omega
      · rw [if_neg hA]
        split <;> omega
    exact ⟨extract_le _ _ _, i64_small (n := 5) (by decide) (by decide), i64_small (n := 0) (by decide) (by decide), i64_small (n := 0) (by decide) (by decide), Nat.zero_le _, fun _ => ⟨by show i < i + signC s i; omega, hsz⟩⟩
theorem allB_step (s : ByteArray) (f i : Nat) (acc : List TokD) (p : Nat) (ok : Bool) (hg : gapB s (s.size - i) i false = (p, ok)) : allB s (f + 1) i acc =
    if ok = false then ([], failB s p 13)
    else if s.size ≤ p then (acc ++ [⟨0, ⟨#[]⟩, 0, (atB s p).1, (atB s p).2⟩], ⟨0, 0, 0⟩)
    else if (oneB s p).2.2.1 ≠ 0 then ([], failB s (oneB s p).2.2.2 (oneB s p).2.2.1)
    else if acc.length = 16384 then ([], failB s p 7)
    else allB s f (oneB s p).2.1 (acc ++ [⟨(oneB s p).1.kind, (oneB s p).1.text, (oneB s p).1.num, (atB s p).1, (atB s p).2⟩]) := by
  show (if (gapB s (s.size - i) i false).2 = false then _ else _) = _
  rw [hg]
end Go.Proofs.YtnbfadgclffgkaaGreatDoor
/- The walk of clewref09's All: a source's tokens. Printed by gen-lex6.py. -/
namespace Go.Proofs.YtnbfadgclffgkaaGreatDoor
open Go.RowKit Go.Sort
def FB (w : World) (b : Nat) : Prop := b < w.heap.size ∧ (w.cell? ⟨b, 0, none⟩ = some (.int .i64 0) ∧ w.cell? ⟨b, 1, none⟩ = some (.int .i64 0) ∧ w.cell? ⟨b, 2, none⟩ = some (.int .i64 0)) ∧ (w.frozen? ⟨b, 0, none⟩ = false ∧ w.frozen? ⟨b, 1, none⟩ = false ∧ w.frozen? ⟨b, 2, none⟩ = false)
theorem FB.below {w w' : World} {b B : Nat} (h : FB w b) (hb : Below B w w') (hB : b < B) : FB w' b :=
  ⟨Nat.lt_of_lt_of_le h.1 hb.size, ⟨(hb.cell (p := ⟨b, 0, none⟩) hB).trans h.2.1.1, (hb.cell (p := ⟨b, 1, none⟩) hB).trans h.2.1.2.1, (hb.cell (p := ⟨b, 2, none⟩) hB).trans h.2.1.2.2⟩, ⟨(hb.frozen (p := ⟨b, 0, none⟩) hB).trans h.2.2.1, (hb.frozen (p := ⟨b, 1, none⟩) hB).trans h.2.2.2.1, (hb.frozen (p := ⟨b, 2, none⟩) hB).trans h.2.2.2.2⟩⟩
theorem FB.new (w : World) (T : TypeId) : FB (w.alloc (.cells #[.int .i64 0, .int .i64 0, .int .i64 0] T)) w.heap.size := by
  have hn := (BoxAt.new w [.int .i64 0, .int .i64 0, .int .i64 0] T).2
  refine ⟨by simp, ⟨hn 0 (by simp), hn 1 (by simp), hn 2 (by simp)⟩, ⟨?_, ?_, ?_⟩⟩ <;> go_simp
theorem three9 {B : Nat} {a w : World} {b : Nat} {u0 u1 u2 : Value} (h : Below B a w) (hb : B ≤ b) : Below B a (((w.setCell ⟨b, 0, none⟩ u0).setCell ⟨b, 1, none⟩ u1).setCell ⟨b, 2, none⟩ u2) :=
  ((h.setCell (p := ⟨b, 0, none⟩) hb _).setCell (p := ⟨b, 1, none⟩) hb _).setCell (p := ⟨b, 2, none⟩) hb _
theorem rdl3 {α : Type} {R : Holds α} {sz b n : Nat} {w : World} {l : List α} {v u0 u1 u2 : Value} (h : RdL R sz (NewB (b + 1) n) w l v) : RdL R sz (NewB b n) (((w.setCell ⟨b, 0, none⟩ u0).setCell ⟨b, 1, none⟩ u1).setCell ⟨b, 2, none⟩ u2) l v :=
  h.keep (fun k hk => by
    have hk1 : k ≠ b := by have := hk.1; omega
    rw [Below.heap_setCell _ ⟨b, 2, none⟩ _ k hk1, Below.heap_setCell _ ⟨b, 1, none⟩ _ k hk1, Below.heap_setCell _ ⟨b, 0, none⟩ _ k hk1]) (fun k hk => ⟨by have := hk.1; omega, hk.2⟩)
theorem tok0 {q1 q2 : Nat} (h1 : q1 ≤ 1000000000) (h2 : q2 ≤ 1000000000) : TokD.fine ⟨0, ⟨#[]⟩, 0, q1, q2⟩ := ⟨(show (⟨#[]⟩ : ByteArray).size ≤ maxLen by decide), (show I64 0 from i64_small (by decide) (by decide)), (show I64 0 from i64_small (by decide) (by decide)), h1, h2⟩
theorem bw' {w w2 : World} {o : Obj} (h : Below (w.alloc o).heap.size (w.alloc o) w2) : Below w.heap.size w w2 := ((Below.refl _ w).alloc (Nat.le_refl _) o).trans (h.mono (by simp))
set_option maxRecDepth 100000 in
set_option maxHeartbeats 8000000 in
theorem all9_calls (s : ByteArray) (w : World) (_hs : s.size ≤ maxLen) : Calls Tryz.prog 13 #[.string s] w (fun e w' => ∃ v, e = .returned (.tuple #[v, (lexB s).2.val]) ∧ RdL Holds.tok 5 (NewB w.heap.size w'.heap.size) w' (lexB s).1 v ∧ Below w.heap.size w w') := by
  by_cases hbig : 65536 < s.size
  · have hl : lexB s = ([], ⟨3, 1, 1⟩) := if_pos hbig
    rw [hl]
    have hbi : (65536 : Int) < (s.size : Int) := by omega
    clear hl hbig _hs
    go_enter Tryz.func13, Tryz.ntmps13
    go_wp2
    (try simp only [Exit.inBlock, Exit.then])
    exact bodyPost_ret (v := .tuple #[.slice none 0 0, .agg #[.int .i64 3, .int .i64 1, .int .i64 1]]) (by simp [results, Tryz.results13, go_sem]) rfl ⟨_, rfl, RdL.nil Holds.tok 5 _ _ none 0 (by unfold maxLen; omega), (Below.refl _ w).alloc (Nat.le_refl _) _⟩
  obtain ⟨i0, hi, hz0, hz1, hz2⟩ := info_parts Tryz.infoTok
  have hs1 : s.size ≤ 100000 := by omega
  have hbi : ¬ (65536 : Int) < (s.size : Int) := by omega
  have hfin : Hid (allB s (s.size + 1) 0 [] = lexB s) := (if_neg hbig).symm
  generalize lexB s = fin at hfin ⊢
  clear _hs hbig
  go_enter Tryz.func13, Tryz.ntmps13
  go_wp2
  obtain ⟨W0, hW0⟩ : ∃ W0, w.alloc (.cells #[.int .i64 0, .int .i64 0, .int .i64 0] 36) = W0 := ⟨_, rfl⟩
  have hB0 : Below w.heap.size w W0 := by rw [← hW0]; exact (Below.refl _ w).alloc (Nat.le_refl _) _
  have hsz0 : w.heap.size + 1 ≤ W0.heap.size := by rw [← hW0]; simp
  have hFB0 : FB W0 w.heap.size := by rw [← hW0]; exact FB.new w _
  rw [hW0]
  have HFB := Lib.hid hFB0
  have HB0 := Lib.hid hB0
  clear hW0 hFB0 hB0
  go_loopw [4, 5] (fun u i wr => ∃ (acc : List TokD) (k f : Nat), k ≤ s.size ∧ i = .int .i64 k ∧ s.size < f + k ∧ acc.length ≤ 16384 ∧ Hid (allB s f k acc = fin) ∧ Hid (OwnR Holds.tok 53 5 (w.heap.size + 1) wr acc u) ∧ Below (w.heap.size + 1) W0 wr) (fun _ i _ => s.size + 1 - (intOf i).toNat)
  case atStart => exact ⟨[], 0, s.size + 1, Nat.zero_le _, rfl, by omega, Nat.zero_le _, hfin, OwnR.nil _ _ _ _ _, Below.refl _ _⟩
  case round =>
    obtain ⟨acc, k, f, hk, rfl, hf, hacc, hst, hown, hB⟩ := hrel
    obtain ⟨g, rfl⟩ : ∃ g, f = g + 1 := ⟨f - 1, by omega⟩
    have hgap := fun W => gap9_calls s k W hk hs1
    have hgb := gapB_bounds s (s.size - k) k false hk
    obtain ⟨⟨p, ok⟩, hp⟩ : ∃ q, gapB s (s.size - k) k false = q := ⟨_, rfl⟩
    rw [hp] at hgb
    simp only [hp] at hgap
    obtain ⟨hp1, hp2⟩ : k ≤ p ∧ p ≤ s.size := hgb
    have hst2 := hst.out
    rw [allB_step s g k acc p ok hp] at hst2
    obtain ⟨hfl, ⟨p0, p1, p2⟩, f0, f1, f2⟩ := HFB.out.below hB (Nat.lt_succ_self _)
    have HG := Lib.hid hgap
    clear hgap hp hst
    cases ok
    · rw [if_pos rfl] at hst2
      have hfc := fun W => fail9_calls s p 13 W hp2 hs1
      generalize failB s p 13 = fd at hst2 hfc
      obtain ⟨d1, d2, d3⟩ := fd
      have HFC := Lib.hid (show ∀ W, Calls Tryz.prog 27 #[.string s, .int .i64 p, .int .i64 13] W (Gives W (.agg #[.int .i64 d1, .int .i64 d2, .int .i64 d3])) from hfc)
      subst hst2
      clear hfc
      go_wp2_with (first | (go_at_call 26; (with_reducible refine (HG.out _).mono ?_); rintro e w1 ⟨rfl, rfl⟩) | (go_at_call 27; (with_reducible refine (HFC.out _).mono ?_); rintro e w1 ⟨rfl, hb1⟩; obtain ⟨hfl1, ⟨p0, p1, p2⟩, f0, f1, f2⟩ := FB.below ⟨hfl, ⟨p0, p1, p2⟩, f0, f1, f2⟩ hb1 hfl))
      (try simp only [Exit.inBlock, Exit.then])
      exact bodyPost_ret (v := .tuple #[.slice none 0 0, .agg #[.int .i64 d1, .int .i64 d2, .int .i64 d3]]) (by simp [results, Tryz.results13, go_sem, p0, p1, p2]) rfl ⟨_, rfl, RdL.nil Holds.tok 5 _ _ none 0 (by unfold maxLen; omega), three9 (HB0.out.trans ((hB.mono (Nat.le_succ _)).trans (hb1.mono (by omega)))) (Nat.le_refl _)⟩
    rw [if_neg (by simp)] at hst2
    have hat := fun W => at9_calls s p W hp2 hs1
    have hle := atB_le s p
    generalize atB s p = q at hst2 hat hle
    obtain ⟨q1, q2⟩ := q
    simp only at hat hle
    have HA := Lib.hid hat
    clear hat
    by_cases hend : s.size ≤ p
    · rw [if_pos hend] at hst2
      have hpi : (s.size : Int) ≤ (p : Int) := by omega
      subst hst2
      obtain ⟨ys, hys⟩ := hown.out.owns
      have hq1 : q1 ≤ 1000000000 := by omega
      have hq2 : q2 ≤ 1000000000 := by omega
      go_wp2_with (first | (go_at_call 26; (with_reducible refine (HG.out _).mono ?_); rintro e w1 ⟨rfl, rfl⟩) | (go_at_call 28; (with_reducible refine (HA.out _).mono ?_); rintro e w1 ⟨rfl, rfl⟩) | (at_builtin; refine wpList_append_own_at _ rfl (.tmp 39) (.tmp 43) 33 rfl (w.heap.size + 1) 53 i0 _ 5 48 Tryz.underlying33 hi hz0 hz1 hz2 rfl (by decide) _ acc.length ys rfl (hys.alloc _) ⟨wr.heap.size, 0, none⟩ 1 1 [.int .i64 0, .string ⟨#[]⟩, .int .i64 0, .int .i64 q1, .int .i64 q2] rfl rfl (cells_new5 wr [_, _, _, _, _] 53) (by simp [Value.oneCell']) (by unfold maxLen; omega) (by omega) (by have h1 := hB.size; simp; omega) ?_; intro v' w2 hown' hgrow _ hat2; obtain ⟨hnew, hB2⟩ := OwnR.round (s := wr.heap.size) (x := ⟨0, ⟨#[]⟩, 0, q1, q2⟩) hown.out (Below.refl _ _) hB (by have := hB.size; omega) (hys.alloc _) (Nat.le_refl _) ⟨tok0 hq1 hq2, rfl⟩ rfl hown' hgrow hat2; obtain ⟨hfl2, ⟨p0, p1, p2⟩, f0, f1, f2⟩ := HFB.out.below hB2 (Nat.lt_succ_self _)))
      (try simp only [Exit.inBlock, Exit.then])
      exact bodyPost_ret (v := .tuple #[v', .agg #[.int .i64 0, .int .i64 0, .int .i64 0]]) (by simp [results, Tryz.results13, go_sem, p0, p1, p2]) rfl ⟨_, rfl, by simpa using rdl3 hnew.rdl, three9 (HB0.out.trans (hB2.mono (Nat.le_succ _))) (Nat.le_refl _)⟩
    rw [if_neg hend] at hst2
    have hpl : p < s.size := by omega
    have hpi : ¬ (s.size : Int) ≤ (p : Int) := by omega
    have hone := fun W => one9_calls s p W hpl hs1
    have hfn := oneB_fine s p hpl hs1
    generalize oneB s p = o at hst2 hone hfn
    obtain ⟨⟨t1, t2, t3, t4, t5⟩, o2, o3, o4⟩ := o
    simp only at hst2 hfn
    obtain ⟨hn1, hn2, hn3, hn4, hn5, hn6⟩ := hfn
    have HO := Lib.hid (show ∀ W, Calls Tryz.prog 29 #[.string s, .int .i64 p] W (Gives W (.tuple #[.agg #[.int .i64 t1, .string t2, .int .i64 t3, .int .i64 t4, .int .i64 t5], .int .i64 o2, .int .i64 o3, .int .i64 o4])) from hone)
    clear hone hend
    by_cases he : o3 = 0
    rotate_left
    · rw [if_pos he] at hst2
      have e1 : (o3 == 0) = false := by simpa using he
      have e2 : (o3 != 0) = true := by simpa using he
      have hfc := fun W => fail9_calls s o4 o3 W hn5 hs1
      generalize failB s o4 o3 = fd at hst2 hfc
      obtain ⟨d1, d2, d3⟩ := fd
      have HFC := Lib.hid (show ∀ W, Calls Tryz.prog 27 #[.string s, .int .i64 o4, .int .i64 o3] W (Gives W (.agg #[.int .i64 d1, .int .i64 d2, .int .i64 d3])) from hfc)
      subst hst2
      clear hfc he hn6
      go_wp2_with (first | (go_at_call 26; (with_reducible refine (HG.out _).mono ?_); rintro e w1 ⟨rfl, rfl⟩) | (go_at_call 28; (with_reducible refine (HA.out _).mono ?_); rintro e w1 ⟨rfl, rfl⟩) | (go_at_call 29; (with_reducible refine (HO.out _).mono ?_); rintro e w1 ⟨rfl, hb1⟩; have hF1 := FB.below ⟨hfl, ⟨p0, p1, p2⟩, f0, f1, f2⟩ hb1 hfl) | (go_at_call 27; (with_reducible refine (HFC.out _).mono ?_); rintro e w2 ⟨rfl, hb2⟩; have hbx := bw' hb2; obtain ⟨hfl2, ⟨p0, p1, p2⟩, f0, f1, f2⟩ := hF1.below hbx hF1.1))
      (try simp only [Exit.inBlock, Exit.then])
      exact bodyPost_ret (v := .tuple #[.slice none 0 0, .agg #[.int .i64 d1, .int .i64 d2, .int .i64 d3]]) (by simp [results, Tryz.results13, go_sem, p0, p1, p2]) rfl ⟨_, rfl, RdL.nil Holds.tok 5 _ _ none 0 (by unfold maxLen; omega), three9 (HB0.out.trans ((hB.mono (Nat.le_succ _)).trans ((hb1.mono (by omega)).trans (hbx.mono (by have := hb1.size; omega))))) (Nat.le_refl _)⟩
    rw [if_neg (fun h => h he)] at hst2
    subst he
    obtain ⟨hn7, hn8⟩ := hn6 rfl
    obtain ⟨ys, hys⟩ := hown.out.owns
    obtain ⟨ad, cap, hu4⟩ := hown.out.rdl.shape
    subst hu4
    by_cases hm : acc.length = 16384
    · rw [if_pos hm] at hst2
      have e1 : ((acc.length : Int) == 16384) = true := by rw [hm]; rfl
      have hfc := fun W => fail9_calls s p 7 W hp2 hs1
      generalize failB s p 7 = fd at hst2 hfc
      obtain ⟨d1, d2, d3⟩ := fd
      have HFC := Lib.hid (show ∀ W, Calls Tryz.prog 27 #[.string s, .int .i64 p, .int .i64 7] W (Gives W (.agg #[.int .i64 d1, .int .i64 d2, .int .i64 d3])) from hfc)
      subst hst2
      clear hfc hm hn6
      go_wp2_with (first | (go_at_call 26; (with_reducible refine (HG.out _).mono ?_); rintro e w1 ⟨rfl, rfl⟩) | (go_at_call 28; (with_reducible refine (HA.out _).mono ?_); rintro e w1 ⟨rfl, rfl⟩) | (go_at_call 29; (with_reducible refine (HO.out _).mono ?_); rintro e w1 ⟨rfl, hb1⟩; have hF1 := FB.below ⟨hfl, ⟨p0, p1, p2⟩, f0, f1, f2⟩ hb1 hfl) | (go_at_call 27; (with_reducible refine (HFC.out _).mono ?_); rintro e w2 ⟨rfl, hb2⟩; have hbx := bw' hb2; obtain ⟨hfl2, ⟨p0, p1, p2⟩, f0, f1, f2⟩ := hF1.below hbx hF1.1))
      (try simp only [Exit.inBlock, Exit.then])
      exact bodyPost_ret (v := .tuple #[.slice none 0 0, .agg #[.int .i64 d1, .int .i64 d2, .int .i64 d3]]) (by simp [results, Tryz.results13, go_sem, p0, p1, p2]) rfl ⟨_, rfl, RdL.nil Holds.tok 5 _ _ none 0 (by unfold maxLen; omega), three9 (HB0.out.trans ((hB.mono (Nat.le_succ _)).trans ((hb1.mono (by omega)).trans (hbx.mono (by have := hb1.size; omega))))) (Nat.le_refl _)⟩
    rw [if_neg hm] at hst2
    have e1 : ((acc.length : Int) == 16384) = false := by rw [beq_eq_false_iff_ne]; omega
    go_upto_region 19 with (first | (go_at_call 26; (with_reducible refine (HG.out _).mono ?_); rintro e w1 ⟨rfl, rfl⟩) | (go_at_call 28; (with_reducible refine (HA.out _).mono ?_); rintro e w1 ⟨rfl, rfl⟩) | (go_at_call 29; (with_reducible refine (HO.out _).mono ?_); rintro e w1 ⟨rfl, hb1⟩; have hF1 := FB.below ⟨hfl, ⟨p0, p1, p2⟩, f0, f1, f2⟩ hb1 hfl))
    obtain ⟨wx, hwx⟩ : ∃ x, w1.alloc (.cells #[.int .i64 t1, .string t2, .int .i64 t3, .int .i64 q1, .int .i64 q2] 53) = x := ⟨_, rfl⟩
    rw [hwx]
    have hn := (BoxAt.new w1 [.int .i64 t1, .string t2, .int .i64 t3, .int .i64 q1, .int .i64 q2] 53).2
    have hbx : Below wr.heap.size wr wx := by rw [← hwx]; exact hb1.alloc hb1.size _
    rw [show w1.alloc (.cells [.int .i64 t1, .string t2, .int .i64 t3, .int .i64 q1, .int .i64 q2].toArray 53) = wx from hwx] at hn
    have y0 := hn 0 (by simp)
    have y1 := hn 1 (by simp)
    have y2 := hn 2 (by simp)
    have y3 := hn 3 (by simp)
    have y4 := hn 4 (by simp)
    simp only [cqs, cqz] at y0 y1 y2 y3 y4
    obtain ⟨zs, hzs⟩ := (hown.out.below hbx).owns
    have hfine : TokD.fine ⟨t1, t2, t3, q1, q2⟩ := ⟨by show t2.size ≤ maxLen; unfold maxLen; have : t2.size ≤ s.size := hn1; omega, hn2, hn3, by show q1 ≤ _; omega, by show q2 ≤ _; omega⟩
    clear hwx hn
    go_wp2_with (at_builtin; refine wpList_append_own_at _ rfl (.tmp 71) (.tmp 73) 33 rfl (w.heap.size + 1) 53 i0 _ 5 48 Tryz.underlying33 hi hz0 hz1 hz2 rfl (by decide) _ acc.length zs rfl (hzs.alloc _) ⟨wx.heap.size, 0, none⟩ 1 1 [.int .i64 t1, .string t2, .int .i64 t3, .int .i64 q1, .int .i64 q2] rfl rfl (cells_new5 wx [_, _, _, _, _] 53) (by simp [Value.oneCell']) (by unfold maxLen; omega) (by omega) (by have h1 := hB.size; have h2 := hbx.size; simp; omega) ?_; intro v' w2 hown' hgrow _ hat2; obtain ⟨hnew, hB2⟩ := OwnR.round (s := wr.heap.size) (x := ⟨t1, t2, t3, q1, q2⟩) hown.out hbx hB (by have := hB.size; omega) (hzs.alloc _) (Nat.le_refl _) ⟨hfine, rfl⟩ rfl hown' hgrow hat2)
    go_roundw
    case rel => exact ⟨acc ++ [⟨t1, t2, t3, q1, q2⟩], o2, g, hn8, rfl, by omega, by simp; omega, Lib.hid hst2, Lib.hid hnew, hB2⟩
    case measure => simp [intOf]; omega
end Go.Proofs.YtnbfadgclffgkaaGreatDoor
/- What lexB makes of the two texts that clewlaw12.awake reads. Printed by gen-lex7.py. -/
namespace Go.Proofs.YtnbfadgclffgkaaGreatDoor
open Go.RowKit Go.Sort
def ssay : ByteArray := ⟨#[115, 97, 121, 32, 49, 44, 32, 34, 97, 34, 59]⟩
theorem ssay_one0 : oneB ssay 0 = (⟨4, ⟨#[115, 97, 121]⟩, 0, 0, 0⟩, 3, 0, 0) := by
  unfold oneB
  rw [if_neg (by decide +kernel), if_neg (by decide +kernel), if_pos (by decide +kernel), show ssay.extract 0 (rowB ssay true (ssay.size - 0) 0) = ⟨#[115, 97, 121]⟩ from by decide +kernel, dec_true (by unfold IsKey; decide +kernel)]
  kernel_rfl
theorem ssay_one1 : oneB ssay 4 = (⟨2, ⟨#[]⟩, 1, 0, 0⟩, 5, 0, 4) := by
  unfold oneB
  rw [if_neg (by decide +kernel), if_pos (by decide +kernel)]
  kernel_rfl
theorem ssay_one2 : oneB ssay 5 = (⟨5, ⟨#[44]⟩, 0, 0, 0⟩, 6, 0, 0) := by
  unfold oneB
  rw [if_neg (by decide +kernel), if_neg (by decide +kernel), if_neg (by decide +kernel), if_neg (by decide +kernel)]
  kernel_rfl
theorem ssay_one3 : oneB ssay 7 = (⟨3, ⟨#[97]⟩, 0, 0, 0⟩, 10, 0, 0) := by
  unfold oneB
  rw [if_pos (by decide +kernel)]
  kernel_rfl
theorem ssay_one4 : oneB ssay 10 = (⟨5, ⟨#[59]⟩, 0, 0, 0⟩, 11, 0, 0) := by
  unfold oneB
  rw [if_neg (by decide +kernel), if_neg (by decide +kernel), if_neg (by decide +kernel), if_neg (by decide +kernel)]
  kernel_rfl
theorem ssay_lex : lexB ssay = ([⟨4, ⟨#[115, 97, 121]⟩, 0, 1, 1⟩, ⟨2, ⟨#[]⟩, 1, 1, 5⟩, ⟨5, ⟨#[44]⟩, 0, 1, 6⟩, ⟨3, ⟨#[97]⟩, 0, 1, 8⟩, ⟨5, ⟨#[59]⟩, 0, 1, 11⟩, ⟨0, ⟨#[]⟩, 0, 1, 12⟩], ⟨0, 0, 0⟩) := by
  unfold lexB
  rw [if_neg (by decide +kernel)]
  rw [show ssay.size + 1 = 11 + 1 from by decide +kernel]
  rw [allB_step ssay 11 0 _ 0 true (by kernel_rfl), if_neg (by decide), if_neg (by decide +kernel), ssay_one0, if_neg (by decide), if_neg (by decide)]
  rw [show atB ssay 0 = (1, 1) from by decide +kernel]
  simp only [List.nil_append]
  rw [allB_step ssay 10 3 _ 4 true (by kernel_rfl), if_neg (by decide), if_neg (by decide +kernel), ssay_one1, if_neg (by decide), if_neg (by decide)]
  rw [show atB ssay 4 = (1, 5) from by decide +kernel]
  simp only [List.nil_append, List.cons_append]
  rw [allB_step ssay 9 5 _ 5 true (by kernel_rfl), if_neg (by decide), if_neg (by decide +kernel), ssay_one2, if_neg (by decide), if_neg (by decide)]
  rw [show atB ssay 5 = (1, 6) from by decide +kernel]
  simp only [List.nil_append, List.cons_append]
  rw [allB_step ssay 8 6 _ 7 true (by kernel_rfl), if_neg (by decide), if_neg (by decide +kernel), ssay_one3, if_neg (by decide), if_neg (by decide)]
  rw [show atB ssay 7 = (1, 8) from by decide +kernel]
  simp only [List.nil_append, List.cons_append]
  rw [allB_step ssay 7 10 _ 10 true (by kernel_rfl), if_neg (by decide), if_neg (by decide +kernel), ssay_one4, if_neg (by decide), if_neg (by decide)]
  rw [show atB ssay 10 = (1, 11) from by decide +kernel]
  simp only [List.nil_append, List.cons_append]
  rw [allB_step ssay 6 11 _ 11 true (by kernel_rfl), if_neg (by decide), if_pos (by decide +kernel)]
  kernel_rfl
def sput : ByteArray := ⟨#[40, 97, 41, 32, 61, 32, 50, 59]⟩
theorem sput_one0 : oneB sput 0 = (⟨5, ⟨#[40]⟩, 0, 0, 0⟩, 1, 0, 0) := by
  unfold oneB
  rw [if_neg (by decide +kernel), if_neg (by decide +kernel), if_neg (by decide +kernel), if_neg (by decide +kernel)]
  kernel_rfl
theorem sput_one1 : oneB sput 1 = (⟨1, ⟨#[97]⟩, 0, 0, 0⟩, 2, 0, 0) := by
  unfold oneB
  rw [if_neg (by decide +kernel), if_neg (by decide +kernel), if_pos (by decide +kernel), show sput.extract 1 (rowB sput true (sput.size - 1) 1) = ⟨#[97]⟩ from by decide +kernel, dec_false (by unfold IsKey; decide +kernel)]
  kernel_rfl
theorem sput_one2 : oneB sput 2 = (⟨5, ⟨#[41]⟩, 0, 0, 0⟩, 3, 0, 0) := by
  unfold oneB
  rw [if_neg (by decide +kernel), if_neg (by decide +kernel), if_neg (by decide +kernel), if_neg (by decide +kernel)]
  kernel_rfl
theorem sput_one3 : oneB sput 4 = (⟨5, ⟨#[61]⟩, 0, 0, 0⟩, 5, 0, 0) := by
  unfold oneB
  rw [if_neg (by decide +kernel), if_neg (by decide +kernel), if_neg (by decide +kernel), if_neg (by decide +kernel)]
  kernel_rfl
theorem sput_one4 : oneB sput 6 = (⟨2, ⟨#[]⟩, 2, 0, 0⟩, 7, 0, 6) := by
  unfold oneB
  rw [if_neg (by decide +kernel), if_pos (by decide +kernel)]
  kernel_rfl
theorem sput_one5 : oneB sput 7 = (⟨5, ⟨#[59]⟩, 0, 0, 0⟩, 8, 0, 0) := by
  unfold oneB
  rw [if_neg (by decide +kernel), if_neg (by decide +kernel), if_neg (by decide +kernel), if_neg (by decide +kernel)]
  kernel_rfl
theorem sput_lex : lexB sput = ([⟨5, ⟨#[40]⟩, 0, 1, 1⟩, ⟨1, ⟨#[97]⟩, 0, 1, 2⟩, ⟨5, ⟨#[41]⟩, 0, 1, 3⟩, ⟨5, ⟨#[61]⟩, 0, 1, 5⟩, ⟨2, ⟨#[]⟩, 2, 1, 7⟩, ⟨5, ⟨#[59]⟩, 0, 1, 8⟩, ⟨0, ⟨#[]⟩, 0, 1, 9⟩], ⟨0, 0, 0⟩) := by
  unfold lexB
  rw [if_neg (by decide +kernel)]
  rw [show sput.size + 1 = 8 + 1 from by decide +kernel]
  rw [allB_step sput 8 0 _ 0 true (by kernel_rfl), if_neg (by decide), if_neg (by decide +kernel), sput_one0, if_neg (by decide), if_neg (by decide)]
  rw [show atB sput 0 = (1, 1) from by decide +kernel]
  simp only [List.nil_append]
  rw [allB_step sput 7 1 _ 1 true (by kernel_rfl), if_neg (by decide), if_neg (by decide +kernel), sput_one1, if_neg (by decide), if_neg (by decide)]
  rw [show atB sput 1 = (1, 2) from by decide +kernel]
  simp only [List.nil_append, List.cons_append]
  rw [allB_step sput 6 2 _ 2 true (by kernel_rfl), if_neg (by decide), if_neg (by decide +kernel), sput_one2, if_neg (by decide), if_neg (by decide)]
  rw [show atB sput 2 = (1, 3) from by decide +kernel]
  simp only [List.nil_append, List.cons_append]
  rw [allB_step sput 5 3 _ 4 true (by kernel_rfl), if_neg (by decide), if_neg (by decide +kernel), sput_one3, if_neg (by decide), if_neg (by decide)]
  rw [show atB sput 4 = (1, 5) from by decide +kernel]
  simp only [List.nil_append, List.cons_append]
  rw [allB_step sput 4 5 _ 6 true (by kernel_rfl), if_neg (by decide), if_neg (by decide +kernel), sput_one4, if_neg (by decide), if_neg (by decide)]
  rw [show atB sput 6 = (1, 7) from by decide +kernel]
  simp only [List.nil_append, List.cons_append]
  rw [allB_step sput 3 7 _ 7 true (by kernel_rfl), if_neg (by decide), if_neg (by decide +kernel), sput_one5, if_neg (by decide), if_neg (by decide)]
  rw [show atB sput 7 = (1, 8) from by decide +kernel]
  simp only [List.nil_append, List.cons_append]
  rw [allB_step sput 2 8 _ 8 true (by kernel_rfl), if_neg (by decide), if_pos (by decide +kernel)]
  kernel_rfl
end Go.Proofs.YtnbfadgclffgkaaGreatDoor
