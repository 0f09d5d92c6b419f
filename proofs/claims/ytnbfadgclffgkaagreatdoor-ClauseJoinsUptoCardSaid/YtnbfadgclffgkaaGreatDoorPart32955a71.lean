/- The walks of clewref09's number and one. Printed by gen-lex4.py. -/
import Derived.Test.YtnbfadgclffgkaaGreatDoorLexS
import Derived.Test.YtnbfadgclffgkaaGreatDoorPart2cdae13e
import Derived.Test.YtnbfadgclffgkaaGreatDoorPartfd454d89
namespace Go.Proofs.YtnbfadgclffgkaaGreatDoor
open Go.RowKit Go.Sort
theorem extract_at (s : ByteArray) (i j k : Nat) (hj : j ≤ s.size) (h : k < (s.extract i j).size) : (s.extract i j)[k] = s[i + k]'(by rw [ByteArray.size_extract] at h; omega) := by
  have h1 := extract_get s i j k
  have h2 : k < j - i := by rw [ByteArray.size_extract] at h; omega
  rw [if_pos (by have e : min j s.size = j := by omega
                 rw [e]; exact h2)] at h1
  have h3 : k < (s.extract i j).data.size := h
  have h4 : i + k < s.data.size := by show i + k < s.size; omega
  rw [Array.getElem?_eq_getElem h3, Array.getElem?_eq_getElem h4] at h1
  exact Option.some.inj h1
theorem rowB_bounds (s : ByteArray) (nm : Bool) : ∀ (f k : Nat), k ≤ s.size → k ≤ rowB s nm f k ∧ rowB s nm f k ≤ s.size
  | 0, k, h => ⟨Nat.le_refl _, h⟩
  | f + 1, k, h => by
    show k ≤ (if k < s.size ∧ _ then rowB s nm f (k + 1) else k) ∧ (if k < s.size ∧ _ then rowB s nm f (k + 1) else k) ≤ s.size
    split
    · rename_i h2
      have := rowB_bounds s nm f (k + 1) (by omega)
      omega
    · exact ⟨Nat.le_refl _, h⟩
theorem rowB_digits (s : ByteArray) : ∀ (f k : Nat), ∀ i, k ≤ i → i < rowB s false f k → digitC (byteAt s i) = true
  | 0, k, i, h1, h2 => by
    have : i < k := h2
    omega
  | f + 1, k, i, h1, h2 => by
    have e : rowB s false (f + 1) k = if k < s.size ∧ (digitC (byteAt s k) || (false && (smallC (byteAt s k) || decide (byteAt s k = 95)))) = true then rowB s false f (k + 1) else k := rfl
    rw [e] at h2
    by_cases hc : k < s.size ∧ (digitC (byteAt s k) || (false && (smallC (byteAt s k) || decide (byteAt s k = 95)))) = true
    · rw [if_pos hc] at h2
      rcases Nat.lt_or_ge k i with h3 | h3
      · exact rowB_digits s f (k + 1) i h3 h2
      · obtain rfl : i = k := by omega
        simpa using hc.2
    · rw [if_neg hc] at h2
      omega
set_option maxRecDepth 20000 in
set_option maxHeartbeats 4000000 in
theorem number9_calls (s : ByteArray) (i j : Nat) (w : World) (hi : i < j) (hj : j ≤ s.size) (hs : s.size ≤ 100000) (hd : ∀ k, i ≤ k → k < j → digitC (byteAt s k) = true) : Calls Tryz.prog 55 #[.string s, .int .i64 i, .int .i64 j] w
    fun e w' => e = .returned (.tuple #[.int .i64 (numberB s i j).1, .int .i64 (numberB s i j).2]) ∧ w = w' := by
  have hi2 : i < s.size := by omega
  have hii : (i : Int) < (s.size : Int) := by omega
  have hi0 : (0 : Int) ≤ (i : Int) := by omega
  obtain ⟨c, hc⟩ : ∃ c, s[i] = c := ⟨_, rfl⟩
  have hbc : byteAt s i = c := by rw [byteAt_lt hi2, hc]
  have hcn : ((s[i]).toNat : Int) = (c.toNat : Int) := by rw [hc]
  have hT : ∃ t1 t2, numberB s i j = (t1, t2) := ⟨_, _, rfl⟩
  obtain ⟨t1, t2, hT⟩ := hT
  rw [hT]
  have hT2 := hT
  unfold numberB at hT2
  rw [hbc] at hT2
  have hnum : ¬ (c = 48 ∧ i + 1 < j) → Hid (∀ W : World, Calls Tryz.prog 96 #[.string (s.extract i j), .int .u64 32767] W fun e w' => e = .returned (.tuple #[.int .u64 (digitsV 32767 (s.extract i j).data.toList 0).1, .int .i64 (digitsV 32767 (s.extract i j).data.toList 0).2]) ∧ W = w') := fun hz W => by
    have hxs : (s.extract i j).size = j - i := by rw [ByteArray.size_extract]; omega
    refine number1_calls (s.extract i j) W (by omega) (by omega) (fun h1 => ?_) (fun k hk => ?_)
    · rw [extract_at s i j 0 hj]
      intro h2
      exact hz ⟨by rw [← hc, ← h2]; rfl, by omega⟩
    · rw [extract_at s i j k hj]
      have h3 := hd (i + k) (by omega) (by omega)
      rw [byteAt_lt (by omega)] at h3
      exact h3
  have hle := digitsV_le (s.extract i j).data.toList 0 (Nat.zero_le _)
  have HT0 : Hid (((j < s.size ∧ (smallC (byteAt s j) || bigC (byteAt s j) || decide (byteAt s j = 95)) = true) ∨ (c = 48 ∧ i + 1 < j)) → t1 = 0 ∧ t2 = 4) := fun h => by
    rw [if_pos h] at hT2
    simp only [Prod.mk.injEq] at hT2
    exact ⟨hT2.1.symm, hT2.2.symm⟩
  have HT1 : Hid (¬ ((j < s.size ∧ (smallC (byteAt s j) || bigC (byteAt s j) || decide (byteAt s j = 95)) = true) ∨ (c = 48 ∧ i + 1 < j)) → digitsV 32767 (s.extract i j).data.toList 0 = (t1, t2)) := fun h => by
    rw [if_neg h] at hT2
    exact hT2
  obtain ⟨dv, hdv⟩ : ∃ dv, digitsV 32767 (s.extract i j).data.toList 0 = dv := ⟨_, rfl⟩
  rw [hdv] at hnum HT1 hle
  clear hT hT2 hd hbc hdv
  by_cases hjs : j < s.size
  rotate_left
  · have hjsi : ¬ (j : Int) < (s.size : Int) := by omega
    by_cases h48 : c = 48
    · have hcv : c.toNat = 48 := by rw [h48]; rfl
      have z1 : (((s[i]).toNat : Int) == 48) = true := by rw [hcn]; simp; omega
      by_cases hij : i + 1 < j
      · have hiji : (i : Int) + 1 < (j : Int) := by omega
        obtain ⟨rfl, rfl⟩ := HT0.out (Or.inr ⟨h48, hij⟩)
        clear hnum HT0 HT1 hle h48 hcn hc
        go_enter Tryz.func55, Tryz.ntmps55
        go_wp2_with (first  | fail)
        go_ret2
        exact ⟨rfl, rfl⟩
      · have hiji : ¬ (i : Int) + 1 < (j : Int) := by omega
        have HN := hnum (fun h => hij h.2)
        obtain rfl := HT1.out (by rintro (h | h); exact hjs h.1; exact hij h.2)
        clear hnum HT0 HT1 h48 hcn hc
        go_enter Tryz.func55, Tryz.ntmps55
        go_wp2_with (first  | (go_at_call 96; (with_reducible refine (HN.out _).mono ?_); rintro e w1 ⟨rfl, rfl⟩))
        go_ret2
        exact ⟨rfl, rfl⟩
    · have hcv : c.toNat ≠ 48 := toNat_ne h48
      have z1 : (((s[i]).toNat : Int) == 48) = false := by rw [hcn]; simp; omega
      have HN := hnum (fun h => h48 h.1)
      obtain rfl := HT1.out (by rintro (h | h); exact hjs h.1; exact h48 h.1)
      clear hnum HT0 HT1 h48 hcn hc
      go_enter Tryz.func55, Tryz.ntmps55
      go_wp2_with (first  | (go_at_call 96; (with_reducible refine (HN.out _).mono ?_); rintro e w1 ⟨rfl, rfl⟩))
      go_ret2
      exact ⟨rfl, rfl⟩
  have hjsi : (j : Int) < (s.size : Int) := by omega
  have hj0 : (0 : Int) ≤ (j : Int) := by omega
  obtain ⟨d, hd⟩ : ∃ d, s[j] = d := ⟨_, rfl⟩
  have hdn : ((s[j]).toNat : Int) = (d.toNat : Int) := by rw [hd]
  rw [byteAt_lt hjs, hd] at HT0 HT1
  have hsm := small9_calls d w
  have hbg := big9_calls d w
  rw [← hd] at hsm hbg
  rw [hd] at hsm hbg
  cases hsc : smallC d
  · rw [hsc, ← hd] at hsm
    have HS := Lib.hid hsm
    cases hbc : bigC d
    · rw [hbc, ← hd] at hbg
      have HB := Lib.hid hbg
      by_cases h95 : d = 95
      · have hdv : d.toNat = 95 := by rw [h95]; rfl
        have f1 : (((s[j]).toNat : Int) == 95) = true := by rw [hdn]; simp; omega
        obtain ⟨rfl, rfl⟩ := HT0.out (Or.inl ⟨hjs, by simp [h95]⟩)
        clear hnum HT0 HT1 hle hcn hc hsm hbg hsc hbc h95 hdn hd
        go_enter Tryz.func55, Tryz.ntmps55
        go_wp2_with (first | (go_at_call 56; (with_reducible refine HS.out.mono ?_); rintro e w1 ⟨rfl, rfl⟩) | (go_at_call 95; (with_reducible refine HB.out.mono ?_); rintro e w1 ⟨rfl, rfl⟩) | fail)
        go_ret2
        exact ⟨rfl, rfl⟩
      · have hdv : d.toNat ≠ 95 := toNat_ne h95
        have f1 : (((s[j]).toNat : Int) == 95) = false := by rw [hdn]; simp; omega
        have HNO : Hid (¬ (smallC d || bigC d || decide (d = 95)) = true) := Lib.hid (by simp [hsc, hbc, h95])
        clear hsm hbg hdn hd hsc hbc h95
        by_cases h48 : c = 48
        · have hcv : c.toNat = 48 := by rw [h48]; rfl
          have z1 : (((s[i]).toNat : Int) == 48) = true := by rw [hcn]; simp; omega
          by_cases hij : i + 1 < j
          · have hiji : (i : Int) + 1 < (j : Int) := by omega
            obtain ⟨rfl, rfl⟩ := HT0.out (Or.inr ⟨h48, hij⟩)
            clear hnum HT0 HT1 hle h48 hcn hc
            go_enter Tryz.func55, Tryz.ntmps55
            go_wp2_with (first | (go_at_call 56; (with_reducible refine HS.out.mono ?_); rintro e w1 ⟨rfl, rfl⟩) | (go_at_call 95; (with_reducible refine HB.out.mono ?_); rintro e w1 ⟨rfl, rfl⟩) | fail)
            go_ret2
            exact ⟨rfl, rfl⟩
          · have hiji : ¬ (i : Int) + 1 < (j : Int) := by omega
            have HN := hnum (fun h => hij h.2)
            obtain rfl := HT1.out (by rintro (h | h); exact HNO.out h.2; exact hij h.2)
            clear hnum HT0 HT1 h48 hcn hc
            go_enter Tryz.func55, Tryz.ntmps55
            go_wp2_with (first | (go_at_call 56; (with_reducible refine HS.out.mono ?_); rintro e w1 ⟨rfl, rfl⟩) | (go_at_call 95; (with_reducible refine HB.out.mono ?_); rintro e w1 ⟨rfl, rfl⟩) | (go_at_call 96; (with_reducible refine (HN.out _).mono ?_); rintro e w1 ⟨rfl, rfl⟩))
            go_ret2
            exact ⟨rfl, rfl⟩
        · have hcv : c.toNat ≠ 48 := toNat_ne h48
          have z1 : (((s[i]).toNat : Int) == 48) = false := by rw [hcn]; simp; omega
          have HN := hnum (fun h => h48 h.1)
          obtain rfl := HT1.out (by rintro (h | h); exact HNO.out h.2; exact h48 h.1)
          clear hnum HT0 HT1 h48 hcn hc
          go_enter Tryz.func55, Tryz.ntmps55
          go_wp2_with (first | (go_at_call 56; (with_reducible refine HS.out.mono ?_); rintro e w1 ⟨rfl, rfl⟩) | (go_at_call 95; (with_reducible refine HB.out.mono ?_); rintro e w1 ⟨rfl, rfl⟩) | (go_at_call 96; (with_reducible refine (HN.out _).mono ?_); rintro e w1 ⟨rfl, rfl⟩))
          go_ret2
          exact ⟨rfl, rfl⟩
    · rw [hbc, ← hd] at hbg
      have HB := Lib.hid hbg
      obtain ⟨rfl, rfl⟩ := HT0.out (Or.inl ⟨hjs, by simp [hbc]⟩)
      clear hnum HT0 HT1 hle hcn hc hsm hbg hsc hbc hdn hd
      go_enter Tryz.func55, Tryz.ntmps55
      go_wp2_with (first | (go_at_call 56; (with_reducible refine HS.out.mono ?_); rintro e w1 ⟨rfl, rfl⟩) | (go_at_call 95; (with_reducible refine HB.out.mono ?_); rintro e w1 ⟨rfl, rfl⟩) | fail)
      go_ret2
      exact ⟨rfl, rfl⟩
  · rw [hsc, ← hd] at hsm
    have HS := Lib.hid hsm
    obtain ⟨rfl, rfl⟩ := HT0.out (Or.inl ⟨hjs, by simp [hsc]⟩)
    clear hnum HT0 HT1 hle hcn hc hsm hbg hsc hdn hd
    go_enter Tryz.func55, Tryz.ntmps55
    go_wp2_with (first | (go_at_call 56; (with_reducible refine HS.out.mono ?_); rintro e w1 ⟨rfl, rfl⟩) | fail)
    go_ret2
    exact ⟨rfl, rfl⟩
end Go.Proofs.YtnbfadgclffgkaaGreatDoor
/- The walk of clewref09's one. Printed by gen-lex5.py. -/
namespace Go.Proofs.YtnbfadgclffgkaaGreatDoor
open Go.RowKit Go.Sort
def TokD.val (t : TokD) : Value := .agg #[.int .i64 t.kind, .string t.text, .int .i64 t.num, .int .i64 t.line, .int .i64 t.col]
theorem rowB_one (s : ByteArray) (nm : Bool) (i : Nat) (hi : i < s.size) (h : (digitC (byteAt s i) || (nm && (smallC (byteAt s i) || decide (byteAt s i = 95)))) = true) : i < rowB s nm (s.size - i) i := by
  obtain ⟨f, hf⟩ : ∃ f, s.size - i = f + 1 := ⟨s.size - i - 1, by omega⟩
  rw [hf]
  show i < (if i < s.size ∧ _ then rowB s nm f (i + 1) else i)
  rw [if_pos ⟨hi, h⟩]
  have := (rowB_bounds s nm f (i + 1) (by omega)).1
  omega
theorem five9 {B : Nat} {a w : World} {b : Nat} {u0 u1 u2 u3 u4 : Value} (h : Below B a w) (hb : B ≤ b) : Below B a (((((w.setCell ⟨b, 0, none⟩ u0).setCell ⟨b, 1, none⟩ u1).setCell ⟨b, 2, none⟩ u2).setCell ⟨b, 3, none⟩ u3).setCell ⟨b, 4, none⟩ u4) :=
  ((((h.setCell (p := ⟨b, 0, none⟩) hb _).setCell (p := ⟨b, 1, none⟩) hb _).setCell (p := ⟨b, 2, none⟩) hb _).setCell (p := ⟨b, 3, none⟩) hb _).setCell (p := ⟨b, 4, none⟩) hb _
theorem tok_at {w w1 : World} {T : TypeId} {a0 a1 a2 a3 a4 : Value} (h : Below (w.alloc (.cells #[a0, a1, a2, a3, a4] T)).heap.size (w.alloc (.cells #[a0, a1, a2, a3, a4] T)) w1) : Below w.heap.size w w1 ∧
    (w1.cell? ⟨w.heap.size, 0, none⟩ = some a0 ∧ w1.cell? ⟨w.heap.size, 1, none⟩ = some a1 ∧ w1.cell? ⟨w.heap.size, 2, none⟩ = some a2 ∧ w1.cell? ⟨w.heap.size, 3, none⟩ = some a3 ∧ w1.cell? ⟨w.heap.size, 4, none⟩ = some a4) ∧
    (w1.frozen? ⟨w.heap.size, 0, none⟩ = false ∧ w1.frozen? ⟨w.heap.size, 1, none⟩ = false ∧ w1.frozen? ⟨w.heap.size, 2, none⟩ = false ∧ w1.frozen? ⟨w.heap.size, 3, none⟩ = false ∧ w1.frozen? ⟨w.heap.size, 4, none⟩ = false) := by
  have hs : w.heap.size < (w.alloc (.cells #[a0, a1, a2, a3, a4] T)).heap.size := by simp
  have hc : ∀ j : Nat, w1.cell? ⟨w.heap.size, j, none⟩ = (w.alloc (.cells #[a0, a1, a2, a3, a4] T)).cell? ⟨w.heap.size, j, none⟩ := fun j => h.cell (p := ⟨w.heap.size, j, none⟩) hs
  have hf : ∀ j : Nat, w1.frozen? ⟨w.heap.size, j, none⟩ = (w.alloc (.cells #[a0, a1, a2, a3, a4] T)).frozen? ⟨w.heap.size, j, none⟩ := fun j => h.frozen (p := ⟨w.heap.size, j, none⟩) hs
  have hn := (BoxAt.new w [a0, a1, a2, a3, a4] T).2
  refine ⟨((Below.refl _ w).alloc (Nat.le_refl _) _).trans (h.mono (by simp)), ⟨?_, ?_, ?_, ?_, ?_⟩, ⟨?_, ?_, ?_, ?_, ?_⟩⟩
  · rw [hc]; exact hn 0 (by simp)
  · rw [hc]; exact hn 1 (by simp)
  · rw [hc]; exact hn 2 (by simp)
  · rw [hc]; exact hn 3 (by simp)
  · rw [hc]; exact hn 4 (by simp)
  · rw [hf]; go_simp
  · rw [hf]; go_simp
  · rw [hf]; go_simp
  · rw [hf]; go_simp
  · rw [hf]; go_simp
set_option maxRecDepth 20000 in
set_option maxHeartbeats 4000000 in
theorem one9_calls (s : ByteArray) (i : Nat) (w : World) (hi : i < s.size) (hs : s.size ≤ 100000) : Calls Tryz.prog 29 #[.string s, .int .i64 i] w
    (Gives w (.tuple #[(oneB s i).1.val, .int .i64 (oneB s i).2.1, .int .i64 (oneB s i).2.2.1, .int .i64 (oneB s i).2.2.2])) := by
  have hii : (i : Int) < (s.size : Int) := by omega
  have hi0 : (0 : Int) ≤ (i : Int) := by omega
  obtain ⟨c, hc⟩ : ∃ c, s[i] = c := ⟨_, rfl⟩
  have hbc : byteAt s i = c := by rw [byteAt_lt hi, hc]
  have hcn : ((s[i]).toNat : Int) = (c.toNat : Int) := by rw [hc]
  by_cases h34 : c = 34
  · have hcv : c.toNat = 34 := by rw [h34]; rfl
    have e34a : (((s[i]).toNat : Int) == 34) = true := by rw [hcn]; simp; omega
    have e34b : (((s[i]).toNat : Int) != 34) = false := by rw [hcn]; simp; omega
    have ho : oneB s i = (⟨3, (textB s i (s.size - i) (i + 1) ⟨#[]⟩).1, 0, 0, 0⟩, (textB s i (s.size - i) (i + 1) ⟨#[]⟩).2) := by
      unfold oneB
      rw [hbc, if_pos h34]
    rw [ho]
    have ht := fun W => text9_calls s i W hi hs
    generalize textB s i (s.size - i) (i + 1) ⟨#[]⟩ = T at ht ⊢
    obtain ⟨t1, t2, t3, t4⟩ := T
    have HT := Lib.hid ht
    clear ht ho hbc hc hcn h34
    show Calls Tryz.prog 29 #[.string s, .int .i64 i] w (Gives w (.tuple #[.agg #[.int .i64 3, .string t1, .int .i64 0, .int .i64 0, .int .i64 0], .int .i64 t2, .int .i64 t3, .int .i64 t4]))
    go_enter Tryz.func29, Tryz.ntmps29
    go_wp2_with (go_at_call 52; (with_reducible refine (HT.out _).mono ?_); rintro e w1 ⟨rfl, rfl⟩)
    (try simp only [Exit.inBlock, Exit.then])
    exact bodyPost_ret (v := .tuple #[.agg #[.int .i64 3, .string t1, .int .i64 0, .int .i64 0, .int .i64 0], .int .i64 t2, .int .i64 t3, .int .i64 t4]) (by simp [results, Tryz.results29, go_sem]) rfl ⟨rfl, by repeat (first | exact Below.refl _ _ | exact HB.out | refine Below.setCell ?_ (by simp) _ | refine Below.alloc ?_ (by simp) _)⟩
  have n34 : c.toNat ≠ 34 := toNat_ne h34
  have e34a : (((s[i]).toNat : Int) == 34) = false := by rw [hcn]; simp; omega
  have e34b : (((s[i]).toNat : Int) != 34) = true := by rw [hcn]; simp; omega
  have hd := fun W => digit9_calls c W
  rw [← hc] at hd
  cases hdc : digitC c
  rotate_left
  · simp only [hc, hdc] at hd
    rw [← hc] at hd
    have HD := Lib.hid hd
    have hj := rowB_one s false i hi (by rw [hbc, hdc]; rfl)
    have hjs := (rowB_bounds s false (s.size - i) i (by omega)).2
    have hds := rowB_digits s (s.size - i) i
    have hr := fun W => row9_calls s false i W (by omega) hs
    have ho : oneB s i = (⟨2, ⟨#[]⟩, (numberB s i (rowB s false (s.size - i) i)).1, 0, 0⟩, rowB s false (s.size - i) i, (numberB s i (rowB s false (s.size - i) i)).2, i) := by
      unfold oneB
      rw [hbc, if_neg h34, if_pos hdc]
    rw [ho]
    generalize rowB s false (s.size - i) i = j at hj hjs hds hr ⊢
    have hn := fun W => number9_calls s i j W hj hjs hs hds
    generalize numberB s i j = N at hn ⊢
    obtain ⟨n1, n2⟩ := N
    have HR := Lib.hid hr; have HN := Lib.hid hn
    clear hr hn ho hbc hc hcn h34 hd hdc hds
    show Calls Tryz.prog 29 #[.string s, .int .i64 i] w (Gives w (.tuple #[.agg #[.int .i64 2, .string ⟨#[]⟩, .int .i64 n1, .int .i64 0, .int .i64 0], .int .i64 j, .int .i64 n2, .int .i64 i]))
    go_enter Tryz.func29, Tryz.ntmps29
    go_wp2_with (first | (go_at_call 53; (with_reducible refine (HD.out _).mono ?_); rintro e w1 ⟨rfl, rfl⟩) | (go_at_call 54; (with_reducible refine (HR.out _).mono ?_); rintro e w1 ⟨rfl, rfl⟩) | (go_at_call 55; (with_reducible refine (HN.out _).mono ?_); rintro e w1 ⟨rfl, rfl⟩))
    (try simp only [Exit.inBlock, Exit.then])
    exact bodyPost_ret (v := .tuple #[.agg #[.int .i64 2, .string ⟨#[]⟩, .int .i64 n1, .int .i64 0, .int .i64 0], .int .i64 j, .int .i64 n2, .int .i64 i]) (by simp [results, Tryz.results29, go_sem]) rfl ⟨rfl, by repeat (first | exact Below.refl _ _ | exact HB.out | refine Below.setCell ?_ (by simp) _ | refine Below.alloc ?_ (by simp) _)⟩
  simp only [hc, hdc] at hd
  rw [← hc] at hd
  have HD := Lib.hid hd
  have hm := fun W => small9_calls c W
  rw [← hc] at hm
  cases hmc : smallC c
  rotate_left
  · simp only [hc, hmc] at hm
    rw [← hc] at hm
    have HM := Lib.hid hm
    have hj := rowB_one s true i hi (by rw [hbc, hmc]; simp)
    have hjs := (rowB_bounds s true (s.size - i) i (by omega)).2
    have hr := fun W => row9_calls s true i W (by omega) hs
    have ho : oneB s i = (⟨if dec (IsKey (s.extract i (rowB s true (s.size - i) i))) = true then 4 else 1, s.extract i (rowB s true (s.size - i) i), 0, 0, 0⟩, rowB s true (s.size - i) i, if 24 < (s.extract i (rowB s true (s.size - i) i)).size then (9, i) else (0, 0)) := by
      unfold oneB
      rw [hbc, if_neg h34, if_neg (by rw [hdc]; decide), if_pos hmc]
    rw [ho]
    generalize rowB s true (s.size - i) i = j at hj hjs hr ⊢
    have hji : (i : Int) ≤ (j : Int) := by omega
    have hjsi : (j : Int) ≤ (s.size : Int) := by omega
    have hxz : (s.extract i j).size ≤ 100000 := by rw [ByteArray.size_extract]; omega
    have hxe : (s.extract i j).size = j - i := by rw [ByteArray.size_extract]; omega
    have hk := fun W => keyR_calls (s.extract i j) W (by unfold maxLen; omega)
    obtain ⟨kb, hkb⟩ : ∃ b, dec (IsKey (s.extract i j)) = b := ⟨_, rfl⟩
    simp only [hkb] at hk ⊢
    have HR := Lib.hid hr; have HK := Lib.hid hk
    clear hr hk ho hbc hc hcn h34 hd hdc hm hmc hkb
    by_cases hl : 24 < (s.extract i j).size
    · have hli : (24 : Int) < ((s.extract i j).size : Int) := by omega
      have hlj : (24 : Int) < (j : Int) - (i : Int) := by omega
      have hlk : 24 < j - i := by omega
      rw [if_pos hl]
      cases kb
      · simp only [Bool.false_eq_true, if_false]
        show Calls Tryz.prog 29 #[.string s, .int .i64 i] w (Gives w (.tuple #[.agg #[.int .i64 1, .string (s.extract i j), .int .i64 0, .int .i64 0, .int .i64 0], .int .i64 j, .int .i64 9, .int .i64 i]))
        go_enter Tryz.func29, Tryz.ntmps29
        go_wp2_with (first | (go_at_call 53; (with_reducible refine (HD.out _).mono ?_); rintro e w1 ⟨rfl, rfl⟩) | (go_at_call 56; (with_reducible refine (HM.out _).mono ?_); rintro e w1 ⟨rfl, rfl⟩) | (go_at_call 54; (with_reducible refine (HR.out _).mono ?_); rintro e w1 ⟨rfl, rfl⟩) | (go_at_call 57; (with_reducible refine (HK.out _).mono ?_); rintro e w1 ⟨rfl, rfl⟩))
        (try simp only [Exit.inBlock, Exit.then])
        exact bodyPost_ret (v := .tuple #[.agg #[.int .i64 1, .string (s.extract i j), .int .i64 0, .int .i64 0, .int .i64 0], .int .i64 j, .int .i64 9, .int .i64 i]) (by simp [results, Tryz.results29, go_sem]) rfl ⟨rfl, by repeat (first | exact Below.refl _ _ | exact HB.out | refine Below.setCell ?_ (by simp) _ | refine Below.alloc ?_ (by simp) _)⟩
      · simp only [if_true]
        show Calls Tryz.prog 29 #[.string s, .int .i64 i] w (Gives w (.tuple #[.agg #[.int .i64 4, .string (s.extract i j), .int .i64 0, .int .i64 0, .int .i64 0], .int .i64 j, .int .i64 9, .int .i64 i]))
        go_enter Tryz.func29, Tryz.ntmps29
        go_wp2_with (first | (go_at_call 53; (with_reducible refine (HD.out _).mono ?_); rintro e w1 ⟨rfl, rfl⟩) | (go_at_call 56; (with_reducible refine (HM.out _).mono ?_); rintro e w1 ⟨rfl, rfl⟩) | (go_at_call 54; (with_reducible refine (HR.out _).mono ?_); rintro e w1 ⟨rfl, rfl⟩) | (go_at_call 57; (with_reducible refine (HK.out _).mono ?_); rintro e w1 ⟨rfl, rfl⟩))
        (try simp only [Exit.inBlock, Exit.then])
        exact bodyPost_ret (v := .tuple #[.agg #[.int .i64 4, .string (s.extract i j), .int .i64 0, .int .i64 0, .int .i64 0], .int .i64 j, .int .i64 9, .int .i64 i]) (by simp [results, Tryz.results29, go_sem]) rfl ⟨rfl, by repeat (first | exact Below.refl _ _ | exact HB.out | refine Below.setCell ?_ (by simp) _ | refine Below.alloc ?_ (by simp) _)⟩
    · have hli : ¬ (24 : Int) < ((s.extract i j).size : Int) := by omega
      have hlj : ¬ (24 : Int) < (j : Int) - (i : Int) := by omega
      have hlk : ¬ 24 < j - i := by omega
      rw [if_neg hl]
      cases kb
      · simp only [Bool.false_eq_true, if_false]
        show Calls Tryz.prog 29 #[.string s, .int .i64 i] w (Gives w (.tuple #[.agg #[.int .i64 1, .string (s.extract i j), .int .i64 0, .int .i64 0, .int .i64 0], .int .i64 j, .int .i64 0, .int .i64 0]))
        go_enter Tryz.func29, Tryz.ntmps29
        go_wp2_with (first | (go_at_call 53; (with_reducible refine (HD.out _).mono ?_); rintro e w1 ⟨rfl, rfl⟩) | (go_at_call 56; (with_reducible refine (HM.out _).mono ?_); rintro e w1 ⟨rfl, rfl⟩) | (go_at_call 54; (with_reducible refine (HR.out _).mono ?_); rintro e w1 ⟨rfl, rfl⟩) | (go_at_call 57; (with_reducible refine (HK.out _).mono ?_); rintro e w1 ⟨rfl, rfl⟩))
        (try simp only [Exit.inBlock, Exit.then])
        exact bodyPost_ret (v := .tuple #[.agg #[.int .i64 1, .string (s.extract i j), .int .i64 0, .int .i64 0, .int .i64 0], .int .i64 j, .int .i64 0, .int .i64 0]) (by simp [results, Tryz.results29, go_sem]) rfl ⟨rfl, by repeat (first | exact Below.refl _ _ | exact HB.out | refine Below.setCell ?_ (by simp) _ | refine Below.alloc ?_ (by simp) _)⟩
      · simp only [if_true]
        show Calls Tryz.prog 29 #[.string s, .int .i64 i] w (Gives w (.tuple #[.agg #[.int .i64 4, .string (s.extract i j), .int .i64 0, .int .i64 0, .int .i64 0], .int .i64 j, .int .i64 0, .int .i64 0]))
        go_enter Tryz.func29, Tryz.ntmps29
        go_wp2_with (first | (go_at_call 53; (with_reducible refine (HD.out _).mono ?_); rintro e w1 ⟨rfl, rfl⟩) | (go_at_call 56; (with_reducible refine (HM.out _).mono ?_); rintro e w1 ⟨rfl, rfl⟩) | (go_at_call 54; (with_reducible refine (HR.out _).mono ?_); rintro e w1 ⟨rfl, rfl⟩) | (go_at_call 57; (with_reducible refine (HK.out _).mono ?_); rintro e w1 ⟨rfl, rfl⟩))
        (try simp only [Exit.inBlock, Exit.then])
        exact bodyPost_ret (v := .tuple #[.agg #[.int .i64 4, .string (s.extract i j), .int .i64 0, .int .i64 0, .int .i64 0], .int .i64 j, .int .i64 0, .int .i64 0]) (by simp [results, Tryz.results29, go_sem]) rfl ⟨rfl, by repeat (first | exact Below.refl _ _ | exact HB.out | refine Below.setCell ?_ (by simp) _ | refine Below.alloc ?_ (by simp) _)⟩
  simp only [hc, hmc] at hm
  rw [← hc] at hm
  have HM := Lib.hid hm
  have hg := fun W => sign9_calls s i W hi hs
  by_cases hz : signC s i = 0
  · have ho : oneB s i = (⟨0, ⟨#[]⟩, 0, 0, 0⟩, 0, 13, i) := by
      unfold oneB
      rw [hbc, if_neg h34, if_neg (by rw [hdc]; decide), if_neg (by rw [hmc]; decide), if_pos hz]
    rw [ho]
    rw [hz] at hg
    have HG := Lib.hid hg
    clear ho hbc hc hcn h34 hd hdc hm hmc hz hg
    show Calls Tryz.prog 29 #[.string s, .int .i64 i] w (Gives w (.tuple #[.agg #[.int .i64 0, .string ⟨#[]⟩, .int .i64 0, .int .i64 0, .int .i64 0], .int .i64 0, .int .i64 13, .int .i64 i]))
    go_enter Tryz.func29, Tryz.ntmps29
    go_wp2_with (first | (go_at_call 53; (with_reducible refine (HD.out _).mono ?_); rintro e w1 ⟨rfl, rfl⟩) | (go_at_call 56; (with_reducible refine (HM.out _).mono ?_); rintro e w1 ⟨rfl, rfl⟩) | (go_at_call 58; (with_reducible refine (HG.out _).mono ?_); rintro e w1 ⟨rfl, hb1⟩; obtain ⟨hbw, ⟨p0, p1, p2, p3, p4⟩, f0, f1, f2, f3, f4⟩ := tok_at hb1; clear hb1))
    (try simp only [Exit.inBlock, Exit.then])
    exact bodyPost_ret (v := .tuple #[.agg #[.int .i64 0, .string ⟨#[]⟩, .int .i64 0, .int .i64 0, .int .i64 0], .int .i64 0, .int .i64 13, .int .i64 i]) (by simp [results, Tryz.results29, go_sem, p0, p1, p2, p3, p4]) rfl ⟨rfl, five9 hbw (Nat.le_refl _)⟩
  have hsz : signC s i = 1 ∨ (signC s i = 2 ∧ i + 1 < s.size) := by
    unfold signC at hz ⊢
    by_cases hA : i + 1 < s.size ∧ byteAt s (i + 1) = 61 ∧ (byteAt s i = 61 ∨ byteAt s i = 33 ∨ byteAt s i = 60 ∨ byteAt s i = 62)
    · rw [if_pos hA]; exact Or.inr ⟨rfl, hA.1⟩
    · rw [if_neg hA] at hz ⊢
      by_cases hB : byteAt s i ∈ ones
      · rw [if_pos hB]; exact Or.inl rfl
      · rw [if_neg hB] at hz; exact absurd rfl hz
  have ho : oneB s i = (⟨5, s.extract i (i + signC s i), 0, 0, 0⟩, i + signC s i, 0, 0) := by
    unfold oneB
    rw [hbc, if_neg h34, if_neg (by rw [hdc]; decide), if_neg (by rw [hmc]; decide), if_neg hz]
  rw [ho]
  generalize signC s i = n at hz hg hsz ⊢
  have hnz : ((n : Int) == 0) = false := by rw [beq_eq_false_iff_ne]; omega
  have hin : (i : Int) ≤ (i : Int) + (n : Int) := by omega
  have hns : (i : Int) + (n : Int) ≤ (s.size : Int) := by omega
  have HG := Lib.hid hg
  clear ho hbc hc hcn h34 hd hdc hm hmc hz hg
  show Calls Tryz.prog 29 #[.string s, .int .i64 i] w (Gives w (.tuple #[.agg #[.int .i64 5, .string (s.extract i (i + n)), .int .i64 0, .int .i64 0, .int .i64 0], .int .i64 ((i + n : Nat) : Int), .int .i64 0, .int .i64 0]))
  go_enter Tryz.func29, Tryz.ntmps29
  go_wp2_with (first | (go_at_call 53; (with_reducible refine (HD.out _).mono ?_); rintro e w1 ⟨rfl, rfl⟩) | (go_at_call 56; (with_reducible refine (HM.out _).mono ?_); rintro e w1 ⟨rfl, rfl⟩) | (go_at_call 58; (with_reducible refine (HG.out _).mono ?_); rintro e w1 ⟨rfl, hb1⟩; obtain ⟨hbw, ⟨p0, p1, p2, p3, p4⟩, f0, f1, f2, f3, f4⟩ := tok_at hb1; clear hb1))
  (try simp only [Exit.inBlock, Exit.then])
  exact bodyPost_ret (v := .tuple #[.agg #[.int .i64 5, .string (s.extract i (i + n)), .int .i64 0, .int .i64 0, .int .i64 0], .int .i64 ((i + n : Nat) : Int), .int .i64 0, .int .i64 0]) (by simp [results, Tryz.results29, go_sem, p0, p1, p2, p3, p4]) rfl ⟨rfl, five9 hbw (Nat.le_refl _)⟩
end Go.Proofs.YtnbfadgclffgkaaGreatDoor
/- The walks of tree.name, clewref10.name and tree.exprHas. -/
namespace Go.Proofs.YtnbfadgclffgkaaGreatDoor
open Go.RowKit Go.Sort
def IsNm (s : ByteArray) : Prop := IsName s ∧ ¬ IsKey s
set_option maxHeartbeats 400000 in
theorem nameR_calls (s : ByteArray) (w : World) (hs : s.size ≤ maxLen) : Calls Tryz.prog 76 #[.string s] w (Same0 w (.bool (dec (IsNm s)))) := by
  have h1 := isNameR_calls s w hs
  by_cases hn : IsName s
  · have h2 := keyR_calls s w hs
    have e1 : Hid (dec (IsNm s) = !dec (IsKey s)) := by
      show dec (IsNm s) = _
      by_cases hk : IsKey s
      · rw [dec_true hk, dec_false (fun h => h.2 hk)]; rfl
      · rw [dec_false hk, dec_true ⟨hn, hk⟩]; rfl
    rw [dec_true hn] at h1
    have H1 := Lib.hid h1
    have H2 := Lib.hid h2
    clear h1 h2 hn
    go_enter Tryz.func76, Tryz.ntmps76
    go_wp2_with (first | (go_at_call 120; refine H1.out.mono ?_; rintro e w' ⟨rfl, rfl⟩) | (go_at_call 57; refine H2.out.mono ?_; rintro e w' ⟨rfl, rfl⟩))
    go_ret
    exact ⟨ret_bool e1.out.symm, rfl⟩
  · have e1 : Hid (dec (IsNm s) = false) := dec_false (fun h => hn h.1)
    rw [dec_false hn] at h1
    have H1 := Lib.hid h1
    clear h1 hn
    go_enter Tryz.func76, Tryz.ntmps76
    go_wp2_with (go_at_call 120; refine H1.out.mono ?_; rintro e w' ⟨rfl, rfl⟩)
    go_ret
    exact ⟨ret_bool e1.out.symm, rfl⟩
structure Has where
  op : Bool
  num : Bool
  name : Bool
  least : Nat
  most : Nat
  is : Bool
def hasOf (k : Int) : Has :=
  if k = 1 ∨ k = 14 ∨ k = 15 ∨ k = 19 then ⟨false, true, false, 0, 0, true⟩
  else if k = 2 ∨ k = 3 then ⟨false, false, true, 0, 0, true⟩
  else if k = 4 ∨ k = 5 ∨ k = 11 ∨ k = 13 then ⟨false, false, false, 1, 1, true⟩
  else if k = 6 then ⟨true, false, false, 2, 2, true⟩
  else if k = 7 ∨ k = 8 then ⟨false, false, true, 1, 1, true⟩
  else if k = 16 ∨ k = 17 then ⟨false, true, false, 1, 1, true⟩
  else if k = 9 then ⟨false, false, true, 0, 8, true⟩
  else if k = 18 then ⟨false, true, false, 0, 8, true⟩
  else if k = 10 then ⟨true, false, false, 1, 1, true⟩
  else if k = 12 then ⟨true, false, false, 0, 0, true⟩
  else ⟨false, false, false, 0, 0, false⟩
end Go.Proofs.YtnbfadgclffgkaaGreatDoor
/- The walk of tree.stmtHas, and of the function that RightBlock asks names by. -/
namespace Go.Proofs.YtnbfadgclffgkaaGreatDoor
open Go.RowKit Go.Sort
structure Parts where
  named : Bool
  body : Bool
  other : Bool
  least : Nat
  most : Nat
  is : Bool
def partsOf (k : Int) : Parts :=
  if k = 1 then ⟨false, false, false, 1, 8, true⟩
  else if k = 2 ∨ k = 3 ∨ k = 5 ∨ k = 6 ∨ k = 17 ∨ k = 23 then ⟨true, false, false, 1, 1, true⟩
  else if k = 4 then ⟨true, false, false, 2, 2, true⟩
  else if k = 7 then ⟨false, false, false, 2, 2, true⟩
  else if k = 8 ∨ k = 12 ∨ k = 16 ∨ k = 20 ∨ k = 22 ∨ k = 19 then ⟨false, false, false, 1, 1, true⟩
  else if k = 9 then ⟨false, true, true, 1, 1, true⟩
  else if k = 10 then ⟨false, true, false, 1, 1, true⟩
  else if k = 11 then ⟨true, true, false, 1, 1, true⟩
  else if k = 18 then ⟨true, false, false, 0, 0, true⟩
  else if k = 13 ∨ k = 14 ∨ k = 15 ∨ k = 21 then ⟨false, false, false, 0, 0, true⟩
  else ⟨false, false, false, 0, 0, false⟩
theorem skind_cases (k : Int) : k = 1 ∨ k = 2 ∨ k = 3 ∨ k = 4 ∨ k = 5 ∨ k = 6 ∨ k = 7 ∨ k = 8 ∨ k = 9 ∨ k = 10 ∨ k = 11 ∨ k = 12 ∨ k = 13 ∨ k = 14 ∨ k = 15 ∨ k = 16 ∨ k = 17 ∨ k = 18 ∨ k = 19 ∨ k = 20 ∨ k = 21 ∨ k = 22 ∨ k = 23 ∨ k < 1 ∨ 23 < k := by omega
def NameOk (named : Bool) (k n : Int) (s : ByteArray) : Prop := if named = true then k ≠ 23 ∧ n = 0 ∧ IsNm s else s = ByteArray.empty ∧ n = 0
end Go.Proofs.YtnbfadgclffgkaaGreatDoor
/- The walks of tree.op, tree.said and tree.shaped. -/
namespace Go.Proofs.YtnbfadgclffgkaaGreatDoor
open Go.RowKit Go.Sort
def OpOk (k o : Int) : Prop := (k = 6 → 1 ≤ o ∧ o ≤ 14) ∧ (k = 10 → 1 ≤ o ∧ o ≤ 3) ∧ (k = 12 → 1 ≤ o ∧ o ≤ 6)
def SaidK (k : Int) : Prop := k = 2 ∨ k = 13 ∨ k = 19
def Shaped (k o n : Int) (s : ByteArray) (m : Nat) : Prop :=
  (hasOf k).is = true ∧ ((hasOf k).op = true ∨ o = 0) ∧ ((hasOf k).num = true ∨ n = 0) ∧ ((hasOf k).name = true ∨ s = ByteArray.empty) ∧ (hasOf k).least ≤ m ∧ m ≤ (hasOf k).most ∧ OpOk k o
end Go.Proofs.YtnbfadgclffgkaaGreatDoor
/- The walk of tree.each: whether all of a list are so, whatever function is asked. -/
namespace Go.Proofs.YtnbfadgclffgkaaGreatDoor
open Go.RowKit Go.Sort
end Go.Proofs.YtnbfadgclffgkaaGreatDoor
/- The walks of tree.source, its closure, and tree.Right. -/
namespace Go.Proofs.YtnbfadgclffgkaaGreatDoor
open Go.RowKit Go.Sort
mutual
def Src : Ex → Prop
  | .mk k o n s args => (1 ≤ k ∧ k ≤ 13) ∧ Shaped k o n s args.length ∧ (k = 1 → 0 ≤ n ∧ n ≤ 32767) ∧ (k = 2 → IsText s) ∧ (k = 3 ∨ k = 7 ∨ k = 8 ∨ k = 9 → IsNm s) ∧ Srcs args
def Srcs : List Ex → Prop
  | [] => True
  | a :: l => (¬ SaidK a.kind ∧ Src a) ∧ Srcs l
end
theorem srcs_iff (l : List Ex) : Srcs l ↔ ∀ a ∈ l, ¬ SaidK a.kind ∧ Src a := by
  induction l with
  | nil => simp [Srcs]
  | cons a l ih => simp [Srcs, ih]
end Go.Proofs.YtnbfadgclffgkaaGreatDoor
