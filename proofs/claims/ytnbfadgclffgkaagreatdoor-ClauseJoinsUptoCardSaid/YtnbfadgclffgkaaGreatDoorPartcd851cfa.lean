/- lex.Quote and clewref09.Quote: a text as a token. -/
import Derived.Test.YtnbfadgclffgkaaGreatDoorBd
import Derived.Laws.EntriesVeiled
namespace Go.Proofs.YtnbfadgclffgkaaGreatDoor
open Go.RowKit
def escB (c : UInt8) : List UInt8 := if c = 10 then [92, 110] else if c = 34 ∨ c = 92 then [92, c] else [c]
def quoteL (l : List UInt8) : List UInt8 := 34 :: (l.flatMap escB ++ [34])
def quoteB (s : ByteArray) : ByteArray := ⟨(quoteL s.data.toList).toArray⟩
theorem escB_length (c : UInt8) : (escB c).length ≤ 2 := by unfold escB; split <;> (try split) <;> simp
theorem esc_length (l : List UInt8) : (l.flatMap escB).length ≤ 2 * l.length := by
  induction l with
  | nil => simp
  | cons c l ih => have := escB_length c; simp only [List.flatMap_cons, List.length_append, List.length_cons]; omega
theorem quoteB_size (s : ByteArray) : (quoteB s).size ≤ 2 * s.size + 2 := by
  have := esc_length s.data.toList
  have h : s.data.toList.length = s.size := by simp
  show (quoteL s.data.toList).toArray.size ≤ _
  simp only [quoteL, List.size_toArray, List.length_cons, List.length_append, List.length_nil]
  omega
theorem esc_take (s : ByteArray) (k : Nat) (h : k < s.size) : ((s.data.toList.take (k + 1)).flatMap escB) = (s.data.toList.take k).flatMap escB ++ escB s[k] := by
  have h2 : k < s.data.toList.length := by simpa using h
  rw [List.take_succ_eq_append_getElem h2, List.flatMap_append]
  congr 1
  simp only [List.flatMap_cons, List.flatMap_nil, List.append_nil]
  congr 1
theorem u8_ne {c : UInt8} {n : Nat} (m : UInt8) (hm : m.toNat = n) (h : c ≠ m) : ((c.toNat : Int) == (n : Int)) = false := by
  simp only [beq_eq_false_iff_ne, ne_eq]
  intro e
  exact h (UInt8.toNat_inj.1 (by rw [hm]; omega))
def At (w : World) (l : List UInt8) (wr : World) : Prop := Bd w.heap.size w.heap.size l wr ∧ Below w.heap.size w wr
theorem At.byte {w wr : World} {l : List UInt8} (h : At w l wr) (c : UInt8) (hl : l.length ≤ 100000000000) (n : Int) (hn : n = c.toNat) :
    Calls Tryz.prog 129 #[.pointer (some ⟨w.heap.size, 0, none⟩), .int .u8 n] wr fun e w' => e = .returned .nilIface ∧ At w (l ++ [c]) w' := by
  subst hn
  refine (bdWB _ _ l c wr h.1 (by omega) h.2.size).mono ?_
  rintro e w' ⟨rfl, h1, h2⟩
  exact ⟨rfl, h1.bd, h.2.trans h2⟩
theorem At.text {w wr : World} {l : List UInt8} (h : At w l wr) (s : ByteArray) (hl : l.length ≤ 100000000000) (hs : s.size ≤ 1000000000000) :
    Calls Tryz.prog 81 #[.pointer (some ⟨w.heap.size, 0, none⟩), .string s] wr fun e w' => e = .returned (.tuple #[.int .i64 s.size, .nilIface]) ∧ At w (l ++ s.data.toList) w' := by
  refine (bdWS _ _ l s wr h.1 (by omega) h.2.size).mono ?_
  rintro e w' ⟨rfl, h1, h2⟩
  exact ⟨rfl, h1.bd, h.2.trans h2⟩
theorem At.str {w wr : World} {l : List UInt8} (h : At w l wr) :
    Calls Tryz.prog 83 #[.pointer (some ⟨w.heap.size, 0, none⟩)] wr fun e w' => e = .returned (.string ⟨l.toArray⟩) ∧ Below w.heap.size w w' := by
  refine (bdStr _ _ l wr h.1 h.2.size).mono ?_
  rintro e w' ⟨rfl, h2⟩
  exact ⟨rfl, h.2.trans h2⟩
set_option maxRecDepth 100000 in
set_option maxHeartbeats 4000000 in
theorem quoteT_calls (s : ByteArray) (w : World) (hs : s.size ≤ 1000000000) : Calls Tryz.prog 85 #[.string s] w (Gives w (.string (quoteB s))) := by
  obtain ⟨W1, hW1⟩ : ∃ W, w.alloc (.cells #[.pointer none, .slice none 0 0] 109) = W := ⟨_, rfl⟩
  have hA : At w [] W1 := by rw [← hW1]; exact ⟨Bd.new w, (Below.refl _ _).alloc (Nat.le_refl _) _⟩
  have HA := Lib.hid hA
  have HW1 := Lib.hid hW1
  clear hA hW1
  go_enter Tryz.func85, Tryz.ntmps85
  go_upto_region 2 with fail
  rw [HW1.out]
  go_wp2_with (go_at_call 129; refine (HA.out.byte 34 (by simp) 34 rfl).mono ?_; rintro e w1 ⟨rfl, ha1⟩)
  go_loopw [8] (fun i wr => ∃ k : Nat, k ≤ s.size ∧ i = .int .i64 k ∧ Hid (At w (34 :: (s.data.toList.take k).flatMap escB) wr)) (fun i _ => s.size - (intOf i).toNat)
  case atStart => exact ⟨0, Nat.zero_le _, rfl, ha1⟩
  case round =>
    obtain ⟨k, hk, rfl, hat⟩ := hrel
    have hlen : Hid ((34 :: (s.data.toList.take k).flatMap escB).length ≤ 10000000000) := by
      show _ ≤ _
      have h1 := esc_length (s.data.toList.take k)
      have h2 : (s.data.toList.take k).length ≤ k := by simp; omega
      simp only [List.length_cons]
      omega
    have cN : Hid (∀ wr, At w (34 :: (s.data.toList.take k).flatMap escB) wr → Calls Tryz.prog 81 #[.pointer (some ⟨w.heap.size, 0, none⟩), .string { data := #[92, 110] }] wr fun e w' => e = .returned (.tuple #[.int .i64 2, .nilIface]) ∧ At w ((34 :: (s.data.toList.take k).flatMap escB) ++ [92, 110]) w') := fun wr h => h.text ⟨#[92, 110]⟩ (Nat.le_trans hlen.out (by omega)) (by decide)
    have cE : Hid (∀ wr, At w (34 :: (s.data.toList.take k).flatMap escB) wr → Calls Tryz.prog 129 #[.pointer (some ⟨w.heap.size, 0, none⟩), .int .u8 92] wr fun e w' => e = .returned .nilIface ∧ At w ((34 :: (s.data.toList.take k).flatMap escB) ++ [92]) w') := fun wr h => h.byte 92 (Nat.le_trans hlen.out (by omega)) 92 rfl
    have cQ : Hid (∀ wr, At w (34 :: (s.data.toList.take k).flatMap escB) wr → Calls Tryz.prog 129 #[.pointer (some ⟨w.heap.size, 0, none⟩), .int .u8 34] wr fun e w' => e = .returned .nilIface ∧ At w ((34 :: (s.data.toList.take k).flatMap escB) ++ [34]) w') := fun wr h => h.byte 34 (Nat.le_trans hlen.out (by omega)) 34 rfl
    by_cases hlt : k < s.size
    · have hnx : Hid (At w (34 :: (s.data.toList.take (k + 1)).flatMap escB) = At w ((34 :: (s.data.toList.take k).flatMap escB) ++ escB s[k])) := by
        show _ = _
        rw [esc_take s k hlt]
        rfl
      have cC : Hid (∀ wr, At w (34 :: (s.data.toList.take k).flatMap escB) wr → Calls Tryz.prog 129 #[.pointer (some ⟨w.heap.size, 0, none⟩), .int .u8 (s[k].toNat : Int)] wr fun e w' => e = .returned .nilIface ∧ At w ((34 :: (s.data.toList.take k).flatMap escB) ++ [s[k]]) w') := fun wr h => h.byte s[k] (Nat.le_trans hlen.out (by omega)) _ rfl
      have cC2 : Hid (∀ wr, At w ((34 :: (s.data.toList.take k).flatMap escB) ++ [92]) wr → Calls Tryz.prog 129 #[.pointer (some ⟨w.heap.size, 0, none⟩), .int .u8 (s[k].toNat : Int)] wr fun e w' => e = .returned .nilIface ∧ At w ((34 :: (s.data.toList.take k).flatMap escB) ++ [92] ++ [s[k]]) w') := fun wr h => h.byte s[k] (by rw [List.length_append]; exact Nat.le_trans (Nat.add_le_add_right hlen.out _) (by simp)) _ rfl
      have hki : (k : Int) < (s.size : Int) := by omega
      have hki0 : (0 : Int) ≤ (k : Int) := by omega
      by_cases h10 : s[k] = 10
      · have e1 : ((s[k].toNat : Int) == 10) = true := by rw [h10]; rfl
        have hes : Hid (escB s[k] = [92, 110]) := by show _ = _; rw [h10]; rfl
        clear h10
        go_wp2_with (go_at_call 81; (with_reducible refine (cN.out _ hat.out).mono ?_); rintro e w2 ⟨rfl, ha2⟩)
        go_roundw
        case rel => exact ⟨k + 1, by omega, by go_num, by show _; rw [hnx.out, hes.out]; exact ha2⟩
        case measure => simp [intOf]; omega
      · have e1 : ((s[k].toNat : Int) == 10) = false := u8_ne 10 rfl h10
        by_cases hq : s[k] = 34 ∨ s[k] = 92
        · have hes : Hid (escB s[k] = [92] ++ [s[k]]) := by show _ = _; unfold escB; rw [if_neg h10, if_pos hq]; rfl
          by_cases h34 : s[k] = 34
          · have e2 : ((s[k].toNat : Int) == 34) = true := by rw [h34]; rfl
            clear h10 hq h34
            go_wp2_with (first | (go_at_call 129; (with_reducible refine (cE.out _ hat.out).mono ?_); rintro e w2 ⟨rfl, ha2⟩) | (go_at_call 129; (with_reducible refine (cC2.out _ ha2).mono ?_); rintro e w3 ⟨rfl, ha3⟩))
            go_roundw
            case rel => exact ⟨k + 1, by omega, by go_num, by show _; rw [hnx.out, hes.out, ← List.append_assoc]; exact ha3⟩
            case measure => simp [intOf]; omega
          · have e2 : ((s[k].toNat : Int) == 34) = false := u8_ne 34 rfl h34
            have e3 : ((s[k].toNat : Int) == 92) = true := by rw [hq.resolve_left h34]; rfl
            clear h10 hq h34
            go_wp2_with (first | (go_at_call 129; (with_reducible refine (cE.out _ hat.out).mono ?_); rintro e w2 ⟨rfl, ha2⟩) | (go_at_call 129; (with_reducible refine (cC2.out _ ha2).mono ?_); rintro e w3 ⟨rfl, ha3⟩))
            go_roundw
            case rel => exact ⟨k + 1, by omega, by go_num, by show _; rw [hnx.out, hes.out, ← List.append_assoc]; exact ha3⟩
            case measure => simp [intOf]; omega
        · have hes : Hid (escB s[k] = [s[k]]) := by show _ = _; unfold escB; rw [if_neg h10, if_neg hq]
          have e2 : ((s[k].toNat : Int) == 34) = false := u8_ne 34 rfl (fun h => hq (Or.inl h))
          have e3 : ((s[k].toNat : Int) == 92) = false := u8_ne 92 rfl (fun h => hq (Or.inr h))
          clear h10 hq
          go_wp2_with (go_at_call 129; (with_reducible refine (cC.out _ hat.out).mono ?_); rintro e w2 ⟨rfl, ha2⟩)
          go_roundw
          case rel => exact ⟨k + 1, by omega, by go_num, by show _; rw [hnx.out, hes.out]; exact ha2⟩
          case measure => simp [intOf]; omega
    · have : k = s.size := by omega
      subst this
      have hki : decide ((s.size : Int) < (s.size : Int)) = false := by simp
      have hall : Hid ((34 :: (s.data.toList.take s.size).flatMap escB) ++ [34] = quoteL s.data.toList) := by
        show _ = _
        rw [List.take_of_length_le (by simp)]
        rfl
      have cS : Hid (∀ wr, At w (quoteL s.data.toList) wr → Calls Tryz.prog 83 #[.pointer (some ⟨w.heap.size, 0, none⟩)] wr fun e w' => e = .returned (.string (quoteB s)) ∧ Below w.heap.size w w') := fun wr h => h.str
      go_wp2_with (first | (go_at_call 129; (with_reducible refine (cQ.out _ hat.out).mono ?_); rintro e w2 ⟨rfl, ha2⟩; rw [hall.out] at ha2) | (go_at_call 83; (with_reducible refine (cS.out _ ha2).mono ?_); rintro e w3 ⟨rfl, hb3⟩))
      go_ret
      exact ⟨rfl, hb3⟩
end Go.Proofs.YtnbfadgclffgkaaGreatDoor
/- clewref09.Quote. -/
namespace Go.Proofs.YtnbfadgclffgkaaGreatDoor
open Go.RowKit
theorem bs_app (l m : List UInt8) : (⟨l.toArray⟩ : ByteArray) ++ ⟨m.toArray⟩ = ⟨(l ++ m).toArray⟩ := by
  apply ByteArray.ext
  simp
theorem bs_one (s : ByteArray) (k : Nat) (h : k < s.size) : s.extract k (k + 1) = ⟨[s[k]].toArray⟩ := by
  apply ByteArray.ext
  have h2 : k < s.data.size := h
  rw [ByteArray.data_extract]
  apply Array.ext
  · simp; omega
  · intro i h1 h2
    simp at h1 h2
    have : i = 0 := by omega
    subst this
    simp
    rfl
set_option maxRecDepth 100000 in
set_option maxHeartbeats 4000000 in
theorem quoteR_calls (s : ByteArray) (w : World) (hs : s.size ≤ 1000000000) : Calls Tryz.prog 131 #[.string s] w (Gives w (.string (quoteB s))) := by
  go_enter Tryz.func131, Tryz.ntmps131
  go_wp2
  go_loopw [3, 4] (fun o i wr => ∃ k : Nat, k ≤ s.size ∧ o = .string ⟨(34 :: (s.data.toList.take k).flatMap escB).toArray⟩ ∧ i = .int .i64 k ∧ Hid (Below w.heap.size w wr)) (fun _ i _ => s.size - (intOf i).toNat)
  case atStart => exact ⟨0, Nat.zero_le _, rfl, rfl, Below.refl _ _⟩
  case round =>
    obtain ⟨k, hk, rfl, rfl, hB⟩ := hrel
    obtain ⟨o, ho⟩ : ∃ o : ByteArray, ⟨(34 :: (s.data.toList.take k).flatMap escB).toArray⟩ = o := ⟨_, rfl⟩
    have HO := Lib.hid ho
    rw [ho]
    have hos : o.size ≤ 10000000000 := by
      rw [← ho]
      have h1 := esc_length (s.data.toList.take k)
      have h2 : (s.data.toList.take k).length ≤ k := by simp; omega
      show (34 :: (s.data.toList.take k).flatMap escB).toArray.size ≤ _
      simp only [List.size_toArray, List.length_cons]
      omega
    clear ho
    by_cases hlt : k < s.size
    · have hki : (k : Int) < (s.size : Int) := by omega
      have hki0 : (0 : Int) ≤ (k : Int) := by omega
      have hki1 : (k : Int) + 1 ≤ (s.size : Int) := by omega
      have hki2 : (k : Int) ≤ (k : Int) + 1 := by omega
      have hki3 : (0 : Int) ≤ (k : Int) + 1 := by omega
      by_cases h10 : s[k] = 10
      · have e1 : ((s[k].toNat : Int) == 10) = true := by rw [h10]; rfl
        have hes : Hid (escB s[k] = [92, 110]) := by show _ = _; rw [h10]; rfl
        clear h10
        go_wp2
        go_roundw
        case rel =>
          exact ⟨k + 1, by omega, by rw [← HO.out, show (⟨#[92, 110]⟩ : ByteArray) = ⟨[92, 110].toArray⟩ from rfl, bs_app, esc_take s k hlt, hes.out]; rfl, by go_num, hB⟩
        case measure => simp [intOf]; omega
      · have e1 : ((s[k].toNat : Int) == 10) = false := u8_ne 10 rfl h10
        by_cases hq : s[k] = 34 ∨ s[k] = 92
        · have hes : Hid (escB s[k] = [92] ++ [s[k]]) := by show _ = _; unfold escB; rw [if_neg h10, if_pos hq]; rfl
          by_cases h34 : s[k] = 34
          · have e2 : ((s[k].toNat : Int) == 34) = true := by rw [h34]; rfl
            clear h10 hq h34
            go_wp2
            go_roundw
            case rel =>
              exact ⟨k + 1, by omega, by rw [← HO.out, show (⟨#[92]⟩ : ByteArray) = ⟨[92].toArray⟩ from rfl, bs_one s k hlt, bs_app, bs_app, esc_take s k hlt, hes.out, List.append_assoc]; rfl, by go_num, hB⟩
            case measure => simp [intOf]; omega
          · have e2 : ((s[k].toNat : Int) == 34) = false := u8_ne 34 rfl h34
            have e3 : ((s[k].toNat : Int) == 92) = true := by rw [hq.resolve_left h34]; rfl
            clear h10 hq h34
            go_wp2
            go_roundw
            case rel => exact ⟨k + 1, by omega, by rw [← HO.out, show (⟨#[92]⟩ : ByteArray) = ⟨[92].toArray⟩ from rfl, bs_one s k hlt, bs_app, bs_app, esc_take s k hlt, hes.out, List.append_assoc]; rfl, by go_num, hB⟩
            case measure => simp [intOf]; omega
        · have hes : Hid (escB s[k] = [s[k]]) := by show _ = _; unfold escB; rw [if_neg h10, if_neg hq]
          have e2 : ((s[k].toNat : Int) == 34) = false := u8_ne 34 rfl (fun h => hq (Or.inl h))
          have e3 : ((s[k].toNat : Int) == 92) = false := u8_ne 92 rfl (fun h => hq (Or.inr h))
          clear h10 hq
          go_wp2
          go_roundw
          case rel =>
            exact ⟨k + 1, by omega, by rw [← HO.out, bs_one s k hlt, bs_app, esc_take s k hlt, hes.out]; rfl, by go_num, hB⟩
          case measure => simp [intOf]; omega
    · have : k = s.size := by omega
      subst this
      have hki : decide ((s.size : Int) < (s.size : Int)) = false := by simp
      go_wp2
      go_ret
      exact ⟨by show Ending.returned (.string (o ++ ⟨#[34]⟩)) = _; rw [← HO.out, show (⟨#[34]⟩ : ByteArray) = ⟨[34].toArray⟩ from rfl, bs_app, List.take_of_length_le (by simp)]; rfl, hB⟩
end Go.Proofs.YtnbfadgclffgkaaGreatDoor
