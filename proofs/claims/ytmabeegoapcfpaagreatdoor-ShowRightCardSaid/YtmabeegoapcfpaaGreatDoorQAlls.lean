/- slices.IndexFunc, slices.ContainsFunc and show.all at the types of a source. Printed by gen-show2.py. -/
import Derived.Test.YtmabeegoapcfpaaGreatDoorQEqs
import Derived.Test.YtmabeegoapcfpaaGreatDoorQPartd8fdc15c
namespace Go.Proofs.YtmabeegoapcfpaaGreatDoor
open Go.RowKit
def GivesIdx (w : World) (p : Prop) (e : Ending) (w' : World) : Prop := ∃ n : Int, (0 ≤ n ↔ p) ∧ e = .returned (.int .i64 n) ∧ Below w.heap.size w w'
set_option maxRecDepth 100000 in
set_option maxHeartbeats 1000000 in
theorem idxString_calls (F : Nat → Prop) (w : World) (f : Nat) (caps : Array Value) (l : List (ByteArray)) (v : Value) (P : (ByteArray) → Prop) (hF : Inn F w) (hr : RdL Holds.str 1 F w l v) (hcf : ∀ (args : Array Value) (w : World), (callFunc f args).run Tryz.prog w = .ok (.enter f args) w) (hf : ∀ x ∈ l, Asks1 Holds.str oneA F w f caps x (dec (P x))) :
    Calls Tryz.prog 150 #[v, .func (.func f) #[] caps] w (GivesIdx w (∃ x ∈ l, P x)) := by
  obtain ⟨a, cap, rfl, hl, hc, ha⟩ := hr.opn
  unfold maxLen at hc
  clear hr
  go_enter Tryz.func150, Tryz.ntmps150
  go_wp2
  go_loopw [8] (fun i wr => ∃ (k : Nat), k ≤ l.length ∧ i = .int .i64 k ∧ Hid (∀ x ∈ l.take k, ¬ P x) ∧ Below w.heap.size w wr) (fun i _ => l.length - (intOf i).toNat)
  case atStart => exact ⟨0, Nat.zero_le _, rfl, by simp [Hid], Below.refl _ _⟩
  case round =>
    obtain ⟨k, hk, rfl, hq, hB⟩ := hrel
    by_cases hlt : k < l.length
    · obtain ⟨b, off, rfl, hFb, hel⟩ := ha (by omega)
      obtain ⟨cs, hx, -, hcell⟩ := hel wr (hB.block b (hF b hFb)) k hlt
      have hxm := hf _ (List.getElem_mem hlt)
      have hin := List.getElem_mem hlt
      have hte : l.take (k + 1) = l.take k ++ [l[k]] := List.take_succ_eq_append_getElem hlt
      generalize l[k] = x at hx hxm hin hte
      have hx2 := hx
      obtain ⟨-, rfl⟩ := hx2
      have g0 := hcell 0 _ rfl
      simp only [Nat.add_zero, Nat.mul_one] at g0
      have hcall : Calls Tryz.prog f (#[.string x] ++ caps) wr (Gives wr (.bool (dec (P x)))) := hxm _ [.string x] hB (Holds.below _ hx hF hB (Nat.le_refl _))
      have hki : (k : Int) < (l.length : Int) := by omega
      have hki0 : (0 : Int) ≤ (k : Int) := by omega
      clear ha hel hcell hx hf hxm
      by_cases hP : P x
      · rw [dec_true hP] at hcall
        have hfin : Hid ((0 : Int) ≤ (k : Int) ↔ ∃ x ∈ l, P x) := ⟨fun _ => ⟨x, hin, hP⟩, fun _ => hki0⟩
        have HC := Lib.hid hcall
        clear hcall hP hq hin hte
        go_wp2_with ((with_reducible refine HC.out.mono ?_); rintro e w' ⟨rfl, hb⟩)
        go_ret
        exact ⟨k, hfin.out, rfl, bt hB hb⟩
      · rw [dec_false hP] at hcall
        have hnx : Hid (∀ x ∈ l.take (k + 1), ¬ P x) := by
          show ∀ x ∈ l.take (k + 1), ¬ P x
          rw [hte]; intro y hy
          rcases List.mem_append.1 hy with h | h
          · exact hq.out y h
          · rw [List.mem_singleton.1 h]; exact hP
        have HC := Lib.hid hcall
        clear hcall hP hq hin hte
        go_wp2_with ((with_reducible refine HC.out.mono ?_); rintro e w' ⟨rfl, hb⟩)
        go_roundw
        case rel => exact ⟨k + 1, by omega, by go_num, hnx, bt hB hb⟩
        case measure => simp [intOf]; omega
    · have : k = l.length := by omega
      subst this
      have hfin : Hid ((0 : Int) ≤ -1 ↔ ∃ x ∈ l, P x) := ⟨fun h => absurd h (by decide), fun ⟨x, hx, hp⟩ => absurd hp (hq.out x (by rw [List.take_length]; exact hx))⟩
      clear hq hf ha
      go_wp2
      go_ret
      exact ⟨-1, hfin.out, rfl, hB⟩
set_option maxRecDepth 100000 in
set_option maxHeartbeats 1000000 in
theorem conString_calls (F : Nat → Prop) (w : World) (f : Nat) (caps : Array Value) (l : List (ByteArray)) (v : Value) (P : (ByteArray) → Prop) (hF : Inn F w) (hr : RdL Holds.str 1 F w l v) (hcf : ∀ (args : Array Value) (w : World), (callFunc f args).run Tryz.prog w = .ok (.enter f args) w) (hf : ∀ x ∈ l, Asks1 Holds.str oneA F w f caps x (dec (P x))) :
    Calls Tryz.prog 83 #[v, .func (.func f) #[] caps] w (Gives w (.bool (dec (∃ x ∈ l, P x)))) := by
  have hc := idxString_calls F w f caps l v P hF hr hcf hf
  have hyes : Hid ((∃ x ∈ l, P x) → dec (∃ x ∈ l, P x) = true) := fun h => dec_true h
  have hno : Hid (¬ (∃ x ∈ l, P x) → dec (∃ x ∈ l, P x) = false) := fun h => dec_false h
  obtain ⟨a, cap, rfl⟩ := hr.shape
  generalize dec (∃ x ∈ l, P x) = r at hyes hno
  have HC := Lib.hid hc
  clear hc hf hr hcf
  go_enter Tryz.func83, Tryz.ntmps83
  go_wp2_with (go_at_call 150; refine HC.out.mono ?_; rintro e w1 ⟨n, hn, rfl, hb⟩; have hn2 := Lib.hid hn; clear hn)
  go_ret
  refine ⟨ret_bool ?_, hb⟩
  by_cases h : ∃ x ∈ l, P x
  · rw [hyes.out h]; simpa using hn2.out.2 h
  · rw [hno.out h]; have := fun h1 => h (hn2.out.1 h1); simpa using this
set_option maxRecDepth 100000 in
set_option maxHeartbeats 1000000 in
theorem aclString_calls (F : Nat → Prop) (w W : World) (f q : Nat) (caps : Array Value) (x : ByteArray) (cs : List Value) (b : Bool) (_hF : Inn F w) (hW : Below w.heap.size w W) (hcf : ∀ (args : Array Value) (w : World), (callFunc f args).run Tryz.prog w = .ok (.enter f args) w) (hq : W.cell? ⟨q, 0, none⟩ = some (.func (.func f) #[] caps)) (hx : Holds.str.R F W x cs) (hf : Asks1 Holds.str oneA F w f caps x b) :
    Calls Tryz.prog 84 (#[oneA cs] ++ #[.pointer (some ⟨q, 0, none⟩)]) W (Gives W (.bool (!b))) := by
  have hx2 := hx
  obtain ⟨-, rfl⟩ := hx2
  have hcall : Calls Tryz.prog f (#[.string x] ++ caps) W (Gives W (.bool b)) := hf _ [.string x] hW hx
  show Calls Tryz.prog 84 #[.string x, .pointer (some ⟨q, 0, none⟩)] W _
  have HC := Lib.hid hcall
  clear hcall hx hf
  go_enter Tryz.func84, Tryz.ntmps84
  go_wp2_with ((with_reducible refine HC.out.mono ?_); rintro e w' ⟨rfl, hb⟩)
  go_ret
  exact ⟨rfl, hb⟩
set_option maxRecDepth 100000 in
set_option maxHeartbeats 1000000 in
theorem allString_calls (F : Nat → Prop) (w : World) (f : Nat) (caps : Array Value) (l : List (ByteArray)) (m : Int) (v : Value) (P : (ByteArray) → Prop) (hF : Inn F w) (hr : RdL Holds.str 1 F w l v) (hcf : ∀ (args : Array Value) (w : World), (callFunc f args).run Tryz.prog w = .ok (.enter f args) w) (hf : ∀ x ∈ l, Asks1 Holds.str oneA F w f caps x (dec (P x))) :
    Calls Tryz.prog 19 #[v, .int .i64 m, .func (.func f) #[] caps] w (Gives w (.bool (dec ((l.length : Int) ≤ m ∧ ∀ x ∈ l, P x)))) := by
  have hB0 : Below w.heap.size w (w.alloc (.cells #[.func (.func f) #[] caps] 45)) := (Below.refl _ w).alloc (Nat.le_refl _) _
  have hmf : ∀ (fn : Fn) (first cap : Array Value) (w : World), (Instr.makeFunc fn first cap).run Tryz.prog w = .ok (.func fn first cap) w := fun _ _ _ _ => rfl
  have hcc : ∀ (args : Array Value) (w : World), (callFunc 84 args).run Tryz.prog w = .ok (.enter 84 args) w := fun _ _ => by kernel_rfl
  have hcon := conString_calls F (w.alloc (.cells #[.func (.func f) #[] caps] 45)) 84 #[.pointer (some ⟨w.heap.size, 0, none⟩)] l v (fun x => ¬ P x) (hF.alloc _) (hr.alloc hF _) hcc (fun x hx => fun W cs hW hr => by
    have h2 := aclString_calls F w W f w.heap.size caps x cs (dec (P x)) hF (hB0.trans (hW.mono (by simp))) hcf (by rw [hW.cell (by simp)]; simp) hr (hf x hx)
    rw [show dec (¬ P x) = !dec (P x) from by by_cases h : P x; rw [dec_true h, dec_false (by simpa using h)]; rfl; rw [dec_false h, dec_true h]; rfl]
    exact h2)
  obtain ⟨a, cap, rfl⟩ := hr.shape
  clear hf hr
  by_cases hm : (l.length : Int) ≤ m
  · have hm1 : decide ((l.length : Int) ≤ m) = true := by simpa using hm
    have hfin : Hid (dec ((l.length : Int) ≤ m ∧ ∀ x ∈ l, P x) = !dec (∃ x ∈ l, ¬ P x)) := by
      show _ = _
      by_cases h : ∀ x ∈ l, P x
      · rw [dec_true ⟨hm, h⟩, dec_false (fun ⟨x, hx, hn⟩ => hn (h x hx))]; rfl
      · rw [dec_false (fun h2 => h h2.2), dec_true (by simpa using h)]; rfl
    generalize dec (∃ x ∈ l, ¬ P x) = r at hcon hfin
    have HC := Lib.hid hcon
    have HB0 := Lib.hid hB0
    clear hcon hm hB0 hcc
    go_enter Tryz.func19, Tryz.ntmps19
    go_wp2_with (go_at_call 83; refine HC.out.mono ?_; rintro e w1 ⟨rfl, hb⟩)
    go_ret
    exact ⟨ret_bool hfin.out.symm, HB0.out.trans (hb.mono (by simp))⟩
  · have hm1 : decide ((l.length : Int) ≤ m) = false := by simpa using hm
    have hfin : Hid (dec ((l.length : Int) ≤ m ∧ ∀ x ∈ l, P x) = false) := dec_false (fun h => hm h.1)
    have HB0 := Lib.hid hB0
    clear hcon hm hB0 hcc
    go_enter Tryz.func19, Tryz.ntmps19
    go_wp2_with fail
    go_ret
    exact ⟨ret_bool hfin.out.symm, HB0.out⟩
set_option maxRecDepth 100000 in
set_option maxHeartbeats 1000000 in
theorem idxPair_calls (F : Nat → Prop) (w : World) (f : Nat) (caps : Array Value) (l : List (PairD)) (v : Value) (P : (PairD) → Prop) (hF : Inn F w) (hr : RdL Holds.pair 2 F w l v) (hcf : ∀ (args : Array Value) (w : World), (callFunc f args).run Tryz.prog w = .ok (.enter f args) w) (hf : ∀ x ∈ l, Asks1 Holds.pair aggA F w f caps x (dec (P x))) :
    Calls Tryz.prog 157 #[v, .func (.func f) #[] caps] w (GivesIdx w (∃ x ∈ l, P x)) := by
  obtain ⟨a, cap, rfl, hl, hc, ha⟩ := hr.opn
  unfold maxLen at hc
  clear hr
  go_enter Tryz.func157, Tryz.ntmps157
  go_wp2
  go_loopw [8] (fun i wr => ∃ (k : Nat), k ≤ l.length ∧ i = .int .i64 k ∧ Hid (∀ x ∈ l.take k, ¬ P x) ∧ Below w.heap.size w wr) (fun i _ => l.length - (intOf i).toNat)
  case atStart => exact ⟨0, Nat.zero_le _, rfl, by simp [Hid], Below.refl _ _⟩
  case round =>
    obtain ⟨k, hk, rfl, hq, hB⟩ := hrel
    by_cases hlt : k < l.length
    · obtain ⟨b, off, rfl, hFb, hel⟩ := ha (by omega)
      obtain ⟨cs, hx, -, hcell⟩ := hel wr (hB.block b (hF b hFb)) k hlt
      have hxm := hf _ (List.getElem_mem hlt)
      have hin := List.getElem_mem hlt
      have hte : l.take (k + 1) = l.take k ++ [l[k]] := List.take_succ_eq_append_getElem hlt
      generalize l[k] = x at hx hxm hin hte
      have hx2 := hx
      obtain ⟨-, -, rfl⟩ := hx2
      have g0 := hcell 0 _ rfl
      have g1 := hcell 1 _ rfl
      simp only [Nat.add_zero] at g0
      have hcall : Calls Tryz.prog f (#[.agg #[.string x.name, .int .i64 x.num]] ++ caps) wr (Gives wr (.bool (dec (P x)))) := hxm _ [.string x.name, .int .i64 x.num] hB (Holds.below _ hx hF hB (Nat.le_refl _))
      have hki : (k : Int) < (l.length : Int) := by omega
      have hki0 : (0 : Int) ≤ (k : Int) := by omega
      clear ha hel hcell hx hf hxm
      by_cases hP : P x
      · rw [dec_true hP] at hcall
        have hfin : Hid ((0 : Int) ≤ (k : Int) ↔ ∃ x ∈ l, P x) := ⟨fun _ => ⟨x, hin, hP⟩, fun _ => hki0⟩
        have HC := Lib.hid hcall
        clear hcall hP hq hin hte
        go_wp2_with ((with_reducible refine HC.out.mono ?_); rintro e w' ⟨rfl, hb⟩)
        go_ret
        exact ⟨k, hfin.out, rfl, bt hB hb⟩
      · rw [dec_false hP] at hcall
        have hnx : Hid (∀ x ∈ l.take (k + 1), ¬ P x) := by
          show ∀ x ∈ l.take (k + 1), ¬ P x
          rw [hte]; intro y hy
          rcases List.mem_append.1 hy with h | h
          · exact hq.out y h
          · rw [List.mem_singleton.1 h]; exact hP
        have HC := Lib.hid hcall
        clear hcall hP hq hin hte
        go_wp2_with ((with_reducible refine HC.out.mono ?_); rintro e w' ⟨rfl, hb⟩)
        go_roundw
        case rel => exact ⟨k + 1, by omega, by go_num, hnx, bt hB hb⟩
        case measure => simp [intOf]; omega
    · have : k = l.length := by omega
      subst this
      have hfin : Hid ((0 : Int) ≤ -1 ↔ ∃ x ∈ l, P x) := ⟨fun h => absurd h (by decide), fun ⟨x, hx, hp⟩ => absurd hp (hq.out x (by rw [List.take_length]; exact hx))⟩
      clear hq hf ha
      go_wp2
      go_ret
      exact ⟨-1, hfin.out, rfl, hB⟩
set_option maxRecDepth 100000 in
set_option maxHeartbeats 1000000 in
theorem conPair_calls (F : Nat → Prop) (w : World) (f : Nat) (caps : Array Value) (l : List (PairD)) (v : Value) (P : (PairD) → Prop) (hF : Inn F w) (hr : RdL Holds.pair 2 F w l v) (hcf : ∀ (args : Array Value) (w : World), (callFunc f args).run Tryz.prog w = .ok (.enter f args) w) (hf : ∀ x ∈ l, Asks1 Holds.pair aggA F w f caps x (dec (P x))) :
    Calls Tryz.prog 92 #[v, .func (.func f) #[] caps] w (Gives w (.bool (dec (∃ x ∈ l, P x)))) := by
  have hc := idxPair_calls F w f caps l v P hF hr hcf hf
  have hyes : Hid ((∃ x ∈ l, P x) → dec (∃ x ∈ l, P x) = true) := fun h => dec_true h
  have hno : Hid (¬ (∃ x ∈ l, P x) → dec (∃ x ∈ l, P x) = false) := fun h => dec_false h
  obtain ⟨a, cap, rfl⟩ := hr.shape
  generalize dec (∃ x ∈ l, P x) = r at hyes hno
  have HC := Lib.hid hc
  clear hc hf hr hcf
  go_enter Tryz.func92, Tryz.ntmps92
  go_wp2_with (go_at_call 157; refine HC.out.mono ?_; rintro e w1 ⟨n, hn, rfl, hb⟩; have hn2 := Lib.hid hn; clear hn)
  go_ret
  refine ⟨ret_bool ?_, hb⟩
  by_cases h : ∃ x ∈ l, P x
  · rw [hyes.out h]; simpa using hn2.out.2 h
  · rw [hno.out h]; have := fun h1 => h (hn2.out.1 h1); simpa using this
set_option maxRecDepth 100000 in
set_option maxHeartbeats 1000000 in
theorem aclPair_calls (F : Nat → Prop) (w W : World) (f q : Nat) (caps : Array Value) (x : PairD) (cs : List Value) (b : Bool) (hF : Inn F w) (hW : Below w.heap.size w W) (hcf : ∀ (args : Array Value) (w : World), (callFunc f args).run Tryz.prog w = .ok (.enter f args) w) (hq : W.cell? ⟨q, 0, none⟩ = some (.func (.func f) #[] caps)) (hx : Holds.pair.R F W x cs) (hf : Asks1 Holds.pair aggA F w f caps x b) :
    Calls Tryz.prog 93 (#[aggA cs] ++ #[.pointer (some ⟨q, 0, none⟩)]) W (Gives W (.bool (!b))) := by
  have hx2 := hx
  obtain ⟨-, -, rfl⟩ := hx2
  have hcall : Calls Tryz.prog f (#[.agg #[.string x.name, .int .i64 x.num]] ++ caps) (W.alloc (.cells #[.string x.name, .int .i64 x.num] 35)) (Gives (W.alloc (.cells #[.string x.name, .int .i64 x.num] 35)) (.bool b)) := hf _ [.string x.name, .int .i64 x.num] (hW.alloc hW.size _) (Holds.below _ hx (hF.below hW) ((Below.refl _ W).alloc (Nat.le_refl _) _) (Nat.le_refl _))
  have hqa := cell_al hq (.cells #[.string x.name, .int .i64 x.num] 35)
  show Calls Tryz.prog 93 #[.agg #[.string x.name, .int .i64 x.num], .pointer (some ⟨q, 0, none⟩)] W _
  have HC := Lib.hid hcall
  clear hcall hx hf
  go_enter Tryz.func93, Tryz.ntmps93
  go_wp2_with ((with_reducible refine HC.out.mono ?_); rintro e w' ⟨rfl, hb⟩)
  go_ret
  exact ⟨rfl, ((Below.refl _ W).alloc (Nat.le_refl _) _).trans (hb.mono (by simp))⟩
set_option maxRecDepth 100000 in
set_option maxHeartbeats 1000000 in
theorem allPair_calls (F : Nat → Prop) (w : World) (f : Nat) (caps : Array Value) (l : List (PairD)) (m : Int) (v : Value) (P : (PairD) → Prop) (hF : Inn F w) (hr : RdL Holds.pair 2 F w l v) (hcf : ∀ (args : Array Value) (w : World), (callFunc f args).run Tryz.prog w = .ok (.enter f args) w) (hf : ∀ x ∈ l, Asks1 Holds.pair aggA F w f caps x (dec (P x))) :
    Calls Tryz.prog 24 #[v, .int .i64 m, .func (.func f) #[] caps] w (Gives w (.bool (dec ((l.length : Int) ≤ m ∧ ∀ x ∈ l, P x)))) := by
  have hB0 : Below w.heap.size w (w.alloc (.cells #[.func (.func f) #[] caps] 51)) := (Below.refl _ w).alloc (Nat.le_refl _) _
  have hmf : ∀ (fn : Fn) (first cap : Array Value) (w : World), (Instr.makeFunc fn first cap).run Tryz.prog w = .ok (.func fn first cap) w := fun _ _ _ _ => rfl
  have hcc : ∀ (args : Array Value) (w : World), (callFunc 93 args).run Tryz.prog w = .ok (.enter 93 args) w := fun _ _ => by kernel_rfl
  have hcon := conPair_calls F (w.alloc (.cells #[.func (.func f) #[] caps] 51)) 93 #[.pointer (some ⟨w.heap.size, 0, none⟩)] l v (fun x => ¬ P x) (hF.alloc _) (hr.alloc hF _) hcc (fun x hx => fun W cs hW hr => by
    have h2 := aclPair_calls F w W f w.heap.size caps x cs (dec (P x)) hF (hB0.trans (hW.mono (by simp))) hcf (by rw [hW.cell (by simp)]; simp) hr (hf x hx)
    rw [show dec (¬ P x) = !dec (P x) from by by_cases h : P x; rw [dec_true h, dec_false (by simpa using h)]; rfl; rw [dec_false h, dec_true h]; rfl]
    exact h2)
  obtain ⟨a, cap, rfl⟩ := hr.shape
  clear hf hr
  by_cases hm : (l.length : Int) ≤ m
  · have hm1 : decide ((l.length : Int) ≤ m) = true := by simpa using hm
    have hfin : Hid (dec ((l.length : Int) ≤ m ∧ ∀ x ∈ l, P x) = !dec (∃ x ∈ l, ¬ P x)) := by
      show _ = _
      by_cases h : ∀ x ∈ l, P x
      · rw [dec_true ⟨hm, h⟩, dec_false (fun ⟨x, hx, hn⟩ => hn (h x hx))]; rfl
      · rw [dec_false (fun h2 => h h2.2), dec_true (by simpa using h)]; rfl
    generalize dec (∃ x ∈ l, ¬ P x) = r at hcon hfin
    have HC := Lib.hid hcon
    have HB0 := Lib.hid hB0
    clear hcon hm hB0 hcc
    go_enter Tryz.func24, Tryz.ntmps24
    go_wp2_with (go_at_call 92; refine HC.out.mono ?_; rintro e w1 ⟨rfl, hb⟩)
    go_ret
    exact ⟨ret_bool hfin.out.symm, HB0.out.trans (hb.mono (by simp))⟩
  · have hm1 : decide ((l.length : Int) ≤ m) = false := by simpa using hm
    have hfin : Hid (dec ((l.length : Int) ≤ m ∧ ∀ x ∈ l, P x) = false) := dec_false (fun h => hm h.1)
    have HB0 := Lib.hid hB0
    clear hcon hm hB0 hcc
    go_enter Tryz.func24, Tryz.ntmps24
    go_wp2_with fail
    go_ret
    exact ⟨ret_bool hfin.out.symm, HB0.out⟩
set_option maxRecDepth 100000 in
set_option maxHeartbeats 1000000 in
theorem idxExit_calls (F : Nat → Prop) (w : World) (f : Nat) (caps : Array Value) (l : List (ExitD)) (v : Value) (P : (ExitD) → Prop) (hF : Inn F w) (hr : RdL Holds.exit 4 F w l v) (hcf : ∀ (args : Array Value) (w : World), (callFunc f args).run Tryz.prog w = .ok (.enter f args) w) (hf : ∀ x ∈ l, Asks1 Holds.exit aggA F w f caps x (dec (P x))) :
    Calls Tryz.prog 201 #[v, .func (.func f) #[] caps] w (GivesIdx w (∃ x ∈ l, P x)) := by
  obtain ⟨a, cap, rfl, hl, hc, ha⟩ := hr.opn
  unfold maxLen at hc
  clear hr
  go_enter Tryz.func201, Tryz.ntmps201
  go_wp2
  go_loopw [8] (fun i wr => ∃ (k : Nat), k ≤ l.length ∧ i = .int .i64 k ∧ Hid (∀ x ∈ l.take k, ¬ P x) ∧ Below w.heap.size w wr) (fun i _ => l.length - (intOf i).toNat)
  case atStart => exact ⟨0, Nat.zero_le _, rfl, by simp [Hid], Below.refl _ _⟩
  case round =>
    obtain ⟨k, hk, rfl, hq, hB⟩ := hrel
    by_cases hlt : k < l.length
    · obtain ⟨b, off, rfl, hFb, hel⟩ := ha (by omega)
      obtain ⟨cs, hx, -, hcell⟩ := hel wr (hB.block b (hF b hFb)) k hlt
      have hxm := hf _ (List.getElem_mem hlt)
      have hin := List.getElem_mem hlt
      have hte : l.take (k + 1) = l.take k ++ [l[k]] := List.take_succ_eq_append_getElem hlt
      generalize l[k] = x at hx hxm hin hte
      have hx2 := hx
      obtain ⟨-, -, -, va3, rfl, ka3⟩ := hx2
      obtain ⟨da3, fa3, rfl⟩ := ka3.shape
      have g0 := hcell 0 _ rfl
      have g1 := hcell 1 _ rfl
      have g2 := hcell 2 _ rfl
      have g3 := hcell 3 _ rfl
      simp only [Nat.add_zero] at g0
      have hcall : Calls Tryz.prog f (#[.agg #[.int .i64 x.dir, .string x.to, .string x.els, .slice da3 x.cond.length fa3]] ++ caps) wr (Gives wr (.bool (dec (P x)))) := hxm _ [.int .i64 x.dir, .string x.to, .string x.els, .slice da3 x.cond.length fa3] hB (Holds.below _ hx hF hB (Nat.le_refl _))
      have hki : (k : Int) < (l.length : Int) := by omega
      have hki0 : (0 : Int) ≤ (k : Int) := by omega
      clear ha hel hcell hx hf hxm
      by_cases hP : P x
      · rw [dec_true hP] at hcall
        have hfin : Hid ((0 : Int) ≤ (k : Int) ↔ ∃ x ∈ l, P x) := ⟨fun _ => ⟨x, hin, hP⟩, fun _ => hki0⟩
        have HC := Lib.hid hcall
        clear hcall hP hq hin hte
        go_wp2_with ((with_reducible refine HC.out.mono ?_); rintro e w' ⟨rfl, hb⟩)
        go_ret
        exact ⟨k, hfin.out, rfl, bt hB hb⟩
      · rw [dec_false hP] at hcall
        have hnx : Hid (∀ x ∈ l.take (k + 1), ¬ P x) := by
          show ∀ x ∈ l.take (k + 1), ¬ P x
          rw [hte]; intro y hy
          rcases List.mem_append.1 hy with h | h
          · exact hq.out y h
          · rw [List.mem_singleton.1 h]; exact hP
        have HC := Lib.hid hcall
        clear hcall hP hq hin hte
        go_wp2_with ((with_reducible refine HC.out.mono ?_); rintro e w' ⟨rfl, hb⟩)
        go_roundw
        case rel => exact ⟨k + 1, by omega, by go_num, hnx, bt hB hb⟩
        case measure => simp [intOf]; omega
    · have : k = l.length := by omega
      subst this
      have hfin : Hid ((0 : Int) ≤ -1 ↔ ∃ x ∈ l, P x) := ⟨fun h => absurd h (by decide), fun ⟨x, hx, hp⟩ => absurd hp (hq.out x (by rw [List.take_length]; exact hx))⟩
      clear hq hf ha
      go_wp2
      go_ret
      exact ⟨-1, hfin.out, rfl, hB⟩
set_option maxRecDepth 100000 in
set_option maxHeartbeats 1000000 in
theorem conExit_calls (F : Nat → Prop) (w : World) (f : Nat) (caps : Array Value) (l : List (ExitD)) (v : Value) (P : (ExitD) → Prop) (hF : Inn F w) (hr : RdL Holds.exit 4 F w l v) (hcf : ∀ (args : Array Value) (w : World), (callFunc f args).run Tryz.prog w = .ok (.enter f args) w) (hf : ∀ x ∈ l, Asks1 Holds.exit aggA F w f caps x (dec (P x))) :
    Calls Tryz.prog 163 #[v, .func (.func f) #[] caps] w (Gives w (.bool (dec (∃ x ∈ l, P x)))) := by
  have hc := idxExit_calls F w f caps l v P hF hr hcf hf
  have hyes : Hid ((∃ x ∈ l, P x) → dec (∃ x ∈ l, P x) = true) := fun h => dec_true h
  have hno : Hid (¬ (∃ x ∈ l, P x) → dec (∃ x ∈ l, P x) = false) := fun h => dec_false h
  obtain ⟨a, cap, rfl⟩ := hr.shape
  generalize dec (∃ x ∈ l, P x) = r at hyes hno
  have HC := Lib.hid hc
  clear hc hf hr hcf
  go_enter Tryz.func163, Tryz.ntmps163
  go_wp2_with (go_at_call 201; refine HC.out.mono ?_; rintro e w1 ⟨n, hn, rfl, hb⟩; have hn2 := Lib.hid hn; clear hn)
  go_ret
  refine ⟨ret_bool ?_, hb⟩
  by_cases h : ∃ x ∈ l, P x
  · rw [hyes.out h]; simpa using hn2.out.2 h
  · rw [hno.out h]; have := fun h1 => h (hn2.out.1 h1); simpa using this
set_option maxRecDepth 100000 in
set_option maxHeartbeats 1000000 in
theorem aclExit_calls (F : Nat → Prop) (w W : World) (f q : Nat) (caps : Array Value) (x : ExitD) (cs : List Value) (b : Bool) (hF : Inn F w) (hW : Below w.heap.size w W) (hcf : ∀ (args : Array Value) (w : World), (callFunc f args).run Tryz.prog w = .ok (.enter f args) w) (hq : W.cell? ⟨q, 0, none⟩ = some (.func (.func f) #[] caps)) (hx : Holds.exit.R F W x cs) (hf : Asks1 Holds.exit aggA F w f caps x b) :
    Calls Tryz.prog 164 (#[aggA cs] ++ #[.pointer (some ⟨q, 0, none⟩)]) W (Gives W (.bool (!b))) := by
  have hx2 := hx
  obtain ⟨-, -, -, va3, rfl, ka3⟩ := hx2
  obtain ⟨da3, fa3, rfl⟩ := ka3.shape
  have hcall : Calls Tryz.prog f (#[.agg #[.int .i64 x.dir, .string x.to, .string x.els, .slice da3 x.cond.length fa3]] ++ caps) (W.alloc (.cells #[.int .i64 x.dir, .string x.to, .string x.els, .slice da3 x.cond.length fa3] 114)) (Gives (W.alloc (.cells #[.int .i64 x.dir, .string x.to, .string x.els, .slice da3 x.cond.length fa3] 114)) (.bool b)) := hf _ [.int .i64 x.dir, .string x.to, .string x.els, .slice da3 x.cond.length fa3] (hW.alloc hW.size _) (Holds.below _ hx (hF.below hW) ((Below.refl _ W).alloc (Nat.le_refl _) _) (Nat.le_refl _))
  have hqa := cell_al hq (.cells #[.int .i64 x.dir, .string x.to, .string x.els, .slice da3 x.cond.length fa3] 114)
  show Calls Tryz.prog 164 #[.agg #[.int .i64 x.dir, .string x.to, .string x.els, .slice da3 x.cond.length fa3], .pointer (some ⟨q, 0, none⟩)] W _
  have HC := Lib.hid hcall
  clear hcall hx hf
  go_enter Tryz.func164, Tryz.ntmps164
  go_wp2_with ((with_reducible refine HC.out.mono ?_); rintro e w' ⟨rfl, hb⟩)
  go_ret
  exact ⟨rfl, ((Below.refl _ W).alloc (Nat.le_refl _) _).trans (hb.mono (by simp))⟩
set_option maxRecDepth 100000 in
set_option maxHeartbeats 1000000 in
theorem allExit_calls (F : Nat → Prop) (w : World) (f : Nat) (caps : Array Value) (l : List (ExitD)) (m : Int) (v : Value) (P : (ExitD) → Prop) (hF : Inn F w) (hr : RdL Holds.exit 4 F w l v) (hcf : ∀ (args : Array Value) (w : World), (callFunc f args).run Tryz.prog w = .ok (.enter f args) w) (hf : ∀ x ∈ l, Asks1 Holds.exit aggA F w f caps x (dec (P x))) :
    Calls Tryz.prog 99 #[v, .int .i64 m, .func (.func f) #[] caps] w (Gives w (.bool (dec ((l.length : Int) ≤ m ∧ ∀ x ∈ l, P x)))) := by
  have hB0 : Below w.heap.size w (w.alloc (.cells #[.func (.func f) #[] caps] 116)) := (Below.refl _ w).alloc (Nat.le_refl _) _
  have hmf : ∀ (fn : Fn) (first cap : Array Value) (w : World), (Instr.makeFunc fn first cap).run Tryz.prog w = .ok (.func fn first cap) w := fun _ _ _ _ => rfl
  have hcc : ∀ (args : Array Value) (w : World), (callFunc 164 args).run Tryz.prog w = .ok (.enter 164 args) w := fun _ _ => by kernel_rfl
  have hcon := conExit_calls F (w.alloc (.cells #[.func (.func f) #[] caps] 116)) 164 #[.pointer (some ⟨w.heap.size, 0, none⟩)] l v (fun x => ¬ P x) (hF.alloc _) (hr.alloc hF _) hcc (fun x hx => fun W cs hW hr => by
    have h2 := aclExit_calls F w W f w.heap.size caps x cs (dec (P x)) hF (hB0.trans (hW.mono (by simp))) hcf (by rw [hW.cell (by simp)]; simp) hr (hf x hx)
    rw [show dec (¬ P x) = !dec (P x) from by by_cases h : P x; rw [dec_true h, dec_false (by simpa using h)]; rfl; rw [dec_false h, dec_true h]; rfl]
    exact h2)
  obtain ⟨a, cap, rfl⟩ := hr.shape
  clear hf hr
  by_cases hm : (l.length : Int) ≤ m
  · have hm1 : decide ((l.length : Int) ≤ m) = true := by simpa using hm
    have hfin : Hid (dec ((l.length : Int) ≤ m ∧ ∀ x ∈ l, P x) = !dec (∃ x ∈ l, ¬ P x)) := by
      show _ = _
      by_cases h : ∀ x ∈ l, P x
      · rw [dec_true ⟨hm, h⟩, dec_false (fun ⟨x, hx, hn⟩ => hn (h x hx))]; rfl
      · rw [dec_false (fun h2 => h h2.2), dec_true (by simpa using h)]; rfl
    generalize dec (∃ x ∈ l, ¬ P x) = r at hcon hfin
    have HC := Lib.hid hcon
    have HB0 := Lib.hid hB0
    clear hcon hm hB0 hcc
    go_enter Tryz.func99, Tryz.ntmps99
    go_wp2_with (go_at_call 163; refine HC.out.mono ?_; rintro e w1 ⟨rfl, hb⟩)
    go_ret
    exact ⟨ret_bool hfin.out.symm, HB0.out.trans (hb.mono (by simp))⟩
  · have hm1 : decide ((l.length : Int) ≤ m) = false := by simpa using hm
    have hfin : Hid (dec ((l.length : Int) ≤ m ∧ ∀ x ∈ l, P x) = false) := dec_false (fun h => hm h.1)
    have HB0 := Lib.hid hB0
    clear hcon hm hB0 hcc
    go_enter Tryz.func99, Tryz.ntmps99
    go_wp2_with fail
    go_ret
    exact ⟨ret_bool hfin.out.symm, HB0.out⟩
set_option maxRecDepth 100000 in
set_option maxHeartbeats 1000000 in
theorem idxSlot_calls (F : Nat → Prop) (w : World) (f : Nat) (caps : Array Value) (l : List (SlotD)) (v : Value) (P : (SlotD) → Prop) (hF : Inn F w) (hr : RdL Holds.slot 2 F w l v) (hcf : ∀ (args : Array Value) (w : World), (callFunc f args).run Tryz.prog w = .ok (.enter f args) w) (hf : ∀ x ∈ l, Asks1 Holds.slot aggA F w f caps x (dec (P x))) :
    Calls Tryz.prog 202 #[v, .func (.func f) #[] caps] w (GivesIdx w (∃ x ∈ l, P x)) := by
  obtain ⟨a, cap, rfl, hl, hc, ha⟩ := hr.opn
  unfold maxLen at hc
  clear hr
  go_enter Tryz.func202, Tryz.ntmps202
  go_wp2
  go_loopw [8] (fun i wr => ∃ (k : Nat), k ≤ l.length ∧ i = .int .i64 k ∧ Hid (∀ x ∈ l.take k, ¬ P x) ∧ Below w.heap.size w wr) (fun i _ => l.length - (intOf i).toNat)
  case atStart => exact ⟨0, Nat.zero_le _, rfl, by simp [Hid], Below.refl _ _⟩
  case round =>
    obtain ⟨k, hk, rfl, hq, hB⟩ := hrel
    by_cases hlt : k < l.length
    · obtain ⟨b, off, rfl, hFb, hel⟩ := ha (by omega)
      obtain ⟨cs, hx, -, hcell⟩ := hel wr (hB.block b (hF b hFb)) k hlt
      have hxm := hf _ (List.getElem_mem hlt)
      have hin := List.getElem_mem hlt
      have hte : l.take (k + 1) = l.take k ++ [l[k]] := List.take_succ_eq_append_getElem hlt
      generalize l[k] = x at hx hxm hin hte
      have hx2 := hx
      obtain ⟨-, va1, rfl, ka1⟩ := hx2
      obtain ⟨da1, fa1, rfl⟩ := ka1.shape
      have g0 := hcell 0 _ rfl
      have g1 := hcell 1 _ rfl
      simp only [Nat.add_zero] at g0
      have hcall : Calls Tryz.prog f (#[.agg #[.int .i64 x.kind, .slice da1 x.words.length fa1]] ++ caps) wr (Gives wr (.bool (dec (P x)))) := hxm _ [.int .i64 x.kind, .slice da1 x.words.length fa1] hB (Holds.below _ hx hF hB (Nat.le_refl _))
      have hki : (k : Int) < (l.length : Int) := by omega
      have hki0 : (0 : Int) ≤ (k : Int) := by omega
      clear ha hel hcell hx hf hxm
      by_cases hP : P x
      · rw [dec_true hP] at hcall
        have hfin : Hid ((0 : Int) ≤ (k : Int) ↔ ∃ x ∈ l, P x) := ⟨fun _ => ⟨x, hin, hP⟩, fun _ => hki0⟩
        have HC := Lib.hid hcall
        clear hcall hP hq hin hte
        go_wp2_with ((with_reducible refine HC.out.mono ?_); rintro e w' ⟨rfl, hb⟩)
        go_ret
        exact ⟨k, hfin.out, rfl, bt hB hb⟩
      · rw [dec_false hP] at hcall
        have hnx : Hid (∀ x ∈ l.take (k + 1), ¬ P x) := by
          show ∀ x ∈ l.take (k + 1), ¬ P x
          rw [hte]; intro y hy
          rcases List.mem_append.1 hy with h | h
          · exact hq.out y h
          · rw [List.mem_singleton.1 h]; exact hP
        have HC := Lib.hid hcall
        clear hcall hP hq hin hte
        go_wp2_with ((with_reducible refine HC.out.mono ?_); rintro e w' ⟨rfl, hb⟩)
        go_roundw
        case rel => exact ⟨k + 1, by omega, by go_num, hnx, bt hB hb⟩
        case measure => simp [intOf]; omega
    · have : k = l.length := by omega
      subst this
      have hfin : Hid ((0 : Int) ≤ -1 ↔ ∃ x ∈ l, P x) := ⟨fun h => absurd h (by decide), fun ⟨x, hx, hp⟩ => absurd hp (hq.out x (by rw [List.take_length]; exact hx))⟩
      clear hq hf ha
      go_wp2
      go_ret
      exact ⟨-1, hfin.out, rfl, hB⟩
set_option maxRecDepth 100000 in
set_option maxHeartbeats 1000000 in
theorem conSlot_calls (F : Nat → Prop) (w : World) (f : Nat) (caps : Array Value) (l : List (SlotD)) (v : Value) (P : (SlotD) → Prop) (hF : Inn F w) (hr : RdL Holds.slot 2 F w l v) (hcf : ∀ (args : Array Value) (w : World), (callFunc f args).run Tryz.prog w = .ok (.enter f args) w) (hf : ∀ x ∈ l, Asks1 Holds.slot aggA F w f caps x (dec (P x))) :
    Calls Tryz.prog 166 #[v, .func (.func f) #[] caps] w (Gives w (.bool (dec (∃ x ∈ l, P x)))) := by
  have hc := idxSlot_calls F w f caps l v P hF hr hcf hf
  have hyes : Hid ((∃ x ∈ l, P x) → dec (∃ x ∈ l, P x) = true) := fun h => dec_true h
  have hno : Hid (¬ (∃ x ∈ l, P x) → dec (∃ x ∈ l, P x) = false) := fun h => dec_false h
  obtain ⟨a, cap, rfl⟩ := hr.shape
  generalize dec (∃ x ∈ l, P x) = r at hyes hno
  have HC := Lib.hid hc
  clear hc hf hr hcf
  go_enter Tryz.func166, Tryz.ntmps166
  go_wp2_with (go_at_call 202; refine HC.out.mono ?_; rintro e w1 ⟨n, hn, rfl, hb⟩; have hn2 := Lib.hid hn; clear hn)
  go_ret
  refine ⟨ret_bool ?_, hb⟩
  by_cases h : ∃ x ∈ l, P x
  · rw [hyes.out h]; simpa using hn2.out.2 h
  · rw [hno.out h]; have := fun h1 => h (hn2.out.1 h1); simpa using this
set_option maxRecDepth 100000 in
set_option maxHeartbeats 1000000 in
theorem aclSlot_calls (F : Nat → Prop) (w W : World) (f q : Nat) (caps : Array Value) (x : SlotD) (cs : List Value) (b : Bool) (hF : Inn F w) (hW : Below w.heap.size w W) (hcf : ∀ (args : Array Value) (w : World), (callFunc f args).run Tryz.prog w = .ok (.enter f args) w) (hq : W.cell? ⟨q, 0, none⟩ = some (.func (.func f) #[] caps)) (hx : Holds.slot.R F W x cs) (hf : Asks1 Holds.slot aggA F w f caps x b) :
    Calls Tryz.prog 167 (#[aggA cs] ++ #[.pointer (some ⟨q, 0, none⟩)]) W (Gives W (.bool (!b))) := by
  have hx2 := hx
  obtain ⟨-, va1, rfl, ka1⟩ := hx2
  obtain ⟨da1, fa1, rfl⟩ := ka1.shape
  have hcall : Calls Tryz.prog f (#[.agg #[.int .i64 x.kind, .slice da1 x.words.length fa1]] ++ caps) (W.alloc (.cells #[.int .i64 x.kind, .slice da1 x.words.length fa1] 120)) (Gives (W.alloc (.cells #[.int .i64 x.kind, .slice da1 x.words.length fa1] 120)) (.bool b)) := hf _ [.int .i64 x.kind, .slice da1 x.words.length fa1] (hW.alloc hW.size _) (Holds.below _ hx (hF.below hW) ((Below.refl _ W).alloc (Nat.le_refl _) _) (Nat.le_refl _))
  have hqa := cell_al hq (.cells #[.int .i64 x.kind, .slice da1 x.words.length fa1] 120)
  show Calls Tryz.prog 167 #[.agg #[.int .i64 x.kind, .slice da1 x.words.length fa1], .pointer (some ⟨q, 0, none⟩)] W _
  have HC := Lib.hid hcall
  clear hcall hx hf
  go_enter Tryz.func167, Tryz.ntmps167
  go_wp2_with ((with_reducible refine HC.out.mono ?_); rintro e w' ⟨rfl, hb⟩)
  go_ret
  exact ⟨rfl, ((Below.refl _ W).alloc (Nat.le_refl _) _).trans (hb.mono (by simp))⟩
set_option maxRecDepth 100000 in
set_option maxHeartbeats 1000000 in
theorem allSlot_calls (F : Nat → Prop) (w : World) (f : Nat) (caps : Array Value) (l : List (SlotD)) (m : Int) (v : Value) (P : (SlotD) → Prop) (hF : Inn F w) (hr : RdL Holds.slot 2 F w l v) (hcf : ∀ (args : Array Value) (w : World), (callFunc f args).run Tryz.prog w = .ok (.enter f args) w) (hf : ∀ x ∈ l, Asks1 Holds.slot aggA F w f caps x (dec (P x))) :
    Calls Tryz.prog 104 #[v, .int .i64 m, .func (.func f) #[] caps] w (Gives w (.bool (dec ((l.length : Int) ≤ m ∧ ∀ x ∈ l, P x)))) := by
  have hB0 : Below w.heap.size w (w.alloc (.cells #[.func (.func f) #[] caps] 121)) := (Below.refl _ w).alloc (Nat.le_refl _) _
  have hmf : ∀ (fn : Fn) (first cap : Array Value) (w : World), (Instr.makeFunc fn first cap).run Tryz.prog w = .ok (.func fn first cap) w := fun _ _ _ _ => rfl
  have hcc : ∀ (args : Array Value) (w : World), (callFunc 167 args).run Tryz.prog w = .ok (.enter 167 args) w := fun _ _ => by kernel_rfl
  have hcon := conSlot_calls F (w.alloc (.cells #[.func (.func f) #[] caps] 121)) 167 #[.pointer (some ⟨w.heap.size, 0, none⟩)] l v (fun x => ¬ P x) (hF.alloc _) (hr.alloc hF _) hcc (fun x hx => fun W cs hW hr => by
    have h2 := aclSlot_calls F w W f w.heap.size caps x cs (dec (P x)) hF (hB0.trans (hW.mono (by simp))) hcf (by rw [hW.cell (by simp)]; simp) hr (hf x hx)
    rw [show dec (¬ P x) = !dec (P x) from by by_cases h : P x; rw [dec_true h, dec_false (by simpa using h)]; rfl; rw [dec_false h, dec_true h]; rfl]
    exact h2)
  obtain ⟨a, cap, rfl⟩ := hr.shape
  clear hf hr
  by_cases hm : (l.length : Int) ≤ m
  · have hm1 : decide ((l.length : Int) ≤ m) = true := by simpa using hm
    have hfin : Hid (dec ((l.length : Int) ≤ m ∧ ∀ x ∈ l, P x) = !dec (∃ x ∈ l, ¬ P x)) := by
      show _ = _
      by_cases h : ∀ x ∈ l, P x
      · rw [dec_true ⟨hm, h⟩, dec_false (fun ⟨x, hx, hn⟩ => hn (h x hx))]; rfl
      · rw [dec_false (fun h2 => h h2.2), dec_true (by simpa using h)]; rfl
    generalize dec (∃ x ∈ l, ¬ P x) = r at hcon hfin
    have HC := Lib.hid hcon
    have HB0 := Lib.hid hB0
    clear hcon hm hB0 hcc
    go_enter Tryz.func104, Tryz.ntmps104
    go_wp2_with (go_at_call 166; refine HC.out.mono ?_; rintro e w1 ⟨rfl, hb⟩)
    go_ret
    exact ⟨ret_bool hfin.out.symm, HB0.out.trans (hb.mono (by simp))⟩
  · have hm1 : decide ((l.length : Int) ≤ m) = false := by simpa using hm
    have hfin : Hid (dec ((l.length : Int) ≤ m ∧ ∀ x ∈ l, P x) = false) := dec_false (fun h => hm h.1)
    have HB0 := Lib.hid hB0
    clear hcon hm hB0 hcc
    go_enter Tryz.func104, Tryz.ntmps104
    go_wp2_with fail
    go_ret
    exact ⟨ret_bool hfin.out.symm, HB0.out⟩
set_option maxRecDepth 100000 in
set_option maxHeartbeats 1000000 in
theorem idxLine_calls (F : Nat → Prop) (w : World) (f : Nat) (caps : Array Value) (l : List (List SlotD)) (v : Value) (P : (List SlotD) → Prop) (hF : Inn F w) (hr : RdL (Holds.sl Holds.slot 2) 1 F w l v) (hcf : ∀ (args : Array Value) (w : World), (callFunc f args).run Tryz.prog w = .ok (.enter f args) w) (hf : ∀ x ∈ l, Asks1 (Holds.sl Holds.slot 2) oneA F w f caps x (dec (P x))) :
    Calls Tryz.prog 203 #[v, .func (.func f) #[] caps] w (GivesIdx w (∃ x ∈ l, P x)) := by
  obtain ⟨a, cap, rfl, hl, hc, ha⟩ := hr.opn
  unfold maxLen at hc
  clear hr
  go_enter Tryz.func203, Tryz.ntmps203
  go_wp2
  go_loopw [8] (fun i wr => ∃ (k : Nat), k ≤ l.length ∧ i = .int .i64 k ∧ Hid (∀ x ∈ l.take k, ¬ P x) ∧ Below w.heap.size w wr) (fun i _ => l.length - (intOf i).toNat)
  case atStart => exact ⟨0, Nat.zero_le _, rfl, by simp [Hid], Below.refl _ _⟩
  case round =>
    obtain ⟨k, hk, rfl, hq, hB⟩ := hrel
    by_cases hlt : k < l.length
    · obtain ⟨b, off, rfl, hFb, hel⟩ := ha (by omega)
      obtain ⟨cs, hx, -, hcell⟩ := hel wr (hB.block b (hF b hFb)) k hlt
      have hxm := hf _ (List.getElem_mem hlt)
      have hin := List.getElem_mem hlt
      have hte : l.take (k + 1) = l.take k ++ [l[k]] := List.take_succ_eq_append_getElem hlt
      generalize l[k] = x at hx hxm hin hte
      have hx2 := hx
      obtain ⟨va0, rfl, ka0⟩ := hx2
      obtain ⟨da0, fa0, rfl⟩ := ka0.shape
      have g0 := hcell 0 _ rfl
      simp only [Nat.add_zero, Nat.mul_one] at g0
      have hcall : Calls Tryz.prog f (#[.slice da0 x.length fa0] ++ caps) wr (Gives wr (.bool (dec (P x)))) := hxm _ [.slice da0 x.length fa0] hB (Holds.below _ hx hF hB (Nat.le_refl _))
      have hki : (k : Int) < (l.length : Int) := by omega
      have hki0 : (0 : Int) ≤ (k : Int) := by omega
      clear ha hel hcell hx hf hxm
      by_cases hP : P x
      · rw [dec_true hP] at hcall
        have hfin : Hid ((0 : Int) ≤ (k : Int) ↔ ∃ x ∈ l, P x) := ⟨fun _ => ⟨x, hin, hP⟩, fun _ => hki0⟩
        have HC := Lib.hid hcall
        clear hcall hP hq hin hte
        go_wp2_with ((with_reducible refine HC.out.mono ?_); rintro e w' ⟨rfl, hb⟩)
        go_ret
        exact ⟨k, hfin.out, rfl, bt hB hb⟩
      · rw [dec_false hP] at hcall
        have hnx : Hid (∀ x ∈ l.take (k + 1), ¬ P x) := by
          show ∀ x ∈ l.take (k + 1), ¬ P x
          rw [hte]; intro y hy
          rcases List.mem_append.1 hy with h | h
          · exact hq.out y h
          · rw [List.mem_singleton.1 h]; exact hP
        have HC := Lib.hid hcall
        clear hcall hP hq hin hte
        go_wp2_with ((with_reducible refine HC.out.mono ?_); rintro e w' ⟨rfl, hb⟩)
        go_roundw
        case rel => exact ⟨k + 1, by omega, by go_num, hnx, bt hB hb⟩
        case measure => simp [intOf]; omega
    · have : k = l.length := by omega
      subst this
      have hfin : Hid ((0 : Int) ≤ -1 ↔ ∃ x ∈ l, P x) := ⟨fun h => absurd h (by decide), fun ⟨x, hx, hp⟩ => absurd hp (hq.out x (by rw [List.take_length]; exact hx))⟩
      clear hq hf ha
      go_wp2
      go_ret
      exact ⟨-1, hfin.out, rfl, hB⟩
set_option maxRecDepth 100000 in
set_option maxHeartbeats 1000000 in
theorem conLine_calls (F : Nat → Prop) (w : World) (f : Nat) (caps : Array Value) (l : List (List SlotD)) (v : Value) (P : (List SlotD) → Prop) (hF : Inn F w) (hr : RdL (Holds.sl Holds.slot 2) 1 F w l v) (hcf : ∀ (args : Array Value) (w : World), (callFunc f args).run Tryz.prog w = .ok (.enter f args) w) (hf : ∀ x ∈ l, Asks1 (Holds.sl Holds.slot 2) oneA F w f caps x (dec (P x))) :
    Calls Tryz.prog 168 #[v, .func (.func f) #[] caps] w (Gives w (.bool (dec (∃ x ∈ l, P x)))) := by
  have hc := idxLine_calls F w f caps l v P hF hr hcf hf
  have hyes : Hid ((∃ x ∈ l, P x) → dec (∃ x ∈ l, P x) = true) := fun h => dec_true h
  have hno : Hid (¬ (∃ x ∈ l, P x) → dec (∃ x ∈ l, P x) = false) := fun h => dec_false h
  obtain ⟨a, cap, rfl⟩ := hr.shape
  generalize dec (∃ x ∈ l, P x) = r at hyes hno
  have HC := Lib.hid hc
  clear hc hf hr hcf
  go_enter Tryz.func168, Tryz.ntmps168
  go_wp2_with (go_at_call 203; refine HC.out.mono ?_; rintro e w1 ⟨n, hn, rfl, hb⟩; have hn2 := Lib.hid hn; clear hn)
  go_ret
  refine ⟨ret_bool ?_, hb⟩
  by_cases h : ∃ x ∈ l, P x
  · rw [hyes.out h]; simpa using hn2.out.2 h
  · rw [hno.out h]; have := fun h1 => h (hn2.out.1 h1); simpa using this
set_option maxRecDepth 100000 in
set_option maxHeartbeats 1000000 in
theorem aclLine_calls (F : Nat → Prop) (w W : World) (f q : Nat) (caps : Array Value) (x : List SlotD) (cs : List Value) (b : Bool) (_hF : Inn F w) (hW : Below w.heap.size w W) (hcf : ∀ (args : Array Value) (w : World), (callFunc f args).run Tryz.prog w = .ok (.enter f args) w) (hq : W.cell? ⟨q, 0, none⟩ = some (.func (.func f) #[] caps)) (hx : (Holds.sl Holds.slot 2).R F W x cs) (hf : Asks1 (Holds.sl Holds.slot 2) oneA F w f caps x b) :
    Calls Tryz.prog 169 (#[oneA cs] ++ #[.pointer (some ⟨q, 0, none⟩)]) W (Gives W (.bool (!b))) := by
  have hx2 := hx
  obtain ⟨va0, rfl, ka0⟩ := hx2
  obtain ⟨da0, fa0, rfl⟩ := ka0.shape
  have hcall : Calls Tryz.prog f (#[.slice da0 x.length fa0] ++ caps) W (Gives W (.bool b)) := hf _ [.slice da0 x.length fa0] hW hx
  show Calls Tryz.prog 169 #[.slice da0 x.length fa0, .pointer (some ⟨q, 0, none⟩)] W _
  have HC := Lib.hid hcall
  clear hcall hx hf
  go_enter Tryz.func169, Tryz.ntmps169
  go_wp2_with ((with_reducible refine HC.out.mono ?_); rintro e w' ⟨rfl, hb⟩)
  go_ret
  exact ⟨rfl, hb⟩
set_option maxRecDepth 100000 in
set_option maxHeartbeats 1000000 in
theorem allLine_calls (F : Nat → Prop) (w : World) (f : Nat) (caps : Array Value) (l : List (List SlotD)) (m : Int) (v : Value) (P : (List SlotD) → Prop) (hF : Inn F w) (hr : RdL (Holds.sl Holds.slot 2) 1 F w l v) (hcf : ∀ (args : Array Value) (w : World), (callFunc f args).run Tryz.prog w = .ok (.enter f args) w) (hf : ∀ x ∈ l, Asks1 (Holds.sl Holds.slot 2) oneA F w f caps x (dec (P x))) :
    Calls Tryz.prog 105 #[v, .int .i64 m, .func (.func f) #[] caps] w (Gives w (.bool (dec ((l.length : Int) ≤ m ∧ ∀ x ∈ l, P x)))) := by
  have hB0 : Below w.heap.size w (w.alloc (.cells #[.func (.func f) #[] caps] 124)) := (Below.refl _ w).alloc (Nat.le_refl _) _
  have hmf : ∀ (fn : Fn) (first cap : Array Value) (w : World), (Instr.makeFunc fn first cap).run Tryz.prog w = .ok (.func fn first cap) w := fun _ _ _ _ => rfl
  have hcc : ∀ (args : Array Value) (w : World), (callFunc 169 args).run Tryz.prog w = .ok (.enter 169 args) w := fun _ _ => by kernel_rfl
  have hcon := conLine_calls F (w.alloc (.cells #[.func (.func f) #[] caps] 124)) 169 #[.pointer (some ⟨w.heap.size, 0, none⟩)] l v (fun x => ¬ P x) (hF.alloc _) (hr.alloc hF _) hcc (fun x hx => fun W cs hW hr => by
    have h2 := aclLine_calls F w W f w.heap.size caps x cs (dec (P x)) hF (hB0.trans (hW.mono (by simp))) hcf (by rw [hW.cell (by simp)]; simp) hr (hf x hx)
    rw [show dec (¬ P x) = !dec (P x) from by by_cases h : P x; rw [dec_true h, dec_false (by simpa using h)]; rfl; rw [dec_false h, dec_true h]; rfl]
    exact h2)
  obtain ⟨a, cap, rfl⟩ := hr.shape
  clear hf hr
  by_cases hm : (l.length : Int) ≤ m
  · have hm1 : decide ((l.length : Int) ≤ m) = true := by simpa using hm
    have hfin : Hid (dec ((l.length : Int) ≤ m ∧ ∀ x ∈ l, P x) = !dec (∃ x ∈ l, ¬ P x)) := by
      show _ = _
      by_cases h : ∀ x ∈ l, P x
      · rw [dec_true ⟨hm, h⟩, dec_false (fun ⟨x, hx, hn⟩ => hn (h x hx))]; rfl
      · rw [dec_false (fun h2 => h h2.2), dec_true (by simpa using h)]; rfl
    generalize dec (∃ x ∈ l, ¬ P x) = r at hcon hfin
    have HC := Lib.hid hcon
    have HB0 := Lib.hid hB0
    clear hcon hm hB0 hcc
    go_enter Tryz.func105, Tryz.ntmps105
    go_wp2_with (go_at_call 168; refine HC.out.mono ?_; rintro e w1 ⟨rfl, hb⟩)
    go_ret
    exact ⟨ret_bool hfin.out.symm, HB0.out.trans (hb.mono (by simp))⟩
  · have hm1 : decide ((l.length : Int) ≤ m) = false := by simpa using hm
    have hfin : Hid (dec ((l.length : Int) ≤ m ∧ ∀ x ∈ l, P x) = false) := dec_false (fun h => hm h.1)
    have HB0 := Lib.hid hB0
    clear hcon hm hB0 hcc
    go_enter Tryz.func105, Tryz.ntmps105
    go_wp2_with fail
    go_ret
    exact ⟨ret_bool hfin.out.symm, HB0.out⟩
set_option maxRecDepth 100000 in
set_option maxHeartbeats 1000000 in
theorem idxExpr_calls (F : Nat → Prop) (w : World) (f : Nat) (caps : Array Value) (l : List (Ex)) (v : Value) (P : (Ex) → Prop) (hF : Inn F w) (hr : RdL Holds.ex 5 F w l v) (hcf : ∀ (args : Array Value) (w : World), (callFunc f args).run Tryz.prog w = .ok (.enter f args) w) (hf : ∀ x ∈ l, Asks1 Holds.ex aggA F w f caps x (dec (P x))) :
    Calls Tryz.prog 228 #[v, .func (.func f) #[] caps] w (GivesIdx w (∃ x ∈ l, P x)) := by
  obtain ⟨a, cap, rfl, hl, hc, ha⟩ := hr.opn
  unfold maxLen at hc
  clear hr
  go_enter Tryz.func228, Tryz.ntmps228
  go_wp2
  go_loopw [8] (fun i wr => ∃ (k : Nat), k ≤ l.length ∧ i = .int .i64 k ∧ Hid (∀ x ∈ l.take k, ¬ P x) ∧ Below w.heap.size w wr) (fun i _ => l.length - (intOf i).toNat)
  case atStart => exact ⟨0, Nat.zero_le _, rfl, by simp [Hid], Below.refl _ _⟩
  case round =>
    obtain ⟨k, hk, rfl, hq, hB⟩ := hrel
    by_cases hlt : k < l.length
    · obtain ⟨b, off, rfl, hFb, hel⟩ := ha (by omega)
      obtain ⟨cs, hx, -, hcell⟩ := hel wr (hB.block b (hF b hFb)) k hlt
      have hxm := hf _ (List.getElem_mem hlt)
      have hin := List.getElem_mem hlt
      have hte : l.take (k + 1) = l.take k ++ [l[k]] := List.take_succ_eq_append_getElem hlt
      generalize l[k] = x at hx hxm hin hte
      have hx2 := hx
      obtain ⟨qa1, qa2, qa3, qa4, da9, fa9, rfl⟩ := ex_shape hx2
      have g0 := hcell 0 _ rfl
      have g1 := hcell 1 _ rfl
      have g2 := hcell 2 _ rfl
      have g3 := hcell 3 _ rfl
      have g4 := hcell 4 _ rfl
      simp only [Nat.add_zero] at g0
      have hcall : Calls Tryz.prog f (#[.agg #[.int .i64 qa1, .int .i64 qa2, .int .i64 qa3, .string qa4, .slice da9 x.args.length fa9]] ++ caps) wr (Gives wr (.bool (dec (P x)))) := hxm _ [.int .i64 qa1, .int .i64 qa2, .int .i64 qa3, .string qa4, .slice da9 x.args.length fa9] hB (Holds.below _ hx hF hB (Nat.le_refl _))
      have hki : (k : Int) < (l.length : Int) := by omega
      have hki0 : (0 : Int) ≤ (k : Int) := by omega
      clear ha hel hcell hx hf hxm
      by_cases hP : P x
      · rw [dec_true hP] at hcall
        have hfin : Hid ((0 : Int) ≤ (k : Int) ↔ ∃ x ∈ l, P x) := ⟨fun _ => ⟨x, hin, hP⟩, fun _ => hki0⟩
        have HC := Lib.hid hcall
        clear hcall hP hq hin hte
        go_wp2_with ((with_reducible refine HC.out.mono ?_); rintro e w' ⟨rfl, hb⟩)
        go_ret
        exact ⟨k, hfin.out, rfl, bt hB hb⟩
      · rw [dec_false hP] at hcall
        have hnx : Hid (∀ x ∈ l.take (k + 1), ¬ P x) := by
          show ∀ x ∈ l.take (k + 1), ¬ P x
          rw [hte]; intro y hy
          rcases List.mem_append.1 hy with h | h
          · exact hq.out y h
          · rw [List.mem_singleton.1 h]; exact hP
        have HC := Lib.hid hcall
        clear hcall hP hq hin hte
        go_wp2_with ((with_reducible refine HC.out.mono ?_); rintro e w' ⟨rfl, hb⟩)
        go_roundw
        case rel => exact ⟨k + 1, by omega, by go_num, hnx, bt hB hb⟩
        case measure => simp [intOf]; omega
    · have : k = l.length := by omega
      subst this
      have hfin : Hid ((0 : Int) ≤ -1 ↔ ∃ x ∈ l, P x) := ⟨fun h => absurd h (by decide), fun ⟨x, hx, hp⟩ => absurd hp (hq.out x (by rw [List.take_length]; exact hx))⟩
      clear hq hf ha
      go_wp2
      go_ret
      exact ⟨-1, hfin.out, rfl, hB⟩
set_option maxRecDepth 100000 in
set_option maxHeartbeats 1000000 in
theorem conExpr_calls (F : Nat → Prop) (w : World) (f : Nat) (caps : Array Value) (l : List (Ex)) (v : Value) (P : (Ex) → Prop) (hF : Inn F w) (hr : RdL Holds.ex 5 F w l v) (hcf : ∀ (args : Array Value) (w : World), (callFunc f args).run Tryz.prog w = .ok (.enter f args) w) (hf : ∀ x ∈ l, Asks1 Holds.ex aggA F w f caps x (dec (P x))) :
    Calls Tryz.prog 199 #[v, .func (.func f) #[] caps] w (Gives w (.bool (dec (∃ x ∈ l, P x)))) := by
  have hc := idxExpr_calls F w f caps l v P hF hr hcf hf
  have hyes : Hid ((∃ x ∈ l, P x) → dec (∃ x ∈ l, P x) = true) := fun h => dec_true h
  have hno : Hid (¬ (∃ x ∈ l, P x) → dec (∃ x ∈ l, P x) = false) := fun h => dec_false h
  obtain ⟨a, cap, rfl⟩ := hr.shape
  generalize dec (∃ x ∈ l, P x) = r at hyes hno
  have HC := Lib.hid hc
  clear hc hf hr hcf
  go_enter Tryz.func199, Tryz.ntmps199
  go_wp2_with (go_at_call 228; refine HC.out.mono ?_; rintro e w1 ⟨n, hn, rfl, hb⟩; have hn2 := Lib.hid hn; clear hn)
  go_ret
  refine ⟨ret_bool ?_, hb⟩
  by_cases h : ∃ x ∈ l, P x
  · rw [hyes.out h]; simpa using hn2.out.2 h
  · rw [hno.out h]; have := fun h1 => h (hn2.out.1 h1); simpa using this
set_option maxRecDepth 100000 in
set_option maxHeartbeats 1000000 in
theorem aclExpr_calls (F : Nat → Prop) (w W : World) (f q : Nat) (caps : Array Value) (x : Ex) (cs : List Value) (b : Bool) (hF : Inn F w) (hW : Below w.heap.size w W) (hcf : ∀ (args : Array Value) (w : World), (callFunc f args).run Tryz.prog w = .ok (.enter f args) w) (hq : W.cell? ⟨q, 0, none⟩ = some (.func (.func f) #[] caps)) (hx : Holds.ex.R F W x cs) (hf : Asks1 Holds.ex aggA F w f caps x b) :
    Calls Tryz.prog 200 (#[aggA cs] ++ #[.pointer (some ⟨q, 0, none⟩)]) W (Gives W (.bool (!b))) := by
  have hx2 := hx
  obtain ⟨qa1, qa2, qa3, qa4, da9, fa9, rfl⟩ := ex_shape hx2
  have hcall : Calls Tryz.prog f (#[.agg #[.int .i64 qa1, .int .i64 qa2, .int .i64 qa3, .string qa4, .slice da9 x.args.length fa9]] ++ caps) (W.alloc (.cells #[.int .i64 qa1, .int .i64 qa2, .int .i64 qa3, .string qa4, .slice da9 x.args.length fa9] 130)) (Gives (W.alloc (.cells #[.int .i64 qa1, .int .i64 qa2, .int .i64 qa3, .string qa4, .slice da9 x.args.length fa9] 130)) (.bool b)) := hf _ [.int .i64 qa1, .int .i64 qa2, .int .i64 qa3, .string qa4, .slice da9 x.args.length fa9] (hW.alloc hW.size _) (Holds.below _ hx (hF.below hW) ((Below.refl _ W).alloc (Nat.le_refl _) _) (Nat.le_refl _))
  have hqa := cell_al hq (.cells #[.int .i64 qa1, .int .i64 qa2, .int .i64 qa3, .string qa4, .slice da9 x.args.length fa9] 130)
  show Calls Tryz.prog 200 #[.agg #[.int .i64 qa1, .int .i64 qa2, .int .i64 qa3, .string qa4, .slice da9 x.args.length fa9], .pointer (some ⟨q, 0, none⟩)] W _
  have HC := Lib.hid hcall
  clear hcall hx hf
  go_enter Tryz.func200, Tryz.ntmps200
  go_wp2_with ((with_reducible refine HC.out.mono ?_); rintro e w' ⟨rfl, hb⟩)
  go_ret
  exact ⟨rfl, ((Below.refl _ W).alloc (Nat.le_refl _) _).trans (hb.mono (by simp))⟩
set_option maxRecDepth 100000 in
set_option maxHeartbeats 1000000 in
theorem allExpr_calls (F : Nat → Prop) (w : World) (f : Nat) (caps : Array Value) (l : List (Ex)) (m : Int) (v : Value) (P : (Ex) → Prop) (hF : Inn F w) (hr : RdL Holds.ex 5 F w l v) (hcf : ∀ (args : Array Value) (w : World), (callFunc f args).run Tryz.prog w = .ok (.enter f args) w) (hf : ∀ x ∈ l, Asks1 Holds.ex aggA F w f caps x (dec (P x))) :
    Calls Tryz.prog 159 #[v, .int .i64 m, .func (.func f) #[] caps] w (Gives w (.bool (dec ((l.length : Int) ≤ m ∧ ∀ x ∈ l, P x)))) := by
  have hB0 : Below w.heap.size w (w.alloc (.cells #[.func (.func f) #[] caps] 103)) := (Below.refl _ w).alloc (Nat.le_refl _) _
  have hmf : ∀ (fn : Fn) (first cap : Array Value) (w : World), (Instr.makeFunc fn first cap).run Tryz.prog w = .ok (.func fn first cap) w := fun _ _ _ _ => rfl
  have hcc : ∀ (args : Array Value) (w : World), (callFunc 200 args).run Tryz.prog w = .ok (.enter 200 args) w := fun _ _ => by kernel_rfl
  have hcon := conExpr_calls F (w.alloc (.cells #[.func (.func f) #[] caps] 103)) 200 #[.pointer (some ⟨w.heap.size, 0, none⟩)] l v (fun x => ¬ P x) (hF.alloc _) (hr.alloc hF _) hcc (fun x hx => fun W cs hW hr => by
    have h2 := aclExpr_calls F w W f w.heap.size caps x cs (dec (P x)) hF (hB0.trans (hW.mono (by simp))) hcf (by rw [hW.cell (by simp)]; simp) hr (hf x hx)
    rw [show dec (¬ P x) = !dec (P x) from by by_cases h : P x; rw [dec_true h, dec_false (by simpa using h)]; rfl; rw [dec_false h, dec_true h]; rfl]
    exact h2)
  obtain ⟨a, cap, rfl⟩ := hr.shape
  clear hf hr
  by_cases hm : (l.length : Int) ≤ m
  · have hm1 : decide ((l.length : Int) ≤ m) = true := by simpa using hm
    have hfin : Hid (dec ((l.length : Int) ≤ m ∧ ∀ x ∈ l, P x) = !dec (∃ x ∈ l, ¬ P x)) := by
      show _ = _
      by_cases h : ∀ x ∈ l, P x
      · rw [dec_true ⟨hm, h⟩, dec_false (fun ⟨x, hx, hn⟩ => hn (h x hx))]; rfl
      · rw [dec_false (fun h2 => h h2.2), dec_true (by simpa using h)]; rfl
    generalize dec (∃ x ∈ l, ¬ P x) = r at hcon hfin
    have HC := Lib.hid hcon
    have HB0 := Lib.hid hB0
    clear hcon hm hB0 hcc
    go_enter Tryz.func159, Tryz.ntmps159
    go_wp2_with (go_at_call 199; refine HC.out.mono ?_; rintro e w1 ⟨rfl, hb⟩)
    go_ret
    exact ⟨ret_bool hfin.out.symm, HB0.out.trans (hb.mono (by simp))⟩
  · have hm1 : decide ((l.length : Int) ≤ m) = false := by simpa using hm
    have hfin : Hid (dec ((l.length : Int) ≤ m ∧ ∀ x ∈ l, P x) = false) := dec_false (fun h => hm h.1)
    have HB0 := Lib.hid hB0
    clear hcon hm hB0 hcc
    go_enter Tryz.func159, Tryz.ntmps159
    go_wp2_with fail
    go_ret
    exact ⟨ret_bool hfin.out.symm, HB0.out⟩
set_option maxRecDepth 100000 in
set_option maxHeartbeats 1000000 in
theorem idxObject_calls (F : Nat → Prop) (w : World) (f : Nat) (caps : Array Value) (l : List (ObjD)) (v : Value) (P : (ObjD) → Prop) (hF : Inn F w) (hr : RdL Holds.obj 10 F w l v) (hcf : ∀ (args : Array Value) (w : World), (callFunc f args).run Tryz.prog w = .ok (.enter f args) w) (hf : ∀ x ∈ l, Asks1 Holds.obj aggA F w f caps x (dec (P x))) :
    Calls Tryz.prog 158 #[v, .func (.func f) #[] caps] w (GivesIdx w (∃ x ∈ l, P x)) := by
  obtain ⟨a, cap, rfl, hl, hc, ha⟩ := hr.opn
  unfold maxLen at hc
  clear hr
  go_enter Tryz.func158, Tryz.ntmps158
  go_wp2
  go_loopw [8] (fun i wr => ∃ (k : Nat), k ≤ l.length ∧ i = .int .i64 k ∧ Hid (∀ x ∈ l.take k, ¬ P x) ∧ Below w.heap.size w wr) (fun i _ => l.length - (intOf i).toNat)
  case atStart => exact ⟨0, Nat.zero_le _, rfl, by simp [Hid], Below.refl _ _⟩
  case round =>
    obtain ⟨k, hk, rfl, hq, hB⟩ := hrel
    by_cases hlt : k < l.length
    · obtain ⟨b, off, rfl, hFb, hel⟩ := ha (by omega)
      obtain ⟨cs, hx, -, hcell⟩ := hel wr (hB.block b (hF b hFb)) k hlt
      have hxm := hf _ (List.getElem_mem hlt)
      have hin := List.getElem_mem hlt
      have hte : l.take (k + 1) = l.take k ++ [l[k]] := List.take_succ_eq_append_getElem hlt
      generalize l[k] = x at hx hxm hin hte
      have hx2 := hx
      obtain ⟨-, -, -, -, va5, va6, va7, va8, va9, rfl, ka5, ka6, ka7, ka8, ka9⟩ := hx2
      obtain ⟨da5, fa5, rfl⟩ := ka5.shape
      obtain ⟨da6, fa6, rfl⟩ := ka6.shape
      obtain ⟨da7, fa7, rfl⟩ := ka7.shape
      obtain ⟨da8, fa8, rfl⟩ := ka8.shape
      obtain ⟨da9, fa9, rfl⟩ := ka9.shape
      have g0 := hcell 0 _ rfl
      have g1 := hcell 1 _ rfl
      have g2 := hcell 2 _ rfl
      have g3 := hcell 3 _ rfl
      have g4 := hcell 4 _ rfl
      have g5 := hcell 5 _ rfl
      have g6 := hcell 6 _ rfl
      have g7 := hcell 7 _ rfl
      have g8 := hcell 8 _ rfl
      have g9 := hcell 9 _ rfl
      simp only [Nat.add_zero] at g0
      have hcall : Calls Tryz.prog f (#[.agg #[.string x.name, .string x.title, .string x.inn, .string x.text, .bool x.room, .slice da5 x.words.length fa5, .slice da6 x.adjs.length fa6, .slice da7 x.flags.length fa7, .slice da8 x.props.length fa8, .slice da9 x.exits.length fa9]] ++ caps) wr (Gives wr (.bool (dec (P x)))) := hxm _ [.string x.name, .string x.title, .string x.inn, .string x.text, .bool x.room, .slice da5 x.words.length fa5, .slice da6 x.adjs.length fa6, .slice da7 x.flags.length fa7, .slice da8 x.props.length fa8, .slice da9 x.exits.length fa9] hB (Holds.below _ hx hF hB (Nat.le_refl _))
      have hki : (k : Int) < (l.length : Int) := by omega
      have hki0 : (0 : Int) ≤ (k : Int) := by omega
      clear ha hel hcell hx hf hxm
      by_cases hP : P x
      · rw [dec_true hP] at hcall
        have hfin : Hid ((0 : Int) ≤ (k : Int) ↔ ∃ x ∈ l, P x) := ⟨fun _ => ⟨x, hin, hP⟩, fun _ => hki0⟩
        have HC := Lib.hid hcall
        clear hcall hP hq hin hte
        go_wp2_with ((with_reducible refine HC.out.mono ?_); rintro e w' ⟨rfl, hb⟩)
        go_ret
        exact ⟨k, hfin.out, rfl, bt hB hb⟩
      · rw [dec_false hP] at hcall
        have hnx : Hid (∀ x ∈ l.take (k + 1), ¬ P x) := by
          show ∀ x ∈ l.take (k + 1), ¬ P x
          rw [hte]; intro y hy
          rcases List.mem_append.1 hy with h | h
          · exact hq.out y h
          · rw [List.mem_singleton.1 h]; exact hP
        have HC := Lib.hid hcall
        clear hcall hP hq hin hte
        go_wp2_with ((with_reducible refine HC.out.mono ?_); rintro e w' ⟨rfl, hb⟩)
        go_roundw
        case rel => exact ⟨k + 1, by omega, by go_num, hnx, bt hB hb⟩
        case measure => simp [intOf]; omega
    · have : k = l.length := by omega
      subst this
      have hfin : Hid ((0 : Int) ≤ -1 ↔ ∃ x ∈ l, P x) := ⟨fun h => absurd h (by decide), fun ⟨x, hx, hp⟩ => absurd hp (hq.out x (by rw [List.take_length]; exact hx))⟩
      clear hq hf ha
      go_wp2
      go_ret
      exact ⟨-1, hfin.out, rfl, hB⟩
set_option maxRecDepth 100000 in
set_option maxHeartbeats 1000000 in
theorem conObject_calls (F : Nat → Prop) (w : World) (f : Nat) (caps : Array Value) (l : List (ObjD)) (v : Value) (P : (ObjD) → Prop) (hF : Inn F w) (hr : RdL Holds.obj 10 F w l v) (hcf : ∀ (args : Array Value) (w : World), (callFunc f args).run Tryz.prog w = .ok (.enter f args) w) (hf : ∀ x ∈ l, Asks1 Holds.obj aggA F w f caps x (dec (P x))) :
    Calls Tryz.prog 94 #[v, .func (.func f) #[] caps] w (Gives w (.bool (dec (∃ x ∈ l, P x)))) := by
  have hc := idxObject_calls F w f caps l v P hF hr hcf hf
  have hyes : Hid ((∃ x ∈ l, P x) → dec (∃ x ∈ l, P x) = true) := fun h => dec_true h
  have hno : Hid (¬ (∃ x ∈ l, P x) → dec (∃ x ∈ l, P x) = false) := fun h => dec_false h
  obtain ⟨a, cap, rfl⟩ := hr.shape
  generalize dec (∃ x ∈ l, P x) = r at hyes hno
  have HC := Lib.hid hc
  clear hc hf hr hcf
  go_enter Tryz.func94, Tryz.ntmps94
  go_wp2_with (go_at_call 158; refine HC.out.mono ?_; rintro e w1 ⟨n, hn, rfl, hb⟩; have hn2 := Lib.hid hn; clear hn)
  go_ret
  refine ⟨ret_bool ?_, hb⟩
  by_cases h : ∃ x ∈ l, P x
  · rw [hyes.out h]; simpa using hn2.out.2 h
  · rw [hno.out h]; have := fun h1 => h (hn2.out.1 h1); simpa using this
set_option maxRecDepth 100000 in
set_option maxHeartbeats 1000000 in
theorem aclObject_calls (F : Nat → Prop) (w W : World) (f q : Nat) (caps : Array Value) (x : ObjD) (cs : List Value) (b : Bool) (hF : Inn F w) (hW : Below w.heap.size w W) (hcf : ∀ (args : Array Value) (w : World), (callFunc f args).run Tryz.prog w = .ok (.enter f args) w) (hq : W.cell? ⟨q, 0, none⟩ = some (.func (.func f) #[] caps)) (hx : Holds.obj.R F W x cs) (hf : Asks1 Holds.obj aggA F w f caps x b) :
    Calls Tryz.prog 95 (#[aggA cs] ++ #[.pointer (some ⟨q, 0, none⟩)]) W (Gives W (.bool (!b))) := by
  have hx2 := hx
  obtain ⟨-, -, -, -, va5, va6, va7, va8, va9, rfl, ka5, ka6, ka7, ka8, ka9⟩ := hx2
  obtain ⟨da5, fa5, rfl⟩ := ka5.shape
  obtain ⟨da6, fa6, rfl⟩ := ka6.shape
  obtain ⟨da7, fa7, rfl⟩ := ka7.shape
  obtain ⟨da8, fa8, rfl⟩ := ka8.shape
  obtain ⟨da9, fa9, rfl⟩ := ka9.shape
  have hcall : Calls Tryz.prog f (#[.agg #[.string x.name, .string x.title, .string x.inn, .string x.text, .bool x.room, .slice da5 x.words.length fa5, .slice da6 x.adjs.length fa6, .slice da7 x.flags.length fa7, .slice da8 x.props.length fa8, .slice da9 x.exits.length fa9]] ++ caps) (W.alloc (.cells #[.string x.name, .string x.title, .string x.inn, .string x.text, .bool x.room, .slice da5 x.words.length fa5, .slice da6 x.adjs.length fa6, .slice da7 x.flags.length fa7, .slice da8 x.props.length fa8, .slice da9 x.exits.length fa9] 55)) (Gives (W.alloc (.cells #[.string x.name, .string x.title, .string x.inn, .string x.text, .bool x.room, .slice da5 x.words.length fa5, .slice da6 x.adjs.length fa6, .slice da7 x.flags.length fa7, .slice da8 x.props.length fa8, .slice da9 x.exits.length fa9] 55)) (.bool b)) := hf _ [.string x.name, .string x.title, .string x.inn, .string x.text, .bool x.room, .slice da5 x.words.length fa5, .slice da6 x.adjs.length fa6, .slice da7 x.flags.length fa7, .slice da8 x.props.length fa8, .slice da9 x.exits.length fa9] (hW.alloc hW.size _) (Holds.below _ hx (hF.below hW) ((Below.refl _ W).alloc (Nat.le_refl _) _) (Nat.le_refl _))
  have hqa := cell_al hq (.cells #[.string x.name, .string x.title, .string x.inn, .string x.text, .bool x.room, .slice da5 x.words.length fa5, .slice da6 x.adjs.length fa6, .slice da7 x.flags.length fa7, .slice da8 x.props.length fa8, .slice da9 x.exits.length fa9] 55)
  show Calls Tryz.prog 95 #[.agg #[.string x.name, .string x.title, .string x.inn, .string x.text, .bool x.room, .slice da5 x.words.length fa5, .slice da6 x.adjs.length fa6, .slice da7 x.flags.length fa7, .slice da8 x.props.length fa8, .slice da9 x.exits.length fa9], .pointer (some ⟨q, 0, none⟩)] W _
  have HC := Lib.hid hcall
  clear hcall hx hf
  go_enter Tryz.func95, Tryz.ntmps95
  go_wp2_with ((with_reducible refine HC.out.mono ?_); rintro e w' ⟨rfl, hb⟩)
  go_ret
  exact ⟨rfl, ((Below.refl _ W).alloc (Nat.le_refl _) _).trans (hb.mono (by simp))⟩
set_option maxRecDepth 100000 in
set_option maxHeartbeats 1000000 in
theorem allObject_calls (F : Nat → Prop) (w : World) (f : Nat) (caps : Array Value) (l : List (ObjD)) (m : Int) (v : Value) (P : (ObjD) → Prop) (hF : Inn F w) (hr : RdL Holds.obj 10 F w l v) (hcf : ∀ (args : Array Value) (w : World), (callFunc f args).run Tryz.prog w = .ok (.enter f args) w) (hf : ∀ x ∈ l, Asks1 Holds.obj aggA F w f caps x (dec (P x))) :
    Calls Tryz.prog 26 #[v, .int .i64 m, .func (.func f) #[] caps] w (Gives w (.bool (dec ((l.length : Int) ≤ m ∧ ∀ x ∈ l, P x)))) := by
  have hB0 : Below w.heap.size w (w.alloc (.cells #[.func (.func f) #[] caps] 56)) := (Below.refl _ w).alloc (Nat.le_refl _) _
  have hmf : ∀ (fn : Fn) (first cap : Array Value) (w : World), (Instr.makeFunc fn first cap).run Tryz.prog w = .ok (.func fn first cap) w := fun _ _ _ _ => rfl
  have hcc : ∀ (args : Array Value) (w : World), (callFunc 95 args).run Tryz.prog w = .ok (.enter 95 args) w := fun _ _ => by kernel_rfl
  have hcon := conObject_calls F (w.alloc (.cells #[.func (.func f) #[] caps] 56)) 95 #[.pointer (some ⟨w.heap.size, 0, none⟩)] l v (fun x => ¬ P x) (hF.alloc _) (hr.alloc hF _) hcc (fun x hx => fun W cs hW hr => by
    have h2 := aclObject_calls F w W f w.heap.size caps x cs (dec (P x)) hF (hB0.trans (hW.mono (by simp))) hcf (by rw [hW.cell (by simp)]; simp) hr (hf x hx)
    rw [show dec (¬ P x) = !dec (P x) from by by_cases h : P x; rw [dec_true h, dec_false (by simpa using h)]; rfl; rw [dec_false h, dec_true h]; rfl]
    exact h2)
  obtain ⟨a, cap, rfl⟩ := hr.shape
  clear hf hr
  by_cases hm : (l.length : Int) ≤ m
  · have hm1 : decide ((l.length : Int) ≤ m) = true := by simpa using hm
    have hfin : Hid (dec ((l.length : Int) ≤ m ∧ ∀ x ∈ l, P x) = !dec (∃ x ∈ l, ¬ P x)) := by
      show _ = _
      by_cases h : ∀ x ∈ l, P x
      · rw [dec_true ⟨hm, h⟩, dec_false (fun ⟨x, hx, hn⟩ => hn (h x hx))]; rfl
      · rw [dec_false (fun h2 => h h2.2), dec_true (by simpa using h)]; rfl
    generalize dec (∃ x ∈ l, ¬ P x) = r at hcon hfin
    have HC := Lib.hid hcon
    have HB0 := Lib.hid hB0
    clear hcon hm hB0 hcc
    go_enter Tryz.func26, Tryz.ntmps26
    go_wp2_with (go_at_call 94; refine HC.out.mono ?_; rintro e w1 ⟨rfl, hb⟩)
    go_ret
    exact ⟨ret_bool hfin.out.symm, HB0.out.trans (hb.mono (by simp))⟩
  · have hm1 : decide ((l.length : Int) ≤ m) = false := by simpa using hm
    have hfin : Hid (dec ((l.length : Int) ≤ m ∧ ∀ x ∈ l, P x) = false) := dec_false (fun h => hm h.1)
    have HB0 := Lib.hid hB0
    clear hcon hm hB0 hcc
    go_enter Tryz.func26, Tryz.ntmps26
    go_wp2_with fail
    go_ret
    exact ⟨ret_bool hfin.out.symm, HB0.out⟩
set_option maxRecDepth 100000 in
set_option maxHeartbeats 1000000 in
theorem idxVerb_calls (F : Nat → Prop) (w : World) (f : Nat) (caps : Array Value) (l : List (VerbD)) (v : Value) (P : (VerbD) → Prop) (hF : Inn F w) (hr : RdL Holds.verb 3 F w l v) (hcf : ∀ (args : Array Value) (w : World), (callFunc f args).run Tryz.prog w = .ok (.enter f args) w) (hf : ∀ x ∈ l, Asks1 Holds.verb aggA F w f caps x (dec (P x))) :
    Calls Tryz.prog 165 #[v, .func (.func f) #[] caps] w (GivesIdx w (∃ x ∈ l, P x)) := by
  obtain ⟨a, cap, rfl, hl, hc, ha⟩ := hr.opn
  unfold maxLen at hc
  clear hr
  go_enter Tryz.func165, Tryz.ntmps165
  go_wp2
  go_loopw [8] (fun i wr => ∃ (k : Nat), k ≤ l.length ∧ i = .int .i64 k ∧ Hid (∀ x ∈ l.take k, ¬ P x) ∧ Below w.heap.size w wr) (fun i _ => l.length - (intOf i).toNat)
  case atStart => exact ⟨0, Nat.zero_le _, rfl, by simp [Hid], Below.refl _ _⟩
  case round =>
    obtain ⟨k, hk, rfl, hq, hB⟩ := hrel
    by_cases hlt : k < l.length
    · obtain ⟨b, off, rfl, hFb, hel⟩ := ha (by omega)
      obtain ⟨cs, hx, -, hcell⟩ := hel wr (hB.block b (hF b hFb)) k hlt
      have hxm := hf _ (List.getElem_mem hlt)
      have hin := List.getElem_mem hlt
      have hte : l.take (k + 1) = l.take k ++ [l[k]] := List.take_succ_eq_append_getElem hlt
      generalize l[k] = x at hx hxm hin hte
      have hx2 := hx
      obtain ⟨-, va2, rfl, ka2⟩ := hx2
      obtain ⟨da2, fa2, rfl⟩ := ka2.shape
      have g0 := hcell 0 _ rfl
      have g1 := hcell 1 _ rfl
      have g2 := hcell 2 _ rfl
      simp only [Nat.add_zero] at g0
      have hcall : Calls Tryz.prog f (#[.agg #[.string x.name, .bool x.isMeta, .slice da2 x.lines.length fa2]] ++ caps) wr (Gives wr (.bool (dec (P x)))) := hxm _ [.string x.name, .bool x.isMeta, .slice da2 x.lines.length fa2] hB (Holds.below _ hx hF hB (Nat.le_refl _))
      have hki : (k : Int) < (l.length : Int) := by omega
      have hki0 : (0 : Int) ≤ (k : Int) := by omega
      clear ha hel hcell hx hf hxm
      by_cases hP : P x
      · rw [dec_true hP] at hcall
        have hfin : Hid ((0 : Int) ≤ (k : Int) ↔ ∃ x ∈ l, P x) := ⟨fun _ => ⟨x, hin, hP⟩, fun _ => hki0⟩
        have HC := Lib.hid hcall
        clear hcall hP hq hin hte
        go_wp2_with ((with_reducible refine HC.out.mono ?_); rintro e w' ⟨rfl, hb⟩)
        go_ret
        exact ⟨k, hfin.out, rfl, bt hB hb⟩
      · rw [dec_false hP] at hcall
        have hnx : Hid (∀ x ∈ l.take (k + 1), ¬ P x) := by
          show ∀ x ∈ l.take (k + 1), ¬ P x
          rw [hte]; intro y hy
          rcases List.mem_append.1 hy with h | h
          · exact hq.out y h
          · rw [List.mem_singleton.1 h]; exact hP
        have HC := Lib.hid hcall
        clear hcall hP hq hin hte
        go_wp2_with ((with_reducible refine HC.out.mono ?_); rintro e w' ⟨rfl, hb⟩)
        go_roundw
        case rel => exact ⟨k + 1, by omega, by go_num, hnx, bt hB hb⟩
        case measure => simp [intOf]; omega
    · have : k = l.length := by omega
      subst this
      have hfin : Hid ((0 : Int) ≤ -1 ↔ ∃ x ∈ l, P x) := ⟨fun h => absurd h (by decide), fun ⟨x, hx, hp⟩ => absurd hp (hq.out x (by rw [List.take_length]; exact hx))⟩
      clear hq hf ha
      go_wp2
      go_ret
      exact ⟨-1, hfin.out, rfl, hB⟩
set_option maxRecDepth 100000 in
set_option maxHeartbeats 1000000 in
theorem conVerb_calls (F : Nat → Prop) (w : World) (f : Nat) (caps : Array Value) (l : List (VerbD)) (v : Value) (P : (VerbD) → Prop) (hF : Inn F w) (hr : RdL Holds.verb 3 F w l v) (hcf : ∀ (args : Array Value) (w : World), (callFunc f args).run Tryz.prog w = .ok (.enter f args) w) (hf : ∀ x ∈ l, Asks1 Holds.verb aggA F w f caps x (dec (P x))) :
    Calls Tryz.prog 100 #[v, .func (.func f) #[] caps] w (Gives w (.bool (dec (∃ x ∈ l, P x)))) := by
  have hc := idxVerb_calls F w f caps l v P hF hr hcf hf
  have hyes : Hid ((∃ x ∈ l, P x) → dec (∃ x ∈ l, P x) = true) := fun h => dec_true h
  have hno : Hid (¬ (∃ x ∈ l, P x) → dec (∃ x ∈ l, P x) = false) := fun h => dec_false h
  obtain ⟨a, cap, rfl⟩ := hr.shape
  generalize dec (∃ x ∈ l, P x) = r at hyes hno
  have HC := Lib.hid hc
  clear hc hf hr hcf
  go_enter Tryz.func100, Tryz.ntmps100
  go_wp2_with (go_at_call 165; refine HC.out.mono ?_; rintro e w1 ⟨n, hn, rfl, hb⟩; have hn2 := Lib.hid hn; clear hn)
  go_ret
  refine ⟨ret_bool ?_, hb⟩
  by_cases h : ∃ x ∈ l, P x
  · rw [hyes.out h]; simpa using hn2.out.2 h
  · rw [hno.out h]; have := fun h1 => h (hn2.out.1 h1); simpa using this
set_option maxRecDepth 100000 in
set_option maxHeartbeats 1000000 in
theorem aclVerb_calls (F : Nat → Prop) (w W : World) (f q : Nat) (caps : Array Value) (x : VerbD) (cs : List Value) (b : Bool) (hF : Inn F w) (hW : Below w.heap.size w W) (hcf : ∀ (args : Array Value) (w : World), (callFunc f args).run Tryz.prog w = .ok (.enter f args) w) (hq : W.cell? ⟨q, 0, none⟩ = some (.func (.func f) #[] caps)) (hx : Holds.verb.R F W x cs) (hf : Asks1 Holds.verb aggA F w f caps x b) :
    Calls Tryz.prog 101 (#[aggA cs] ++ #[.pointer (some ⟨q, 0, none⟩)]) W (Gives W (.bool (!b))) := by
  have hx2 := hx
  obtain ⟨-, va2, rfl, ka2⟩ := hx2
  obtain ⟨da2, fa2, rfl⟩ := ka2.shape
  have hcall : Calls Tryz.prog f (#[.agg #[.string x.name, .bool x.isMeta, .slice da2 x.lines.length fa2]] ++ caps) (W.alloc (.cells #[.string x.name, .bool x.isMeta, .slice da2 x.lines.length fa2] 60)) (Gives (W.alloc (.cells #[.string x.name, .bool x.isMeta, .slice da2 x.lines.length fa2] 60)) (.bool b)) := hf _ [.string x.name, .bool x.isMeta, .slice da2 x.lines.length fa2] (hW.alloc hW.size _) (Holds.below _ hx (hF.below hW) ((Below.refl _ W).alloc (Nat.le_refl _) _) (Nat.le_refl _))
  have hqa := cell_al hq (.cells #[.string x.name, .bool x.isMeta, .slice da2 x.lines.length fa2] 60)
  show Calls Tryz.prog 101 #[.agg #[.string x.name, .bool x.isMeta, .slice da2 x.lines.length fa2], .pointer (some ⟨q, 0, none⟩)] W _
  have HC := Lib.hid hcall
  clear hcall hx hf
  go_enter Tryz.func101, Tryz.ntmps101
  go_wp2_with ((with_reducible refine HC.out.mono ?_); rintro e w' ⟨rfl, hb⟩)
  go_ret
  exact ⟨rfl, ((Below.refl _ W).alloc (Nat.le_refl _) _).trans (hb.mono (by simp))⟩
set_option maxRecDepth 100000 in
set_option maxHeartbeats 1000000 in
theorem allVerb_calls (F : Nat → Prop) (w : World) (f : Nat) (caps : Array Value) (l : List (VerbD)) (m : Int) (v : Value) (P : (VerbD) → Prop) (hF : Inn F w) (hr : RdL Holds.verb 3 F w l v) (hcf : ∀ (args : Array Value) (w : World), (callFunc f args).run Tryz.prog w = .ok (.enter f args) w) (hf : ∀ x ∈ l, Asks1 Holds.verb aggA F w f caps x (dec (P x))) :
    Calls Tryz.prog 28 #[v, .int .i64 m, .func (.func f) #[] caps] w (Gives w (.bool (dec ((l.length : Int) ≤ m ∧ ∀ x ∈ l, P x)))) := by
  have hB0 : Below w.heap.size w (w.alloc (.cells #[.func (.func f) #[] caps] 61)) := (Below.refl _ w).alloc (Nat.le_refl _) _
  have hmf : ∀ (fn : Fn) (first cap : Array Value) (w : World), (Instr.makeFunc fn first cap).run Tryz.prog w = .ok (.func fn first cap) w := fun _ _ _ _ => rfl
  have hcc : ∀ (args : Array Value) (w : World), (callFunc 101 args).run Tryz.prog w = .ok (.enter 101 args) w := fun _ _ => by kernel_rfl
  have hcon := conVerb_calls F (w.alloc (.cells #[.func (.func f) #[] caps] 61)) 101 #[.pointer (some ⟨w.heap.size, 0, none⟩)] l v (fun x => ¬ P x) (hF.alloc _) (hr.alloc hF _) hcc (fun x hx => fun W cs hW hr => by
    have h2 := aclVerb_calls F w W f w.heap.size caps x cs (dec (P x)) hF (hB0.trans (hW.mono (by simp))) hcf (by rw [hW.cell (by simp)]; simp) hr (hf x hx)
    rw [show dec (¬ P x) = !dec (P x) from by by_cases h : P x; rw [dec_true h, dec_false (by simpa using h)]; rfl; rw [dec_false h, dec_true h]; rfl]
    exact h2)
  obtain ⟨a, cap, rfl⟩ := hr.shape
  clear hf hr
  by_cases hm : (l.length : Int) ≤ m
  · have hm1 : decide ((l.length : Int) ≤ m) = true := by simpa using hm
    have hfin : Hid (dec ((l.length : Int) ≤ m ∧ ∀ x ∈ l, P x) = !dec (∃ x ∈ l, ¬ P x)) := by
      show _ = _
      by_cases h : ∀ x ∈ l, P x
      · rw [dec_true ⟨hm, h⟩, dec_false (fun ⟨x, hx, hn⟩ => hn (h x hx))]; rfl
      · rw [dec_false (fun h2 => h h2.2), dec_true (by simpa using h)]; rfl
    generalize dec (∃ x ∈ l, ¬ P x) = r at hcon hfin
    have HC := Lib.hid hcon
    have HB0 := Lib.hid hB0
    clear hcon hm hB0 hcc
    go_enter Tryz.func28, Tryz.ntmps28
    go_wp2_with (go_at_call 100; refine HC.out.mono ?_; rintro e w1 ⟨rfl, hb⟩)
    go_ret
    exact ⟨ret_bool hfin.out.symm, HB0.out.trans (hb.mono (by simp))⟩
  · have hm1 : decide ((l.length : Int) ≤ m) = false := by simpa using hm
    have hfin : Hid (dec ((l.length : Int) ≤ m ∧ ∀ x ∈ l, P x) = false) := dec_false (fun h => hm h.1)
    have HB0 := Lib.hid hB0
    clear hcon hm hB0 hcc
    go_enter Tryz.func28, Tryz.ntmps28
    go_wp2_with fail
    go_ret
    exact ⟨ret_bool hfin.out.symm, HB0.out⟩
set_option maxRecDepth 100000 in
set_option maxHeartbeats 1000000 in
theorem idxRule_calls (F : Nat → Prop) (w : World) (f : Nat) (caps : Array Value) (l : List (RuleD)) (v : Value) (P : (RuleD) → Prop) (hF : Inn F w) (hr : RdL Holds.rule 6 F w l v) (hcf : ∀ (args : Array Value) (w : World), (callFunc f args).run Tryz.prog w = .ok (.enter f args) w) (hf : ∀ x ∈ l, Asks1 Holds.rule aggA F w f caps x (dec (P x))) :
    Calls Tryz.prog 170 #[v, .func (.func f) #[] caps] w (GivesIdx w (∃ x ∈ l, P x)) := by
  obtain ⟨a, cap, rfl, hl, hc, ha⟩ := hr.opn
  unfold maxLen at hc
  clear hr
  go_enter Tryz.func170, Tryz.ntmps170
  go_wp2
  go_loopw [8] (fun i wr => ∃ (k : Nat), k ≤ l.length ∧ i = .int .i64 k ∧ Hid (∀ x ∈ l.take k, ¬ P x) ∧ Below w.heap.size w wr) (fun i _ => l.length - (intOf i).toNat)
  case atStart => exact ⟨0, Nat.zero_le _, rfl, by simp [Hid], Below.refl _ _⟩
  case round =>
    obtain ⟨k, hk, rfl, hq, hB⟩ := hrel
    by_cases hlt : k < l.length
    · obtain ⟨b, off, rfl, hFb, hel⟩ := ha (by omega)
      obtain ⟨cs, hx, -, hcell⟩ := hel wr (hB.block b (hF b hFb)) k hlt
      have hxm := hf _ (List.getElem_mem hlt)
      have hin := List.getElem_mem hlt
      have hte : l.take (k + 1) = l.take k ++ [l[k]] := List.take_succ_eq_append_getElem hlt
      generalize l[k] = x at hx hxm hin hte
      have hx2 := hx
      obtain ⟨-, -, -, -, va4, va5, rfl, ka4, ka5⟩ := hx2
      obtain ⟨da4, fa4, rfl⟩ := ka4.shape
      obtain ⟨da5, fa5, rfl⟩ := ka5.shape
      have g0 := hcell 0 _ rfl
      have g1 := hcell 1 _ rfl
      have g2 := hcell 2 _ rfl
      have g3 := hcell 3 _ rfl
      have g4 := hcell 4 _ rfl
      have g5 := hcell 5 _ rfl
      simp only [Nat.add_zero] at g0
      have hcall : Calls Tryz.prog f (#[.agg #[.string x.verb, .int .i64 x.phase, .string x.noun, .string x.second, .slice da4 x.cond.length fa4, .slice da5 x.body.length fa5]] ++ caps) wr (Gives wr (.bool (dec (P x)))) := hxm _ [.string x.verb, .int .i64 x.phase, .string x.noun, .string x.second, .slice da4 x.cond.length fa4, .slice da5 x.body.length fa5] hB (Holds.below _ hx hF hB (Nat.le_refl _))
      have hki : (k : Int) < (l.length : Int) := by omega
      have hki0 : (0 : Int) ≤ (k : Int) := by omega
      clear ha hel hcell hx hf hxm
      by_cases hP : P x
      · rw [dec_true hP] at hcall
        have hfin : Hid ((0 : Int) ≤ (k : Int) ↔ ∃ x ∈ l, P x) := ⟨fun _ => ⟨x, hin, hP⟩, fun _ => hki0⟩
        have HC := Lib.hid hcall
        clear hcall hP hq hin hte
        go_wp2_with ((with_reducible refine HC.out.mono ?_); rintro e w' ⟨rfl, hb⟩)
        go_ret
        exact ⟨k, hfin.out, rfl, bt hB hb⟩
      · rw [dec_false hP] at hcall
        have hnx : Hid (∀ x ∈ l.take (k + 1), ¬ P x) := by
          show ∀ x ∈ l.take (k + 1), ¬ P x
          rw [hte]; intro y hy
          rcases List.mem_append.1 hy with h | h
          · exact hq.out y h
          · rw [List.mem_singleton.1 h]; exact hP
        have HC := Lib.hid hcall
        clear hcall hP hq hin hte
        go_wp2_with ((with_reducible refine HC.out.mono ?_); rintro e w' ⟨rfl, hb⟩)
        go_roundw
        case rel => exact ⟨k + 1, by omega, by go_num, hnx, bt hB hb⟩
        case measure => simp [intOf]; omega
    · have : k = l.length := by omega
      subst this
      have hfin : Hid ((0 : Int) ≤ -1 ↔ ∃ x ∈ l, P x) := ⟨fun h => absurd h (by decide), fun ⟨x, hx, hp⟩ => absurd hp (hq.out x (by rw [List.take_length]; exact hx))⟩
      clear hq hf ha
      go_wp2
      go_ret
      exact ⟨-1, hfin.out, rfl, hB⟩
set_option maxRecDepth 100000 in
set_option maxHeartbeats 1000000 in
theorem conRule_calls (F : Nat → Prop) (w : World) (f : Nat) (caps : Array Value) (l : List (RuleD)) (v : Value) (P : (RuleD) → Prop) (hF : Inn F w) (hr : RdL Holds.rule 6 F w l v) (hcf : ∀ (args : Array Value) (w : World), (callFunc f args).run Tryz.prog w = .ok (.enter f args) w) (hf : ∀ x ∈ l, Asks1 Holds.rule aggA F w f caps x (dec (P x))) :
    Calls Tryz.prog 106 #[v, .func (.func f) #[] caps] w (Gives w (.bool (dec (∃ x ∈ l, P x)))) := by
  have hc := idxRule_calls F w f caps l v P hF hr hcf hf
  have hyes : Hid ((∃ x ∈ l, P x) → dec (∃ x ∈ l, P x) = true) := fun h => dec_true h
  have hno : Hid (¬ (∃ x ∈ l, P x) → dec (∃ x ∈ l, P x) = false) := fun h => dec_false h
  obtain ⟨a, cap, rfl⟩ := hr.shape
  generalize dec (∃ x ∈ l, P x) = r at hyes hno
  have HC := Lib.hid hc
  clear hc hf hr hcf
  go_enter Tryz.func106, Tryz.ntmps106
  go_wp2_with (go_at_call 170; refine HC.out.mono ?_; rintro e w1 ⟨n, hn, rfl, hb⟩; have hn2 := Lib.hid hn; clear hn)
  go_ret
  refine ⟨ret_bool ?_, hb⟩
  by_cases h : ∃ x ∈ l, P x
  · rw [hyes.out h]; simpa using hn2.out.2 h
  · rw [hno.out h]; have := fun h1 => h (hn2.out.1 h1); simpa using this
set_option maxRecDepth 100000 in
set_option maxHeartbeats 1000000 in
theorem aclRule_calls (F : Nat → Prop) (w W : World) (f q : Nat) (caps : Array Value) (x : RuleD) (cs : List Value) (b : Bool) (hF : Inn F w) (hW : Below w.heap.size w W) (hcf : ∀ (args : Array Value) (w : World), (callFunc f args).run Tryz.prog w = .ok (.enter f args) w) (hq : W.cell? ⟨q, 0, none⟩ = some (.func (.func f) #[] caps)) (hx : Holds.rule.R F W x cs) (hf : Asks1 Holds.rule aggA F w f caps x b) :
    Calls Tryz.prog 107 (#[aggA cs] ++ #[.pointer (some ⟨q, 0, none⟩)]) W (Gives W (.bool (!b))) := by
  have hx2 := hx
  obtain ⟨-, -, -, -, va4, va5, rfl, ka4, ka5⟩ := hx2
  obtain ⟨da4, fa4, rfl⟩ := ka4.shape
  obtain ⟨da5, fa5, rfl⟩ := ka5.shape
  have hcall : Calls Tryz.prog f (#[.agg #[.string x.verb, .int .i64 x.phase, .string x.noun, .string x.second, .slice da4 x.cond.length fa4, .slice da5 x.body.length fa5]] ++ caps) (W.alloc (.cells #[.string x.verb, .int .i64 x.phase, .string x.noun, .string x.second, .slice da4 x.cond.length fa4, .slice da5 x.body.length fa5] 42)) (Gives (W.alloc (.cells #[.string x.verb, .int .i64 x.phase, .string x.noun, .string x.second, .slice da4 x.cond.length fa4, .slice da5 x.body.length fa5] 42)) (.bool b)) := hf _ [.string x.verb, .int .i64 x.phase, .string x.noun, .string x.second, .slice da4 x.cond.length fa4, .slice da5 x.body.length fa5] (hW.alloc hW.size _) (Holds.below _ hx (hF.below hW) ((Below.refl _ W).alloc (Nat.le_refl _) _) (Nat.le_refl _))
  have hqa := cell_al hq (.cells #[.string x.verb, .int .i64 x.phase, .string x.noun, .string x.second, .slice da4 x.cond.length fa4, .slice da5 x.body.length fa5] 42)
  show Calls Tryz.prog 107 #[.agg #[.string x.verb, .int .i64 x.phase, .string x.noun, .string x.second, .slice da4 x.cond.length fa4, .slice da5 x.body.length fa5], .pointer (some ⟨q, 0, none⟩)] W _
  have HC := Lib.hid hcall
  clear hcall hx hf
  go_enter Tryz.func107, Tryz.ntmps107
  go_wp2_with ((with_reducible refine HC.out.mono ?_); rintro e w' ⟨rfl, hb⟩)
  go_ret
  exact ⟨rfl, ((Below.refl _ W).alloc (Nat.le_refl _) _).trans (hb.mono (by simp))⟩
set_option maxRecDepth 100000 in
set_option maxHeartbeats 1000000 in
theorem allRule_calls (F : Nat → Prop) (w : World) (f : Nat) (caps : Array Value) (l : List (RuleD)) (m : Int) (v : Value) (P : (RuleD) → Prop) (hF : Inn F w) (hr : RdL Holds.rule 6 F w l v) (hcf : ∀ (args : Array Value) (w : World), (callFunc f args).run Tryz.prog w = .ok (.enter f args) w) (hf : ∀ x ∈ l, Asks1 Holds.rule aggA F w f caps x (dec (P x))) :
    Calls Tryz.prog 30 #[v, .int .i64 m, .func (.func f) #[] caps] w (Gives w (.bool (dec ((l.length : Int) ≤ m ∧ ∀ x ∈ l, P x)))) := by
  have hB0 : Below w.heap.size w (w.alloc (.cells #[.func (.func f) #[] caps] 63)) := (Below.refl _ w).alloc (Nat.le_refl _) _
  have hmf : ∀ (fn : Fn) (first cap : Array Value) (w : World), (Instr.makeFunc fn first cap).run Tryz.prog w = .ok (.func fn first cap) w := fun _ _ _ _ => rfl
  have hcc : ∀ (args : Array Value) (w : World), (callFunc 107 args).run Tryz.prog w = .ok (.enter 107 args) w := fun _ _ => by kernel_rfl
  have hcon := conRule_calls F (w.alloc (.cells #[.func (.func f) #[] caps] 63)) 107 #[.pointer (some ⟨w.heap.size, 0, none⟩)] l v (fun x => ¬ P x) (hF.alloc _) (hr.alloc hF _) hcc (fun x hx => fun W cs hW hr => by
    have h2 := aclRule_calls F w W f w.heap.size caps x cs (dec (P x)) hF (hB0.trans (hW.mono (by simp))) hcf (by rw [hW.cell (by simp)]; simp) hr (hf x hx)
    rw [show dec (¬ P x) = !dec (P x) from by by_cases h : P x; rw [dec_true h, dec_false (by simpa using h)]; rfl; rw [dec_false h, dec_true h]; rfl]
    exact h2)
  obtain ⟨a, cap, rfl⟩ := hr.shape
  clear hf hr
  by_cases hm : (l.length : Int) ≤ m
  · have hm1 : decide ((l.length : Int) ≤ m) = true := by simpa using hm
    have hfin : Hid (dec ((l.length : Int) ≤ m ∧ ∀ x ∈ l, P x) = !dec (∃ x ∈ l, ¬ P x)) := by
      show _ = _
      by_cases h : ∀ x ∈ l, P x
      · rw [dec_true ⟨hm, h⟩, dec_false (fun ⟨x, hx, hn⟩ => hn (h x hx))]; rfl
      · rw [dec_false (fun h2 => h h2.2), dec_true (by simpa using h)]; rfl
    generalize dec (∃ x ∈ l, ¬ P x) = r at hcon hfin
    have HC := Lib.hid hcon
    have HB0 := Lib.hid hB0
    clear hcon hm hB0 hcc
    go_enter Tryz.func30, Tryz.ntmps30
    go_wp2_with (go_at_call 106; refine HC.out.mono ?_; rintro e w1 ⟨rfl, hb⟩)
    go_ret
    exact ⟨ret_bool hfin.out.symm, HB0.out.trans (hb.mono (by simp))⟩
  · have hm1 : decide ((l.length : Int) ≤ m) = false := by simpa using hm
    have hfin : Hid (dec ((l.length : Int) ≤ m ∧ ∀ x ∈ l, P x) = false) := dec_false (fun h => hm h.1)
    have HB0 := Lib.hid hB0
    clear hcon hm hB0 hcc
    go_enter Tryz.func30, Tryz.ntmps30
    go_wp2_with fail
    go_ret
    exact ⟨ret_bool hfin.out.symm, HB0.out⟩
set_option maxRecDepth 100000 in
set_option maxHeartbeats 1000000 in
theorem idxFunc_calls (F : Nat → Prop) (w : World) (f : Nat) (caps : Array Value) (l : List (FuncD)) (v : Value) (P : (FuncD) → Prop) (hF : Inn F w) (hr : RdL Holds.fnc 3 F w l v) (hcf : ∀ (args : Array Value) (w : World), (callFunc f args).run Tryz.prog w = .ok (.enter f args) w) (hf : ∀ x ∈ l, Asks1 Holds.fnc aggA F w f caps x (dec (P x))) :
    Calls Tryz.prog 171 #[v, .func (.func f) #[] caps] w (GivesIdx w (∃ x ∈ l, P x)) := by
  obtain ⟨a, cap, rfl, hl, hc, ha⟩ := hr.opn
  unfold maxLen at hc
  clear hr
  go_enter Tryz.func171, Tryz.ntmps171
  go_wp2
  go_loopw [8] (fun i wr => ∃ (k : Nat), k ≤ l.length ∧ i = .int .i64 k ∧ Hid (∀ x ∈ l.take k, ¬ P x) ∧ Below w.heap.size w wr) (fun i _ => l.length - (intOf i).toNat)
  case atStart => exact ⟨0, Nat.zero_le _, rfl, by simp [Hid], Below.refl _ _⟩
  case round =>
    obtain ⟨k, hk, rfl, hq, hB⟩ := hrel
    by_cases hlt : k < l.length
    · obtain ⟨b, off, rfl, hFb, hel⟩ := ha (by omega)
      obtain ⟨cs, hx, -, hcell⟩ := hel wr (hB.block b (hF b hFb)) k hlt
      have hxm := hf _ (List.getElem_mem hlt)
      have hin := List.getElem_mem hlt
      have hte : l.take (k + 1) = l.take k ++ [l[k]] := List.take_succ_eq_append_getElem hlt
      generalize l[k] = x at hx hxm hin hte
      have hx2 := hx
      obtain ⟨-, va1, va2, rfl, ka1, ka2⟩ := hx2
      obtain ⟨da1, fa1, rfl⟩ := ka1.shape
      obtain ⟨da2, fa2, rfl⟩ := ka2.shape
      have g0 := hcell 0 _ rfl
      have g1 := hcell 1 _ rfl
      have g2 := hcell 2 _ rfl
      simp only [Nat.add_zero] at g0
      have hcall : Calls Tryz.prog f (#[.agg #[.string x.name, .slice da1 x.params.length fa1, .slice da2 x.body.length fa2]] ++ caps) wr (Gives wr (.bool (dec (P x)))) := hxm _ [.string x.name, .slice da1 x.params.length fa1, .slice da2 x.body.length fa2] hB (Holds.below _ hx hF hB (Nat.le_refl _))
      have hki : (k : Int) < (l.length : Int) := by omega
      have hki0 : (0 : Int) ≤ (k : Int) := by omega
      clear ha hel hcell hx hf hxm
      by_cases hP : P x
      · rw [dec_true hP] at hcall
        have hfin : Hid ((0 : Int) ≤ (k : Int) ↔ ∃ x ∈ l, P x) := ⟨fun _ => ⟨x, hin, hP⟩, fun _ => hki0⟩
        have HC := Lib.hid hcall
        clear hcall hP hq hin hte
        go_wp2_with ((with_reducible refine HC.out.mono ?_); rintro e w' ⟨rfl, hb⟩)
        go_ret
        exact ⟨k, hfin.out, rfl, bt hB hb⟩
      · rw [dec_false hP] at hcall
        have hnx : Hid (∀ x ∈ l.take (k + 1), ¬ P x) := by
          show ∀ x ∈ l.take (k + 1), ¬ P x
          rw [hte]; intro y hy
          rcases List.mem_append.1 hy with h | h
          · exact hq.out y h
          · rw [List.mem_singleton.1 h]; exact hP
        have HC := Lib.hid hcall
        clear hcall hP hq hin hte
        go_wp2_with ((with_reducible refine HC.out.mono ?_); rintro e w' ⟨rfl, hb⟩)
        go_roundw
        case rel => exact ⟨k + 1, by omega, by go_num, hnx, bt hB hb⟩
        case measure => simp [intOf]; omega
    · have : k = l.length := by omega
      subst this
      have hfin : Hid ((0 : Int) ≤ -1 ↔ ∃ x ∈ l, P x) := ⟨fun h => absurd h (by decide), fun ⟨x, hx, hp⟩ => absurd hp (hq.out x (by rw [List.take_length]; exact hx))⟩
      clear hq hf ha
      go_wp2
      go_ret
      exact ⟨-1, hfin.out, rfl, hB⟩
set_option maxRecDepth 100000 in
set_option maxHeartbeats 1000000 in
theorem conFunc_calls (F : Nat → Prop) (w : World) (f : Nat) (caps : Array Value) (l : List (FuncD)) (v : Value) (P : (FuncD) → Prop) (hF : Inn F w) (hr : RdL Holds.fnc 3 F w l v) (hcf : ∀ (args : Array Value) (w : World), (callFunc f args).run Tryz.prog w = .ok (.enter f args) w) (hf : ∀ x ∈ l, Asks1 Holds.fnc aggA F w f caps x (dec (P x))) :
    Calls Tryz.prog 108 #[v, .func (.func f) #[] caps] w (Gives w (.bool (dec (∃ x ∈ l, P x)))) := by
  have hc := idxFunc_calls F w f caps l v P hF hr hcf hf
  have hyes : Hid ((∃ x ∈ l, P x) → dec (∃ x ∈ l, P x) = true) := fun h => dec_true h
  have hno : Hid (¬ (∃ x ∈ l, P x) → dec (∃ x ∈ l, P x) = false) := fun h => dec_false h
  obtain ⟨a, cap, rfl⟩ := hr.shape
  generalize dec (∃ x ∈ l, P x) = r at hyes hno
  have HC := Lib.hid hc
  clear hc hf hr hcf
  go_enter Tryz.func108, Tryz.ntmps108
  go_wp2_with (go_at_call 171; refine HC.out.mono ?_; rintro e w1 ⟨n, hn, rfl, hb⟩; have hn2 := Lib.hid hn; clear hn)
  go_ret
  refine ⟨ret_bool ?_, hb⟩
  by_cases h : ∃ x ∈ l, P x
  · rw [hyes.out h]; simpa using hn2.out.2 h
  · rw [hno.out h]; have := fun h1 => h (hn2.out.1 h1); simpa using this
set_option maxRecDepth 100000 in
set_option maxHeartbeats 1000000 in
theorem aclFunc_calls (F : Nat → Prop) (w W : World) (f q : Nat) (caps : Array Value) (x : FuncD) (cs : List Value) (b : Bool) (hF : Inn F w) (hW : Below w.heap.size w W) (hcf : ∀ (args : Array Value) (w : World), (callFunc f args).run Tryz.prog w = .ok (.enter f args) w) (hq : W.cell? ⟨q, 0, none⟩ = some (.func (.func f) #[] caps)) (hx : Holds.fnc.R F W x cs) (hf : Asks1 Holds.fnc aggA F w f caps x b) :
    Calls Tryz.prog 109 (#[aggA cs] ++ #[.pointer (some ⟨q, 0, none⟩)]) W (Gives W (.bool (!b))) := by
  have hx2 := hx
  obtain ⟨-, va1, va2, rfl, ka1, ka2⟩ := hx2
  obtain ⟨da1, fa1, rfl⟩ := ka1.shape
  obtain ⟨da2, fa2, rfl⟩ := ka2.shape
  have hcall : Calls Tryz.prog f (#[.agg #[.string x.name, .slice da1 x.params.length fa1, .slice da2 x.body.length fa2]] ++ caps) (W.alloc (.cells #[.string x.name, .slice da1 x.params.length fa1, .slice da2 x.body.length fa2] 44)) (Gives (W.alloc (.cells #[.string x.name, .slice da1 x.params.length fa1, .slice da2 x.body.length fa2] 44)) (.bool b)) := hf _ [.string x.name, .slice da1 x.params.length fa1, .slice da2 x.body.length fa2] (hW.alloc hW.size _) (Holds.below _ hx (hF.below hW) ((Below.refl _ W).alloc (Nat.le_refl _) _) (Nat.le_refl _))
  have hqa := cell_al hq (.cells #[.string x.name, .slice da1 x.params.length fa1, .slice da2 x.body.length fa2] 44)
  show Calls Tryz.prog 109 #[.agg #[.string x.name, .slice da1 x.params.length fa1, .slice da2 x.body.length fa2], .pointer (some ⟨q, 0, none⟩)] W _
  have HC := Lib.hid hcall
  clear hcall hx hf
  go_enter Tryz.func109, Tryz.ntmps109
  go_wp2_with ((with_reducible refine HC.out.mono ?_); rintro e w' ⟨rfl, hb⟩)
  go_ret
  exact ⟨rfl, ((Below.refl _ W).alloc (Nat.le_refl _) _).trans (hb.mono (by simp))⟩
set_option maxRecDepth 100000 in
set_option maxHeartbeats 1000000 in
theorem allFunc_calls (F : Nat → Prop) (w : World) (f : Nat) (caps : Array Value) (l : List (FuncD)) (m : Int) (v : Value) (P : (FuncD) → Prop) (hF : Inn F w) (hr : RdL Holds.fnc 3 F w l v) (hcf : ∀ (args : Array Value) (w : World), (callFunc f args).run Tryz.prog w = .ok (.enter f args) w) (hf : ∀ x ∈ l, Asks1 Holds.fnc aggA F w f caps x (dec (P x))) :
    Calls Tryz.prog 32 #[v, .int .i64 m, .func (.func f) #[] caps] w (Gives w (.bool (dec ((l.length : Int) ≤ m ∧ ∀ x ∈ l, P x)))) := by
  have hB0 : Below w.heap.size w (w.alloc (.cells #[.func (.func f) #[] caps] 48)) := (Below.refl _ w).alloc (Nat.le_refl _) _
  have hmf : ∀ (fn : Fn) (first cap : Array Value) (w : World), (Instr.makeFunc fn first cap).run Tryz.prog w = .ok (.func fn first cap) w := fun _ _ _ _ => rfl
  have hcc : ∀ (args : Array Value) (w : World), (callFunc 109 args).run Tryz.prog w = .ok (.enter 109 args) w := fun _ _ => by kernel_rfl
  have hcon := conFunc_calls F (w.alloc (.cells #[.func (.func f) #[] caps] 48)) 109 #[.pointer (some ⟨w.heap.size, 0, none⟩)] l v (fun x => ¬ P x) (hF.alloc _) (hr.alloc hF _) hcc (fun x hx => fun W cs hW hr => by
    have h2 := aclFunc_calls F w W f w.heap.size caps x cs (dec (P x)) hF (hB0.trans (hW.mono (by simp))) hcf (by rw [hW.cell (by simp)]; simp) hr (hf x hx)
    rw [show dec (¬ P x) = !dec (P x) from by by_cases h : P x; rw [dec_true h, dec_false (by simpa using h)]; rfl; rw [dec_false h, dec_true h]; rfl]
    exact h2)
  obtain ⟨a, cap, rfl⟩ := hr.shape
  clear hf hr
  by_cases hm : (l.length : Int) ≤ m
  · have hm1 : decide ((l.length : Int) ≤ m) = true := by simpa using hm
    have hfin : Hid (dec ((l.length : Int) ≤ m ∧ ∀ x ∈ l, P x) = !dec (∃ x ∈ l, ¬ P x)) := by
      show _ = _
      by_cases h : ∀ x ∈ l, P x
      · rw [dec_true ⟨hm, h⟩, dec_false (fun ⟨x, hx, hn⟩ => hn (h x hx))]; rfl
      · rw [dec_false (fun h2 => h h2.2), dec_true (by simpa using h)]; rfl
    generalize dec (∃ x ∈ l, ¬ P x) = r at hcon hfin
    have HC := Lib.hid hcon
    have HB0 := Lib.hid hB0
    clear hcon hm hB0 hcc
    go_enter Tryz.func32, Tryz.ntmps32
    go_wp2_with (go_at_call 108; refine HC.out.mono ?_; rintro e w1 ⟨rfl, hb⟩)
    go_ret
    exact ⟨ret_bool hfin.out.symm, HB0.out.trans (hb.mono (by simp))⟩
  · have hm1 : decide ((l.length : Int) ≤ m) = false := by simpa using hm
    have hfin : Hid (dec ((l.length : Int) ≤ m ∧ ∀ x ∈ l, P x) = false) := dec_false (fun h => hm h.1)
    have HB0 := Lib.hid hB0
    clear hcon hm hB0 hcc
    go_enter Tryz.func32, Tryz.ntmps32
    go_wp2_with fail
    go_ret
    exact ⟨ret_bool hfin.out.symm, HB0.out⟩
end Go.Proofs.YtmabeegoapcfpaaGreatDoor
