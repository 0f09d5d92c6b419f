/- The calls of the law's awake, on one path only: Right and Same of its small sources. Printed by gen-show20.py. -/
import Derived.Test.YtdeecfkipknkbaaGreatDoorPart8a88c5f8
import Derived.Test.YtdeecfkipknkbaaGreatDoorPart5907e4d5
import Derived.Test.YtdeecfkipknkbaaGreatDoorPart01a3ceaf
import Derived.Test.YtdeecfkipknkbaaGreatDoorPart5e38a312
import Derived.Laws.EntriesVeiled
namespace Go.Proofs.YtdeecfkipknkbaaGreatDoor
set_option maxRecDepth 100000
set_option maxHeartbeats 4000000
open Go.RowKit
theorem riName0 (s : ByteArray) (w : World) (hs : s.size ≤ maxLen) (hm : MX w) : Calls Tryz.prog 80 #[.string s] w (Same0 w (.bool (dec (IsNm s)))) := by
 have h1 := isName_calls s w hs
 by_cases hn : IsName s
 · have h2 := keyT_calls s w hn hm
   have e1 : Hid (dec (IsNm s) = !dec (IsKey s)) := by
    show dec (IsNm s) = _
    by_cases hk : IsKey s
    · rw [dec_true hk, dec_false (fun h => h.2 hk)]; rfl
    rw [dec_false hk, dec_true ⟨hn, hk⟩]; rfl
   rw [dec_true hn] at h1
   have H1 := Lib.hid h1
   have H2 := Lib.hid h2
   clear h1 h2 hn hm
   go_enter Tryz.func80, Tryz.ntmps80
   go_wp2_with (first | (go_at_call 161; refine H1.out.mono ?_; rintro e w' ⟨rfl, rfl⟩) | (go_at_call 162; refine H2.out.mono ?_; rintro e w' ⟨rfl, rfl⟩))
   go_ret
   exact ⟨ret_bool e1.out.symm, rfl⟩
 have e1 : Hid (dec (IsNm s) = false) := dec_false (fun h => hn h.1)
 rw [dec_false hn] at h1
 have H1 := Lib.hid h1
 clear h1 hn hm
 go_enter Tryz.func80, Tryz.ntmps80
 go_wp2_with (go_at_call 161; refine H1.out.mono ?_; rintro e w' ⟨rfl, rfl⟩)
 go_ret
 exact ⟨ret_bool e1.out.symm, rfl⟩
theorem maybe_none (w : World) : Calls Tryz.prog 177 #[.string ⟨#[]⟩] w (Gives w (.bool true)) := by
 obtain ⟨s, hs⟩ : ∃ s : ByteArray, (⟨#[]⟩ : ByteArray) = s := ⟨_, rfl⟩
 rw [hs]
 have e0 : s.toList.isEmpty = true := emp_t hs.symm
 clear hs
 go_enter Tryz.func177, Tryz.ntmps177
 go_wp2
 go_ret
 exact ⟨rfl, Below.refl _ _⟩
theorem riNum1 (n : Int) (w : World) (h0 : (0 : Int) ≤ n) (h1 : n ≤ (32767 : Int)) : Calls Tryz.prog 84 #[.int .i64 n] w (Gives w (.bool true)) := by
 have e0 : decide ((0 : Int) ≤ n) = true := by simpa using h0
 have e1 : decide (n ≤ (32767 : Int)) = true := by simpa using h1
 clear h0 h1
 go_enter Tryz.func84, Tryz.ntmps84
 go_wp2
 go_ret
 exact ⟨rfl, Below.refl _ _⟩
theorem idxNilString (w : World) (f : Nat) (caps : Array Value) (a : Option Addr) (c : Nat) : Calls Tryz.prog 242 #[.slice a 0 c, .func (.func f) #[] caps] w (Gives w (.int .i64 (-1))) := by
 go_enter Tryz.func242, Tryz.ntmps242
 go_wp2
 go_loopw [8] (fun i wr => i = .int .i64 0 ∧ wr = w) (fun _ _ => 0)
 case atStart => exact ⟨rfl, rfl⟩
 case round =>
  obtain ⟨rfl, rfl⟩ := hrel
  go_wp2
  go_ret
  exact ⟨rfl, Below.refl _ _⟩
theorem allNilString (w : World) (f : Nat) (caps : Array Value) (m : Int) (hm : 0 ≤ m) (a : Option Addr) (c : Nat) : Calls Tryz.prog 81 #[.slice a 0 c, .int .i64 m, .func (.func f) #[] caps] w (Gives w (.bool true)) := by
 have hB0 : Below w.heap.size w (w.alloc (.cells #[.func (.func f) #[] caps] 56)) := (Below.refl _ w).alloc (Nat.le_refl _) _
 have hmf : ∀ (fn : Fn) (first cap : Array Value) (w : World), (Instr.makeFunc fn first cap).run Tryz.prog w = .ok (.func fn first cap) w := fun _ _ _ _ => rfl
 have hm1 : decide ((0 : Int) ≤ m) = true := by simpa using hm
 have hcon : Calls Tryz.prog 163 #[.slice a 0 c, .func (.func 164) #[] #[.pointer (some ⟨w.heap.size, 0, none⟩)]] (w.alloc (.cells #[.func (.func f) #[] caps] 56)) (Gives (w.alloc (.cells #[.func (.func f) #[] caps] 56)) (.bool false)) := by
  have HC := Lib.hid (idxNilString (w.alloc (.cells #[.func (.func f) #[] caps] 56)) 164 #[.pointer (some ⟨w.heap.size, 0, none⟩)] a c)
  clear hm1 hmf hB0 hm
  go_enter Tryz.func163, Tryz.ntmps163
  go_wp2_with (go_at_call 242; refine HC.out.mono ?_; rintro e w1 ⟨rfl, hb⟩)
  go_ret
  exact ⟨by first | rfl | exact ret_bool (by decide), hb⟩
 have HC := Lib.hid hcon
 have HB0 := Lib.hid hB0
 clear hcon hm hB0
 go_enter Tryz.func81, Tryz.ntmps81
 go_wp2_with (go_at_call 163; refine HC.out.mono ?_; rintro e w1 ⟨rfl, hb⟩)
 go_ret
 exact ⟨rfl, HB0.out.trans (hb.mono (by simp))⟩
theorem idxNilPair (w : World) (f : Nat) (caps : Array Value) (a : Option Addr) (c : Nat) : Calls Tryz.prog 248 #[.slice a 0 c, .func (.func f) #[] caps] w (Gives w (.int .i64 (-1))) := by
 go_enter Tryz.func248, Tryz.ntmps248
 go_wp2
 go_loopw [8] (fun i wr => i = .int .i64 0 ∧ wr = w) (fun _ _ => 0)
 case atStart => exact ⟨rfl, rfl⟩
 case round =>
  obtain ⟨rfl, rfl⟩ := hrel
  go_wp2
  go_ret
  exact ⟨rfl, Below.refl _ _⟩
theorem allNilPair (w : World) (f : Nat) (caps : Array Value) (m : Int) (hm : 0 ≤ m) (a : Option Addr) (c : Nat) : Calls Tryz.prog 86 #[.slice a 0 c, .int .i64 m, .func (.func f) #[] caps] w (Gives w (.bool true)) := by
 have hB0 : Below w.heap.size w (w.alloc (.cells #[.func (.func f) #[] caps] 130)) := (Below.refl _ w).alloc (Nat.le_refl _) _
 have hmf : ∀ (fn : Fn) (first cap : Array Value) (w : World), (Instr.makeFunc fn first cap).run Tryz.prog w = .ok (.func fn first cap) w := fun _ _ _ _ => rfl
 have hm1 : decide ((0 : Int) ≤ m) = true := by simpa using hm
 have hcon : Calls Tryz.prog 171 #[.slice a 0 c, .func (.func 172) #[] #[.pointer (some ⟨w.heap.size, 0, none⟩)]] (w.alloc (.cells #[.func (.func f) #[] caps] 130)) (Gives (w.alloc (.cells #[.func (.func f) #[] caps] 130)) (.bool false)) := by
  have HC := Lib.hid (idxNilPair (w.alloc (.cells #[.func (.func f) #[] caps] 130)) 172 #[.pointer (some ⟨w.heap.size, 0, none⟩)] a c)
  clear hm1 hmf hB0 hm
  go_enter Tryz.func171, Tryz.ntmps171
  go_wp2_with (go_at_call 248; refine HC.out.mono ?_; rintro e w1 ⟨rfl, hb⟩)
  go_ret
  exact ⟨by first | rfl | exact ret_bool (by decide), hb⟩
 have HC := Lib.hid hcon
 have HB0 := Lib.hid hB0
 clear hcon hm hB0
 go_enter Tryz.func86, Tryz.ntmps86
 go_wp2_with (go_at_call 171; refine HC.out.mono ?_; rintro e w1 ⟨rfl, hb⟩)
 go_ret
 exact ⟨rfl, HB0.out.trans (hb.mono (by simp))⟩
theorem idxNilExit (w : World) (f : Nat) (caps : Array Value) (a : Option Addr) (c : Nat) : Calls Tryz.prog 305 #[.slice a 0 c, .func (.func f) #[] caps] w (Gives w (.int .i64 (-1))) := by
 go_enter Tryz.func305, Tryz.ntmps305
 go_wp2
 go_loopw [8] (fun i wr => i = .int .i64 0 ∧ wr = w) (fun _ _ => 0)
 case atStart => exact ⟨rfl, rfl⟩
 case round =>
  obtain ⟨rfl, rfl⟩ := hrel
  go_wp2
  go_ret
  exact ⟨rfl, Below.refl _ _⟩
theorem allNilExit (w : World) (f : Nat) (caps : Array Value) (m : Int) (hm : 0 ≤ m) (a : Option Addr) (c : Nat) : Calls Tryz.prog 178 #[.slice a 0 c, .int .i64 m, .func (.func f) #[] caps] w (Gives w (.bool true)) := by
 have hB0 : Below w.heap.size w (w.alloc (.cells #[.func (.func f) #[] caps] 190)) := (Below.refl _ w).alloc (Nat.le_refl _) _
 have hmf : ∀ (fn : Fn) (first cap : Array Value) (w : World), (Instr.makeFunc fn first cap).run Tryz.prog w = .ok (.func fn first cap) w := fun _ _ _ _ => rfl
 have hm1 : decide ((0 : Int) ≤ m) = true := by simpa using hm
 have hcon : Calls Tryz.prog 254 #[.slice a 0 c, .func (.func 255) #[] #[.pointer (some ⟨w.heap.size, 0, none⟩)]] (w.alloc (.cells #[.func (.func f) #[] caps] 190)) (Gives (w.alloc (.cells #[.func (.func f) #[] caps] 190)) (.bool false)) := by
  have HC := Lib.hid (idxNilExit (w.alloc (.cells #[.func (.func f) #[] caps] 190)) 255 #[.pointer (some ⟨w.heap.size, 0, none⟩)] a c)
  clear hm1 hmf hB0 hm
  go_enter Tryz.func254, Tryz.ntmps254
  go_wp2_with (go_at_call 305; refine HC.out.mono ?_; rintro e w1 ⟨rfl, hb⟩)
  go_ret
  exact ⟨by first | rfl | exact ret_bool (by decide), hb⟩
 have HC := Lib.hid hcon
 have HB0 := Lib.hid hB0
 clear hcon hm hB0
 go_enter Tryz.func178, Tryz.ntmps178
 go_wp2_with (go_at_call 254; refine HC.out.mono ?_; rintro e w1 ⟨rfl, hb⟩)
 go_ret
 exact ⟨rfl, HB0.out.trans (hb.mono (by simp))⟩
theorem idxNilVerb (w : World) (f : Nat) (caps : Array Value) (a : Option Addr) (c : Nat) : Calls Tryz.prog 256 #[.slice a 0 c, .func (.func f) #[] caps] w (Gives w (.int .i64 (-1))) := by
 go_enter Tryz.func256, Tryz.ntmps256
 go_wp2
 go_loopw [8] (fun i wr => i = .int .i64 0 ∧ wr = w) (fun _ _ => 0)
 case atStart => exact ⟨rfl, rfl⟩
 case round =>
  obtain ⟨rfl, rfl⟩ := hrel
  go_wp2
  go_ret
  exact ⟨rfl, Below.refl _ _⟩
theorem allNilVerb (w : World) (f : Nat) (caps : Array Value) (m : Int) (hm : 0 ≤ m) (a : Option Addr) (c : Nat) : Calls Tryz.prog 90 #[.slice a 0 c, .int .i64 m, .func (.func f) #[] caps] w (Gives w (.bool true)) := by
 have hB0 : Below w.heap.size w (w.alloc (.cells #[.func (.func f) #[] caps] 64)) := (Below.refl _ w).alloc (Nat.le_refl _) _
 have hmf : ∀ (fn : Fn) (first cap : Array Value) (w : World), (Instr.makeFunc fn first cap).run Tryz.prog w = .ok (.func fn first cap) w := fun _ _ _ _ => rfl
 have hm1 : decide ((0 : Int) ≤ m) = true := by simpa using hm
 have hcon : Calls Tryz.prog 179 #[.slice a 0 c, .func (.func 180) #[] #[.pointer (some ⟨w.heap.size, 0, none⟩)]] (w.alloc (.cells #[.func (.func f) #[] caps] 64)) (Gives (w.alloc (.cells #[.func (.func f) #[] caps] 64)) (.bool false)) := by
  have HC := Lib.hid (idxNilVerb (w.alloc (.cells #[.func (.func f) #[] caps] 64)) 180 #[.pointer (some ⟨w.heap.size, 0, none⟩)] a c)
  clear hm1 hmf hB0 hm
  go_enter Tryz.func179, Tryz.ntmps179
  go_wp2_with (go_at_call 256; refine HC.out.mono ?_; rintro e w1 ⟨rfl, hb⟩)
  go_ret
  exact ⟨by first | rfl | exact ret_bool (by decide), hb⟩
 have HC := Lib.hid hcon
 have HB0 := Lib.hid hB0
 clear hcon hm hB0
 go_enter Tryz.func90, Tryz.ntmps90
 go_wp2_with (go_at_call 179; refine HC.out.mono ?_; rintro e w1 ⟨rfl, hb⟩)
 go_ret
 exact ⟨rfl, HB0.out.trans (hb.mono (by simp))⟩
theorem idxNilRule (w : World) (f : Nat) (caps : Array Value) (a : Option Addr) (c : Nat) : Calls Tryz.prog 261 #[.slice a 0 c, .func (.func f) #[] caps] w (Gives w (.int .i64 (-1))) := by
 go_enter Tryz.func261, Tryz.ntmps261
 go_wp2
 go_loopw [8] (fun i wr => i = .int .i64 0 ∧ wr = w) (fun _ _ => 0)
 case atStart => exact ⟨rfl, rfl⟩
 case round =>
  obtain ⟨rfl, rfl⟩ := hrel
  go_wp2
  go_ret
  exact ⟨rfl, Below.refl _ _⟩
theorem allNilRule (w : World) (f : Nat) (caps : Array Value) (m : Int) (hm : 0 ≤ m) (a : Option Addr) (c : Nat) : Calls Tryz.prog 92 #[.slice a 0 c, .int .i64 m, .func (.func f) #[] caps] w (Gives w (.bool true)) := by
 have hB0 : Below w.heap.size w (w.alloc (.cells #[.func (.func f) #[] caps] 68)) := (Below.refl _ w).alloc (Nat.le_refl _) _
 have hmf : ∀ (fn : Fn) (first cap : Array Value) (w : World), (Instr.makeFunc fn first cap).run Tryz.prog w = .ok (.func fn first cap) w := fun _ _ _ _ => rfl
 have hm1 : decide ((0 : Int) ≤ m) = true := by simpa using hm
 have hcon : Calls Tryz.prog 185 #[.slice a 0 c, .func (.func 186) #[] #[.pointer (some ⟨w.heap.size, 0, none⟩)]] (w.alloc (.cells #[.func (.func f) #[] caps] 68)) (Gives (w.alloc (.cells #[.func (.func f) #[] caps] 68)) (.bool false)) := by
  have HC := Lib.hid (idxNilRule (w.alloc (.cells #[.func (.func f) #[] caps] 68)) 186 #[.pointer (some ⟨w.heap.size, 0, none⟩)] a c)
  clear hm1 hmf hB0 hm
  go_enter Tryz.func185, Tryz.ntmps185
  go_wp2_with (go_at_call 261; refine HC.out.mono ?_; rintro e w1 ⟨rfl, hb⟩)
  go_ret
  exact ⟨by first | rfl | exact ret_bool (by decide), hb⟩
 have HC := Lib.hid hcon
 have HB0 := Lib.hid hB0
 clear hcon hm hB0
 go_enter Tryz.func92, Tryz.ntmps92
 go_wp2_with (go_at_call 185; refine HC.out.mono ?_; rintro e w1 ⟨rfl, hb⟩)
 go_ret
 exact ⟨rfl, HB0.out.trans (hb.mono (by simp))⟩
theorem idxNilFunc (w : World) (f : Nat) (caps : Array Value) (a : Option Addr) (c : Nat) : Calls Tryz.prog 262 #[.slice a 0 c, .func (.func f) #[] caps] w (Gives w (.int .i64 (-1))) := by
 go_enter Tryz.func262, Tryz.ntmps262
 go_wp2
 go_loopw [8] (fun i wr => i = .int .i64 0 ∧ wr = w) (fun _ _ => 0)
 case atStart => exact ⟨rfl, rfl⟩
 case round =>
  obtain ⟨rfl, rfl⟩ := hrel
  go_wp2
  go_ret
  exact ⟨rfl, Below.refl _ _⟩
theorem allNilFunc (w : World) (f : Nat) (caps : Array Value) (m : Int) (hm : 0 ≤ m) (a : Option Addr) (c : Nat) : Calls Tryz.prog 94 #[.slice a 0 c, .int .i64 m, .func (.func f) #[] caps] w (Gives w (.bool true)) := by
 have hB0 : Below w.heap.size w (w.alloc (.cells #[.func (.func f) #[] caps] 127)) := (Below.refl _ w).alloc (Nat.le_refl _) _
 have hmf : ∀ (fn : Fn) (first cap : Array Value) (w : World), (Instr.makeFunc fn first cap).run Tryz.prog w = .ok (.func fn first cap) w := fun _ _ _ _ => rfl
 have hm1 : decide ((0 : Int) ≤ m) = true := by simpa using hm
 have hcon : Calls Tryz.prog 187 #[.slice a 0 c, .func (.func 188) #[] #[.pointer (some ⟨w.heap.size, 0, none⟩)]] (w.alloc (.cells #[.func (.func f) #[] caps] 127)) (Gives (w.alloc (.cells #[.func (.func f) #[] caps] 127)) (.bool false)) := by
  have HC := Lib.hid (idxNilFunc (w.alloc (.cells #[.func (.func f) #[] caps] 127)) 188 #[.pointer (some ⟨w.heap.size, 0, none⟩)] a c)
  clear hm1 hmf hB0 hm
  go_enter Tryz.func187, Tryz.ntmps187
  go_wp2_with (go_at_call 262; refine HC.out.mono ?_; rintro e w1 ⟨rfl, hb⟩)
  go_ret
  exact ⟨by first | rfl | exact ret_bool (by decide), hb⟩
 have HC := Lib.hid hcon
 have HB0 := Lib.hid hB0
 clear hcon hm hB0
 go_enter Tryz.func94, Tryz.ntmps94
 go_wp2_with (go_at_call 187; refine HC.out.mono ?_; rintro e w1 ⟨rfl, hb⟩)
 go_ret
 exact ⟨rfl, HB0.out.trans (hb.mono (by simp))⟩
theorem eqNilString (w : World) (a : Option Addr) (c : Nat) (b : Option Addr) (d : Nat) : Calls Tryz.prog 99 #[.slice a 0 c, .slice b 0 d] w (Gives w (.bool true)) := by
 go_enter Tryz.func99, Tryz.ntmps99
 go_wp2
 go_loopw [13] (fun i wr => i = .int .i64 0 ∧ wr = w) (fun _ _ => 0)
 case atStart => exact ⟨rfl, rfl⟩
 case round =>
  obtain ⟨rfl, rfl⟩ := hrel
  go_wp2
  go_ret
  exact ⟨rfl, Below.refl _ _⟩
theorem eqNilPair (w : World) (a : Option Addr) (c : Nat) (b : Option Addr) (d : Nat) : Calls Tryz.prog 100 #[.slice a 0 c, .slice b 0 d] w (Gives w (.bool true)) := by
 go_enter Tryz.func100, Tryz.ntmps100
 go_wp2
 go_loopw [13] (fun i wr => i = .int .i64 0 ∧ wr = w) (fun _ _ => 0)
 case atStart => exact ⟨rfl, rfl⟩
 case round =>
  obtain ⟨rfl, rfl⟩ := hrel
  go_wp2
  go_ret
  exact ⟨rfl, Below.refl _ _⟩
theorem eqNilExit (w : World) (f : Nat) (a : Option Addr) (c : Nat) (b : Option Addr) (d : Nat) : Calls Tryz.prog 192 #[.slice a 0 c, .slice b 0 d, .func (.func f) #[] #[]] w (Gives w (.bool true)) := by
 go_enter Tryz.func192, Tryz.ntmps192
 go_wp2
 go_loopw [17] (fun i wr => i = .int .i64 0 ∧ wr = w) (fun _ _ => 0)
 case atStart => exact ⟨rfl, rfl⟩
 case round =>
  obtain ⟨rfl, rfl⟩ := hrel
  go_wp2
  go_ret
  exact ⟨rfl, Below.refl _ _⟩
theorem eqNilVerb (w : World) (f : Nat) (a : Option Addr) (c : Nat) (b : Option Addr) (d : Nat) : Calls Tryz.prog 103 #[.slice a 0 c, .slice b 0 d, .func (.func f) #[] #[]] w (Gives w (.bool true)) := by
 go_enter Tryz.func103, Tryz.ntmps103
 go_wp2
 go_loopw [17] (fun i wr => i = .int .i64 0 ∧ wr = w) (fun _ _ => 0)
 case atStart => exact ⟨rfl, rfl⟩
 case round =>
  obtain ⟨rfl, rfl⟩ := hrel
  go_wp2
  go_ret
  exact ⟨rfl, Below.refl _ _⟩
theorem eqNilRule (w : World) (f : Nat) (a : Option Addr) (c : Nat) (b : Option Addr) (d : Nat) : Calls Tryz.prog 105 #[.slice a 0 c, .slice b 0 d, .func (.func f) #[] #[]] w (Gives w (.bool true)) := by
 go_enter Tryz.func105, Tryz.ntmps105
 go_wp2
 go_loopw [17] (fun i wr => i = .int .i64 0 ∧ wr = w) (fun _ _ => 0)
 case atStart => exact ⟨rfl, rfl⟩
 case round =>
  obtain ⟨rfl, rfl⟩ := hrel
  go_wp2
  go_ret
  exact ⟨rfl, Below.refl _ _⟩
theorem eqNilFunc (w : World) (f : Nat) (a : Option Addr) (c : Nat) (b : Option Addr) (d : Nat) : Calls Tryz.prog 106 #[.slice a 0 c, .slice b 0 d, .func (.func f) #[] #[]] w (Gives w (.bool true)) := by
 go_enter Tryz.func106, Tryz.ntmps106
 go_wp2
 go_loopw [17] (fun i wr => i = .int .i64 0 ∧ wr = w) (fun _ _ => 0)
 case atStart => exact ⟨rfl, rfl⟩
 case round =>
  obtain ⟨rfl, rfl⟩ := hrel
  go_wp2
  go_ret
  exact ⟨rfl, Below.refl _ _⟩
theorem riObj1 (w : World) (n t i x : ByteArray) (da5 : Option Addr) (fa5 : Nat) (da6 : Option Addr) (fa6 : Nat) (da7 : Option Addr) (fa7 : Nat) (da8 : Option Addr) (fa8 : Nat) (da9 : Option Addr) (fa9 : Nat) (hm : MX w) (hn : IsNm n) (ht : IsText t) (hi : i = ⟨#[]⟩) (hx : IsText x) (zn : n.size ≤ maxLen) (zt : t.size ≤ maxLen) (zx : x.size ≤ maxLen) : Calls Tryz.prog 89 #[.agg #[.string n, .string t, .string i, .string x, .bool true, .slice da5 0 fa5, .slice da6 0 fa6, .slice da7 0 fa7, .slice da8 0 fa8, .slice da9 0 fa9]] w (Gives w (.bool true)) := by
 have hcn : ∀ W, Below w.heap.size w W → Calls Tryz.prog 80 #[.string n] W (Gives W (.bool true)) := fun W h => by have := Same0.gv (riName0 n W zn (hm.below h (Nat.le_refl _))); rw [dec_true hn] at this; exact this
 have hct : ∀ W, Calls Tryz.prog 85 #[.string t] W (Gives W (.bool true)) := fun W => by have := Same0.gv (isText_calls t W zt); rw [dec_true ht] at this; exact this
 have hcx : ∀ W, Calls Tryz.prog 85 #[.string x] W (Gives W (.bool true)) := fun W => by have := Same0.gv (isText_calls x W zx); rw [dec_true hx] at this; exact this
 have hci : ∀ W, Calls Tryz.prog 177 #[.string i] W (Gives W (.bool true)) := fun W => by rw [hi]; exact maybe_none W
 obtain ⟨W1, hW1⟩ : ∃ W1, w.alloc (.cells #[.string n, .string t, .string i, .string x, .bool true, .slice da5 0 fa5, .slice da6 0 fa6, .slice da7 0 fa7, .slice da8 0 fa8, .slice da9 0 fa9] 63) = W1 := ⟨_, rfl⟩
 have hs1 := bs' hW1
 have hb1 := ba' hW1
 have hbx1 := bn' hW1
 have hE : Hid (∀ W, Below W1.heap.size W1 W → BoxAt W (w.heap.size) [.string n, .string t, .string i, .string x, .bool true, .slice da5 0 fa5, .slice da6 0 fa6, .slice da7 0 fa7, .slice da8 0 fa8, .slice da9 0 fa9] ∧ Below w.heap.size w W) := fun W h2 => ⟨hbx1.below h2 (by omega), (bt hb1 h2)⟩
 have HZ0 := Lib.hid hs1
 have HW1 := Lib.hid hW1
 clear hW1 hs1 hb1 hbx1
 have HC0 := Lib.hid (fun (W : World) (hW : Below W1.heap.size W1 W) (hw : Below w.heap.size w W) => allNilString W 85 #[] 8 (by decide) da5 fa5)
 have HC1 := Lib.hid (fun (W : World) (hW : Below W1.heap.size W1 W) (hw : Below w.heap.size w W) => allNilString W 85 #[] 8 (by decide) da6 fa6)
 have HC2 := Lib.hid (fun (W : World) (hW : Below W1.heap.size W1 W) (hw : Below w.heap.size w W) => hcn W hw)
 have HC3 := Lib.hid (fun (W : World) (hW : Below W1.heap.size W1 W) (hw : Below w.heap.size w W) => hct W)
 have HC4 := Lib.hid (fun (W : World) (hW : Below W1.heap.size W1 W) (hw : Below w.heap.size w W) => hcx W)
 have HC5 := Lib.hid (fun (W : World) (hW : Below W1.heap.size W1 W) (hw : Below w.heap.size w W) => hci W)
 have HC6 := Lib.hid (fun (W : World) (hW : Below W1.heap.size W1 W) (hw : Below w.heap.size w W) => allNilString W 80 #[] 16 (by decide) da7 fa7)
 have HC7 := Lib.hid (fun (W : World) (hW : Below W1.heap.size W1 W) (hw : Below w.heap.size w W) => allNilPair W 87 #[] 16 (by decide) da8 fa8)
 have HC8 := Lib.hid (fun (W : World) (hW : Below W1.heap.size W1 W) (hw : Below w.heap.size w W) => allNilExit W 175 #[] 12 (by decide) da9 fa9)
 have e0 : i.toList.isEmpty = true := emp_t hi
 clear hcn hct hcx hci hm hn ht hi hx zn zt zx
 go_enter Tryz.func89, Tryz.ntmps89
 go_upto_region 1 with fail
 rw [HW1.out]
 obtain ⟨hq1, hqt0⟩ := hE.out W1 (Below.refl _ _)
 have HB0 := b0' W1
 obtain ⟨g1_0, g1_1, g1_2, g1_3, g1_4, g1_5, g1_6, g1_7, g1_8, g1_9⟩ := p9' hq1.2
 go_wp2_with (first | (go_at_call 81; (with_reducible refine (HC0.out W1 HB0 hqt0).mono ?_); rintro e91 w1 ⟨rfl, hb1⟩; have HB1 := bt HB0 hb1; obtain ⟨r1hq1, hqt1⟩ := hE.out w1 HB1; clear g1_0 g1_1 g1_2 g1_3 g1_4 g1_5 g1_6 g1_7 g1_8 g1_9; obtain ⟨g1x1_0, g1x1_1, g1x1_2, g1x1_3, g1x1_4, g1x1_5, g1x1_6, g1x1_7, g1x1_8, g1x1_9⟩ := p9' r1hq1.2) | (go_at_call 81; (with_reducible refine (HC1.out w1 HB1 hqt1).mono ?_); rintro e92 w2 ⟨rfl, hb2⟩; have HB2 := bt HB1 hb2; obtain ⟨r2hq1, hqt2⟩ := hE.out w2 HB2; clear g1x1_0 g1x1_1 g1x1_2 g1x1_3 g1x1_4 g1x1_5 g1x1_6 g1x1_7 g1x1_8 g1x1_9; obtain ⟨g2x1_0, g2x1_1, g2x1_2, g2x1_3, g2x1_4, g2x1_5, g2x1_6, g2x1_7, g2x1_8, g2x1_9⟩ := p9' r2hq1.2) | (go_at_call 80; (with_reducible refine (HC2.out w2 HB2 hqt2).mono ?_); rintro e93 w3 ⟨rfl, hb3⟩; have HB3 := bt HB2 hb3; obtain ⟨r3hq1, hqt3⟩ := hE.out w3 HB3; clear g2x1_0 g2x1_1 g2x1_2 g2x1_3 g2x1_4 g2x1_5 g2x1_6 g2x1_7 g2x1_8 g2x1_9; obtain ⟨g3x1_0, g3x1_1, g3x1_2, g3x1_3, g3x1_4, g3x1_5, g3x1_6, g3x1_7, g3x1_8, g3x1_9⟩ := p9' r3hq1.2) | (go_at_call 85; (with_reducible refine (HC3.out w3 HB3 hqt3).mono ?_); rintro e94 w4 ⟨rfl, hb4⟩; have HB4 := bt HB3 hb4; obtain ⟨r4hq1, hqt4⟩ := hE.out w4 HB4; clear g3x1_0 g3x1_1 g3x1_2 g3x1_3 g3x1_4 g3x1_5 g3x1_6 g3x1_7 g3x1_8 g3x1_9; obtain ⟨g4x1_0, g4x1_1, g4x1_2, g4x1_3, g4x1_4, g4x1_5, g4x1_6, g4x1_7, g4x1_8, g4x1_9⟩ := p9' r4hq1.2) | (go_at_call 85; (with_reducible refine (HC4.out w4 HB4 hqt4).mono ?_); rintro e95 w5 ⟨rfl, hb5⟩; have HB5 := bt HB4 hb5; obtain ⟨r5hq1, hqt5⟩ := hE.out w5 HB5; clear g4x1_0 g4x1_1 g4x1_2 g4x1_3 g4x1_4 g4x1_5 g4x1_6 g4x1_7 g4x1_8 g4x1_9; obtain ⟨g5x1_0, g5x1_1, g5x1_2, g5x1_3, g5x1_4, g5x1_5, g5x1_6, g5x1_7, g5x1_8, g5x1_9⟩ := p9' r5hq1.2) | (go_at_call 177; (with_reducible refine (HC5.out w5 HB5 hqt5).mono ?_); rintro e96 w6 ⟨rfl, hb6⟩; have HB6 := bt HB5 hb6; obtain ⟨r6hq1, hqt6⟩ := hE.out w6 HB6; clear g5x1_0 g5x1_1 g5x1_2 g5x1_3 g5x1_4 g5x1_5 g5x1_6 g5x1_7 g5x1_8 g5x1_9; obtain ⟨g6x1_0, g6x1_1, g6x1_2, g6x1_3, g6x1_4, g6x1_5, g6x1_6, g6x1_7, g6x1_8, g6x1_9⟩ := p9' r6hq1.2) | (go_at_call 81; (with_reducible refine (HC6.out w6 HB6 hqt6).mono ?_); rintro e97 w7 ⟨rfl, hb7⟩; have HB7 := bt HB6 hb7; obtain ⟨r7hq1, hqt7⟩ := hE.out w7 HB7; clear g6x1_0 g6x1_1 g6x1_2 g6x1_3 g6x1_4 g6x1_5 g6x1_6 g6x1_7 g6x1_8 g6x1_9; obtain ⟨g7x1_0, g7x1_1, g7x1_2, g7x1_3, g7x1_4, g7x1_5, g7x1_6, g7x1_7, g7x1_8, g7x1_9⟩ := p9' r7hq1.2) | (go_at_call 86; (with_reducible refine (HC7.out w7 HB7 hqt7).mono ?_); rintro e98 w8 ⟨rfl, hb8⟩; have HB8 := bt HB7 hb8; obtain ⟨r8hq1, hqt8⟩ := hE.out w8 HB8; clear g7x1_0 g7x1_1 g7x1_2 g7x1_3 g7x1_4 g7x1_5 g7x1_6 g7x1_7 g7x1_8 g7x1_9; obtain ⟨g8x1_0, g8x1_1, g8x1_2, g8x1_3, g8x1_4, g8x1_5, g8x1_6, g8x1_7, g8x1_8, g8x1_9⟩ := p9' r8hq1.2) | (go_at_call 178; (with_reducible refine (HC8.out w8 HB8 hqt8).mono ?_); rintro e99 w9 ⟨rfl, hb9⟩; have HB9 := bt HB8 hb9; obtain ⟨r9hq1, hqt9⟩ := hE.out w9 HB9; clear g8x1_0 g8x1_1 g8x1_2 g8x1_3 g8x1_4 g8x1_5 g8x1_6 g8x1_7 g8x1_8 g8x1_9; obtain ⟨g9x1_0, g9x1_1, g9x1_2, g9x1_3, g9x1_4, g9x1_5, g9x1_6, g9x1_7, g9x1_8, g9x1_9⟩ := p9' r9hq1.2))
 go_ret
 exact ⟨by first | rfl | exact ret_bool rfl, hqt9⟩
theorem rightN (w : World) (t a s : ByteArray) (da5 : Option Addr) (fa5 : Nat) (da6 : Option Addr) (fa6 : Nat) (da7 : Option Addr) (fa7 : Nat) (da9 : Option Addr) (fa9 : Nat) (da10 : Option Addr) (fa10 : Nat) (da11 : Option Addr) (fa11 : Nat) (da12 : Option Addr) (fa12 : Nat) (do8 : Option Addr) (k8 fo8 R : Nat) (hm : MX w) (ht : IsText t) (ha : IsText a) (zt : t.size ≤ maxLen) (za : a.size ≤ maxLen) (zs : s.size ≤ maxLen) (hs : ¬ IsNm s) : Calls Tryz.prog 35 #[.agg #[.string t, .string a, .string s, .int .i64 1, .int .i64 0, .slice da5 0 fa5, .slice da6 0 fa6, .slice da7 0 fa7, .slice do8 k8 fo8, .slice da9 0 fa9, .slice da10 R fa10, .slice da11 0 fa11, .slice da12 0 fa12]] w (Gives w (.bool false)) := by
 have hct : ∀ W, Calls Tryz.prog 85 #[.string t] W (Gives W (.bool true)) := fun W => by have := Same0.gv (isText_calls t W zt); rw [dec_true ht] at this; exact this
 have hca : ∀ W, Calls Tryz.prog 85 #[.string a] W (Gives W (.bool true)) := fun W => by have := Same0.gv (isText_calls a W za); rw [dec_true ha] at this; exact this
 have hmf : ∀ (fn : Fn) (first cap : Array Value) (w : World), (Instr.makeFunc fn first cap).run Tryz.prog w = .ok (.func fn first cap) w := fun _ _ _ _ => rfl
 have hcs : ∀ W, Below w.heap.size w W → Calls Tryz.prog 80 #[.string s] W (Gives W (.bool false)) := fun W h => by have := Same0.gv (riName0 s W zs (hm.below h (Nat.le_refl _))); rw [dec_false hs] at this; exact this
 obtain ⟨W1, hW1⟩ : ∃ W1, w.alloc (.cells #[.string t, .string a, .string s, .int .i64 1, .int .i64 0, .slice da5 0 fa5, .slice da6 0 fa6, .slice da7 0 fa7, .slice do8 k8 fo8, .slice da9 0 fa9, .slice da10 R fa10, .slice da11 0 fa11, .slice da12 0 fa12] 29) = W1 := ⟨_, rfl⟩
 have hs1 := bs' hW1
 have hb1 := ba' hW1
 have hbx1 := bn' hW1
 obtain ⟨W2, hW2⟩ : ∃ W2, W1.alloc (.cells #[.func (.func 79) #[] #[]] 127) = W2 := ⟨_, rfl⟩
 have hs2 : W2.heap.size = w.heap.size + 1 + 1 := by rw [← hW2]; simp; exact hs1
 have hb2 := ba' hW2
 have hbx2 := bn' hW2
 rw [hs1] at hbx2
 have hE : Hid (∀ W, Below W2.heap.size W2 W → BoxAt W (w.heap.size) [.string t, .string a, .string s, .int .i64 1, .int .i64 0, .slice da5 0 fa5, .slice da6 0 fa6, .slice da7 0 fa7, .slice do8 k8 fo8, .slice da9 0 fa9, .slice da10 R fa10, .slice da11 0 fa11, .slice da12 0 fa12] ∧ BoxAt W (w.heap.size + 1) [.func (.func 79) #[] #[]] ∧ Below w.heap.size w W) := fun W h3 => ⟨hbx1.below (bt hb2 h3) (by omega), hbx2.below h3 (by omega), (hb1.trans ((bt hb2 h3).mono hb1.size))⟩
 have HZ0 := Lib.hid hs2
 have HW1 := Lib.hid hW1
 have HW2 := Lib.hid hW2
 clear hW1 hs1 hb1 hbx1 hW2 hs2 hb2 hbx2
 have HC0 := Lib.hid (fun (W : World) (hW : Below W2.heap.size W2 W) (hw : Below w.heap.size w W) => hct W)
 have HC1 := Lib.hid (fun (W : World) (hW : Below W2.heap.size W2 W) (hw : Below w.heap.size w W) => hca W)
 have HC2 := Lib.hid (fun (W : World) (hW : Below W2.heap.size W2 W) (hw : Below w.heap.size w W) => hcs W hw)
 clear hct hca hcs hm ht ha hs zt za zs
 go_enter Tryz.func35, Tryz.ntmps35
 go_upto_region 3 with fail
 rw [HW1.out, HW2.out]
 obtain ⟨hq1, hq2, hqt0⟩ := hE.out W2 (Below.refl _ _)
 have HB0 := b0' W2
 obtain ⟨g1_0, g1_1, g1_2, g1_3, g1_4, g1_5, g1_6, g1_7, g1_8, g1_9, g1_10, g1_11, g1_12⟩ := p12' hq1.2
 have g2_0 := e0' hq2.2
 go_wp2_with (first | (go_at_call 85; (with_reducible refine (HC0.out W2 HB0 hqt0).mono ?_); rintro e91 w1 ⟨rfl, hb1⟩; have HB1 := bt HB0 hb1; obtain ⟨r1hq1, r1hq2, hqt1⟩ := hE.out w1 HB1; clear g1_0 g1_1 g1_2 g1_3 g1_4 g1_5 g1_6 g1_7 g1_8 g1_9 g1_10 g1_11 g1_12 g2_0; obtain ⟨g1x1_0, g1x1_1, g1x1_2, g1x1_3, g1x1_4, g1x1_5, g1x1_6, g1x1_7, g1x1_8, g1x1_9, g1x1_10, g1x1_11, g1x1_12⟩ := p12' r1hq1.2; have g1x2_0 := e0' r1hq2.2) | (go_at_call 85; (with_reducible refine (HC1.out w1 HB1 hqt1).mono ?_); rintro e92 w2 ⟨rfl, hb2⟩; have HB2 := bt HB1 hb2; obtain ⟨r2hq1, r2hq2, hqt2⟩ := hE.out w2 HB2; clear g1x1_0 g1x1_1 g1x1_2 g1x1_3 g1x1_4 g1x1_5 g1x1_6 g1x1_7 g1x1_8 g1x1_9 g1x1_10 g1x1_11 g1x1_12 g1x2_0; obtain ⟨g2x1_0, g2x1_1, g2x1_2, g2x1_3, g2x1_4, g2x1_5, g2x1_6, g2x1_7, g2x1_8, g2x1_9, g2x1_10, g2x1_11, g2x1_12⟩ := p12' r2hq1.2; have g2x2_0 := e0' r2hq2.2) | (go_at_call 80; (with_reducible refine (HC2.out w2 HB2 hqt2).mono ?_); rintro e93 w3 ⟨rfl, hb3⟩; have HB3 := bt HB2 hb3; obtain ⟨r3hq1, r3hq2, hqt3⟩ := hE.out w3 HB3; clear g2x1_0 g2x1_1 g2x1_2 g2x1_3 g2x1_4 g2x1_5 g2x1_6 g2x1_7 g2x1_8 g2x1_9 g2x1_10 g2x1_11 g2x1_12 g2x2_0; obtain ⟨g3x1_0, g3x1_1, g3x1_2, g3x1_3, g3x1_4, g3x1_5, g3x1_6, g3x1_7, g3x1_8, g3x1_9, g3x1_10, g3x1_11, g3x1_12⟩ := p12' r3hq1.2; have g3x2_0 := e0' r3hq2.2))
 go_ret
 exact ⟨by first | rfl | exact ret_bool rfl, hqt3⟩
theorem rightY (w : World) (t a s : ByteArray) (da5 : Option Addr) (fa5 : Nat) (da6 : Option Addr) (fa6 : Nat) (da7 : Option Addr) (fa7 : Nat) (da9 : Option Addr) (fa9 : Nat) (da10 : Option Addr) (fa10 : Nat) (da11 : Option Addr) (fa11 : Nat) (da12 : Option Addr) (fa12 : Nat) (b : Nat) (hm : MX w) (ht : IsText t) (ha : IsText a) (zt : t.size ≤ maxLen) (za : a.size ≤ maxLen) (zs : s.size ≤ maxLen) (hs : IsNm s)
 (ho : ∀ W, Below w.heap.size w W → Calls Tryz.prog 88 #[.slice (some ⟨b, 0, none⟩) 1 1, .int .i64 126, .func (.func 89) #[] #[]] W (Gives W (.bool true))) : Calls Tryz.prog 35 #[.agg #[.string t, .string a, .string s, .int .i64 1, .int .i64 0, .slice da5 0 fa5, .slice da6 0 fa6, .slice da7 0 fa7, .slice (some ⟨b, 0, none⟩) 1 1, .slice da9 0 fa9, .slice da10 0 fa10, .slice da11 0 fa11, .slice da12 0 fa12]] w (Gives w (.bool true)) := by
 have hct : ∀ W, Calls Tryz.prog 85 #[.string t] W (Gives W (.bool true)) := fun W => by have := Same0.gv (isText_calls t W zt); rw [dec_true ht] at this; exact this
 have hca : ∀ W, Calls Tryz.prog 85 #[.string a] W (Gives W (.bool true)) := fun W => by have := Same0.gv (isText_calls a W za); rw [dec_true ha] at this; exact this
 have hmf : ∀ (fn : Fn) (first cap : Array Value) (w : World), (Instr.makeFunc fn first cap).run Tryz.prog w = .ok (.func fn first cap) w := fun _ _ _ _ => rfl
 have hcs : ∀ W, Below w.heap.size w W → Calls Tryz.prog 80 #[.string s] W (Gives W (.bool true)) := fun W h => by have := Same0.gv (riName0 s W zs (hm.below h (Nat.le_refl _))); rw [dec_true hs] at this; exact this
 obtain ⟨W1, hW1⟩ : ∃ W1, w.alloc (.cells #[.string t, .string a, .string s, .int .i64 1, .int .i64 0, .slice da5 0 fa5, .slice da6 0 fa6, .slice da7 0 fa7, .slice (some ⟨b, 0, none⟩) 1 1, .slice da9 0 fa9, .slice da10 0 fa10, .slice da11 0 fa11, .slice da12 0 fa12] 29) = W1 := ⟨_, rfl⟩
 have hs1 := bs' hW1
 have hb1 := ba' hW1
 have hbx1 := bn' hW1
 obtain ⟨W2, hW2⟩ : ∃ W2, W1.alloc (.cells #[.func (.func 79) #[] #[]] 127) = W2 := ⟨_, rfl⟩
 have hs2 : W2.heap.size = w.heap.size + 1 + 1 := by rw [← hW2]; simp; exact hs1
 have hb2 := ba' hW2
 have hbx2 := bn' hW2
 rw [hs1] at hbx2
 have hE : Hid (∀ W, Below W2.heap.size W2 W → BoxAt W (w.heap.size) [.string t, .string a, .string s, .int .i64 1, .int .i64 0, .slice da5 0 fa5, .slice da6 0 fa6, .slice da7 0 fa7, .slice (some ⟨b, 0, none⟩) 1 1, .slice da9 0 fa9, .slice da10 0 fa10, .slice da11 0 fa11, .slice da12 0 fa12] ∧ BoxAt W (w.heap.size + 1) [.func (.func 79) #[] #[]] ∧ Below w.heap.size w W) := fun W h3 => ⟨hbx1.below (bt hb2 h3) (by omega), hbx2.below h3 (by omega), (hb1.trans ((bt hb2 h3).mono hb1.size))⟩
 have HZ0 := Lib.hid hs2
 have HW1 := Lib.hid hW1
 have HW2 := Lib.hid hW2
 clear hW1 hs1 hb1 hbx1 hW2 hs2 hb2 hbx2
 have HC0 := Lib.hid (fun (W : World) (hW : Below W2.heap.size W2 W) (hw : Below w.heap.size w W) => hct W)
 have HC1 := Lib.hid (fun (W : World) (hW : Below W2.heap.size W2 W) (hw : Below w.heap.size w W) => hca W)
 have HC2 := Lib.hid (fun (W : World) (hW : Below W2.heap.size W2 W) (hw : Below w.heap.size w W) => hcs W hw)
 have HC3 := Lib.hid (fun (W : World) (hW : Below W2.heap.size W2 W) (hw : Below w.heap.size w W) => riNum1 1 W (by decide) (by decide))
 have HC4 := Lib.hid (fun (W : World) (hW : Below W2.heap.size W2 W) (hw : Below w.heap.size w W) => riNum1 0 W (by decide) (by decide))
 have HC5 := Lib.hid (fun (W : World) (hW : Below W2.heap.size W2 W) (hw : Below w.heap.size w W) => allNilString W 80 #[] 16 (by decide) da5 fa5)
 have HC6 := Lib.hid (fun (W : World) (hW : Below W2.heap.size W2 W) (hw : Below w.heap.size w W) => allNilPair W 87 #[] 16 (by decide) da6 fa6)
 have HC7 := Lib.hid (fun (W : World) (hW : Below W2.heap.size W2 W) (hw : Below w.heap.size w W) => allNilPair W 87 #[] 64 (by decide) da7 fa7)
 have HC8 := Lib.hid (fun (W : World) (hW : Below W2.heap.size W2 W) (hw : Below w.heap.size w W) => ho W hw)
 have HC9 := Lib.hid (fun (W : World) (hW : Below W2.heap.size W2 W) (hw : Below w.heap.size w W) => allNilVerb W 91 #[] 64 (by decide) da9 fa9)
 have HC10 := Lib.hid (fun (W : World) (hW : Below W2.heap.size W2 W) (hw : Below w.heap.size w W) => allNilRule W 93 #[] 512 (by decide) da10 fa10)
 have HC11 := Lib.hid (fun (W : World) (hW : Below W2.heap.size W2 W) (hw : Below w.heap.size w W) => allNilFunc W 79 #[] 64 (by decide) da11 fa11)
 have HC12 := Lib.hid (fun (W : World) (hW : Below W2.heap.size W2 W) (hw : Below w.heap.size w W) => allNilFunc W 83 #[.pointer (some ⟨w.heap.size + 1, 0, none⟩)] 16 (by decide) da12 fa12)
 clear hct hca hcs ho hm ht ha hs zt za zs
 go_enter Tryz.func35, Tryz.ntmps35
 go_upto_region 3 with fail
 rw [HW1.out, HW2.out]
 obtain ⟨hq1, hq2, hqt0⟩ := hE.out W2 (Below.refl _ _)
 have HB0 := b0' W2
 obtain ⟨g1_0, g1_1, g1_2, g1_3, g1_4, g1_5, g1_6, g1_7, g1_8, g1_9, g1_10, g1_11, g1_12⟩ := p12' hq1.2
 have g2_0 := e0' hq2.2
 go_wp2_with (first | (go_at_call 85; (with_reducible refine (HC0.out W2 HB0 hqt0).mono ?_); rintro e91 w1 ⟨rfl, hb1⟩; have HB1 := bt HB0 hb1; obtain ⟨r1hq1, r1hq2, hqt1⟩ := hE.out w1 HB1; clear g1_0 g1_1 g1_2 g1_3 g1_4 g1_5 g1_6 g1_7 g1_8 g1_9 g1_10 g1_11 g1_12 g2_0; obtain ⟨g1x1_0, g1x1_1, g1x1_2, g1x1_3, g1x1_4, g1x1_5, g1x1_6, g1x1_7, g1x1_8, g1x1_9, g1x1_10, g1x1_11, g1x1_12⟩ := p12' r1hq1.2; have g1x2_0 := e0' r1hq2.2) | (go_at_call 85; (with_reducible refine (HC1.out w1 HB1 hqt1).mono ?_); rintro e92 w2 ⟨rfl, hb2⟩; have HB2 := bt HB1 hb2; obtain ⟨r2hq1, r2hq2, hqt2⟩ := hE.out w2 HB2; clear g1x1_0 g1x1_1 g1x1_2 g1x1_3 g1x1_4 g1x1_5 g1x1_6 g1x1_7 g1x1_8 g1x1_9 g1x1_10 g1x1_11 g1x1_12 g1x2_0; obtain ⟨g2x1_0, g2x1_1, g2x1_2, g2x1_3, g2x1_4, g2x1_5, g2x1_6, g2x1_7, g2x1_8, g2x1_9, g2x1_10, g2x1_11, g2x1_12⟩ := p12' r2hq1.2; have g2x2_0 := e0' r2hq2.2) | (go_at_call 80; (with_reducible refine (HC2.out w2 HB2 hqt2).mono ?_); rintro e93 w3 ⟨rfl, hb3⟩; have HB3 := bt HB2 hb3; obtain ⟨r3hq1, r3hq2, hqt3⟩ := hE.out w3 HB3; clear g2x1_0 g2x1_1 g2x1_2 g2x1_3 g2x1_4 g2x1_5 g2x1_6 g2x1_7 g2x1_8 g2x1_9 g2x1_10 g2x1_11 g2x1_12 g2x2_0; obtain ⟨g3x1_0, g3x1_1, g3x1_2, g3x1_3, g3x1_4, g3x1_5, g3x1_6, g3x1_7, g3x1_8, g3x1_9, g3x1_10, g3x1_11, g3x1_12⟩ := p12' r3hq1.2; have g3x2_0 := e0' r3hq2.2) | (go_at_call 84; (with_reducible refine (HC3.out w3 HB3 hqt3).mono ?_); rintro e94 w4 ⟨rfl, hb4⟩; have HB4 := bt HB3 hb4; obtain ⟨r4hq1, r4hq2, hqt4⟩ := hE.out w4 HB4; clear g3x1_0 g3x1_1 g3x1_2 g3x1_3 g3x1_4 g3x1_5 g3x1_6 g3x1_7 g3x1_8 g3x1_9 g3x1_10 g3x1_11 g3x1_12 g3x2_0; obtain ⟨g4x1_0, g4x1_1, g4x1_2, g4x1_3, g4x1_4, g4x1_5, g4x1_6, g4x1_7, g4x1_8, g4x1_9, g4x1_10, g4x1_11, g4x1_12⟩ := p12' r4hq1.2; have g4x2_0 := e0' r4hq2.2) | (go_at_call 84; (with_reducible refine (HC4.out w4 HB4 hqt4).mono ?_); rintro e95 w5 ⟨rfl, hb5⟩; have HB5 := bt HB4 hb5; obtain ⟨r5hq1, r5hq2, hqt5⟩ := hE.out w5 HB5; clear g4x1_0 g4x1_1 g4x1_2 g4x1_3 g4x1_4 g4x1_5 g4x1_6 g4x1_7 g4x1_8 g4x1_9 g4x1_10 g4x1_11 g4x1_12 g4x2_0; obtain ⟨g5x1_0, g5x1_1, g5x1_2, g5x1_3, g5x1_4, g5x1_5, g5x1_6, g5x1_7, g5x1_8, g5x1_9, g5x1_10, g5x1_11, g5x1_12⟩ := p12' r5hq1.2; have g5x2_0 := e0' r5hq2.2) | (go_at_call 81; (with_reducible refine (HC5.out w5 HB5 hqt5).mono ?_); rintro e96 w6 ⟨rfl, hb6⟩; have HB6 := bt HB5 hb6; obtain ⟨r6hq1, r6hq2, hqt6⟩ := hE.out w6 HB6; clear g5x1_0 g5x1_1 g5x1_2 g5x1_3 g5x1_4 g5x1_5 g5x1_6 g5x1_7 g5x1_8 g5x1_9 g5x1_10 g5x1_11 g5x1_12 g5x2_0; obtain ⟨g6x1_0, g6x1_1, g6x1_2, g6x1_3, g6x1_4, g6x1_5, g6x1_6, g6x1_7, g6x1_8, g6x1_9, g6x1_10, g6x1_11, g6x1_12⟩ := p12' r6hq1.2; have g6x2_0 := e0' r6hq2.2) | (go_at_call 86; (with_reducible refine (HC6.out w6 HB6 hqt6).mono ?_); rintro e97 w7 ⟨rfl, hb7⟩; have HB7 := bt HB6 hb7; obtain ⟨r7hq1, r7hq2, hqt7⟩ := hE.out w7 HB7; clear g6x1_0 g6x1_1 g6x1_2 g6x1_3 g6x1_4 g6x1_5 g6x1_6 g6x1_7 g6x1_8 g6x1_9 g6x1_10 g6x1_11 g6x1_12 g6x2_0; obtain ⟨g7x1_0, g7x1_1, g7x1_2, g7x1_3, g7x1_4, g7x1_5, g7x1_6, g7x1_7, g7x1_8, g7x1_9, g7x1_10, g7x1_11, g7x1_12⟩ := p12' r7hq1.2; have g7x2_0 := e0' r7hq2.2) | (go_at_call 86; (with_reducible refine (HC7.out w7 HB7 hqt7).mono ?_); rintro e98 w8 ⟨rfl, hb8⟩; have HB8 := bt HB7 hb8; obtain ⟨r8hq1, r8hq2, hqt8⟩ := hE.out w8 HB8; clear g7x1_0 g7x1_1 g7x1_2 g7x1_3 g7x1_4 g7x1_5 g7x1_6 g7x1_7 g7x1_8 g7x1_9 g7x1_10 g7x1_11 g7x1_12 g7x2_0; obtain ⟨g8x1_0, g8x1_1, g8x1_2, g8x1_3, g8x1_4, g8x1_5, g8x1_6, g8x1_7, g8x1_8, g8x1_9, g8x1_10, g8x1_11, g8x1_12⟩ := p12' r8hq1.2; have g8x2_0 := e0' r8hq2.2) | (go_at_call 88; (with_reducible refine (HC8.out w8 HB8 hqt8).mono ?_); rintro e99 w9 ⟨rfl, hb9⟩; have HB9 := bt HB8 hb9; obtain ⟨r9hq1, r9hq2, hqt9⟩ := hE.out w9 HB9; clear g8x1_0 g8x1_1 g8x1_2 g8x1_3 g8x1_4 g8x1_5 g8x1_6 g8x1_7 g8x1_8 g8x1_9 g8x1_10 g8x1_11 g8x1_12 g8x2_0; obtain ⟨g9x1_0, g9x1_1, g9x1_2, g9x1_3, g9x1_4, g9x1_5, g9x1_6, g9x1_7, g9x1_8, g9x1_9, g9x1_10, g9x1_11, g9x1_12⟩ := p12' r9hq1.2; have g9x2_0 := e0' r9hq2.2) | (go_at_call 90; (with_reducible refine (HC9.out w9 HB9 hqt9).mono ?_); rintro e100 w10 ⟨rfl, hb10⟩; have HB10 := bt HB9 hb10; obtain ⟨r10hq1, r10hq2, hqt10⟩ := hE.out w10 HB10; clear g9x1_0 g9x1_1 g9x1_2 g9x1_3 g9x1_4 g9x1_5 g9x1_6 g9x1_7 g9x1_8 g9x1_9 g9x1_10 g9x1_11 g9x1_12 g9x2_0; obtain ⟨g10x1_0, g10x1_1, g10x1_2, g10x1_3, g10x1_4, g10x1_5, g10x1_6, g10x1_7, g10x1_8, g10x1_9, g10x1_10, g10x1_11, g10x1_12⟩ := p12' r10hq1.2; have g10x2_0 := e0' r10hq2.2) | (go_at_call 92; (with_reducible refine (HC10.out w10 HB10 hqt10).mono ?_); rintro e101 w11 ⟨rfl, hb11⟩; have HB11 := bt HB10 hb11; obtain ⟨r11hq1, r11hq2, hqt11⟩ := hE.out w11 HB11; clear g10x1_0 g10x1_1 g10x1_2 g10x1_3 g10x1_4 g10x1_5 g10x1_6 g10x1_7 g10x1_8 g10x1_9 g10x1_10 g10x1_11 g10x1_12 g10x2_0; obtain ⟨g11x1_0, g11x1_1, g11x1_2, g11x1_3, g11x1_4, g11x1_5, g11x1_6, g11x1_7, g11x1_8, g11x1_9, g11x1_10, g11x1_11, g11x1_12⟩ := p12' r11hq1.2; have g11x2_0 := e0' r11hq2.2) | (go_at_call 94; (with_reducible refine (HC11.out w11 HB11 hqt11).mono ?_); rintro e102 w12 ⟨rfl, hb12⟩; have HB12 := bt HB11 hb12; obtain ⟨r12hq1, r12hq2, hqt12⟩ := hE.out w12 HB12; clear g11x1_0 g11x1_1 g11x1_2 g11x1_3 g11x1_4 g11x1_5 g11x1_6 g11x1_7 g11x1_8 g11x1_9 g11x1_10 g11x1_11 g11x1_12 g11x2_0; obtain ⟨g12x1_0, g12x1_1, g12x1_2, g12x1_3, g12x1_4, g12x1_5, g12x1_6, g12x1_7, g12x1_8, g12x1_9, g12x1_10, g12x1_11, g12x1_12⟩ := p12' r12hq1.2; have g12x2_0 := e0' r12hq2.2) | (go_at_call 94; (with_reducible refine (HC12.out w12 HB12 hqt12).mono ?_); rintro e103 w13 ⟨rfl, hb13⟩; have HB13 := bt HB12 hb13; obtain ⟨r13hq1, r13hq2, hqt13⟩ := hE.out w13 HB13; clear g12x1_0 g12x1_1 g12x1_2 g12x1_3 g12x1_4 g12x1_5 g12x1_6 g12x1_7 g12x1_8 g12x1_9 g12x1_10 g12x1_11 g12x1_12 g12x2_0; obtain ⟨g13x1_0, g13x1_1, g13x1_2, g13x1_3, g13x1_4, g13x1_5, g13x1_6, g13x1_7, g13x1_8, g13x1_9, g13x1_10, g13x1_11, g13x1_12⟩ := p12' r13hq1.2; have g13x2_0 := e0' r13hq2.2))
 go_ret
 exact ⟨by first | rfl | exact ret_bool rfl, hqt13⟩
theorem soObj1 (w : World) (n t i x : ByteArray) (da5 : Option Addr) (fa5 : Nat) (da6 : Option Addr) (fa6 : Nat) (da7 : Option Addr) (fa7 : Nat) (da8 : Option Addr) (fa8 : Nat) (da9 : Option Addr) (fa9 : Nat) (db5 : Option Addr) (fb5 : Nat) (db6 : Option Addr) (fb6 : Nat) (db7 : Option Addr) (fb7 : Nat) (db8 : Option Addr) (fb8 : Nat) (db9 : Option Addr) (fb9 : Nat) : Calls Tryz.prog 102 #[.agg #[.string n, .string t, .string i, .string x, .bool true, .slice da5 0 fa5, .slice da6 0 fa6, .slice da7 0 fa7, .slice da8 0 fa8, .slice da9 0 fa9], .agg #[.string n, .string t, .string i, .string x, .bool true, .slice db5 0 fb5, .slice db6 0 fb6, .slice db7 0 fb7, .slice db8 0 fb8, .slice db9 0 fb9]] w (Gives w (.bool true)) := by
 obtain ⟨W1, hW1⟩ : ∃ W1, w.alloc (.cells #[.string n, .string t, .string i, .string x, .bool true, .slice da5 0 fa5, .slice da6 0 fa6, .slice da7 0 fa7, .slice da8 0 fa8, .slice da9 0 fa9] 63) = W1 := ⟨_, rfl⟩
 have hs1 := bs' hW1
 have hb1 := ba' hW1
 have hbx1 := bn' hW1
 obtain ⟨W2, hW2⟩ : ∃ W2, W1.alloc (.cells #[.string n, .string t, .string i, .string x, .bool true, .slice db5 0 fb5, .slice db6 0 fb6, .slice db7 0 fb7, .slice db8 0 fb8, .slice db9 0 fb9] 63) = W2 := ⟨_, rfl⟩
 have hs2 : W2.heap.size = w.heap.size + 1 + 1 := by rw [← hW2]; simp; exact hs1
 have hb2 := ba' hW2
 have hbx2 := bn' hW2
 rw [hs1] at hbx2
 have hE : Hid (∀ W, Below W2.heap.size W2 W → BoxAt W (w.heap.size) [.string n, .string t, .string i, .string x, .bool true, .slice da5 0 fa5, .slice da6 0 fa6, .slice da7 0 fa7, .slice da8 0 fa8, .slice da9 0 fa9] ∧ BoxAt W (w.heap.size + 1) [.string n, .string t, .string i, .string x, .bool true, .slice db5 0 fb5, .slice db6 0 fb6, .slice db7 0 fb7, .slice db8 0 fb8, .slice db9 0 fb9] ∧ Below w.heap.size w W) := fun W h3 => ⟨hbx1.below (bt hb2 h3) (by omega), hbx2.below h3 (by omega), (hb1.trans ((bt hb2 h3).mono hb1.size))⟩
 have HZ0 := Lib.hid hs2
 have HW1 := Lib.hid hW1
 have HW2 := Lib.hid hW2
 clear hW1 hs1 hb1 hbx1 hW2 hs2 hb2 hbx2
 have HC0 := Lib.hid (fun (W : World) (hW : Below W2.heap.size W2 W) (hw : Below w.heap.size w W) => eqNilString W da5 fa5 db5 fb5)
 have HC1 := Lib.hid (fun (W : World) (hW : Below W2.heap.size W2 W) (hw : Below w.heap.size w W) => eqNilString W da6 fa6 db6 fb6)
 have HC2 := Lib.hid (fun (W : World) (hW : Below W2.heap.size W2 W) (hw : Below w.heap.size w W) => eqNilString W da7 fa7 db7 fb7)
 have HC3 := Lib.hid (fun (W : World) (hW : Below W2.heap.size W2 W) (hw : Below w.heap.size w W) => eqNilPair W da8 fa8 db8 fb8)
 have HC4 := Lib.hid (fun (W : World) (hW : Below W2.heap.size W2 W) (hw : Below w.heap.size w W) => eqNilExit W 191 da9 fa9 db9 fb9)
 go_enter Tryz.func102, Tryz.ntmps102
 go_upto_region 1 with fail
 rw [HW1.out, HW2.out]
 obtain ⟨hq1, hq2, hqt0⟩ := hE.out W2 (Below.refl _ _)
 have HB0 := b0' W2
 obtain ⟨g1_0, g1_1, g1_2, g1_3, g1_4, g1_5, g1_6, g1_7, g1_8, g1_9⟩ := p9' hq1.2
 obtain ⟨g2_0, g2_1, g2_2, g2_3, g2_4, g2_5, g2_6, g2_7, g2_8, g2_9⟩ := p9' hq2.2
 go_wp2_with (first | (go_at_call 99; (with_reducible refine (HC0.out W2 HB0 hqt0).mono ?_); rintro e91 w1 ⟨rfl, hb1⟩; have HB1 := bt HB0 hb1; obtain ⟨r1hq1, r1hq2, hqt1⟩ := hE.out w1 HB1; clear g1_0 g1_1 g1_2 g1_3 g1_4 g1_5 g1_6 g1_7 g1_8 g1_9 g2_0 g2_1 g2_2 g2_3 g2_4 g2_5 g2_6 g2_7 g2_8 g2_9; obtain ⟨g1x1_0, g1x1_1, g1x1_2, g1x1_3, g1x1_4, g1x1_5, g1x1_6, g1x1_7, g1x1_8, g1x1_9⟩ := p9' r1hq1.2; obtain ⟨g1x2_0, g1x2_1, g1x2_2, g1x2_3, g1x2_4, g1x2_5, g1x2_6, g1x2_7, g1x2_8, g1x2_9⟩ := p9' r1hq2.2) | (go_at_call 99; (with_reducible refine (HC1.out w1 HB1 hqt1).mono ?_); rintro e92 w2 ⟨rfl, hb2⟩; have HB2 := bt HB1 hb2; obtain ⟨r2hq1, r2hq2, hqt2⟩ := hE.out w2 HB2; clear g1x1_0 g1x1_1 g1x1_2 g1x1_3 g1x1_4 g1x1_5 g1x1_6 g1x1_7 g1x1_8 g1x1_9 g1x2_0 g1x2_1 g1x2_2 g1x2_3 g1x2_4 g1x2_5 g1x2_6 g1x2_7 g1x2_8 g1x2_9; obtain ⟨g2x1_0, g2x1_1, g2x1_2, g2x1_3, g2x1_4, g2x1_5, g2x1_6, g2x1_7, g2x1_8, g2x1_9⟩ := p9' r2hq1.2; obtain ⟨g2x2_0, g2x2_1, g2x2_2, g2x2_3, g2x2_4, g2x2_5, g2x2_6, g2x2_7, g2x2_8, g2x2_9⟩ := p9' r2hq2.2) | (go_at_call 99; (with_reducible refine (HC2.out w2 HB2 hqt2).mono ?_); rintro e93 w3 ⟨rfl, hb3⟩; have HB3 := bt HB2 hb3; obtain ⟨r3hq1, r3hq2, hqt3⟩ := hE.out w3 HB3; clear g2x1_0 g2x1_1 g2x1_2 g2x1_3 g2x1_4 g2x1_5 g2x1_6 g2x1_7 g2x1_8 g2x1_9 g2x2_0 g2x2_1 g2x2_2 g2x2_3 g2x2_4 g2x2_5 g2x2_6 g2x2_7 g2x2_8 g2x2_9; obtain ⟨g3x1_0, g3x1_1, g3x1_2, g3x1_3, g3x1_4, g3x1_5, g3x1_6, g3x1_7, g3x1_8, g3x1_9⟩ := p9' r3hq1.2; obtain ⟨g3x2_0, g3x2_1, g3x2_2, g3x2_3, g3x2_4, g3x2_5, g3x2_6, g3x2_7, g3x2_8, g3x2_9⟩ := p9' r3hq2.2) | (go_at_call 100; (with_reducible refine (HC3.out w3 HB3 hqt3).mono ?_); rintro e94 w4 ⟨rfl, hb4⟩; have HB4 := bt HB3 hb4; obtain ⟨r4hq1, r4hq2, hqt4⟩ := hE.out w4 HB4; clear g3x1_0 g3x1_1 g3x1_2 g3x1_3 g3x1_4 g3x1_5 g3x1_6 g3x1_7 g3x1_8 g3x1_9 g3x2_0 g3x2_1 g3x2_2 g3x2_3 g3x2_4 g3x2_5 g3x2_6 g3x2_7 g3x2_8 g3x2_9; obtain ⟨g4x1_0, g4x1_1, g4x1_2, g4x1_3, g4x1_4, g4x1_5, g4x1_6, g4x1_7, g4x1_8, g4x1_9⟩ := p9' r4hq1.2; obtain ⟨g4x2_0, g4x2_1, g4x2_2, g4x2_3, g4x2_4, g4x2_5, g4x2_6, g4x2_7, g4x2_8, g4x2_9⟩ := p9' r4hq2.2) | (go_at_call 192; (with_reducible refine (HC4.out w4 HB4 hqt4).mono ?_); rintro e95 w5 ⟨rfl, hb5⟩; have HB5 := bt HB4 hb5; obtain ⟨r5hq1, r5hq2, hqt5⟩ := hE.out w5 HB5; clear g4x1_0 g4x1_1 g4x1_2 g4x1_3 g4x1_4 g4x1_5 g4x1_6 g4x1_7 g4x1_8 g4x1_9 g4x2_0 g4x2_1 g4x2_2 g4x2_3 g4x2_4 g4x2_5 g4x2_6 g4x2_7 g4x2_8 g4x2_9; obtain ⟨g5x1_0, g5x1_1, g5x1_2, g5x1_3, g5x1_4, g5x1_5, g5x1_6, g5x1_7, g5x1_8, g5x1_9⟩ := p9' r5hq1.2; obtain ⟨g5x2_0, g5x2_1, g5x2_2, g5x2_3, g5x2_4, g5x2_5, g5x2_6, g5x2_7, g5x2_8, g5x2_9⟩ := p9' r5hq2.2))
 go_ret
 exact ⟨by first | rfl | exact ret_bool rfl, hqt5⟩
theorem sameN (w : World) (t a s s2 : ByteArray) (da5 : Option Addr) (fa5 : Nat) (da6 : Option Addr) (fa6 : Nat) (da7 : Option Addr) (fa7 : Nat) (da9 : Option Addr) (fa9 : Nat) (da10 : Option Addr) (fa10 : Nat) (da11 : Option Addr) (fa11 : Nat) (da12 : Option Addr) (fa12 : Nat) (db5 : Option Addr) (fb5 : Nat) (db6 : Option Addr) (fb6 : Nat) (db7 : Option Addr) (fb7 : Nat) (db9 : Option Addr) (fb9 : Nat) (db10 : Option Addr) (fb10 : Nat) (db11 : Option Addr) (fb11 : Nat) (db12 : Option Addr) (fb12 : Nat) (do8 : Option Addr) (k8 fo8 R : Nat) (dq8 : Option Addr) (l8 fq8 R2 : Nat) (h : s ≠ s2) : Calls Tryz.prog 36 #[.agg #[.string t, .string a, .string s, .int .i64 1, .int .i64 0, .slice da5 0 fa5, .slice da6 0 fa6, .slice da7 0 fa7, .slice do8 k8 fo8, .slice da9 0 fa9, .slice da10 R fa10, .slice da11 0 fa11, .slice da12 0 fa12], .agg #[.string t, .string a, .string s2, .int .i64 1, .int .i64 0, .slice db5 0 fb5, .slice db6 0 fb6, .slice db7 0 fb7, .slice dq8 l8 fq8, .slice db9 0 fb9, .slice db10 R2 fb10, .slice db11 0 fb11, .slice db12 0 fb12]] w (Gives w (.bool false)) := by
 obtain ⟨W1, hW1⟩ : ∃ W1, w.alloc (.cells #[.string t, .string a, .string s, .int .i64 1, .int .i64 0, .slice da5 0 fa5, .slice da6 0 fa6, .slice da7 0 fa7, .slice do8 k8 fo8, .slice da9 0 fa9, .slice da10 R fa10, .slice da11 0 fa11, .slice da12 0 fa12] 29) = W1 := ⟨_, rfl⟩
 have hs1 := bs' hW1
 have hb1 := ba' hW1
 have hbx1 := bn' hW1
 obtain ⟨W2, hW2⟩ : ∃ W2, W1.alloc (.cells #[.string t, .string a, .string s2, .int .i64 1, .int .i64 0, .slice db5 0 fb5, .slice db6 0 fb6, .slice db7 0 fb7, .slice dq8 l8 fq8, .slice db9 0 fb9, .slice db10 R2 fb10, .slice db11 0 fb11, .slice db12 0 fb12] 29) = W2 := ⟨_, rfl⟩
 have hs2 : W2.heap.size = w.heap.size + 1 + 1 := by rw [← hW2]; simp; exact hs1
 have hb2 := ba' hW2
 have hbx2 := bn' hW2
 rw [hs1] at hbx2
 have hE : Hid (∀ W, Below W2.heap.size W2 W → BoxAt W (w.heap.size) [.string t, .string a, .string s, .int .i64 1, .int .i64 0, .slice da5 0 fa5, .slice da6 0 fa6, .slice da7 0 fa7, .slice do8 k8 fo8, .slice da9 0 fa9, .slice da10 R fa10, .slice da11 0 fa11, .slice da12 0 fa12] ∧ BoxAt W (w.heap.size + 1) [.string t, .string a, .string s2, .int .i64 1, .int .i64 0, .slice db5 0 fb5, .slice db6 0 fb6, .slice db7 0 fb7, .slice dq8 l8 fq8, .slice db9 0 fb9, .slice db10 R2 fb10, .slice db11 0 fb11, .slice db12 0 fb12] ∧ Below w.heap.size w W) := fun W h3 => ⟨hbx1.below (bt hb2 h3) (by omega), hbx2.below h3 (by omega), (hb1.trans ((bt hb2 h3).mono hb1.size))⟩
 have HZ0 := Lib.hid hs2
 have HW1 := Lib.hid hW1
 have HW2 := Lib.hid hW2
 clear hW1 hs1 hb1 hbx1 hW2 hs2 hb2 hbx2
 have e0 : (s.toList == s2.toList) = false := strne h
 clear h
 go_enter Tryz.func36, Tryz.ntmps36
 go_upto_region 1 with fail
 rw [HW1.out, HW2.out]
 obtain ⟨hq1, hq2, hqt0⟩ := hE.out W2 (Below.refl _ _)
 have HB0 := b0' W2
 obtain ⟨g1_0, g1_1, g1_2⟩ := p2' hq1.2
 obtain ⟨g2_0, g2_1, g2_2⟩ := p2' hq2.2
 go_wp2_with fail
 go_ret
 exact ⟨by first | rfl | exact ret_bool rfl, hqt0⟩
theorem sameY (w : World) (t a s : ByteArray) (da5 : Option Addr) (fa5 : Nat) (da6 : Option Addr) (fa6 : Nat) (da7 : Option Addr) (fa7 : Nat) (da9 : Option Addr) (fa9 : Nat) (da10 : Option Addr) (fa10 : Nat) (da11 : Option Addr) (fa11 : Nat) (da12 : Option Addr) (fa12 : Nat) (db5 : Option Addr) (fb5 : Nat) (db6 : Option Addr) (fb6 : Nat) (db7 : Option Addr) (fb7 : Nat) (db9 : Option Addr) (fb9 : Nat) (db10 : Option Addr) (fb10 : Nat) (db11 : Option Addr) (fb11 : Nat) (db12 : Option Addr) (fb12 : Nat) (b c : Nat)
 (ho : ∀ W, Below w.heap.size w W → Calls Tryz.prog 101 #[.slice (some ⟨b, 0, none⟩) 1 1, .slice (some ⟨c, 0, none⟩) 1 1, .func (.func 102) #[] #[]] W (Gives W (.bool true))) : Calls Tryz.prog 36 #[.agg #[.string t, .string a, .string s, .int .i64 1, .int .i64 0, .slice da5 0 fa5, .slice da6 0 fa6, .slice da7 0 fa7, .slice (some ⟨b, 0, none⟩) 1 1, .slice da9 0 fa9, .slice da10 0 fa10, .slice da11 0 fa11, .slice da12 0 fa12], .agg #[.string t, .string a, .string s, .int .i64 1, .int .i64 0, .slice db5 0 fb5, .slice db6 0 fb6, .slice db7 0 fb7, .slice (some ⟨c, 0, none⟩) 1 1, .slice db9 0 fb9, .slice db10 0 fb10, .slice db11 0 fb11, .slice db12 0 fb12]] w (Gives w (.bool true)) := by
 obtain ⟨W1, hW1⟩ : ∃ W1, w.alloc (.cells #[.string t, .string a, .string s, .int .i64 1, .int .i64 0, .slice da5 0 fa5, .slice da6 0 fa6, .slice da7 0 fa7, .slice (some ⟨b, 0, none⟩) 1 1, .slice da9 0 fa9, .slice da10 0 fa10, .slice da11 0 fa11, .slice da12 0 fa12] 29) = W1 := ⟨_, rfl⟩
 have hs1 := bs' hW1
 have hb1 := ba' hW1
 have hbx1 := bn' hW1
 obtain ⟨W2, hW2⟩ : ∃ W2, W1.alloc (.cells #[.string t, .string a, .string s, .int .i64 1, .int .i64 0, .slice db5 0 fb5, .slice db6 0 fb6, .slice db7 0 fb7, .slice (some ⟨c, 0, none⟩) 1 1, .slice db9 0 fb9, .slice db10 0 fb10, .slice db11 0 fb11, .slice db12 0 fb12] 29) = W2 := ⟨_, rfl⟩
 have hs2 : W2.heap.size = w.heap.size + 1 + 1 := by rw [← hW2]; simp; exact hs1
 have hb2 := ba' hW2
 have hbx2 := bn' hW2
 rw [hs1] at hbx2
 have hE : Hid (∀ W, Below W2.heap.size W2 W → BoxAt W (w.heap.size) [.string t, .string a, .string s, .int .i64 1, .int .i64 0, .slice da5 0 fa5, .slice da6 0 fa6, .slice da7 0 fa7, .slice (some ⟨b, 0, none⟩) 1 1, .slice da9 0 fa9, .slice da10 0 fa10, .slice da11 0 fa11, .slice da12 0 fa12] ∧ BoxAt W (w.heap.size + 1) [.string t, .string a, .string s, .int .i64 1, .int .i64 0, .slice db5 0 fb5, .slice db6 0 fb6, .slice db7 0 fb7, .slice (some ⟨c, 0, none⟩) 1 1, .slice db9 0 fb9, .slice db10 0 fb10, .slice db11 0 fb11, .slice db12 0 fb12] ∧ Below w.heap.size w W) := fun W h3 => ⟨hbx1.below (bt hb2 h3) (by omega), hbx2.below h3 (by omega), (hb1.trans ((bt hb2 h3).mono hb1.size))⟩
 have HZ0 := Lib.hid hs2
 have HW1 := Lib.hid hW1
 have HW2 := Lib.hid hW2
 clear hW1 hs1 hb1 hbx1 hW2 hs2 hb2 hbx2
 have HC0 := Lib.hid (fun (W : World) (hW : Below W2.heap.size W2 W) (hw : Below w.heap.size w W) => eqNilString W da5 fa5 db5 fb5)
 have HC1 := Lib.hid (fun (W : World) (hW : Below W2.heap.size W2 W) (hw : Below w.heap.size w W) => eqNilPair W da6 fa6 db6 fb6)
 have HC2 := Lib.hid (fun (W : World) (hW : Below W2.heap.size W2 W) (hw : Below w.heap.size w W) => eqNilPair W da7 fa7 db7 fb7)
 have HC3 := Lib.hid (fun (W : World) (hW : Below W2.heap.size W2 W) (hw : Below w.heap.size w W) => ho W hw)
 have HC4 := Lib.hid (fun (W : World) (hW : Below W2.heap.size W2 W) (hw : Below w.heap.size w W) => eqNilVerb W 104 da9 fa9 db9 fb9)
 have HC5 := Lib.hid (fun (W : World) (hW : Below W2.heap.size W2 W) (hw : Below w.heap.size w W) => eqNilRule W 95 da10 fa10 db10 fb10)
 have HC6 := Lib.hid (fun (W : World) (hW : Below W2.heap.size W2 W) (hw : Below w.heap.size w W) => eqNilFunc W 98 da11 fa11 db11 fb11)
 have HC7 := Lib.hid (fun (W : World) (hW : Below W2.heap.size W2 W) (hw : Below w.heap.size w W) => eqNilFunc W 98 da12 fa12 db12 fb12)
 clear ho
 go_enter Tryz.func36, Tryz.ntmps36
 go_upto_region 1 with fail
 rw [HW1.out, HW2.out]
 obtain ⟨hq1, hq2, hqt0⟩ := hE.out W2 (Below.refl _ _)
 have HB0 := b0' W2
 obtain ⟨g1_0, g1_1, g1_2, g1_3, g1_4, g1_5, g1_6, g1_7, g1_8, g1_9, g1_10, g1_11, g1_12⟩ := p12' hq1.2
 obtain ⟨g2_0, g2_1, g2_2, g2_3, g2_4, g2_5, g2_6, g2_7, g2_8, g2_9, g2_10, g2_11, g2_12⟩ := p12' hq2.2
 go_wp2_with (first | (go_at_call 99; (with_reducible refine (HC0.out W2 HB0 hqt0).mono ?_); rintro e91 w1 ⟨rfl, hb1⟩; have HB1 := bt HB0 hb1; obtain ⟨r1hq1, r1hq2, hqt1⟩ := hE.out w1 HB1; clear g1_0 g1_1 g1_2 g1_3 g1_4 g1_5 g1_6 g1_7 g1_8 g1_9 g1_10 g1_11 g1_12 g2_0 g2_1 g2_2 g2_3 g2_4 g2_5 g2_6 g2_7 g2_8 g2_9 g2_10 g2_11 g2_12; obtain ⟨g1x1_0, g1x1_1, g1x1_2, g1x1_3, g1x1_4, g1x1_5, g1x1_6, g1x1_7, g1x1_8, g1x1_9, g1x1_10, g1x1_11, g1x1_12⟩ := p12' r1hq1.2; obtain ⟨g1x2_0, g1x2_1, g1x2_2, g1x2_3, g1x2_4, g1x2_5, g1x2_6, g1x2_7, g1x2_8, g1x2_9, g1x2_10, g1x2_11, g1x2_12⟩ := p12' r1hq2.2) | (go_at_call 100; (with_reducible refine (HC1.out w1 HB1 hqt1).mono ?_); rintro e92 w2 ⟨rfl, hb2⟩; have HB2 := bt HB1 hb2; obtain ⟨r2hq1, r2hq2, hqt2⟩ := hE.out w2 HB2; clear g1x1_0 g1x1_1 g1x1_2 g1x1_3 g1x1_4 g1x1_5 g1x1_6 g1x1_7 g1x1_8 g1x1_9 g1x1_10 g1x1_11 g1x1_12 g1x2_0 g1x2_1 g1x2_2 g1x2_3 g1x2_4 g1x2_5 g1x2_6 g1x2_7 g1x2_8 g1x2_9 g1x2_10 g1x2_11 g1x2_12; obtain ⟨g2x1_0, g2x1_1, g2x1_2, g2x1_3, g2x1_4, g2x1_5, g2x1_6, g2x1_7, g2x1_8, g2x1_9, g2x1_10, g2x1_11, g2x1_12⟩ := p12' r2hq1.2; obtain ⟨g2x2_0, g2x2_1, g2x2_2, g2x2_3, g2x2_4, g2x2_5, g2x2_6, g2x2_7, g2x2_8, g2x2_9, g2x2_10, g2x2_11, g2x2_12⟩ := p12' r2hq2.2) | (go_at_call 100; (with_reducible refine (HC2.out w2 HB2 hqt2).mono ?_); rintro e93 w3 ⟨rfl, hb3⟩; have HB3 := bt HB2 hb3; obtain ⟨r3hq1, r3hq2, hqt3⟩ := hE.out w3 HB3; clear g2x1_0 g2x1_1 g2x1_2 g2x1_3 g2x1_4 g2x1_5 g2x1_6 g2x1_7 g2x1_8 g2x1_9 g2x1_10 g2x1_11 g2x1_12 g2x2_0 g2x2_1 g2x2_2 g2x2_3 g2x2_4 g2x2_5 g2x2_6 g2x2_7 g2x2_8 g2x2_9 g2x2_10 g2x2_11 g2x2_12; obtain ⟨g3x1_0, g3x1_1, g3x1_2, g3x1_3, g3x1_4, g3x1_5, g3x1_6, g3x1_7, g3x1_8, g3x1_9, g3x1_10, g3x1_11, g3x1_12⟩ := p12' r3hq1.2; obtain ⟨g3x2_0, g3x2_1, g3x2_2, g3x2_3, g3x2_4, g3x2_5, g3x2_6, g3x2_7, g3x2_8, g3x2_9, g3x2_10, g3x2_11, g3x2_12⟩ := p12' r3hq2.2) | (go_at_call 101; (with_reducible refine (HC3.out w3 HB3 hqt3).mono ?_); rintro e94 w4 ⟨rfl, hb4⟩; have HB4 := bt HB3 hb4; obtain ⟨r4hq1, r4hq2, hqt4⟩ := hE.out w4 HB4; clear g3x1_0 g3x1_1 g3x1_2 g3x1_3 g3x1_4 g3x1_5 g3x1_6 g3x1_7 g3x1_8 g3x1_9 g3x1_10 g3x1_11 g3x1_12 g3x2_0 g3x2_1 g3x2_2 g3x2_3 g3x2_4 g3x2_5 g3x2_6 g3x2_7 g3x2_8 g3x2_9 g3x2_10 g3x2_11 g3x2_12; obtain ⟨g4x1_0, g4x1_1, g4x1_2, g4x1_3, g4x1_4, g4x1_5, g4x1_6, g4x1_7, g4x1_8, g4x1_9, g4x1_10, g4x1_11, g4x1_12⟩ := p12' r4hq1.2; obtain ⟨g4x2_0, g4x2_1, g4x2_2, g4x2_3, g4x2_4, g4x2_5, g4x2_6, g4x2_7, g4x2_8, g4x2_9, g4x2_10, g4x2_11, g4x2_12⟩ := p12' r4hq2.2) | (go_at_call 103; (with_reducible refine (HC4.out w4 HB4 hqt4).mono ?_); rintro e95 w5 ⟨rfl, hb5⟩; have HB5 := bt HB4 hb5; obtain ⟨r5hq1, r5hq2, hqt5⟩ := hE.out w5 HB5; clear g4x1_0 g4x1_1 g4x1_2 g4x1_3 g4x1_4 g4x1_5 g4x1_6 g4x1_7 g4x1_8 g4x1_9 g4x1_10 g4x1_11 g4x1_12 g4x2_0 g4x2_1 g4x2_2 g4x2_3 g4x2_4 g4x2_5 g4x2_6 g4x2_7 g4x2_8 g4x2_9 g4x2_10 g4x2_11 g4x2_12; obtain ⟨g5x1_0, g5x1_1, g5x1_2, g5x1_3, g5x1_4, g5x1_5, g5x1_6, g5x1_7, g5x1_8, g5x1_9, g5x1_10, g5x1_11, g5x1_12⟩ := p12' r5hq1.2; obtain ⟨g5x2_0, g5x2_1, g5x2_2, g5x2_3, g5x2_4, g5x2_5, g5x2_6, g5x2_7, g5x2_8, g5x2_9, g5x2_10, g5x2_11, g5x2_12⟩ := p12' r5hq2.2) | (go_at_call 105; (with_reducible refine (HC5.out w5 HB5 hqt5).mono ?_); rintro e96 w6 ⟨rfl, hb6⟩; have HB6 := bt HB5 hb6; obtain ⟨r6hq1, r6hq2, hqt6⟩ := hE.out w6 HB6; clear g5x1_0 g5x1_1 g5x1_2 g5x1_3 g5x1_4 g5x1_5 g5x1_6 g5x1_7 g5x1_8 g5x1_9 g5x1_10 g5x1_11 g5x1_12 g5x2_0 g5x2_1 g5x2_2 g5x2_3 g5x2_4 g5x2_5 g5x2_6 g5x2_7 g5x2_8 g5x2_9 g5x2_10 g5x2_11 g5x2_12; obtain ⟨g6x1_0, g6x1_1, g6x1_2, g6x1_3, g6x1_4, g6x1_5, g6x1_6, g6x1_7, g6x1_8, g6x1_9, g6x1_10, g6x1_11, g6x1_12⟩ := p12' r6hq1.2; obtain ⟨g6x2_0, g6x2_1, g6x2_2, g6x2_3, g6x2_4, g6x2_5, g6x2_6, g6x2_7, g6x2_8, g6x2_9, g6x2_10, g6x2_11, g6x2_12⟩ := p12' r6hq2.2) | (go_at_call 106; (with_reducible refine (HC6.out w6 HB6 hqt6).mono ?_); rintro e97 w7 ⟨rfl, hb7⟩; have HB7 := bt HB6 hb7; obtain ⟨r7hq1, r7hq2, hqt7⟩ := hE.out w7 HB7; clear g6x1_0 g6x1_1 g6x1_2 g6x1_3 g6x1_4 g6x1_5 g6x1_6 g6x1_7 g6x1_8 g6x1_9 g6x1_10 g6x1_11 g6x1_12 g6x2_0 g6x2_1 g6x2_2 g6x2_3 g6x2_4 g6x2_5 g6x2_6 g6x2_7 g6x2_8 g6x2_9 g6x2_10 g6x2_11 g6x2_12; obtain ⟨g7x1_0, g7x1_1, g7x1_2, g7x1_3, g7x1_4, g7x1_5, g7x1_6, g7x1_7, g7x1_8, g7x1_9, g7x1_10, g7x1_11, g7x1_12⟩ := p12' r7hq1.2; obtain ⟨g7x2_0, g7x2_1, g7x2_2, g7x2_3, g7x2_4, g7x2_5, g7x2_6, g7x2_7, g7x2_8, g7x2_9, g7x2_10, g7x2_11, g7x2_12⟩ := p12' r7hq2.2) | (go_at_call 106; (with_reducible refine (HC7.out w7 HB7 hqt7).mono ?_); rintro e98 w8 ⟨rfl, hb8⟩; have HB8 := bt HB7 hb8; obtain ⟨r8hq1, r8hq2, hqt8⟩ := hE.out w8 HB8; clear g7x1_0 g7x1_1 g7x1_2 g7x1_3 g7x1_4 g7x1_5 g7x1_6 g7x1_7 g7x1_8 g7x1_9 g7x1_10 g7x1_11 g7x1_12 g7x2_0 g7x2_1 g7x2_2 g7x2_3 g7x2_4 g7x2_5 g7x2_6 g7x2_7 g7x2_8 g7x2_9 g7x2_10 g7x2_11 g7x2_12; obtain ⟨g8x1_0, g8x1_1, g8x1_2, g8x1_3, g8x1_4, g8x1_5, g8x1_6, g8x1_7, g8x1_8, g8x1_9, g8x1_10, g8x1_11, g8x1_12⟩ := p12' r8hq1.2; obtain ⟨g8x2_0, g8x2_1, g8x2_2, g8x2_3, g8x2_4, g8x2_5, g8x2_6, g8x2_7, g8x2_8, g8x2_9, g8x2_10, g8x2_11, g8x2_12⟩ := p12' r8hq2.2))
 go_ret
 exact ⟨by first | rfl | exact ret_bool rfl, hqt8⟩
end Go.Proofs.YtdeecfkipknkbaaGreatDoor
