/- slices.Equal and slices.EqualFunc at the types of a source: each tells whether two lists are the same. Printed by gen-show20.py. -/
import Derived.Test.YtdeecfkipknkbaaGreatDoorPart5e38a312
import Derived.Test.YtdeecfkipknkbaaGreatDoorPart65b68abe
import Derived.BigQuiet
import Derived.Deep.QuietTactic
import Derived.Deep.DeepCutAuto
import Derived.Deep.CutBlock
import Derived.StillTailTactics
namespace Go.Proofs.YtdeecfkipknkbaaGreatDoor
set_option maxRecDepth 100000
set_option maxHeartbeats 1000000
open Go.RowKit
def aggA (cs : List Value) : Value := .agg cs.toArray
def oneA (cs : List Value) : Value := cs.headD undef
def Asks1 {α : Type} (R : Holds α) (arg : List Value → Value) (F : Nat → Prop) (w : World) (f : Nat) (caps : Array Value) (x : α) (b : Bool) : Prop := ∀ (w' : World) (cs : List Value), Below w.heap.size w w' → R.R F w' x cs → Calls Tryz.prog f (#[arg cs] ++ caps) w' (Gives w' (.bool b))
def Asks2 {α : Type} (R : Holds α) (arg : List Value → Value) (F : Nat → Prop) (w : World) (f : Nat) (caps : Array Value) (x y : α) (b : Bool) : Prop := ∀ (w' : World) (cs ds : List Value), Below w.heap.size w w' → R.R F w' x cs → R.R F w' y ds → Calls Tryz.prog f (#[arg cs, arg ds] ++ caps) w' (Gives w' (.bool b))
theorem cell_al {w : World} {a : Addr} {v : Value} (h : w.cell? a = some v) (o : Obj) : (w.alloc o).cell? a = some v := (World.cell?_of_block (w := w) (a := a) (Below.heap_alloc w o _ (World.block_lt_of_cell? w a h))).trans h
theorem take_same {α : Type} {l m : List α} {k : Nat} (h : l.take k = m.take k) (h1 : k < l.length) (h2 : k < m.length) (he : l[k] = m[k]) : l.take (k + 1) = m.take (k + 1) := by
 rw [List.take_succ_eq_append_getElem h1, List.take_succ_eq_append_getElem h2, h, he]
theorem ex_shape {F : Nat → Prop} {w : World} {x : Ex} {cs : List Value} (h : RdEx F w x cs) : ∃ k o n s d f, cs = [.int .i64 k, .int .i64 o, .int .i64 n, .string s, .slice d x.args.length f] := by
 obtain ⟨k, o, n, s, args⟩ := x
 obtain ⟨_, _, _, _, v, c, rfl, ⟨d, f, rfl, _⟩, _⟩ := h
 exact ⟨k, o, n, s, d, f, rfl⟩
theorem eqfObject_calls (F : Nat → Prop) (w : World) (f : Nat) (caps : Array Value) (l m : List (ObjD)) (v u : Value) (hF : Inn F w) (hr : RdL Holds.obj 10 F w l v) (hr2 : RdL Holds.obj 10 F w m u) (hcf : ∀ (args : Array Value) (w : World), (callFunc f args).run Tryz.prog w = .ok (.enter f args) w) (hf : ∀ x ∈ l, ∀ y ∈ m, Asks2 Holds.obj aggA F w f caps x y (same x y)) :
 Calls Tryz.prog 101 #[v, u, .func (.func f) #[] caps] w (Gives w (.bool (same l m))) := by
 obtain ⟨a, cap, rfl, hl, hc, ha⟩ := hr.opn
 obtain ⟨a2, cap2, rfl, hl2, hc2, ha2⟩ := hr2.opn
 unfold maxLen at hc hc2
 by_cases hlen : l.length = m.length
 rotate_left
 · have hfin : Hid (same l m = false) := same_ne (fun h => hlen (by rw [h]))
   have e0 : ((l.length : Int) != (m.length : Int)) = true := by simp; omega
   clear hr hr2 hf ha ha2 hlen
   go_enter Tryz.func101, Tryz.ntmps101
   go_wp2
   go_ret
   exact ⟨ret_bool hfin.out.symm, Below.refl _ _⟩
 have hfin1 : Hid (l.take l.length = m.take l.length → same l m = true) := fun h => same_eq (by rw [List.take_length, hlen, List.take_length] at h; exact h)
 have HL := Lib.hid hlen
 rw [← hlen]
 clear hr hr2 hlen
 go_enter Tryz.func101, Tryz.ntmps101
 go_wp2
 go_loopw [17] (fun i wr => ∃ (k : Nat), k ≤ l.length ∧ i = .int .i64 k ∧ Hid (l.take k = m.take k) ∧ Below w.heap.size w wr) (fun i _ => l.length - (intOf i).toNat)
 case atStart => exact ⟨0, Nat.zero_le _, rfl, by show _ = _; rw [List.take_zero, List.take_zero], Below.refl _ _⟩
 case round =>
  obtain ⟨k, hk, rfl, hq, hB⟩ := hrel
  by_cases hlt : k < l.length
  · have hlt2 : k < m.length := by have := HL.out; omega
    obtain ⟨b, off, rfl, hFb, hel⟩ := ha (by omega)
    obtain ⟨b2, off2, rfl, hFb2, hel2⟩ := ha2 (by omega)
    obtain ⟨cs, hx, -, hcell⟩ := hel wr (hB.block b (hF b hFb)) k hlt
    obtain ⟨ds, hy, -, hdell⟩ := hel2 wr (hB.block b2 (hF b2 hFb2)) k hlt2
    have hxm := hf _ (List.getElem_mem hlt) _ (List.getElem_mem hlt2)
    obtain ⟨x, hxe⟩ : ∃ x, l[k] = x := ⟨_, rfl⟩
    obtain ⟨y, hye⟩ : ∃ y, m[k] = y := ⟨_, rfl⟩
    rw [hxe] at hx hxm
    rw [hye] at hy hxm
    have hx2 := hx
    have hy2 := hy
    obtain ⟨-, -, -, -, va5, va6, va7, va8, va9, rfl, ka5, ka6, ka7, ka8, ka9⟩ := hx2
    obtain ⟨da5, fa5, rfl⟩ := ka5.shape
    obtain ⟨da6, fa6, rfl⟩ := ka6.shape
    obtain ⟨da7, fa7, rfl⟩ := ka7.shape
    obtain ⟨da8, fa8, rfl⟩ := ka8.shape
    obtain ⟨da9, fa9, rfl⟩ := ka9.shape
    obtain ⟨-, -, -, -, vb5, vb6, vb7, vb8, vb9, rfl, kb5, kb6, kb7, kb8, kb9⟩ := hy2
    obtain ⟨db5, fb5, rfl⟩ := kb5.shape
    obtain ⟨db6, fb6, rfl⟩ := kb6.shape
    obtain ⟨db7, fb7, rfl⟩ := kb7.shape
    obtain ⟨db8, fb8, rfl⟩ := kb8.shape
    obtain ⟨db9, fb9, rfl⟩ := kb9.shape
    have g0 := hcell 0 _ rfl
    have g1 := hcell 1 _ rfl
    have g2 := hcell 2 _ rfl
    have g3 := hcell 3 _ rfl
    have g4 := hcell 4 _ rfl
    have g5 := hcell 5 _ rfl
    have g6 := hcell 6 _ rfl
    have g7 := hcell 7 _ rfl
    have g8 := hcell 8 _ rfl
    have g9 := hcell 9 _ rfl
    have h0 := hdell 0 _ rfl
    have h1 := hdell 1 _ rfl
    have h2 := hdell 2 _ rfl
    have h3 := hdell 3 _ rfl
    have h4 := hdell 4 _ rfl
    have h5 := hdell 5 _ rfl
    have h6 := hdell 6 _ rfl
    have h7 := hdell 7 _ rfl
    have h8 := hdell 8 _ rfl
    have h9 := hdell 9 _ rfl
    simp only [Nat.add_zero] at g0 h0
    have hcall : Calls Tryz.prog f (#[.agg #[.string x.name, .string x.title, .string x.inn, .string x.text, .bool x.room, .slice da5 x.words.length fa5, .slice da6 x.adjs.length fa6, .slice da7 x.flags.length fa7, .slice da8 x.props.length fa8, .slice da9 x.exits.length fa9], .agg #[.string y.name, .string y.title, .string y.inn, .string y.text, .bool y.room, .slice db5 y.words.length fb5, .slice db6 y.adjs.length fb6, .slice db7 y.flags.length fb7, .slice db8 y.props.length fb8, .slice db9 y.exits.length fb9]] ++ caps) ((wr.alloc (.cells #[.string x.name, .string x.title, .string x.inn, .string x.text, .bool x.room, .slice da5 x.words.length fa5, .slice da6 x.adjs.length fa6, .slice da7 x.flags.length fa7, .slice da8 x.props.length fa8, .slice da9 x.exits.length fa9] 63)).alloc (.cells #[.string y.name, .string y.title, .string y.inn, .string y.text, .bool y.room, .slice db5 y.words.length fb5, .slice db6 y.adjs.length fb6, .slice db7 y.flags.length fb7, .slice db8 y.props.length fb8, .slice db9 y.exits.length fb9] 63)) (Gives ((wr.alloc (.cells #[.string x.name, .string x.title, .string x.inn, .string x.text, .bool x.room, .slice da5 x.words.length fa5, .slice da6 x.adjs.length fa6, .slice da7 x.flags.length fa7, .slice da8 x.props.length fa8, .slice da9 x.exits.length fa9] 63)).alloc (.cells #[.string y.name, .string y.title, .string y.inn, .string y.text, .bool y.room, .slice db5 y.words.length fb5, .slice db6 y.adjs.length fb6, .slice db7 y.flags.length fb7, .slice db8 y.props.length fb8, .slice db9 y.exits.length fb9] 63)) (.bool (same x y))) :=
     hxm _ [.string x.name, .string x.title, .string x.inn, .string x.text, .bool x.room, .slice da5 x.words.length fa5, .slice da6 x.adjs.length fa6, .slice da7 x.flags.length fa7, .slice da8 x.props.length fa8, .slice da9 x.exits.length fa9] [.string y.name, .string y.title, .string y.inn, .string y.text, .bool y.room, .slice db5 y.words.length fb5, .slice db6 y.adjs.length fb6, .slice db7 y.flags.length fb7, .slice db8 y.props.length fb8, .slice db9 y.exits.length fb9] ((hB.alloc hB.size _).alloc (Nat.le_trans hB.size (by simp)) _) (Holds.below _ hx hF ((hB.alloc hB.size _).alloc (Nat.le_trans hB.size (by simp)) _) (Nat.le_refl _)) (Holds.below _ hy hF ((hB.alloc hB.size _).alloc (Nat.le_trans hB.size (by simp)) _) (Nat.le_refl _))
    have h0a := cell_al h0 (.cells #[.string x.name, .string x.title, .string x.inn, .string x.text, .bool x.room, .slice da5 x.words.length fa5, .slice da6 x.adjs.length fa6, .slice da7 x.flags.length fa7, .slice da8 x.props.length fa8, .slice da9 x.exits.length fa9] 63)
    have h1a := cell_al h1 (.cells #[.string x.name, .string x.title, .string x.inn, .string x.text, .bool x.room, .slice da5 x.words.length fa5, .slice da6 x.adjs.length fa6, .slice da7 x.flags.length fa7, .slice da8 x.props.length fa8, .slice da9 x.exits.length fa9] 63)
    have h2a := cell_al h2 (.cells #[.string x.name, .string x.title, .string x.inn, .string x.text, .bool x.room, .slice da5 x.words.length fa5, .slice da6 x.adjs.length fa6, .slice da7 x.flags.length fa7, .slice da8 x.props.length fa8, .slice da9 x.exits.length fa9] 63)
    have h3a := cell_al h3 (.cells #[.string x.name, .string x.title, .string x.inn, .string x.text, .bool x.room, .slice da5 x.words.length fa5, .slice da6 x.adjs.length fa6, .slice da7 x.flags.length fa7, .slice da8 x.props.length fa8, .slice da9 x.exits.length fa9] 63)
    have h4a := cell_al h4 (.cells #[.string x.name, .string x.title, .string x.inn, .string x.text, .bool x.room, .slice da5 x.words.length fa5, .slice da6 x.adjs.length fa6, .slice da7 x.flags.length fa7, .slice da8 x.props.length fa8, .slice da9 x.exits.length fa9] 63)
    have h5a := cell_al h5 (.cells #[.string x.name, .string x.title, .string x.inn, .string x.text, .bool x.room, .slice da5 x.words.length fa5, .slice da6 x.adjs.length fa6, .slice da7 x.flags.length fa7, .slice da8 x.props.length fa8, .slice da9 x.exits.length fa9] 63)
    have h6a := cell_al h6 (.cells #[.string x.name, .string x.title, .string x.inn, .string x.text, .bool x.room, .slice da5 x.words.length fa5, .slice da6 x.adjs.length fa6, .slice da7 x.flags.length fa7, .slice da8 x.props.length fa8, .slice da9 x.exits.length fa9] 63)
    have h7a := cell_al h7 (.cells #[.string x.name, .string x.title, .string x.inn, .string x.text, .bool x.room, .slice da5 x.words.length fa5, .slice da6 x.adjs.length fa6, .slice da7 x.flags.length fa7, .slice da8 x.props.length fa8, .slice da9 x.exits.length fa9] 63)
    have h8a := cell_al h8 (.cells #[.string x.name, .string x.title, .string x.inn, .string x.text, .bool x.room, .slice da5 x.words.length fa5, .slice da6 x.adjs.length fa6, .slice da7 x.flags.length fa7, .slice da8 x.props.length fa8, .slice da9 x.exits.length fa9] 63)
    have h9a := cell_al h9 (.cells #[.string x.name, .string x.title, .string x.inn, .string x.text, .bool x.room, .slice da5 x.words.length fa5, .slice da6 x.adjs.length fa6, .slice da7 x.flags.length fa7, .slice da8 x.props.length fa8, .slice da9 x.exits.length fa9] 63)
    have hki : (k : Int) < (l.length : Int) := by omega
    have hki0 : (0 : Int) ≤ (k : Int) := by omega
    have hkc : (l.length : Int) ≤ (cap2 : Int) := by have := HL.out; omega
    have hnx0 : Hid (x = y → l.take (k + 1) = m.take (k + 1)) := fun h => take_same hq.out hlt hlt2 (by rw [hxe, hye, h])
    have hno : Hid (x ≠ y → same l m = false) := fun h => same_ne (fun e => h (by subst e; rw [← hxe, ← hye]))
    clear ha ha2 hel hel2 hcell hdell hx hy hf hxm hxe hye
    by_cases hP : x = y
    · rw [same_eq hP] at hcall
      have hnx := Lib.hid (hnx0.out hP)
      have HC := Lib.hid hcall
      clear hcall hP hq hnx0 hno
      go_wp2_with ((with_reducible refine HC.out.mono ?_); rintro e w' ⟨rfl, hb⟩)
      have hbw : Below wr.heap.size wr w' := (((Below.refl _ wr).alloc (Nat.le_refl _) _).alloc (by simp) _).trans (hb.mono (by simp; omega))
      go_roundw
      case rel => exact ⟨k + 1, by omega, by go_num, hnx.out, bt hB hbw⟩
      case measure => simp [intOf]; omega
    rw [same_ne hP] at hcall
    have hfin := Lib.hid (hno.out hP)
    have HC := Lib.hid hcall
    clear hcall hP hq hnx0 hno
    go_wp2_with ((with_reducible refine HC.out.mono ?_); rintro e w' ⟨rfl, hb⟩)
    have hbw : Below wr.heap.size wr w' := (((Below.refl _ wr).alloc (Nat.le_refl _) _).alloc (by simp) _).trans (hb.mono (by simp; omega))
    go_ret
    exact ⟨ret_bool hfin.out.symm, bt hB hbw⟩
  have : k = l.length := by omega
  subst this
  have hfin := Lib.hid (hfin1.out hq.out)
  have hki : decide ((l.length : Int) < (l.length : Int)) = false := by simp
  clear hq hf ha ha2 hfin1
  go_wp2
  go_ret
  exact ⟨ret_bool hfin.out.symm, hB⟩
theorem exs_rdl {F : Nat → Prop} {w : World} {l : List Ex} {v : Value} (h : Exs F w l v) : RdL Holds.ex 5 F w l v := by
 obtain ⟨c, h1, h2⟩ := h
 exact ⟨c, h1, fun i hi => RdRow.get h2 i hi⟩
end Go.Proofs.YtdeecfkipknkbaaGreatDoor
/- slices.IndexFunc, slices.ContainsFunc and show.all at objects. Printed by gen-show20.py. -/
namespace Go.Proofs.YtdeecfkipknkbaaGreatDoor
set_option maxRecDepth 100000
set_option maxHeartbeats 1000000
open Go.RowKit
def GivesIdx (w : World) (p : Prop) (e : Ending) (w' : World) : Prop := ∃ n : Int, (0 ≤ n ↔ p) ∧ e = .returned (.int .i64 n) ∧ Below w.heap.size w w'
theorem idxObject_calls (F : Nat → Prop) (w : World) (f : Nat) (caps : Array Value) (l : List (ObjD)) (v : Value) (P : (ObjD) → Prop) (hF : Inn F w) (hr : RdL Holds.obj 10 F w l v) (hcf : ∀ (args : Array Value) (w : World), (callFunc f args).run Tryz.prog w = .ok (.enter f args) w) (hf : ∀ x ∈ l, Asks1 Holds.obj aggA F w f caps x (dec (P x))) :
 Calls Tryz.prog 249 #[v, .func (.func f) #[] caps] w (GivesIdx w (∃ x ∈ l, P x)) := by
 obtain ⟨a, cap, rfl, hl, hc, ha⟩ := hr.opn
 unfold maxLen at hc
 clear hr
 go_enter Tryz.func249, Tryz.ntmps249
 go_wp2
 go_loopw [8] (fun i wr => ∃ (k : Nat), k ≤ l.length ∧ i = .int .i64 k ∧ Hid (∀ x ∈ l.take k, ¬ P x) ∧ Below w.heap.size w wr) (fun i _ => l.length - (intOf i).toNat)
 case atStart => exact ⟨0, Nat.zero_le _, rfl, by simp [Hid], Below.refl _ _⟩
 case round =>
  obtain ⟨k, hk, rfl, hq, hB⟩ := hrel
  by_cases hlt : k < l.length
  · obtain ⟨b, off, rfl, hFb, hel⟩ := ha (by omega)
    obtain ⟨cs, hx, -, hcell⟩ := hel wr (hB.block b (hF b hFb)) k hlt
    have hxm := hf _ (List.getElem_mem hlt)
    have hin := List.getElem_mem hlt
    have hte : l.take (k + 1) = l.take k ++ [l[k]] := List.take_succ_eq_append_getElem hlt
    generalize l[k] = x at hx hxm hin hte
    have hx2 := hx
    obtain ⟨-, -, -, -, va5, va6, va7, va8, va9, rfl, ka5, ka6, ka7, ka8, ka9⟩ := hx2
    obtain ⟨da5, fa5, rfl⟩ := ka5.shape
    obtain ⟨da6, fa6, rfl⟩ := ka6.shape
    obtain ⟨da7, fa7, rfl⟩ := ka7.shape
    obtain ⟨da8, fa8, rfl⟩ := ka8.shape
    obtain ⟨da9, fa9, rfl⟩ := ka9.shape
    have g0 := hcell 0 _ rfl
    have g1 := hcell 1 _ rfl
    have g2 := hcell 2 _ rfl
    have g3 := hcell 3 _ rfl
    have g4 := hcell 4 _ rfl
    have g5 := hcell 5 _ rfl
    have g6 := hcell 6 _ rfl
    have g7 := hcell 7 _ rfl
    have g8 := hcell 8 _ rfl
    have g9 := hcell 9 _ rfl
    simp only [Nat.add_zero] at g0
    have hcall : Calls Tryz.prog f (#[.agg #[.string x.name, .string x.title, .string x.inn, .string x.text, .bool x.room, .slice da5 x.words.length fa5, .slice da6 x.adjs.length fa6, .slice da7 x.flags.length fa7, .slice da8 x.props.length fa8, .slice da9 x.exits.length fa9]] ++ caps) wr (Gives wr (.bool (dec (P x)))) := hxm _ [.string x.name, .string x.title, .string x.inn, .string x.text, .bool x.room, .slice da5 x.words.length fa5, .slice da6 x.adjs.length fa6, .slice da7 x.flags.length fa7, .slice da8 x.props.length fa8, .slice da9 x.exits.length fa9] hB (Holds.below _ hx hF hB (Nat.le_refl _))
    have hki : (k : Int) < (l.length : Int) := by omega
    have hki0 : (0 : Int) ≤ (k : Int) := by omega
    clear ha hel hcell hx hf hxm
    by_cases hP : P x
    · rw [dec_true hP] at hcall
      have hfin : Hid ((0 : Int) ≤ (k : Int) ↔ ∃ x ∈ l, P x) := ⟨fun _ => ⟨x, hin, hP⟩, fun _ => hki0⟩
      have HC := Lib.hid hcall
      clear hcall hP hq hin hte
      go_wp2_with ((with_reducible refine HC.out.mono ?_); rintro e w' ⟨rfl, hb⟩)
      go_ret
      exact ⟨k, hfin.out, rfl, bt hB hb⟩
    rw [dec_false hP] at hcall
    have hnx : Hid (∀ x ∈ l.take (k + 1), ¬ P x) := by
     show ∀ x ∈ l.take (k + 1), ¬ P x
     rw [hte]; intro y hy
     rcases List.mem_append.1 hy with h | h
     · exact hq.out y h
     rw [List.mem_singleton.1 h]; exact hP
    have HC := Lib.hid hcall
    clear hcall hP hq hin hte
    go_wp2_with ((with_reducible refine HC.out.mono ?_); rintro e w' ⟨rfl, hb⟩)
    go_roundw
    case rel => exact ⟨k + 1, by omega, by go_num, hnx, bt hB hb⟩
    case measure => simp [intOf]; omega
  have : k = l.length := by omega
  subst this
  have hfin : Hid ((0 : Int) ≤ -1 ↔ ∃ x ∈ l, P x) := ⟨fun h => absurd h (by decide), fun ⟨x, hx, hp⟩ => absurd hp (hq.out x (by rw [List.take_length]; exact hx))⟩
  clear hq hf ha
  go_wp2
  go_ret
  exact ⟨-1, hfin.out, rfl, hB⟩
theorem conObject_calls (F : Nat → Prop) (w : World) (f : Nat) (caps : Array Value) (l : List (ObjD)) (v : Value) (P : (ObjD) → Prop) (hF : Inn F w) (hr : RdL Holds.obj 10 F w l v) (hcf : ∀ (args : Array Value) (w : World), (callFunc f args).run Tryz.prog w = .ok (.enter f args) w) (hf : ∀ x ∈ l, Asks1 Holds.obj aggA F w f caps x (dec (P x))) :
 Calls Tryz.prog 173 #[v, .func (.func f) #[] caps] w (Gives w (.bool (dec (∃ x ∈ l, P x)))) := by
 have hc := idxObject_calls F w f caps l v P hF hr hcf hf
 have hyes : Hid ((∃ x ∈ l, P x) → dec (∃ x ∈ l, P x) = true) := fun h => dec_true h
 have hno : Hid (¬ (∃ x ∈ l, P x) → dec (∃ x ∈ l, P x) = false) := fun h => dec_false h
 obtain ⟨a, cap, rfl⟩ := hr.shape
 generalize dec (∃ x ∈ l, P x) = r at hyes hno
 have HC := Lib.hid hc
 clear hc hf hr hcf
 go_enter Tryz.func173, Tryz.ntmps173
 go_wp2_with (go_at_call 249; refine HC.out.mono ?_; rintro e w1 ⟨n, hn, rfl, hb⟩; have hn2 := Lib.hid hn; clear hn)
 go_ret
 refine ⟨ret_bool ?_, hb⟩
 by_cases h : ∃ x ∈ l, P x
 · rw [hyes.out h]; simpa using hn2.out.2 h
 rw [hno.out h]; have := fun h1 => h (hn2.out.1 h1); simpa using this
theorem aclObject_calls (F : Nat → Prop) (w W : World) (f q : Nat) (caps : Array Value) (x : ObjD) (cs : List Value) (b : Bool) (hF : Inn F w) (hW : Below w.heap.size w W) (hcf : ∀ (args : Array Value) (w : World), (callFunc f args).run Tryz.prog w = .ok (.enter f args) w) (hq : W.cell? ⟨q, 0, none⟩ = some (.func (.func f) #[] caps)) (hx : Holds.obj.R F W x cs) (hf : Asks1 Holds.obj aggA F w f caps x b) :
 Calls Tryz.prog 174 (#[aggA cs] ++ #[.pointer (some ⟨q, 0, none⟩)]) W (Gives W (.bool (!b))) := by
 have hx2 := hx
 obtain ⟨-, -, -, -, va5, va6, va7, va8, va9, rfl, ka5, ka6, ka7, ka8, ka9⟩ := hx2
 obtain ⟨da5, fa5, rfl⟩ := ka5.shape
 obtain ⟨da6, fa6, rfl⟩ := ka6.shape
 obtain ⟨da7, fa7, rfl⟩ := ka7.shape
 obtain ⟨da8, fa8, rfl⟩ := ka8.shape
 obtain ⟨da9, fa9, rfl⟩ := ka9.shape
 have hcall : Calls Tryz.prog f (#[.agg #[.string x.name, .string x.title, .string x.inn, .string x.text, .bool x.room, .slice da5 x.words.length fa5, .slice da6 x.adjs.length fa6, .slice da7 x.flags.length fa7, .slice da8 x.props.length fa8, .slice da9 x.exits.length fa9]] ++ caps) (W.alloc (.cells #[.string x.name, .string x.title, .string x.inn, .string x.text, .bool x.room, .slice da5 x.words.length fa5, .slice da6 x.adjs.length fa6, .slice da7 x.flags.length fa7, .slice da8 x.props.length fa8, .slice da9 x.exits.length fa9] 63)) (Gives (W.alloc (.cells #[.string x.name, .string x.title, .string x.inn, .string x.text, .bool x.room, .slice da5 x.words.length fa5, .slice da6 x.adjs.length fa6, .slice da7 x.flags.length fa7, .slice da8 x.props.length fa8, .slice da9 x.exits.length fa9] 63)) (.bool b)) := hf _ [.string x.name, .string x.title, .string x.inn, .string x.text, .bool x.room, .slice da5 x.words.length fa5, .slice da6 x.adjs.length fa6, .slice da7 x.flags.length fa7, .slice da8 x.props.length fa8, .slice da9 x.exits.length fa9] (hW.alloc hW.size _) (Holds.below _ hx (hF.below hW) ((Below.refl _ W).alloc (Nat.le_refl _) _) (Nat.le_refl _))
 have hqa := cell_al hq (.cells #[.string x.name, .string x.title, .string x.inn, .string x.text, .bool x.room, .slice da5 x.words.length fa5, .slice da6 x.adjs.length fa6, .slice da7 x.flags.length fa7, .slice da8 x.props.length fa8, .slice da9 x.exits.length fa9] 63)
 show Calls Tryz.prog 174 #[.agg #[.string x.name, .string x.title, .string x.inn, .string x.text, .bool x.room, .slice da5 x.words.length fa5, .slice da6 x.adjs.length fa6, .slice da7 x.flags.length fa7, .slice da8 x.props.length fa8, .slice da9 x.exits.length fa9], .pointer (some ⟨q, 0, none⟩)] W _
 have HC := Lib.hid hcall
 clear hcall hx hf
 go_enter Tryz.func174, Tryz.ntmps174
 go_wp2_with ((with_reducible refine HC.out.mono ?_); rintro e w' ⟨rfl, hb⟩)
 go_ret
 exact ⟨rfl, ((Below.refl _ W).alloc (Nat.le_refl _) _).trans (hb.mono (by simp))⟩
theorem allObject_calls (F : Nat → Prop) (w : World) (f : Nat) (caps : Array Value) (l : List (ObjD)) (m : Int) (v : Value) (P : (ObjD) → Prop) (hF : Inn F w) (hr : RdL Holds.obj 10 F w l v) (hcf : ∀ (args : Array Value) (w : World), (callFunc f args).run Tryz.prog w = .ok (.enter f args) w) (hf : ∀ x ∈ l, Asks1 Holds.obj aggA F w f caps x (dec (P x))) :
 Calls Tryz.prog 88 #[v, .int .i64 m, .func (.func f) #[] caps] w (Gives w (.bool (dec ((l.length : Int) ≤ m ∧ ∀ x ∈ l, P x)))) := by
 have hB0 : Below w.heap.size w (w.alloc (.cells #[.func (.func f) #[] caps] 60)) := (Below.refl _ w).alloc (Nat.le_refl _) _
 have hmf : ∀ (fn : Fn) (first cap : Array Value) (w : World), (Instr.makeFunc fn first cap).run Tryz.prog w = .ok (.func fn first cap) w := fun _ _ _ _ => rfl
 have hcc : ∀ (args : Array Value) (w : World), (callFunc 174 args).run Tryz.prog w = .ok (.enter 174 args) w := fun _ _ => by kernel_rfl
 have hcon := conObject_calls F (w.alloc (.cells #[.func (.func f) #[] caps] 60)) 174 #[.pointer (some ⟨w.heap.size, 0, none⟩)] l v (fun x => ¬ P x) (hF.alloc _) (hr.alloc hF _) hcc (fun x hx => fun W cs hW hr => by
  have h2 := aclObject_calls F w W f w.heap.size caps x cs (dec (P x)) hF (hB0.trans (hW.mono (by simp))) hcf (by rw [hW.cell (by simp)]; simp) hr (hf x hx)
  rw [show dec (¬ P x) = !dec (P x) from by by_cases h : P x; rw [dec_true h, dec_false (by simpa using h)]; rfl; rw [dec_false h, dec_true h]; rfl]
  exact h2)
 obtain ⟨a, cap, rfl⟩ := hr.shape
 clear hf hr
 by_cases hm : (l.length : Int) ≤ m
 · have hm1 : decide ((l.length : Int) ≤ m) = true := by simpa using hm
   have hfin : Hid (dec ((l.length : Int) ≤ m ∧ ∀ x ∈ l, P x) = !dec (∃ x ∈ l, ¬ P x)) := by
    show _ = _
    by_cases h : ∀ x ∈ l, P x
    · rw [dec_true ⟨hm, h⟩, dec_false (fun ⟨x, hx, hn⟩ => hn (h x hx))]; rfl
    rw [dec_false (fun h2 => h h2.2), dec_true (by simpa using h)]; rfl
   generalize dec (∃ x ∈ l, ¬ P x) = r at hcon hfin
   have HC := Lib.hid hcon
   have HB0 := Lib.hid hB0
   clear hcon hm hB0 hcc
   go_enter Tryz.func88, Tryz.ntmps88
   go_wp2_with (go_at_call 173; refine HC.out.mono ?_; rintro e w1 ⟨rfl, hb⟩)
   go_ret
   exact ⟨ret_bool hfin.out.symm, HB0.out.trans (hb.mono (by simp))⟩
 have hm1 : decide ((l.length : Int) ≤ m) = false := by simpa using hm
 have hfin : Hid (dec ((l.length : Int) ≤ m ∧ ∀ x ∈ l, P x) = false) := dec_false (fun h => hm h.1)
 have HB0 := Lib.hid hB0
 clear hcon hm hB0 hcc
 go_enter Tryz.func88, Tryz.ntmps88
 go_wp2_with fail
 go_ret
 exact ⟨ret_bool hfin.out.symm, HB0.out⟩
end Go.Proofs.YtdeecfkipknkbaaGreatDoor
