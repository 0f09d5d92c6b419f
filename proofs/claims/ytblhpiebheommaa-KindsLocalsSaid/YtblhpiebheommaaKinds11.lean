/- The walk of kinds.Block. Printed by gen-kinds11.py. -/
import Derived.Test.YtblhpiebheommaaKinds10
namespace Go.Proofs.Ytblhpiebheommaa
open Go.RowKit

set_option maxRecDepth 100000 in
set_option maxHeartbeats 2000000 in
theorem block1_walk (t : List NameD) (s : SrcD) (l : List ByteArray) (wh : Int) (L : List St) (F : Nat → Prop) (w : World) (b0 b1 b2 b3 b4 : Nat) (tv lv Lv : Value) (ss : List Value) (hF : Inn F w) (hri : Rises t) (ht : t.length ≤ 1000000000000) (htab : TabOk t s.funcs s.objects.length) (hlen : l.length ≤ 1000)
    (hb0 : BoxAt w b0 [tv]) (hb1 : BoxAt w b1 ss) (hb2 : BoxAt w b2 [lv]) (hb3 : BoxAt w b3 [.int .i64 wh]) (hb4 : BoxAt w b4 [Lv]) (h0 : RdNames F w t tv) (h1 : Holds.src.R F w s ss) (h2 : RdStrs F w l lv) (h4 : Sts F w L Lv) :
    Calls Try.prog 38 #[.pointer (some ⟨b0, 0, none⟩), .pointer (some ⟨b1, 0, none⟩), .pointer (some ⟨b3, 0, none⟩), .pointer (some ⟨b4, 0, none⟩), .pointer (some ⟨b2, 0, none⟩)] w (Judged w (St.kWs t s.funcs wh l 0 L) (.tuple #[])) := by
  have H0 := Lib.hid h0
  have H2 := Lib.hid h2
  have H4 := Lib.hid h4
  have HF := Lib.hid hF
  obtain ⟨a0, c0, rfl⟩ := h0.shape
  obtain ⟨a2, c2, rfl⟩ := h2.shape
  obtain ⟨al, cl, rfl⟩ := h4.shape
  obtain ⟨a5, c5, a6, c6, a7, c7, a8, c8, a9, c9, a10, c10, a11, c11, a12, c12, rfl, -, -, -, -, -, -, g11, -⟩ := src_shape h1
  have t0 := hb0.one
  have l0 := hb2.one
  have w0 := hb3.one
  have L0 := hb4.one
  have L0' : ∀ o, (w.alloc o).cell? ⟨b4, 0, none⟩ = some (.slice al L.length cl) := fun o => (World.cell?_of_block (w := w) (a := ⟨b4, 0, none⟩) (Below.heap_alloc w o _ hb4.1)).trans L0
  have l0' : ∀ o, (w.alloc o).cell? ⟨b2, 0, none⟩ = some (.slice a2 l.length c2) := fun o => (World.cell?_of_block (w := w) (a := ⟨b2, 0, none⟩) (Below.heap_alloc w o _ hb2.1)).trans l0
  have s0 := hb1.2 0 (by simp)
  have s1 := hb1.2 1 (by simp)
  have s2 := hb1.2 2 (by simp)
  have s3 := hb1.2 3 (by simp)
  have s4 := hb1.2 4 (by simp)
  have s5 := hb1.2 5 (by simp)
  have s6 := hb1.2 6 (by simp)
  have s7 := hb1.2 7 (by simp)
  have s8 := hb1.2 8 (by simp)
  have s9 := hb1.2 9 (by simp)
  have s10 := hb1.2 10 (by simp)
  have s11 := hb1.2 11 (by simp)
  have s12 := hb1.2 12 (by simp)
  simp only [List.getElem?_cons_succ, List.getElem?_cons_zero] at s0 s1 s2 s3 s4 s5 s6 s7 s8 s9 s10 s11 s12
  have hBn : Below w.heap.size w (w.alloc (.cells #[.slice a0 t.length c0, .string s.title, .string s.author, .string s.start, .int .i64 s.release, .int .i64 s.most, .slice a5 s.flags.length c5, .slice a6 s.props.length c6, .slice a7 s.globals.length c7, .slice a8 s.objects.length c8, .slice a9 s.verbs.length c9, .slice a10 s.rules.length c10, .slice a11 s.funcs.length c11, .slice a12 s.daemons.length c12, .slice none 0 0, .int .i64 wh, .int .i64 0] 80)) := (Below.refl _ w).alloc (Nat.le_refl _) _
  have hbx := bx_new w [.slice a0 t.length c0, .string s.title, .string s.author, .string s.start, .int .i64 s.release, .int .i64 s.most, .slice a5 s.flags.length c5, .slice a6 s.props.length c6, .slice a7 s.globals.length c7, .slice a8 s.objects.length c8, .slice a9 s.verbs.length c9, .slice a10 s.rules.length c10, .slice a11 s.funcs.length c11, .slice a12 s.daemons.length c12, .slice none 0 0, .int .i64 wh, .int .i64 0] 80 _ rfl
  have hz : w.heap.size < (w.alloc (.cells #[.slice a0 t.length c0, .string s.title, .string s.author, .string s.start, .int .i64 s.release, .int .i64 s.most, .slice a5 s.flags.length c5, .slice a6 s.props.length c6, .slice a7 s.globals.length c7, .slice a8 s.objects.length c8, .slice a9 s.verbs.length c9, .slice a10 s.rules.length c10, .slice a11 s.funcs.length c11, .slice a12 s.daemons.length c12, .slice none 0 0, .int .i64 wh, .int .i64 0] 80)).heap.size := by simp
  have hck : Ck F (w.alloc (.cells #[.slice a0 t.length c0, .string s.title, .string s.author, .string s.start, .int .i64 s.release, .int .i64 s.most, .slice a5 s.flags.length c5, .slice a6 s.props.length c6, .slice a7 s.globals.length c7, .slice a8 s.objects.length c8, .slice a9 s.verbs.length c9, .slice a10 s.rules.length c10, .slice a11 s.funcs.length c11, .slice a12 s.daemons.length c12, .slice none 0 0, .int .i64 wh, .int .i64 0] 80)) w.heap.size t s.funcs wh 0 0 [] (.slice none 0 0) := ⟨fun b hb => hF b hb, ⟨hz, _, hbx 0 (by simp), h0.below hF hBn (Nat.le_refl _)⟩, ⟨hz, _, hbx 12 (by simp), g11.below hF hBn (Nat.le_refl _)⟩, hbx 15 (by simp), hbx 16 (by simp), hbx 14 (by simp), Loc.nil _ _ _, by simp, by simp⟩
  have hcall0 := block_calls t s.funcs s.objects.length hri ht htab L [] l wh 0 F F _ _ 0 _ _ _ hck (h4.below hF hBn (Nat.le_refl _)) (h2.below hF hBn (Nat.le_refl _)) (hF.below hBn) (by omega) (by omega) (Nat.zero_le _) (by simp; omega)
  rw [List.nil_append] at hcall0
  have hcall : Calls Try.prog 39 #[.pointer (some ⟨w.heap.size, 0, none⟩), .slice al L.length cl, .slice a2 l.length c2] (w.alloc (.cells #[.slice a0 t.length c0, .string s.title, .string s.author, .string s.start, .int .i64 s.release, .int .i64 s.most, .slice a5 s.flags.length c5, .slice a6 s.props.length c6, .slice a7 s.globals.length c7, .slice a8 s.objects.length c8, .slice a9 s.verbs.length c9, .slice a10 s.rules.length c10, .slice a11 s.funcs.length c11, .slice a12 s.daemons.length c12, .slice none 0 0, .int .i64 wh, .int .i64 0] 80)) (Judged w (St.kWs t s.funcs wh l 0 L) (.tuple #[])) := hcall0.mono fun e w' ⟨q1, q2, q3⟩ => ⟨fun h => (q1 h).1, fun h => (q2 h).1, hBn.trans (q3.toBelow (by omega) (Nat.le_refl _) (fun _ h => h.elim))⟩
  clear hcall0 hck hbx hz htab hri h0 h1 h2 h4 g11 hb0 hb1 hb2 hb3 hb4
  by_cases hp : (St.kWs t s.funcs wh l 0 L).1 = 0
  · have HC : Hid (Calls Try.prog 39 #[.pointer (some ⟨w.heap.size, 0, none⟩), .slice al L.length cl, .slice a2 l.length c2] (w.alloc (.cells #[.slice a0 t.length c0, .string s.title, .string s.author, .string s.start, .int .i64 s.release, .int .i64 s.most, .slice a5 s.flags.length c5, .slice a6 s.props.length c6, .slice a7 s.globals.length c7, .slice a8 s.objects.length c8, .slice a9 s.verbs.length c9, .slice a10 s.rules.length c10, .slice a11 s.funcs.length c11, .slice a12 s.daemons.length c12, .slice none 0 0, .int .i64 wh, .int .i64 0] 80)) (fun e w' => e = .returned (.tuple #[]) ∧ Below w.heap.size w w')) := hcall.mono fun e w' ⟨q1, _, q3⟩ => ⟨q1 hp, q3⟩
    have HP := Lib.hid hp
    clear hcall hp
    go_enter Try.func38, Try.ntmps38
    go_wp2_with (go_at_call 39; refine HC.out.mono ?_; rintro e0 w1 ⟨rfl, hb⟩)
    go_end0
    exact Judged.fine HP.out rfl hb
  · have HC : Hid (Calls Try.prog 39 #[.pointer (some ⟨w.heap.size, 0, none⟩), .slice al L.length cl, .slice a2 l.length c2] (w.alloc (.cells #[.slice a0 t.length c0, .string s.title, .string s.author, .string s.start, .int .i64 s.release, .int .i64 s.most, .slice a5 s.flags.length c5, .slice a6 s.props.length c6, .slice a7 s.globals.length c7, .slice a8 s.objects.length c8, .slice a9 s.verbs.length c9, .slice a10 s.rules.length c10, .slice a11 s.funcs.length c11, .slice a12 s.daemons.length c12, .slice none 0 0, .int .i64 wh, .int .i64 0] 80)) (fun e w' => e = .panicked [{ v := .iface 106 (.agg #[.int .i64 (St.kWs t s.funcs wh l 0 L).1, .string (St.kWs t s.funcs wh l 0 L).2]), recovered := false }] ∧ Below w.heap.size w w')) := hcall.mono fun e w' ⟨_, q2, q3⟩ => ⟨q2 hp, q3⟩
    have HP := Lib.hid hp
    clear hcall hp
    go_enter Try.func38, Try.ntmps38
    go_wp2_with (go_at_call 39; refine HC.out.mono ?_; rintro e0 w1 ⟨rfl, hb⟩)
    exact ⟨rfl, Judged.thrown rfl HP.out rfl hb⟩

set_option maxRecDepth 100000 in
set_option maxHeartbeats 4000000 in
theorem kBlock_calls (t : List NameD) (s : SrcD) (l : List ByteArray) (wh : Int) (L : List St) (F : Nat → Prop) (w : World) (tv lv Lv : Value) (ss : List Value) (hF : Inn F w) (hri : Rises t) (ht : t.length ≤ 1000000000000) (htab : TabOk t s.funcs s.objects.length) (hlen : l.length ≤ 1000)
    (h0 : RdNames F w t tv) (h1 : Holds.src.R F w s ss) (h2 : RdStrs F w l lv) (h4 : Sts F w L Lv) :
    Calls Try.prog 15 #[tv, .agg ss.toArray, lv, .int .i64 wh, Lv] w (GivesWrong w (St.kWs t s.funcs wh l 0 L)) := by
  have hmf : ∀ (fn : Fn) (first cap : Array Value) (w : World), (Instr.makeFunc fn first cap).run Try.prog w = .ok (.func fn first cap) w := fun _ _ _ _ => rfl
  obtain ⟨a0, c0, rfl⟩ := h0.shape
  obtain ⟨a2, c2, rfl⟩ := h2.shape
  obtain ⟨al, cl, rfl⟩ := h4.shape
  obtain ⟨a5, c5, a6, c6, a7, c7, a8, c8, a9, c9, a10, c10, a11, c11, a12, c12, rfl, -, -, -, -, -, -, g11, -⟩ := src_shape h1
  have hW : Below w.heap.size w (((((w.alloc (.cells #[.slice a0 t.length c0] 33)).alloc (.cells #[.string s.title, .string s.author, .string s.start, .int .i64 s.release, .int .i64 s.most, .slice a5 s.flags.length c5, .slice a6 s.props.length c6, .slice a7 s.globals.length c7, .slice a8 s.objects.length c8, .slice a9 s.verbs.length c9, .slice a10 s.rules.length c10, .slice a11 s.funcs.length c11, .slice a12 s.daemons.length c12] 29)).alloc (.cells #[.slice a2 l.length c2] 22)).alloc (.cells #[.int .i64 wh] 3)).alloc (.cells #[.slice al L.length cl] 45)) := (((((Below.refl _ w).alloc (Nat.le_refl _) _).alloc (by simp <;> omega) _).alloc (by simp <;> omega) _).alloc (by simp <;> omega) _).alloc (by simp <;> omega) _
  have x0 := ((((BoxAt.new w [.slice a0 t.length c0] 33).below ((Below.refl _ _).alloc (Nat.le_refl _) (.cells #[.string s.title, .string s.author, .string s.start, .int .i64 s.release, .int .i64 s.most, .slice a5 s.flags.length c5, .slice a6 s.props.length c6, .slice a7 s.globals.length c7, .slice a8 s.objects.length c8, .slice a9 s.verbs.length c9, .slice a10 s.rules.length c10, .slice a11 s.funcs.length c11, .slice a12 s.daemons.length c12] 29)) (by simp <;> omega)).below ((Below.refl _ _).alloc (Nat.le_refl _) (.cells #[.slice a2 l.length c2] 22)) (by simp <;> omega)).below ((Below.refl _ _).alloc (Nat.le_refl _) (.cells #[.int .i64 wh] 3)) (by simp <;> omega)).below ((Below.refl _ _).alloc (Nat.le_refl _) (.cells #[.slice al L.length cl] 45)) (by simp <;> omega)
  have x1 := (((BoxAt.new (w.alloc (.cells #[.slice a0 t.length c0] 33)) [.string s.title, .string s.author, .string s.start, .int .i64 s.release, .int .i64 s.most, .slice a5 s.flags.length c5, .slice a6 s.props.length c6, .slice a7 s.globals.length c7, .slice a8 s.objects.length c8, .slice a9 s.verbs.length c9, .slice a10 s.rules.length c10, .slice a11 s.funcs.length c11, .slice a12 s.daemons.length c12] 29).below ((Below.refl _ _).alloc (Nat.le_refl _) (.cells #[.slice a2 l.length c2] 22)) (by simp <;> omega)).below ((Below.refl _ _).alloc (Nat.le_refl _) (.cells #[.int .i64 wh] 3)) (by simp <;> omega)).below ((Below.refl _ _).alloc (Nat.le_refl _) (.cells #[.slice al L.length cl] 45)) (by simp <;> omega)
  have x2 := ((BoxAt.new ((w.alloc (.cells #[.slice a0 t.length c0] 33)).alloc (.cells #[.string s.title, .string s.author, .string s.start, .int .i64 s.release, .int .i64 s.most, .slice a5 s.flags.length c5, .slice a6 s.props.length c6, .slice a7 s.globals.length c7, .slice a8 s.objects.length c8, .slice a9 s.verbs.length c9, .slice a10 s.rules.length c10, .slice a11 s.funcs.length c11, .slice a12 s.daemons.length c12] 29)) [.slice a2 l.length c2] 22).below ((Below.refl _ _).alloc (Nat.le_refl _) (.cells #[.int .i64 wh] 3)) (by simp <;> omega)).below ((Below.refl _ _).alloc (Nat.le_refl _) (.cells #[.slice al L.length cl] 45)) (by simp <;> omega)
  have x3 := (BoxAt.new (((w.alloc (.cells #[.slice a0 t.length c0] 33)).alloc (.cells #[.string s.title, .string s.author, .string s.start, .int .i64 s.release, .int .i64 s.most, .slice a5 s.flags.length c5, .slice a6 s.props.length c6, .slice a7 s.globals.length c7, .slice a8 s.objects.length c8, .slice a9 s.verbs.length c9, .slice a10 s.rules.length c10, .slice a11 s.funcs.length c11, .slice a12 s.daemons.length c12] 29)).alloc (.cells #[.slice a2 l.length c2] 22)) [.int .i64 wh] 3).below ((Below.refl _ _).alloc (Nat.le_refl _) (.cells #[.slice al L.length cl] 45)) (by simp <;> omega)
  have x4 := BoxAt.new ((((w.alloc (.cells #[.slice a0 t.length c0] 33)).alloc (.cells #[.string s.title, .string s.author, .string s.start, .int .i64 s.release, .int .i64 s.most, .slice a5 s.flags.length c5, .slice a6 s.props.length c6, .slice a7 s.globals.length c7, .slice a8 s.objects.length c8, .slice a9 s.verbs.length c9, .slice a10 s.rules.length c10, .slice a11 s.funcs.length c11, .slice a12 s.daemons.length c12] 29)).alloc (.cells #[.slice a2 l.length c2] 22)).alloc (.cells #[.int .i64 wh] 3)) [.slice al L.length cl] 45
  have hin : ∀ W, Below (((((w.alloc (.cells #[.slice a0 t.length c0] 33)).alloc (.cells #[.string s.title, .string s.author, .string s.start, .int .i64 s.release, .int .i64 s.most, .slice a5 s.flags.length c5, .slice a6 s.props.length c6, .slice a7 s.globals.length c7, .slice a8 s.objects.length c8, .slice a9 s.verbs.length c9, .slice a10 s.rules.length c10, .slice a11 s.funcs.length c11, .slice a12 s.daemons.length c12] 29)).alloc (.cells #[.slice a2 l.length c2] 22)).alloc (.cells #[.int .i64 wh] 3)).alloc (.cells #[.slice al L.length cl] 45)).heap.size (((((w.alloc (.cells #[.slice a0 t.length c0] 33)).alloc (.cells #[.string s.title, .string s.author, .string s.start, .int .i64 s.release, .int .i64 s.most, .slice a5 s.flags.length c5, .slice a6 s.props.length c6, .slice a7 s.globals.length c7, .slice a8 s.objects.length c8, .slice a9 s.verbs.length c9, .slice a10 s.rules.length c10, .slice a11 s.funcs.length c11, .slice a12 s.daemons.length c12] 29)).alloc (.cells #[.slice a2 l.length c2] 22)).alloc (.cells #[.int .i64 wh] 3)).alloc (.cells #[.slice al L.length cl] 45)) W →
      Calls Try.prog 38 #[.pointer (some ⟨w.heap.size, 0, none⟩), .pointer (some ⟨w.heap.size + 1, 0, none⟩), .pointer (some ⟨w.heap.size + 3, 0, none⟩), .pointer (some ⟨w.heap.size + 4, 0, none⟩), .pointer (some ⟨w.heap.size + 2, 0, none⟩)] W (Judged W (St.kWs t s.funcs wh l 0 L) (.tuple #[])) := fun W hb => by
    have hWW := hW.trans (hb.mono hW.size)
    refine block1_walk t s l wh L F W _ _ _ _ _ _ _ _ _ (hF.below hWW) hri ht htab hlen (x0.below hb (by simp <;> omega)) ?_ ?_ ?_ ?_ (h0.below hF hWW (Nat.le_refl _)) (Holds.src.below h1 hF hWW (Nat.le_refl _)) (h2.below hF hWW (Nat.le_refl _)) (h4.below hF hWW (Nat.le_refl _))
    · have := x1.below hb (by simp <;> omega); simpa using this
    · have := x2.below hb (by simp <;> omega); simpa using this
    · have := x3.below hb (by simp <;> omega); simpa using this
    · have := x4.below hb (by simp <;> omega); simpa using this
  have HC := Lib.hid (caught_calls 38 _ (St.kWs t s.funcs wh l 0 L) _ (fun w => enters_of Try.func38 (by kernel_rfl) rfl _ w) hin)
  clear hin x0 x1 x2 x3 x4 h0 h1 h2 h4 g11 htab hri
  go_enter Try.func15, Try.ntmps15
  go_wp2_with (go_at_call 32; refine HC.out.mono ?_; rintro e0 w1 ⟨n1, rfl, hn0, hn1, hb⟩)
  go_ret2
  exact ⟨n1, rfl, hn0, hn1, hW.trans (hb.mono hW.size)⟩
end Go.Proofs.Ytblhpiebheommaa
