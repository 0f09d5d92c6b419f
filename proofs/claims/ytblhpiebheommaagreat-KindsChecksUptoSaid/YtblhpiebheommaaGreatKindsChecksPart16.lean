/- The walk of kinds.Block. Printed by gen-kinds11.py. -/
import Derived.Test.YtblhpiebheommaaGreatKinds10
namespace Go.Proofs.YtblhpiebheommaaGreat
open Go.RowKit

set_option maxRecDepth 100000 in
set_option maxHeartbeats 2000000 in
theorem block1_walk (t : List NameD) (s : SrcD) (l : List ByteArray) (wh : Int) (L : List St) (F : Nat → Prop) (w : World) (b0 b1 b2 b3 b4 : Nat) (tv lv Lv : Value) (ss : List Value) (hF : Inn F w) (hri : Rises t) (ht : t.length ≤ 1000000000000) (htab : TabOk t s.funcs s.objects.length) (hlen : l.length ≤ 1000)
    (hb0 : BoxAt w b0 [tv]) (hb1 : BoxAt w b1 ss) (hb2 : BoxAt w b2 [lv]) (hb3 : BoxAt w b3 [.int .i64 wh]) (hb4 : BoxAt w b4 [Lv]) (h0 : RdNames F w t tv) (h1 : Holds.src.R F w s ss) (h2 : RdStrs F w l lv) (h4 : Sts F w L Lv) :
    Calls Tryz.prog 38 #[.pointer (some ⟨b0, 0, none⟩), .pointer (some ⟨b1, 0, none⟩), .pointer (some ⟨b3, 0, none⟩), .pointer (some ⟨b4, 0, none⟩), .pointer (some ⟨b2, 0, none⟩)] w (Judged w (St.kWs t s.funcs wh l 0 L) (.tuple #[])) := by
  have H0 := Lib.hid h0
  have H2 := Lib.hid h2
  have H4 := Lib.hid h4
  have HF := Lib.hid hF
  obtain ⟨a0, c0, rfl⟩ := h0.shape
  obtain ⟨a2, c2, rfl⟩ := h2.shape
  obtain ⟨al, cl, rfl⟩ := h4.shape
  obtain ⟨a5, c5, a6, c6, a7, c7, a8, c8, a9, c9, a10, c10, a11, c11, a12, c12, rfl, -, -, -, -, -, -, g11, -⟩ := src_shape h1
  have t0 := hb0.one
  have l0 := hb2.one
  have w0 := hb3.one
  have L0 := hb4.one
  have L0' : ∀ o, (w.alloc o).cell? ⟨b4, 0, none⟩ = some (.slice al L.length cl) := fun o => (World.cell?_of_block (w := w) (a := ⟨b4, 0, none⟩) (Below.heap_alloc w o _ hb4.1)).trans L0
  have l0' : ∀ o, (w.alloc o).cell? ⟨b2, 0, none⟩ = some (.slice a2 l.length c2) := fun o => (World.cell?_of_block (w := w) (a := ⟨b2, 0, none⟩) (Below.heap_alloc w o _ hb2.1)).trans l0
  have s0 := hb1.2 0 (by simp)
  have s1 := hb1.2 1 (by simp)
  have s2 := hb1.2 2 (by simp)
  have s3 := hb1.2 3 (by simp)
  have s4 := hb1.2 4 (by simp)
  have s5 := hb1.2 5 (by simp)
  have s6 := hb1.2 6 (by simp)
  have s7 := hb1.2 7 (by simp)
  have s8 := hb1.2 8 (by simp)
  have s9 := hb1.2 9 (by simp)
  have s10 := hb1.2 10 (by simp)
  have s11 := hb1.2 11 (by simp)
  have s12 := hb1.2 12 (by simp)
  simp only [List.getElem?_cons_succ, List.getElem?_cons_zero] at s0 s1 s2 s3 s4 s5 s6 s7 s8 s9 s10 s11 s12
  have hBn : Below w.heap.size w (w.alloc (.cells #[.slice a0 t.length c0, .string s.title, .string s.author, .string s.start, .int .i64 s.release, .int .i64 s.most, .slice a5 s.flags.length c5, .slice a6 s.props.length c6, .slice a7 s.globals.length c7, .slice a8 s.objects.length c8, .slice a9 s.verbs.length c9, .slice a10 s.rules.length c10, .slice a11 s.funcs.length c11, .slice a12 s.daemons.length c12, .slice none 0 0, .int .i64 wh, .int .i64 0] 95)) := (Below.refl _ w).alloc (Nat.le_refl _) _
  have hbx := bx_new w [.slice a0 t.length c0, .string s.title, .string s.author, .string s.start, .int .i64 s.release, .int .i64 s.most, .slice a5 s.flags.length c5, .slice a6 s.props.length c6, .slice a7 s.globals.length c7, .slice a8 s.objects.length c8, .slice a9 s.verbs.length c9, .slice a10 s.rules.length c10, .slice a11 s.funcs.length c11, .slice a12 s.daemons.length c12, .slice none 0 0, .int .i64 wh, .int .i64 0] 95 _ rfl
  have hz : w.heap.size < (w.alloc (.cells #[.slice a0 t.length c0, .string s.title, .string s.author, .string s.start, .int .i64 s.release, .int .i64 s.most, .slice a5 s.flags.length c5, .slice a6 s.props.length c6, .slice a7 s.globals.length c7, .slice a8 s.objects.length c8, .slice a9 s.verbs.length c9, .slice a10 s.rules.length c10, .slice a11 s.funcs.length c11, .slice a12 s.daemons.length c12, .slice none 0 0, .int .i64 wh, .int .i64 0] 95)).heap.size := by simp
  have hck : Ck F (w.alloc (.cells #[.slice a0 t.length c0, .string s.title, .string s.author, .string s.start, .int .i64 s.release, .int .i64 s.most, .slice a5 s.flags.length c5, .slice a6 s.props.length c6, .slice a7 s.globals.length c7, .slice a8 s.objects.length c8, .slice a9 s.verbs.length c9, .slice a10 s.rules.length c10, .slice a11 s.funcs.length c11, .slice a12 s.daemons.length c12, .slice none 0 0, .int .i64 wh, .int .i64 0] 95)) w.heap.size t s.funcs wh 0 0 [] (.slice none 0 0) := ⟨fun b hb => hF b hb, ⟨hz, _, hbx 0 (by simp), h0.below hF hBn (Nat.le_refl _)⟩, ⟨hz, _, hbx 12 (by simp), g11.below hF hBn (Nat.le_refl _)⟩, hbx 15 (by simp), hbx 16 (by simp), hbx 14 (by simp), Loc.nil _ _ _, by simp, by simp⟩
  have hcall0 := block_calls t s.funcs s.objects.length hri ht htab L [] l wh 0 F F _ _ 0 _ _ _ hck (h4.below hF hBn (Nat.le_refl _)) (h2.below hF hBn (Nat.le_refl _)) (hF.below hBn) (by omega) (by omega) (Nat.zero_le _) (by simp; omega)
  rw [List.nil_append] at hcall0
  have hcall : Calls Tryz.prog 39 #[.pointer (some ⟨w.heap.size, 0, none⟩), .slice al L.length cl, .slice a2 l.length c2] (w.alloc (.cells #[.slice a0 t.length c0, .string s.title, .string s.author, .string s.start, .int .i64 s.release, .int .i64 s.most, .slice a5 s.flags.length c5, .slice a6 s.props.length c6, .slice a7 s.globals.length c7, .slice a8 s.objects.length c8, .slice a9 s.verbs.length c9, .slice a10 s.rules.length c10, .slice a11 s.funcs.length c11, .slice a12 s.daemons.length c12, .slice none 0 0, .int .i64 wh, .int .i64 0] 95)) (Judged w (St.kWs t s.funcs wh l 0 L) (.tuple #[])) := hcall0.mono fun e w' ⟨q1, q2, q3⟩ => ⟨fun h => (q1 h).1, fun h => (q2 h).1, hBn.trans (q3.toBelow (by omega) (Nat.le_refl _) (fun _ h => h.elim))⟩
  clear hcall0 hck hbx hz htab hri h0 h1 h2 h4 g11 hb0 hb1 hb2 hb3 hb4
  by_cases hp : (St.kWs t s.funcs wh l 0 L).1 = 0
  · have HC : Hid (Calls Tryz.prog 39 #[.pointer (some ⟨w.heap.size, 0, none⟩), .slice al L.length cl, .slice a2 l.length c2] (w.alloc (.cells #[.slice a0 t.length c0, .string s.title, .string s.author, .string s.start, .int .i64 s.release, .int .i64 s.most, .slice a5 s.flags.length c5, .slice a6 s.props.length c6, .slice a7 s.globals.length c7, .slice a8 s.objects.length c8, .slice a9 s.verbs.length c9, .slice a10 s.rules.length c10, .slice a11 s.funcs.length c11, .slice a12 s.daemons.length c12, .slice none 0 0, .int .i64 wh, .int .i64 0] 95)) (fun e w' => e = .returned (.tuple #[]) ∧ Below w.heap.size w w')) := hcall.mono fun e w' ⟨q1, _, q3⟩ => ⟨q1 hp, q3⟩
    have HP := Lib.hid hp
    clear hcall hp
    go_enter Tryz.func38, Tryz.ntmps38
    go_wp2_with (go_at_call 39; refine HC.out.mono ?_; rintro e0 w1 ⟨rfl, hb⟩)
    go_end0
    exact Judged.fine HP.out rfl hb
  · have HC : Hid (Calls Tryz.prog 39 #[.pointer (some ⟨w.heap.size, 0, none⟩), .slice al L.length cl, .slice a2 l.length c2] (w.alloc (.cells #[.slice a0 t.length c0, .string s.title, .string s.author, .string s.start, .int .i64 s.release, .int .i64 s.most, .slice a5 s.flags.length c5, .slice a6 s.props.length c6, .slice a7 s.globals.length c7, .slice a8 s.objects.length c8, .slice a9 s.verbs.length c9, .slice a10 s.rules.length c10, .slice a11 s.funcs.length c11, .slice a12 s.daemons.length c12, .slice none 0 0, .int .i64 wh, .int .i64 0] 95)) (fun e w' => e = .panicked [{ v := .iface 104 (.agg #[.int .i64 (St.kWs t s.funcs wh l 0 L).1, .string (St.kWs t s.funcs wh l 0 L).2]), recovered := false }] ∧ Below w.heap.size w w')) := hcall.mono fun e w' ⟨_, q2, q3⟩ => ⟨q2 hp, q3⟩
    have HP := Lib.hid hp
    clear hcall hp
    go_enter Tryz.func38, Tryz.ntmps38
    go_wp2_with (go_at_call 39; refine HC.out.mono ?_; rintro e0 w1 ⟨rfl, hb⟩)
    exact ⟨rfl, Judged.thrown rfl HP.out rfl hb⟩

set_option maxRecDepth 100000 in
set_option maxHeartbeats 4000000 in
theorem kBlock_calls (t : List NameD) (s : SrcD) (l : List ByteArray) (wh : Int) (L : List St) (F : Nat → Prop) (w : World) (tv lv Lv : Value) (ss : List Value) (hF : Inn F w) (hri : Rises t) (ht : t.length ≤ 1000000000000) (htab : TabOk t s.funcs s.objects.length) (hlen : l.length ≤ 1000)
    (h0 : RdNames F w t tv) (h1 : Holds.src.R F w s ss) (h2 : RdStrs F w l lv) (h4 : Sts F w L Lv) :
    Calls Tryz.prog 14 #[tv, .agg ss.toArray, lv, .int .i64 wh, Lv] w (GivesWrong w (St.kWs t s.funcs wh l 0 L)) := by
  have hmf : ∀ (fn : Fn) (first cap : Array Value) (w : World), (Instr.makeFunc fn first cap).run Tryz.prog w = .ok (.func fn first cap) w := fun _ _ _ _ => rfl
  obtain ⟨a0, c0, rfl⟩ := h0.shape
  obtain ⟨a2, c2, rfl⟩ := h2.shape
  obtain ⟨al, cl, rfl⟩ := h4.shape
  obtain ⟨a5, c5, a6, c6, a7, c7, a8, c8, a9, c9, a10, c10, a11, c11, a12, c12, rfl, -, -, -, -, -, -, g11, -⟩ := src_shape h1
  have hW : Below w.heap.size w (((((w.alloc (.cells #[.slice a0 t.length c0] 32)).alloc (.cells #[.string s.title, .string s.author, .string s.start, .int .i64 s.release, .int .i64 s.most, .slice a5 s.flags.length c5, .slice a6 s.props.length c6, .slice a7 s.globals.length c7, .slice a8 s.objects.length c8, .slice a9 s.verbs.length c9, .slice a10 s.rules.length c10, .slice a11 s.funcs.length c11, .slice a12 s.daemons.length c12] 29)).alloc (.cells #[.slice a2 l.length c2] 22)).alloc (.cells #[.int .i64 wh] 3)).alloc (.cells #[.slice al L.length cl] 46)) := (((((Below.refl _ w).alloc (Nat.le_refl _) _).alloc (by simp <;> omega) _).alloc (by simp <;> omega) _).alloc (by simp <;> omega) _).alloc (by simp <;> omega) _
  have x0 := ((((BoxAt.new w [.slice a0 t.length c0] 32).below ((Below.refl _ _).alloc (Nat.le_refl _) (.cells #[.string s.title, .string s.author, .string s.start, .int .i64 s.release, .int .i64 s.most, .slice a5 s.flags.length c5, .slice a6 s.props.length c6, .slice a7 s.globals.length c7, .slice a8 s.objects.length c8, .slice a9 s.verbs.length c9, .slice a10 s.rules.length c10, .slice a11 s.funcs.length c11, .slice a12 s.daemons.length c12] 29)) (by simp <;> omega)).below ((Below.refl _ _).alloc (Nat.le_refl _) (.cells #[.slice a2 l.length c2] 22)) (by simp <;> omega)).below ((Below.refl _ _).alloc (Nat.le_refl _) (.cells #[.int .i64 wh] 3)) (by simp <;> omega)).below ((Below.refl _ _).alloc (Nat.le_refl _) (.cells #[.slice al L.length cl] 46)) (by simp <;> omega)
  have x1 := (((BoxAt.new (w.alloc (.cells #[.slice a0 t.length c0] 32)) [.string s.title, .string s.author, .string s.start, .int .i64 s.release, .int .i64 s.most, .slice a5 s.flags.length c5, .slice a6 s.props.length c6, .slice a7 s.globals.length c7, .slice a8 s.objects.length c8, .slice a9 s.verbs.length c9, .slice a10 s.rules.length c10, .slice a11 s.funcs.length c11, .slice a12 s.daemons.length c12] 29).below ((Below.refl _ _).alloc (Nat.le_refl _) (.cells #[.slice a2 l.length c2] 22)) (by simp <;> omega)).below ((Below.refl _ _).alloc (Nat.le_refl _) (.cells #[.int .i64 wh] 3)) (by simp <;> omega)).below ((Below.refl _ _).alloc (Nat.le_refl _) (.cells #[.slice al L.length cl] 46)) (by simp <;> omega)
  have x2 := ((BoxAt.new ((w.alloc (.cells #[.slice a0 t.length c0] 32)).alloc (.cells #[.string s.title, .string s.author, .string s.start, .int .i64 s.release, .int .i64 s.most, .slice a5 s.flags.length c5, .slice a6 s.props.length c6, .slice a7 s.globals.length c7, .slice a8 s.objects.length c8, .slice a9 s.verbs.length c9, .slice a10 s.rules.length c10, .slice a11 s.funcs.length c11, .slice a12 s.daemons.length c12] 29)) [.slice a2 l.length c2] 22).below ((Below.refl _ _).alloc (Nat.le_refl _) (.cells #[.int .i64 wh] 3)) (by simp <;> omega)).below ((Below.refl _ _).alloc (Nat.le_refl _) (.cells #[.slice al L.length cl] 46)) (by simp <;> omega)
  have x3 := (BoxAt.new (((w.alloc (.cells #[.slice a0 t.length c0] 32)).alloc (.cells #[.string s.title, .string s.author, .string s.start, .int .i64 s.release, .int .i64 s.most, .slice a5 s.flags.length c5, .slice a6 s.props.length c6, .slice a7 s.globals.length c7, .slice a8 s.objects.length c8, .slice a9 s.verbs.length c9, .slice a10 s.rules.length c10, .slice a11 s.funcs.length c11, .slice a12 s.daemons.length c12] 29)).alloc (.cells #[.slice a2 l.length c2] 22)) [.int .i64 wh] 3).below ((Below.refl _ _).alloc (Nat.le_refl _) (.cells #[.slice al L.length cl] 46)) (by simp <;> omega)
  have x4 := BoxAt.new ((((w.alloc (.cells #[.slice a0 t.length c0] 32)).alloc (.cells #[.string s.title, .string s.author, .string s.start, .int .i64 s.release, .int .i64 s.most, .slice a5 s.flags.length c5, .slice a6 s.props.length c6, .slice a7 s.globals.length c7, .slice a8 s.objects.length c8, .slice a9 s.verbs.length c9, .slice a10 s.rules.length c10, .slice a11 s.funcs.length c11, .slice a12 s.daemons.length c12] 29)).alloc (.cells #[.slice a2 l.length c2] 22)).alloc (.cells #[.int .i64 wh] 3)) [.slice al L.length cl] 46
  have hin : ∀ W, Below (((((w.alloc (.cells #[.slice a0 t.length c0] 32)).alloc (.cells #[.string s.title, .string s.author, .string s.start, .int .i64 s.release, .int .i64 s.most, .slice a5 s.flags.length c5, .slice a6 s.props.length c6, .slice a7 s.globals.length c7, .slice a8 s.objects.length c8, .slice a9 s.verbs.length c9, .slice a10 s.rules.length c10, .slice a11 s.funcs.length c11, .slice a12 s.daemons.length c12] 29)).alloc (.cells #[.slice a2 l.length c2] 22)).alloc (.cells #[.int .i64 wh] 3)).alloc (.cells #[.slice al L.length cl] 46)).heap.size (((((w.alloc (.cells #[.slice a0 t.length c0] 32)).alloc (.cells #[.string s.title, .string s.author, .string s.start, .int .i64 s.release, .int .i64 s.most, .slice a5 s.flags.length c5, .slice a6 s.props.length c6, .slice a7 s.globals.length c7, .slice a8 s.objects.length c8, .slice a9 s.verbs.length c9, .slice a10 s.rules.length c10, .slice a11 s.funcs.length c11, .slice a12 s.daemons.length c12] 29)).alloc (.cells #[.slice a2 l.length c2] 22)).alloc (.cells #[.int .i64 wh] 3)).alloc (.cells #[.slice al L.length cl] 46)) W →
      Calls Tryz.prog 38 #[.pointer (some ⟨w.heap.size, 0, none⟩), .pointer (some ⟨w.heap.size + 1, 0, none⟩), .pointer (some ⟨w.heap.size + 3, 0, none⟩), .pointer (some ⟨w.heap.size + 4, 0, none⟩), .pointer (some ⟨w.heap.size + 2, 0, none⟩)] W (Judged W (St.kWs t s.funcs wh l 0 L) (.tuple #[])) := fun W hb => by
    have hWW := hW.trans (hb.mono hW.size)
    refine block1_walk t s l wh L F W _ _ _ _ _ _ _ _ _ (hF.below hWW) hri ht htab hlen (x0.below hb (by simp <;> omega)) ?_ ?_ ?_ ?_ (h0.below hF hWW (Nat.le_refl _)) (Holds.src.below h1 hF hWW (Nat.le_refl _)) (h2.below hF hWW (Nat.le_refl _)) (h4.below hF hWW (Nat.le_refl _))
    · have := x1.below hb (by simp <;> omega); simpa using this
    · have := x2.below hb (by simp <;> omega); simpa using this
    · have := x3.below hb (by simp <;> omega); simpa using this
    · have := x4.below hb (by simp <;> omega); simpa using this
  have HC := Lib.hid (caught_calls 38 _ (St.kWs t s.funcs wh l 0 L) _ (fun w => enters_of Tryz.func38 (by kernel_rfl) rfl _ w) hin)
  clear hin x0 x1 x2 x3 x4 h0 h1 h2 h4 g11 htab hri
  go_enter Tryz.func14, Tryz.ntmps14
  go_wp2_with (go_at_call 22; refine HC.out.mono ?_; rintro e0 w1 ⟨n1, rfl, hn0, hn1, hb⟩)
  go_ret2
  exact ⟨n1, rfl, hn0, hn1, hW.trans (hb.mono hW.size)⟩
end Go.Proofs.YtblhpiebheommaaGreat
/- The walks of kinds' whole: checker, room. Printed by gen-kinds13.py. -/
namespace Go.Proofs.YtblhpiebheommaaGreat
open Go.RowKit

/-- A checker, made. -/
def MadeCk (F : Nat → Prop) (w : World) (t : List NameD) (fs : List FuncD) (wh : Int) (e : Ending) (w' : World) : Prop :=
  ∃ B, e = .returned (.pointer (some ⟨B, 0, none⟩)) ∧ w.heap.size ≤ B ∧ Ck F w' B t fs wh 0 0 [] (.slice none 0 0) ∧ Below w.heap.size w w'

set_option maxRecDepth 100000 in
set_option maxHeartbeats 1000000 in
theorem checker_calls (t : List NameD) (s : SrcD) (wh : Int) (F : Nat → Prop) (w : World) (tv : Value) (ss : List Value) (hF : Inn F w) (h0 : RdNames F w t tv) (h1 : Holds.src.R F w s ss) :
    Calls Tryz.prog 69 #[.agg (tv :: ss).toArray, .int .i64 wh] w (MadeCk F w t s.funcs wh) := by
  obtain ⟨a0, c0, rfl⟩ := h0.shape
  obtain ⟨a5, c5, a6, c6, a7, c7, a8, c8, a9, c9, a10, c10, a11, c11, a12, c12, rfl, g5, g6, g7, g8, g9, g10, g11, g12⟩ := src_shape h1
  have hB1 : Below w.heap.size w (w.alloc (.cells #[.slice a0 t.length c0, .string s.title, .string s.author, .string s.start, .int .i64 s.release, .int .i64 s.most, .slice a5 s.flags.length c5, .slice a6 s.props.length c6, .slice a7 s.globals.length c7, .slice a8 s.objects.length c8, .slice a9 s.verbs.length c9, .slice a10 s.rules.length c10, .slice a11 s.funcs.length c11, .slice a12 s.daemons.length c12] 73)) := (Below.refl _ w).alloc (Nat.le_refl _) _
  have hB2 : Below w.heap.size w ((w.alloc (.cells #[.slice a0 t.length c0, .string s.title, .string s.author, .string s.start, .int .i64 s.release, .int .i64 s.most, .slice a5 s.flags.length c5, .slice a6 s.props.length c6, .slice a7 s.globals.length c7, .slice a8 s.objects.length c8, .slice a9 s.verbs.length c9, .slice a10 s.rules.length c10, .slice a11 s.funcs.length c11, .slice a12 s.daemons.length c12] 73)).alloc (.cells #[.slice a0 t.length c0, .string s.title, .string s.author, .string s.start, .int .i64 s.release, .int .i64 s.most, .slice a5 s.flags.length c5, .slice a6 s.props.length c6, .slice a7 s.globals.length c7, .slice a8 s.objects.length c8, .slice a9 s.verbs.length c9, .slice a10 s.rules.length c10, .slice a11 s.funcs.length c11, .slice a12 s.daemons.length c12, .slice none 0 0, .int .i64 wh, .int .i64 0] 95)) := hB1.alloc (by simp) _
  have hbx := bx_new (w.alloc (.cells #[.slice a0 t.length c0, .string s.title, .string s.author, .string s.start, .int .i64 s.release, .int .i64 s.most, .slice a5 s.flags.length c5, .slice a6 s.props.length c6, .slice a7 s.globals.length c7, .slice a8 s.objects.length c8, .slice a9 s.verbs.length c9, .slice a10 s.rules.length c10, .slice a11 s.funcs.length c11, .slice a12 s.daemons.length c12] 73)) [.slice a0 t.length c0, .string s.title, .string s.author, .string s.start, .int .i64 s.release, .int .i64 s.most, .slice a5 s.flags.length c5, .slice a6 s.props.length c6, .slice a7 s.globals.length c7, .slice a8 s.objects.length c8, .slice a9 s.verbs.length c9, .slice a10 s.rules.length c10, .slice a11 s.funcs.length c11, .slice a12 s.daemons.length c12, .slice none 0 0, .int .i64 wh, .int .i64 0] 95 _ rfl
  have hz : (w.alloc (.cells #[.slice a0 t.length c0, .string s.title, .string s.author, .string s.start, .int .i64 s.release, .int .i64 s.most, .slice a5 s.flags.length c5, .slice a6 s.props.length c6, .slice a7 s.globals.length c7, .slice a8 s.objects.length c8, .slice a9 s.verbs.length c9, .slice a10 s.rules.length c10, .slice a11 s.funcs.length c11, .slice a12 s.daemons.length c12] 73)).heap.size < ((w.alloc (.cells #[.slice a0 t.length c0, .string s.title, .string s.author, .string s.start, .int .i64 s.release, .int .i64 s.most, .slice a5 s.flags.length c5, .slice a6 s.props.length c6, .slice a7 s.globals.length c7, .slice a8 s.objects.length c8, .slice a9 s.verbs.length c9, .slice a10 s.rules.length c10, .slice a11 s.funcs.length c11, .slice a12 s.daemons.length c12] 73)).alloc (.cells #[.slice a0 t.length c0, .string s.title, .string s.author, .string s.start, .int .i64 s.release, .int .i64 s.most, .slice a5 s.flags.length c5, .slice a6 s.props.length c6, .slice a7 s.globals.length c7, .slice a8 s.objects.length c8, .slice a9 s.verbs.length c9, .slice a10 s.rules.length c10, .slice a11 s.funcs.length c11, .slice a12 s.daemons.length c12, .slice none 0 0, .int .i64 wh, .int .i64 0] 95)).heap.size := by simp
  have hck : Ck F ((w.alloc (.cells #[.slice a0 t.length c0, .string s.title, .string s.author, .string s.start, .int .i64 s.release, .int .i64 s.most, .slice a5 s.flags.length c5, .slice a6 s.props.length c6, .slice a7 s.globals.length c7, .slice a8 s.objects.length c8, .slice a9 s.verbs.length c9, .slice a10 s.rules.length c10, .slice a11 s.funcs.length c11, .slice a12 s.daemons.length c12] 73)).alloc (.cells #[.slice a0 t.length c0, .string s.title, .string s.author, .string s.start, .int .i64 s.release, .int .i64 s.most, .slice a5 s.flags.length c5, .slice a6 s.props.length c6, .slice a7 s.globals.length c7, .slice a8 s.objects.length c8, .slice a9 s.verbs.length c9, .slice a10 s.rules.length c10, .slice a11 s.funcs.length c11, .slice a12 s.daemons.length c12, .slice none 0 0, .int .i64 wh, .int .i64 0] 95)) (w.alloc (.cells #[.slice a0 t.length c0, .string s.title, .string s.author, .string s.start, .int .i64 s.release, .int .i64 s.most, .slice a5 s.flags.length c5, .slice a6 s.props.length c6, .slice a7 s.globals.length c7, .slice a8 s.objects.length c8, .slice a9 s.verbs.length c9, .slice a10 s.rules.length c10, .slice a11 s.funcs.length c11, .slice a12 s.daemons.length c12] 73)).heap.size t s.funcs wh 0 0 [] (.slice none 0 0) := ⟨fun b hb => by have := hF b hb; simp; omega, ⟨hz, _, hbx 0 (by simp), h0.below hF hB2 (Nat.le_refl _)⟩, ⟨hz, _, hbx 12 (by simp), g11.below hF hB2 (Nat.le_refl _)⟩, hbx 15 (by simp), hbx 16 (by simp), hbx 14 (by simp), Loc.nil _ _ _, World.frozen?_alloc_new _ _ _ _, World.frozen?_alloc_new _ _ _ _⟩
  have HP : Hid (MadeCk F w t s.funcs wh (.returned (.pointer (some ⟨w.heap.size + 1, 0, none⟩))) ((w.alloc (.cells #[.slice a0 t.length c0, .string s.title, .string s.author, .string s.start, .int .i64 s.release, .int .i64 s.most, .slice a5 s.flags.length c5, .slice a6 s.props.length c6, .slice a7 s.globals.length c7, .slice a8 s.objects.length c8, .slice a9 s.verbs.length c9, .slice a10 s.rules.length c10, .slice a11 s.funcs.length c11, .slice a12 s.daemons.length c12] 73)).alloc (.cells #[.slice a0 t.length c0, .string s.title, .string s.author, .string s.start, .int .i64 s.release, .int .i64 s.most, .slice a5 s.flags.length c5, .slice a6 s.props.length c6, .slice a7 s.globals.length c7, .slice a8 s.objects.length c8, .slice a9 s.verbs.length c9, .slice a10 s.rules.length c10, .slice a11 s.funcs.length c11, .slice a12 s.daemons.length c12, .slice none 0 0, .int .i64 wh, .int .i64 0] 95))) := ⟨w.heap.size + 1, rfl, by omega, by rw [show w.heap.size + 1 = (w.alloc (.cells #[.slice a0 t.length c0, .string s.title, .string s.author, .string s.start, .int .i64 s.release, .int .i64 s.most, .slice a5 s.flags.length c5, .slice a6 s.props.length c6, .slice a7 s.globals.length c7, .slice a8 s.objects.length c8, .slice a9 s.verbs.length c9, .slice a10 s.rules.length c10, .slice a11 s.funcs.length c11, .slice a12 s.daemons.length c12] 73)).heap.size by simp]; exact hck, hB2⟩
  clear hbx hz hck g5 g6 g7 g8 g9 g10 g11 g12 h0 h1 hB1 hB2
  go_enter Tryz.func69, Tryz.ntmps69
  go_wp2
  go_ret
  exact HP.out

/-- What is wrong with a name that must be a room's. -/
def roomW (t : List NameD) (os : List ObjD) (n : ByteArray) : Int × ByteArray :=
  if (ofN t 4 n).2 = 0 then (if ((os.map ObjD.room)[(ofN t 4 n).1.toNat - 2]?).getD false = true then fineW else (12, n)) else ((ofN t 4 n).2, n)

set_option maxRecDepth 100000 in
set_option maxHeartbeats 2000000 in
theorem room_calls (t : List NameD) (s : SrcD) (n : ByteArray) (F : Nat → Prop) (w : World) (tv : Value) (ss : List Value) (hF : Inn F w) (hri : Rises t) (ht : t.length ≤ 1000000000000) (htab : TabOk t s.funcs s.objects.length) (h0 : RdNames F w t tv) (h1 : Holds.src.R F w s ss) :
    Calls Tryz.prog 44 #[.agg (tv :: ss).toArray, .string n] w (Judged w (roomW t s.objects n) (.tuple #[])) := by
  have hch := fun o => checker_calls t s 0 F (w.alloc o) tv ss (hF.alloc o) (h0.alloc hF o) (Holds.below _ h1 hF ((Below.refl _ w).alloc (Nat.le_refl _) o) (Nat.le_refl _))
  obtain ⟨a0, c0, rfl⟩ := h0.shape
  obtain ⟨a5, c5, a6, c6, a7, c7, a8, c8, a9, c9, a10, c10, a11, c11, a12, c12, rfl, g5, g6, g7, g8, g9, g10, g11, g12⟩ := src_shape h1
  have hB1 : Below w.heap.size w (w.alloc (.cells #[.slice a0 t.length c0, .string s.title, .string s.author, .string s.start, .int .i64 s.release, .int .i64 s.most, .slice a5 s.flags.length c5, .slice a6 s.props.length c6, .slice a7 s.globals.length c7, .slice a8 s.objects.length c8, .slice a9 s.verbs.length c9, .slice a10 s.rules.length c10, .slice a11 s.funcs.length c11, .slice a12 s.daemons.length c12] 73)) := (Below.refl _ w).alloc (Nat.le_refl _) _
  have hbx := bx_new w [.slice a0 t.length c0, .string s.title, .string s.author, .string s.start, .int .i64 s.release, .int .i64 s.most, .slice a5 s.flags.length c5, .slice a6 s.props.length c6, .slice a7 s.globals.length c7, .slice a8 s.objects.length c8, .slice a9 s.verbs.length c9, .slice a10 s.rules.length c10, .slice a11 s.funcs.length c11, .slice a12 s.daemons.length c12] 73 _ rfl 9 (by simp)
  have HCH := Lib.hid (hch (.cells #[.slice a0 t.length c0, .string s.title, .string s.author, .string s.start, .int .i64 s.release, .int .i64 s.most, .slice a5 s.flags.length c5, .slice a6 s.props.length c6, .slice a7 s.globals.length c7, .slice a8 s.objects.length c8, .slice a9 s.verbs.length c9, .slice a10 s.rules.length c10, .slice a11 s.funcs.length c11, .slice a12 s.daemons.length c12] 73))
  have HO := Lib.hid (fun (W : World) (B : Nat) (hb : Below (w.alloc (.cells #[.slice a0 t.length c0, .string s.title, .string s.author, .string s.start, .int .i64 s.release, .int .i64 s.most, .slice a5 s.flags.length c5, .slice a6 s.props.length c6, .slice a7 s.globals.length c7, .slice a8 s.objects.length c8, .slice a9 s.verbs.length c9, .slice a10 s.rules.length c10, .slice a11 s.funcs.length c11, .slice a12 s.daemons.length c12] 73)).heap.size (w.alloc (.cells #[.slice a0 t.length c0, .string s.title, .string s.author, .string s.start, .int .i64 s.release, .int .i64 s.most, .slice a5 s.flags.length c5, .slice a6 s.props.length c6, .slice a7 s.globals.length c7, .slice a8 s.objects.length c8, .slice a9 s.verbs.length c9, .slice a10 s.rules.length c10, .slice a11 s.funcs.length c11, .slice a12 s.daemons.length c12] 73)) W) (hc : Ck F W B t s.funcs 0 0 0 [] (.slice none 0 0)) => of_calls t 4 n F W B hc.inw hc.ct hri ht)
  unfold roomW
  obtain ⟨z, er, hze⟩ : ∃ z er, ofN t 4 n = (z, er) := ⟨_, _, rfl⟩
  unfold ofW at HO
  rw [hze] at HO ⊢
  simp only at HO ⊢
  clear hch h0 h1 g5 g6 g7 g9 g10 g11 g12
  by_cases hz : er = 0
  · subst hz
    obtain ⟨x, hxm, hxk, hxz⟩ := ofN_ok hze
    obtain ⟨hx0, hx1⟩ := (htab x hxm).2 hxk
    rw [hxz] at hx0 hx1
    obtain ⟨j, rfl⟩ : ∃ j : Nat, z = ((j + 2 : Nat) : Int) := ⟨z.toNat - 2, by omega⟩
    have hj : j < s.objects.length := by omega
    obtain ⟨_, _, he8, hl8, hc8, h8⟩ := g8.opn
    cases he8
    obtain ⟨ob, off, rfl, hFob, hel⟩ := h8 (by omega)
    have hrd : Hid (∀ W, Below w.heap.size w W → W.cell? ⟨ob, off + j * 10 + 4, none⟩ = some (.bool (s.objects[j].room))) := fun W hW => by
      obtain ⟨cs, ⟨-, -, -, -, v5, v6, v7, v8, v9, rfl, -⟩, -, hcell⟩ := hel W (hW.block ob (hF ob hFob)) j hj
      exact hcell 4 _ rfl
    have hge : ((s.objects.map ObjD.room)[((j + 2 : Nat) : Int).toNat - 2]?).getD false = s.objects[j].room := by rw [show ((j + 2 : Nat) : Int).toNat - 2 = j by omega]; simp [hj]
    rw [if_pos rfl, hge]
    have HX := Lib.hid hbx
    have hsub : IntKind.i64.wrap (((j + 2 : Nat) : Int) - 2) = (j : Int) := by rw [IntKind.wrap_i64]; unfold maxLen at hc8; omega
    have hjl : (j : Int) < (s.objects.length : Int) := by omega
    have hj0 : (0 : Int) ≤ (j : Int) := by omega
    have hcap : c8 ≤ 9223372036854775807 := by unfold maxLen at hc8; omega
    clear hel h8 hbx hxm hxk hxz hx0 hx1 htab g8 hze hc8 hge
    have HB1 := Lib.hid hB1
    have hstep : Hid (∀ w1, Below (w.alloc (.cells #[.slice a0 t.length c0, .string s.title, .string s.author, .string s.start, .int .i64 s.release, .int .i64 s.most, .slice a5 s.flags.length c5, .slice a6 s.props.length c6, .slice a7 s.globals.length c7, .slice (some ⟨ob, off, none⟩) s.objects.length c8, .slice a9 s.verbs.length c9, .slice a10 s.rules.length c10, .slice a11 s.funcs.length c11, .slice a12 s.daemons.length c12] 73)).heap.size (w.alloc (.cells #[.slice a0 t.length c0, .string s.title, .string s.author, .string s.start, .int .i64 s.release, .int .i64 s.most, .slice a5 s.flags.length c5, .slice a6 s.props.length c6, .slice a7 s.globals.length c7, .slice (some ⟨ob, off, none⟩) s.objects.length c8, .slice a9 s.verbs.length c9, .slice a10 s.rules.length c10, .slice a11 s.funcs.length c11, .slice a12 s.daemons.length c12] 73)) w1 → w1.cell? ⟨w.heap.size, 9, none⟩ = some (.slice (some ⟨ob, off, none⟩) s.objects.length c8) ∧ w1.cell? ⟨ob, off + j * 10 + 4, none⟩ = some (.bool (s.objects[j].room)) ∧ Below w.heap.size w w1) := fun w1 hb => ⟨(hb.cell (p := ⟨w.heap.size, 9, none⟩) (by simp)).trans HX.out, hrd.out w1 (HB1.out.trans (hb.mono HB1.out.size)), HB1.out.trans (hb.mono HB1.out.size)⟩
    generalize hR : s.objects[j].room = R at hstep ⊢
    clear hR hrd HX
    have HJ := Lib.hid (fun W B hb hc => judged_ok (HO.out W B hb hc) rfl)
    clear HO
    cases R
    · go_enter Tryz.func44, Tryz.ntmps44
      go_wp2_with (first | (go_at_call 69; refine HCH.out.mono ?_; rintro e w1 ⟨B, rfl, hB, hck, hb⟩; have HCK := Lib.hid hck; clear hck) | (go_at_call 66; refine (HJ.out _ B hb HCK.out).mono ?_; rintro e w2 ⟨rfl, hb2⟩; obtain ⟨r0, r1, r2⟩ := hstep.out w2 (hb.trans (hb2.mono hb.size))))
      exact ⟨rfl, Judged.thrown rfl (by decide) rfl r2⟩
    · go_enter Tryz.func44, Tryz.ntmps44
      go_wp2_with (first | (go_at_call 69; refine HCH.out.mono ?_; rintro e w1 ⟨B, rfl, hB, hck, hb⟩; have HCK := Lib.hid hck; clear hck) | (go_at_call 66; refine (HJ.out _ B hb HCK.out).mono ?_; rintro e w2 ⟨rfl, hb2⟩; obtain ⟨r0, r1, r2⟩ := hstep.out w2 (hb.trans (hb2.mono hb.size))))
      go_end0
      exact Judged.fine rfl rfl r2
  · rw [if_neg hz]
    rw [if_neg hz] at HO
    have HZ := Lib.hid hz
    have HB1 := Lib.hid hB1
    have HJ := Lib.hid (fun W B hb hc => judged_bad (HO.out W B hb hc) hz)
    clear HO hz hbx htab g8 hze
    go_enter Tryz.func44, Tryz.ntmps44
    go_wp2_with (first | (go_at_call 69; refine HCH.out.mono ?_; rintro e w1 ⟨B, rfl, hB, hck, hb⟩; have HCK := Lib.hid hck; clear hck) | (go_at_call 66; refine (HJ.out _ B hb HCK.out).mono ?_; rintro e w2 ⟨rfl, hb2⟩))
    exact ⟨rfl, Judged.thrown rfl HZ.out rfl (HB1.out.trans ((hb.trans (hb2.mono hb.size)).mono HB1.out.size))⟩
end Go.Proofs.YtblhpiebheommaaGreat
