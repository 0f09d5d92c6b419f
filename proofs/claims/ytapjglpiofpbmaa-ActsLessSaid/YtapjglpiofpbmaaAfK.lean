/- Reading tables, a world and commands from a row's arguments; what the rows share. Printed by gen-ac40.py. -/
import Derived.Test.YtapjglpiofpbmaaRead
import Derived.Test.YtapjglpiofpbmaaPartd43a9619
import Derived.HandedShaped
import Derived.ProofKit
namespace Go.Proofs.Ytapjglpiofpbmaa
open Go.RowKit Go.ChangeShapes Go.WideShapes Go.ChangeAt

theorem az0 : Try.prog.cellsOf 3 = 1 := by kernel_rfl
theorem az1 : Try.prog.cellsOf 9 = 1 := by kernel_rfl
theorem az2 : Try.prog.cellsOf 36 = 1 := by kernel_rfl
theorem az3 : Try.prog.cellsOf 4 = 1 := by kernel_rfl
theorem az4 : Try.prog.cellsOf 27 = 1 := by kernel_rfl
theorem az5 : Try.prog.cellsOf 30 = 1 := by kernel_rfl
theorem az6 : Try.prog.cellsOf 129 = 4 := by kernel_rfl
theorem az7 : Try.prog.cellsOf 45 = 1 := by kernel_rfl
theorem az8 : Try.prog.cellsOf 49 = 2 := by kernel_rfl
theorem az9 : Try.prog.cellsOf 50 = 1 := by kernel_rfl
theorem az10 : Try.prog.cellsOf 51 = 1 := by kernel_rfl
theorem az11 : Try.prog.cellsOf 47 = 9 := by kernel_rfl
theorem az12 : Try.prog.cellsOf 31 = 1 := by kernel_rfl
theorem az13 : Try.prog.cellsOf 53 = 2 := by kernel_rfl
theorem az14 : Try.prog.cellsOf 32 = 1 := by kernel_rfl
theorem az15 : Try.prog.cellsOf 127 = 6 := by kernel_rfl
theorem az16 : Try.prog.cellsOf 33 = 1 := by kernel_rfl
theorem az17 : Try.prog.cellsOf 35 = 15 := by kernel_rfl
theorem az18 : Try.prog.cellsOf 38 = 13 := by kernel_rfl
theorem az19 : Try.prog.cellsOf 23 = 5 := by kernel_rfl
theorem Try.own : ownKnob Try.prog.godebug = none := by kernel_rfl
theorem Try.laidOut : laidOutB Try.prog = true := by kernel_rfl
theorem inn (W : World) : Inn (fun b => b < W.heap.size) W := fun _ h => h
instance : Inhabited ByteArray := ⟨⟨#[]⟩⟩
instance : Inhabited WayD := ⟨⟨0, 0, 0, 0⟩⟩
instance : Inhabited SlotD := ⟨⟨0, []⟩⟩
instance : Inhabited ThingD := ⟨⟨0, 0, 0, 0, false, [], [], [], []⟩⟩
instance : Inhabited ActD := ⟨⟨false, []⟩⟩
instance : Inhabited DeedD := ⟨⟨0, 0, 0, 0, 0, 0⟩⟩
theorem u64_wf {n : Int} (h : (Lit.int .u64 n).wf = true) : 0 ≤ n ∧ n < 18446744073709551616 := by
  simp [Lit.wf, IntKind.min, IntKind.max] at h
  have h1 := of_decide_eq_true h.1
  have h2 := of_decide_eq_true h.2
  simp [IntKind.signed, IntKind.bits] at h1 h2
  omega

section
variable {H : Type} {enc : TypeId × Value → H} {W : World} {sp : Nat → Bool} {held : Bool}

theorem rdl_of {P : Program} {te tt : TypeId} {sz fuel : Nat} {cs : List Value} {x : DataW H × List MemPlace} (ht : P.underlying tt = some (.slice te)) (hc : P.cellsOf te = sz) (hsz : 0 < sz)
    (h : DataW.trod enc P W 0 sp held fuel tt cs = some x) {α : Type} [Inhabited α] (R : Holds α) (hR : ∀ m cs y, DataW.trod enc P W 0 sp held m te cs = some y → ∃ e, R.R (fun b => b < W.heap.size) W e cs) :
    ∃ v l, cs = [v] ∧ RdL R sz (fun b => b < W.heap.size) W l v := by
  obtain ⟨v, len, c, hv, hsl, E, hE⟩ := sl_of ht hc hsz h (R := R.R (fun b => b < W.heap.size) W) (α := α) (fun m cs y _ => hR m cs y)
  refine ⟨v, (List.range len).map E, hv, c, by simpa using hsl, fun i hi => ?_⟩
  have := hE i (by simpa using hi)
  rw [List.getElem_map, List.getElem_range]
  exact this
theorem read_str1 (m : Nat) (cs : List Value) (y : DataW H × List MemPlace) (h : DataW.trod enc Try.prog W 0 sp held m 9 cs = some y) : ∃ e, Holds.str.R (fun b => b < W.heap.size) W e cs := by
  obtain ⟨s, hs, _, ws⟩ := DataW.trod_string Try.underlying9 h
  exact ⟨s, ws, by simpa using hs⟩
theorem read_int1 (m : Nat) (cs : List Value) (y : DataW H × List MemPlace) (h : DataW.trod enc Try.prog W 0 sp held m 3 cs = some y) : ∃ e, Holds.int.R (fun b => b < W.heap.size) W e cs := by
  obtain ⟨s, hs, _, ws⟩ := DataW.trod_int Try.underlying3 h
  exact ⟨s, i64_wf ws, by simpa using hs⟩

set_option maxRecDepth 20000 in
theorem read_way (fuel : Nat) (cs : List Value) (x : DataW H × List MemPlace) (h : DataW.trod enc Try.prog W 0 sp held fuel 129 cs = some x) : ∃ e, Holds.way.R (fun b => b < W.heap.size) W e cs := by
  obtain ⟨xs, m, rfl, _, hl, hlen, hf⟩ := DataW.trod_struct Try.underlying129 h
  rw [az6] at hl
  have hlen : xs.length = 4 := hlen
  match cs, hl, xs, hlen with
  | [c0, c1, c2, c3], _, [y0, y1, y2, y3], _ =>
    have h0 := hf 0 _ rfl
    have h1 := hf 1 _ rfl
    have h2 := hf 2 _ rfl
    have h3 := hf 3 _ rfl
    obtain ⟨d0, q0, _, w0⟩ := DataW.trod_int Try.underlying3 h0
    have e0 : c0 = .int .i64 d0 := by simpa [az0] using q0
    obtain ⟨d1, q1, _, w1⟩ := DataW.trod_int Try.underlying3 h1
    have e1 : c1 = .int .i64 d1 := by simpa [az0] using q1
    obtain ⟨d2, q2, _, w2⟩ := DataW.trod_int Try.underlying3 h2
    have e2 : c2 = .int .i64 d2 := by simpa [az0] using q2
    obtain ⟨d3, q3, _, w3⟩ := DataW.trod_int Try.underlying3 h3
    have e3 : c3 = .int .i64 d3 := by simpa [az0] using q3
    subst e0 e1 e2 e3
    exact ⟨⟨d0, d1, d2, d3⟩, i64_wf w0, i64_wf w1, i64_wf w2, i64_wf w3, rfl⟩

set_option maxRecDepth 20000 in
theorem read_slot (fuel : Nat) (cs : List Value) (x : DataW H × List MemPlace) (h : DataW.trod enc Try.prog W 0 sp held fuel 49 cs = some x) : ∃ e, Holds.slot.R (fun b => b < W.heap.size) W e cs := by
  obtain ⟨xs, m, rfl, _, hl, hlen, hf⟩ := DataW.trod_struct Try.underlying49 h
  rw [az8] at hl
  have hlen : xs.length = 2 := hlen
  match cs, hl, xs, hlen with
  | [c0, c1], _, [y0, y1], _ =>
    have h0 := hf 0 _ rfl
    have h1 := hf 1 _ rfl
    obtain ⟨d0, q0, _, w0⟩ := DataW.trod_int Try.underlying3 h0
    have e0 : c0 = .int .i64 d0 := by simpa [az0] using q0
    obtain ⟨v1, d1, q1, r1⟩ := rdl_of Try.underlying30 az1 (by omega) h1 Holds.str read_str1
    have e1 : c1 = v1 := by simpa [az5] using q1
    subst e0 e1
    exact ⟨⟨d0, d1⟩, i64_wf w0, _, rfl, r1⟩

set_option maxRecDepth 20000 in
theorem read_thing (fuel : Nat) (cs : List Value) (x : DataW H × List MemPlace) (h : DataW.trod enc Try.prog W 0 sp held fuel 47 cs = some x) : ∃ e, Holds.thing.R (fun b => b < W.heap.size) W e cs := by
  obtain ⟨xs, m, rfl, _, hl, hlen, hf⟩ := DataW.trod_struct Try.underlying47 h
  rw [az11] at hl
  have hlen : xs.length = 9 := hlen
  match cs, hl, xs, hlen with
  | [c0, c1, c2, c3, c4, c5, c6, c7, c8], _, [y0, y1, y2, y3, y4, y5, y6, y7, y8], _ =>
    have h0 := hf 0 _ rfl
    have h1 := hf 1 _ rfl
    have h2 := hf 2 _ rfl
    have h3 := hf 3 _ rfl
    have h4 := hf 4 _ rfl
    have h5 := hf 5 _ rfl
    have h6 := hf 6 _ rfl
    have h7 := hf 7 _ rfl
    have h8 := hf 8 _ rfl
    obtain ⟨d0, q0, _, w0⟩ := DataW.trod_int Try.underlying3 h0
    have e0 : c0 = .int .i64 d0 := by simpa [az0] using q0
    obtain ⟨d1, q1, _, w1⟩ := DataW.trod_int Try.underlying3 h1
    have e1 : c1 = .int .i64 d1 := by simpa [az0] using q1
    obtain ⟨d2, q2, _, w2⟩ := DataW.trod_int Try.underlying3 h2
    have e2 : c2 = .int .i64 d2 := by simpa [az0] using q2
    obtain ⟨d3, q3, _, w3⟩ := DataW.trod_int Try.underlying3 h3
    have e3 : c3 = .int .i64 d3 := by simpa [az0] using q3
    obtain ⟨d4, q4, _⟩ := DataW.trod_bool Try.underlying4 h4
    have e4 : c4 = .bool d4 := by simpa [az3] using q4
    obtain ⟨v5, d5, q5, r5⟩ := rdl_of Try.underlying27 az0 (by omega) h5 Holds.int read_int1
    have e5 : c5 = v5 := by simpa [az4] using q5
    obtain ⟨v6, d6, q6, r6⟩ := rdl_of Try.underlying30 az1 (by omega) h6 Holds.str read_str1
    have e6 : c6 = v6 := by simpa [az5] using q6
    obtain ⟨v7, d7, q7, r7⟩ := rdl_of Try.underlying30 az1 (by omega) h7 Holds.str read_str1
    have e7 : c7 = v7 := by simpa [az5] using q7
    obtain ⟨v8, d8, q8, r8⟩ := rdl_of Try.underlying45 az6 (by omega) h8 Holds.way read_way
    have e8 : c8 = v8 := by simpa [az7] using q8
    subst e0 e1 e2 e3 e4 e5 e6 e7 e8
    exact ⟨⟨d0, d1, d2, d3, d4, d5, d6, d7, d8⟩, i64_wf w0, i64_wf w1, i64_wf w2, i64_wf w3, _, _, _, _, rfl, r5, r6, r7, r8⟩

theorem read_line (m : Nat) (cs : List Value) (y : DataW H × List MemPlace) (h : DataW.trod enc Try.prog W 0 sp held m 50 cs = some y) : ∃ e, (Holds.sl Holds.slot 2).R (fun b => b < W.heap.size) W e cs := by
  obtain ⟨v, l, hv, hl⟩ := rdl_of Try.underlying50 az8 (by omega) h Holds.slot read_slot
  exact ⟨l, v, hv, hl⟩

set_option maxRecDepth 20000 in
theorem read_act (fuel : Nat) (cs : List Value) (x : DataW H × List MemPlace) (h : DataW.trod enc Try.prog W 0 sp held fuel 53 cs = some x) : ∃ e, Holds.act.R (fun b => b < W.heap.size) W e cs := by
  obtain ⟨xs, m, rfl, _, hl, hlen, hf⟩ := DataW.trod_struct Try.underlying53 h
  rw [az13] at hl
  have hlen : xs.length = 2 := hlen
  match cs, hl, xs, hlen with
  | [c0, c1], _, [y0, y1], _ =>
    have h0 := hf 0 _ rfl
    have h1 := hf 1 _ rfl
    obtain ⟨d0, q0, _⟩ := DataW.trod_bool Try.underlying4 h0
    have e0 : c0 = .bool d0 := by simpa [az3] using q0
    obtain ⟨v1, d1, q1, r1⟩ := rdl_of Try.underlying51 az9 (by omega) h1 (Holds.sl Holds.slot 2) read_line
    have e1 : c1 = v1 := by simpa [az10] using q1
    subst e0 e1
    exact ⟨⟨d0, d1⟩, _, rfl, r1⟩

set_option maxRecDepth 20000 in
theorem read_deed (fuel : Nat) (cs : List Value) (x : DataW H × List MemPlace) (h : DataW.trod enc Try.prog W 0 sp held fuel 127 cs = some x) : ∃ e, Holds.deed.R (fun b => b < W.heap.size) W e cs := by
  obtain ⟨xs, m, rfl, _, hl, hlen, hf⟩ := DataW.trod_struct Try.underlying127 h
  rw [az15] at hl
  have hlen : xs.length = 6 := hlen
  match cs, hl, xs, hlen with
  | [c0, c1, c2, c3, c4, c5], _, [y0, y1, y2, y3, y4, y5], _ =>
    have h0 := hf 0 _ rfl
    have h1 := hf 1 _ rfl
    have h2 := hf 2 _ rfl
    have h3 := hf 3 _ rfl
    have h4 := hf 4 _ rfl
    have h5 := hf 5 _ rfl
    obtain ⟨d0, q0, _, w0⟩ := DataW.trod_int Try.underlying3 h0
    have e0 : c0 = .int .i64 d0 := by simpa [az0] using q0
    obtain ⟨d1, q1, _, w1⟩ := DataW.trod_int Try.underlying3 h1
    have e1 : c1 = .int .i64 d1 := by simpa [az0] using q1
    obtain ⟨d2, q2, _, w2⟩ := DataW.trod_int Try.underlying3 h2
    have e2 : c2 = .int .i64 d2 := by simpa [az0] using q2
    obtain ⟨d3, q3, _, w3⟩ := DataW.trod_int Try.underlying3 h3
    have e3 : c3 = .int .i64 d3 := by simpa [az0] using q3
    obtain ⟨d4, q4, _, w4⟩ := DataW.trod_int Try.underlying3 h4
    have e4 : c4 = .int .i64 d4 := by simpa [az0] using q4
    obtain ⟨d5, q5, _, w5⟩ := DataW.trod_int Try.underlying3 h5
    have e5 : c5 = .int .i64 d5 := by simpa [az0] using q5
    subst e0 e1 e2 e3 e4 e5
    exact ⟨⟨d0, d1, d2, d3, d4, d5⟩, i64_wf w0, i64_wf w1, i64_wf w2, i64_wf w3, i64_wf w4, i64_wf w5, rfl⟩

set_option maxRecDepth 20000 in
theorem read_tab (fuel : Nat) (cs : List Value) (x : DataW H × List MemPlace) (h : DataW.trod enc Try.prog W 0 sp held fuel 35 cs = some x) : ∃ e, Holds.tab.R (fun b => b < W.heap.size) W e cs := by
  obtain ⟨xs, m, rfl, _, hl, hlen, hf⟩ := DataW.trod_struct Try.underlying35 h
  rw [az17] at hl
  have hlen : xs.length = 15 := hlen
  match cs, hl, xs, hlen with
  | [c0, c1, c2, c3, c4, c5, c6, c7, c8, c9, c10, c11, c12, c13, c14], _, [y0, y1, y2, y3, y4, y5, y6, y7, y8, y9, y10, y11, y12, y13, y14], _ =>
    have h0 := hf 0 _ rfl
    have h1 := hf 1 _ rfl
    have h2 := hf 2 _ rfl
    have h3 := hf 3 _ rfl
    have h4 := hf 4 _ rfl
    have h5 := hf 5 _ rfl
    have h6 := hf 6 _ rfl
    have h7 := hf 7 _ rfl
    have h8 := hf 8 _ rfl
    have h9 := hf 9 _ rfl
    have h10 := hf 10 _ rfl
    have h11 := hf 11 _ rfl
    have h12 := hf 12 _ rfl
    have h13 := hf 13 _ rfl
    have h14 := hf 14 _ rfl
    obtain ⟨d0, q0, _, w0⟩ := DataW.trod_int Try.underlying3 h0
    have e0 : c0 = .int .i64 d0 := by simpa [az0] using q0
    obtain ⟨d1, q1, _, w1⟩ := DataW.trod_int Try.underlying3 h1
    have e1 : c1 = .int .i64 d1 := by simpa [az0] using q1
    obtain ⟨d2, q2, _, w2⟩ := DataW.trod_int Try.underlying3 h2
    have e2 : c2 = .int .i64 d2 := by simpa [az0] using q2
    obtain ⟨d3, q3, _, w3⟩ := DataW.trod_int Try.underlying3 h3
    have e3 : c3 = .int .i64 d3 := by simpa [az0] using q3
    obtain ⟨v4, d4, q4, r4⟩ := rdl_of Try.underlying30 az1 (by omega) h4 Holds.str read_str1
    have e4 : c4 = v4 := by simpa [az5] using q4
    obtain ⟨d5, q5, _, w5⟩ := DataW.trod_int Try.underlying3 h5
    have e5 : c5 = .int .i64 d5 := by simpa [az0] using q5
    obtain ⟨v6, d6, q6, r6⟩ := rdl_of Try.underlying27 az0 (by omega) h6 Holds.int read_int1
    have e6 : c6 = v6 := by simpa [az4] using q6
    obtain ⟨v7, d7, q7, r7⟩ := rdl_of Try.underlying27 az0 (by omega) h7 Holds.int read_int1
    have e7 : c7 = v7 := by simpa [az4] using q7
    obtain ⟨v8, d8, q8, r8⟩ := rdl_of Try.underlying31 az11 (by omega) h8 Holds.thing read_thing
    have e8 : c8 = v8 := by simpa [az12] using q8
    obtain ⟨v9, d9, q9, r9⟩ := rdl_of Try.underlying32 az13 (by omega) h9 Holds.act read_act
    have e9 : c9 = v9 := by simpa [az14] using q9
    obtain ⟨v10, d10, q10, r10⟩ := rdl_of Try.underlying33 az15 (by omega) h10 Holds.deed read_deed
    have e10 : c10 = v10 := by simpa [az16] using q10
    obtain ⟨v11, d11, q11, r11⟩ := rdl_of Try.underlying27 az0 (by omega) h11 Holds.int read_int1
    have e11 : c11 = v11 := by simpa [az4] using q11
    obtain ⟨v12, d12, q12, r12⟩ := rdl_of Try.underlying27 az0 (by omega) h12 Holds.int read_int1
    have e12 : c12 = v12 := by simpa [az4] using q12
    obtain ⟨v13, d13, q13, r13⟩ := rdl_of Try.underlying27 az0 (by omega) h13 Holds.int read_int1
    have e13 : c13 = v13 := by simpa [az4] using q13
    obtain ⟨v14, d14, q14, r14⟩ := rdl_of Try.underlying27 az0 (by omega) h14 Holds.int read_int1
    have e14 : c14 = v14 := by simpa [az4] using q14
    subst e0 e1 e2 e3 e4 e5 e6 e7 e8 e9 e10 e11 e12 e13 e14
    exact ⟨⟨d0, d1, d2, d3, d4, d5, d6, d7, d8, d9, d10, d11, d12, d13, d14⟩, i64_wf w0, i64_wf w1, i64_wf w2, i64_wf w3, i64_wf w5, _, _, _, _, _, _, _, _, _, _, rfl, r4, r6, r7, r8, r9, r10, r11, r12, r13, r14⟩

set_option maxRecDepth 20000 in
theorem read_world (fuel : Nat) (cs : List Value) (x : DataW H × List MemPlace) (h : DataW.trod enc Try.prog W 0 sp held fuel 38 cs = some x) : ∃ e, Holds.world.R (fun b => b < W.heap.size) W e cs := by
  obtain ⟨xs, m, rfl, _, hl, hlen, hf⟩ := DataW.trod_struct Try.underlying38 h
  rw [az18] at hl
  have hlen : xs.length = 13 := hlen
  match cs, hl, xs, hlen with
  | [c0, c1, c2, c3, c4, c5, c6, c7, c8, c9, c10, c11, c12], _, [y0, y1, y2, y3, y4, y5, y6, y7, y8, y9, y10, y11, y12], _ =>
    have h0 := hf 0 _ rfl
    have h1 := hf 1 _ rfl
    have h2 := hf 2 _ rfl
    have h3 := hf 3 _ rfl
    have h4 := hf 4 _ rfl
    have h5 := hf 5 _ rfl
    have h6 := hf 6 _ rfl
    have h7 := hf 7 _ rfl
    have h8 := hf 8 _ rfl
    have h9 := hf 9 _ rfl
    have h10 := hf 10 _ rfl
    have h11 := hf 11 _ rfl
    have h12 := hf 12 _ rfl
    obtain ⟨v0, d0, q0, r0⟩ := rdl_of Try.underlying27 az0 (by omega) h0 Holds.int read_int1
    have e0 : c0 = v0 := by simpa [az4] using q0
    obtain ⟨v1, d1, q1, r1⟩ := rdl_of Try.underlying27 az0 (by omega) h1 Holds.int read_int1
    have e1 : c1 = v1 := by simpa [az4] using q1
    obtain ⟨v2, d2, q2, r2⟩ := rdl_of Try.underlying27 az0 (by omega) h2 Holds.int read_int1
    have e2 : c2 = v2 := by simpa [az4] using q2
    obtain ⟨v3, d3, q3, r3⟩ := rdl_of Try.underlying27 az0 (by omega) h3 Holds.int read_int1
    have e3 : c3 = v3 := by simpa [az4] using q3
    obtain ⟨v4, d4, q4, r4⟩ := rdl_of Try.underlying27 az0 (by omega) h4 Holds.int read_int1
    have e4 : c4 = v4 := by simpa [az4] using q4
    obtain ⟨v5, d5, q5, r5⟩ := rdl_of Try.underlying27 az0 (by omega) h5 Holds.int read_int1
    have e5 : c5 = v5 := by simpa [az4] using q5
    obtain ⟨v6, d6, q6, r6⟩ := rdl_of Try.underlying27 az0 (by omega) h6 Holds.int read_int1
    have e6 : c6 = v6 := by simpa [az4] using q6
    obtain ⟨d7, q7, _, w7⟩ := DataW.trod_int Try.underlying36 h7
    have e7 : c7 = .int .u64 d7 := by simpa [az2] using q7
    obtain ⟨d8, q8, _, w8⟩ := DataW.trod_int Try.underlying3 h8
    have e8 : c8 = .int .i64 d8 := by simpa [az0] using q8
    obtain ⟨d9, q9, _, w9⟩ := DataW.trod_int Try.underlying3 h9
    have e9 : c9 = .int .i64 d9 := by simpa [az0] using q9
    obtain ⟨d10, q10, _, w10⟩ := DataW.trod_int Try.underlying3 h10
    have e10 : c10 = .int .i64 d10 := by simpa [az0] using q10
    obtain ⟨d11, q11, _, w11⟩ := DataW.trod_int Try.underlying3 h11
    have e11 : c11 = .int .i64 d11 := by simpa [az0] using q11
    obtain ⟨d12, q12, _, w12⟩ := DataW.trod_int Try.underlying3 h12
    have e12 : c12 = .int .i64 d12 := by simpa [az0] using q12
    subst e0 e1 e2 e3 e4 e5 e6 e7 e8 e9 e10 e11 e12
    exact ⟨⟨d0, d1, d2, d3, d4, d5, d6, d7, d8, d9, d10, d11, d12⟩, u64_wf w7, i64_wf w8, i64_wf w9, i64_wf w10, i64_wf w11, i64_wf w12, _, _, _, _, _, _, _, rfl, r0, r1, r2, r3, r4, r5, r6⟩

set_option maxRecDepth 20000 in
theorem read_cmd (fuel : Nat) (cs : List Value) (x : DataW H × List MemPlace) (h : DataW.trod enc Try.prog W 0 sp held fuel 23 cs = some x) : ∃ e, Holds.cmd.R (fun b => b < W.heap.size) W e cs := by
  obtain ⟨xs, m, rfl, _, hl, hlen, hf⟩ := DataW.trod_struct Try.underlying23 h
  rw [az19] at hl
  have hlen : xs.length = 5 := hlen
  match cs, hl, xs, hlen with
  | [c0, c1, c2, c3, c4], _, [y0, y1, y2, y3, y4], _ =>
    have h0 := hf 0 _ rfl
    have h1 := hf 1 _ rfl
    have h2 := hf 2 _ rfl
    have h3 := hf 3 _ rfl
    have h4 := hf 4 _ rfl
    obtain ⟨d0, q0, _, w0⟩ := DataW.trod_int Try.underlying3 h0
    have e0 : c0 = .int .i64 d0 := by simpa [az0] using q0
    obtain ⟨d1, q1, _, w1⟩ := DataW.trod_int Try.underlying3 h1
    have e1 : c1 = .int .i64 d1 := by simpa [az0] using q1
    obtain ⟨d2, q2, _, w2⟩ := DataW.trod_int Try.underlying3 h2
    have e2 : c2 = .int .i64 d2 := by simpa [az0] using q2
    obtain ⟨d3, q3, _, w3⟩ := DataW.trod_int Try.underlying3 h3
    have e3 : c3 = .int .i64 d3 := by simpa [az0] using q3
    obtain ⟨d4, q4, _, w4⟩ := DataW.trod_int Try.underlying3 h4
    have e4 : c4 = .int .i64 d4 := by simpa [az0] using q4
    subst e0 e1 e2 e3 e4
    exact ⟨⟨d0, d1, d2, d3, d4⟩, i64_wf w0, i64_wf w1, i64_wf w2, i64_wf w3, i64_wf w4, rfl⟩

end
section
variable {H : Type} {enc : TypeId × Value → H} {W : World} {base : Nat} {v : Value} {d : DataW H} {p : List MemPlace}

set_option maxRecDepth 100000 in
theorem arg_tab (hv : Value.okWide Try.prog W .any base 35 v) (h : DataW.Trod enc Try.prog W 0 (fun _ => true) true 35 v d p) : ∃ (s : TabD) (cs : List Value), v = .agg cs.toArray ∧ Holds.tab.R (fun b => b < W.heap.size) W s cs := by
  obtain ⟨cs, rfl, _⟩ := okWide_struct Try.underlying35 hv
  obtain ⟨fuel, hf⟩ := h
  obtain ⟨e, he⟩ := read_tab fuel _ _ hf
  exact ⟨e, cs.toList, by simp, he⟩
set_option maxRecDepth 100000 in
theorem same_tab {W' : World} (h : DataW.Trod enc Try.prog W 0 (fun _ => true) true 35 v d p) (hb : Below W.heap.size W W') (hlt : ∀ x ∈ p, x.block < W.heap.size) : DataW.Trod enc Try.prog W' 0 (fun b => decide (b < W.heap.size)) true 35 v d p :=
  Below.trod Try.laidOut (by kernel_rfl) (of_decide_eq_true (by kernel_rfl)) h hb hlt

set_option maxRecDepth 100000 in
theorem arg_world (hv : Value.okWide Try.prog W .any base 38 v) (h : DataW.Trod enc Try.prog W 0 (fun _ => true) true 38 v d p) : ∃ (s : WorldD) (cs : List Value), v = .agg cs.toArray ∧ Holds.world.R (fun b => b < W.heap.size) W s cs := by
  obtain ⟨cs, rfl, _⟩ := okWide_struct Try.underlying38 hv
  obtain ⟨fuel, hf⟩ := h
  obtain ⟨e, he⟩ := read_world fuel _ _ hf
  exact ⟨e, cs.toList, by simp, he⟩
set_option maxRecDepth 100000 in
theorem same_world {W' : World} (h : DataW.Trod enc Try.prog W 0 (fun _ => true) true 38 v d p) (hb : Below W.heap.size W W') (hlt : ∀ x ∈ p, x.block < W.heap.size) : DataW.Trod enc Try.prog W' 0 (fun b => decide (b < W.heap.size)) true 38 v d p :=
  Below.trod Try.laidOut (by kernel_rfl) (of_decide_eq_true (by kernel_rfl)) h hb hlt

set_option maxRecDepth 100000 in
theorem arg_cmd (hv : Value.okWide Try.prog W .any base 23 v) (h : DataW.Trod enc Try.prog W 0 (fun _ => true) true 23 v d p) : ∃ (s : CmdD) (cs : List Value), v = .agg cs.toArray ∧ Holds.cmd.R (fun b => b < W.heap.size) W s cs := by
  obtain ⟨cs, rfl, _⟩ := okWide_struct Try.underlying23 hv
  obtain ⟨fuel, hf⟩ := h
  obtain ⟨e, he⟩ := read_cmd fuel _ _ hf
  exact ⟨e, cs.toList, by simp, he⟩
set_option maxRecDepth 100000 in
theorem same_cmd {W' : World} (h : DataW.Trod enc Try.prog W 0 (fun _ => true) true 23 v d p) (hb : Below W.heap.size W W') (hlt : ∀ x ∈ p, x.block < W.heap.size) : DataW.Trod enc Try.prog W' 0 (fun b => decide (b < W.heap.size)) true 23 v d p :=
  Below.trod Try.laidOut (by kernel_rfl) (of_decide_eq_true (by kernel_rfl)) h hb hlt

theorem cmd_cells {F : Nat → Prop} {w : World} {c : CmdD} {cs : List Value} (h : Holds.cmd.R F w c cs) : Value.agg cs.toArray = c.val := by
  obtain ⟨-, -, -, -, -, rfl⟩ := h
  rfl
theorem shut_true {W' : World} {b : Nat} {sp : Nat → Bool} {hd : Bool} : DataW.TrodAll enc Try.prog W' b sp hd [4] [.bool true] [.lit (.bool true)] [] := trodAll_mk1 (shut_bool Try.underlying4 _)
end
end Go.Proofs.Ytapjglpiofpbmaa
