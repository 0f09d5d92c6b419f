/- Reading a Source from a row's arguments. Printed by gen-reads.py. -/
import Derived.Test.YtdeecfkipknkbaaGreatDoorRead
import Derived.Test.YtdeecfkipknkbaaGreatDoorPart65b68abe
namespace Go.Proofs.YtdeecfkipknkbaaGreatDoor
set_option maxRecDepth 100000
open Go.RowKit Go.ChangeShapes Go.WideShapes
theorem cz0 : Tryz.prog.cellsOf 84 = 2 := by kernel_rfl
theorem cz1 : Tryz.prog.cellsOf 121 = 4 := by kernel_rfl
theorem cz2 : Tryz.prog.cellsOf 63 = 10 := by kernel_rfl
theorem cz3 : Tryz.prog.cellsOf 125 = 2 := by kernel_rfl
theorem cz4 : Tryz.prog.cellsOf 67 = 3 := by kernel_rfl
theorem cz5 : Tryz.prog.cellsOf 70 = 6 := by kernel_rfl
theorem cz6 : Tryz.prog.cellsOf 91 = 3 := by kernel_rfl
theorem cz7 : Tryz.prog.cellsOf 29 = 13 := by kernel_rfl
theorem cz8 : Tryz.prog.cellsOf 4 = 1 := by kernel_rfl
theorem cz9 : Tryz.prog.cellsOf 22 = 1 := by kernel_rfl
theorem cz10 : Tryz.prog.cellsOf 23 = 1 := by kernel_rfl
theorem cz11 : Tryz.prog.cellsOf 61 = 1 := by kernel_rfl
theorem cz12 : Tryz.prog.cellsOf 123 = 1 := by kernel_rfl
theorem cz13 : Tryz.prog.cellsOf 65 = 1 := by kernel_rfl
theorem cz14 : Tryz.prog.cellsOf 24 = 1 := by kernel_rfl
theorem cz15 : Tryz.prog.cellsOf 25 = 1 := by kernel_rfl
theorem cz16 : Tryz.prog.cellsOf 26 = 1 := by kernel_rfl
theorem cz17 : Tryz.prog.cellsOf 27 = 1 := by kernel_rfl
instance : Inhabited ByteArray := ⟨⟨#[]⟩⟩
instance : Inhabited PairD := ⟨⟨⟨#[]⟩, 0⟩⟩
instance : Inhabited ExitD := ⟨⟨0, ⟨#[]⟩, ⟨#[]⟩, []⟩⟩
instance : Inhabited ObjD := ⟨⟨⟨#[]⟩, ⟨#[]⟩, ⟨#[]⟩, ⟨#[]⟩, false, [], [], [], [], []⟩⟩
instance : Inhabited SlotD := ⟨⟨0, []⟩⟩
instance : Inhabited VerbD := ⟨⟨⟨#[]⟩, false, []⟩⟩
instance : Inhabited RuleD := ⟨⟨⟨#[]⟩, 0, ⟨#[]⟩, ⟨#[]⟩, [], []⟩⟩
instance : Inhabited FuncD := ⟨⟨⟨#[]⟩, [], []⟩⟩
section
variable {H : Type} {enc : TypeId × Value → H} {W : World} {sp : Nat → Bool} {held : Bool}
theorem rdl_of {P : Program} {te tt : TypeId} {sz fuel : Nat} {cs : List Value} {x : DataW H × List MemPlace} (ht : P.underlying tt = some (.slice te)) (hc : P.cellsOf te = sz) (hsz : 0 < sz)
 (h : DataW.trod enc P W 0 sp held fuel tt cs = some x) {α : Type} [Inhabited α] (R : Holds α) (hR : ∀ m cs y, DataW.trod enc P W 0 sp held m te cs = some y → ∃ e, R.R (fun b => b < W.heap.size) W e cs) :
 ∃ v l, cs = [v] ∧ RdL R sz (fun b => b < W.heap.size) W l v := by
 obtain ⟨v, len, c, hv, hsl, E, hE⟩ := sl_of ht hc hsz h (R := R.R (fun b => b < W.heap.size) W) (α := α) (fun m cs y _ => hR m cs y)
 refine ⟨v, (List.range len).map E, hv, c, by simpa using hsl, fun i hi => ?_⟩
 have := hE i (by simpa using hi)
 rw [List.getElem_map, List.getElem_range]
 exact this
theorem read_str1 (m : Nat) (cs : List Value) (y : DataW H × List MemPlace) (h : DataW.trod enc Tryz.prog W 0 sp held m 9 cs = some y) : ∃ e, Holds.str.R (fun b => b < W.heap.size) W e cs := by
 obtain ⟨s, hs, _, ws⟩ := DataW.trod_string Tryz.underlying9 h
 exact ⟨s, ws, by simpa using hs⟩
theorem read_pair (fuel : Nat) (cs : List Value) (x : DataW H × List MemPlace) (h : DataW.trod enc Tryz.prog W 0 sp held fuel 84 cs = some x) : ∃ e, Holds.pair.R (fun b => b < W.heap.size) W e cs := by
 obtain ⟨xs, m, rfl, _, hl, hlen, hf⟩ := DataW.trod_struct Tryz.underlying84 h
 rw [cz0] at hl
 have hlen : xs.length = 2 := hlen
 match cs, hl, xs, hlen with
 | [c0, c1], _, [y0, y1], _ =>
  have h0 := hf 0 _ rfl
  have h1 := hf 1 _ rfl
  obtain ⟨d0, q0, _, w0⟩ := DataW.trod_string Tryz.underlying9 h0
  have e0 : c0 = .string d0 := by simpa [ce_str] using q0
  obtain ⟨d1, q1, _, w1⟩ := DataW.trod_int Tryz.underlying3 h1
  have e1 : c1 = .int .i64 d1 := by simpa [ce_int] using q1
  subst e0 e1
  exact ⟨⟨d0, d1⟩, w0, i64_wf w1, rfl⟩
theorem read_exit (fuel : Nat) (cs : List Value) (x : DataW H × List MemPlace) (h : DataW.trod enc Tryz.prog W 0 sp held fuel 121 cs = some x) : ∃ e, Holds.exit.R (fun b => b < W.heap.size) W e cs := by
 obtain ⟨xs, m, rfl, _, hl, hlen, hf⟩ := DataW.trod_struct Tryz.underlying121 h
 rw [cz1] at hl
 have hlen : xs.length = 4 := hlen
 match cs, hl, xs, hlen with
 | [c0, c1, c2, c3], _, [y0, y1, y2, y3], _ =>
  have h0 := hf 0 _ rfl
  have h1 := hf 1 _ rfl
  have h2 := hf 2 _ rfl
  have h3 := hf 3 _ rfl
  obtain ⟨d0, q0, _, w0⟩ := DataW.trod_int Tryz.underlying3 h0
  have e0 : c0 = .int .i64 d0 := by simpa [ce_int] using q0
  obtain ⟨d1, q1, _, w1⟩ := DataW.trod_string Tryz.underlying9 h1
  have e1 : c1 = .string d1 := by simpa [ce_str] using q1
  obtain ⟨d2, q2, _, w2⟩ := DataW.trod_string Tryz.underlying9 h2
  have e2 : c2 = .string d2 := by simpa [ce_str] using q2
  obtain ⟨v3, d3, q3, r3⟩ := read_exs h3
  have e3 : c3 = v3 := by simpa [ce_exs] using q3
  subst e0 e1 e2 e3
  exact ⟨⟨d0, d1, d2, d3⟩, i64_wf w0, w1, w2, _, rfl, r3⟩
theorem read_obj (fuel : Nat) (cs : List Value) (x : DataW H × List MemPlace) (h : DataW.trod enc Tryz.prog W 0 sp held fuel 63 cs = some x) : ∃ e, Holds.obj.R (fun b => b < W.heap.size) W e cs := by
 obtain ⟨xs, m, rfl, _, hl, hlen, hf⟩ := DataW.trod_struct Tryz.underlying63 h
 rw [cz2] at hl
 have hlen : xs.length = 10 := hlen
 match cs, hl, xs, hlen with
 | [c0, c1, c2, c3, c4, c5, c6, c7, c8, c9], _, [y0, y1, y2, y3, y4, y5, y6, y7, y8, y9], _ =>
  have h0 := hf 0 _ rfl
  have h1 := hf 1 _ rfl
  have h2 := hf 2 _ rfl
  have h3 := hf 3 _ rfl
  have h4 := hf 4 _ rfl
  have h5 := hf 5 _ rfl
  have h6 := hf 6 _ rfl
  have h7 := hf 7 _ rfl
  have h8 := hf 8 _ rfl
  have h9 := hf 9 _ rfl
  obtain ⟨d0, q0, _, w0⟩ := DataW.trod_string Tryz.underlying9 h0
  have e0 : c0 = .string d0 := by simpa [ce_str] using q0
  obtain ⟨d1, q1, _, w1⟩ := DataW.trod_string Tryz.underlying9 h1
  have e1 : c1 = .string d1 := by simpa [ce_str] using q1
  obtain ⟨d2, q2, _, w2⟩ := DataW.trod_string Tryz.underlying9 h2
  have e2 : c2 = .string d2 := by simpa [ce_str] using q2
  obtain ⟨d3, q3, _, w3⟩ := DataW.trod_string Tryz.underlying9 h3
  have e3 : c3 = .string d3 := by simpa [ce_str] using q3
  obtain ⟨d4, q4, _⟩ := DataW.trod_bool Tryz.underlying4 h4
  have e4 : c4 = .bool d4 := by simpa [cz8] using q4
  obtain ⟨v5, d5, q5, r5⟩ := rdl_of Tryz.underlying22 ce_str (by omega) h5 Holds.str read_str1
  have e5 : c5 = v5 := by simpa [cz9] using q5
  obtain ⟨v6, d6, q6, r6⟩ := rdl_of Tryz.underlying22 ce_str (by omega) h6 Holds.str read_str1
  have e6 : c6 = v6 := by simpa [cz9] using q6
  obtain ⟨v7, d7, q7, r7⟩ := rdl_of Tryz.underlying22 ce_str (by omega) h7 Holds.str read_str1
  have e7 : c7 = v7 := by simpa [cz9] using q7
  obtain ⟨v8, d8, q8, r8⟩ := rdl_of Tryz.underlying23 cz0 (by omega) h8 Holds.pair read_pair
  have e8 : c8 = v8 := by simpa [cz10] using q8
  obtain ⟨v9, d9, q9, r9⟩ := rdl_of Tryz.underlying61 cz1 (by omega) h9 Holds.exit read_exit
  have e9 : c9 = v9 := by simpa [cz11] using q9
  subst e0 e1 e2 e3 e4 e5 e6 e7 e8 e9
  exact ⟨⟨d0, d1, d2, d3, d4, d5, d6, d7, d8, d9⟩, w0, w1, w2, w3, _, _, _, _, _, rfl, r5, r6, r7, r8, r9⟩
theorem read_slot (fuel : Nat) (cs : List Value) (x : DataW H × List MemPlace) (h : DataW.trod enc Tryz.prog W 0 sp held fuel 125 cs = some x) : ∃ e, Holds.slot.R (fun b => b < W.heap.size) W e cs := by
 obtain ⟨xs, m, rfl, _, hl, hlen, hf⟩ := DataW.trod_struct Tryz.underlying125 h
 rw [cz3] at hl
 have hlen : xs.length = 2 := hlen
 match cs, hl, xs, hlen with
 | [c0, c1], _, [y0, y1], _ =>
  have h0 := hf 0 _ rfl
  have h1 := hf 1 _ rfl
  obtain ⟨d0, q0, _, w0⟩ := DataW.trod_int Tryz.underlying3 h0
  have e0 : c0 = .int .i64 d0 := by simpa [ce_int] using q0
  obtain ⟨v1, d1, q1, r1⟩ := rdl_of Tryz.underlying22 ce_str (by omega) h1 Holds.str read_str1
  have e1 : c1 = v1 := by simpa [cz9] using q1
  subst e0 e1
  exact ⟨⟨d0, d1⟩, i64_wf w0, _, rfl, r1⟩
theorem read_line (m : Nat) (cs : List Value) (y : DataW H × List MemPlace) (h : DataW.trod enc Tryz.prog W 0 sp held m 123 cs = some y) : ∃ e, (Holds.sl Holds.slot 2).R (fun b => b < W.heap.size) W e cs := by
 obtain ⟨v, l, hv, hl⟩ := rdl_of Tryz.underlying123 cz3 (by omega) h Holds.slot read_slot
 exact ⟨l, v, hv, hl⟩
theorem read_verb (fuel : Nat) (cs : List Value) (x : DataW H × List MemPlace) (h : DataW.trod enc Tryz.prog W 0 sp held fuel 67 cs = some x) : ∃ e, Holds.verb.R (fun b => b < W.heap.size) W e cs := by
 obtain ⟨xs, m, rfl, _, hl, hlen, hf⟩ := DataW.trod_struct Tryz.underlying67 h
 rw [cz4] at hl
 have hlen : xs.length = 3 := hlen
 match cs, hl, xs, hlen with
 | [c0, c1, c2], _, [y0, y1, y2], _ =>
  have h0 := hf 0 _ rfl
  have h1 := hf 1 _ rfl
  have h2 := hf 2 _ rfl
  obtain ⟨d0, q0, _, w0⟩ := DataW.trod_string Tryz.underlying9 h0
  have e0 : c0 = .string d0 := by simpa [ce_str] using q0
  obtain ⟨d1, q1, _⟩ := DataW.trod_bool Tryz.underlying4 h1
  have e1 : c1 = .bool d1 := by simpa [cz8] using q1
  obtain ⟨v2, d2, q2, r2⟩ := rdl_of Tryz.underlying65 cz12 (by omega) h2 (Holds.sl Holds.slot 2) read_line
  have e2 : c2 = v2 := by simpa [cz13] using q2
  subst e0 e1 e2
  exact ⟨⟨d0, d1, d2⟩, w0, _, rfl, r2⟩
theorem read_rule (fuel : Nat) (cs : List Value) (x : DataW H × List MemPlace) (h : DataW.trod enc Tryz.prog W 0 sp held fuel 70 cs = some x) : ∃ e, Holds.rule.R (fun b => b < W.heap.size) W e cs := by
 obtain ⟨xs, m, rfl, _, hl, hlen, hf⟩ := DataW.trod_struct Tryz.underlying70 h
 rw [cz5] at hl
 have hlen : xs.length = 6 := hlen
 match cs, hl, xs, hlen with
 | [c0, c1, c2, c3, c4, c5], _, [y0, y1, y2, y3, y4, y5], _ =>
  have h0 := hf 0 _ rfl
  have h1 := hf 1 _ rfl
  have h2 := hf 2 _ rfl
  have h3 := hf 3 _ rfl
  have h4 := hf 4 _ rfl
  have h5 := hf 5 _ rfl
  obtain ⟨d0, q0, _, w0⟩ := DataW.trod_string Tryz.underlying9 h0
  have e0 : c0 = .string d0 := by simpa [ce_str] using q0
  obtain ⟨d1, q1, _, w1⟩ := DataW.trod_int Tryz.underlying3 h1
  have e1 : c1 = .int .i64 d1 := by simpa [ce_int] using q1
  obtain ⟨d2, q2, _, w2⟩ := DataW.trod_string Tryz.underlying9 h2
  have e2 : c2 = .string d2 := by simpa [ce_str] using q2
  obtain ⟨d3, q3, _, w3⟩ := DataW.trod_string Tryz.underlying9 h3
  have e3 : c3 = .string d3 := by simpa [ce_str] using q3
  obtain ⟨v4, d4, q4, r4⟩ := read_exs h4
  have e4 : c4 = v4 := by simpa [ce_exs] using q4
  obtain ⟨v5, d5, q5, r5⟩ := read_sts h5
  have e5 : c5 = v5 := by simpa [ce_sts] using q5
  subst e0 e1 e2 e3 e4 e5
  exact ⟨⟨d0, d1, d2, d3, d4, d5⟩, w0, i64_wf w1, w2, w3, _, _, rfl, r4, r5⟩
theorem read_fnc (fuel : Nat) (cs : List Value) (x : DataW H × List MemPlace) (h : DataW.trod enc Tryz.prog W 0 sp held fuel 91 cs = some x) : ∃ e, Holds.fnc.R (fun b => b < W.heap.size) W e cs := by
 obtain ⟨xs, m, rfl, _, hl, hlen, hf⟩ := DataW.trod_struct Tryz.underlying91 h
 rw [cz6] at hl
 have hlen : xs.length = 3 := hlen
 match cs, hl, xs, hlen with
 | [c0, c1, c2], _, [y0, y1, y2], _ =>
  have h0 := hf 0 _ rfl
  have h1 := hf 1 _ rfl
  have h2 := hf 2 _ rfl
  obtain ⟨d0, q0, _, w0⟩ := DataW.trod_string Tryz.underlying9 h0
  have e0 : c0 = .string d0 := by simpa [ce_str] using q0
  obtain ⟨v1, d1, q1, r1⟩ := rdl_of Tryz.underlying22 ce_str (by omega) h1 Holds.str read_str1
  have e1 : c1 = v1 := by simpa [cz9] using q1
  obtain ⟨v2, d2, q2, r2⟩ := read_sts h2
  have e2 : c2 = v2 := by simpa [ce_sts] using q2
  subst e0 e1 e2
  exact ⟨⟨d0, d1, d2⟩, w0, _, _, rfl, r1, r2⟩
theorem read_src (fuel : Nat) (cs : List Value) (x : DataW H × List MemPlace) (h : DataW.trod enc Tryz.prog W 0 sp held fuel 29 cs = some x) : ∃ e, Holds.src.R (fun b => b < W.heap.size) W e cs := by
 obtain ⟨xs, m, rfl, _, hl, hlen, hf⟩ := DataW.trod_struct Tryz.underlying29 h
 rw [cz7] at hl
 have hlen : xs.length = 13 := hlen
 match cs, hl, xs, hlen with
 | [c0, c1, c2, c3, c4, c5, c6, c7, c8, c9, c10, c11, c12], _, [y0, y1, y2, y3, y4, y5, y6, y7, y8, y9, y10, y11, y12], _ =>
  have h0 := hf 0 _ rfl
  have h1 := hf 1 _ rfl
  have h2 := hf 2 _ rfl
  have h3 := hf 3 _ rfl
  have h4 := hf 4 _ rfl
  have h5 := hf 5 _ rfl
  have h6 := hf 6 _ rfl
  have h7 := hf 7 _ rfl
  have h8 := hf 8 _ rfl
  have h9 := hf 9 _ rfl
  have h10 := hf 10 _ rfl
  have h11 := hf 11 _ rfl
  have h12 := hf 12 _ rfl
  obtain ⟨d0, q0, _, w0⟩ := DataW.trod_string Tryz.underlying9 h0
  have e0 : c0 = .string d0 := by simpa [ce_str] using q0
  obtain ⟨d1, q1, _, w1⟩ := DataW.trod_string Tryz.underlying9 h1
  have e1 : c1 = .string d1 := by simpa [ce_str] using q1
  obtain ⟨d2, q2, _, w2⟩ := DataW.trod_string Tryz.underlying9 h2
  have e2 : c2 = .string d2 := by simpa [ce_str] using q2
  obtain ⟨d3, q3, _, w3⟩ := DataW.trod_int Tryz.underlying3 h3
  have e3 : c3 = .int .i64 d3 := by simpa [ce_int] using q3
  obtain ⟨d4, q4, _, w4⟩ := DataW.trod_int Tryz.underlying3 h4
  have e4 : c4 = .int .i64 d4 := by simpa [ce_int] using q4
  obtain ⟨v5, d5, q5, r5⟩ := rdl_of Tryz.underlying22 ce_str (by omega) h5 Holds.str read_str1
  have e5 : c5 = v5 := by simpa [cz9] using q5
  obtain ⟨v6, d6, q6, r6⟩ := rdl_of Tryz.underlying23 cz0 (by omega) h6 Holds.pair read_pair
  have e6 : c6 = v6 := by simpa [cz10] using q6
  obtain ⟨v7, d7, q7, r7⟩ := rdl_of Tryz.underlying23 cz0 (by omega) h7 Holds.pair read_pair
  have e7 : c7 = v7 := by simpa [cz10] using q7
  obtain ⟨v8, d8, q8, r8⟩ := rdl_of Tryz.underlying24 cz2 (by omega) h8 Holds.obj read_obj
  have e8 : c8 = v8 := by simpa [cz14] using q8
  obtain ⟨v9, d9, q9, r9⟩ := rdl_of Tryz.underlying25 cz4 (by omega) h9 Holds.verb read_verb
  have e9 : c9 = v9 := by simpa [cz15] using q9
  obtain ⟨v10, d10, q10, r10⟩ := rdl_of Tryz.underlying26 cz5 (by omega) h10 Holds.rule read_rule
  have e10 : c10 = v10 := by simpa [cz16] using q10
  obtain ⟨v11, d11, q11, r11⟩ := rdl_of Tryz.underlying27 cz6 (by omega) h11 Holds.fnc read_fnc
  have e11 : c11 = v11 := by simpa [cz17] using q11
  obtain ⟨v12, d12, q12, r12⟩ := rdl_of Tryz.underlying27 cz6 (by omega) h12 Holds.fnc read_fnc
  have e12 : c12 = v12 := by simpa [cz17] using q12
  subst e0 e1 e2 e3 e4 e5 e6 e7 e8 e9 e10 e11 e12
  exact ⟨⟨d0, d1, d2, d3, d4, d5, d6, d7, d8, d9, d10, d11, d12⟩, w0, w1, w2, i64_wf w3, i64_wf w4, _, _, _, _, _, _, _, _, rfl, r5, r6, r7, r8, r9, r10, r11, r12⟩
end
end Go.Proofs.YtdeecfkipknkbaaGreatDoor
/- What the bulk of a slice's reading tells of its length. -/
namespace Go.Proofs.YtdeecfkipknkbaaGreatDoor
open Go.RowKit Go.ChangeShapes Go.WideShapes
theorem bulk_one {H : Type} (d : DataW H) : 1 ≤ Rows.uptoBulk d := by
 cases d
 all_goals (unfold Rows.uptoBulk; first | omega | (split <;> omega))
end Go.Proofs.YtdeecfkipknkbaaGreatDoor
