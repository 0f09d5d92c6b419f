/- Plain data of the layers tree and fold (expressions, statements), and what it is for such data to lie in a world's memory. No program in sight. -/
import Derived.WalkKit
import Derived.Lib.Hide
namespace Go.Proofs.Ytapjglpiofpbmaa
open Go.RowKit

/-- An expression. -/
inductive Ex where
  | mk (kind op num : Int) (name : ByteArray) (args : List Ex)

/-- A statement. -/
inductive St where
  | mk (kind num : Int) (name : ByteArray) (args : List Ex) (body els : List St)

mutual
theorem Ex.ind {P : Ex → Prop} (h : ∀ k o n s args, (∀ x ∈ args, P x) → P (.mk k o n s args)) : ∀ e, P e
  | .mk k o n s args => h k o n s args (Ex.inds h args)
theorem Ex.inds {P : Ex → Prop} (h : ∀ k o n s args, (∀ x ∈ args, P x) → P (.mk k o n s args)) : ∀ (l : List Ex), ∀ x ∈ l, P x
  | [], _, hx => absurd hx (by simp)
  | e :: l, x, hx => (List.mem_cons.1 hx).elim (fun h1 => h1 ▸ Ex.ind h e) (fun h1 => Ex.inds h l x h1)
end

mutual
theorem St.ind {P : St → Prop} (h : ∀ k n s args body els, (∀ x ∈ body, P x) → (∀ x ∈ els, P x) → P (.mk k n s args body els)) : ∀ e, P e
  | .mk k n s args body els => h k n s args body els (St.inds h body) (St.inds h els)
theorem St.inds {P : St → Prop} (h : ∀ k n s args body els, (∀ x ∈ body, P x) → (∀ x ∈ els, P x) → P (.mk k n s args body els)) : ∀ (l : List St), ∀ x ∈ l, P x
  | [], _, hx => absurd hx (by simp)
  | e :: l, x, hx => (List.mem_cons.1 hx).elim (fun h1 => h1 ▸ St.ind h e) (fun h1 => St.inds h l x h1)
end

/-- A number that an int of Go's holds. -/
def I64 (n : Int) : Prop := -9223372036854775808 ≤ n ∧ n ≤ 9223372036854775807

/-- A slice value of n elements of sz cells each: cell j of element i holds 'c i j'. The blocks that are read are all in F. -/
def SlAt (F : Nat → Prop) (w : World) (sz : Nat) (v : Value) (n : Nat) (c : Nat → Nat → Value) : Prop :=
  ∃ a cap, v = .slice a n cap ∧ n ≤ cap ∧ cap ≤ maxLen ∧ (0 < n → ∃ b off, a = some ⟨b, off, none⟩ ∧ F b ∧ ∀ i, i < n → ∀ j, j < sz → w.cell? ⟨b, off + i * sz + j, none⟩ = some (c i j))

mutual
/-- Cells that hold an expression. -/
def RdEx (F : Nat → Prop) (w : World) : Ex → List Value → Prop
  | .mk k o n s args, cs => I64 k ∧ I64 o ∧ I64 n ∧ s.size ≤ maxLen ∧ ∃ v c, cs = [.int .i64 k, .int .i64 o, .int .i64 n, .string s, v] ∧ SlAt F w 5 v args.length c ∧ RdRow F w args c
def RdRow (F : Nat → Prop) (w : World) : List Ex → (Nat → Nat → Value) → Prop
  | [], _ => True
  | e :: l, c => RdEx F w e [c 0 0, c 0 1, c 0 2, c 0 3, c 0 4] ∧ RdRow F w l (fun i => c (i + 1))
end

mutual
/-- Cells that hold a statement. -/
def RdSt (F : Nat → Prop) (w : World) : St → List Value → Prop
  | .mk k n s args body els, cs => I64 k ∧ I64 n ∧ s.size ≤ maxLen ∧ ∃ v1 c1 v2 c2 v3 c3, cs = [.int .i64 k, .int .i64 n, .string s, v1, v2, v3] ∧ SlAt F w 5 v1 args.length c1 ∧ RdRow F w args c1 ∧
      SlAt F w 6 v2 body.length c2 ∧ RdSts F w body c2 ∧ SlAt F w 6 v3 els.length c3 ∧ RdSts F w els c3
def RdSts (F : Nat → Prop) (w : World) : List St → (Nat → Nat → Value) → Prop
  | [], _ => True
  | e :: l, c => RdSt F w e [c 0 0, c 0 1, c 0 2, c 0 3, c 0 4, c 0 5] ∧ RdSts F w l (fun i => c (i + 1))
end

theorem RdRow.get {F : Nat → Prop} {w : World} : ∀ {l : List Ex} {c : Nat → Nat → Value}, RdRow F w l c → ∀ i (h : i < l.length), RdEx F w l[i] [c i 0, c i 1, c i 2, c i 3, c i 4]
  | _ :: _, _, h, 0, _ => h.1
  | _ :: l, _, h, i + 1, hi => RdRow.get (l := l) h.2 i (by simpa using hi)

theorem RdSts.get {F : Nat → Prop} {w : World} : ∀ {l : List St} {c : Nat → Nat → Value}, RdSts F w l c → ∀ i (h : i < l.length), RdSt F w l[i] [c i 0, c i 1, c i 2, c i 3, c i 4, c i 5]
  | _ :: _, _, h, 0, _ => h.1
  | _ :: l, _, h, i + 1, hi => RdSts.get (l := l) h.2 i (by simpa using hi)

/-- What is read in blocks that stay reads as it did. -/
theorem SlAt.keep {F G : Nat → Prop} {w w' : World} {sz : Nat} {v : Value} {n : Nat} {c : Nat → Nat → Value} (hw : ∀ b, F b → w'.heap[b]? = w.heap[b]?) (hG : ∀ b, F b → G b) (h : SlAt F w sz v n c) : SlAt G w' sz v n c := by
  obtain ⟨a, cap, rfl, h1, h2, h3⟩ := h
  refine ⟨a, cap, rfl, h1, h2, fun hn => ?_⟩
  obtain ⟨b, off, rfl, hb, hc⟩ := h3 hn
  exact ⟨b, off, rfl, hG b hb, fun i hi j hj => by rw [World.cell?_of_block (w := w) (hw b hb)]; exact hc i hi j hj⟩

mutual
theorem RdEx.keep {F G : Nat → Prop} {w w' : World} (hw : ∀ b, F b → w'.heap[b]? = w.heap[b]?) (hG : ∀ b, F b → G b) : ∀ {e : Ex} {cs : List Value}, RdEx F w e cs → RdEx G w' e cs
  | .mk _ _ _ _ _, _, h => by
    obtain ⟨h1, h2, h3, h4, v, c, h5, h6, h7⟩ := h
    exact ⟨h1, h2, h3, h4, v, c, h5, h6.keep hw hG, RdRow.keep hw hG h7⟩
theorem RdRow.keep {F G : Nat → Prop} {w w' : World} (hw : ∀ b, F b → w'.heap[b]? = w.heap[b]?) (hG : ∀ b, F b → G b) : ∀ {l : List Ex} {c : Nat → Nat → Value}, RdRow F w l c → RdRow G w' l c
  | [], _, _ => trivial
  | _ :: _, _, h => ⟨RdEx.keep hw hG h.1, RdRow.keep hw hG h.2⟩
end

mutual
theorem RdSt.keep {F G : Nat → Prop} {w w' : World} (hw : ∀ b, F b → w'.heap[b]? = w.heap[b]?) (hG : ∀ b, F b → G b) : ∀ {e : St} {cs : List Value}, RdSt F w e cs → RdSt G w' e cs
  | .mk _ _ _ _ _ _, _, h => by
    obtain ⟨h1, h2, h3, v1, c1, v2, c2, v3, c3, h5, h6, h7, h8, h9, h10, h11⟩ := h
    exact ⟨h1, h2, h3, v1, c1, v2, c2, v3, c3, h5, h6.keep hw hG, RdRow.keep hw hG h7, h8.keep hw hG, RdSts.keep hw hG h9, h10.keep hw hG, RdSts.keep hw hG h11⟩
theorem RdSts.keep {F G : Nat → Prop} {w w' : World} (hw : ∀ b, F b → w'.heap[b]? = w.heap[b]?) (hG : ∀ b, F b → G b) : ∀ {l : List St} {c : Nat → Nat → Value}, RdSts F w l c → RdSts G w' l c
  | [], _, _ => trivial
  | _ :: _, _, h => ⟨RdSt.keep hw hG h.1, RdSts.keep hw hG h.2⟩
end

theorem RdEx.shape {F : Nat → Prop} {w : World} {e : Ex} {cs : List Value} (h : RdEx F w e cs) : ∃ (k o n : Int) (s : ByteArray) (a : Option Addr) (m cap : Nat), cs = [.int .i64 k, .int .i64 o, .int .i64 n, .string s, .slice a m cap] := by
  obtain ⟨k, o, n, s, args⟩ := e
  obtain ⟨_, _, _, _, v, c, rfl, ⟨a, cap, rfl, _⟩, _⟩ := h
  exact ⟨_, _, _, _, _, _, _, rfl⟩

theorem RdSt.shape {F : Nat → Prop} {w : World} {e : St} {cs : List Value} (h : RdSt F w e cs) : ∃ (k n : Int) (s : ByteArray) (a : Option Addr) (m cap : Nat) (a2 : Option Addr) (m2 cap2 : Nat) (a3 : Option Addr) (m3 cap3 : Nat), cs = [.int .i64 k, .int .i64 n, .string s, .slice a m cap, .slice a2 m2 cap2, .slice a3 m3 cap3] := by
  obtain ⟨k, n, s, args, body, els⟩ := e
  obtain ⟨_, _, _, v1, c1, v2, c2, v3, c3, rfl, ⟨a, cap, rfl, _⟩, _, ⟨a2, cap2, rfl, _⟩, _, ⟨a3, cap3, rfl, _⟩, _⟩ := h
  exact ⟨_, _, _, _, _, _, _, _, _, _, _, _, rfl⟩

/-- Element k of a row of expressions: its cells, in any world in which the block is as it was. -/
theorem row_at {F : Nat → Prop} {w wr : World} {l : List Ex} {c : Nat → Nat → Value} {b off : Nat} (hcell : ∀ i, i < l.length → ∀ j, j < 5 → w.cell? ⟨b, off + i * 5 + j, none⟩ = some (c i j))
    (hrow : RdRow F w l c) (hb : wr.heap[b]? = w.heap[b]?) (k : Nat) (hk : k < l.length) :
    ∃ (kd o n : Int) (s : ByteArray) (a : Option Addr) (m cap : Nat), RdEx F w l[k] [.int .i64 kd, .int .i64 o, .int .i64 n, .string s, .slice a m cap] ∧ wr.cell? ⟨b, off + k * 5, none⟩ = some (.int .i64 kd) ∧ wr.cell? ⟨b, off + k * 5 + 1, none⟩ = some (.int .i64 o) ∧
      wr.cell? ⟨b, off + k * 5 + 2, none⟩ = some (.int .i64 n) ∧ wr.cell? ⟨b, off + k * 5 + 3, none⟩ = some (.string s) ∧ wr.cell? ⟨b, off + k * 5 + 4, none⟩ = some (.slice a m cap) := by
  have hx := hrow.get k hk
  obtain ⟨kd, o, n, s, a, m, cap, he⟩ := hx.shape
  rw [he] at hx
  simp only [List.cons.injEq, and_true] at he
  obtain ⟨e0, e1, e2, e3, e4⟩ := he
  have hw : ∀ j, j < 5 → wr.cell? ⟨b, off + k * 5 + j, none⟩ = some (c k j) := fun j hj => by rw [World.cell?_of_block (w := w) hb]; exact hcell k hk j hj
  exact ⟨kd, o, n, s, a, m, cap, hx, by rw [← e0]; exact hw 0 (by omega), by rw [← e1]; exact hw 1 (by omega), by rw [← e2]; exact hw 2 (by omega), by rw [← e3]; exact hw 3 (by omega), by rw [← e4]; exact hw 4 (by omega)⟩

theorem rows_at {F : Nat → Prop} {w wr : World} {l : List St} {c : Nat → Nat → Value} {b off : Nat} (hcell : ∀ i, i < l.length → ∀ j, j < 6 → w.cell? ⟨b, off + i * 6 + j, none⟩ = some (c i j))
    (hrow : RdSts F w l c) (hb : wr.heap[b]? = w.heap[b]?) (k : Nat) (hk : k < l.length) :
    ∃ (kd n : Int) (s : ByteArray) (a : Option Addr) (m cap : Nat) (a2 : Option Addr) (m2 cap2 : Nat) (a3 : Option Addr) (m3 cap3 : Nat), RdSt F w l[k] [.int .i64 kd, .int .i64 n, .string s, .slice a m cap, .slice a2 m2 cap2, .slice a3 m3 cap3] ∧
      wr.cell? ⟨b, off + k * 6, none⟩ = some (.int .i64 kd) ∧ wr.cell? ⟨b, off + k * 6 + 1, none⟩ = some (.int .i64 n) ∧
      wr.cell? ⟨b, off + k * 6 + 2, none⟩ = some (.string s) ∧ wr.cell? ⟨b, off + k * 6 + 3, none⟩ = some (.slice a m cap) ∧ wr.cell? ⟨b, off + k * 6 + 4, none⟩ = some (.slice a2 m2 cap2) ∧ wr.cell? ⟨b, off + k * 6 + 5, none⟩ = some (.slice a3 m3 cap3) := by
  have hx := hrow.get k hk
  obtain ⟨kd, n, s, a, m, cap, a2, m2, cap2, a3, m3, cap3, he⟩ := hx.shape
  rw [he] at hx
  simp only [List.cons.injEq, and_true] at he
  obtain ⟨e0, e1, e2, e3, e4, e5⟩ := he
  have hw : ∀ j, j < 6 → wr.cell? ⟨b, off + k * 6 + j, none⟩ = some (c k j) := fun j hj => by rw [World.cell?_of_block (w := w) hb]; exact hcell k hk j hj
  exact ⟨kd, n, s, a, m, cap, a2, m2, cap2, a3, m3, cap3, hx, by rw [← e0]; exact hw 0 (by omega), by rw [← e1]; exact hw 1 (by omega), by rw [← e2]; exact hw 2 (by omega), by rw [← e3]; exact hw 3 (by omega), by rw [← e4]; exact hw 4 (by omega), by rw [← e5]; exact hw 5 (by omega)⟩

theorem ret_int {k : IntKind} {a b : Int} (h : a = b) : Ending.returned (.int k a) = .returned (.int k b) := by rw [h]
theorem ret_bool {a b : Bool} (h : a = b) : Ending.returned (.bool a) = .returned (.bool b) := by rw [h]

/-- The blocks are there. -/
def Inn (F : Nat → Prop) (w : World) : Prop := ∀ b, F b → b < w.heap.size

theorem Inn.below {F : Nat → Prop} {B : Nat} {w w' : World} (h : Inn F w) (hb : Below B w w') : Inn F w' := fun b hF => Nat.lt_of_lt_of_le (h b hF) hb.size
theorem Inn.alloc {F : Nat → Prop} {w : World} (h : Inn F w) (o : Obj) : Inn F (w.alloc o) := fun b hF => Nat.lt_of_lt_of_le (h b hF) (by simp)

/-- A call's post: it hands back v, and what was there stands as it did. -/
def Gives (w : World) (v : Value) (e : Ending) (w' : World) : Prop := e = .returned v ∧ Below w.heap.size w w'

theorem below_on {B : Nat} {w wr w' : World} (h : Below B w wr) (hB : B ≤ w.heap.size) (hb : Below wr.heap.size wr w') : Below B w w' := h.trans (hb.mono (Nat.le_trans hB h.size))
theorem below_on1 {B : Nat} {w wr w' : World} {o : Obj} (h : Below B w wr) (hB : B ≤ w.heap.size) (hb : Below (wr.alloc o).heap.size (wr.alloc o) w') : Below B w w' := below_on (h.alloc (Nat.le_trans hB h.size) o) hB hb
theorem below_on2 {B : Nat} {w wr w' : World} {o o2 : Obj} (h : Below B w wr) (hB : B ≤ w.heap.size) (hb : Below ((wr.alloc o).alloc o2).heap.size ((wr.alloc o).alloc o2) w') : Below B w w' := below_on1 (h.alloc (Nat.le_trans hB h.size) o) hB hb

theorem RdEx.below {F : Nat → Prop} {w w' : World} {e : Ex} {cs : List Value} {B : Nat} (h : RdEx F w e cs) (hF : Inn F w) (hb : Below B w w') (hB : w.heap.size ≤ B) : RdEx F w' e cs := h.keep (fun b hb' => hb.block b (Nat.lt_of_lt_of_le (hF b hb') hB)) (fun _ h => h)
theorem RdRow.below {F : Nat → Prop} {w w' : World} {e : List Ex} {cs : Nat → Nat → Value} {B : Nat} (h : RdRow F w e cs) (hF : Inn F w) (hb : Below B w w') (hB : w.heap.size ≤ B) : RdRow F w' e cs := h.keep (fun b hb' => hb.block b (Nat.lt_of_lt_of_le (hF b hb') hB)) (fun _ h => h)
theorem RdSt.below {F : Nat → Prop} {w w' : World} {e : St} {cs : List Value} {B : Nat} (h : RdSt F w e cs) (hF : Inn F w) (hb : Below B w w') (hB : w.heap.size ≤ B) : RdSt F w' e cs := h.keep (fun b hb' => hb.block b (Nat.lt_of_lt_of_le (hF b hb') hB)) (fun _ h => h)
theorem RdSts.below {F : Nat → Prop} {w w' : World} {e : List St} {cs : Nat → Nat → Value} {B : Nat} (h : RdSts F w e cs) (hF : Inn F w) (hb : Below B w w') (hB : w.heap.size ≤ B) : RdSts F w' e cs := h.keep (fun b hb' => hb.block b (Nat.lt_of_lt_of_le (hF b hb') hB)) (fun _ h => h)
theorem SlAt.below {F : Nat → Prop} {w w' : World} {sz : Nat} {v : Value} {n : Nat} {c : Nat → Nat → Value} {B : Nat} (h : SlAt F w sz v n c) (hF : Inn F w) (hb : Below B w w') (hB : w.heap.size ≤ B) : SlAt F w' sz v n c := h.keep (fun b hb' => hb.block b (Nat.lt_of_lt_of_le (hF b hb') hB)) (fun _ h => h)
theorem RdEx.alloc {F : Nat → Prop} {w : World} {e : Ex} {cs : List Value} (h : RdEx F w e cs) (hF : Inn F w) (o : Obj) : RdEx F (w.alloc o) e cs := h.below hF ((Below.refl w.heap.size w).alloc (Nat.le_refl _) o) (Nat.le_refl _)
theorem RdSt.alloc {F : Nat → Prop} {w : World} {e : St} {cs : List Value} (h : RdSt F w e cs) (hF : Inn F w) (o : Obj) : RdSt F (w.alloc o) e cs := h.below hF ((Below.refl w.heap.size w).alloc (Nat.le_refl _) o) (Nat.le_refl _)

/-- All that was there reads as it did. -/
theorem bcell {W w1 : World} (hb : Below W.heap.size W w1) : (∀ b o, b < W.heap.size → w1.cell? ⟨b, o, none⟩ = W.cell? ⟨b, o, none⟩) ∧ (∀ b o, b < W.heap.size → w1.frozen? ⟨b, o, none⟩ = W.frozen? ⟨b, o, none⟩) :=
  ⟨fun b o h => hb.cell (p := ⟨b, o, none⟩) h, fun b o h => hb.frozen (p := ⟨b, o, none⟩) h⟩

theorem one_new {B : Nat} {w w' : World} {o : Obj} (hb : Below B (w.alloc o) w') : w.heap.size < w'.heap.size := by
  have := hb.size
  simp at this
  omega

/-- A slice of expressions. -/
def Exs (F : Nat → Prop) (w : World) (l : List Ex) (v : Value) : Prop := ∃ c, SlAt F w 5 v l.length c ∧ RdRow F w l c
/-- A slice of statements. -/
def Sts (F : Nat → Prop) (w : World) (l : List St) (v : Value) : Prop := ∃ c, SlAt F w 6 v l.length c ∧ RdSts F w l c
theorem Exs.below {F : Nat → Prop} {w w' : World} {l : List Ex} {v : Value} {B : Nat} (h : Exs F w l v) (hF : Inn F w) (hb : Below B w w') (hB : w.heap.size ≤ B) : Exs F w' l v := let ⟨c, h1, h2⟩ := h; ⟨c, h1.below hF hb hB, h2.below hF hb hB⟩
theorem Sts.below {F : Nat → Prop} {w w' : World} {l : List St} {v : Value} {B : Nat} (h : Sts F w l v) (hF : Inn F w) (hb : Below B w w') (hB : w.heap.size ≤ B) : Sts F w' l v := let ⟨c, h1, h2⟩ := h; ⟨c, h1.below hF hb hB, h2.below hF hb hB⟩
theorem Exs.alloc {F : Nat → Prop} {w : World} {l : List Ex} {v : Value} (h : Exs F w l v) (hF : Inn F w) (o : Obj) : Exs F (w.alloc o) l v := h.below hF ((Below.refl w.heap.size w).alloc (Nat.le_refl _) o) (Nat.le_refl _)
theorem Sts.alloc {F : Nat → Prop} {w : World} {l : List St} {v : Value} (h : Sts F w l v) (hF : Inn F w) (o : Obj) : Sts F (w.alloc o) l v := h.below hF ((Below.refl w.heap.size w).alloc (Nat.le_refl _) o) (Nat.le_refl _)

/-! What the functions reckon. -/
mutual
def Ex.size : Ex → Nat
  | .mk _ _ _ _ args => 1 + Ex.sizes args
def Ex.sizes : List Ex → Nat
  | [] => 0
  | e :: l => e.size + Ex.sizes l
end

theorem Ex.sizes_take (l : List Ex) (k : Nat) (h : k < l.length) : Ex.sizes (l.take (k + 1)) = Ex.sizes (l.take k) + l[k].size := by
  induction l generalizing k with
  | nil => simp at h
  | cons e l ih =>
    cases k with
    | zero => simp [Ex.sizes]
    | succ k => simp [Ex.sizes, ih k (by simpa using h)]; omega

theorem Ex.sizes_take_le (l : List Ex) (k : Nat) : Ex.sizes (l.take k) ≤ Ex.sizes l := by
  induction l generalizing k with
  | nil => simp
  | cons e l ih =>
    cases k with
    | zero => simp [Ex.sizes]
    | succ k => simp [Ex.sizes]; exact ih k

mutual
def Ex.depth : Ex → Nat
  | .mk _ _ _ _ args => 1 + Ex.depths args
def Ex.depths : List Ex → Nat
  | [] => 0
  | e :: l => max e.depth (Ex.depths l)
end

theorem Ex.depths_take (l : List Ex) (k : Nat) (h : k < l.length) : Ex.depths (l.take (k + 1)) = max (Ex.depths (l.take k)) l[k].depth := by
  induction l generalizing k with
  | nil => simp at h
  | cons e l ih =>
    cases k with
    | zero => simp [Ex.depths]
    | succ k => simp only [List.take_succ_cons, Ex.depths, List.getElem_cons_succ, ih k (by simpa using h)]; omega

theorem Ex.depth_pos (e : Ex) : 1 ≤ e.depth := by
  obtain ⟨_, _, _, _, _⟩ := e
  simp only [Ex.depth]; omega

mutual
/-- How many of so many are left behind an expression; below 0: it has more. -/
def Ex.few : Ex → Int → Int
  | .mk _ _ _ _ args, m => Ex.fews args (m - 1)
def Ex.fews : List Ex → Int → Int
  | [], m => m
  | e :: l, m => if m < 0 then m else Ex.fews l (e.few m)
end

mutual
theorem Ex.few_size : ∀ (e : Ex) (m : Int), 0 ≤ m → (-1 ≤ e.few m ∧ e.few m ≤ m - 1) ∧ (0 ≤ e.few m → e.few m = m - e.size)
  | .mk k o n s args, m, hm => by
    have := Ex.fews_size args (m - 1) (by omega)
    simp only [Ex.few, Ex.size]
    omega
theorem Ex.fews_size : ∀ (l : List Ex) (m : Int), -1 ≤ m → (-1 ≤ Ex.fews l m ∧ Ex.fews l m ≤ m) ∧ (0 ≤ Ex.fews l m → Ex.fews l m = m - Ex.sizes l)
  | [], m, hm => by simp [Ex.fews, Ex.sizes]; omega
  | e :: l, m, hm => by
    simp only [Ex.fews, Ex.sizes]
    split
    · omega
    · have h1 := Ex.few_size e m (by omega)
      have h2 := Ex.fews_size l (e.few m) (by omega)
      omega
end

theorem Ex.fews_drop (l : List Ex) (k : Nat) (h : k < l.length) (m : Int) : Ex.fews (l.drop k) m = if m < 0 then m else Ex.fews (l.drop (k + 1)) (l[k].few m) := by
  rw [List.drop_eq_getElem_cons h]; rfl

/-! The same of statements. -/
mutual
def St.size : St → Nat
  | .mk _ _ _ _ body els => 1 + St.sizes body + St.sizes els
def St.sizes : List St → Nat
  | [] => 0
  | e :: l => e.size + St.sizes l
end

theorem St.sizes_take (l : List St) (k : Nat) (h : k < l.length) : St.sizes (l.take (k + 1)) = St.sizes (l.take k) + l[k].size := by
  induction l generalizing k with
  | nil => simp at h
  | cons e l ih =>
    cases k with
    | zero => simp [St.sizes]
    | succ k => simp [St.sizes, ih k (by simpa using h)]; omega

theorem St.sizes_take_le (l : List St) (k : Nat) : St.sizes (l.take k) ≤ St.sizes l := by
  induction l generalizing k with
  | nil => simp
  | cons e l ih =>
    cases k with
    | zero => simp [St.sizes]
    | succ k => simp [St.sizes]; exact ih k

def St.kind : St → Int | .mk k _ _ _ _ _ => k
def St.num : St → Int | .mk _ n _ _ _ _ => n
def St.name : St → ByteArray | .mk _ _ s _ _ _ => s
def St.args : St → List Ex | .mk _ _ _ a _ _ => a
def St.body : St → List St | .mk _ _ _ _ b _ => b
def St.els : St → List St | .mk _ _ _ _ _ e => e
def Ex.kind : Ex → Int | .mk k _ _ _ _ => k
def Ex.op : Ex → Int | .mk _ o _ _ _ => o
def Ex.num : Ex → Int | .mk _ _ n _ _ => n
def Ex.name : Ex → ByteArray | .mk _ _ _ s _ => s
def Ex.args : Ex → List Ex | .mk _ _ _ _ a => a

mutual
def St.depth : St → Nat
  | .mk _ _ _ args body els => max (Ex.depths args) (max (St.depths body) (St.depths els))
/-- How deep statements are. -/
def St.depths : List St → Nat
  | [] => 0
  | e :: l => max (1 + e.depth) (St.depths l)
end

theorem St.depths_take (l : List St) (k : Nat) (h : k < l.length) : St.depths (l.take (k + 1)) = max (St.depths (l.take k)) (1 + l[k].depth) := by
  induction l generalizing k with
  | nil => simp at h
  | cons e l ih =>
    cases k with
    | zero => simp [St.depths]
    | succ k => simp only [List.take_succ_cons, St.depths, List.getElem_cons_succ, ih k (by simpa using h)]; omega

mutual
/-- How many statements and expressions there are. -/
def St.total : St → Nat
  | .mk _ _ _ args body els => 1 + Ex.sizes args + St.totals body + St.totals els
def St.totals : List St → Nat
  | [] => 0
  | e :: l => e.total + St.totals l
end

mutual
def St.few : St → Int → Int
  | .mk _ _ _ args body els, m => St.fews els (St.fews body (Ex.fews args (m - 1)))
/-- What 'FewBlock' hands back. -/
def St.fews : List St → Int → Int
  | [], m => m
  | e :: l, m => if Ex.fews e.args (m - 1) < 0 then Ex.fews e.args (m - 1) else St.fews l (e.few m)
end

theorem St.fews_drop (l : List St) (k : Nat) (h : k < l.length) (m : Int) : St.fews (l.drop k) m = if Ex.fews (l[k]).args (m - 1) < 0 then Ex.fews (l[k]).args (m - 1) else St.fews (l.drop (k + 1)) (St.fews (l[k]).els (St.fews (l[k]).body (Ex.fews (l[k]).args (m - 1)))) := by
  rw [List.drop_eq_getElem_cons h]
  generalize l[k] = e
  obtain ⟨_, _, _, _, _, _⟩ := e
  rfl

theorem Ex.fews_neg (l : List Ex) (m : Int) (h : m < 0) : Ex.fews l m = m := by
  cases l with
  | nil => rfl
  | cons e l => simp only [Ex.fews]; rw [if_pos h]

theorem St.fews_neg (l : List St) (m : Int) (h : m < 0) : m - 1 ≤ St.fews l m ∧ St.fews l m ≤ m := by
  cases l with
  | nil => simp [St.fews]; omega
  | cons e l => simp only [St.fews]; rw [Ex.fews_neg _ _ (by omega), if_pos (by omega)]; omega

mutual
theorem St.few_total : ∀ (e : St) (m : Int), 0 ≤ m → 0 ≤ Ex.fews e.args (m - 1) → (-(2 * m + 1) ≤ e.few m ∧ e.few m ≤ m - 1) ∧ (0 ≤ e.few m → e.few m = m - e.total)
  | .mk k n s args body els, m, hm, h0 => by
    simp only [St.few, St.total, St.args] at *
    have h1 := Ex.fews_size args (m - 1) (by omega)
    have h2 := St.fews_total body (Ex.fews args (m - 1)) h0
    by_cases hb : 0 ≤ St.fews body (Ex.fews args (m - 1))
    · have h3 := St.fews_total els _ hb
      omega
    · have h3 := St.fews_neg els _ (by omega : St.fews body (Ex.fews args (m - 1)) < 0)
      omega
theorem St.fews_total : ∀ (l : List St) (m : Int), 0 ≤ m → (-(2 * m + 2) ≤ St.fews l m ∧ St.fews l m ≤ m) ∧ (0 ≤ St.fews l m → St.fews l m = m - St.totals l)
  | [], m, hm => by simp [St.fews, St.totals]; omega
  | e :: l, m, hm => by
    simp only [St.fews, St.totals]
    have h1 := Ex.fews_size e.args (m - 1) (by omega)
    split
    · omega
    · rename_i h0
      have h2 := St.few_total e m hm (by omega)
      by_cases hb : 0 ≤ e.few m
      · have h3 := St.fews_total l _ hb
        omega
      · have h3 := St.fews_neg l _ (by omega : e.few m < 0)
        omega
end

/-- What a statement's cells are. -/
theorem RdSt.parts {F : Nat → Prop} {w : World} {e : St} {k n : Int} {s : ByteArray} {v1 v2 v3 : Value} (h : RdSt F w e [.int .i64 k, .int .i64 n, .string s, v1, v2, v3]) :
    e.kind = k ∧ e.num = n ∧ e.name = s ∧ I64 k ∧ I64 n ∧ s.size ≤ maxLen ∧ Exs F w e.args v1 ∧ Sts F w e.body v2 ∧ Sts F w e.els v3 := by
  obtain ⟨k', n', s', args, body, els⟩ := e
  obtain ⟨h1, h2, h3, v1, c1, v2, c2, v3, c3, h5, h6, h7, h8, h9, h10, h11⟩ := h
  simp only [List.cons.injEq, Value.int.injEq, Value.string.injEq, true_and, and_true] at h5
  obtain ⟨rfl, rfl, rfl, rfl, rfl, rfl⟩ := h5
  exact ⟨rfl, rfl, rfl, h1, h2, h3, ⟨c1, h6, h7⟩, ⟨c2, h8, h9⟩, ⟨c3, h10, h11⟩⟩

theorem RdEx.parts {F : Nat → Prop} {w : World} {e : Ex} {k o n : Int} {s : ByteArray} {v1 : Value} (h : RdEx F w e [.int .i64 k, .int .i64 o, .int .i64 n, .string s, v1]) :
    e.kind = k ∧ e.op = o ∧ e.num = n ∧ e.name = s ∧ I64 k ∧ I64 o ∧ I64 n ∧ s.size ≤ maxLen ∧ Exs F w e.args v1 := by
  obtain ⟨k', o', n', s', args⟩ := e
  obtain ⟨h1, h2, h3, h4, v1, c1, h5, h6, h7⟩ := h
  simp only [List.cons.injEq, Value.int.injEq, Value.string.injEq, true_and, and_true] at h5
  obtain ⟨rfl, rfl, rfl, rfl, rfl⟩ := h5
  exact ⟨rfl, rfl, rfl, rfl, h1, h2, h3, h4, ⟨c1, h6, h7⟩⟩

theorem St.size_eq (e : St) : e.size = 1 + St.sizes e.body + St.sizes e.els := by
  obtain ⟨_, _, _, _, _, _⟩ := e; rfl
theorem St.depth_eq (e : St) : e.depth = max (Ex.depths e.args) (max (St.depths e.body) (St.depths e.els)) := by
  obtain ⟨_, _, _, _, _, _⟩ := e; rfl
theorem Ex.size_eq (e : Ex) : e.size = 1 + Ex.sizes e.args := by
  obtain ⟨_, _, _, _, _⟩ := e; rfl
theorem Ex.depth_eq (e : Ex) : e.depth = 1 + Ex.depths e.args := by
  obtain ⟨_, _, _, _, _⟩ := e; rfl

theorem St.length_le (l : List St) : l.length ≤ St.sizes l := by
  induction l with
  | nil => simp [St.sizes]
  | cons e l ih => have := St.size_eq e; simp only [St.sizes, List.length_cons]; omega

/-- A slice of expressions opened: its length, and each element, in any world in which its block is as it was. -/
theorem Exs.opn {F : Nat → Prop} {w : World} {l : List Ex} {a : Option Addr} {m cap : Nat} (h : Exs F w l (.slice a m cap)) : m = l.length ∧ l.length ≤ cap ∧ cap ≤ 9223372036854775807 ∧
    (0 < l.length → ∃ b off, a = some ⟨b, off, none⟩ ∧ F b ∧ ∀ (wr : World), wr.heap[b]? = w.heap[b]? → ∀ (k : Nat) (hk : k < l.length),
      ∃ (kd o n : Int) (s : ByteArray) (a : Option Addr) (m cap : Nat), RdEx F w l[k] [.int .i64 kd, .int .i64 o, .int .i64 n, .string s, .slice a m cap] ∧ wr.cell? ⟨b, off + k * 5, none⟩ = some (.int .i64 kd) ∧ wr.cell? ⟨b, off + k * 5 + 1, none⟩ = some (.int .i64 o) ∧
      wr.cell? ⟨b, off + k * 5 + 2, none⟩ = some (.int .i64 n) ∧ wr.cell? ⟨b, off + k * 5 + 3, none⟩ = some (.string s) ∧ wr.cell? ⟨b, off + k * 5 + 4, none⟩ = some (.slice a m cap)) := by
  obtain ⟨c, ⟨a', cap', he, h1, h2, h3⟩, hrow⟩ := h
  simp only [Value.slice.injEq] at he
  obtain ⟨rfl, rfl, rfl⟩ := he
  refine ⟨rfl, h1, by unfold maxLen at h2; omega, fun hpos => ?_⟩
  obtain ⟨b, off, rfl, hFb, hcell⟩ := h3 hpos
  exact ⟨b, off, rfl, hFb, fun wr hb k hk => row_at hcell hrow hb k hk⟩

theorem Sts.opn {F : Nat → Prop} {w : World} {l : List St} {a : Option Addr} {m cap : Nat} (h : Sts F w l (.slice a m cap)) : m = l.length ∧ l.length ≤ cap ∧ cap ≤ 9223372036854775807 ∧
    (0 < l.length → ∃ b off, a = some ⟨b, off, none⟩ ∧ F b ∧ ∀ (wr : World), wr.heap[b]? = w.heap[b]? → ∀ (k : Nat) (hk : k < l.length),
      ∃ (kd n : Int) (s : ByteArray) (a : Option Addr) (m cap : Nat) (a2 : Option Addr) (m2 cap2 : Nat) (a3 : Option Addr) (m3 cap3 : Nat), RdSt F w l[k] [.int .i64 kd, .int .i64 n, .string s, .slice a m cap, .slice a2 m2 cap2, .slice a3 m3 cap3] ∧
      wr.cell? ⟨b, off + k * 6, none⟩ = some (.int .i64 kd) ∧ wr.cell? ⟨b, off + k * 6 + 1, none⟩ = some (.int .i64 n) ∧
      wr.cell? ⟨b, off + k * 6 + 2, none⟩ = some (.string s) ∧ wr.cell? ⟨b, off + k * 6 + 3, none⟩ = some (.slice a m cap) ∧ wr.cell? ⟨b, off + k * 6 + 4, none⟩ = some (.slice a2 m2 cap2) ∧ wr.cell? ⟨b, off + k * 6 + 5, none⟩ = some (.slice a3 m3 cap3)) := by
  obtain ⟨c, ⟨a', cap', he, h1, h2, h3⟩, hrow⟩ := h
  simp only [Value.slice.injEq] at he
  obtain ⟨rfl, rfl, rfl⟩ := he
  refine ⟨rfl, h1, by unfold maxLen at h2; omega, fun hpos => ?_⟩
  obtain ⟨b, off, rfl, hFb, hcell⟩ := h3 hpos
  exact ⟨b, off, rfl, hFb, fun wr hb k hk => rows_at hcell hrow hb k hk⟩

theorem Exs.shape {F : Nat → Prop} {w : World} {l : List Ex} {v : Value} (h : Exs F w l v) : ∃ a cap, v = .slice a l.length cap := by
  obtain ⟨c, ⟨a', cap', rfl, _⟩, _⟩ := h
  exact ⟨_, _, rfl⟩
theorem Sts.shape {F : Nat → Prop} {w : World} {l : List St} {v : Value} (h : Sts F w l v) : ∃ a cap, v = .slice a l.length cap := by
  obtain ⟨c, ⟨a', cap', rfl, _⟩, _⟩ := h
  exact ⟨_, _, rfl⟩

/-- What is shown of each list of statements, by what holds of the lists in its statements. -/
theorem blocks_ind {PB : List St → Prop} (walk : ∀ l : List St, (∀ s ∈ l, PB s.body ∧ PB s.els) → PB l) : ∀ l, PB l := by
  have one : ∀ s : St, PB s.body ∧ PB s.els := fun s => by
    induction s using St.ind with
    | h k n s args body els h1 h2 => exact ⟨walk body h1, walk els h2⟩
  exact fun l => walk l (fun s _ => one s)

end Go.Proofs.Ytapjglpiofpbmaa
/- Expressions and statements that a function has built: how their cells are read. -/
namespace Go.Proofs.Ytapjglpiofpbmaa
open Go.RowKit

/-- Block b holds these cells. -/
def Bx (w : World) (b : Nat) (cs : List Value) : Prop := ∀ j, j < cs.length → w.cell? ⟨b, j, none⟩ = cs[j]?
theorem bx_of_heap {w : World} {b : Nat} {cs : List Value} {t : TypeId} {fr : Nat × Nat} (h : w.heap[b]? = some (.cells cs.toArray t fr)) : Bx w b cs := fun j _ => by simp [World.cell?, h]
theorem Bx.below {B : Nat} {w w' : World} {b : Nat} {cs : List Value} (h : Bx w b cs) (hb : Below B w w') (hB : b < B) : Bx w' b cs := fun j hj => by rw [hb.cell (p := ⟨b, j, none⟩) hB]; exact h j hj

theorem bx_new (w : World) (cs : List Value) (t : TypeId) (b : Nat) (h : b = w.heap.size) : Bx (w.alloc (.cells cs.toArray t)) b cs :=
  bx_of_heap (t := t) (fr := (0, 0)) (by subst h; show (w.heap.push _)[w.heap.size]? = _; rw [Array.getElem?_push, if_pos rfl])
theorem Bx.alloc {w : World} {b : Nat} {cs : List Value} (h : Bx w b cs) (hb : b < w.heap.size) (o : Obj) : Bx (w.alloc o) b cs := h.below ((Below.refl w.heap.size w).alloc (Nat.le_refl _) o) hb

theorem RdRow.of {F : Nat → Prop} {w : World} : ∀ {l : List Ex} {c : Nat → Nat → Value}, (∀ i (h : i < l.length), RdEx F w l[i] [c i 0, c i 1, c i 2, c i 3, c i 4]) → RdRow F w l c
  | [], _, _ => trivial
  | _ :: l, c, h => ⟨h 0 (by simp), RdRow.of (l := l) (c := fun i => c (i + 1)) (fun i hi => h (i + 1) (by simpa using hi))⟩
theorem RdSts.of {F : Nat → Prop} {w : World} : ∀ {l : List St} {c : Nat → Nat → Value}, (∀ i (h : i < l.length), RdSt F w l[i] [c i 0, c i 1, c i 2, c i 3, c i 4, c i 5]) → RdSts F w l c
  | [], _, _ => trivial
  | _ :: l, c, h => ⟨h 0 (by simp), RdSts.of (l := l) (c := fun i => c (i + 1)) (fun i hi => h (i + 1) (by simpa using hi))⟩

theorem rd_exs {F : Nat → Prop} {w : World} {b : Nat} (hF : F b) {l : List Ex} {cs : List Value} {cap : Nat} (hl : cs.length = l.length * 5) (hb : Bx w b cs) (hc : l.length ≤ cap) (hc2 : cap ≤ 1000000)
    (hrd : ∀ i (h : i < l.length), RdEx F w l[i] [cs.getD (i * 5 + 0) undef, cs.getD (i * 5 + 1) undef, cs.getD (i * 5 + 2) undef, cs.getD (i * 5 + 3) undef, cs.getD (i * 5 + 4) undef]) : Exs F w l (.slice (some ⟨b, 0, none⟩) l.length cap) := by
  refine ⟨fun i j => cs.getD (i * 5 + j) undef, ⟨_, _, rfl, hc, by unfold maxLen; omega, fun _ => ⟨b, 0, rfl, hF, fun i hi j hj => ?_⟩⟩, RdRow.of hrd⟩
  have hlt : i * 5 + j < cs.length := by rw [hl]; omega
  have := hb (i * 5 + j) hlt
  rw [show (0 : Nat) + i * 5 + j = i * 5 + j by omega, this]
  show _ = some (cs.getD (i * 5 + j) undef)
  rw [List.getD_eq_getElem?_getD, List.getElem?_eq_getElem hlt]
  rfl

theorem rd_sts {F : Nat → Prop} {w : World} {b : Nat} (hF : F b) {l : List St} {cs : List Value} {cap : Nat} (hl : cs.length = l.length * 6) (hb : Bx w b cs) (hc : l.length ≤ cap) (hc2 : cap ≤ 1000000)
    (hrd : ∀ i (h : i < l.length), RdSt F w l[i] [cs.getD (i * 6 + 0) undef, cs.getD (i * 6 + 1) undef, cs.getD (i * 6 + 2) undef, cs.getD (i * 6 + 3) undef, cs.getD (i * 6 + 4) undef, cs.getD (i * 6 + 5) undef]) : Sts F w l (.slice (some ⟨b, 0, none⟩) l.length cap) := by
  refine ⟨fun i j => cs.getD (i * 6 + j) undef, ⟨_, _, rfl, hc, by unfold maxLen; omega, fun _ => ⟨b, 0, rfl, hF, fun i hi j hj => ?_⟩⟩, RdSts.of hrd⟩
  have hlt : i * 6 + j < cs.length := by rw [hl]; omega
  have := hb (i * 6 + j) hlt
  rw [show (0 : Nat) + i * 6 + j = i * 6 + j by omega, this]
  show _ = some (cs.getD (i * 6 + j) undef)
  rw [List.getD_eq_getElem?_getD, List.getElem?_eq_getElem hlt]
  rfl

theorem exs_nil (F : Nat → Prop) (w : World) : Exs F w [] (.slice none 0 0) := ⟨fun _ _ => undef, ⟨none, 0, rfl, Nat.le_refl _, by unfold maxLen; omega, fun h => absurd h (by simp)⟩, trivial⟩
theorem sts_nil (F : Nat → Prop) (w : World) : Sts F w [] (.slice none 0 0) := ⟨fun _ _ => undef, ⟨none, 0, rfl, Nat.le_refl _, by unfold maxLen; omega, fun h => absurd h (by simp)⟩, trivial⟩

theorem rd_ex {F : Nat → Prop} {w : World} {k o n : Int} {s : ByteArray} {args : List Ex} {v : Value} (h1 : I64 k) (h2 : I64 o) (h3 : I64 n) (h4 : s.size ≤ maxLen) (ha : Exs F w args v) : RdEx F w (.mk k o n s args) [.int .i64 k, .int .i64 o, .int .i64 n, .string s, v] := by
  obtain ⟨c, hs, hr⟩ := ha
  exact ⟨h1, h2, h3, h4, v, c, rfl, hs, hr⟩
theorem rd_st {F : Nat → Prop} {w : World} {k n : Int} {s : ByteArray} {args : List Ex} {body els : List St} {v1 v2 v3 : Value} (h1 : I64 k) (h2 : I64 n) (h4 : s.size ≤ maxLen) (ha : Exs F w args v1) (hb : Sts F w body v2) (he : Sts F w els v3) :
    RdSt F w (.mk k n s args body els) [.int .i64 k, .int .i64 n, .string s, v1, v2, v3] := by
  obtain ⟨c, hs, hr⟩ := ha
  obtain ⟨c2, hs2, hr2⟩ := hb
  obtain ⟨c3, hs3, hr3⟩ := he
  exact ⟨h1, h2, h4, v1, c, v2, c2, v3, c3, rfl, hs, hr, hs2, hr2, hs3, hr3⟩

theorem exs_one {F : Nat → Prop} {w : World} {b : Nat} (hF : F b) {e : Ex} {c0 c1 c2 c3 c4 : Value} (hb : Bx w b [c0, c1, c2, c3, c4]) (h : RdEx F w e [c0, c1, c2, c3, c4]) : Exs F w [e] (.slice (some ⟨b, 0, none⟩) 1 1) :=
  rd_exs (l := [e]) hF rfl hb (Nat.le_refl _) (by simp) (fun i hi => by obtain rfl : i = 0 := (by simpa using hi); exact h)
theorem exs_two {F : Nat → Prop} {w : World} {b : Nat} (hF : F b) {e e2 : Ex} {c0 c1 c2 c3 c4 d0 d1 d2 d3 d4 : Value} (hb : Bx w b [c0, c1, c2, c3, c4, d0, d1, d2, d3, d4]) (h : RdEx F w e [c0, c1, c2, c3, c4]) (h2 : RdEx F w e2 [d0, d1, d2, d3, d4]) : Exs F w [e, e2] (.slice (some ⟨b, 0, none⟩) 2 2) :=
  rd_exs (l := [e, e2]) hF rfl hb (Nat.le_refl _) (by simp) (fun i hi => by
    have : i = 0 ∨ i = 1 := by simp at hi; omega
    rcases this with rfl | rfl
    · exact h
    · exact h2)
theorem sts_one {F : Nat → Prop} {w : World} {b : Nat} (hF : F b) {e : St} {c0 c1 c2 c3 c4 c5 : Value} (hb : Bx w b [c0, c1, c2, c3, c4, c5]) (h : RdSt F w e [c0, c1, c2, c3, c4, c5]) : Sts F w [e] (.slice (some ⟨b, 0, none⟩) 1 1) :=
  rd_sts (l := [e]) hF rfl hb (Nat.le_refl _) (by simp) (fun i hi => by obtain rfl : i = 0 := (by simpa using hi); exact h)

theorem three_new {B : Nat} {w w' : World} {o o2 o3 : Obj} (hb : Below B (((w.alloc o).alloc o2).alloc o3) w') : w.heap.size < w'.heap.size ∧ w.heap.size + 1 < w'.heap.size ∧ w.heap.size + 1 + 1 < w'.heap.size := by
  have := hb.size
  simp at this
  omega
theorem two_new' {B : Nat} {w w' : World} {o o2 : Obj} (hb : Below B ((w.alloc o).alloc o2) w') : w.heap.size < w'.heap.size ∧ w.heap.size + 1 < w'.heap.size := by
  have := hb.size
  simp at this
  omega

theorem i64 (n : Int) (h : -1000000 ≤ n ∧ n ≤ 1000000 := by omega) : I64 n := by unfold I64; omega

end Go.Proofs.Ytapjglpiofpbmaa
