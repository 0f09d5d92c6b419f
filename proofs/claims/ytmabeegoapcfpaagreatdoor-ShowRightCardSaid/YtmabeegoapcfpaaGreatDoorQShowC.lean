/- show.Source at a source of which little is told: objects with a name and a title, rules without condition and statements. Printed by gen-show14.py. -/
import Derived.Test.YtmabeegoapcfpaaGreatDoorQShowB
namespace Go.Proofs.YtmabeegoapcfpaaGreatDoor
open Go.RowKit Go.Sort
theorem StB.sub {w W : World} {b : Nat} {bx bx' : List (Nat × List Value × TypeId)} {l : List UInt8} (h : StB w b bx l W) (hs : ∀ t ∈ bx', t ∈ bx) : StB w b bx' l W := ⟨h.1, fun t ht => h.2.1 t (hs t ht), h.2.2⟩
theorem StB.same {w W : World} {b : Nat} {bx : List (Nat × List Value × TypeId)} {l l' : List UInt8} (h : StB w b bx l W) (e : l = l') : StB w b bx l' W := e ▸ h
def objL0 (o : ObjD) : List UInt8 := obj0L o.name o.title o.room
def BareO (o : ObjD) : Prop := ∃ nm tt rm, o = ⟨nm, tt, ⟨#[]⟩, ⟨#[]⟩, rm, [], [], [], [], []⟩ ∧ nm.size ≤ 1000 ∧ tt.size ≤ 1000
def ruleB (r : RuleD) : ByteArray := phaseB r.phase ++ r.verb ++ whichB r.noun r.second ++ ⟨#[]⟩ ++ ⟨#[32]⟩ ++ ⟨#[123, 10, 125]⟩ ++ ⟨#[10]⟩
def ruleL0 (r : RuleD) : List UInt8 := (ruleB r).data.toList
def BareR (r : RuleD) : Prop := r.cond = [] ∧ r.body = [] ∧ r.verb.size ≤ 1000 ∧ r.noun.size ≤ 1000 ∧ r.second.size ≤ 1000
theorem phaseB_size (p : Int) : (phaseB p).size ≤ 10 := by unfold phaseB; split <;> (try split) <;> decide
theorem whichB_size (n s : ByteArray) : (whichB n s).size ≤ n.size + s.size + 10 := by
  have e1 : (⟨#[40]⟩ : ByteArray).size = 1 := rfl
  have e2 : (⟨#[41]⟩ : ByteArray).size = 1 := rfl
  have e3 : (⟨#[44, 32]⟩ : ByteArray).size = 2 := rfl
  have e4 : (⟨#[97, 110, 121]⟩ : ByteArray).size = 3 := rfl
  have e5 : (⟨#[]⟩ : ByteArray).size = 0 := rfl
  unfold whichB
  split <;> split <;> simp only [ByteArray.size_append, e1, e2, e3, e4, e5] <;> omega
theorem obj0L_len (n t : ByteArray) (r : Bool) : (obj0L n t r).length ≤ n.size + 2 * t.size + 20 := by
  have h1 := esc_length t.data.toList
  have h2 : t.data.toList.length = t.size := by simp
  have h3 : n.data.toList.length = n.size := by simp
  unfold obj0L quoteL
  cases r <;> simp only [List.length_append, List.length_cons, List.length_nil, if_true, Bool.false_eq_true, if_false] <;> omega
theorem flat_le {α : Type} (f : α → List UInt8) (c : Nat) : ∀ l : List α, (∀ x ∈ l, (f x).length ≤ c) → (l.flatMap f).length ≤ l.length * c
  | [], _ => by simp
  | x :: l, h => by
    have h1 := flat_le f c l (fun y hy => h y (List.mem_cons_of_mem _ hy))
    have h2 := h x List.mem_cons_self
    simp only [List.flatMap_cons, List.length_append, List.length_cons, Nat.add_mul]
    omega
theorem ruleL0_len (r : RuleD) (h : BareR r) : (ruleL0 r).length ≤ 4000 := by
  obtain ⟨-, -, h1, h2, h3⟩ := h
  have h4 := phaseB_size r.phase
  have h5 := whichB_size r.noun r.second
  have e1 : (⟨#[32]⟩ : ByteArray).size = 1 := rfl
  have e2 : (⟨#[123, 10, 125]⟩ : ByteArray).size = 3 := rfl
  have e3 : (⟨#[10]⟩ : ByteArray).size = 1 := rfl
  have e5 : (⟨#[]⟩ : ByteArray).size = 0 := rfl
  have e6 : (ruleL0 r).length = (ruleB r).size := by simp [ruleL0]
  rw [e6]
  unfold ruleB
  simp only [ByteArray.size_append, e1, e2, e3, e5]
  omega
theorem objL0_len (o : ObjD) (h : BareO o) : (objL0 o).length ≤ 4000 := by
  obtain ⟨nm, tt, rm, rfl, h1, h2⟩ := h
  have := obj0L_len nm tt rm
  show (obj0L nm tt rm).length ≤ _
  omega
theorem flat_take {α : Type} (f : α → List UInt8) (l : List α) (k : Nat) (h : k < l.length) (x : α) (hx : l[k] = x) : (l.take (k + 1)).flatMap f = (l.take k).flatMap f ++ f x := by
  rw [List.take_succ_eq_append_getElem h, List.flatMap_append, hx]
  simp
set_option maxHeartbeats 400000 in
theorem numT_small (i : Nat) (hi : i < 100) (w : World) : Calls Tryz.prog 62 #[.int .i64 i] w (Gives w (.string ⟨(Lib.decDigits i).toArray⟩)) := by
  have HC := Lib.hid (Tryz.strconv_Itoa_small i hi w)
  clear hi
  go_enter Tryz.func62, Tryz.ntmps62
  go_wp2_with (go_at_call 127; (with_reducible refine HC.out.mono ?_); rintro e w1 ⟨rfl, rfl⟩)
  go_ret
  exact ⟨rfl, Below.refl _ _⟩
theorem dec_small (i : Nat) (h : i < 100) : (⟨(Lib.decDigits i).toArray⟩ : ByteArray).size ≤ 3 := by
  have : ∀ j, j < 100 → (Lib.decDigits j).length ≤ 3 := by decide +kernel
  show (Lib.decDigits i).toArray.size ≤ 3
  simpa using this i h
def src0L (title author start : ByteArray) (rel mst : Nat) (objects : List ObjD) (rules : List RuleD) : List UInt8 :=
  (⟨#[115, 116, 111, 114, 121, 32]⟩ ++ quoteB title ++ ⟨#[32, 98, 121, 32]⟩ ++ quoteB author ++ ⟨#[32, 114, 101, 108, 101, 97, 115, 101, 32]⟩ ++ ⟨(Lib.decDigits rel).toArray⟩ ++ ⟨#[32, 109, 97, 120, 32]⟩ ++ ⟨(Lib.decDigits mst).toArray⟩ ++ ⟨#[32, 115, 116, 97, 114, 116, 32]⟩ ++ start ++ ⟨#[59, 10]⟩ : ByteArray).data.toList ++ objects.flatMap objL0 ++ rules.flatMap ruleL0
set_option maxRecDepth 100000 in
set_option maxHeartbeats 20000000 in
theorem source0_calls (F : Nat → Prop) (w : World) (x_title x_author x_start : ByteArray) (x_rel x_mst : Nat) (x_objects : List ObjD) (x_rules : List RuleD) (cs : List Value) (hF : Inn F w)
    (hx : Holds.src.R F w ⟨x_title, x_author, x_start, (x_rel : Int), (x_mst : Int), [], [], [], x_objects, [], x_rules, [], []⟩ cs) (h1 : x_title.size ≤ 1000) (h2 : x_author.size ≤ 1000) (h3 : x_start.size ≤ 1000) (h4 : x_rel < 100) (h5 : x_mst < 100)
    (ho : ∀ o ∈ x_objects, BareO o) (hr : ∀ r ∈ x_rules, BareR r) (hno : x_objects.length ≤ 1000) (hnr : x_rules.length ≤ 1000) :
    Calls Tryz.prog 13 #[.agg cs.toArray] w (Gives w (.string ⟨(src0L x_title x_author x_start x_rel x_mst x_objects x_rules).toArray⟩)) := by
  obtain ⟨-, -, -, -, -, va5, va6, va7, va8, va9, va10, va11, va12, rfl, ka5, ka6, ka7, ka8, ka9, ka10, ka11, ka12⟩ := hx
  simp only at ka5 ka6 ka7 ka8 ka9 ka10 ka11 ka12
  obtain ⟨da5, fa5, rfl⟩ := ka5.shape
  obtain ⟨da6, fa6, rfl⟩ := ka6.shape
  obtain ⟨da7, fa7, rfl⟩ := ka7.shape
  obtain ⟨da8, fa8, rfl⟩ := ka8.shape
  obtain ⟨da9, fa9, rfl⟩ := ka9.shape
  obtain ⟨da10, fa10, rfl⟩ := ka10.shape
  obtain ⟨da11, fa11, rfl⟩ := ka11.shape
  obtain ⟨da12, fa12, rfl⟩ := ka12.shape
  simp only [List.length_nil]
  obtain ⟨_, _, he, hl8, hc8, h8⟩ := ka8.opn
  cases he
  obtain ⟨_, _, he, hl10, hc10, h10⟩ := ka10.opn
  cases he
  unfold maxLen at hc8 hc10
  clear ka5 ka6 ka7 ka8 ka9 ka10 ka11 ka12
  obtain ⟨x_release, hrel⟩ : ∃ n : Int, (x_rel : Int) = n := ⟨_, rfl⟩
  obtain ⟨x_most, hmst⟩ : ∃ n : Int, (x_mst : Int) = n := ⟨_, rfl⟩
  have hN1 := fun W => numT_small x_rel h4 W
  have hN2 := fun W => numT_small x_mst h5 W
  simp only [hrel] at hN1
  simp only [hmst] at hN2
  rw [hrel, hmst]
  have hd1 := dec_small x_rel h4
  have hd2 := dec_small x_mst h5
  obtain ⟨x_n1, hx1⟩ : ∃ n : ByteArray, ⟨(Lib.decDigits x_rel).toArray⟩ = n := ⟨_, rfl⟩
  obtain ⟨x_n2, hx2⟩ : ∃ n : ByteArray, ⟨(Lib.decDigits x_mst).toArray⟩ = n := ⟨_, rfl⟩
  rw [hx1] at hd1
  rw [hx2] at hd2
  simp only [hx1] at hN1
  simp only [hx2] at hN2
  obtain ⟨W1, hW1⟩ : ∃ W, w.alloc (.cells #[.string x_title, .string x_author, .string x_start, .int .i64 x_release, .int .i64 x_most, .slice da5 0 fa5, .slice da6 0 fa6, .slice da7 0 fa7, .slice da8 x_objects.length fa8, .slice da9 0 fa9, .slice da10 x_rules.length fa10, .slice da11 0 fa11, .slice da12 0 fa12] 29) = W := ⟨_, rfl⟩
  obtain ⟨W2, hW2⟩ : ∃ W, W1.alloc (.cells #[.pointer none, .slice none 0 0] 84) = W := ⟨_, rfl⟩
  have hs1 : W1.heap.size = w.heap.size + 1 := by rw [← hW1]; simp
  have hbw1 : Below w.heap.size w W1 := by rw [← hW1]; exact (Below.refl _ _).alloc (Nat.le_refl _) _
  have hbw2 : Below W1.heap.size W1 W2 := by rw [← hW2]; exact (Below.refl _ _).alloc (Nat.le_refl _) _
  have HBW : Hid (Below w.heap.size w W2) := bt hbw1 hbw2
  have HS0 : Hid (StB W2 (w.heap.size + 1) [(w.heap.size, [.string x_title, .string x_author, .string x_start, .int .i64 x_release, .int .i64 x_most, .slice da5 0 fa5, .slice da6 0 fa6, .slice da7 0 fa7, .slice da8 x_objects.length fa8, .slice da9 0 fa9, .slice da10 x_rules.length fa10, .slice da11 0 fa11, .slice da12 0 fa12], 29)] [] W2) := by
    have h1 := BdH.new W1
    rw [hW2, hs1] at h1
    refine ⟨h1, fun t ht => ?_, Kept.refl _ _ _⟩
    rw [List.mem_singleton.1 ht]
    have h2 := BoxT.new w [.string x_title, .string x_author, .string x_start, .int .i64 x_release, .int .i64 x_most, .slice da5 0 fa5, .slice da6 0 fa6, .slice da7 0 fa7, .slice da8 x_objects.length fa8, .slice da9 0 fa9, .slice da10 x_rules.length fa10, .slice da11 0 fa11, .slice da12 0 fa12] 29
    rw [hW1] at h2
    exact ⟨h2.below hbw2, by simp, (show (29 : Nat) ≠ 5 by decide)⟩
  have HKW : Hid (∀ l bx W, StB W2 (w.heap.size + 1) bx l W → Below w.heap.size w W) := fun l bx W h => HBW.out.trans (h.2.2.1.mono (by omega))
  have HW1 := Lib.hid hW1
  have HW2 := Lib.hid hW2
  have hq1 := quoteB_size x_title
  have hq2 := quoteB_size x_author
  have hl0 : (([] : List UInt8) ++ (⟨#[115, 116, 111, 114, 121, 32]⟩ ++ quoteB x_title ++ ⟨#[32, 98, 121, 32]⟩ ++ quoteB x_author ++ ⟨#[32, 114, 101, 108, 101, 97, 115, 101, 32]⟩ ++ x_n1 ++ ⟨#[32, 109, 97, 120, 32]⟩ ++ x_n2 ++ ⟨#[32, 115, 116, 97, 114, 116, 32]⟩ ++ x_start ++ ⟨#[59, 10]⟩ : ByteArray).data.toList).length ≤ 100000 := by
    have e0 : (([] : List UInt8) ++ (⟨#[115, 116, 111, 114, 121, 32]⟩ ++ quoteB x_title ++ ⟨#[32, 98, 121, 32]⟩ ++ quoteB x_author ++ ⟨#[32, 114, 101, 108, 101, 97, 115, 101, 32]⟩ ++ x_n1 ++ ⟨#[32, 109, 97, 120, 32]⟩ ++ x_n2 ++ ⟨#[32, 115, 116, 97, 114, 116, 32]⟩ ++ x_start ++ ⟨#[59, 10]⟩ : ByteArray).data.toList).length = (⟨#[115, 116, 111, 114, 121, 32]⟩ ++ quoteB x_title ++ ⟨#[32, 98, 121, 32]⟩ ++ quoteB x_author ++ ⟨#[32, 114, 101, 108, 101, 97, 115, 101, 32]⟩ ++ x_n1 ++ ⟨#[32, 109, 97, 120, 32]⟩ ++ x_n2 ++ ⟨#[32, 115, 116, 97, 114, 116, 32]⟩ ++ x_start ++ ⟨#[59, 10]⟩ : ByteArray).size := by rw [List.nil_append, Array.length_toList]; rfl
    rw [e0]
    have c1 : (⟨#[115, 116, 111, 114, 121, 32]⟩ : ByteArray).size = 6 := rfl
    have c2 : (⟨#[32, 98, 121, 32]⟩ : ByteArray).size = 4 := rfl
    have c3 : (⟨#[32, 114, 101, 108, 101, 97, 115, 101, 32]⟩ : ByteArray).size = 9 := rfl
    have c4 : (⟨#[32, 109, 97, 120, 32]⟩ : ByteArray).size = 5 := rfl
    have c5 : (⟨#[32, 115, 116, 97, 114, 116, 32]⟩ : ByteArray).size = 7 := rfl
    have c6 : (⟨#[59, 10]⟩ : ByteArray).size = 2 := rfl
    simp only [ByteArray.size_append, c1, c2, c3, c4, c5, c6]
    omega
  have HL0 := Lib.hid hl0
  have HLO : Hid (∀ k, k ≤ x_objects.length → ((([] : List UInt8) ++ (⟨#[115, 116, 111, 114, 121, 32]⟩ ++ quoteB x_title ++ ⟨#[32, 98, 121, 32]⟩ ++ quoteB x_author ++ ⟨#[32, 114, 101, 108, 101, 97, 115, 101, 32]⟩ ++ x_n1 ++ ⟨#[32, 109, 97, 120, 32]⟩ ++ x_n2 ++ ⟨#[32, 115, 116, 97, 114, 116, 32]⟩ ++ x_start ++ ⟨#[59, 10]⟩ : ByteArray).data.toList) ++ (x_objects.take k).flatMap objL0).length ≤ 5000000) := fun k hk => by
    have h1 := flat_le objL0 4000 (x_objects.take k) (fun x hx => objL0_len x (ho x (List.mem_of_mem_take hx)))
    have h2 : (x_objects.take k).length ≤ 1000 := by rw [List.length_take]; omega
    rw [List.length_append]
    have := HL0.out
    have h3 := Nat.mul_le_mul_right 4000 h2
    omega
  have HLA : Hid (((([] : List UInt8) ++ (⟨#[115, 116, 111, 114, 121, 32]⟩ ++ quoteB x_title ++ ⟨#[32, 98, 121, 32]⟩ ++ quoteB x_author ++ ⟨#[32, 114, 101, 108, 101, 97, 115, 101, 32]⟩ ++ x_n1 ++ ⟨#[32, 109, 97, 120, 32]⟩ ++ x_n2 ++ ⟨#[32, 115, 116, 97, 114, 116, 32]⟩ ++ x_start ++ ⟨#[59, 10]⟩ : ByteArray).data.toList) ++ x_objects.flatMap objL0).length ≤ 5000000) := by
    have h := HLO.out x_objects.length (Nat.le_refl _)
    rw [List.take_length] at h
    exact h
  have HLR : Hid (∀ k, k ≤ x_rules.length → (((([] : List UInt8) ++ (⟨#[115, 116, 111, 114, 121, 32]⟩ ++ quoteB x_title ++ ⟨#[32, 98, 121, 32]⟩ ++ quoteB x_author ++ ⟨#[32, 114, 101, 108, 101, 97, 115, 101, 32]⟩ ++ x_n1 ++ ⟨#[32, 109, 97, 120, 32]⟩ ++ x_n2 ++ ⟨#[32, 115, 116, 97, 114, 116, 32]⟩ ++ x_start ++ ⟨#[59, 10]⟩ : ByteArray).data.toList) ++ x_objects.flatMap objL0) ++ (x_rules.take k).flatMap ruleL0).length ≤ 10000000) := fun k hk => by
    have h1 := flat_le ruleL0 4000 (x_rules.take k) (fun x hx => ruleL0_len x (hr x (List.mem_of_mem_take hx)))
    have h2 : (x_rules.take k).length ≤ 1000 := by rw [List.length_take]; omega
    rw [List.length_append]
    have := HLA.out
    have h3 := Nat.mul_le_mul_right 4000 h2
    omega
  have HT0 : Hid (∀ W, StB W2 (w.heap.size + 1) [(w.heap.size, [.string x_title, .string x_author, .string x_start, .int .i64 x_release, .int .i64 x_most, .slice da5 0 fa5, .slice da6 0 fa6, .slice da7 0 fa7, .slice da8 x_objects.length fa8, .slice da9 0 fa9, .slice da10 x_rules.length fa10, .slice da11 0 fa11, .slice da12 0 fa12], 29)] [] W → Calls Tryz.prog 60 #[.pointer (some ⟨w.heap.size + 1, 0, none⟩), .string (⟨#[115, 116, 111, 114, 121, 32]⟩ ++ quoteB x_title ++ ⟨#[32, 98, 121, 32]⟩ ++ quoteB x_author ++ ⟨#[32, 114, 101, 108, 101, 97, 115, 101, 32]⟩ ++ x_n1 ++ ⟨#[32, 109, 97, 120, 32]⟩ ++ x_n2 ++ ⟨#[32, 115, 116, 97, 114, 116, 32]⟩ ++ x_start ++ ⟨#[59, 10]⟩ : ByteArray)] W fun e w' => e = .returned (.tuple #[.int .i64 (⟨#[115, 116, 111, 114, 121, 32]⟩ ++ quoteB x_title ++ ⟨#[32, 98, 121, 32]⟩ ++ quoteB x_author ++ ⟨#[32, 114, 101, 108, 101, 97, 115, 101, 32]⟩ ++ x_n1 ++ ⟨#[32, 109, 97, 120, 32]⟩ ++ x_n2 ++ ⟨#[32, 115, 116, 97, 114, 116, 32]⟩ ++ x_start ++ ⟨#[59, 10]⟩ : ByteArray).size, .nilIface]) ∧ StB W2 (w.heap.size + 1) [(w.heap.size, [.string x_title, .string x_author, .string x_start, .int .i64 x_release, .int .i64 x_most, .slice da5 0 fa5, .slice da6 0 fa6, .slice da7 0 fa7, .slice da8 x_objects.length fa8, .slice da9 0 fa9, .slice da10 x_rules.length fa10, .slice da11 0 fa11, .slice da12 0 fa12], 29)] (([] : List UInt8) ++ (⟨#[115, 116, 111, 114, 121, 32]⟩ ++ quoteB x_title ++ ⟨#[32, 98, 121, 32]⟩ ++ quoteB x_author ++ ⟨#[32, 114, 101, 108, 101, 97, 115, 101, 32]⟩ ++ x_n1 ++ ⟨#[32, 109, 97, 120, 32]⟩ ++ x_n2 ++ ⟨#[32, 115, 116, 97, 114, 116, 32]⟩ ++ x_start ++ ⟨#[59, 10]⟩ : ByteArray).data.toList) w') := fun W h => h.text _ (by
    have h1 := HL0.out
    have e0 : (([] : List UInt8) ++ (⟨#[115, 116, 111, 114, 121, 32]⟩ ++ quoteB x_title ++ ⟨#[32, 98, 121, 32]⟩ ++ quoteB x_author ++ ⟨#[32, 114, 101, 108, 101, 97, 115, 101, 32]⟩ ++ x_n1 ++ ⟨#[32, 109, 97, 120, 32]⟩ ++ x_n2 ++ ⟨#[32, 115, 116, 97, 114, 116, 32]⟩ ++ x_start ++ ⟨#[59, 10]⟩ : ByteArray).data.toList).length = (⟨#[115, 116, 111, 114, 121, 32]⟩ ++ quoteB x_title ++ ⟨#[32, 98, 121, 32]⟩ ++ quoteB x_author ++ ⟨#[32, 114, 101, 108, 101, 97, 115, 101, 32]⟩ ++ x_n1 ++ ⟨#[32, 109, 97, 120, 32]⟩ ++ x_n2 ++ ⟨#[32, 115, 116, 97, 114, 116, 32]⟩ ++ x_start ++ ⟨#[59, 10]⟩ : ByteArray).size := by rw [List.nil_append, Array.length_toList]; rfl
    rw [e0] at h1
    simp only [List.length_nil]
    omega)
  obtain ⟨x_res, hres⟩ : ∃ r : ByteArray, ⟨(((([] : List UInt8) ++ (⟨#[115, 116, 111, 114, 121, 32]⟩ ++ quoteB x_title ++ ⟨#[32, 98, 121, 32]⟩ ++ quoteB x_author ++ ⟨#[32, 114, 101, 108, 101, 97, 115, 101, 32]⟩ ++ x_n1 ++ ⟨#[32, 109, 97, 120, 32]⟩ ++ x_n2 ++ ⟨#[32, 115, 116, 97, 114, 116, 32]⟩ ++ x_start ++ ⟨#[59, 10]⟩ : ByteArray).data.toList) ++ x_objects.flatMap objL0) ++ x_rules.flatMap ruleL0).toArray⟩ = r := ⟨_, rfl⟩
  have HSTR : Hid (∀ W, StB W2 (w.heap.size + 1) [(w.heap.size, [.string x_title, .string x_author, .string x_start, .int .i64 x_release, .int .i64 x_most, .slice da5 0 fa5, .slice da6 0 fa6, .slice da7 0 fa7, .slice da8 x_objects.length fa8, .slice da9 0 fa9, .slice da10 x_rules.length fa10, .slice da11 0 fa11, .slice da12 0 fa12], 29)] (((([] : List UInt8) ++ (⟨#[115, 116, 111, 114, 121, 32]⟩ ++ quoteB x_title ++ ⟨#[32, 98, 121, 32]⟩ ++ quoteB x_author ++ ⟨#[32, 114, 101, 108, 101, 97, 115, 101, 32]⟩ ++ x_n1 ++ ⟨#[32, 109, 97, 120, 32]⟩ ++ x_n2 ++ ⟨#[32, 115, 116, 97, 114, 116, 32]⟩ ++ x_start ++ ⟨#[59, 10]⟩ : ByteArray).data.toList) ++ x_objects.flatMap objL0) ++ x_rules.flatMap ruleL0) W → Calls Tryz.prog 72 #[.pointer (some ⟨w.heap.size + 1, 0, none⟩)] W fun e w' => e = .returned (.string x_res) ∧ Below (w.heap.size + 1) W w') := fun W h => by rw [← hres]; exact h.1.str
  have HQ1 : Hid (∀ w', Below W2.heap.size W2 w' → Calls Tryz.prog 61 #[.string x_title] w' (Gives w' (.string (quoteB x_title)))) := fun w' _ => quoteT_calls x_title w' (by omega)
  have HQ2 : Hid (∀ w', Below W2.heap.size W2 w' → Calls Tryz.prog 61 #[.string x_author] w' (Gives w' (.string (quoteB x_author)))) := fun w' _ => quoteT_calls x_author w' (by omega)
  have HN1 := Lib.hid hN1
  have HN2 := Lib.hid hN2
  have HF := Lib.hid hF
  have HO := Lib.hid ho
  have HR := Lib.hid hr
  have hfin : Hid (x_res = ⟨(src0L x_title x_author x_start x_rel x_mst x_objects x_rules).toArray⟩) := by
    show _ = _
    rw [← hres]
    simp only [List.nil_append, src0L, hx1, hx2]
  have hS := HS0.out
  clear hW1 hW2 hbw1 hbw2 hs1 hN1 hN2 hF ho hr hl0 hrel hmst h4 h5 hx1 hx2 hres
  go_enter Tryz.func13, Tryz.ntmps13
  go_upto_region 2 with fail
  rw [HW1.out, HW2.out]
  have q := fun j => hS.cell w.heap.size [.string x_title, .string x_author, .string x_start, .int .i64 x_release, .int .i64 x_most, .slice da5 0 fa5, .slice da6 0 fa6, .slice da7 0 fa7, .slice da8 x_objects.length fa8, .slice da9 0 fa9, .slice da10 x_rules.length fa10, .slice da11 0 fa11, .slice da12 0 fa12] 29 (by simp) j
  have g0 := q 0
  have g1 := q 1
  have g2 := q 2
  have g3 := q 3
  have g4 := q 4
  have g5 := q 5
  have g6 := q 6
  have g7 := q 7
  have g8 := q 8
  have g9 := q 9
  have g10 := q 10
  have g11 := q 11
  have g12 := q 12
  simp only [cqs, cqz] at g0 g1 g2 g3 g4 g5 g6 g7 g8 g9 g10 g11 g12
  clear q
  have K {f : FuncId} {args : Array Value} {u : Value} (h : ∀ w', Below W2.heap.size W2 w' → Calls Tryz.prog f args w' (Gives w' u)) (p : Regrown) : Calls Tryz.prog f args (grow (redrawn W2 p.d) p.os) fun e w3 => e = .returned u ∧ ∃ p : Regrown, w3 = grow (redrawn W2 p.d) p.os := regrown_gives (fun w3 hb => h w3 hb) p
  have HK1 := Lib.hid (K HQ1.out)
  have HK2 := Lib.hid (K HQ2.out)
  have HK3 := Lib.hid (K (fun W (_ : Below W2.heap.size W2 W) => HN1.out W))
  have HK4 := Lib.hid (K (fun W (_ : Below W2.heap.size W2 W) => HN2.out W))
  clear K
  have zg0 := fun d os => cell_regrown g0 d os
  have zg1 := fun d os => cell_regrown g1 d os
  have zg2 := fun d os => cell_regrown g2 d os
  have zg3 := fun d os => cell_regrown g3 d os
  have zg4 := fun d os => cell_regrown g4 d os
  refine wp_region_quiet_last_below 24 (by kernel_rfl) rfl rfl (by kernel_rfl) ?_
  simp only [List.dropLast]
  repeat (go_big_quiet_step (first | with_reducible exact HK1.out _ | with_reducible exact HK2.out _ | with_reducible exact HK3.out _ | with_reducible exact HK4.out _))
  refine wpQuiet_nil ?_
  intro w3 hb3
  have hS2 := hS.below hb3
  clear zg0 zg1 zg2 zg3 zg4 hS hb3 g0 g1 g2 g3 g4 g5 g6 g7 g8 g9 g10 g11 g12 HK1 HK2 HK3 HK4 HQ1 HQ2 HN1 HN2
  have hS := hS2
  clear hS2
  have q := fun j => hS.cell w.heap.size [.string x_title, .string x_author, .string x_start, .int .i64 x_release, .int .i64 x_most, .slice da5 0 fa5, .slice da6 0 fa6, .slice da7 0 fa7, .slice da8 x_objects.length fa8, .slice da9 0 fa9, .slice da10 x_rules.length fa10, .slice da11 0 fa11, .slice da12 0 fa12] 29 (by simp) j
  have g0 := q 0
  have g1 := q 1
  have g2 := q 2
  have g3 := q 3
  have g4 := q 4
  have g5 := q 5
  have g6 := q 6
  have g7 := q 7
  have g8 := q 8
  have g9 := q 9
  have g10 := q 10
  have g11 := q 11
  have g12 := q 12
  simp only [cqs, cqz] at g0 g1 g2 g3 g4 g5 g6 g7 g8 g9 g10 g11 g12
  clear q
  go_wp2_with (go_at_call 60; (with_reducible refine (HT0.out _ hS).mono ?_); rintro e w4 ⟨rfl, hS2⟩; clear g0 g1 g2 g3 g4 g5 g6 g7 g8 g9 g10 g11 g12 hS; have hS := hS2; clear hS2; have q := fun j => hS.cell w.heap.size [.string x_title, .string x_author, .string x_start, .int .i64 x_release, .int .i64 x_most, .slice da5 0 fa5, .slice da6 0 fa6, .slice da7 0 fa7, .slice da8 x_objects.length fa8, .slice da9 0 fa9, .slice da10 x_rules.length fa10, .slice da11 0 fa11, .slice da12 0 fa12] 29 (by simp) j; have g0 := q 0; have g1 := q 1; have g2 := q 2; have g3 := q 3; have g4 := q 4; have g5 := q 5; have g6 := q 6; have g7 := q 7; have g8 := q 8; have g9 := q 9; have g10 := q 10; have g11 := q 11; have g12 := q 12; simp only [cqs, cqz] at g0 g1 g2 g3 g4 g5 g6 g7 g8 g9 g10 g11 g12; clear q)
  go_loopw [56] (fun i wr => i = .int .i64 0 ∧ Hid (StB W2 (w.heap.size + 1) [(w.heap.size, [.string x_title, .string x_author, .string x_start, .int .i64 x_release, .int .i64 x_most, .slice da5 0 fa5, .slice da6 0 fa6, .slice da7 0 fa7, .slice da8 x_objects.length fa8, .slice da9 0 fa9, .slice da10 x_rules.length fa10, .slice da11 0 fa11, .slice da12 0 fa12], 29)] (([] : List UInt8) ++ (⟨#[115, 116, 111, 114, 121, 32]⟩ ++ quoteB x_title ++ ⟨#[32, 98, 121, 32]⟩ ++ quoteB x_author ++ ⟨#[32, 114, 101, 108, 101, 97, 115, 101, 32]⟩ ++ x_n1 ++ ⟨#[32, 109, 97, 120, 32]⟩ ++ x_n2 ++ ⟨#[32, 115, 116, 97, 114, 116, 32]⟩ ++ x_start ++ ⟨#[59, 10]⟩ : ByteArray).data.toList) wr)) (fun _ _ => 0)
  case atStart => exact ⟨rfl, hS⟩
  case round =>
    clear g0 g1 g2 g3 g4 g5 g6 g7 g8 g9 g10 g11 g12 hS
    obtain ⟨rfl, hS⟩ := hrel
    have hS := hS.out
    have q := fun j => hS.cell w.heap.size [.string x_title, .string x_author, .string x_start, .int .i64 x_release, .int .i64 x_most, .slice da5 0 fa5, .slice da6 0 fa6, .slice da7 0 fa7, .slice da8 x_objects.length fa8, .slice da9 0 fa9, .slice da10 x_rules.length fa10, .slice da11 0 fa11, .slice da12 0 fa12] 29 (by simp) j
    have g0 := q 0
    have g1 := q 1
    have g2 := q 2
    have g3 := q 3
    have g4 := q 4
    have g5 := q 5
    have g6 := q 6
    have g7 := q 7
    have g8 := q 8
    have g9 := q 9
    have g10 := q 10
    have g11 := q 11
    have g12 := q 12
    simp only [cqs, cqz] at g0 g1 g2 g3 g4 g5 g6 g7 g8 g9 g10 g11 g12
    clear q
    go_wp2_with fail
    go_loopw [68] (fun i wr => i = .int .i64 0 ∧ Hid (StB W2 (w.heap.size + 1) [(w.heap.size, [.string x_title, .string x_author, .string x_start, .int .i64 x_release, .int .i64 x_most, .slice da5 0 fa5, .slice da6 0 fa6, .slice da7 0 fa7, .slice da8 x_objects.length fa8, .slice da9 0 fa9, .slice da10 x_rules.length fa10, .slice da11 0 fa11, .slice da12 0 fa12], 29)] (([] : List UInt8) ++ (⟨#[115, 116, 111, 114, 121, 32]⟩ ++ quoteB x_title ++ ⟨#[32, 98, 121, 32]⟩ ++ quoteB x_author ++ ⟨#[32, 114, 101, 108, 101, 97, 115, 101, 32]⟩ ++ x_n1 ++ ⟨#[32, 109, 97, 120, 32]⟩ ++ x_n2 ++ ⟨#[32, 115, 116, 97, 114, 116, 32]⟩ ++ x_start ++ ⟨#[59, 10]⟩ : ByteArray).data.toList) wr)) (fun _ _ => 0)
    case atStart => exact ⟨rfl, hS⟩
    case round =>
      clear g0 g1 g2 g3 g4 g5 g6 g7 g8 g9 g10 g11 g12 hS
      obtain ⟨rfl, hS⟩ := hrel
      have hS := hS.out
      have q := fun j => hS.cell w.heap.size [.string x_title, .string x_author, .string x_start, .int .i64 x_release, .int .i64 x_most, .slice da5 0 fa5, .slice da6 0 fa6, .slice da7 0 fa7, .slice da8 x_objects.length fa8, .slice da9 0 fa9, .slice da10 x_rules.length fa10, .slice da11 0 fa11, .slice da12 0 fa12] 29 (by simp) j
      have g0 := q 0
      have g1 := q 1
      have g2 := q 2
      have g3 := q 3
      have g4 := q 4
      have g5 := q 5
      have g6 := q 6
      have g7 := q 7
      have g8 := q 8
      have g9 := q 9
      have g10 := q 10
      have g11 := q 11
      have g12 := q 12
      simp only [cqs, cqz] at g0 g1 g2 g3 g4 g5 g6 g7 g8 g9 g10 g11 g12
      clear q
      go_wp2_with fail
      go_loopw [80] (fun i wr => ∃ k : Nat, k ≤ x_objects.length ∧ i = .int .i64 k ∧ Hid (StB W2 (w.heap.size + 1) [(w.heap.size, [.string x_title, .string x_author, .string x_start, .int .i64 x_release, .int .i64 x_most, .slice da5 0 fa5, .slice da6 0 fa6, .slice da7 0 fa7, .slice da8 x_objects.length fa8, .slice da9 0 fa9, .slice da10 x_rules.length fa10, .slice da11 0 fa11, .slice da12 0 fa12], 29)] ((([] : List UInt8) ++ (⟨#[115, 116, 111, 114, 121, 32]⟩ ++ quoteB x_title ++ ⟨#[32, 98, 121, 32]⟩ ++ quoteB x_author ++ ⟨#[32, 114, 101, 108, 101, 97, 115, 101, 32]⟩ ++ x_n1 ++ ⟨#[32, 109, 97, 120, 32]⟩ ++ x_n2 ++ ⟨#[32, 115, 116, 97, 114, 116, 32]⟩ ++ x_start ++ ⟨#[59, 10]⟩ : ByteArray).data.toList) ++ (x_objects.take k).flatMap objL0) wr)) (fun i _ => x_objects.length - (intOf i).toNat)
      case atStart => exact ⟨0, Nat.zero_le _, rfl, hS.same (by simp only [List.take_zero, List.flatMap_nil, List.append_nil])⟩
      case round =>
        clear g0 g1 g2 g3 g4 g5 g6 g7 g8 g9 g10 g11 g12 hS
        obtain ⟨k, hk, rfl, hS⟩ := hrel
        have hS := hS.out
        by_cases hlt : k < x_objects.length
        · have hqt := HKW.out _ _ _ hS
          obtain ⟨bb, off, rfl, hFb, hel⟩ := h8 (by omega)
          obtain ⟨cs, hx, -, hcell⟩ := hel wr (hqt.block bb (HF.out bb hFb)) k hlt
          obtain ⟨x, hxe⟩ : ∃ x, x_objects[k] = x := ⟨_, rfl⟩
          rw [hxe] at hx
          obtain ⟨nm, tt, rm, rfl, hz1, hz2⟩ := HO.out x (hxe ▸ List.getElem_mem hlt)
          have hx2 := hx
          obtain ⟨-, -, -, -, ve5, ve6, ve7, ve8, ve9, rfl, ke5, ke6, ke7, ke8, ke9⟩ := hx2
          simp only at ke5 ke6 ke7 ke8 ke9
          obtain ⟨de5, fe5, rfl⟩ := ke5.shape
          obtain ⟨de6, fe6, rfl⟩ := ke6.shape
          obtain ⟨de7, fe7, rfl⟩ := ke7.shape
          obtain ⟨de8, fe8, rfl⟩ := ke8.shape
          obtain ⟨de9, fe9, rfl⟩ := ke9.shape
          simp only [List.length_nil] at hx hcell
          have q0 := hcell 0 _ rfl
          have q1 := hcell 1 _ rfl
          have q2 := hcell 2 _ rfl
          have q3 := hcell 3 _ rfl
          have q4 := hcell 4 _ rfl
          have q5 := hcell 5 _ rfl
          have q6 := hcell 6 _ rfl
          have q7 := hcell 7 _ rfl
          have q8 := hcell 8 _ rfl
          have q9 := hcell 9 _ rfl
          simp only [Nat.add_zero] at q0
          have hki : (k : Int) < (x_objects.length : Int) := by omega
          have hki0 : (0 : Int) ≤ (k : Int) := by omega
          clear hel hcell ke5 ke6 ke7 ke8 ke9
          obtain ⟨we, hwe⟩ : ∃ we, wr.alloc (.cells #[.string nm, .string tt, .string ⟨#[]⟩, .string ⟨#[]⟩, .bool rm, .slice de5 0 fe5, .slice de6 0 fe6, .slice de7 0 fe7, .slice de8 0 fe8, .slice de9 0 fe9] 55) = we := ⟨_, rfl⟩
          have hSe := hS.add [.string nm, .string tt, .string ⟨#[]⟩, .string ⟨#[]⟩, .bool rm, .slice de5 0 fe5, .slice de6 0 fe6, .slice de7 0 fe7, .slice de8 0 fe8, .slice de9 0 fe9] 55 (by decide)
          rw [hwe] at hSe
          have hbe : Below wr.heap.size wr we := by rw [← hwe]; exact (Below.refl _ _).alloc (Nat.le_refl _) _
          have hb9 := bt hqt hbe
          have hxw := Holds.below Holds.obj hx HF.out hb9 (Nat.le_refl _)
          have hnx : Hid (((([] : List UInt8) ++ (⟨#[115, 116, 111, 114, 121, 32]⟩ ++ quoteB x_title ++ ⟨#[32, 98, 121, 32]⟩ ++ quoteB x_author ++ ⟨#[32, 114, 101, 108, 101, 97, 115, 101, 32]⟩ ++ x_n1 ++ ⟨#[32, 109, 97, 120, 32]⟩ ++ x_n2 ++ ⟨#[32, 115, 116, 97, 114, 116, 32]⟩ ++ x_start ++ ⟨#[59, 10]⟩ : ByteArray).data.toList) ++ (x_objects.take k).flatMap objL0) ++ obj0L nm tt rm = ((([] : List UInt8) ++ (⟨#[115, 116, 111, 114, 121, 32]⟩ ++ quoteB x_title ++ ⟨#[32, 98, 121, 32]⟩ ++ quoteB x_author ++ ⟨#[32, 114, 101, 108, 101, 97, 115, 101, 32]⟩ ++ x_n1 ++ ⟨#[32, 109, 97, 120, 32]⟩ ++ x_n2 ++ ⟨#[32, 115, 116, 97, 114, 116, 32]⟩ ++ x_start ++ ⟨#[59, 10]⟩ : ByteArray).data.toList) ++ (x_objects.take (k + 1)).flatMap objL0)) := by
            show _ = _
            rw [flat_take objL0 x_objects k hlt _ hxe, ← List.append_assoc]
            rfl
          have hlk := HLO.out k hk
          have HC : Hid (Calls Tryz.prog 66 #[.pointer (some ⟨w.heap.size + 1, 0, none⟩), .agg #[.string nm, .string tt, .string ⟨#[]⟩, .string ⟨#[]⟩, .bool rm, .slice de5 0 fe5, .slice de6 0 fe6, .slice de7 0 fe7, .slice de8 0 fe8, .slice de9 0 fe9]] we fun e w' => e = .returned (.tuple #[]) ∧ Wrote (w.heap.size + 1) (((([] : List UInt8) ++ (⟨#[115, 116, 111, 114, 121, 32]⟩ ++ quoteB x_title ++ ⟨#[32, 98, 121, 32]⟩ ++ quoteB x_author ++ ⟨#[32, 114, 101, 108, 101, 97, 115, 101, 32]⟩ ++ x_n1 ++ ⟨#[32, 109, 97, 120, 32]⟩ ++ x_n2 ++ ⟨#[32, 115, 116, 97, 114, 116, 32]⟩ ++ x_start ++ ⟨#[59, 10]⟩ : ByteArray).data.toList) ++ (x_objects.take k).flatMap objL0) ++ obj0L nm tt rm) we w') := by
            cases rm
            · exact putObj0_false F we nm tt _ _ _ (HF.out.below hb9) hSe.1 (by omega) (by omega) (by omega) hxw
            · exact putObj0_true F we nm tt _ _ _ (HF.out.below hb9) hSe.1 (by omega) (by omega) (by omega) hxw
          have HSE := Lib.hid hSe
          have HWE := Lib.hid hwe
          have q := fun j => hS.cell w.heap.size [.string x_title, .string x_author, .string x_start, .int .i64 x_release, .int .i64 x_most, .slice da5 0 fa5, .slice da6 0 fa6, .slice da7 0 fa7, .slice (some ⟨bb, off, none⟩) x_objects.length fa8, .slice da9 0 fa9, .slice da10 x_rules.length fa10, .slice da11 0 fa11, .slice da12 0 fa12] 29 (by simp) j
          have g0 := q 0
          have g1 := q 1
          have g2 := q 2
          have g3 := q 3
          have g4 := q 4
          have g5 := q 5
          have g6 := q 6
          have g7 := q 7
          have g8 := q 8
          have g9 := q 9
          have g10 := q 10
          have g11 := q 11
          have g12 := q 12
          simp only [cqs, cqz] at g0 g1 g2 g3 g4 g5 g6 g7 g8 g9 g10 g11 g12
          clear q
          clear hxw hb9 hbe hx hxe hqt hFb hwe hlk hSe
          go_upto_region 18 with fail
          rw [HWE.out]
          clear q0 q1 q2 q3 q4 q5 q6 q7 q8 q9 g0 g1 g2 g3 g4 g5 g6 g7 g8 g9 g10 g11 g12
          have q := fun j => HSE.out.cell wr.heap.size [.string nm, .string tt, .string ⟨#[]⟩, .string ⟨#[]⟩, .bool rm, .slice de5 0 fe5, .slice de6 0 fe6, .slice de7 0 fe7, .slice de8 0 fe8, .slice de9 0 fe9] 55 (by simp) j
          have q0 := q 0
          have q1 := q 1
          have q2 := q 2
          have q3 := q 3
          have q4 := q 4
          have q5 := q 5
          have q6 := q 6
          have q7 := q 7
          have q8 := q 8
          have q9 := q 9
          simp only [cqs, cqz] at q0 q1 q2 q3 q4 q5 q6 q7 q8 q9
          clear q
          go_wp2_with (go_at_call 66; (with_reducible refine HC.out.mono ?_); rintro e w5 ⟨rfl, hw5⟩)
          go_roundw
          case rel => exact ⟨k + 1, by omega, by go_num, ((HSE.out.wrote hw5).same hnx.out).sub (fun t ht => List.mem_cons_of_mem _ ht)⟩
          case measure => simp [intOf]; omega
        · have : k = x_objects.length := by omega
          subst this
          have hki : decide ((x_objects.length : Int) < (x_objects.length : Int)) = false := by simp
          have hS2 := hS.same (show ((([] : List UInt8) ++ (⟨#[115, 116, 111, 114, 121, 32]⟩ ++ quoteB x_title ++ ⟨#[32, 98, 121, 32]⟩ ++ quoteB x_author ++ ⟨#[32, 114, 101, 108, 101, 97, 115, 101, 32]⟩ ++ x_n1 ++ ⟨#[32, 109, 97, 120, 32]⟩ ++ x_n2 ++ ⟨#[32, 115, 116, 97, 114, 116, 32]⟩ ++ x_start ++ ⟨#[59, 10]⟩ : ByteArray).data.toList) ++ (x_objects.take x_objects.length).flatMap objL0) = ((([] : List UInt8) ++ (⟨#[115, 116, 111, 114, 121, 32]⟩ ++ quoteB x_title ++ ⟨#[32, 98, 121, 32]⟩ ++ quoteB x_author ++ ⟨#[32, 114, 101, 108, 101, 97, 115, 101, 32]⟩ ++ x_n1 ++ ⟨#[32, 109, 97, 120, 32]⟩ ++ x_n2 ++ ⟨#[32, 115, 116, 97, 114, 116, 32]⟩ ++ x_start ++ ⟨#[59, 10]⟩ : ByteArray).data.toList) ++ x_objects.flatMap objL0) by rw [List.take_length])
          clear hS h8
          have hS := hS2
          clear hS2
          have q := fun j => hS.cell w.heap.size [.string x_title, .string x_author, .string x_start, .int .i64 x_release, .int .i64 x_most, .slice da5 0 fa5, .slice da6 0 fa6, .slice da7 0 fa7, .slice da8 x_objects.length fa8, .slice da9 0 fa9, .slice da10 x_rules.length fa10, .slice da11 0 fa11, .slice da12 0 fa12] 29 (by simp) j
          have g0 := q 0
          have g1 := q 1
          have g2 := q 2
          have g3 := q 3
          have g4 := q 4
          have g5 := q 5
          have g6 := q 6
          have g7 := q 7
          have g8 := q 8
          have g9 := q 9
          have g10 := q 10
          have g11 := q 11
          have g12 := q 12
          simp only [cqs, cqz] at g0 g1 g2 g3 g4 g5 g6 g7 g8 g9 g10 g11 g12
          clear q
          go_wp2_with fail
          go_loopw [90] (fun i wr => i = .int .i64 0 ∧ Hid (StB W2 (w.heap.size + 1) [(w.heap.size, [.string x_title, .string x_author, .string x_start, .int .i64 x_release, .int .i64 x_most, .slice da5 0 fa5, .slice da6 0 fa6, .slice da7 0 fa7, .slice da8 x_objects.length fa8, .slice da9 0 fa9, .slice da10 x_rules.length fa10, .slice da11 0 fa11, .slice da12 0 fa12], 29)] ((([] : List UInt8) ++ (⟨#[115, 116, 111, 114, 121, 32]⟩ ++ quoteB x_title ++ ⟨#[32, 98, 121, 32]⟩ ++ quoteB x_author ++ ⟨#[32, 114, 101, 108, 101, 97, 115, 101, 32]⟩ ++ x_n1 ++ ⟨#[32, 109, 97, 120, 32]⟩ ++ x_n2 ++ ⟨#[32, 115, 116, 97, 114, 116, 32]⟩ ++ x_start ++ ⟨#[59, 10]⟩ : ByteArray).data.toList) ++ x_objects.flatMap objL0) wr)) (fun _ _ => 0)
          case atStart => exact ⟨rfl, hS⟩
          case round =>
            clear g0 g1 g2 g3 g4 g5 g6 g7 g8 g9 g10 g11 g12 hS
            obtain ⟨rfl, hS⟩ := hrel
            have hS := hS.out
            have q := fun j => hS.cell w.heap.size [.string x_title, .string x_author, .string x_start, .int .i64 x_release, .int .i64 x_most, .slice da5 0 fa5, .slice da6 0 fa6, .slice da7 0 fa7, .slice da8 x_objects.length fa8, .slice da9 0 fa9, .slice da10 x_rules.length fa10, .slice da11 0 fa11, .slice da12 0 fa12] 29 (by simp) j
            have g0 := q 0
            have g1 := q 1
            have g2 := q 2
            have g3 := q 3
            have g4 := q 4
            have g5 := q 5
            have g6 := q 6
            have g7 := q 7
            have g8 := q 8
            have g9 := q 9
            have g10 := q 10
            have g11 := q 11
            have g12 := q 12
            simp only [cqs, cqz] at g0 g1 g2 g3 g4 g5 g6 g7 g8 g9 g10 g11 g12
            clear q
            go_wp2_with fail
            go_loopw [110] (fun i wr => ∃ k : Nat, k ≤ x_rules.length ∧ i = .int .i64 k ∧ Hid (StB W2 (w.heap.size + 1) [(w.heap.size, [.string x_title, .string x_author, .string x_start, .int .i64 x_release, .int .i64 x_most, .slice da5 0 fa5, .slice da6 0 fa6, .slice da7 0 fa7, .slice da8 x_objects.length fa8, .slice da9 0 fa9, .slice da10 x_rules.length fa10, .slice da11 0 fa11, .slice da12 0 fa12], 29)] (((([] : List UInt8) ++ (⟨#[115, 116, 111, 114, 121, 32]⟩ ++ quoteB x_title ++ ⟨#[32, 98, 121, 32]⟩ ++ quoteB x_author ++ ⟨#[32, 114, 101, 108, 101, 97, 115, 101, 32]⟩ ++ x_n1 ++ ⟨#[32, 109, 97, 120, 32]⟩ ++ x_n2 ++ ⟨#[32, 115, 116, 97, 114, 116, 32]⟩ ++ x_start ++ ⟨#[59, 10]⟩ : ByteArray).data.toList) ++ x_objects.flatMap objL0) ++ (x_rules.take k).flatMap ruleL0) wr)) (fun i _ => x_rules.length - (intOf i).toNat)
            case atStart => exact ⟨0, Nat.zero_le _, rfl, hS.same (by simp only [List.take_zero, List.flatMap_nil, List.append_nil])⟩
            case round =>
              clear g0 g1 g2 g3 g4 g5 g6 g7 g8 g9 g10 g11 g12 hS
              obtain ⟨k, hk, rfl, hS⟩ := hrel
              have hS := hS.out
              by_cases hlt : k < x_rules.length
              · have hqt := HKW.out _ _ _ hS
                obtain ⟨bb, off, rfl, hFb, hel⟩ := h10 (by omega)
                obtain ⟨cs, hx, -, hcell⟩ := hel wr (hqt.block bb (HF.out bb hFb)) k hlt
                obtain ⟨x, hxe⟩ : ∃ x, x_rules[k] = x := ⟨_, rfl⟩
                rw [hxe] at hx
                have hbr := HR.out x (hxe ▸ List.getElem_mem hlt)
                have hlr := ruleL0_len x hbr
                obtain ⟨q_verb, q_phase, q_noun, q_second, q_cond, q_body⟩ := x
                obtain ⟨rfl, rfl, hz1, hz2, hz3⟩ := hbr
                simp only at hz1 hz2 hz3
                have hx2 := hx
                obtain ⟨-, -, -, -, ve4, ve5, rfl, ke4, ke5⟩ := hx2
                simp only at ke4 ke5
                obtain ⟨de4, fe4, rfl⟩ := ke4.shape
                obtain ⟨de5, fe5, rfl⟩ := ke5.shape
                simp only [List.length_nil] at hx hcell
                have q0 := hcell 0 _ rfl
                have q1 := hcell 1 _ rfl
                have q2 := hcell 2 _ rfl
                have q3 := hcell 3 _ rfl
                have q4 := hcell 4 _ rfl
                have q5 := hcell 5 _ rfl
                simp only [Nat.add_zero] at q0
                have hki : (k : Int) < (x_rules.length : Int) := by omega
                have hki0 : (0 : Int) ≤ (k : Int) := by omega
                clear hel hcell ke4 ke5
                obtain ⟨we, hwe⟩ : ∃ we, wr.alloc (.cells #[.string q_verb, .int .i64 q_phase, .string q_noun, .string q_second, .slice de4 0 fe4, .slice de5 0 fe5] 42) = we := ⟨_, rfl⟩
                have hSe := hS.add [.string q_verb, .int .i64 q_phase, .string q_noun, .string q_second, .slice de4 0 fe4, .slice de5 0 fe5] 42 (by decide)
                rw [hwe] at hSe
                have hbe : Below wr.heap.size wr we := by rw [← hwe]; exact (Below.refl _ _).alloc (Nat.le_refl _) _
                have HB9 := Lib.hid (bt hqt hbe)
                have hnx : Hid ((((([] : List UInt8) ++ (⟨#[115, 116, 111, 114, 121, 32]⟩ ++ quoteB x_title ++ ⟨#[32, 98, 121, 32]⟩ ++ quoteB x_author ++ ⟨#[32, 114, 101, 108, 101, 97, 115, 101, 32]⟩ ++ x_n1 ++ ⟨#[32, 109, 97, 120, 32]⟩ ++ x_n2 ++ ⟨#[32, 115, 116, 97, 114, 116, 32]⟩ ++ x_start ++ ⟨#[59, 10]⟩ : ByteArray).data.toList) ++ x_objects.flatMap objL0) ++ (x_rules.take k).flatMap ruleL0) ++ (phaseB q_phase ++ q_verb ++ whichB q_noun q_second ++ ⟨#[]⟩ ++ ⟨#[32]⟩ ++ ⟨#[123, 10, 125]⟩ ++ ⟨#[10]⟩ : ByteArray).data.toList = (((([] : List UInt8) ++ (⟨#[115, 116, 111, 114, 121, 32]⟩ ++ quoteB x_title ++ ⟨#[32, 98, 121, 32]⟩ ++ quoteB x_author ++ ⟨#[32, 114, 101, 108, 101, 97, 115, 101, 32]⟩ ++ x_n1 ++ ⟨#[32, 109, 97, 120, 32]⟩ ++ x_n2 ++ ⟨#[32, 115, 116, 97, 114, 116, 32]⟩ ++ x_start ++ ⟨#[59, 10]⟩ : ByteArray).data.toList) ++ x_objects.flatMap objL0) ++ (x_rules.take (k + 1)).flatMap ruleL0)) := by
                  show _ = _
                  rw [flat_take ruleL0 x_rules k hlt _ hxe, ← List.append_assoc]
                  rfl
                have hlk := HLR.out k hk
                have HT9 : Hid (∀ W, StB W2 (w.heap.size + 1) ((wr.heap.size, [.string q_verb, .int .i64 q_phase, .string q_noun, .string q_second, .slice de4 0 fe4, .slice de5 0 fe5], 42) :: [(w.heap.size, [.string x_title, .string x_author, .string x_start, .int .i64 x_release, .int .i64 x_most, .slice da5 0 fa5, .slice da6 0 fa6, .slice da7 0 fa7, .slice da8 x_objects.length fa8, .slice da9 0 fa9, .slice (some ⟨bb, off, none⟩) x_rules.length fa10, .slice da11 0 fa11, .slice da12 0 fa12], 29)]) (((([] : List UInt8) ++ (⟨#[115, 116, 111, 114, 121, 32]⟩ ++ quoteB x_title ++ ⟨#[32, 98, 121, 32]⟩ ++ quoteB x_author ++ ⟨#[32, 114, 101, 108, 101, 97, 115, 101, 32]⟩ ++ x_n1 ++ ⟨#[32, 109, 97, 120, 32]⟩ ++ x_n2 ++ ⟨#[32, 115, 116, 97, 114, 116, 32]⟩ ++ x_start ++ ⟨#[59, 10]⟩ : ByteArray).data.toList) ++ x_objects.flatMap objL0) ++ (x_rules.take k).flatMap ruleL0) W → Calls Tryz.prog 60 #[.pointer (some ⟨w.heap.size + 1, 0, none⟩), .string (phaseB q_phase ++ q_verb ++ whichB q_noun q_second ++ ⟨#[]⟩ ++ ⟨#[32]⟩ ++ ⟨#[123, 10, 125]⟩ ++ ⟨#[10]⟩ : ByteArray)] W fun e w' => e = .returned (.tuple #[.int .i64 (phaseB q_phase ++ q_verb ++ whichB q_noun q_second ++ ⟨#[]⟩ ++ ⟨#[32]⟩ ++ ⟨#[123, 10, 125]⟩ ++ ⟨#[10]⟩ : ByteArray).size, .nilIface]) ∧ StB W2 (w.heap.size + 1) ((wr.heap.size, [.string q_verb, .int .i64 q_phase, .string q_noun, .string q_second, .slice de4 0 fe4, .slice de5 0 fe5], 42) :: [(w.heap.size, [.string x_title, .string x_author, .string x_start, .int .i64 x_release, .int .i64 x_most, .slice da5 0 fa5, .slice da6 0 fa6, .slice da7 0 fa7, .slice da8 x_objects.length fa8, .slice da9 0 fa9, .slice (some ⟨bb, off, none⟩) x_rules.length fa10, .slice da11 0 fa11, .slice da12 0 fa12], 29)]) ((((([] : List UInt8) ++ (⟨#[115, 116, 111, 114, 121, 32]⟩ ++ quoteB x_title ++ ⟨#[32, 98, 121, 32]⟩ ++ quoteB x_author ++ ⟨#[32, 114, 101, 108, 101, 97, 115, 101, 32]⟩ ++ x_n1 ++ ⟨#[32, 109, 97, 120, 32]⟩ ++ x_n2 ++ ⟨#[32, 115, 116, 97, 114, 116, 32]⟩ ++ x_start ++ ⟨#[59, 10]⟩ : ByteArray).data.toList) ++ x_objects.flatMap objL0) ++ (x_rules.take k).flatMap ruleL0) ++ (phaseB q_phase ++ q_verb ++ whichB q_noun q_second ++ ⟨#[]⟩ ++ ⟨#[32]⟩ ++ ⟨#[123, 10, 125]⟩ ++ ⟨#[10]⟩ : ByteArray).data.toList) w') := fun W h => h.text _ (by
                  have e1 : (phaseB q_phase ++ q_verb ++ whichB q_noun q_second ++ ⟨#[]⟩ ++ ⟨#[32]⟩ ++ ⟨#[123, 10, 125]⟩ ++ ⟨#[10]⟩ : ByteArray).size = (ruleL0 ⟨q_verb, q_phase, q_noun, q_second, [], []⟩).length := by show _ = (ruleB _).data.toList.length; rw [Array.length_toList]; rfl
                  rw [e1]
                  omega)
                have K {f : FuncId} {args : Array Value} {u : Value} (h : ∀ w', Below we.heap.size we w' → Calls Tryz.prog f args w' (Gives w' u)) (p : Regrown) : Calls Tryz.prog f args (grow (redrawn we p.d) p.os) fun e w3 => e = .returned u ∧ ∃ p : Regrown, w3 = grow (redrawn we p.d) p.os := regrown_gives (fun w3 hb => h w3 hb) p
                have HK1 := Lib.hid (K (fun W (_ : Below we.heap.size we W) => phase_calls q_phase W))
                have HK2 : Hid (∀ p, _) := K (fun W (hW : Below we.heap.size we W) => which_calls F W ⟨q_verb, q_phase, q_noun, q_second, [], []⟩ [.string q_verb, .int .i64 q_phase, .string q_noun, .string q_second, .slice de4 0 fe4, .slice de5 0 fe5] (Holds.below Holds.rule hx HF.out (bt HB9.out hW) (Nat.le_refl _)) (by show q_noun.size ≤ _; omega) (by show q_second.size ≤ _; omega))
                have HK3 := Lib.hid (K (fun W (_ : Below we.heap.size we W) => cond0 de4 fe4 W))
                have HK4 := Lib.hid (K (fun W (_ : Below we.heap.size we W) => block0 de5 fe5 W))
                have HSE := Lib.hid hSe
                have HWE := Lib.hid hwe
                have hp1 := phaseB_size q_phase
                have hp2 := whichB_size q_noun q_second
                have q := fun j => hS.cell w.heap.size [.string x_title, .string x_author, .string x_start, .int .i64 x_release, .int .i64 x_most, .slice da5 0 fa5, .slice da6 0 fa6, .slice da7 0 fa7, .slice da8 x_objects.length fa8, .slice da9 0 fa9, .slice (some ⟨bb, off, none⟩) x_rules.length fa10, .slice da11 0 fa11, .slice da12 0 fa12] 29 (by simp) j
                have g0 := q 0
                have g1 := q 1
                have g2 := q 2
                have g3 := q 3
                have g4 := q 4
                have g5 := q 5
                have g6 := q 6
                have g7 := q 7
                have g8 := q 8
                have g9 := q 9
                have g10 := q 10
                have g11 := q 11
                have g12 := q 12
                simp only [cqs, cqz] at g0 g1 g2 g3 g4 g5 g6 g7 g8 g9 g10 g11 g12
                clear q
                clear K hbe hx hxe hqt hFb hwe hlk hSe hlr
                go_upto_region 31 with fail
                rw [HWE.out]
                clear q0 q1 q2 q3 q4 q5 g0 g1 g2 g3 g4 g5 g6 g7 g8 g9 g10 g11 g12
                have q := fun j => HSE.out.cell wr.heap.size [.string q_verb, .int .i64 q_phase, .string q_noun, .string q_second, .slice de4 0 fe4, .slice de5 0 fe5] 42 (by simp) j
                have q0 := q 0
                have q1 := q 1
                have q2 := q 2
                have q3 := q 3
                have q4 := q 4
                have q5 := q 5
                simp only [cqs, cqz] at q0 q1 q2 q3 q4 q5
                clear q
                have zq0 := fun d os => cell_regrown q0 d os
                have zq1 := fun d os => cell_regrown q1 d os
                have zq2 := fun d os => cell_regrown q2 d os
                have zq3 := fun d os => cell_regrown q3 d os
                have zq4 := fun d os => cell_regrown q4 d os
                have zq5 := fun d os => cell_regrown q5 d os
                refine wp_region_quiet_last_below 19 (by kernel_rfl) rfl rfl (by kernel_rfl) ?_
                simp only [List.dropLast]
                repeat (go_big_quiet_step (first | with_reducible exact HK1.out _ | with_reducible exact HK2.out _ | with_reducible exact HK3.out _ | with_reducible exact HK4.out _))
                refine wpQuiet_nil ?_
                intro w5 hb5
                have hS5 := HSE.out.below hb5
                clear zq0 q0 zq1 q1 zq2 q2 zq3 q3 zq4 q4 zq5 q5 HK1 HK2 HK3 HK4
                go_wp2_with (go_at_call 60; (with_reducible refine (HT9.out _ hS5).mono ?_); rintro e w6 ⟨rfl, hS6⟩)
                go_roundw
                case rel => exact ⟨k + 1, by omega, by go_num, (hS6.same hnx.out).sub (fun t ht => List.mem_cons_of_mem _ ht)⟩
                case measure => simp [intOf]; omega
              · have : k = x_rules.length := by omega
                subst this
                have hki : decide ((x_rules.length : Int) < (x_rules.length : Int)) = false := by simp
                have hS2 := hS.same (show (((([] : List UInt8) ++ (⟨#[115, 116, 111, 114, 121, 32]⟩ ++ quoteB x_title ++ ⟨#[32, 98, 121, 32]⟩ ++ quoteB x_author ++ ⟨#[32, 114, 101, 108, 101, 97, 115, 101, 32]⟩ ++ x_n1 ++ ⟨#[32, 109, 97, 120, 32]⟩ ++ x_n2 ++ ⟨#[32, 115, 116, 97, 114, 116, 32]⟩ ++ x_start ++ ⟨#[59, 10]⟩ : ByteArray).data.toList) ++ x_objects.flatMap objL0) ++ (x_rules.take x_rules.length).flatMap ruleL0) = (((([] : List UInt8) ++ (⟨#[115, 116, 111, 114, 121, 32]⟩ ++ quoteB x_title ++ ⟨#[32, 98, 121, 32]⟩ ++ quoteB x_author ++ ⟨#[32, 114, 101, 108, 101, 97, 115, 101, 32]⟩ ++ x_n1 ++ ⟨#[32, 109, 97, 120, 32]⟩ ++ x_n2 ++ ⟨#[32, 115, 116, 97, 114, 116, 32]⟩ ++ x_start ++ ⟨#[59, 10]⟩ : ByteArray).data.toList) ++ x_objects.flatMap objL0) ++ x_rules.flatMap ruleL0) by rw [List.take_length])
                clear hS h10
                have hS := hS2
                clear hS2
                have q := fun j => hS.cell w.heap.size [.string x_title, .string x_author, .string x_start, .int .i64 x_release, .int .i64 x_most, .slice da5 0 fa5, .slice da6 0 fa6, .slice da7 0 fa7, .slice da8 x_objects.length fa8, .slice da9 0 fa9, .slice da10 x_rules.length fa10, .slice da11 0 fa11, .slice da12 0 fa12] 29 (by simp) j
                have g0 := q 0
                have g1 := q 1
                have g2 := q 2
                have g3 := q 3
                have g4 := q 4
                have g5 := q 5
                have g6 := q 6
                have g7 := q 7
                have g8 := q 8
                have g9 := q 9
                have g10 := q 10
                have g11 := q 11
                have g12 := q 12
                simp only [cqs, cqz] at g0 g1 g2 g3 g4 g5 g6 g7 g8 g9 g10 g11 g12
                clear q
                go_wp2_with fail
                go_loopw [138] (fun i wr => i = .int .i64 0 ∧ Hid (StB W2 (w.heap.size + 1) [(w.heap.size, [.string x_title, .string x_author, .string x_start, .int .i64 x_release, .int .i64 x_most, .slice da5 0 fa5, .slice da6 0 fa6, .slice da7 0 fa7, .slice da8 x_objects.length fa8, .slice da9 0 fa9, .slice da10 x_rules.length fa10, .slice da11 0 fa11, .slice da12 0 fa12], 29)] (((([] : List UInt8) ++ (⟨#[115, 116, 111, 114, 121, 32]⟩ ++ quoteB x_title ++ ⟨#[32, 98, 121, 32]⟩ ++ quoteB x_author ++ ⟨#[32, 114, 101, 108, 101, 97, 115, 101, 32]⟩ ++ x_n1 ++ ⟨#[32, 109, 97, 120, 32]⟩ ++ x_n2 ++ ⟨#[32, 115, 116, 97, 114, 116, 32]⟩ ++ x_start ++ ⟨#[59, 10]⟩ : ByteArray).data.toList) ++ x_objects.flatMap objL0) ++ x_rules.flatMap ruleL0) wr)) (fun _ _ => 0)
                case atStart => exact ⟨rfl, hS⟩
                case round =>
                  clear g0 g1 g2 g3 g4 g5 g6 g7 g8 g9 g10 g11 g12 hS
                  obtain ⟨rfl, hS⟩ := hrel
                  have hS := hS.out
                  have q := fun j => hS.cell w.heap.size [.string x_title, .string x_author, .string x_start, .int .i64 x_release, .int .i64 x_most, .slice da5 0 fa5, .slice da6 0 fa6, .slice da7 0 fa7, .slice da8 x_objects.length fa8, .slice da9 0 fa9, .slice da10 x_rules.length fa10, .slice da11 0 fa11, .slice da12 0 fa12] 29 (by simp) j
                  have g0 := q 0
                  have g1 := q 1
                  have g2 := q 2
                  have g3 := q 3
                  have g4 := q 4
                  have g5 := q 5
                  have g6 := q 6
                  have g7 := q 7
                  have g8 := q 8
                  have g9 := q 9
                  have g10 := q 10
                  have g11 := q 11
                  have g12 := q 12
                  simp only [cqs, cqz] at g0 g1 g2 g3 g4 g5 g6 g7 g8 g9 g10 g11 g12
                  clear q
                  go_wp2_with fail
                  go_loopw [161] (fun i wr => i = .int .i64 0 ∧ Hid (StB W2 (w.heap.size + 1) [(w.heap.size, [.string x_title, .string x_author, .string x_start, .int .i64 x_release, .int .i64 x_most, .slice da5 0 fa5, .slice da6 0 fa6, .slice da7 0 fa7, .slice da8 x_objects.length fa8, .slice da9 0 fa9, .slice da10 x_rules.length fa10, .slice da11 0 fa11, .slice da12 0 fa12], 29)] (((([] : List UInt8) ++ (⟨#[115, 116, 111, 114, 121, 32]⟩ ++ quoteB x_title ++ ⟨#[32, 98, 121, 32]⟩ ++ quoteB x_author ++ ⟨#[32, 114, 101, 108, 101, 97, 115, 101, 32]⟩ ++ x_n1 ++ ⟨#[32, 109, 97, 120, 32]⟩ ++ x_n2 ++ ⟨#[32, 115, 116, 97, 114, 116, 32]⟩ ++ x_start ++ ⟨#[59, 10]⟩ : ByteArray).data.toList) ++ x_objects.flatMap objL0) ++ x_rules.flatMap ruleL0) wr)) (fun _ _ => 0)
                  case atStart => exact ⟨rfl, hS⟩
                  case round =>
                    clear g0 g1 g2 g3 g4 g5 g6 g7 g8 g9 g10 g11 g12 hS
                    obtain ⟨rfl, hS⟩ := hrel
                    have hS := hS.out
                    have q := fun j => hS.cell w.heap.size [.string x_title, .string x_author, .string x_start, .int .i64 x_release, .int .i64 x_most, .slice da5 0 fa5, .slice da6 0 fa6, .slice da7 0 fa7, .slice da8 x_objects.length fa8, .slice da9 0 fa9, .slice da10 x_rules.length fa10, .slice da11 0 fa11, .slice da12 0 fa12] 29 (by simp) j
                    have g0 := q 0
                    have g1 := q 1
                    have g2 := q 2
                    have g3 := q 3
                    have g4 := q 4
                    have g5 := q 5
                    have g6 := q 6
                    have g7 := q 7
                    have g8 := q 8
                    have g9 := q 9
                    have g10 := q 10
                    have g11 := q 11
                    have g12 := q 12
                    simp only [cqs, cqz] at g0 g1 g2 g3 g4 g5 g6 g7 g8 g9 g10 g11 g12
                    clear q
                    have HKB : Hid (Below w.heap.size w wr) := HKW.out _ _ _ hS
                    go_wp2_with (go_at_call 72; (with_reducible refine (HSTR.out _ hS).mono ?_); rintro e w7 ⟨rfl, hb7⟩)
                    go_ret
                    exact ⟨by rw [← hfin.out]; rfl, HKB.out.trans (hb7.mono (by omega))⟩
end Go.Proofs.YtmabeegoapcfpaaGreatDoor
