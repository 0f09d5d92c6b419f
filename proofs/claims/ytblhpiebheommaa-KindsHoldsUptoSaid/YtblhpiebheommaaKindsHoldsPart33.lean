/- The walk of a whole's check at each part, and kinds.Check of any source. Printed by gen-kinds35.py. -/
import Derived.Test.YtblhpiebheommaaKindsHoldsPart26
import Derived.Test.YtblhpiebheommaaKindsHoldsPart32
import Derived.Test.YtblhpiebheommaaMake
import Derived.Test.YtblhpiebheommaaKindsHoldsPart13
namespace Go.Proofs.Ytblhpiebheommaa
open Go.RowKit

set_option maxRecDepth 100000 in
set_option maxHeartbeats 2000000 in
theorem chk6_calls (t : List NameD) (s : SrcD) (i : Int) (q : Int × ByteArray) (F : Nat → Prop) (w : World) (tv : Value) (ss : List Value) (h0 : RdNames F w t tv) (h1 : Holds.src.R F w s ss)
    (hc : ∀ W, Below w.heap.size w W → Calls Try.prog 70 #[.agg (tv :: ss).toArray, .int .i64 i] W (Judged W q (.tuple #[]))) :
    Calls Try.prog 45 #[.agg (tv :: ss).toArray, .int .i64 6, .int .i64 i] w (Judged w q (.tuple #[])) := by
  obtain ⟨a0, c0, rfl⟩ := h0.shape
  obtain ⟨a5, c5, a6, c6, a7, c7, a8, c8, a9, c9, a10, c10, a11, c11, a12, c12, rfl, g5, g6, g7, g8, g9, g10, g11, g12⟩ := src_shape h1
  have hB := (Below.refl w.heap.size w).alloc (Nat.le_refl _) (.cells #[.slice a0 t.length c0, .string s.title, .string s.author, .string s.start, .int .i64 s.release, .int .i64 s.most, .slice a5 s.flags.length c5, .slice a6 s.props.length c6, .slice a7 s.globals.length c7, .slice a8 s.objects.length c8, .slice a9 s.verbs.length c9, .slice a10 s.rules.length c10, .slice a11 s.funcs.length c11, .slice a12 s.daemons.length c12] 91)
  have hc1 := hc _ hB
  have HB := Lib.hid hB
  clear hc h0 h1 g5 g6 g7 g8 g9 g10 g11 g12
  by_cases hq : q.1 = 0
  · have HC := Lib.hid (judged_ok hc1 hq)
    have HQ := Lib.hid hq
    clear hc1 hq
    go_enter Try.func45, Try.ntmps45
    go_wp2_with (go_at_call 70; refine HC.out.mono ?_; rintro e w1 ⟨rfl, hb⟩)
    go_end0
    exact Judged.fine HQ.out rfl (HB.out.trans (hb.mono HB.out.size))
  · have HC := Lib.hid (judged_bad hc1 hq)
    have HQ := Lib.hid hq
    clear hc1 hq
    go_enter Try.func45, Try.ntmps45
    go_wp2_with (go_at_call 70; refine HC.out.mono ?_; rintro e w1 ⟨rfl, hb⟩)
    exact ⟨rfl, Judged.thrown rfl HQ.out rfl (HB.out.trans (hb.mono HB.out.size))⟩

set_option maxRecDepth 100000 in
set_option maxHeartbeats 2000000 in
theorem chk7_calls (t : List NameD) (s : SrcD) (i : Int) (q : Int × ByteArray) (F : Nat → Prop) (w : World) (tv : Value) (ss : List Value) (h0 : RdNames F w t tv) (h1 : Holds.src.R F w s ss)
    (hc : ∀ W, Below w.heap.size w W → Calls Try.prog 71 #[.agg (tv :: ss).toArray, .int .i64 i] W (Judged W q (.tuple #[]))) :
    Calls Try.prog 45 #[.agg (tv :: ss).toArray, .int .i64 7, .int .i64 i] w (Judged w q (.tuple #[])) := by
  obtain ⟨a0, c0, rfl⟩ := h0.shape
  obtain ⟨a5, c5, a6, c6, a7, c7, a8, c8, a9, c9, a10, c10, a11, c11, a12, c12, rfl, g5, g6, g7, g8, g9, g10, g11, g12⟩ := src_shape h1
  have hB := (Below.refl w.heap.size w).alloc (Nat.le_refl _) (.cells #[.slice a0 t.length c0, .string s.title, .string s.author, .string s.start, .int .i64 s.release, .int .i64 s.most, .slice a5 s.flags.length c5, .slice a6 s.props.length c6, .slice a7 s.globals.length c7, .slice a8 s.objects.length c8, .slice a9 s.verbs.length c9, .slice a10 s.rules.length c10, .slice a11 s.funcs.length c11, .slice a12 s.daemons.length c12] 91)
  have hc1 := hc _ hB
  have HB := Lib.hid hB
  clear hc h0 h1 g5 g6 g7 g8 g9 g10 g11 g12
  by_cases hq : q.1 = 0
  · have HC := Lib.hid (judged_ok hc1 hq)
    have HQ := Lib.hid hq
    clear hc1 hq
    go_enter Try.func45, Try.ntmps45
    go_wp2_with (go_at_call 71; refine HC.out.mono ?_; rintro e w1 ⟨rfl, hb⟩)
    go_end0
    exact Judged.fine HQ.out rfl (HB.out.trans (hb.mono HB.out.size))
  · have HC := Lib.hid (judged_bad hc1 hq)
    have HQ := Lib.hid hq
    clear hc1 hq
    go_enter Try.func45, Try.ntmps45
    go_wp2_with (go_at_call 71; refine HC.out.mono ?_; rintro e w1 ⟨rfl, hb⟩)
    exact ⟨rfl, Judged.thrown rfl HQ.out rfl (HB.out.trans (hb.mono HB.out.size))⟩

set_option maxRecDepth 100000 in
set_option maxHeartbeats 2000000 in
theorem chk8_calls (t : List NameD) (s : SrcD) (i : Int) (q : Int × ByteArray) (F : Nat → Prop) (w : World) (tv : Value) (ss : List Value) (h0 : RdNames F w t tv) (h1 : Holds.src.R F w s ss)
    (hc : ∀ W, Below w.heap.size w W → Calls Try.prog 72 #[.agg (tv :: ss).toArray, .int .i64 i] W (Judged W q (.tuple #[]))) :
    Calls Try.prog 45 #[.agg (tv :: ss).toArray, .int .i64 8, .int .i64 i] w (Judged w q (.tuple #[])) := by
  obtain ⟨a0, c0, rfl⟩ := h0.shape
  obtain ⟨a5, c5, a6, c6, a7, c7, a8, c8, a9, c9, a10, c10, a11, c11, a12, c12, rfl, g5, g6, g7, g8, g9, g10, g11, g12⟩ := src_shape h1
  have hB := (Below.refl w.heap.size w).alloc (Nat.le_refl _) (.cells #[.slice a0 t.length c0, .string s.title, .string s.author, .string s.start, .int .i64 s.release, .int .i64 s.most, .slice a5 s.flags.length c5, .slice a6 s.props.length c6, .slice a7 s.globals.length c7, .slice a8 s.objects.length c8, .slice a9 s.verbs.length c9, .slice a10 s.rules.length c10, .slice a11 s.funcs.length c11, .slice a12 s.daemons.length c12] 91)
  have hc1 := hc _ hB
  have HB := Lib.hid hB
  clear hc h0 h1 g5 g6 g7 g8 g9 g10 g11 g12
  by_cases hq : q.1 = 0
  · have HC := Lib.hid (judged_ok hc1 hq)
    have HQ := Lib.hid hq
    clear hc1 hq
    go_enter Try.func45, Try.ntmps45
    go_wp2_with (go_at_call 72; refine HC.out.mono ?_; rintro e w1 ⟨rfl, hb⟩)
    go_end0
    exact Judged.fine HQ.out rfl (HB.out.trans (hb.mono HB.out.size))
  · have HC := Lib.hid (judged_bad hc1 hq)
    have HQ := Lib.hid hq
    clear hc1 hq
    go_enter Try.func45, Try.ntmps45
    go_wp2_with (go_at_call 72; refine HC.out.mono ?_; rintro e w1 ⟨rfl, hb⟩)
    exact ⟨rfl, Judged.thrown rfl HQ.out rfl (HB.out.trans (hb.mono HB.out.size))⟩

set_option maxRecDepth 100000 in
set_option maxHeartbeats 2000000 in
theorem chk9_calls (t : List NameD) (s : SrcD) (i : Int) (q : Int × ByteArray) (F : Nat → Prop) (w : World) (tv : Value) (ss : List Value) (h0 : RdNames F w t tv) (h1 : Holds.src.R F w s ss)
    (hc : ∀ W, Below w.heap.size w W → Calls Try.prog 73 #[.agg (tv :: ss).toArray, .int .i64 i] W (Judged W q (.tuple #[]))) :
    Calls Try.prog 45 #[.agg (tv :: ss).toArray, .int .i64 9, .int .i64 i] w (Judged w q (.tuple #[])) := by
  obtain ⟨a0, c0, rfl⟩ := h0.shape
  obtain ⟨a5, c5, a6, c6, a7, c7, a8, c8, a9, c9, a10, c10, a11, c11, a12, c12, rfl, g5, g6, g7, g8, g9, g10, g11, g12⟩ := src_shape h1
  have hB := (Below.refl w.heap.size w).alloc (Nat.le_refl _) (.cells #[.slice a0 t.length c0, .string s.title, .string s.author, .string s.start, .int .i64 s.release, .int .i64 s.most, .slice a5 s.flags.length c5, .slice a6 s.props.length c6, .slice a7 s.globals.length c7, .slice a8 s.objects.length c8, .slice a9 s.verbs.length c9, .slice a10 s.rules.length c10, .slice a11 s.funcs.length c11, .slice a12 s.daemons.length c12] 91)
  have hc1 := hc _ hB
  have HB := Lib.hid hB
  clear hc h0 h1 g5 g6 g7 g8 g9 g10 g11 g12
  by_cases hq : q.1 = 0
  · have HC := Lib.hid (judged_ok hc1 hq)
    have HQ := Lib.hid hq
    clear hc1 hq
    go_enter Try.func45, Try.ntmps45
    go_wp2_with (go_at_call 73; refine HC.out.mono ?_; rintro e w1 ⟨rfl, hb⟩)
    go_end0
    exact Judged.fine HQ.out rfl (HB.out.trans (hb.mono HB.out.size))
  · have HC := Lib.hid (judged_bad hc1 hq)
    have HQ := Lib.hid hq
    clear hc1 hq
    go_enter Try.func45, Try.ntmps45
    go_wp2_with (go_at_call 73; refine HC.out.mono ?_; rintro e w1 ⟨rfl, hb⟩)
    exact ⟨rfl, Judged.thrown rfl HQ.out rfl (HB.out.trans (hb.mono HB.out.size))⟩

/-- What is wrong with one of a part of a source. -/
noncomputable def checkW (t : List NameD) (s : SrcD) (p : Int) (i : Nat) : Int × ByteArray :=
  if p = 1 then roomW t s.objects s.start
  else if p = 5 then (match s.objects[i]? with | some o => objW t s.funcs s.objects i o | none => fineW)
  else if p = 6 then (match s.verbs[i]? with | some o => verbW o | none => fineW)
  else if p = 7 then (match s.rules[i]? with | some o => ruleW t s.funcs o | none => fineW)
  else if p = 8 then (match s.funcs[i]? with | some o => funcW t s.funcs o | none => fineW)
  else (match s.daemons[i]? with | some o => St.kWs t s.funcs 9 [] 0 o.body | none => fineW)

set_option maxRecDepth 100000 in
theorem check_calls (t : List NameD) (s : SrcD) (F : Nat → Prop) (w : World) (tv : Value) (ss : List Value) (hF : Inn F w) (hri : Rises t) (ht : t.length ≤ 1000000000000) (htab : TabOk t s.funcs s.objects.length) (h0 : RdNames F w t tv) (h1 : Holds.src.R F w s ss) (hm : MX w) (hpar : ∀ f ∈ s.funcs, f.params.length ≤ 1000) (p : Int) (i : Nat) (hp : p ∈ parts6) (hi : i < manyN s p) :
    Calls Try.prog 45 #[.agg (tv :: ss).toArray, .int .i64 p, .int .i64 i] w (Judged w (checkW t s p i) (.tuple #[])) := by
  have hk0 := fun W (hW : Below w.heap.size w W) => h0.below hF hW (Nat.le_refl _)
  have hk1 := fun W (hW : Below w.heap.size w W) => Holds.below _ h1 hF hW (Nat.le_refl _)
  unfold parts6 at hp
  simp only [List.mem_cons, List.not_mem_nil, or_false] at hp
  unfold checkW
  rcases hp with rfl | rfl | rfl | rfl | rfl | rfl
  · rw [if_pos rfl]
    exact chk1_calls t s i _ F w tv ss h0 h1 fun W hW => room_calls t s s.start F W tv ss (hF.below hW) hri ht htab (hk0 W hW) (hk1 W hW)
  · rw [if_neg (by decide), if_pos rfl]
    have hi : i < s.objects.length := hi
    rw [List.getElem?_eq_getElem hi]
    exact chk5_calls t s i _ F w tv ss h0 h1 fun W hW => object_calls t s i _ F W tv ss (hF.below hW) hri ht htab (hk0 W hW) (hk1 W hW) (List.getElem?_eq_getElem hi)
  · rw [if_neg (by decide), if_neg (by decide), if_pos rfl]
    have hi : i < s.verbs.length := hi
    rw [List.getElem?_eq_getElem hi]
    exact chk6_calls t s i _ F w tv ss h0 h1 fun W hW => verb_calls t s i _ F W tv ss (hF.below hW) (hk0 W hW) (hk1 W hW) (List.getElem?_eq_getElem hi)
  · rw [if_neg (by decide), if_neg (by decide), if_neg (by decide), if_pos rfl]
    have hi : i < s.rules.length := hi
    rw [List.getElem?_eq_getElem hi]
    exact chk7_calls t s i _ F w tv ss h0 h1 fun W hW => rule_calls t s i _ F W tv ss (hF.below hW) hri ht htab (hk0 W hW) (hk1 W hW) (List.getElem?_eq_getElem hi)
  · rw [if_neg (by decide), if_neg (by decide), if_neg (by decide), if_neg (by decide), if_pos rfl]
    have hi : i < s.funcs.length := hi
    rw [List.getElem?_eq_getElem hi]
    exact chk8_calls t s i _ F w tv ss h0 h1 fun W hW => function_calls t s i _ F W tv ss (hF.below hW) hri ht htab (hk0 W hW) (hk1 W hW) (hm.below hW (Nat.le_refl _)) (List.getElem?_eq_getElem hi) (hpar _ (List.getElem_mem hi))
  · rw [if_neg (by decide), if_neg (by decide), if_neg (by decide), if_neg (by decide), if_neg (by decide)]
    have hi : i < s.daemons.length := hi
    rw [List.getElem?_eq_getElem hi]
    exact chk9_calls t s i _ F w tv ss h0 h1 fun W hW => daemon_calls t s i _ F W tv ss (hF.below hW) hri ht htab (hk0 W hW) (hk1 W hW) (List.getElem?_eq_getElem hi)

theorem kCheckAll_calls (t : List NameD) (s : SrcD) (F : Nat → Prop) (w : World) (tv : Value) (ss : List Value) (hF : Inn F w) (hri : Rises t) (ht : t.length ≤ 1000000000000) (htab : TabOk t s.funcs s.objects.length) (h0 : RdNames F w t tv) (h1 : Holds.src.R F w s ss) (hm : MX w) (hpar : ∀ f ∈ s.funcs, f.params.length ≤ 1000) :
    Calls Try.prog 20 #[.agg ss.toArray, tv] w (Gives w (faultV (checkW t s) (firstBad (checkW t s) (pairsOf s parts6)))) :=
  kCheck_calls t s (checkW t s) F w tv ss hF h0 h1 fun p i W hp hi hW => check_calls t s F W tv ss (hF.below hW) hri ht htab (h0.below hF hW (Nat.le_refl _)) (Holds.below _ h1 hF hW (Nat.le_refl _)) (hm.below hW (Nat.le_refl _)) hpar p i hp hi
end Go.Proofs.Ytblhpiebheommaa
/- What a table that Make has made tells: its names fit, its functions and things are the source's. No program in sight. -/
namespace Go.Proofs.Ytblhpiebheommaa
open Go.RowKit

theorem ents_mem {α : Type} (nm : α → ByteArray) (kd pt sh mo : Int) : ∀ (l : List α) (k : Nat) (x : EntD), x ∈ ents nm kd pt sh mo k l → x.kind = kd ∧ x.most = mo ∧ ∃ i : Nat, i < l.length ∧ x.place = ((k + i : Nat) : Int) ∧ x.num = ((k + i : Nat) : Int) + sh
  | [], _, x, h => by cases h
  | a :: l, k, x, h => by
    rcases List.mem_cons.1 h with rfl | h
    · exact ⟨rfl, rfl, 0, by simp, by simp, by simp⟩
    · obtain ⟨h1, h2, i, h3, h4, h5⟩ := ents_mem nm kd pt sh mo l (k + 1) x h
      exact ⟨h1, h2, i + 1, by simp; omega, by rw [h4]; congr 1; omega, by rw [h5]; congr 2; omega⟩

/-- What a source's declaration is. -/
theorem ent_of (s : SrcD) (x : EntD) (h : x ∈ s.ents) : (1 ≤ x.kind ∧ x.kind ≤ 7) ∧ x.most ≤ 126 ∧ (∃ i : Nat, x.place = (i : Int) ∧ ∃ sh : Int, 0 ≤ sh ∧ sh ≤ 4 ∧ x.num = (i : Int) + sh) ∧ (x.kind = 6 → 0 ≤ x.num ∧ x.num < s.funcs.length) ∧ (x.kind = 4 → 2 ≤ x.num ∧ x.num < s.objects.length + 2) := by
  unfold SrcD.ents at h
  simp only [List.mem_append] at h
  rcases h with (((((h | h) | h) | h) | h) | h) | h <;> (obtain ⟨h1, h2, i, h3, h4, h5⟩ := ents_mem _ _ _ _ _ _ _ _ h; refine ⟨by omega, by omega, ⟨i, by omega, x.num - i, by omega, by omega, by omega⟩, fun hk => by omega, fun hk => by omega⟩)

theorem mkT_names : ∀ (l : List EntD) (t u : List NameD), mkT l t = some u → ∀ x ∈ l, IsName x.name
  | [], _, _, _, x, hx => by cases hx
  | y :: l, t, u, h, x, hx => by
    unfold mkT at h
    split at h
    · rename_i hok
      rcases List.mem_cons.1 hx with rfl | hx
      · exact (dec_iff.1 hok).1
      · exact mkT_names l _ u h x hx
    · cases h

theorem made_tab {s : SrcD} {t : List NameD} (h : mkT s.ents namesStart = some t) : TabOk t s.funcs s.objects.length ∧ NamesFit t ∧ Rises t := by
  obtain ⟨h1, h2, h3, h4⟩ := mkT_ok _ _ _ h start_rises
  refine ⟨fun y hy => ?_, fun y hy => ?_, h1⟩
  · rcases h3 y hy with hs | ⟨x, hx, rfl⟩
    · simp only [namesStart, List.mem_cons, List.not_mem_nil, or_false] at hs
      rcases hs with rfl | rfl | rfl | rfl <;> exact ⟨fun h => absurd h (by decide), fun h => absurd h (by decide)⟩
    · obtain ⟨_, _, _, h6, h7⟩ := ent_of s x hx
      exact ⟨h6, h7⟩
  · rcases h3 y hy with hs | ⟨x, hx, rfl⟩
    · simp only [namesStart, List.mem_cons, List.not_mem_nil, or_false] at hs
      rcases hs with rfl | rfl | rfl | rfl <;> exact ⟨by unfold maxLen; decide, by simp only [I64]; omega, by simp only [I64]; omega⟩
    · obtain ⟨h5, h6, ⟨i, h7, sh, h8, h9, h10⟩, _⟩ := ent_of s x hx
      have h11 := h4 x hx
      obtain ⟨_, hn, _⟩ := mkT_names _ _ _ h x hx
      exact ⟨by show x.name.size ≤ maxLen; unfold maxLen; omega, by show I64 x.kind; unfold I64; omega, by show I64 x.num; unfold I64; omega⟩
end Go.Proofs.Ytblhpiebheommaa
/- What a source of which nothing is wrong is like. No program in sight. -/
namespace Go.Proofs.Ytblhpiebheommaa
open Go.RowKit

theorem ents_name {α : Type} (nm : α → ByteArray) (kd pt sh mo : Int) : ∀ (l : List α) (k : Nat) (x : EntD), x ∈ ents nm kd pt sh mo k l → x.kind = kd ∧ ∃ (i : Nat) (hi : i < l.length), x.num = ((k + i : Nat) : Int) + sh ∧ x.name = nm l[i]
  | [], _, x, h => by cases h
  | a :: l, k, x, h => by
    rcases List.mem_cons.1 h with rfl | h
    · exact ⟨rfl, 0, by simp, by simp, rfl⟩
    · obtain ⟨h1, i, h3, h4, h5⟩ := ents_name nm kd pt sh mo l (k + 1) x h
      exact ⟨h1, i + 1, by simp; omega, by rw [h4]; congr 2; omega, by rw [h5]; rfl⟩
theorem ents_has {α : Type} (nm : α → ByteArray) (kd pt sh mo : Int) : ∀ (l : List α) (k i : Nat) (hi : i < l.length), (⟨nm l[i], kd, pt, ((k + i : Nat) : Int), ((k + i : Nat) : Int) + sh, mo⟩ : EntD) ∈ ents nm kd pt sh mo k l
  | a :: l, k, 0, hi => by simp [ents]
  | a :: l, k, i + 1, hi => by
    have := ents_has nm kd pt sh mo l (k + 1) i (by simpa using hi)
    rw [show k + 1 + i = k + (i + 1) by omega] at this
    exact List.mem_cons_of_mem _ this
theorem mkT_has : ∀ (l : List EntD) (t u : List NameD), mkT l t = some u → (∀ y ∈ t, y ∈ u) ∧ ∀ x ∈ l, (⟨x.name, x.kind, x.num⟩ : NameD) ∈ u
  | [], t, u, h => by
    have : t = u := by simpa [mkT] using h
    subst this
    exact ⟨fun y hy => hy, fun x hx => by cases hx⟩
  | x :: l, t, u, h => by
    unfold mkT at h
    split at h
    · obtain ⟨h1, h2⟩ := mkT_has l _ u h
      refine ⟨fun y hy => h1 y (putN_mem.2 (.inr hy)), fun z hz => ?_⟩
      rcases List.mem_cons.1 hz with rfl | hz
      · exact h1 _ (putN_mem.2 (.inl rfl))
      · exact h2 z hz
    · cases h

/-- The things' names, and the rooms'. -/
def SrcD.things (s : SrcD) : List ByteArray := s.objects.map ObjD.name
def SrcD.rooms (s : SrcD) : List ByteArray := (s.objects.filter ObjD.room).map ObjD.name

theorem thing_in {s : SrcD} {t : List NameD} (h : mkT s.ents namesStart = some t) (i : Nat) (hi : i < s.objects.length) : (⟨s.objects[i].name, 4, ((i : Nat) : Int) + 2⟩ : NameD) ∈ t := by
  have := (mkT_has _ _ _ h).2 ⟨s.objects[i].name, 4, 5, ((0 + i : Nat) : Int), ((0 + i : Nat) : Int) + 2, 126⟩ (by
    unfold SrcD.ents
    simp only [List.mem_append]
    exact .inl (.inl (.inl (.inr (ents_has ObjD.name 4 5 2 126 s.objects 0 i hi)))))
  simpa using this
theorem thing_name {s : SrcD} {t : List NameD} (h : mkT s.ents namesStart = some t) (i : Nat) (hi : i < s.objects.length) : IsName s.objects[i].name := by
  exact mkT_names _ _ _ h ⟨s.objects[i].name, 4, 5, ((0 + i : Nat) : Int), ((0 + i : Nat) : Int) + 2, 126⟩ (by
    unfold SrcD.ents
    simp only [List.mem_append]
    exact .inl (.inl (.inl (.inr (ents_has ObjD.name 4 5 2 126 s.objects 0 i hi)))))
theorem thing_of {s : SrcD} {t : List NameD} (h : mkT s.ents namesStart = some t) {x : NameD} (hx : x ∈ t) (hk : x.kind = 4) : ∃ (i : Nat) (hi : i < s.objects.length), x.num = (i : Int) + 2 ∧ s.objects[i].name = x.name := by
  obtain ⟨h1, h2, h3, h4⟩ := mkT_ok _ _ _ h start_rises
  rcases h3 x hx with hs | ⟨y, hy, rfl⟩
  · simp only [namesStart, List.mem_cons, List.not_mem_nil, or_false] at hs
    rcases hs with rfl | rfl | rfl | rfl <;> exact absurd hk (by decide)
  · obtain ⟨ka, kb, kc⟩ : True ∧ True ∧ True := ⟨trivial, trivial, trivial⟩
    unfold SrcD.ents at hy
    simp only [List.mem_append] at hy
    have hk : y.kind = 4 := hk
    rcases hy with (((((hy | hy) | hy) | hy) | hy) | hy) | hy
    · have := (ents_mem _ _ _ _ _ _ _ _ hy).1; omega
    · have := (ents_mem _ _ _ _ _ _ _ _ hy).1; omega
    · have := (ents_mem _ _ _ _ _ _ _ _ hy).1; omega
    · obtain ⟨_, i, hi, hn, he⟩ := ents_name _ _ _ _ _ _ _ _ hy
      exact ⟨i, hi, by rw [show (y.num : Int) = _ from hn]; simp, he.symm⟩
    · have := (ents_mem _ _ _ _ _ _ _ _ hy).1; omega
    · have := (ents_mem _ _ _ _ _ _ _ _ hy).1; omega
    · have := (ents_mem _ _ _ _ _ _ _ _ hy).1; omega
/-- A thing's name, found. -/
theorem of_thing {s : SrcD} {t : List NameD} (h : mkT s.ents namesStart = some t) {n : ByteArray} (hn : (ofN t 4 n).2 = 0) : ∃ (i : Nat) (hi : i < s.objects.length), ofN t 4 n = ((i : Int) + 2, 0) ∧ s.objects[i].name = n := by
  unfold ofN at hn ⊢
  cases hf : findN t n with
  | none => rw [hf] at hn; exact absurd hn (by decide)
  | some x =>
    rw [hf] at hn
    simp only at hn ⊢
    by_cases hk : x.kind = 4
    · obtain ⟨hx1, hx2⟩ := findN_some hf
      obtain ⟨i, hi, h1, h2⟩ := thing_of h hx1 hk
      exact ⟨i, hi, by rw [if_pos hk, h1], by rw [h2, hx2]⟩
    · rw [if_neg hk] at hn; exact absurd hn (by decide)
theorem ofW_zero {t : List NameD} {n : ByteArray} {k : Int} (hn : (ofW t k n).1 = 0) : (ofN t k n).2 = 0 := by
  unfold ofW at hn
  by_cases hz : (ofN t k n).2 = 0
  · exact hz
  · rw [if_neg hz] at hn; exact absurd hn hz
theorem thing_mem {s : SrcD} {t : List NameD} (h : mkT s.ents namesStart = some t) {n : ByteArray} (hn : (ofW t 4 n).1 = 0) : n ∈ s.things := by
  obtain ⟨i, hi, _, h2⟩ := of_thing h (ofW_zero hn)
  exact List.mem_map.2 ⟨_, List.getElem_mem hi, h2⟩
theorem room_mem {s : SrcD} {t : List NameD} (h : mkT s.ents namesStart = some t) {n : ByteArray} (hn : (roomW t s.objects n).1 = 0) : n ∈ s.rooms := by
  unfold roomW at hn
  by_cases hz : (ofN t 4 n).2 = 0
  · obtain ⟨i, hi, h1, h2⟩ := of_thing h hz
    rw [if_pos hz, h1, show ((i : Int) + 2).toNat - 2 = i by omega] at hn
    by_cases hr : s.objects[i].room = true
    · exact List.mem_map.2 ⟨_, List.mem_filter.2 ⟨List.getElem_mem hi, hr⟩, h2⟩
    · rw [if_neg (by simpa [hi] using hr)] at hn
      exact absurd hn (show ¬ ((12 : Int) = 0) by decide)
  · rw [if_neg hz] at hn; exact absurd hn hz
theorem round_self {s : SrcD} {t : List NameD} (h : mkT s.ents namesStart = some t) (i : Nat) (hi : i < s.objects.length) (he : s.objects[i].inn = s.objects[i].name) (hn : (ofW t 4 s.objects[i].inn).1 = 0) : roundN t s.objects i s.objects.length i = true := by
  obtain ⟨j, hj, h1, h2⟩ := of_thing h (ofW_zero hn)
  have hr : Rises t := (mkT_ok _ _ _ h start_rises).1
  have e := hr.inj (thing_in h i hi) (thing_in h j hj) (by show s.objects[i].name = s.objects[j].name; rw [h2, he])
  have hij : j = i := by
    have := congrArg NameD.num e
    simp only at this
    omega
  subst hij
  obtain ⟨f, hf⟩ : ∃ f, s.objects.length = f + 1 := ⟨s.objects.length - 1, by omega⟩
  rw [hf]
  have hst : stepN t s.objects j = some j := by
    unfold stepN
    rw [show (s.objects.map ObjD.inn)[j]?.getD ⟨#[]⟩ = s.objects[j].inn by simp [hj], h1]
    simp
    omega
  unfold roundN
  rw [hst]
  simp

theorem words_fine : ∀ {l : List ByteArray}, (wordsW l).1 = 0 → ∀ w ∈ l, IsWord w
  | x :: r, h, w, hw => by
    unfold wordsW at h
    obtain ⟨h1, h2⟩ := seqW_zero h
    rcases List.mem_cons.1 hw with rfl | hw
    · by_cases hi : IsWord w
      · exact hi
      · rw [dec_false hi] at h1; exact absurd h1 (show ¬ ((9 : Int) = 0) by decide)
    · exact words_fine h2 w hw
theorem exits_fine {t : List NameD} {fs : List FuncD} {os : List ObjD} : ∀ {l seen : List ExitD}, (exitsW t fs os seen l).1 = 0 → ∀ x ∈ l, (roomW t os x.to).1 = 0
  | y :: r, seen, h, x, hx => by
    unfold exitsW at h
    obtain ⟨_, h2⟩ := seqW_zero h
    obtain ⟨h3, h4⟩ := seqW_zero h2
    rcases List.mem_cons.1 hx with rfl | hx
    · exact h3
    · exact exits_fine (seqW_zero h4).2 x hx
theorem firstBad_none {f : Int → Nat → Int × ByteArray} : ∀ {l : List (Int × Nat)}, firstBad f l = none → ∀ x ∈ l, (f x.1 x.2).1 = 0
  | y :: r, h, x, hx => by
    by_cases hz : (f y.1 y.2).1 = 0
    · rw [firstBad_fine f y r hz] at h
      rcases List.mem_cons.1 hx with rfl | hx
      · exact hz
      · exact firstBad_none h x hx
    · rw [firstBad_bad f y r hz] at h; cases h
theorem firstBad_some {f : Int → Nat → Int × ByteArray} : ∀ {l : List (Int × Nat)} {x : Int × Nat}, firstBad f l = some x → (f x.1 x.2).1 ≠ 0
  | y :: r, x, h => by
    by_cases hz : (f y.1 y.2).1 = 0
    · rw [firstBad_fine f y r hz] at h
      exact firstBad_some h
    · rw [firstBad_bad f y r hz] at h; cases h; exact hz

/-- A source whose start is a room, whose ways lead to rooms, things are in things, words are a dictionary's, and no rule makes more than 16 locals. -/
structure Sound (s : SrcD) : Prop where
  start : s.start ∈ s.rooms
  objs : ∀ o ∈ s.objects, (o.inn ≠ ⟨#[]⟩ → o.inn ∈ s.things) ∧ o.inn ≠ o.name ∧ (∀ x ∈ o.exits, x.to ∈ s.rooms) ∧ ∀ w ∈ o.words ++ o.adjs, IsWord w
  rules : ∀ r ∈ s.rules, St.locsL r.body ≤ 16 ∧ (r.noun ≠ ⟨#[]⟩ → r.noun ∈ s.things)

theorem sound_of {s : SrcD} {t : List NameD} (h : mkT s.ents namesStart = some t) (hf : firstBad (checkW t s) (pairsOf s parts6) = none) : Sound s := by
  have hall : ∀ p ∈ parts6, ∀ i < manyN s p, (checkW t s p i).1 = 0 := fun p hp i hi => firstBad_none hf (p, i) (List.mem_flatMap.2 ⟨p, hp, List.mem_map.2 ⟨i, List.mem_range.2 hi, rfl⟩⟩)
  refine ⟨room_mem h (hall 1 (by decide) 0 (by show 0 < 1; omega)), fun o ho => ?_, fun r hr => ?_⟩
  · obtain ⟨i, hi, rfl⟩ := List.getElem_of_mem ho
    have h5 := hall 5 (by decide) i hi
    have e5 : checkW t s 5 i = objW t s.funcs s.objects i s.objects[i] := by unfold checkW; rw [if_neg (by decide), if_pos rfl, List.getElem?_eq_getElem hi]
    rw [e5] at h5
    unfold objW at h5
    obtain ⟨hi1, h5⟩ := seqW_zero h5
    obtain ⟨hw1, h5⟩ := seqW_zero h5
    obtain ⟨hw2, h5⟩ := seqW_zero h5
    obtain ⟨_, h5⟩ := seqW_zero h5
    obtain ⟨_, h5⟩ := seqW_zero h5
    unfold innW at hi1
    refine ⟨fun hne => ?_, fun he => ?_, fun x hx => room_mem h (exits_fine h5 x hx), fun w hw => (List.mem_append.1 hw).elim (words_fine hw1 w) (words_fine hw2 w)⟩
    · rw [if_neg hne] at hi1
      exact thing_mem h (seqW_zero hi1).1
    · have hnm := thing_name h i hi
      by_cases hem : s.objects[i].inn = ⟨#[]⟩
      · rw [← he, hem] at hnm
        obtain ⟨h0, _⟩ := hnm
        exact absurd h0 (by decide)
      · rw [if_neg hem] at hi1
        obtain ⟨ha, hb⟩ := seqW_zero hi1
        rw [round_self h i hi he ha, if_pos rfl] at hb
        exact absurd hb (show ¬ ((18 : Int) = 0) by decide)
  · obtain ⟨i, hi, rfl⟩ := List.getElem_of_mem hr
    have h7 := hall 7 (by decide) i hi
    have e7 : checkW t s 7 i = ruleW t s.funcs s.rules[i] := by unfold checkW; rw [if_neg (by decide), if_neg (by decide), if_neg (by decide), if_pos rfl, List.getElem?_eq_getElem hi]
    rw [e7] at h7
    unfold ruleW at h7
    obtain ⟨_, h7⟩ := seqW_zero h7
    obtain ⟨hn, h7⟩ := seqW_zero h7
    obtain ⟨_, h7⟩ := seqW_zero h7
    refine ⟨by have := St.kWs_few t s.funcs 7 s.rules[i].body [] 0 h7 (by omega); omega, fun hne => ?_⟩
    unfold neW at hn
    have h1 := (seqW_zero hn).1
    rw [if_neg hne] at h1
    exact thing_mem h h1
end Go.Proofs.Ytblhpiebheommaa
