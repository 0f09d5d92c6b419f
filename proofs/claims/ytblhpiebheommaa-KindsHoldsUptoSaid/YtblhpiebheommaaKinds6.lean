/- The walk of kinds' checker.make. -/
import Derived.Test.YtblhpiebheommaaKindsHoldsPart15
namespace Go.Proofs.Ytblhpiebheommaa
open Go.RowKit

/-- The checker at block B. -/
structure Ck (F : Nat → Prop) (w : World) (B : Nat) (t : List NameD) (fs : List FuncD) (wh m : Int) (lo : Nat) (l : List ByteArray) (v : Value) : Prop where
  inn : ∀ b, F b → b < B
  ct : CkT F w B t
  cf : CkF F w B fs
  wh : w.cell? ⟨B, 15, none⟩ = some (.int .i64 wh)
  made : w.cell? ⟨B, 16, none⟩ = some (.int .i64 m)
  cl : w.cell? ⟨B, 14, none⟩ = some v
  loc : Loc B lo w l v
  z14 : w.frozen? ⟨B, 14, none⟩ = false
  z16 : w.frozen? ⟨B, 16, none⟩ = false
theorem Ck.lt {F : Nat → Prop} {w : World} {B lo : Nat} {t : List NameD} {fs : List FuncD} {wh m : Int} {l : List ByteArray} {v : Value} (h : Ck F w B t fs wh m lo l v) : B < w.heap.size := h.ct.1
theorem Ck.inw {F : Nat → Prop} {w : World} {B lo : Nat} {t : List NameD} {fs : List FuncD} {wh m : Int} {l : List ByteArray} {v : Value} (h : Ck F w B t fs wh m lo l v) : Inn F w := fun b hb => Nat.lt_trans (h.inn b hb) h.lt
theorem Ck.turn {F S : Nat → Prop} {w w' : World} {B lo lo' : Nat} {t : List NameD} {fs : List FuncD} {wh m m' : Int} {l l' : List ByteArray} {v v' : Value} (h : Ck F w B t fs wh m lo l v) (ht : Turn B S w w') (hS : ∀ k, S k → B < k) (hm : w'.cell? ⟨B, 16, none⟩ = some (.int .i64 m')) (hv : w'.cell? ⟨B, 14, none⟩ = some v') (hl : Loc B lo' w' l' v') : Ck F w' B t fs wh m' lo' l' v' := by
  have hk : ∀ b, F b → w'.heap[b]? = w.heap[b]? := fun b hb => ht.but.block b (h.inw b hb) fun hs => by
    have := h.inn b hb
    rcases hs with e | e
    · omega
    · have := hS b e; omega
  obtain ⟨t1, tv, t2, t3⟩ := h.ct
  obtain ⟨f1, fv, f2, f3⟩ := h.cf
  exact ⟨h.inn, ⟨Nat.lt_of_lt_of_le t1 ht.but.size, tv, (ht.cells 0 (by decide) (by decide)).trans t2, t3.keep hk (fun _ h => h)⟩, ⟨Nat.lt_of_lt_of_le f1 ht.but.size, fv, (ht.cells 12 (by decide) (by decide)).trans f2, f3.keep hk (fun _ h => h)⟩, (ht.cells 15 (by decide) (by decide)).trans h.wh, hm, hv, hl, (ht.frozen 14).trans h.z14, (ht.frozen 16).trans h.z16⟩
theorem Ck.below {F : Nat → Prop} {w w' : World} {B lo lo' : Nat} {t : List NameD} {fs : List FuncD} {wh m : Int} {l : List ByteArray} {v : Value} (h : Ck F w B t fs wh m lo l v) (hb : Below w.heap.size w w') (hlo : lo' ≤ lo) : Ck F w' B t fs wh m lo' l v :=
  h.turn (S := fun _ => False) (.ofBelow hb h.lt) (fun _ h => h.elim) ((hb.cell (p := ⟨B, 16, none⟩) h.lt).trans h.made) ((hb.cell (p := ⟨B, 14, none⟩) h.lt).trans h.cl) (h.loc.keep (fun g _ hg _ => hb.block g hg) hb.size hlo)

/-- The checker's locals are a slice with room for n. -/
def Held (w : World) (B n : Nat) : Prop := ∃ a k cap, w.cell? ⟨B, 14, none⟩ = some (.slice a k cap) ∧ n ≤ cap
theorem Ck.held {F : Nat → Prop} {w : World} {B lo : Nat} {t : List NameD} {fs : List FuncD} {wh m : Int} {l : List ByteArray} {v : Value} (h : Ck F w B t fs wh m lo l v) : Held w B l.length := by
  obtain ⟨a, cap, e, hc⟩ := h.loc.shape
  exact ⟨a, _, cap, by rw [h.cl, e], hc⟩

/-- A post: where nothing is wrong the call ends well and R holds; else what is wrong is thrown; the checker has turned. -/
def PostW (B : Nat) (S : Nat → Prop) (w : World) (p : Int × ByteArray) (n : Nat) (R : World → Prop) (e : Ending) (w' : World) : Prop :=
  (p.1 = 0 → e = .returned (.tuple #[]) ∧ R w') ∧ (p.1 ≠ 0 → e = .panicked [{ v := wrongV p.1 p.2, recovered := false }] ∧ Held w' B n) ∧ Turn B S w w'
theorem post_ok {P : Program} {k : Nat} {args : Array Value} {B n : Nat} {S : Nat → Prop} {w : World} {p : Int × ByteArray} {R : World → Prop} (h : Calls P k args w (PostW B S w p n R)) (hp : p.1 = 0) : Calls P k args w fun e w' => e = .returned (.tuple #[]) ∧ R w' ∧ Turn B S w w' := h.mono fun _ _ ⟨h1, _, h3⟩ => ⟨(h1 hp).1, (h1 hp).2, h3⟩
theorem post_bad {P : Program} {k : Nat} {args : Array Value} {B n : Nat} {S : Nat → Prop} {w : World} {p : Int × ByteArray} {R : World → Prop} (h : Calls P k args w (PostW B S w p n R)) (hp : p.1 ≠ 0) : Calls P k args w fun e w' => e = .panicked [{ v := .iface 106 (.agg #[.int .i64 p.1, .string p.2]), recovered := false }] ∧ Held w' B n ∧ Turn B S w w' := h.mono fun _ _ ⟨_, h2, h3⟩ => ⟨(h2 hp).1, (h2 hp).2, h3⟩
theorem PostW.fine {B n : Nat} {S : Nat → Prop} {w w' : World} {p : Int × ByteArray} {R : World → Prop} {e : Ending} (hp : p.1 = 0) (he : e = .returned (.tuple #[])) (hR : R w') (ht : Turn B S w w') : PostW B S w p n R e w' := ⟨fun _ => ⟨he, hR⟩, fun h => absurd hp h, ht⟩
theorem PostW.thrown {B n : Nat} {S : Nat → Prop} {w w' : World} {p : Int × ByteArray} {R : World → Prop} {e : Ending} {er : Int} {nm : ByteArray} (hp : p = (er, nm)) (h0 : er ≠ 0) (he : e = .panicked [{ v := .iface 106 (.agg #[.int .i64 er, .string nm]), recovered := false }]) (hh : Held w' B n) (ht : Turn B S w w') : PostW B S w p n R e w' := by
  subst hp; exact ⟨fun h => absurd h h0, fun _ => ⟨he, hh⟩, ht⟩
theorem Held.below {w w' : World} {B n : Nat} (h : Held w B n) (hb : Below w.heap.size w w') (hB : B < w.heap.size) : Held w' B n := by
  obtain ⟨a, k, cap, h1, h2⟩ := h
  exact ⟨a, k, cap, (hb.cell (p := ⟨B, 14, none⟩) hB).trans h1, h2⟩

/-- What is wrong with the name of new locals; made: how many there are with them. -/
noncomputable def freshW (t : List NameD) (l : List ByteArray) (n : ByteArray) (made : Int) : Int × ByteArray :=
  if ((findN t n).isSome || dec (n ∈ l)) = true then (10, n) else if 16 < made then (7, n) else fineW

/-- The blocks that the walks read: those that came in, and the checker's own. -/
def FB (F : Nat → Prop) (w : World) (B : Nat) (b : Nat) : Prop := F b ∨ (B < b ∧ b < w.heap.size)
theorem Ck.ckl {F : Nat → Prop} {w : World} {B lo : Nat} {t : List NameD} {fs : List FuncD} {wh m : Int} {l : List ByteArray} {v : Value} (h : Ck F w B t fs wh m lo l v) : CkL (FB F w B) w B l := ⟨h.lt, v, h.cl, h.loc.rd fun _ h1 h2 => .inr ⟨h1, h2⟩⟩
theorem Ck.ckt {F : Nat → Prop} {w : World} {B lo : Nat} {t : List NameD} {fs : List FuncD} {wh m : Int} {l : List ByteArray} {v : Value} (h : Ck F w B t fs wh m lo l v) : CkT (FB F w B) w B t := let ⟨h1, v, h2, h3⟩ := h.ct; ⟨h1, v, h2, h3.keep (fun _ _ => rfl) (fun _ h => .inl h)⟩
theorem Ck.ckf {F : Nat → Prop} {w : World} {B lo : Nat} {t : List NameD} {fs : List FuncD} {wh m : Int} {l : List ByteArray} {v : Value} (h : Ck F w B t fs wh m lo l v) : CkF (FB F w B) w B fs := let ⟨h1, v, h2, h3⟩ := h.cf; ⟨h1, v, h2, h3.keep (fun _ _ => rfl) (fun _ h => .inl h)⟩
theorem Ck.fin {F : Nat → Prop} {w : World} {B lo : Nat} {t : List NameD} {fs : List FuncD} {wh m : Int} {l : List ByteArray} {v : Value} (h : Ck F w B t fs wh m lo l v) : Inn (FB F w B) w := fun b hb => hb.elim (h.inw b) (·.2)

set_option maxRecDepth 20000 in
set_option maxHeartbeats 2000000 in
theorem make_calls (t : List NameD) (fs : List FuncD) (l : List ByteArray) (n : ByteArray) (wh m many : Int) (F : Nat → Prop) (w : World) (B lo : Nat) (v : Value) (h : Ck F w B t fs wh m lo l v) (hri : Rises t) (ht : t.length ≤ 1000000000000) (hm0 : 0 ≤ m) (hm1 : m ≤ 16) (hq0 : 1 ≤ many) (hq1 : many ≤ 2) :
    Calls Try.prog 79 #[.pointer (some ⟨B, 0, none⟩), .string n, .int .i64 many] w (PostW B (fun _ => False) w (freshW t l n (m + many)) l.length (fun w' => w'.cell? ⟨B, 14, none⟩ = some v ∧ w'.cell? ⟨B, 16, none⟩ = some (.int .i64 (m + many)))) := by
  have hlt := h.lt
  have hlc := local_calls l n _ w B h.ckl
  obtain ⟨-, tv, htv, htr⟩ := h.ct
  have hfd := findT_calls t n F w tv h.inw htr hri ht
  obtain ⟨a, cap, rfl⟩ := htr.shape
  have hheld := Lib.hid h.held
  have hcl := h.cl
  have hmd := h.made
  have hz := h.z16
  have hlt' := Lib.hid hlt
  unfold freshW
  cases ho : findN t n with
  | some x =>
    rw [ho] at hfd
    have HD := Lib.hid (found_some hfd)
    rw [if_pos (by simp)]
    clear ho hfd htr hri hlc h hmd hz hcl hm0 hm1 hq0 hq1
    go_enter Try.func79, Try.ntmps79
    go_wp2_with (go_at_call 75; refine HD.out.mono ?_; rintro e w1 ⟨rfl, hb⟩)
    have hb1 := hb.alloc hb.size (.cells #[.string x.name, .int .i64 x.kind, .int .i64 x.num] 63)
    exact ⟨rfl, PostW.thrown rfl (by decide) rfl (hheld.out.below hb1 hlt'.out) (.ofBelow hb1 hlt'.out)⟩
  | none =>
    rw [ho] at hfd
    have HD := Lib.hid (found_none hfd)
    clear ho hfd htr hri
    have hlc1 : ∀ o W, Below w.heap.size w W → Calls Try.prog 74 #[.pointer (some ⟨B, 0, none⟩), .string n] (W.alloc o) (Same0 (W.alloc o) (.bool (dec (n ∈ l)))) := fun o W hW => local_calls l n _ _ B (h.ckl.below h.fin (hW.alloc hW.size o))
    by_cases hm : n ∈ l
    · rw [dec_true hm] at hlc1
      rw [if_pos (by simp [dec_true hm])]
      have HL := Lib.hid hlc1
      clear hlc hlc1 hm h hmd hz hcl hm0 hm1 hq0 hq1
      go_enter Try.func79, Try.ntmps79
      go_wp2_with (first | (go_at_call 75; refine HD.out.mono ?_; rintro e w1 ⟨rfl, hb⟩) | (go_at_call 74; refine (HL.out _ _ hb).mono ?_; rintro e w2 ⟨rfl, rfl⟩))
      have hb1 := hb.alloc hb.size (.cells #[.string ⟨#[]⟩, .int .i64 0, .int .i64 0] 63)
      exact ⟨rfl, PostW.thrown rfl (by decide) rfl (hheld.out.below hb1 hlt'.out) (.ofBelow hb1 hlt'.out)⟩
    · rw [dec_false hm] at hlc1
      rw [if_neg (by simp [dec_false hm])]
      have HL := Lib.hid hlc1
      clear hlc hlc1 hm h
      have hread : ∀ W, Below w.heap.size w W → W.cell? ⟨B, 16, none⟩ = some (.int .i64 m) ∧ W.frozen? ⟨B, 16, none⟩ = false ∧ W.cell? ⟨B, 14, none⟩ = some v := fun W hW => ⟨(hW.cell (p := ⟨B, 16, none⟩) hlt).trans hmd, (hW.frozen (p := ⟨B, 16, none⟩) hlt).trans hz, (hW.cell (p := ⟨B, 14, none⟩) hlt).trans hcl⟩
      have HR := Lib.hid hread
      clear hread hz hcl hlt hmd
      have hwr : IntKind.i64.wrap (m + many) = m + many := by rw [IntKind.wrap_i64]; omega
      by_cases hbig : 16 < m + many
      · rw [if_pos hbig]
        have hbg : decide (m + many > 16) = true := by simpa using hbig
        go_enter Try.func79, Try.ntmps79
        go_wp2_with (first | (go_at_call 75; refine HD.out.mono ?_; rintro e w1 ⟨rfl, hb⟩) | (go_at_call 74; refine (HL.out _ _ hb).mono ?_; rintro e w2 ⟨rfl, rfl⟩; obtain ⟨r0, r1, r2⟩ := HR.out _ (hb.alloc hb.size (.cells #[.string ⟨#[]⟩, .int .i64 0, .int .i64 0] 63))))
        have hb1 := hb.alloc hb.size (.cells #[.string ⟨#[]⟩, .int .i64 0, .int .i64 0] 63)
        refine ⟨rfl, PostW.thrown rfl (by decide) rfl ?_ ((Turn.ofBelow hb1 hlt'.out).store (.inr rfl) _)⟩
        obtain ⟨a', k', cap', q1, q2⟩ := hheld.out.below hb1 hlt'.out
        exact ⟨a', k', cap', by rw [cell_other _ _ _ _ (by simp)]; exact q1, q2⟩
      · rw [if_neg hbig]
        have hbg : decide (m + many > 16) = false := by simpa using hbig
        go_enter Try.func79, Try.ntmps79
        go_wp2_with (first | (go_at_call 75; refine HD.out.mono ?_; rintro e w1 ⟨rfl, hb⟩) | (go_at_call 74; refine (HL.out _ _ hb).mono ?_; rintro e w2 ⟨rfl, rfl⟩; obtain ⟨r0, r1, r2⟩ := HR.out _ (hb.alloc hb.size (.cells #[.string ⟨#[]⟩, .int .i64 0, .int .i64 0] 63))))
        have hb1 := hb.alloc hb.size (.cells #[.string ⟨#[]⟩, .int .i64 0, .int .i64 0] 63)
        go_end0
        refine PostW.fine rfl rfl ⟨?_, ?_⟩ ((Turn.ofBelow hb1 hlt'.out).store (.inr rfl) _)
        · rw [cell_other _ _ _ _ (by simp)]; exact r2
        · exact World.cell?_setCell_same' _ _ _ (by rw [r0]; rfl)
end Go.Proofs.Ytblhpiebheommaa
