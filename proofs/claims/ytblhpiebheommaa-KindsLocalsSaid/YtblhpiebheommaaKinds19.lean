/- The walk of clewlaw16.awake: chapter 16's examples hold. -/
import Derived.Test.YtblhpiebheommaaKinds18
namespace Go.Proofs.Ytblhpiebheommaa
open Go.RowKit Go.Sort

/-- What the example has built. -/
structure AwK (w W : World) (b1 bo : Nat) (tv : Value) (ss : List Value) : Prop where
  bel : Below w.heap.size w W
  box : BoxAt W b1 ss
  one : BoxAt W bo [.int .i64 1, .int .i64 0, .int .i64 1, .string ⟨#[]⟩, .slice none 0 0]
  tab : RdNames (fun b => b < W.heap.size) W exT tv
  src : Holds.src.R (fun b => b < W.heap.size) W exS ss
theorem AwK.below {w W W' : World} {b1 bo : Nat} {tv : Value} {ss : List Value} (h : AwK w W b1 bo tv ss) (hb : Below W.heap.size W W') : AwK w W' b1 bo tv ss :=
  ⟨h.bel.trans (hb.mono h.bel.size), h.box.below hb h.box.1, h.one.below hb h.one.1, h.tab.keep (fun b hb' => hb.block b hb') (fun _ hb' => Nat.lt_of_lt_of_le hb' hb.size), Holds.src.keep (fun b hb' => hb.block b hb') (fun _ hb' => Nat.lt_of_lt_of_le hb' hb.size) h.src⟩
theorem AwK.exs {w W : World} {b1 bo : Nat} {tv : Value} {ss : List Value} (h : AwK w W b1 bo tv ss) : Exs (fun b => b < W.heap.size) W [exOne] (.slice (some ⟨bo, 0, none⟩) 1 1) := exs_one (F := fun b => b < W.heap.size) (w := W) (b := bo) (hF := h.one.1) (fun j hj => h.one.2 j hj) (rd_ex (i64 1) (i64 0) (i64 1) (Nat.zero_le _) (exs_nil _ _))

theorem gives_wrong {P : Program} {k : Nat} {args : Array Value} {W : World} {p : Int × ByteArray} {er : Int} {n : ByteArray} (h : Calls P k args W (GivesWrong W p)) (hp : p = (er, n)) (h0 : er ≠ 0) : Calls P k args W (Gives W (.tuple #[.int .i64 er, .string n])) :=
  h.mono fun e w' ⟨nm, h1, _, h3, h4⟩ => by
    subst hp
    have := h3 h0
    subst this
    exact ⟨h1, h4⟩

theorem aw_expr {w W : World} {b1 bo : Nat} {tv : Value} {ss : List Value} (h : AwK w W b1 bo tv ss) (n : ByteArray) (er : Int) (hn : n.size ≤ maxLen) (hk : (exName n).kW exT [] [] = (er, n)) (h0 : er ≠ 0) :
    Calls Try.prog 11 #[tv, .agg ss.toArray, .slice none 0 0, .agg #[.int .i64 3, .int .i64 0, .int .i64 0, .string n, .slice none 0 0]] W (Gives W (.tuple #[.int .i64 er, .string n])) :=
  gives_wrong (kExpr_calls exT exS [] (exName n) (fun b => b < W.heap.size) W tv (.slice none 0 0) ss [.int .i64 3, .int .i64 0, .int .i64 0, .string n, .slice none 0 0] (fun _ h => h) exT_rises (by rw [exT_len]; decide) exT_tab h.tab h.src (RdL.nil _ _ _ _ _ _ (Nat.zero_le _)) (rd_ex (i64 3) (i64 0) (i64 0) hn (exs_nil _ _))) hk h0

theorem aw_block {w W : World} {b1 bo : Nat} {tv : Value} {ss : List Value} (h : AwK w W b1 bo tv ss) (wh : Int) (L : List St) (Lv : Value) (n : ByteArray) (er : Int) (hL : Sts (fun b => b < W.heap.size) W L Lv) (hk : St.kWs exT [] wh [] 0 L = (er, n)) (h0 : er ≠ 0) :
    Calls Try.prog 15 #[tv, .agg ss.toArray, .slice none 0 0, .int .i64 wh, Lv] W (Gives W (.tuple #[.int .i64 er, .string n])) :=
  gives_wrong (kBlock_calls exT exS [] wh L (fun b => b < W.heap.size) W tv (.slice none 0 0) Lv ss (fun _ h => h) exT_rises (by rw [exT_len]; decide) exT_tab (by simp) h.tab h.src (RdL.nil _ _ _ _ _ _ (Nat.zero_le _)) hL) hk h0

theorem aw_check {w W : World} {b1 bo : Nat} {tv : Value} {ss : List Value} (h : AwK w W b1 bo tv ss) :
    Calls Try.prog 20 #[.agg ss.toArray, tv] W (Gives W (.agg #[.int .i64 0, .int .i64 0, .int .i64 0, .string ⟨#[]⟩])) := by
  have hF : Inn (fun b => b < W.heap.size) W := fun _ h => h
  have := kCheck_calls exT exS (fun _ _ => fineW) (fun b => b < W.heap.size) W tv ss hF h.tab h.src (fun p i W' hp hi hW => by
    have hT := RdL.below h.tab hF hW (Nat.le_refl _)
    have hS := Holds.below _ h.src hF hW (Nat.le_refl _)
    have hI := hF.below hW
    simp only [parts6, List.mem_cons, List.not_mem_nil, or_false] at hp
    rcases hp with rfl | rfl | rfl | rfl | rfl | rfl
    · refine chk1_calls exT exS i fineW _ W' tv ss hT hS fun W2 hW2 => ?_
      have := room_calls exT exS bHall _ W2 tv ss (hI.below hW2) exT_rises (by rw [exT_len]; decide) exT_tab (RdL.below hT hI hW2 (Nat.le_refl _)) (Holds.below _ hS hI hW2 (Nat.le_refl _))
      rw [show exS.objects = [exO] from rfl, ex_room] at this
      exact this
    · refine chk5_calls exT exS i fineW _ W' tv ss hT hS fun W2 hW2 => ?_
      have hi1 : i < 1 := hi
      obtain rfl : i = 0 := by omega
      exact obare_calls exT exS 0 _ W2 tv ss (hI.below hW2) (RdL.below hT hI hW2 (Nat.le_refl _)) (Holds.below _ hS hI hW2 (Nat.le_refl _)) (by decide) ⟨rfl, rfl, rfl, rfl, rfl, rfl⟩
    · exact absurd hi (Nat.not_lt_zero _)
    · exact absurd hi (Nat.not_lt_zero _)
    · exact absurd hi (Nat.not_lt_zero _)
    · exact absurd hi (Nat.not_lt_zero _))
  exact this

theorem aw_locs {W : World} (Lv : Value) (hL : Sts (fun b => b < W.heap.size) W [exEach] Lv) :
    Calls Try.prog 17 #[Lv] W (Gives W (.int .i64 3)) := by
  have := locsT_calls [exEach] (fun b => b < W.heap.size) W Lv (fun _ h => h) (by decide) hL
  rwa [ex_locs] at this
end Go.Proofs.Ytblhpiebheommaa
