/- The walk of kinds' checker.itself. Printed by XKinds7.py. -/
import Derived.Test.YtblhpiebheommaaGreatKindsChecksPart12
namespace Go.Proofs.YtblhpiebheommaaGreat
open Go.RowKit

/-- What is wrong with a statement itself; m: how many locals there were ahead of it. -/
noncomputable def ownSt (t : List NameD) (l : List ByteArray) (wh m k : Int) (n : ByteArray) : Int × ByteArray :=
  if k = 2 then freshW t l n (m + 1) else if k = 11 then freshW t l n (m + 2) else if k = 3 then eitherW t l [3] n else if k = 4 then ofW t 2 n else if k = 5 then ofW t 1 n else if k = 6 then ofW t 1 n
  else if k = 17 then ofW t 7 n else if k = 18 then ofW t 7 n else if k = 13 then (if wh = 7 then fineW else (18, ⟨#[]⟩)) else if k = 12 then (if wh = 8 then fineW else (18, ⟨#[]⟩)) else fineW
def addS (k : Int) : Int := if k = 2 then 1 else if k = 11 then 2 else 0
def locS (k : Int) (l : List ByteArray) (n : ByteArray) : List ByteArray := if k = 2 then l ++ [n] else l

/-- One more local, at the store into the checker. -/
theorem let_step {F : Nat → Prop} {w : World} {B lo : Nat} {t : List NameD} {fs : List FuncD} {wh m : Int} {l : List ByteArray} {v : Value} (h : Ck F w B t fs wh m lo l v) (x : ByteArray) (hx : x.size ≤ maxLen) (hlo : lo ≤ w.heap.size) (hl : l.length ≤ 1000000) :
    ∃ v' w2, (Builtin.append_ #[22, 22] 22 #[v, .slice (some ⟨w.heap.size, 0, none⟩) 1 1]).run Tryz.prog (w.drew.alloc (.cells #[.string x] 9)) = .ok v' w2 ∧ w2.cell? ⟨B, 14, none⟩ = some v ∧ w2.frozen? ⟨B, 14, none⟩ = false ∧
      Ck F (w2.setCell ⟨B, 14, none⟩ v') B t fs wh m lo (l ++ [x]) v' ∧ Turn B (fun b => v.ownBlock = some b ∧ lo ≤ b ∧ B < b) w (w2.setCell ⟨B, 14, none⟩ v') ∧ (∀ g, v'.ownBlock = some g → lo ≤ g) := by
  have hbl : Below w.heap.size w (w.drew.alloc (.cells #[.string x] 9)) := (Below.refl _ w).drew.alloc (Nat.le_refl _) _
  have hwx : (w.drew.alloc (.cells #[.string x] 9)).cell? ⟨w.heap.size, 0, none⟩ = some (.string x) := bx_new w.drew [.string x] 9 _ rfl 0 (by simp)
  have hcx := h.below hbl (Nat.le_refl _)
  obtain ⟨v', w2, hrun, hl2, hb2, hwh2⟩ := loc_one hcx.loc x hx ⟨w.heap.size, 0, none⟩ hwx hcx.lt (Nat.le_trans hlo hbl.size) hl 22
  have hB2 : w2.heap[B]? = (w.drew.alloc (.cells #[.string x] 9)).heap[B]? := hb2.block B hcx.lt fun hs => absurd hs.2.2 (Nat.lt_irrefl _)
  have hT : Turn B (fun b => v.ownBlock = some b ∧ lo ≤ b ∧ B < b) w w2 := (Turn.ofBelow hbl h.lt).trans ⟨hb2.mono fun k _ hk => .inr hk, fun j _ _ => World.cell?_of_block (a := ⟨B, j, none⟩) hB2, fun j => World.frozen?_of_block (a := ⟨B, j, none⟩) hB2⟩
  have h14 : w2.cell? ⟨B, 14, none⟩ = some v := (World.cell?_of_block (a := ⟨B, 14, none⟩) hB2).trans hcx.cl
  have h16 : w2.cell? ⟨B, 16, none⟩ = some (.int .i64 m) := (World.cell?_of_block (a := ⟨B, 16, none⟩) hB2).trans hcx.made
  have hT2 := hT.store (j := 14) (.inl rfl) v'
  refine ⟨v', w2, hrun, h14, (hT.frozen 14).trans h.z14, h.turn hT2 (fun k hk => hk.2.2) ?_ ?_ ?_, hT2, hwh2⟩
  · rw [cell_other _ _ _ _ (by simp)]; exact h16
  · exact World.cell?_setCell_same' _ _ _ (by rw [h14]; rfl)
  · exact hl2.keep (fun g _ _ hg => Below.heap_setCell _ _ _ g (Nat.ne_of_gt hg)) (by simp) (Nat.le_refl _)

set_option maxRecDepth 20000 in
set_option maxHeartbeats 4000000 in
theorem itself_calls (t : List NameD) (fs : List FuncD) (l : List ByteArray) (s : St) (wh m : Int) (F : Nat → Prop) (w : World) (B lo : Nat) (v : Value) (cs : List Value) (h : Ck F w B t fs wh m lo l v) (hr : RdSt F w s cs) (hri : Rises t) (ht : t.length ≤ 1000000000000) (hm0 : 0 ≤ m) (hm1 : m ≤ 16) (hll : l.length ≤ 1000000) (hlo : lo ≤ w.heap.size) :
    Calls Tryz.prog 68 #[.pointer (some ⟨B, 0, none⟩), .agg cs.toArray] w (PostW B (fun b => v.ownBlock = some b ∧ lo ≤ b ∧ B < b) w (ownSt t l wh m s.kind s.name) l.length (fun w' => ∃ v', Ck F w' B t fs wh (m + addS s.kind) lo (locS s.kind l s.name) v' ∧ Whence v l.length lo v' (locS s.kind l s.name))) := by
  obtain ⟨k, n', s', a', m', cap', a2, m2, cap2, a3, m3, cap3, rfl⟩ := hr.shape
  have hnm : s'.size ≤ maxLen ∧ s.kind = k ∧ s.name = s' := ⟨hr.parts.2.2.2.2.2.1, hr.parts.1, hr.parts.2.2.1⟩
  obtain ⟨hsz, hk, hn⟩ := hnm
  rw [hk, hn]
  clear hk hn
  have hB0 : ∀ o, Below w.heap.size w (w.alloc o) := fun o => (Below.refl _ w).alloc (Nat.le_refl _) o
  have HB := Lib.hid hB0
  have hlt := h.lt
  have HLT := Lib.hid hlt
  have HO := Lib.hid (fun kind W (hW : Below w.heap.size w W) => of_calls t kind s' _ W B (h.inw.below hW) (h.ct.below h.inw hW) hri ht)
  have HM := Lib.hid (fun many W (hW : Below w.heap.size w W) (h1 : 1 ≤ many) (h2 : many ≤ 2) => make_calls t fs l s' wh m many F W B lo v (h.below hW (Nat.le_refl _)) hri ht hm0 hm1 h1 h2)
  have HS := Lib.hid (fun (W : World) (hW : Below w.heap.size w W) (q : Nat) (hq : q = W.heap.size) => stands_calls t l [3] s' (FB F w B) (fun b => b = W.heap.size) (W.alloc (.cells #[.int .i64 3] 3)) B (.slice (some ⟨q, 0, none⟩) 1 1) (h.fin.below (hW.alloc hW.size _)) (h.ckt.below h.fin (hW.alloc hW.size _)) (h.ckl.below h.fin (hW.alloc hW.size _)) (fun b hb => by subst hb; simp) (by subst hq; exact built_ints W [3] (by simp) (by simp [I64])) hri ht)
  have HC := Lib.hid h
  have HH := Lib.hid h.held
  have hwh := h.wh
  have hcl := h.cl
  have hz := h.z14
  have hfin := Lib.hid (fun (W : World) (hW : Below w.heap.size w W) (hk : addS k = 0) (hk2 : locS k l s' = l) (hp : (ownSt t l wh m k s').1 = 0) => (PostW.fine (e := .returned (.tuple #[])) (n := l.length) (S := fun b => v.ownBlock = some b ∧ lo ≤ b ∧ B < b) (R := fun w' => ∃ v', Ck F w' B t fs wh (m + addS k) lo (locS k l s') v' ∧ Whence v l.length lo v' (locS k l s')) hp rfl ⟨v, by rw [hk, hk2, Int.add_zero]; exact ⟨h.below hW (Nat.le_refl _), Whence.refl _ _ _⟩⟩ (Turn.ofBelow hW hlt)))
  have hthr := Lib.hid (fun (W : World) (hW : Below w.heap.size w W) (er : Int) (nm : ByteArray) (hp : ownSt t l wh m k s' = (er, nm)) (h0 : er ≠ 0) => (PostW.thrown (S := fun b => v.ownBlock = some b ∧ lo ≤ b ∧ B < b) (R := fun w' => ∃ v', Ck F w' B t fs wh (m + addS k) lo (locS k l s') v' ∧ Whence v l.length lo v' (locS k l s')) hp h0 rfl (h.held.below hW hlt) (Turn.ofBelow hW hlt)))
  clear h hr hri
  by_cases h2 : k = 2
  · subst h2
    have how : Hid (ownSt t l wh m 2 s' = freshW t l s' (m + 1)) := rfl
    by_cases hz0 : (freshW t l s' (m + 1)).1 = 0
    · have HK := Lib.hid (post_ok (HM.out 1 _ (HB.out (.cells #[.int .i64 2, .int .i64 n', .string s', .slice a' m' cap', .slice a2 m2 cap2, .slice a3 m3 cap3] 60)) (by decide) (by decide)) hz0)
      have HZ : Hid ((ownSt t l wh m 2 s').1 = 0) := by show _ = _; rw [how.out]; exact hz0
      have hlo2 := Lib.hid hlo
      have hll2 := Lib.hid hll
      have hsz2 := Lib.hid hsz
      have HX := Lib.hid (bx_new w [.int .i64 2, .int .i64 n', .string s', .slice a' m' cap', .slice a2 m2 cap2, .slice a3 m3 cap3] 60 _ rfl 2 (by simp))
      have hHT : Hid (∀ w1 : World, Turn B (fun _ => False) (w.alloc (.cells #[.int .i64 2, .int .i64 n', .string s', .slice a' m' cap', .slice a2 m2 cap2, .slice a3 m3 cap3] 60)) w1 → w1.cell? ⟨B, 14, none⟩ = some v → w1.cell? ⟨B, 16, none⟩ = some (.int .i64 (m + 1)) → Ck F w1 B t fs wh (m + 1) lo l v ∧ Turn B (fun _ => False) w w1 ∧ w1.cell? ⟨w.heap.size, 2, none⟩ = some (.string s')) := fun w1 htn hv14 hv16 => by
        have hT : Turn B (fun _ => False) w w1 := (Turn.ofBelow (HB.out _) HLT.out).trans htn
        refine ⟨HC.out.turn hT (fun _ h => h.elim) hv16 hv14 (HC.out.loc.keep (fun g _ hgl hgB => hT.but.block g hgl (by rintro (e | e); exact absurd e (Nat.ne_of_gt hgB); exact e)) hT.but.size (Nat.le_refl _)), hT, ?_⟩
        rw [World.cell?_of_block (w := (w.alloc (.cells #[.int .i64 2, .int .i64 n', .string s', .slice a' m' cap', .slice a2 m2 cap2, .slice a3 m3 cap3] 60))) (a := ⟨w.heap.size, 2, none⟩) (htn.but.block w.heap.size (by simp) (by rintro (e | e); exact absurd e (Nat.ne_of_gt HLT.out); exact e))]
        exact HX.out
      clear hz0 hfin hthr hlo hll hsz hm0 hm1 hz hcl hwh how hlt
      go_enter Tryz.func68, Tryz.ntmps68
      go_wp2_with (go_at_call 89; refine (HK.out).mono ?_; rintro e w1 ⟨rfl, ⟨hv14, hv16⟩, htn⟩)
      obtain ⟨hC1, hT1, hw0⟩ := hHT.out w1 htn hv14 hv16
      obtain ⟨v', w2, hrun, h14, hz2, hC2, hT2, hwn⟩ := let_step hC1 s' hsz2.out (Nat.le_trans hlo2.out hT1.but.size) hll2.out
      obtain ⟨va, vc, hvv, -⟩ := hC2.loc.shape
      rw [List.length_append] at hvv
      subst hvv
      have HC2 := Lib.hid hC2
      have HWN := Lib.hid hwn
      clear hwn
      have HT2 := Lib.hid (hT1.mono (T := fun b => v.ownBlock = some b ∧ lo ≤ b ∧ B < b) (fun _ _ h => h.elim) |>.trans hT2)
      have hv14b : (w1.alloc (.cells #[.string s'] 9)).cell? ⟨B, 14, none⟩ = some v := (World.cell?_of_block (w := w1) (a := ⟨B, 14, none⟩) (Below.heap_alloc w1 _ B hC1.lt)).trans hv14
      have hw0b : (w1.alloc (.cells #[.string s'] 9)).cell? ⟨w.heap.size, 2, none⟩ = some (.string s') := (World.cell?_of_block (w := w1) (a := ⟨w.heap.size, 2, none⟩) (Below.heap_alloc w1 _ _ (World.block_lt_of_cell? w1 ⟨w.heap.size, 2, none⟩ hw0))).trans hw0
      have HR := Lib.hid hrun
      clear hC2 hT2 hC1 hT1 hv16 htn hrun
      go_region_law (refine step_run rfl _ _ 22 rfl _ _ _ w2 rfl rfl HR.out ?_)
      all_goals (go_wp2_with fail; go_end0; exact PostW.fine HZ.out rfl ⟨_, HC2.out, .inr HWN.out⟩ HT2.out)
    · have HK := Lib.hid (post_bad (HM.out 1 _ (HB.out (.cells #[.int .i64 2, .int .i64 n', .string s', .slice a' m' cap', .slice a2 m2 cap2, .slice a3 m3 cap3] 60)) (by decide) (by decide)) hz0)
      have HZ := Lib.hid hz0
      have HP : Hid (ownSt t l wh m 2 s' = ((freshW t l s' (m + 1)).1, (freshW t l s' (m + 1)).2)) := how
      generalize freshW t l s' (m + 1) = p at HK HP HZ
      clear hz0 hfin hthr how
      go_enter Tryz.func68, Tryz.ntmps68
      go_wp2_with (go_at_call 89; refine (HK.out).mono ?_; rintro e w1 ⟨rfl, hh, htn⟩)
      exact ⟨rfl, PostW.thrown HP.out HZ.out rfl hh ((Turn.ofBelow (HB.out _) HLT.out).trans (htn.mono fun _ _ h => h.elim))⟩
  have e2 : (k == 2) = false := by simpa using h2
  by_cases h11 : k = 11
  · subst h11
    have how : Hid (ownSt t l wh m 11 s' = freshW t l s' (m + 2)) := rfl
    by_cases hz0 : (freshW t l s' (m + 2)).1 = 0
    · have HK := Lib.hid (post_ok (HM.out 2 _ (HB.out (.cells #[.int .i64 11, .int .i64 n', .string s', .slice a' m' cap', .slice a2 m2 cap2, .slice a3 m3 cap3] 60)) (by decide) (by decide)) hz0)
      have HZ : Hid ((ownSt t l wh m 11 s').1 = 0) := by show _ = _; rw [how.out]; exact hz0
      clear hz0 hfin hthr
      go_enter Tryz.func68, Tryz.ntmps68
      go_wp2_with (go_at_call 89; refine (HK.out).mono ?_; rintro e w1 ⟨rfl, ⟨hv14, hv16⟩, htn⟩)
      go_end0
      have hT : Turn B (fun _ => False) w w1 := (Turn.ofBelow (HB.out _) HLT.out).trans htn
      exact PostW.fine HZ.out rfl ⟨v, HC.out.turn hT (fun _ h => h.elim) hv16 hv14 (HC.out.loc.keep (fun g _ hgl hgB => hT.but.block g hgl (by rintro (e | e); exact absurd e (Nat.ne_of_gt hgB); exact e)) hT.but.size (Nat.le_refl _)), Whence.refl _ _ _⟩ (hT.mono fun _ _ h => h.elim)
    · have HK := Lib.hid (post_bad (HM.out 2 _ (HB.out (.cells #[.int .i64 11, .int .i64 n', .string s', .slice a' m' cap', .slice a2 m2 cap2, .slice a3 m3 cap3] 60)) (by decide) (by decide)) hz0)
      have HZ := Lib.hid hz0
      have HP : Hid (ownSt t l wh m 11 s' = ((freshW t l s' (m + 2)).1, (freshW t l s' (m + 2)).2)) := how
      generalize freshW t l s' (m + 2) = p at HK HP HZ
      clear hz0 hfin hthr how
      go_enter Tryz.func68, Tryz.ntmps68
      go_wp2_with (go_at_call 89; refine (HK.out).mono ?_; rintro e w1 ⟨rfl, hh, htn⟩)
      exact ⟨rfl, PostW.thrown HP.out HZ.out rfl hh ((Turn.ofBelow (HB.out _) HLT.out).trans (htn.mono fun _ _ h => h.elim))⟩
  have e11 : (k == 11) = false := by simpa using h11
  by_cases h3 : k = 3
  · subst h3
    have how : Hid (ownSt t l wh m 3 s' = eitherW t l [3] s') := rfl
    by_cases hz0 : (eitherW t l [3] s').1 = 0
    · have HQ := Lib.hid (fun W hW => hfin.out W hW rfl rfl (by rw [how.out]; exact hz0))
      have HK := Lib.hid (judged_ok (HS.out _ (HB.out (.cells #[.int .i64 3, .int .i64 n', .string s', .slice a' m' cap', .slice a2 m2 cap2, .slice a3 m3 cap3] 60)) (w.heap.size + 1) (by simp)) hz0)
      clear hz0 how hfin hthr
      go_enter Tryz.func68, Tryz.ntmps68
      go_wp2_with (go_at_call 65; refine (HK.out).mono ?_; rintro e w1 ⟨rfl, hb⟩)
      go_end0
      exact HQ.out _ (below_on1 (HB.out _) (Nat.le_refl _) hb)
    · have HQ := Lib.hid (fun W hW => hthr.out W hW (eitherW t l [3] s').1 (eitherW t l [3] s').2 how.out hz0)
      have HK := Lib.hid (judged_bad (HS.out _ (HB.out (.cells #[.int .i64 3, .int .i64 n', .string s', .slice a' m' cap', .slice a2 m2 cap2, .slice a3 m3 cap3] 60)) (w.heap.size + 1) (by simp)) hz0)
      clear hz0 how hfin hthr
      generalize eitherW t l [3] s' = p at HK HQ
      go_enter Tryz.func68, Tryz.ntmps68
      go_wp2_with (go_at_call 65; refine (HK.out).mono ?_; rintro e w1 ⟨rfl, hb⟩)
      exact ⟨rfl, HQ.out _ (below_on1 (HB.out _) (Nat.le_refl _) hb)⟩
  have e3 : (k == 3) = false := by simpa using h3
  by_cases h4 : k = 4
  · subst h4
    have how : Hid (ownSt t l wh m 4 s' = ofW t 2 s') := rfl
    by_cases hz0 : (ofW t 2 s').1 = 0
    · have HQ := Lib.hid (fun W hW => hfin.out W hW rfl rfl (by rw [how.out]; exact hz0))
      have HK := Lib.hid (judged_ok (HO.out 2 _ (HB.out (.cells #[.int .i64 4, .int .i64 n', .string s', .slice a' m' cap', .slice a2 m2 cap2, .slice a3 m3 cap3] 60))) hz0)
      clear hz0 how hfin hthr
      go_enter Tryz.func68, Tryz.ntmps68
      go_wp2_with (go_at_call 66; refine (HK.out).mono ?_; rintro e w1 ⟨rfl, hb⟩)
      go_end0
      exact HQ.out _ ((HB.out _).trans (hb.mono (HB.out _).size))
    · have HQ := Lib.hid (fun W hW => hthr.out W hW (ofW t 2 s').1 (ofW t 2 s').2 how.out hz0)
      have HK := Lib.hid (judged_bad (HO.out 2 _ (HB.out (.cells #[.int .i64 4, .int .i64 n', .string s', .slice a' m' cap', .slice a2 m2 cap2, .slice a3 m3 cap3] 60))) hz0)
      clear hz0 how hfin hthr
      generalize ofW t 2 s' = p at HK HQ
      go_enter Tryz.func68, Tryz.ntmps68
      go_wp2_with (go_at_call 66; refine (HK.out).mono ?_; rintro e w1 ⟨rfl, hb⟩)
      exact ⟨rfl, HQ.out _ ((HB.out _).trans (hb.mono (HB.out _).size))⟩
  have e4 : (k == 4) = false := by simpa using h4
  by_cases h5 : k = 5
  · subst h5
    have how : Hid (ownSt t l wh m 5 s' = ofW t 1 s') := rfl
    by_cases hz0 : (ofW t 1 s').1 = 0
    · have HQ := Lib.hid (fun W hW => hfin.out W hW rfl rfl (by rw [how.out]; exact hz0))
      have HK := Lib.hid (judged_ok (HO.out 1 _ (HB.out (.cells #[.int .i64 5, .int .i64 n', .string s', .slice a' m' cap', .slice a2 m2 cap2, .slice a3 m3 cap3] 60))) hz0)
      clear hz0 how hfin hthr
      go_enter Tryz.func68, Tryz.ntmps68
      go_wp2_with (go_at_call 66; refine (HK.out).mono ?_; rintro e w1 ⟨rfl, hb⟩)
      go_end0
      exact HQ.out _ ((HB.out _).trans (hb.mono (HB.out _).size))
    · have HQ := Lib.hid (fun W hW => hthr.out W hW (ofW t 1 s').1 (ofW t 1 s').2 how.out hz0)
      have HK := Lib.hid (judged_bad (HO.out 1 _ (HB.out (.cells #[.int .i64 5, .int .i64 n', .string s', .slice a' m' cap', .slice a2 m2 cap2, .slice a3 m3 cap3] 60))) hz0)
      clear hz0 how hfin hthr
      generalize ofW t 1 s' = p at HK HQ
      go_enter Tryz.func68, Tryz.ntmps68
      go_wp2_with (go_at_call 66; refine (HK.out).mono ?_; rintro e w1 ⟨rfl, hb⟩)
      exact ⟨rfl, HQ.out _ ((HB.out _).trans (hb.mono (HB.out _).size))⟩
  have e5 : (k == 5) = false := by simpa using h5
  by_cases h6 : k = 6
  · subst h6
    have how : Hid (ownSt t l wh m 6 s' = ofW t 1 s') := rfl
    by_cases hz0 : (ofW t 1 s').1 = 0
    · have HQ := Lib.hid (fun W hW => hfin.out W hW rfl rfl (by rw [how.out]; exact hz0))
      have HK := Lib.hid (judged_ok (HO.out 1 _ (HB.out (.cells #[.int .i64 6, .int .i64 n', .string s', .slice a' m' cap', .slice a2 m2 cap2, .slice a3 m3 cap3] 60))) hz0)
      clear hz0 how hfin hthr
      go_enter Tryz.func68, Tryz.ntmps68
      go_wp2_with (go_at_call 66; refine (HK.out).mono ?_; rintro e w1 ⟨rfl, hb⟩)
      go_end0
      exact HQ.out _ ((HB.out _).trans (hb.mono (HB.out _).size))
    · have HQ := Lib.hid (fun W hW => hthr.out W hW (ofW t 1 s').1 (ofW t 1 s').2 how.out hz0)
      have HK := Lib.hid (judged_bad (HO.out 1 _ (HB.out (.cells #[.int .i64 6, .int .i64 n', .string s', .slice a' m' cap', .slice a2 m2 cap2, .slice a3 m3 cap3] 60))) hz0)
      clear hz0 how hfin hthr
      generalize ofW t 1 s' = p at HK HQ
      go_enter Tryz.func68, Tryz.ntmps68
      go_wp2_with (go_at_call 66; refine (HK.out).mono ?_; rintro e w1 ⟨rfl, hb⟩)
      exact ⟨rfl, HQ.out _ ((HB.out _).trans (hb.mono (HB.out _).size))⟩
  have e6 : (k == 6) = false := by simpa using h6
  by_cases h17 : k = 17
  · subst h17
    have how : Hid (ownSt t l wh m 17 s' = ofW t 7 s') := rfl
    by_cases hz0 : (ofW t 7 s').1 = 0
    · have HQ := Lib.hid (fun W hW => hfin.out W hW rfl rfl (by rw [how.out]; exact hz0))
      have HK := Lib.hid (judged_ok (HO.out 7 _ (HB.out (.cells #[.int .i64 17, .int .i64 n', .string s', .slice a' m' cap', .slice a2 m2 cap2, .slice a3 m3 cap3] 60))) hz0)
      clear hz0 how hfin hthr
      go_enter Tryz.func68, Tryz.ntmps68
      go_wp2_with (go_at_call 66; refine (HK.out).mono ?_; rintro e w1 ⟨rfl, hb⟩)
      go_end0
      exact HQ.out _ ((HB.out _).trans (hb.mono (HB.out _).size))
    · have HQ := Lib.hid (fun W hW => hthr.out W hW (ofW t 7 s').1 (ofW t 7 s').2 how.out hz0)
      have HK := Lib.hid (judged_bad (HO.out 7 _ (HB.out (.cells #[.int .i64 17, .int .i64 n', .string s', .slice a' m' cap', .slice a2 m2 cap2, .slice a3 m3 cap3] 60))) hz0)
      clear hz0 how hfin hthr
      generalize ofW t 7 s' = p at HK HQ
      go_enter Tryz.func68, Tryz.ntmps68
      go_wp2_with (go_at_call 66; refine (HK.out).mono ?_; rintro e w1 ⟨rfl, hb⟩)
      exact ⟨rfl, HQ.out _ ((HB.out _).trans (hb.mono (HB.out _).size))⟩
  have e17 : (k == 17) = false := by simpa using h17
  by_cases h18 : k = 18
  · subst h18
    have how : Hid (ownSt t l wh m 18 s' = ofW t 7 s') := rfl
    by_cases hz0 : (ofW t 7 s').1 = 0
    · have HQ := Lib.hid (fun W hW => hfin.out W hW rfl rfl (by rw [how.out]; exact hz0))
      have HK := Lib.hid (judged_ok (HO.out 7 _ (HB.out (.cells #[.int .i64 18, .int .i64 n', .string s', .slice a' m' cap', .slice a2 m2 cap2, .slice a3 m3 cap3] 60))) hz0)
      clear hz0 how hfin hthr
      go_enter Tryz.func68, Tryz.ntmps68
      go_wp2_with (go_at_call 66; refine (HK.out).mono ?_; rintro e w1 ⟨rfl, hb⟩)
      go_end0
      exact HQ.out _ ((HB.out _).trans (hb.mono (HB.out _).size))
    · have HQ := Lib.hid (fun W hW => hthr.out W hW (ofW t 7 s').1 (ofW t 7 s').2 how.out hz0)
      have HK := Lib.hid (judged_bad (HO.out 7 _ (HB.out (.cells #[.int .i64 18, .int .i64 n', .string s', .slice a' m' cap', .slice a2 m2 cap2, .slice a3 m3 cap3] 60))) hz0)
      clear hz0 how hfin hthr
      generalize ofW t 7 s' = p at HK HQ
      go_enter Tryz.func68, Tryz.ntmps68
      go_wp2_with (go_at_call 66; refine (HK.out).mono ?_; rintro e w1 ⟨rfl, hb⟩)
      exact ⟨rfl, HQ.out _ ((HB.out _).trans (hb.mono (HB.out _).size))⟩
  have e18 : (k == 18) = false := by simpa using h18
  by_cases h13 : k = 13
  · subst h13
    have hwh2 := fun o => ((HB.out o).cell (p := ⟨B, 15, none⟩) HLT.out).trans hwh
    by_cases hp : wh = 7
    · subst hp
      have HQ := Lib.hid (fun W hW => hfin.out W hW rfl rfl rfl)
      clear hfin hthr
      go_enter Tryz.func68, Tryz.ntmps68
      go_wp2_with fail
      go_end0
      exact HQ.out _ (HB.out _)
    · have HQ := Lib.hid (fun W hW => hthr.out W hW 18 ⟨#[]⟩ (if_neg hp) (by decide))
      have hpn : (wh != 7) = true := by simpa using hp
      clear hfin hthr
      go_enter Tryz.func68, Tryz.ntmps68
      go_wp2_with fail
      exact ⟨rfl, HQ.out _ (HB.out _)⟩
  have e13 : (k == 13) = false := by simpa using h13
  by_cases h12 : k = 12
  · subst h12
    have hwh2 := fun o => ((HB.out o).cell (p := ⟨B, 15, none⟩) HLT.out).trans hwh
    by_cases hp : wh = 8
    · subst hp
      have HQ := Lib.hid (fun W hW => hfin.out W hW rfl rfl rfl)
      clear hfin hthr
      go_enter Tryz.func68, Tryz.ntmps68
      go_wp2_with fail
      go_end0
      exact HQ.out _ (HB.out _)
    · have HQ := Lib.hid (fun W hW => hthr.out W hW 18 ⟨#[]⟩ (if_neg hp) (by decide))
      have hpn : (wh != 8) = true := by simpa using hp
      clear hfin hthr
      go_enter Tryz.func68, Tryz.ntmps68
      go_wp2_with fail
      exact ⟨rfl, HQ.out _ (HB.out _)⟩
  have e12 : (k == 12) = false := by simpa using h12
  have HQ := Lib.hid (fun W hW => hfin.out W hW (by unfold addS; rw [if_neg h2, if_neg h11]) (by unfold locS; rw [if_neg h2]) (by
    unfold ownSt
    rw [if_neg h2, if_neg h11, if_neg h3, if_neg h4, if_neg h5, if_neg h6, if_neg h17, if_neg h18, if_neg h13, if_neg h12]; rfl))
  clear hfin hthr h2 h11 h3 h4 h5 h6 h17 h18 h13 h12
  go_enter Tryz.func68, Tryz.ntmps68
  go_wp2_with fail
  go_end0
  exact HQ.out _ (HB.out _)
end Go.Proofs.YtblhpiebheommaaGreat
/- What kinds' checker.block computes; the closure that it defers. -/
namespace Go.Proofs.YtblhpiebheommaaGreat
open Go.RowKit

mutual
/-- How many locals a statement makes. -/
def St.locs : St → Int
  | .mk k _ _ _ body els => addS k + St.locsL body + St.locsL els
def St.locsL : List St → Int
  | [] => 0
  | s :: r => s.locs + St.locsL r
end
/-- The locals that are seen in a statement's body. -/
def eachS (k : Int) (n : ByteArray) : List ByteArray := if k = 11 then [n] else []
mutual
/-- What is wrong with a statement: the locals that are seen ahead of it, how many there have been made. -/
noncomputable def St.kW (t : List NameD) (fs : List FuncD) (wh : Int) (l : List ByteArray) (m : Int) : St → Int × ByteArray
  | .mk k _ n args body els => seqW (Ex.kWs t fs l args) (seqW (ownSt t l wh m k n) (seqW (St.kWs t fs wh (locS k l n ++ eachS k n) (m + addS k) body) (St.kWs t fs wh (locS k l n) (m + addS k + St.locsL body) els)))
noncomputable def St.kWs (t : List NameD) (fs : List FuncD) (wh : Int) (l : List ByteArray) (m : Int) : List St → Int × ByteArray
  | [] => fineW
  | s :: r => seqW (s.kW t fs wh l m) (St.kWs t fs wh (locS s.kind l s.name) (m + s.locs) r)
end
theorem St.kWs_cons (t : List NameD) (fs : List FuncD) (wh : Int) (l : List ByteArray) (m : Int) (s : St) (r : List St) : St.kWs t fs wh l m (s :: r) = seqW (Ex.kWs t fs l s.args) (seqW (ownSt t l wh m s.kind s.name) (seqW (St.kWs t fs wh (locS s.kind l s.name ++ eachS s.kind s.name) (m + addS s.kind) s.body) (seqW (St.kWs t fs wh (locS s.kind l s.name) (m + addS s.kind + St.locsL s.body) s.els) (St.kWs t fs wh (locS s.kind l s.name) (m + addS s.kind + St.locsL s.body + St.locsL s.els) r)))) := by
  obtain ⟨k, n', n, args, body, els⟩ := s
  show seqW (St.kW t fs wh l m (.mk k n' n args body els)) _ = _
  have hassoc : ∀ a b c : Int × ByteArray, seqW (seqW a b) c = seqW a (seqW b c) := fun a b c => by
    by_cases h : a.1 = 0
    · rw [seqW_fine h, seqW_fine h]
    · rw [seqW_bad h, seqW_bad h, seqW_bad h]
  have hl : m + addS k + St.locsL body + St.locsL els = m + St.locs (.mk k n' n args body els) := by show _ = m + (addS k + St.locsL body + St.locsL els); omega
  unfold St.kW
  simp only [hassoc, St.kind, St.name, St.args, St.body, St.els]
  rw [hl]
theorem addS_nonneg (k : Int) : 0 ≤ addS k ∧ addS k ≤ 2 := by
  unfold addS
  split
  · omega
  · split <;> omega
theorem St.locsL_cons (s : St) (r : List St) : St.locsL (s :: r) = addS s.kind + St.locsL s.body + St.locsL s.els + St.locsL r := by
  obtain ⟨k, n', n, args, body, els⟩ := s; rfl
theorem St.locsL_nonneg : ∀ l, 0 ≤ St.locsL l := by
  refine blocks_ind fun l ih => ?_
  induction l with
  | nil => exact Int.le_refl _
  | cons s r ihr =>
    rw [St.locsL_cons]
    have := addS_nonneg s.kind
    obtain ⟨h1, h2⟩ := ih s (List.mem_cons_self ..)
    have h3 := ihr fun x hx => ih x (List.mem_cons_of_mem _ hx)
    omega

theorem ownSt_fine {t : List NameD} {l : List ByteArray} {wh m k : Int} {n : ByteArray} (h : (ownSt t l wh m k n).1 = 0) (hm : m ≤ 16) : m + addS k ≤ 16 := by
  unfold ownSt at h
  unfold addS
  by_cases h2 : k = 2
  · rw [if_pos h2] at h ⊢
    unfold freshW at h
    split at h
    · simp at h
    · split at h
      · simp at h
      · omega
  · rw [if_neg h2] at h ⊢
    by_cases h11 : k = 11
    · rw [if_pos h11] at h ⊢
      unfold freshW at h
      split at h
      · simp at h
      · split at h
        · simp at h
        · omega
    · rw [if_neg h11]; omega
theorem seqW_zero {a b : Int × ByteArray} (h : (seqW a b).1 = 0) : a.1 = 0 ∧ b.1 = 0 := by
  by_cases ha : a.1 = 0
  · rw [seqW_fine ha] at h; exact ⟨ha, h⟩
  · rw [seqW_bad ha] at h; exact absurd h ha
/-- Where nothing is wrong, there are not too many locals. -/
theorem St.kWs_few (t : List NameD) (fs : List FuncD) (wh : Int) : ∀ L : List St, ∀ (l : List ByteArray) (m : Int), (St.kWs t fs wh l m L).1 = 0 → m ≤ 16 → m + St.locsL L ≤ 16 := by
  refine blocks_ind fun L ih => ?_
  induction L with
  | nil => intro l m _ hm; show m + 0 ≤ 16; omega
  | cons s r ihr =>
    intro l m h hm
    rw [St.kWs_cons] at h
    rw [St.locsL_cons]
    obtain ⟨h1, h2⟩ := ih s (List.mem_cons_self ..)
    obtain ⟨_, h⟩ := seqW_zero h
    obtain ⟨h3, h⟩ := seqW_zero h
    obtain ⟨h4, h⟩ := seqW_zero h
    obtain ⟨h5, h6⟩ := seqW_zero h
    have a1 := ownSt_fine h3 hm
    have a2 := h1 _ _ h4 a1
    have a3 := h2 _ _ h5 a2
    have a4 := ihr (fun x hx => ih x (List.mem_cons_of_mem _ hx)) _ _ h6 a3
    omega

theorem add_zero' (a : Addr) : a.add 0 = a := by cases a with | mk b o s => cases s <;> simp [Addr.add]

set_option maxRecDepth 100000 in
set_option maxHeartbeats 1000000 in
theorem block1_calls (p q B n k cap : Nat) (a : Option Addr) (u : FrameMode) (w : World) (h0 : w.cell? ⟨p, 0, none⟩ = some (.pointer (some ⟨B, 0, none⟩))) (h1 : w.cell? ⟨q, 0, none⟩ = some (.int .i64 n)) (h2 : w.cell? ⟨B, 14, none⟩ = some (.slice a k cap)) (hz : w.frozen? ⟨B, 14, none⟩ = false) (hn : n ≤ cap) :
    CallsD Tryz.prog 67 #[.pointer (some ⟨p, 0, none⟩), .pointer (some ⟨q, 0, none⟩)] u w fun e u' w' => e = .returned (.tuple #[]) ∧ u' = u ∧ w' = w.drew.setCell ⟨B, 14, none⟩ (.slice a n cap) := by
  have hp0 : (0 : Int) ≤ (n : Int) := by omega
  have hp1 : (n : Int) ≤ (cap : Int) := by omega
  have hadd : Option.map (fun x => Addr.add x 0) a = a := by cases a <;> simp [add_zero']
  have hadd2 : (if cap = 0 then a else a) = a := by split <;> rfl
  refine (callsD_of_wp (R := fun e w' => e = .returned (.tuple #[]) ∧ w' = w.drew.setCell ⟨B, 14, none⟩ (.slice a n cap)) Tryz.func67 rfl ?_).mono fun e u' w' h => ⟨h.2.1, h.1, h.2.2⟩
  simp only [Tryz.ntmps67]
  go_region
  all_goals (go_wp2_with fail; go_end0; exact ⟨rfl, rfl⟩)
end Go.Proofs.YtblhpiebheommaaGreat
