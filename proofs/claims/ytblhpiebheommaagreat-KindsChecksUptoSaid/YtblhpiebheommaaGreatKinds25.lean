/- The walk of clewref16.block. Printed by gen-kinds25.py. -/
import Derived.Test.YtblhpiebheommaaGreatKindsChecksPart21
import Derived.Test.YtblhpiebheommaaGreatKinds12
import Derived.Test.YtblhpiebheommaaGreatKinds10
namespace Go.Proofs.YtblhpiebheommaaGreat
open Go.RowKit

mutual
/-- A local's statement holds no others. -/
def St.lone : St → Prop
  | .mk k _ _ _ body els => (k = 2 → body = [] ∧ els = []) ∧ St.lones body ∧ St.lones els
def St.lones : List St → Prop
  | [] => True
  | s :: r => s.lone ∧ St.lones r
end
theorem St.lones_mem : ∀ {l : List St}, St.lones l → ∀ s ∈ l, (s.kind = 2 → s.body = [] ∧ s.els = []) ∧ St.lones s.body ∧ St.lones s.els
  | s :: r, h, x, hx => by
    unfold St.lones at h
    rcases List.mem_cons.1 hx with rfl | hx
    · obtain ⟨k, n', n, args, body, els⟩ := x
      have := h.1
      unfold St.lone at this
      exact this
    · exact St.lones_mem h.2 x hx

theorem alloc_cell {w : World} {a : Addr} {v : Value} (h : w.cell? a = some v) (o : Obj) : (w.alloc o).cell? a = some v := (World.cell?_of_block (w := w) (a := a) (Below.heap_alloc w o _ (World.block_lt_of_cell? w a h))).trans h

/-- A copy of a list of strings, behind an empty slice of one's own. -/
theorem copy_run {F : Nat → Prop} {W : World} {l : List ByteArray} {lv : Value} {B g : Nat} (hr : RdStrs F W l lv) (hB : B < g) (hg : g < W.heap.size) (hl : l.length ≤ 1000000) (ty : TypeId) :
    ∃ v' w', (Builtin.append_ #[22, 22] ty #[.slice (some ⟨g, 0, none⟩) 0 0, lv]).run Tryz.prog W = .ok v' w' ∧ Loc B g w' l v' ∧ Below W.heap.size W w' := by
  have h0 : Loc B g W [] (.slice (some ⟨g, 0, none⟩) ([] : List ByteArray).length ([] : List ByteArray).length) := ⟨by simp, .inr ⟨g, 0, rfl, hB, hg, Nat.le_refl _, by unfold maxLen; omega, .inl rfl, fun i hi => absurd hi (by omega), fun i hi => absurd hi (by simp)⟩⟩
  obtain ⟨v', w', h1, h2, h3, _⟩ := loc_many (lo' := g) h0 hr (by omega) (by omega) (by simpa using hl) ty
  exact ⟨v', w', h1, by simpa using h2, h3⟩
/-- One more string, behind a slice of one's own. -/
theorem push_run {W : World} {l : List ByteArray} {v : Value} {B lo : Nat} {x : ByteArray} {ad : Addr} (h : Loc B lo W l v) (hx : x.size ≤ maxLen) (had : W.cell? ad = some (.string x)) (hB : B < W.heap.size) (hlo : lo ≤ W.heap.size) (hl : l.length ≤ 1000000) (ty : TypeId) :
    ∃ v' w', (Builtin.append_ #[22, 22] ty #[v, .slice (some ad) 1 1]).run Tryz.prog W = .ok v' w' ∧ Loc B lo w' (l ++ [x]) v' ∧ Below lo W w' := by
  obtain ⟨v', w', h1, h2, h3, _⟩ := loc_one h x hx ad had hB hlo hl ty
  exact ⟨v', w', h1, h2, h3.toBelow hlo fun k hk => hk.2.1⟩

/-- An append in a region that draws, where its run is there in some world. -/
theorem step_app {P : Program} {ops : Array Oper} {o : Oper} {a : Act} {w : World} {K : Act → World → Prop} {Q : Exit → Act → World → Prop} {E : Prop}
    (hg : o.guard = none) (s x : Operand) (t : TypeId) (hop : o.op = Op.call { callee := Callee.builtin Builtin.append, args := #[s, x], argTypes := #[t, t] })
    (v1 v2 : Value) (R : Value → World → Prop) (hs : a.eval s = v1) (hx : a.eval x = v2) (hrun : ∃ v' w', (Builtin.append_ #[t, t] o.type #[v1, v2]).run P w = .ok v' w' ∧ R v' w') (hK : ∀ v' w', R v' w' → K (a.put o.dst v') w') :
    if Region.wanted o (yielded ops a.tmps) = true then Oper.wp P o a w K Q else E := by
  obtain ⟨v', w', hr, hR⟩ := hrun
  exact step_run hg s x t hop v1 v2 v' w' hs hx hr (hK v' w' hR)

theorem ref_eq (t : List NameD) (fs : List FuncD) (wh m kd : Int) (l : List ByteArray) (n : ByteArray) (body els : List St) (h : kd = 2 → body = [] ∧ els = []) :
    St.kWs t fs wh (locS kd l n ++ eachS kd n) (m + addS kd) body = St.kWs t fs wh (l ++ eachS kd n) (m + (if kd = 11 then 2 else 0)) body ∧ St.kWs t fs wh (locS kd l n) (m + addS kd + St.locsL body) els = St.kWs t fs wh l (m + (if kd = 11 then 2 else 0) + St.locsL body) els := by
  by_cases h2 : kd = 2
  · obtain ⟨rfl, rfl⟩ := h h2
    exact ⟨rfl, rfl⟩
  · unfold locS addS
    rw [if_neg h2, if_neg h2]
    exact ⟨rfl, rfl⟩

def RBlkC (t : List NameD) (s : SrcD) (L : List St) : Prop := ∀ (l : List ByteArray) (wh m : Int) (F : Nat → Prop) (w : World) (tv lv sv : Value) (ss : List Value), Inn F w → St.lones L → St.sizes L ≤ 1000000 → RdNames F w t tv → Holds.src.R F w s ss → RdStrs F w l lv → Sts F w L sv → 0 ≤ m → m ≤ 16 → (l.length : Int) ≤ 1000 + m →
  Calls Tryz.prog 31 #[tv, .agg ss.toArray, lv, .int .i64 wh, .int .i64 m, sv] w (Gives w (wrongR (St.kWs t s.funcs wh l m L)))

set_option maxRecDepth 100000 in
set_option maxHeartbeats 8000000 in
theorem rBlock_calls (t : List NameD) (s : SrcD) (htab : TabOk t s.funcs s.objects.length) : ∀ L, RBlkC t s L := by
  refine blocks_ind fun L ih => ?_
  intro l wh m F w tv lv sv ss hF hlone hsz h0 h1 h2 hL hm0 hm1 hlen
  obtain ⟨la, lcap, rfl⟩ := hL.shape
  obtain ⟨_, hll, hlc, hla⟩ := hL.opn
  have hT := Lib.hid h0
  obtain ⟨a0, c0, rfl⟩ := h0.shape
  have hl2 := Lib.hid h2
  obtain ⟨lva, lvc, rfl⟩ := h2.shape
  have H1 := Lib.hid h1
  obtain ⟨a5, c5, a6, c6, a7, c7, a8, c8, a9, c9, a10, c10, a11, c11, a12, c12, rfl, -⟩ := src_shape h1
  have hB0 : Below w.heap.size w ((w.alloc (.cells #[.string s.title, .string s.author, .string s.start, .int .i64 s.release, .int .i64 s.most, .slice a5 s.flags.length c5, .slice a6 s.props.length c6, .slice a7 s.globals.length c7, .slice a8 s.objects.length c8, .slice a9 s.verbs.length c9, .slice a10 s.rules.length c10, .slice a11 s.funcs.length c11, .slice a12 s.daemons.length c12] 29)).alloc (.cells #[.int .i64 0, .string ⟨#[]⟩] 79)) := ((Below.refl _ w).alloc (Nat.le_refl _) _).alloc (by simp) _
  have hA : Hid (∃ W0, ((w.alloc (.cells #[.string s.title, .string s.author, .string s.start, .int .i64 s.release, .int .i64 s.most, .slice a5 s.flags.length c5, .slice a6 s.props.length c6, .slice a7 s.globals.length c7, .slice a8 s.objects.length c8, .slice a9 s.verbs.length c9, .slice a10 s.rules.length c10, .slice a11 s.funcs.length c11, .slice a12 s.daemons.length c12] 29)).alloc (.cells #[.int .i64 0, .string ⟨#[]⟩] 79)) = W0 ∧ Below w.heap.size w W0 ∧ W0.heap.size = w.heap.size + 1 + 1 ∧ BoxAt W0 w.heap.size [.string s.title, .string s.author, .string s.start, .int .i64 s.release, .int .i64 s.most, .slice a5 s.flags.length c5, .slice a6 s.props.length c6, .slice a7 s.globals.length c7, .slice a8 s.objects.length c8, .slice a9 s.verbs.length c9, .slice a10 s.rules.length c10, .slice a11 s.funcs.length c11, .slice a12 s.daemons.length c12] ∧ WrAt W0 (w.heap.size + 1) (0, ⟨#[]⟩)) := by
    refine ⟨_, rfl, hB0, by simp, ?_, ?_⟩
    · exact (BoxAt.new w [.string s.title, .string s.author, .string s.start, .int .i64 s.release, .int .i64 s.most, .slice a5 s.flags.length c5, .slice a6 s.props.length c6, .slice a7 s.globals.length c7, .slice a8 s.objects.length c8, .slice a9 s.verbs.length c9, .slice a10 s.rules.length c10, .slice a11 s.funcs.length c11, .slice a12 s.daemons.length c12] 29).below ((Below.refl _ _).alloc (Nat.le_refl _) _) (by simp)
    · have := wr_new (w.alloc (.cells #[.string s.title, .string s.author, .string s.start, .int .i64 s.release, .int .i64 s.most, .slice a5 s.flags.length c5, .slice a6 s.props.length c6, .slice a7 s.globals.length c7, .slice a8 s.objects.length c8, .slice a9 s.verbs.length c9, .slice a10 s.rules.length c10, .slice a11 s.funcs.length c11, .slice a12 s.daemons.length c12] 29)) 0 ⟨#[]⟩ 79
      rw [show (w.alloc (.cells #[.string s.title, .string s.author, .string s.start, .int .i64 s.release, .int .i64 s.most, .slice a5 s.flags.length c5, .slice a6 s.props.length c6, .slice a7 s.globals.length c7, .slice a8 s.objects.length c8, .slice a9 s.verbs.length c9, .slice a10 s.rules.length c10, .slice a11 s.funcs.length c11, .slice a12 s.daemons.length c12] 29)).heap.size = w.heap.size + 1 by simp] at this
      exact this
  have HFI := Lib.hid fineR_calls
  obtain ⟨r, hr⟩ : ∃ r, St.kWs t s.funcs wh l m L = r := ⟨_, rfl⟩
  have HR := Lib.hid hr
  clear hB0 hr
  rw [HR.out]
  go_enter Tryz.func31, Tryz.ntmps31
  go_upto_region 1 with fail
  obtain ⟨W0, hW0, hB0, hz0, hsb, hwr0⟩ := hA.out
  rw [hW0]
  clear hA hW0
  have HB0 := Lib.hid hB0
  have HSB := Lib.hid hsb
  have HWR0 := Lib.hid hwr0
  have HZ0 := Lib.hid hz0
  have HLN := Lib.hid hlone
  have HSZ := Lib.hid hsz
  have HL := Lib.hid hL
  have HIH := Lib.hid ih
  have HF := Lib.hid hF
  have hBX : Hid (∀ W, Below W0.heap.size W0 W → BoxAt W w.heap.size [.string s.title, .string s.author, .string s.start, .int .i64 s.release, .int .i64 s.most, .slice a5 s.flags.length c5, .slice a6 s.props.length c6, .slice a7 s.globals.length c7, .slice a8 s.objects.length c8, .slice a9 s.verbs.length c9, .slice a10 s.rules.length c10, .slice a11 s.funcs.length c11, .slice a12 s.daemons.length c12] ∧ WrAt W (w.heap.size + 1) (0, ⟨#[]⟩) ∧ Below w.heap.size w W) := fun W hW => ⟨hsb.below hW (by omega), wr_kept hwr0 (by omega) hW, hB0.trans (hW.mono hB0.size)⟩
  have hEX : Hid (∀ W p, Below W0.heap.size W0 W → Below w.heap.size w ((W.setCell ⟨w.heap.size + 1, 0, none⟩ (.int .i64 p)).setCell ⟨w.heap.size + 1, 1, none⟩ (.string ⟨#[]⟩))) := fun W p hW => two_set (hB0.trans (hW.mono hB0.size)) (by omega)
  clear hB0 hsb hwr0 hz0 hlone hsz h0 h1 h2 hL ih hF
  have HTAB := Lib.hid htab
  clear htab
  go_wp2_with fail
  go_loopw [2, 4, 13] (fun lk mv i wr => ∃ kk : Nat, kk ≤ L.length ∧ i = .int .i64 kk ∧ Hid (∃ lkl mk la2 lc2, lk = .slice la2 lkl.length lc2 ∧ mv = .int .i64 mk ∧ r = St.kWs t s.funcs wh lkl mk (L.drop kk) ∧ Below W0.heap.size W0 wr ∧ RdStrs (fun b => b < wr.heap.size) wr lkl lk ∧ 0 ≤ mk ∧ mk ≤ 16 ∧ (lkl.length : Int) ≤ 1000 + mk)) (fun _ _ i _ => L.length - (intOf i).toNat)
  case atStart => exact ⟨0, Nat.zero_le _, rfl, l, m, _, _, rfl, rfl, by rw [List.drop_zero]; exact HR.out.symm, Below.refl _ _, (hl2.out.below HF.out HB0.out (Nat.le_refl _)).keep (fun _ _ => rfl) (fun b hb => Nat.lt_of_lt_of_le (HF.out b hb) HB0.out.size), hm0, hm1, hlen⟩
  case round =>
    obtain ⟨kk, hk, rfl, hinv⟩ := hrel
    obtain ⟨lkl, mk, la2, lc2, rfl, rfl, hq, hBr, hlk, hmk0, hmk1, hlkn⟩ := hinv.out
    clear hinv
    by_cases hlt : kk < L.length
    · obtain ⟨b, off, rfl, hFb, hel⟩ := hla (by omega)
      have hbW : Below w.heap.size w wr := HB0.out.trans (hBr.mono HB0.out.size)
      obtain ⟨kd, n', s', a', m', cap', a2, m2, cap2, a3, m3, cap3, hx, g0, g1, g2, g3, g4, g5⟩ := hel wr (hbW.block b (HF.out b hFb)) kk hlt
      obtain ⟨hxk, -, hxn, -, -, hxs, hxa, hxb, hxe⟩ := hx.parts
      have hdrop : L.drop kk = L[kk] :: L.drop (kk + 1) := List.drop_eq_getElem_cons hlt
      rw [hdrop, St.kWs_cons, hxk, hxn] at hq
      clear hdrop
      have hxw : RdSt F wr L[kk] _ := hx.below HF.out hbW (Nat.le_refl _)
      obtain ⟨hlone2, hlb, hle⟩ := St.lones_mem HLN.out L[kk] (List.getElem_mem hlt)
      rw [hxk] at hlone2
      have hsz2 : St.sizes L[kk].body ≤ 1000000 ∧ St.sizes L[kk].els ≤ 1000000 := by
        have q1 := St.sizes_take L kk hlt
        have q2 := St.sizes_take_le L (kk + 1)
        have q3 := HSZ.out
        have q4 := St.size_eq L[kk]
        omega
      obtain ⟨ihb, ihe⟩ := HIH.out _ (List.getElem_mem hlt)
      generalize L[kk] = x at hq hx hxk hxn hxa hxb hxe hxw hlone2 hlb hle hsz2 ihb ihe
      have hxbw : Sts F wr x.body _ := Sts.below hxb HF.out hbW (Nat.le_refl _)
      have hxew : Sts F wr x.els _ := Sts.below hxe HF.out hbW (Nat.le_refl _)
      have hxaw : Exs F wr x.args _ := Exs.below hxa HF.out hbW (Nat.le_refl _)
      have HXS := Lib.hid hxs
      clear hx hxa hxb hxe hel hla hxs
      obtain ⟨hm', hal, hac, haa⟩ := hxaw.opn
      subst hm'
      obtain ⟨wo, hwo⟩ : ∃ wo : World, wo = wr := ⟨_, rfl⟩
      rw [← hwo] at hBr hlk hbW hxw hxbw hxew haa g0 g1 g2 g3 g4 g5 ⊢
      clear hwo hxaw wr
      have HRD : Hid (∀ W, Below wo.heap.size wo W → Inn (fun b => b < W.heap.size) W ∧ RdNames (fun b => b < W.heap.size) W t _ ∧ Holds.src.R (fun b => b < W.heap.size) W s _ ∧ RdStrs (fun b => b < W.heap.size) W lkl _) := fun W hW => by
        have hw2 := hbW.trans (hW.mono hbW.size)
        have hFi : ∀ b, F b → b < W.heap.size := fun b hb => Nat.lt_of_lt_of_le (HF.out b hb) hw2.size
        refine ⟨fun b hb => hb, (RdL.below hT.out HF.out hw2 (Nat.le_refl _)).keep (fun _ _ => rfl) hFi, Holds.src.keep (fun _ _ => rfl) hFi (Holds.below _ H1.out HF.out hw2 (Nat.le_refl _)), (RdL.below hlk (fun b hb => hb) hW (Nat.le_refl _)).keep (fun _ _ => rfl) fun b hb => Nat.lt_of_lt_of_le hb hW.size⟩
      have HFI2 : Hid (∀ W, Below wo.heap.size wo W → ∀ b, F b → b < W.heap.size) := fun W hW b hb => Nat.lt_of_lt_of_le (HF.out b hb) (hbW.trans (hW.mono hbW.size)).size
      have HE := Lib.hid (fun (e : Ex) (W : World) (cs : List Value) (hW : Below wo.heap.size wo W) (hr : RdEx F W e cs) => kexprR_calls t s HTAB.out e lkl (fun b => b < W.heap.size) W _ _ _ cs (HRD.out W hW).1 (HRD.out W hW).2.1 (HRD.out W hW).2.2.1 (HRD.out W hW).2.2.2 (hr.keep (fun _ _ => rfl) (HFI2.out W hW)))
      have hO := fun (W : World) (hW : Below wo.heap.size wo W) => ownR_calls t lkl x wh mk (fun b => b < W.heap.size) W _ _ _ (HRD.out W hW).1 (HRD.out W hW).2.1 (HRD.out W hW).2.2.2 ((hxw.below (fun b hb => HFI2.out wo (Below.refl _ _) b hb) hW (Nat.le_refl _)).keep (fun _ _ => rfl) (HFI2.out W hW)) (by omega) (by omega)
      rw [hxk, hxn] at hO
      have HO := Lib.hid hO
      have HQ := Lib.hid hq
      have HXB := Lib.hid hxbw
      have HXE := Lib.hid hxew
      have HXW := Lib.hid hxw
      have HLK := Lib.hid hlk
      have HBR := Lib.hid hBr
      have HBW := Lib.hid hbW
      have HLN2 := Lib.hid hlone2
      have HLB := Lib.hid hlb
      have HLE := Lib.hid hle
      clear hO hq hxbw hxew hxw hlk hBr hbW hxk hxn hlone2 hlb hle
      have hki : (kk : Int) < (L.length : Int) := by omega
      have hki0 : (0 : Int) ≤ (kk : Int) := by omega
      have hBb : Below wo.heap.size wo (wo.alloc (.cells #[.int .i64 kd, .int .i64 n', .string s', .slice a' x.args.length cap', .slice a2 m2 cap2, .slice a3 m3 cap3] 60)) := (Below.refl _ wo).alloc (Nat.le_refl _) _
      have hA : Hid (∃ (wb : World) (bx : Nat), wo.alloc (.cells #[.int .i64 kd, .int .i64 n', .string s', .slice a' x.args.length cap', .slice a2 m2 cap2, .slice a3 m3 cap3] 60) = wb ∧ wo.heap.size = bx ∧ Below wo.heap.size wo wb ∧ wo.heap.size < wb.heap.size ∧ BoxAt wb bx [.int .i64 kd, .int .i64 n', .string s', .slice a' x.args.length cap', .slice a2 m2 cap2, .slice a3 m3 cap3]) := ⟨_, _, rfl, rfl, hBb, by simp, BoxAt.new _ _ _⟩
      clear hBb
      go_upto_region 5 with fail
      obtain ⟨wb, bx, hwb, hbx, hBb, hzb, hxbox⟩ := hA.out
      rw [hwb]
      simp only [hbx]
      have HBX := Lib.hid hxbox
      have HBB := Lib.hid hBb
      clear hA hwb g0 g1 g2 g3 g4 g5 hxbox
      go_wp2_with fail
      go_loopw [15] (fun j wr => ∃ jj : Nat, jj ≤ x.args.length ∧ j = .int .i64 jj ∧ Hid (Ex.kWs t s.funcs lkl x.args = Ex.kWs t s.funcs lkl (x.args.drop jj)) ∧ Below wb.heap.size wb wr) (fun j _ => x.args.length - (intOf j).toNat)
      case atStart => exact ⟨0, Nat.zero_le _, rfl, by show _ = _; rw [List.drop_zero], Below.refl _ _⟩
      case round =>
        obtain ⟨jj, hj, rfl, hjq, hB⟩ := hrel
        have hBo : Below wo.heap.size wo wr := HBB.out.trans (hB.mono HBB.out.size)
        have hB0r : Below W0.heap.size W0 wr := HBR.out.trans (hBo.mono HBR.out.size)
        have hxr := HBX.out.below hB HBX.out.1
        have d3 := hxr.2 3 (by simp)
        simp only [List.getElem?_cons_succ, List.getElem?_cons_zero] at d3
        by_cases hlt3 : jj < x.args.length
        · obtain ⟨b2, off2, rfl, hFb2, hel2⟩ := haa (by omega)
          obtain ⟨ke, oe, ne, se, ae, me, ce, hxe, f0, f1, f2, f3, f4⟩ := hel2 wr (hBo.block b2 (HFI2.out wo (Below.refl _ _) b2 hFb2)) jj hlt3
          have hcall := fun W (hW : Below wr.heap.size wr W) => HE.out x.args[jj] W _ (hBo.trans (hW.mono hBo.size)) (hxe.below (HFI2.out wo (Below.refl _ _)) (hBo.trans (hW.mono hBo.size)) (Nat.le_refl _))
          have hdk : Ex.kWs t s.funcs lkl (x.args.drop jj) = seqW (x.args[jj].kW t s.funcs lkl) (Ex.kWs t s.funcs lkl (x.args.drop (jj + 1))) := by rw [List.drop_eq_getElem_cons hlt3]; rfl
          have hjq2 : Hid (Ex.kWs t s.funcs lkl x.args = seqW (x.args[jj].kW t s.funcs lkl) (Ex.kWs t s.funcs lkl (x.args.drop (jj + 1)))) := by show _ = _; rw [hjq.out, hdk]
          clear hel2 haa hxe hdk hjq
          generalize x.args[jj].kW t s.funcs lkl = p at hcall hjq2
          have HCL := Lib.hid hcall
          have hsr := (hBX.out wr hB0r).1
          have x0 := hsr.2 0 (by simp)
          have x1 := hsr.2 1 (by simp)
          have x2 := hsr.2 2 (by simp)
          have x3 := hsr.2 3 (by simp)
          have x4 := hsr.2 4 (by simp)
          have x5 := hsr.2 5 (by simp)
          have x6 := hsr.2 6 (by simp)
          have x7 := hsr.2 7 (by simp)
          have x8 := hsr.2 8 (by simp)
          have x9 := hsr.2 9 (by simp)
          have x10 := hsr.2 10 (by simp)
          have x11 := hsr.2 11 (by simp)
          have x12 := hsr.2 12 (by simp)
          simp only [List.getElem?_cons_succ, List.getElem?_cons_zero] at x0 x1 x2 x3 x4 x5 x6 x7 x8 x9 x10 x11 x12
          have d3a := alloc_cell d3
          have f0a := alloc_cell f0
          have f1a := alloc_cell f1
          have f2a := alloc_cell f2
          have f3a := alloc_cell f3
          have f4a := alloc_cell f4
          have x0a := alloc_cell x0
          have x1a := alloc_cell x1
          have x2a := alloc_cell x2
          have x3a := alloc_cell x3
          have x4a := alloc_cell x4
          have x5a := alloc_cell x5
          have x6a := alloc_cell x6
          have x7a := alloc_cell x7
          have x8a := alloc_cell x8
          have x9a := alloc_cell x9
          have x10a := alloc_cell x10
          have x11a := alloc_cell x11
          have x12a := alloc_cell x12
          have hji : (jj : Int) < (x.args.length : Int) := by omega
          have hji0 : (0 : Int) ≤ (jj : Int) := by omega
          have HBo := Lib.hid hBo
          have HB := Lib.hid hB
          have HB0r := Lib.hid hB0r
          clear hcall hsr hxr hBo hB hB0r
          go_upto_region 8 with fail
          go_cut [16] (fun v wc => Hid (∃ b, v = .pointer (some ⟨b, 0, none⟩) ∧ WrAt wc b p ∧ Below wr.heap.size wr wc ∧ b < wc.heap.size ∧ wr.heap.size ≤ b))
          case first =>
            -- DEV
            go_region_with (first | (go_at_call 57; (with_reducible refine (HCL.out _ (Below.refl _ wr).drew).mono ?_); rintro e w3 ⟨rfl, hb3⟩; have hbq := (Below.refl wr.heap.size wr).drew.trans hb3; unfold wrongR) | (go_at_call 57; (with_reducible refine (HCL.out _ (((Below.refl _ wr).alloc (Nat.le_refl _) _).drew)).mono ?_); rintro e w3 ⟨rfl, hb3⟩; have hbq := (Below.refl (wr.alloc (.cells #[.int .i64 0, .string ⟨#[]⟩] 79)).heap.size (wr.alloc (.cells #[.int .i64 0, .string ⟨#[]⟩] 79))).drew.trans hb3; obtain ⟨⟨f0', f1'⟩, z0', z1'⟩ := wr_kept (wr_new wr 0 ⟨#[]⟩ 79) (by simp) hbq; unfold wrongR))
            all_goals (go_wp2_with fail; go_meet; first | exact ⟨_, rfl, wr_new _ _ _ _, hbq.alloc hbq.size _, by simp, hbq.size⟩ | exact ⟨_, rfl, wr_set (p0 := (0, ⟨#[]⟩)) p ⟨⟨f0', f1'⟩, z0', z1'⟩, two_set (((Below.refl wr.heap.size wr).alloc (Nat.le_refl _) _).trans (hbq.mono (by simp))) (Nat.le_refl _), by have := hbq.size; simp at this; simp [World.setCell]; omega, Nat.le_refl _⟩)
          case rest =>
            obtain ⟨b16, rfl, hw16, hbc, hz16, hz16b⟩ := hcut.out
            obtain ⟨⟨q0, q1⟩, y0, y1⟩ := hw16
            clear f0 f1 f2 f3 f4 x0 x1 x2 x3 x4 x5 x6 x7 x8 x9 x10 x11 x12 d3 HCL
            by_cases hz : p.1 = 0
            · have hp1 : (p.1 != 0) = false := by simpa using hz
              have hnx : Hid (Ex.kWs t s.funcs lkl x.args = Ex.kWs t s.funcs lkl (x.args.drop (jj + 1))) := by show _ = _; rw [hjq2.out, seqW_fine hz]
              have HBC := Lib.hid (HB.out.trans (hbc.mono HB.out.size))
              clear hz hjq2 hcut hbc
              go_wp2_with fail
              go_roundw
              case rel => exact ⟨jj + 1, by omega, by go_num, hnx, HBC.out⟩
              case measure => simp [intOf]; omega
            · have hp1 : (p.1 != 0) = true := by simpa using hz
              have hfin : Hid (r = p) := by
                have e1 : Ex.kWs t s.funcs lkl x.args = p := by rw [hjq2.out, seqW_bad hz]
                show _ = _
                rw [HQ.out, seqW_bad (by rw [e1]; exact hz), e1]
              obtain ⟨-, ⟨⟨h0', h1'⟩, y0', y1'⟩, hbw⟩ := hBX.out wc (HB0r.out.trans (hbc.mono HB0r.out.size))
              have HBW2 := Lib.hid hbw
              clear hz hjq2 hcut hbc hbw
              go_wp2_with fail
              exact bodyPost_ret (v := wrongR p) (by simp [results, Tryz.results31, go_sem, wrongR, h0', h1']; try rfl) rfl ⟨by rw [hfin.out], two_set HBW2.out (by omega)⟩
        · have HQ2 : Hid (r = seqW (ownSt t lkl wh mk kd s') (seqW (St.kWs t s.funcs wh (locS kd lkl s' ++ eachS kd s') (mk + addS kd) x.body) (seqW (St.kWs t s.funcs wh (locS kd lkl s') (mk + addS kd + St.locsL x.body) x.els) (St.kWs t s.funcs wh (locS kd lkl s') (mk + addS kd + St.locsL x.body + St.locsL x.els) (L.drop (kk + 1)))))) := by
            show _ = _
            rw [HQ.out, hjq.out, List.drop_eq_nil_of_le (by omega), seqW_fine (show (Ex.kWs t s.funcs lkl []).1 = 0 from rfl)]
          have hji : decide ((jj : Int) < (x.args.length : Int)) = false := by simpa using hlt3
          have d0 := hxr.2 0 (by simp)
          have d1 := hxr.2 1 (by simp)
          have d2 := hxr.2 2 (by simp)
          have d4 := hxr.2 4 (by simp)
          have d5 := hxr.2 5 (by simp)
          simp only [List.getElem?_cons_succ, List.getElem?_cons_zero] at d0 d1 d2 d4 d5
          have HBo := Lib.hid hBo
          have HXR := Lib.hid hxr
          clear HQ hjq haa hB hB0r hxr hBo HE
          obtain ⟨p, hp⟩ : ∃ p, ownSt t lkl wh mk kd s' = p := ⟨_, rfl⟩
          have hfew := fun h => ownSt_fine (t := t) (l := lkl) (wh := wh) (m := mk) (k := kd) (n := s') h hmk1
          rw [hp] at HO HQ2 hfew
          clear hp
          go_upto_region 12 with (go_at_call 59; refine (HO.out _ HBo.out).mono ?_; rintro e w3 ⟨rfl, hb3⟩; unfold wrongR)
          have hAq : Hid (∃ (wq : World) (b17 : Nat), w3.alloc (.cells #[.int .i64 p.1, .string p.2] 79) = wq ∧ w3.heap.size = b17 ∧ Below wr.heap.size wr wq ∧ WrAt wq b17 p) := ⟨_, _, rfl, rfl, hb3.alloc hb3.size _, wr_new _ _ _ _⟩
          obtain ⟨wq, b17, hwq, hb17, hbq, hw17⟩ := hAq.out
          rw [hwq]
          simp only [hb17]
          clear hAq hwq hb17 hb3 d0 d1 d2 d3 d4 d5 HO w3
          obtain ⟨⟨q0, q1⟩, y0, y1⟩ := hw17
          have HBq := Lib.hid (HBo.out.trans (hbq.mono HBo.out.size))
          have hxq := HXR.out.below hbq HXR.out.1
          have HXQ := Lib.hid hxq
          have d0 := hxq.2 0 (by simp)
          have d2 := hxq.2 2 (by simp)
          have d4 := hxq.2 4 (by simp)
          have d5 := hxq.2 5 (by simp)
          simp only [List.getElem?_cons_succ, List.getElem?_cons_zero] at d0 d2 d4 d5
          clear hbq hxq
          by_cases hz : p.1 = 0
          · have hp1 : (p.1 != 0) = false := by simpa using hz
            have HFEW := Lib.hid (hfew hz)
            have HQ3 : Hid (r = seqW (St.kWs t s.funcs wh (locS kd lkl s' ++ eachS kd s') (mk + addS kd) x.body) (seqW (St.kWs t s.funcs wh (locS kd lkl s') (mk + addS kd + St.locsL x.body) x.els) (St.kWs t s.funcs wh (locS kd lkl s') (mk + addS kd + St.locsL x.body + St.locsL x.els) (L.drop (kk + 1))))) := by show _ = _; rw [HQ2.out, seqW_fine hz]
            clear hz hfew HQ2
            have hal0 : Below wq.heap.size wq (wq.alloc (.cells #[] 9)) := (Below.refl _ wq).alloc (Nat.le_refl _) _
            have hz17 : b17 < wq.heap.size := World.block_lt_of_cell? wq ⟨b17, 0, none⟩ q0
            obtain ⟨v18, w18, hrun, hloc, hbl⟩ := copy_run (g := wq.heap.size) (B := b17) (HRD.out _ (HBq.out.trans (hal0.mono HBq.out.size))).2.2.2 hz17 (by simp) (by omega) 22
            obtain ⟨a18, c18, rfl, -⟩ := hloc.shape
            have HRUN := Lib.hid hrun
            have hb18 : Below wq.heap.size wq w18 := hal0.trans (hbl.mono hal0.size)
            have HLOC := Lib.hid hloc
            have HB18 := Lib.hid hb18
            have hx18 := HXQ.out.below hb18 HXQ.out.1
            have d0' := hx18.2 0 (by simp)
            have d2' := hx18.2 2 (by simp)
            have d2'' := fun o => alloc_cell d2' o
            simp only [List.getElem?_cons_succ, List.getElem?_cons_zero] at d0' d2' d2''
            have HX18 := Lib.hid hx18
            clear hrun hloc hbl hb18 hal0 hx18 d2 d4 d5
            go_upto_region 14 with fail
            clear q0 q1 y0 y1 d0
            go_upto_if 66 with (at_builtin; refine wpList_run rfl _ _ 22 rfl _ _ _ w18 rfl rfl HRUN.out ?_)
            go_cut [4, 18] from 67 to 73 (fun m4 v18 wc => Hid (∃ a c, m4 = .int .i64 (mk + (if kd = 11 then 2 else 0)) ∧ v18 = .slice a (lkl ++ eachS kd s').length c ∧ RdStrs (fun b => b < wc.heap.size) wc (lkl ++ eachS kd s') v18 ∧ Below wq.heap.size wq wc))
            case first =>
              by_cases h11 : kd = 11
              · subst h11
                have hal1 : Below w18.heap.size w18 (w18.alloc (.cells #[.string s'] 9)) := (Below.refl _ w18).alloc (Nat.le_refl _) _
                have had : (w18.alloc (.cells #[.string s'] 9)).cell? ⟨w18.heap.size, 0, none⟩ = some (.string s') := bx_new w18 [.string s'] 9 _ rfl 0 (by simp)
                obtain ⟨v19, w19, hrun2, hloc2, hbl2⟩ := push_run (HLOC.out.keep (fun g _ hgl _ => Below.heap_alloc w18 _ g hgl) hal1.size (Nat.le_refl _)) HXS.out had (by have := HB18.out.size; have := hal1.size; omega) (by have := HB18.out.size; have := hal1.size; omega) (by omega) 22
                obtain ⟨a19, c19, rfl, -⟩ := hloc2.shape
                have HRUN2 := Lib.hid hrun2
                have hb19 : Below wq.heap.size wq w19 := (HB18.out.trans (hal1.mono HB18.out.size)).trans hbl2
                have HREL : Hid (∃ a c, Value.int .i64 (mk + 2) = .int .i64 (mk + (if (11 : Int) = 11 then 2 else 0)) ∧ Value.slice a19 (lkl ++ [s']).length c19 = .slice a (lkl ++ eachS 11 s').length c ∧ RdStrs (fun b => b < w19.heap.size) w19 (lkl ++ eachS 11 s') (.slice a19 (lkl ++ [s']).length c19) ∧ Below wq.heap.size wq w19) := ⟨a19, c19, rfl, rfl, hloc2.rd fun b _ h => h, hb19⟩
                have hmk2 : Hid (mk ≤ 16) := hmk1
                rw [List.length_append] at HREL
                clear hal1 had hrun2 hloc2 hbl2 hb19
                go_wp2_with (at_builtin; refine wpList_run rfl _ _ 22 rfl _ _ _ w19 rfl rfl HRUN2.out ?_)
                go_meet
                exact HREL.out
              · have e11 : (kd == 11) = false := by simpa using h11
                have HREL : Hid (∃ a c, Value.int .i64 mk = .int .i64 (mk + (if kd = 11 then 2 else 0)) ∧ Value.slice a18 lkl.length c18 = .slice a (lkl ++ eachS kd s').length c ∧ RdStrs (fun b => b < w18.heap.size) w18 (lkl ++ eachS kd s') (.slice a18 lkl.length c18) ∧ Below wq.heap.size wq w18) := by
                  have e1 : eachS kd s' = [] := by unfold eachS; rw [if_neg h11]
                  rw [if_neg h11, e1, List.append_nil]
                  exact ⟨a18, c18, by simp, rfl, HLOC.out.rd fun b _ h => h, HB18.out⟩
                clear h11
                go_wp2_with fail
                go_meet
                exact HREL.out
            case rest =>
              obtain ⟨ai, ci, rfl, rfl, hin, hbc⟩ := hcut.out
              obtain ⟨hre1, hre2⟩ := ref_eq t s.funcs wh mk kd lkl s' x.body x.els HLN2.out
              have hq4 := HQ3.out
              rw [hre1, hre2] at hq4
              clear hre1 hre2 hcut HRUN d0' d2' d2''
              have hz18 : wq.heap.size ≤ wc.heap.size := hbc.size
              have hek : 0 ≤ (if kd = 11 then 2 else 0 : Int) ∧ mk + (if kd = 11 then 2 else 0 : Int) ≤ 16 ∧ ((lkl ++ eachS kd s').length : Int) ≤ 1000 + (mk + (if kd = 11 then 2 else 0 : Int)) ∧ (kd = 2 → (if kd = 11 then 2 else 0 : Int) = 0) ∧ addS kd = (if kd = 11 then 2 else 0 : Int) + (if kd = 2 then 1 else 0 : Int) := by
                have h16 := HFEW.out
                unfold addS at h16 ⊢
                unfold eachS
                rw [List.length_append]
                by_cases e2 : kd = 2
                · subst e2; simp at h16 ⊢; omega
                · by_cases e11 : kd = 11
                  · subst e11; simp at h16 ⊢; omega
                  · simp [e2, e11] at h16 ⊢; omega
              obtain ⟨he0, hm16, hin2, hek2, hadd⟩ := hek
              rw [hadd] at hq4
              generalize (if kd = 11 then 2 else 0 : Int) = ek at hq4 he0 hm16 hin2 hek2 hadd ⊢
              obtain ⟨mi, hmi⟩ : ∃ mi, mk + ek = mi := ⟨_, rfl⟩
              rw [hmi] at hm16 hin2 hq4 ⊢
              have HMI := Lib.hid hmi
              obtain ⟨li, hli⟩ : ∃ li, lkl ++ eachS kd s' = li := ⟨_, rfl⟩
              rw [hli] at hin hin2 hq4 ⊢
              have hwc : Below wo.heap.size wo wc := HBq.out.trans (hbc.mono HBq.out.size)
              have hCB := fun W (hW : Below wc.heap.size wc W) => ihb li wh mi (fun b => b < W.heap.size) W _ _ _ _ (HRD.out W (hwc.trans (hW.mono hwc.size))).1 HLB.out hsz2.1 (HRD.out W (hwc.trans (hW.mono hwc.size))).2.1 (HRD.out W (hwc.trans (hW.mono hwc.size))).2.2.1 ((RdL.below hin (fun b hb => hb) hW (Nat.le_refl _)).keep (fun _ _ => rfl) fun b hb => Nat.lt_of_lt_of_le hb hW.size) ((Sts.below HXB.out (HFI2.out wo (Below.refl _ _)) (hwc.trans (hW.mono hwc.size)) (Nat.le_refl _)).keep (fun _ _ => rfl) (HFI2.out W (hwc.trans (hW.mono hwc.size)))) (by omega) hm16 hin2
              have hfb := St.kWs_few t s.funcs wh x.body li mi
              generalize St.kWs t s.funcs wh li mi x.body = pb at hCB hq4 hfb
              have HCB := Lib.hid hCB
              have HQ4 := Lib.hid hq4
              have HWC := Lib.hid hwc
              have hsr := (hBX.out wc (HBR.out.trans (hwc.mono HBR.out.size))).1
              have x0 := hsr.2 0 (by simp)
              have x1 := hsr.2 1 (by simp)
              have x2 := hsr.2 2 (by simp)
              have x3 := hsr.2 3 (by simp)
              have x4 := hsr.2 4 (by simp)
              have x5 := hsr.2 5 (by simp)
              have x6 := hsr.2 6 (by simp)
              have x7 := hsr.2 7 (by simp)
              have x8 := hsr.2 8 (by simp)
              have x9 := hsr.2 9 (by simp)
              have x10 := hsr.2 10 (by simp)
              have x11 := hsr.2 11 (by simp)
              have x12 := hsr.2 12 (by simp)
              have hxc := HXQ.out.below hbc HXQ.out.1
              have d4 := hxc.2 4 (by simp)
              simp only [List.getElem?_cons_succ, List.getElem?_cons_zero] at x0 x1 x2 x3 x4 x5 x6 x7 x8 x9 x10 x11 x12 d4
              have HXC := Lib.hid hxc
              clear hCB hq4 hmi hli hsr hxc hwc hbc hin
              go_upto_region 19 with (go_at_call 31; refine (HCB.out _ (Below.refl _ _)).mono ?_; rintro e w3 ⟨rfl, hb3⟩; unfold wrongR)
              have hAq : Hid (∃ (wp : World) (b19 : Nat), w3.alloc (.cells #[.int .i64 pb.1, .string pb.2] 79) = wp ∧ w3.heap.size = b19 ∧ Below wc.heap.size wc wp ∧ WrAt wp b19 pb) := ⟨_, _, rfl, rfl, hb3.alloc hb3.size _, wr_new _ _ _ _⟩
              obtain ⟨wp, b19, hwp, hb19, hbp, hw19⟩ := hAq.out
              rw [hwp]
              simp only [hb19]
              clear hAq hwp hb19 hb3 x0 x1 x2 x3 x4 x5 x6 x7 x8 x9 x10 x11 x12 d4 HCB w3
              obtain ⟨⟨q0, q1⟩, y0, y1⟩ := hw19
              have HBp := Lib.hid (HWC.out.trans (hbp.mono HWC.out.size))
              have hxq := HXC.out.below hbp HXC.out.1
              have HXP := Lib.hid hxq
              clear hbp
              by_cases hz : pb.1 = 0
              · have hp2 : (pb.1 != 0) = false := by simpa using hz
                have hfb2 := hfb hz hm16
                have hq5 := HQ4.out
                rw [seqW_fine hz] at hq5
                have hlb0 := St.locsL_nonneg x.body
                have hLB := fun W (hW : Below wp.heap.size wp W) => locsR_calls x.body (fun b => b < W.heap.size) W _ (fun b hb => hb) hsz2.1 ((Sts.below HXB.out (HFI2.out wo (Below.refl _ _)) (HBp.out.trans (hW.mono HBp.out.size)) (Nat.le_refl _)).keep (fun _ _ => rfl) (HFI2.out W (HBp.out.trans (hW.mono HBp.out.size))))
                obtain ⟨lb, hlb⟩ : ∃ lb, St.locsL x.body = lb := ⟨_, rfl⟩
                have HLB3 := Lib.hid hlb
                rw [hlb] at hlb0 hfb2 hq5 hLB
                have HLB2 := Lib.hid hLB
                have HQ5 := Lib.hid hq5
                have d4 := hxq.2 4 (by simp)
                simp only [List.getElem?_cons_succ, List.getElem?_cons_zero] at d4
                clear hlb hq5 hLB hxq hfb hz HQ4
                go_upto_region 22 with (go_at_call 60; refine (HLB2.out _ (Below.refl _ _)).mono ?_; rintro e w4 ⟨rfl, hb4⟩)
                have hbw4 : Below wo.heap.size wo w4 := HBp.out.trans (hb4.mono HBp.out.size)
                have hx4 := HXP.out.below hb4 HXP.out.1
                clear d4 q0 q1 y0 y1 HLB2 hb4
                have hCE := fun W (hW : Below w4.heap.size w4 W) => ihe lkl wh (mi + lb) (fun b => b < W.heap.size) W _ _ _ _ (HRD.out W (hbw4.trans (hW.mono hbw4.size))).1 HLE.out hsz2.2 (HRD.out W (hbw4.trans (hW.mono hbw4.size))).2.1 (HRD.out W (hbw4.trans (hW.mono hbw4.size))).2.2.1 (HRD.out W (hbw4.trans (hW.mono hbw4.size))).2.2.2 ((Sts.below HXE.out (HFI2.out wo (Below.refl _ _)) (hbw4.trans (hW.mono hbw4.size)) (Nat.le_refl _)).keep (fun _ _ => rfl) (HFI2.out W (hbw4.trans (hW.mono hbw4.size)))) (by have := HMI.out; omega) hfb2 (by have := HMI.out; omega)
                have hfe := St.kWs_few t s.funcs wh x.els lkl (mi + lb)
                have hq5 := HQ5.out
                generalize St.kWs t s.funcs wh lkl (mi + lb) x.els = pe at hCE hq5 hfe
                have HCE := Lib.hid hCE
                have HQ6 := Lib.hid hq5
                have HW4 := Lib.hid hbw4
                have hsr := (hBX.out w4 (HBR.out.trans (hbw4.mono HBR.out.size))).1
                have x0 := hsr.2 0 (by simp)
                have x1 := hsr.2 1 (by simp)
                have x2 := hsr.2 2 (by simp)
                have x3 := hsr.2 3 (by simp)
                have x4 := hsr.2 4 (by simp)
                have x5 := hsr.2 5 (by simp)
                have x6 := hsr.2 6 (by simp)
                have x7 := hsr.2 7 (by simp)
                have x8 := hsr.2 8 (by simp)
                have x9 := hsr.2 9 (by simp)
                have x10 := hsr.2 10 (by simp)
                have x11 := hsr.2 11 (by simp)
                have x12 := hsr.2 12 (by simp)
                have d5 := hx4.2 5 (by simp)
                simp only [List.getElem?_cons_succ, List.getElem?_cons_zero] at x0 x1 x2 x3 x4 x5 x6 x7 x8 x9 x10 x11 x12 d5
                have HX4 := Lib.hid hx4
                clear hCE hq5 HQ5 hsr hx4 hbw4
                go_upto_region 23 with (go_at_call 31; refine (HCE.out _ (Below.refl _ _)).mono ?_; rintro e w5 ⟨rfl, hb5⟩; unfold wrongR)
                have hAq : Hid (∃ (w6 : World) (b20 : Nat), w5.alloc (.cells #[.int .i64 pe.1, .string pe.2] 79) = w6 ∧ w5.heap.size = b20 ∧ Below w4.heap.size w4 w6 ∧ WrAt w6 b20 pe) := ⟨_, _, rfl, rfl, hb5.alloc hb5.size _, wr_new _ _ _ _⟩
                obtain ⟨w6, b20, hw6, hb20, hb6, hw20⟩ := hAq.out
                rw [hw6]
                simp only [hb20]
                clear hAq hw6 hb20 hb5 x0 x1 x2 x3 x4 x5 x6 x7 x8 x9 x10 x11 x12 d5 HCE w5
                obtain ⟨⟨q0, q1⟩, y0, y1⟩ := hw20
                have HB6 := Lib.hid (HW4.out.trans (hb6.mono HW4.out.size))
                have hx6 := HX4.out.below hb6 HX4.out.1
                have HX6 := Lib.hid hx6
                clear hb6
                by_cases hz : pe.1 = 0
                · have hp3 : (pe.1 != 0) = false := by simpa using hz
                  have hfe2 := hfe hz hfb2
                  have hq6 := HQ6.out
                  rw [seqW_fine hz] at hq6
                  have hle0 := St.locsL_nonneg x.els
                  have hLE := fun W (hW : Below w6.heap.size w6 W) => locsR_calls x.els (fun b => b < W.heap.size) W _ (fun b hb => hb) hsz2.2 ((Sts.below HXE.out (HFI2.out wo (Below.refl _ _)) (HB6.out.trans (hW.mono HB6.out.size)) (Nat.le_refl _)).keep (fun _ _ => rfl) (HFI2.out W (HB6.out.trans (hW.mono HB6.out.size))))
                  obtain ⟨le, hle⟩ : ∃ le, St.locsL x.els = le := ⟨_, rfl⟩
                  have HLBE := Lib.hid (And.intro HLB3.out hle)
                  have hzb20 : b20 < w6.heap.size := World.block_lt_of_cell? w6 ⟨b20, 0, none⟩ q0
                  rw [hle] at hle0 hfe2 hq6 hLE
                  have HLE2 := Lib.hid hLE
                  have HQ7 := Lib.hid hq6
                  have d5 := hx6.2 5 (by simp)
                  simp only [List.getElem?_cons_succ, List.getElem?_cons_zero] at d5
                  clear hle hq6 hLE hx6 hfe hz HQ6
                  go_upto_region 26 with (go_at_call 60; refine (HLE2.out _ (Below.refl _ _)).mono ?_; rintro e w7 ⟨rfl, hb7⟩)
                  have hx7 := HX6.out.below hb7 HX6.out.1
                  have HB7 := Lib.hid (HB6.out.trans (hb7.mono HB6.out.size))
                  have d0 := hx7.2 0 (by simp)
                  have d2 := hx7.2 2 (by simp)
                  have d2' := fun o => alloc_cell d2 o
                  simp only [List.getElem?_cons_succ, List.getElem?_cons_zero] at d0 d2 d2'
                  have HX7 := Lib.hid hx7
                  have hz67 := hb7.size
                  clear d5 q0 q1 y0 y1 HLE2 hb7 hx7
                  by_cases e2 : kd = 2
                  · have e2b : (kd == 2) = true := by simpa using e2
                    have hlS : locS kd lkl s' = lkl ++ [s'] := by unfold locS; rw [if_pos e2]
                    have hmj : mi + lb + le + 1 ≤ 16 := by
                      have h1 := HFEW.out
                      rw [hadd, if_pos e2, hek2 e2] at h1
                      have h2 := HMI.out
                      rw [hek2 e2] at h2
                      obtain ⟨h3, h4⟩ := HLN2.out e2
                      have h5 := HLBE.out
                      rw [h3, h4] at h5
                      have h6 : lb = 0 := h5.1.symm
                      have h7 : le = 0 := h5.2.symm
                      omega
                    have hz20 : b20 < w7.heap.size := Nat.lt_of_lt_of_le hzb20 hz67
                    have hzbx : bx < w7.heap.size := World.block_lt_of_cell? w7 ⟨bx, 2, none⟩ d2
                    have HCP : Hid (∀ (W : World) (g : Nat), Below w7.heap.size w7 W → w7.heap.size ≤ g → g < W.heap.size → ∃ v' w', (Builtin.append_ #[22, 22] 22 #[.slice (some ⟨g, 0, none⟩) 0 0, .slice la2 lkl.length lc2]).run Tryz.prog W = .ok v' w' ∧ (Loc b20 g w' lkl v' ∧ Below W.heap.size W w')) := fun W g hW h1 h2 =>
                      copy_run (HRD.out W (HB7.out.trans (hW.mono HB7.out.size))).2.2.2 (by omega) h2 (by have := HMI.out; omega) 22
                    have HPU : Hid (∀ (W : World) (v : Value) (g : Nat) (ad : Addr), Loc b20 g W lkl v → w7.heap.size ≤ g → g ≤ W.heap.size → b20 < W.heap.size → W.cell? ad = some (.string s') → ∃ v' w', (Builtin.append_ #[22, 22] 22 #[v, .slice (some ad) 1 1]).run Tryz.prog W = .ok v' w' ∧ (Loc b20 g w' (lkl ++ [s']) v' ∧ Below g W w')) := fun W v g ad h1 _ h2 h3 h4 =>
                      push_run h1 HXS.out h4 h3 h2 (by have := HMI.out; omega) 22
                    go_upto_region 27 with fail
                    clear d0
                    go_cut [2] (fun v2 wd => Hid (∃ a c, v2 = .slice a (lkl ++ [s']).length c ∧ RdStrs (fun b => b < wd.heap.size) wd (lkl ++ [s']) v2 ∧ Below w7.heap.size w7 wd))
                    case first =>
                      clear e2 hlS hmj e2b
                      -- DEV
                      go_region_law (first | (refine step_app rfl (.tmp 111) (.tmp 112) 22 rfl _ _ _ rfl rfl (HCP.out _ _ (by repeat (first | exact Below.refl _ _ | apply Below.drew | (refine Below.alloc ?_ (by simp <;> omega) _))) (by simp <;> omega) (by simp <;> omega)) ?_; rintro v1 w1 ⟨hl1, hb1⟩; have hbk : Below w7.heap.size w7 w1 := Below.trans (by repeat (first | exact Below.refl _ _ | apply Below.drew | (refine Below.alloc ?_ (by simp <;> omega) _))) (hb1.mono (by simp <;> omega)); have hbz1 := hb1.size; simp at hbz1; have dw := (hb1.cell (p := ⟨bx, 2, none⟩) (by simp <;> omega)).trans (by first | exact d2 | exact d2' _ | exact alloc_cell (d2' _) _ | simpa using d2' _ | simpa using alloc_cell (d2' _) _)) | (refine step_app rfl (.tmp 113) (.tmp 116) 22 rfl _ _ _ rfl rfl (HPU.out (w1.alloc (.cells #[.string s'] 9)) v1 _ _ (hl1.keep (fun g _ hgl _ => Below.heap_alloc w1 _ g hgl) (by simp) (Nat.le_refl _)) (by omega) (by simp; omega) (by simp; omega) (by simp)) ?_; rintro v2 w2 ⟨hl2, hb2⟩) | (refine step_app rfl (.tmp 113) (.tmp 116) 22 rfl _ _ _ rfl rfl (HPU.out w1 v1 _ _ hl1 (by omega) (by omega) (by omega) ((hb1.cell (by simp <;> omega)).trans (by simp))) ?_; rintro v2 w2 ⟨hl2, hb2⟩; have hbq := hb2))
                      all_goals (go_wp2_with fail; go_meet; obtain ⟨a9, k9, rfl, -⟩ := hl2.shape; exact ⟨a9, k9, rfl, hl2.rd fun b _ h => h, by first | exact hbk.trans (hb2.mono (by omega)) | exact (hbk.alloc hbk.size _).trans (hb2.mono (by omega))⟩)
                    case rest =>
                      obtain ⟨a9, k9, rfl, hrd9, hb9⟩ := hcut.out
                      have HREL : Hid (∃ lkl_1 mk_1 la2_1 lc2_1, Value.slice a9 (lkl ++ [s']).length k9 = .slice la2_1 lkl_1.length lc2_1 ∧ Value.int .i64 (mi + lb + le + 1) = .int .i64 mk_1 ∧ r = St.kWs t s.funcs wh lkl_1 mk_1 (L.drop (kk + 1)) ∧ Below W0.heap.size W0 wc ∧ RdStrs (fun b => b < wc.heap.size) wc lkl_1 (.slice a9 (lkl ++ [s']).length k9) ∧ 0 ≤ mk_1 ∧ mk_1 ≤ 16 ∧ (lkl_1.length : Int) ≤ 1000 + mk_1) := by
                        have hB7r := HBR.out.trans (HB7.out.mono HBR.out.size)
                        refine ⟨lkl ++ [s'], mi + lb + le + 1, a9, k9, rfl, rfl, ?_, hB7r.trans (hb9.mono hB7r.size), hrd9, by have := HMI.out; omega, hmj, by rw [List.length_append]; have := HMI.out; simp; omega⟩
                        have h1 := HQ7.out
                        rw [if_pos e2, hlS] at h1
                        rw [h1]
                        congr 1
                        have := HMI.out
                        omega
                      rw [List.length_append] at HREL ⊢
                      clear e2 hlS hcut hrd9 hb9 hmj
                      go_wp2_with fail
                      go_roundw
                      case rel => exact ⟨kk + 1, by omega, by go_num, HREL.out⟩
                      case measure => simp [intOf]; omega
                  · have e2b : (kd == 2) = false := by simpa using e2
                    have hlS : locS kd lkl s' = lkl := by unfold locS; rw [if_neg e2]
                    have HREL : Hid (∃ lkl_1 mk_1 la2_1 lc2_1, Value.slice la2 lkl.length lc2 = .slice la2_1 lkl_1.length lc2_1 ∧ Value.int .i64 (mi + lb + le) = .int .i64 mk_1 ∧ r = St.kWs t s.funcs wh lkl_1 mk_1 (L.drop (kk + 1)) ∧ Below W0.heap.size W0 w7 ∧ RdStrs (fun b => b < w7.heap.size) w7 lkl_1 (.slice la2 lkl.length lc2) ∧ 0 ≤ mk_1 ∧ mk_1 ≤ 16 ∧ (lkl_1.length : Int) ≤ 1000 + mk_1) := by
                      refine ⟨lkl, mi + lb + le, la2, lc2, rfl, rfl, ?_, HBR.out.trans (HB7.out.mono HBR.out.size), (HRD.out w7 HB7.out).2.2.2, by have := HMI.out; omega, hfe2, by have := HMI.out; omega⟩
                      have h1 := HQ7.out
                      rw [if_neg e2, hlS] at h1
                      rw [h1]
                      congr 1
                      have := HMI.out
                      omega
                    clear e2 hlS
                    go_wp2_with fail
                    go_roundw
                    case rel => exact ⟨kk + 1, by omega, by go_num, HREL.out⟩
                    case measure => simp [intOf]; omega
                · have hp3 : (pe.1 != 0) = true := by simpa using hz
                  have hfin : Hid (r = pe) := by show _ = _; rw [HQ6.out, seqW_bad hz]
                  obtain ⟨-, ⟨⟨h0', h1'⟩, y0', y1'⟩, hbw⟩ := hBX.out w6 (HBR.out.trans (HB6.out.mono HBR.out.size))
                  have HBW2 := Lib.hid hbw
                  clear hz hfe hbw hx6
                  go_wp2_with fail
                  exact bodyPost_ret (v := wrongR pe) (by simp [results, Tryz.results31, go_sem, wrongR, h0', h1']; try rfl) rfl ⟨by rw [hfin.out], two_set HBW2.out (by omega)⟩
              · have hp2 : (pb.1 != 0) = true := by simpa using hz
                have hfin : Hid (r = pb) := by show _ = _; rw [HQ4.out, seqW_bad hz]
                obtain ⟨-, ⟨⟨h0', h1'⟩, y0', y1'⟩, hbw⟩ := hBX.out wp (HBR.out.trans (HBp.out.mono HBR.out.size))
                have HBW2 := Lib.hid hbw
                clear hz hfb hbw hxq
                go_wp2_with fail
                exact bodyPost_ret (v := wrongR pb) (by simp [results, Tryz.results31, go_sem, wrongR, h0', h1']; try rfl) rfl ⟨by rw [hfin.out], two_set HBW2.out (by omega)⟩
          · have hp1 : (p.1 != 0) = true := by simpa using hz
            have hfin : Hid (r = p) := by show _ = _; rw [HQ2.out, seqW_bad hz]
            obtain ⟨-, ⟨⟨h0', h1'⟩, y0', y1'⟩, hbw⟩ := hBX.out wq (HBR.out.trans (HBq.out.mono HBR.out.size))
            have HBW2 := Lib.hid hbw
            clear hz hfew hbw
            go_wp2_with fail
            exact bodyPost_ret (v := wrongR p) (by simp [results, Tryz.results31, go_sem, wrongR, h0', h1']; try rfl) rfl ⟨by rw [hfin.out], two_set HBW2.out (by omega)⟩
    · have hfin : Hid (r = fineW) := by show _ = _; rw [hq, List.drop_eq_nil_of_le (by omega)]; rfl
      have hki : decide ((kk : Int) < (L.length : Int)) = false := by simpa using hlt
      clear hq hla
      have HBR := Lib.hid hBr
      have HBXr := Lib.hid (fun w3 (hb : Below wr.heap.size wr w3) => hBX.out w3 (hBr.trans (hb.mono hBr.size)))
      clear hBr hlk
      go_wp2_with (go_at_call 52; refine (HFI.out _).mono ?_; rintro e w3 ⟨rfl, hb3⟩; obtain ⟨-, ⟨⟨f0, f1⟩, z0, z1⟩, hbw⟩ := HBXr.out w3 hb3; unfold wrongR fineW)
      exact bodyPost_ret (v := wrongR fineW) (by simp [results, Tryz.results31, go_sem, wrongR, fineW, f0, f1]; try rfl) rfl ⟨by rw [hfin.out], two_set hbw (by omega)⟩
end Go.Proofs.YtblhpiebheommaaGreat
