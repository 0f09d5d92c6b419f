/- The walk of kinds' checker.block. -/
import Derived.Test.YtblhpiebheommaaGreatKinds9
import Derived.StillTailTactics
namespace Go.Proofs.YtblhpiebheommaaGreat
open Go.RowKit

/-- An append, by its run. -/
theorem wpList_run {P : Program} {w : World} {ops : Array Oper} {rest : List Oper} {o : Oper} {a : Act} {Q : Exit → Act → World → Prop} (hg : o.guard = none) (s x : Operand) (t : TypeId) (hop : o.op = Op.call { callee := Callee.builtin Builtin.append, args := #[s, x], argTypes := #[t, t] })
    (v1 v2 v' : Value) (w' : World) (hs : a.eval s = v1) (hx : a.eval x = v2) (hrun : (Builtin.append_ #[t, t] o.type #[v1, v2]).run P w = .ok v' w') (hK : wpList P ops Q rest (a.put o.dst v') w') : wpList P ops Q (o :: rest) a w := by
  refine wpList_plain hg fun K hK' => ?_
  unfold Oper.wp
  simp [execOp, hop, resolve, invoke, builtin, hs, hx, hrun, Result.andThen]
  exact hK' _ _ hK

/-- Only the normal way out. -/
def NormE (J : Act → World → Prop) : Exit → Act → World → Prop
  | .normal, a, w => J a w
  | _, _, _ => False

def BlkC (t : List NameD) (fs : List FuncD) (L : List St) : Prop := ∀ (l seen : List ByteArray) (wh m : Int) (F G : Nat → Prop) (w : World) (B lo : Nat) (v sv lv : Value), Ck F w B t fs wh m lo l v → Sts F w L lv → RdStrs G w seen sv → Inn G w → 0 ≤ m → m ≤ 16 → lo ≤ w.heap.size → (l.length + seen.length : Int) ≤ 1000 + m →
  Calls Tryz.prog 39 #[.pointer (some ⟨B, 0, none⟩), lv, sv] w (PostW B (fun _ => False) w (St.kWs t fs wh (l ++ seen) m L) l.length (fun w' => ∃ v', Ck F w' B t fs wh (m + St.locsL L) w.heap.size l v' ∧ Whence v l.length w.heap.size v' l))

set_option maxRecDepth 100000 in
set_option maxHeartbeats 8000000 in
theorem block_calls (t : List NameD) (fs : List FuncD) (things : Nat) (hri : Rises t) (ht : t.length ≤ 1000000000000) (htab : TabOk t fs things) : ∀ L, BlkC t fs L := by
  refine blocks_ind fun L ih => ?_
  intro l seen wh m F G w B lo v sv lv h hL hs hG hm0 hm1 hlo hlen
  have hmf : ∀ (fn : Fn) (first cap : Array Value) (w : World), (Instr.makeFunc fn first cap).run Tryz.prog w = .ok (.func fn first cap) w := fun _ _ _ _ => rfl
  have hlt := h.lt
  have hbW : Below w.heap.size w ((w.alloc (.cells #[.pointer (some ⟨B, 0, none⟩)] 93)).alloc (.cells #[.int .i64 l.length] 3)) := ((Below.refl _ w).alloc (Nat.le_refl _) _).alloc (by simp) _
  obtain ⟨la, lcap, rfl⟩ := hL.shape
  obtain ⟨va, vcap, rfl, hvc⟩ := h.loc.shape
  obtain ⟨sa, scap, rfl⟩ := hs.shape
  have hcl := h.cl
  have hz := h.z14
  have hA : Hid (∃ W0 : World, ((w.alloc (.cells #[.pointer (some ⟨B, 0, none⟩)] 93)).alloc (.cells #[.int .i64 l.length] 3)) = W0 ∧ Below w.heap.size w W0 ∧ W0.heap.size = w.heap.size + 2 ∧ W0.cell? ⟨w.heap.size, 0, none⟩ = some (.pointer (some ⟨B, 0, none⟩)) ∧ W0.cell? ⟨w.heap.size + 1, 0, none⟩ = some (.int .i64 l.length)) := ⟨_, rfl, hbW, by simp, by simp, by simp⟩
  clear hbW
  go_enter_defers Tryz.func39, Tryz.ntmps39
  go_upto_region 3 with fail
  obtain ⟨W0, hW0, hB0, hz0, hc0, hc1⟩ := hA.out
  rw [hW0]
  clear hA hW0
  have h0 := h.below hB0 (Nat.le_refl _)
  have hcl0 := h0.cl
  have hlt0 : B < W0.heap.size := h0.lt
  obtain ⟨v1, w2, hrun, h14, hfz, hb2, hC1, hT1, hwn⟩ := seen_step (G := G) h0 (hs.below hG hB0 (Nat.le_refl _)) (by omega)
  obtain ⟨va1, vcap1, rfl, -⟩ := hC1.loc.shape
  have HR := Lib.hid hrun
  have hbb : w2.cell? ⟨w.heap.size, 0, none⟩ = some (.pointer (some ⟨B, 0, none⟩)) := (hb2.cell (p := ⟨w.heap.size, 0, none⟩) (by show w.heap.size < _; omega)).trans hc0
  have hFr : Fr B l.length w (w2.setCell ⟨B, 14, none⟩ (.slice va1 (l ++ seen).length vcap1)) := by
    have h00 : Fr B l.length w W0 := ⟨.ofBelow hB0 hlt, by omega, hc0, hc1⟩
    exact h00.step hlt hT1 (fun _ _ h => h.elim)
  rw [hz0] at hC1 hwn
  have HC1 := Lib.hid hC1
  have HFr := Lib.hid hFr
  have HWN := Lib.hid hwn
  clear hC1 hFr hwn hrun hb2 hT1 h0
  have hp0 : (0 : Int) ≤ (l.length : Int) := by omega
  have hp1 : (l.length : Int) ≤ (vcap : Int) := by omega
  have hadd : Option.map (fun x => Addr.add x 0) va = va := by cases va <;> simp [add_zero']
  obtain ⟨W1, hW1⟩ : ∃ W1, w2.setCell ⟨B, 14, none⟩ (.slice va1 (l ++ seen).length vcap1) = W1 := ⟨_, rfl⟩
  rw [hW1] at HC1 HFr
  have HW1 := Lib.hid hW1
  clear hW1
  refine wp_mono (Q := NormE (fun a' w' => w' = W1 ∧ a' = ⟨#[.pointer (some ⟨B, 0, none⟩), .slice la L.length lcap, .slice sa seen.length scap, .pointer (some ⟨w.heap.size, 0, none⟩), undef, undef, .pointer (some ⟨w.heap.size + 1, 0, none⟩), undef, undef, undef, undef, .pointer (some ⟨B, 0, none⟩), .pointer (some ⟨B, 0, none⟩), .pointer (some ⟨B, 14, none⟩), .slice va l.length vcap, .int .i64 l.length, .func (.func 67) #[] #[.pointer (some ⟨w.heap.size, 0, none⟩), .pointer (some ⟨w.heap.size + 1, 0, none⟩)], .pointer (some ⟨B, 0, none⟩), .pointer (some ⟨B, 0, none⟩), .pointer (some ⟨B, 0, none⟩), .pointer (some ⟨B, 14, none⟩), .slice va l.length vcap, .int .i64 l.length, .int .i64 l.length, .slice va l.length l.length, .slice sa seen.length scap, .slice va1 (l.length + seen.length) vcap1, .pointer (some ⟨B, 0, none⟩), .pointer (some ⟨B, 14, none⟩), undef, undef, undef, undef, undef, undef, undef, undef, undef, undef, undef, undef, undef, undef, undef, undef, undef, undef, undef, undef, undef, undef, undef, undef, undef, undef, undef, undef, undef, undef, undef, undef, undef, undef, undef, undef, undef, undef, undef], blkD w⟩)) ?_ ?_
  case refine_1 =>
    rw [List.length_append] at HW1
    -- DEV
    go_region_law (refine step_run rfl _ _ 22 rfl _ _ _ w2 rfl rfl HR.out ?_)
    all_goals exact ⟨HW1.out, rfl⟩
  case refine_2 =>
    intro e a' w' hn
    cases e with
    | normal =>
      obtain ⟨rfl, rfl⟩ := hn
      clear h14 hfz hbb hadd hp0 hp1 hcl0 hlt0 hc0 hc1 hcl hz hmf hB0 HW1 HR
      have HL := Lib.hid hL
      have HH := Lib.hid h
      have HI := Lib.hid ih
      have Hlt := Lib.hid hlt
      obtain ⟨_, hll, hlc, hla⟩ := hL.opn
      obtain ⟨NL, hNL⟩ : ∃ NL, NL = L.length := ⟨_, rfl⟩
      have HG : Hid (∀ wr, Fr B l.length w wr → wr.cell? ⟨w.heap.size, 0, none⟩ = some (.pointer (some ⟨B, 0, none⟩))) := fun wr h => h.b0
      have HFin : Hid (∀ (w' : World) (m' : Int) (lk : List ByteArray) (vk : Value) (tmps : Array Value), Fr B l.length w w' → Ck F w' B t fs wh m' (w.heap.size + 2) lk vk → Whence (.slice va l.length vcap) l.length (w.heap.size + 2) vk lk → l <+: lk → (St.kWs t fs wh (l ++ seen) m L).1 = 0 → m' = m + St.locsL L → Leaves Tryz.prog Tryz.f39 tmps (PostW B (fun _ => False) w (St.kWs t fs wh (l ++ seen) m L) l.length (fun w' => ∃ v', Ck F w' B t fs wh (m + St.locsL L) w.heap.size l v' ∧ Whence (.slice va l.length vcap) l.length w.heap.size v' l)) (blkD w) .returning w') := fun w' m' lk vk tmps hF hC hW hp hz hm => by subst hm; exact blk_good h hF hC hW hp hz
      go_wp2_with fail
      go_loopw [31] (fun i wr => ∃ kk : Nat, kk ≤ L.length ∧ i = .int .i64 kk ∧ Fr B l.length w wr ∧ Hid (∃ lk mk vk, St.kWs t fs wh (l ++ seen) m L = St.kWs t fs wh lk mk (L.drop kk) ∧ m + St.locsL L = mk + St.locsL (L.drop kk) ∧ Ck F wr B t fs wh mk (w.heap.size + 2) lk vk ∧ Whence (.slice va l.length vcap) l.length (w.heap.size + 2) vk lk ∧ l <+: lk ∧ (lk.length : Int) ≤ 1000 + mk ∧ 0 ≤ mk ∧ mk ≤ 16)) (fun i _ => L.length - (intOf i).toNat)
      case atStart =>
        refine ⟨0, Nat.zero_le _, rfl, HFr.out, l ++ seen, m, _, by rw [List.drop_zero], by rw [List.drop_zero], HC1.out, HWN.out, List.prefix_append _ _, ?_, hm0, hm1⟩
        rw [List.length_append]; omega
      case round =>
        obtain ⟨kk, hk, rfl, hFr1, hinv⟩ := hrel
        obtain ⟨lk, mk, vk, hq, hml, hC, hW, hpre, hlk, hmk0, hmk1⟩ := hinv.out
        clear hinv
        by_cases hlt2 : kk < L.length
        · obtain ⟨b, off, rfl, hFb, hel⟩ := hla (by omega)
          have hFw : ∀ W, Turn B (fun b => w.heap.size ≤ b) w W → ∀ b, F b → W.heap[b]? = w.heap[b]? := fun W hT b hb => hT.but.block b (HH.out.inw b hb) fun hs => by
            have h1 := HH.out.inn b hb
            rcases hs with e | e
            · omega
            · have e2 : w.heap.size ≤ b := e; omega
          obtain ⟨kd, n', s', a', m', cap', a2, m2, cap2, a3, m3, cap3, hx, g0, g1, g2, g3, g4, g5⟩ := hel wr (hFw wr hFr1.turn b hFb) kk hlt2
          obtain ⟨hxk, -, hxn, -, -, hxs, hxa, hxb, hxe⟩ := hx.parts
          obtain ⟨ihb, ihe⟩ := ih _ (List.getElem_mem hlt2)
          have hdrop : L.drop kk = L[kk] :: L.drop (kk + 1) := List.drop_eq_getElem_cons hlt2
          rw [hdrop, St.kWs_cons, hxk, hxn] at hq
          rw [hdrop, St.locsL_cons, hxk] at hml
          clear hdrop
          generalize L[kk] = x at hq hml hx hxk hxn hxa hxb hxe ihb ihe
          have hxw : RdSt F wr x _ := hx.keep (hFw wr hFr1.turn) (fun _ h => h)
          have hxbw : Sts F wr x.body _ := let ⟨c, h1, h2⟩ := hxb; ⟨c, h1.keep (hFw wr hFr1.turn) (fun _ h => h), h2.keep (hFw wr hFr1.turn) (fun _ h => h)⟩
          have hxew : Sts F wr x.els _ := let ⟨c, h1, h2⟩ := hxe; ⟨c, h1.keep (hFw wr hFr1.turn) (fun _ h => h), h2.keep (hFw wr hFr1.turn) (fun _ h => h)⟩
          have hxaw : Exs F wr x.args _ := let ⟨c, h1, h2⟩ := hxa; ⟨c, h1.keep (hFw wr hFr1.turn) (fun _ h => h), h2.keep (hFw wr hFr1.turn) (fun _ h => h)⟩
          have HSZ := Lib.hid hxs
          clear hx hxb hxe hxa hel hla ih HI hxs
          have hwz := hFr1.size
          obtain ⟨hm', hal, hac, haa⟩ := hxaw.opn
          subst hm'
          have hb0 := hFr1.b0
          have hkey := HH.out.lt
          -- names for what the walk wants
          obtain ⟨wo, hwo⟩ : ∃ wo : World, wo = wr := ⟨_, rfl⟩
          rw [← hwo] at hFr1 hC hxw hxbw hxew haa hwz hb0 g0 g1 g2 g3 g4 g5 ⊢
          clear hwo hxaw wr
          have hBb : Below wo.heap.size wo (wo.alloc (.cells #[.int .i64 kd, .int .i64 n', .string s', .slice a' x.args.length cap', .slice a2 m2 cap2, .slice a3 m3 cap3] 60)) := (Below.refl _ wo).alloc (Nat.le_refl _) _
          have hA : Hid (∃ wb : World, wo.alloc (.cells #[.int .i64 kd, .int .i64 n', .string s', .slice a' x.args.length cap', .slice a2 m2 cap2, .slice a3 m3 cap3] 60) = wb ∧ Below wo.heap.size wo wb ∧ wo.heap.size < wb.heap.size ∧ wb.cell? ⟨wo.heap.size, 0, none⟩ = some (.int .i64 kd) ∧ wb.cell? ⟨wo.heap.size, 1, none⟩ = some (.int .i64 n') ∧ wb.cell? ⟨wo.heap.size, 2, none⟩ = some (.string s') ∧ wb.cell? ⟨wo.heap.size, 3, none⟩ = some (.slice a' x.args.length cap') ∧ wb.cell? ⟨wo.heap.size, 4, none⟩ = some (.slice a2 m2 cap2) ∧ wb.cell? ⟨wo.heap.size, 5, none⟩ = some (.slice a3 m3 cap3)) := ⟨_, rfl, hBb, by simp, by simp, by simp, by simp, by simp, by simp, by simp⟩
          have hE := Lib.hid (fun (e : Ex) (W : World) (cs : List Value) (hW : Below wo.heap.size wo W) (hr : RdEx F W e cs) => kexpr_calls t fs things hri ht htab e lk (FB F wo B) W B cs (hC.fin.below hW) (hC.ckt.below hC.fin hW) (hC.ckl.below hC.fin hW) (hC.ckf.below hC.fin hW) (hr.keep (fun _ _ => rfl) (fun _ h => .inl h)))
          have hI := Lib.hid (fun (W : World) (hW : Below wo.heap.size wo W) => itself_calls t fs lk x wh mk F W B (w.heap.size + 2) vk _ (hC.below hW (Nat.le_refl _)) (hxw.below hC.inw hW (Nat.le_refl _)) hri ht hmk0 hmk1 (by omega) (Nat.le_trans hwz hW.size))
          rw [hxk, hxn] at hI
          have HC := Lib.hid hC
          have HF1 := Lib.hid hFr1
          have HQ := Lib.hid hq
          have HML := Lib.hid hml
          have HW := Lib.hid hW
          have HXB := Lib.hid hxbw
          have HXE := Lib.hid hxew
          have HIB := Lib.hid ihb
          have HIE := Lib.hid ihe
          have HPRE := Lib.hid hpre
          clear hC hFr1 hq hml hW hxbw hxew ihb ihe hpre hxw hxk hxn hBb
          go_upto_block 2 with fail
          obtain ⟨wb, hwb, hBb, hzb, c0, c1, c2, c3, c4, c5⟩ := hA.out
          rw [hwb]
          clear hA hwb g0 g1 g2 g3 g4 g5
          go_wp2_with fail
          obtain ⟨AL, hAL⟩ : ∃ AL, AL = x.args := ⟨_, rfl⟩
          go_loopw [38] (fun j wr => ∃ jj : Nat, jj ≤ x.args.length ∧ j = .int .i64 jj ∧ Hid (Ex.kWs t fs lk x.args = Ex.kWs t fs lk (x.args.drop jj)) ∧ Below wb.heap.size wb wr) (fun j _ => x.args.length - (intOf j).toNat)
          case atStart => exact ⟨0, Nat.zero_le _, rfl, by show _ = _; rw [List.drop_zero], Below.refl _ _⟩
          case round =>
            obtain ⟨jj, hj, rfl, hjq, hB⟩ := hrel
            have hBr : Below wo.heap.size wo wr := hBb.trans (hB.mono hBb.size)
            have hbr0 : wr.cell? ⟨w.heap.size, 0, none⟩ = some (.pointer (some ⟨B, 0, none⟩)) := (hBr.cell (p := ⟨w.heap.size, 0, none⟩) (by show w.heap.size < _; omega)).trans hb0
            have hbr0' : ∀ o, (wr.alloc o).cell? ⟨w.heap.size, 0, none⟩ = some (.pointer (some ⟨B, 0, none⟩)) := fun o => (World.cell?_of_block (w := wr) (a := ⟨w.heap.size, 0, none⟩) (Below.heap_alloc wr o _ (by show w.heap.size < _; have := hBr.size; omega))).trans hbr0
            by_cases hlt3 : jj < x.args.length
            · obtain ⟨b2, off2, rfl, hFb2, hel2⟩ := haa (by omega)
              obtain ⟨ke, oe, ne, se, ae, me, ce, hxe, f0, f1, f2, f3, f4⟩ := hel2 wr (hBr.block b2 (HC.out.inw b2 hFb2)) jj hlt3
              have hcall := fun o => hE.out x.args[jj] (wr.alloc o) _ (hBr.alloc hBr.size o) ((hxe.below HC.out.inw hBr (Nat.le_refl _)).alloc (HC.out.inw.below hBr) o)
              have hdk : Ex.kWs t fs lk (x.args.drop jj) = seqW (x.args[jj].kW t fs lk) (Ex.kWs t fs lk (x.args.drop (jj + 1))) := by rw [List.drop_eq_getElem_cons hlt3]; rfl
              clear hel2 haa hxe
              by_cases hz : (x.args[jj].kW t fs lk).1 = 0
              · have hnx : Hid (Ex.kWs t fs lk x.args = Ex.kWs t fs lk (x.args.drop (jj + 1))) := by show _ = _; rw [hjq.out, hdk, seqW_fine hz]
                have HCE := Lib.hid (fun o => judged_ok (hcall o) hz)
                clear hcall hdk hz hjq
                go_wp2_with (go_at_call 37; refine (HCE.out _).mono ?_; rintro e w1 ⟨rfl, hb⟩)
                go_roundw
                case rel => exact ⟨jj + 1, by omega, by go_num, hnx, below_on1 hB (Nat.le_refl _) hb⟩
                case measure => simp [intOf]; omega
              · have HP : Hid (St.kWs t fs wh (l ++ seen) m L = ((x.args[jj].kW t fs lk).1, (x.args[jj].kW t fs lk).2)) := by
                  have : Ex.kWs t fs lk x.args = x.args[jj].kW t fs lk := by rw [hjq.out, hdk, seqW_bad hz]
                  show _ = _
                  rw [HQ.out, seqW_bad (by rw [this]; exact hz), this]
                have HCE := Lib.hid (fun o => judged_bad (hcall o) hz)
                have HZ := Lib.hid hz
                clear hcall hdk hz hjq HQ
                generalize x.args[jj].kW t fs lk = p at HCE HZ HP
                go_wp2_with (go_at_call 37; refine (HCE.out _).mono ?_; rintro e w1 ⟨rfl, hb⟩)
                have hb1 := below_on1 hBr (Nat.le_refl _) hb
                exact blk_bad (HF1.out.below Hlt.out hb1) (HC.out.held.below hb1 HC.out.lt) HPRE.out.length_le ((hb1.frozen (p := ⟨B, 14, none⟩) HC.out.lt).trans HC.out.z14) HP.out HZ.out
            · have HEZ : Hid (Ex.kWs t fs lk x.args = fineW) := by show _ = _; rw [hjq.out, List.drop_eq_nil_of_le (by omega)]; rfl
              have HQ2 : Hid (St.kWs t fs wh (l ++ seen) m L = seqW (ownSt t lk wh mk kd s') (seqW (St.kWs t fs wh (locS kd lk s' ++ eachS kd s') (mk + addS kd) x.body) (seqW (St.kWs t fs wh (locS kd lk s') (mk + addS kd + St.locsL x.body) x.els) (St.kWs t fs wh (locS kd lk s') (mk + addS kd + St.locsL x.body + St.locsL x.els) (L.drop (kk + 1)))))) := by show _ = _; rw [HQ.out, seqW_fine (by rw [HEZ.out]; rfl)]
              have r0 := (hB.cell (p := ⟨wo.heap.size, 0, none⟩) hzb).trans c0
              have r1 := (hB.cell (p := ⟨wo.heap.size, 1, none⟩) hzb).trans c1
              have r2 := (hB.cell (p := ⟨wo.heap.size, 2, none⟩) hzb).trans c2
              have r3 := (hB.cell (p := ⟨wo.heap.size, 3, none⟩) hzb).trans c3
              have r4 := (hB.cell (p := ⟨wo.heap.size, 4, none⟩) hzb).trans c4
              have r5 := (hB.cell (p := ⟨wo.heap.size, 5, none⟩) hzb).trans c5
              have hcalli := hI.out wr hBr
              clear HQ HEZ hjq hE hI haa c0 c1 c2 c3 c4 c5 hb0
              by_cases hoz : (ownSt t lk wh mk kd s').1 = 0
              · have HQ3 : Hid (St.kWs t fs wh (l ++ seen) m L = seqW (St.kWs t fs wh (locS kd lk s' ++ eachS kd s') (mk + addS kd) x.body) (seqW (St.kWs t fs wh (locS kd lk s') (mk + addS kd + St.locsL x.body) x.els) (St.kWs t fs wh (locS kd lk s') (mk + addS kd + St.locsL x.body + St.locsL x.els) (L.drop (kk + 1))))) := by show _ = _; rw [HQ2.out, seqW_fine hoz]
                have hmk2 := ownSt_fine hoz hmk1
                have HCI := Lib.hid (post_ok hcalli hoz)
                have hstep : Hid (∀ w3 : World, Turn B (fun b => vk.ownBlock = some b ∧ w.heap.size + 2 ≤ b ∧ B < b) wr w3 → (∃ v', Ck F w3 B t fs wh (mk + addS kd) (w.heap.size + 2) (locS kd lk s') v' ∧ Whence vk lk.length (w.heap.size + 2) v' (locS kd lk s')) →
                    Fr B l.length w w3 ∧ w.heap.size + 2 ≤ w3.heap.size ∧ (∃ v3, Ck F w3 B t fs wh (mk + addS kd) (w.heap.size + 2) (locS kd lk s') v3 ∧ Whence (.slice va l.length vcap) l.length (w.heap.size + 2) v3 (locS kd lk s')) ∧ w3.cell? ⟨w.heap.size, 0, none⟩ = some (.pointer (some ⟨B, 0, none⟩)) ∧ (∀ j u, wr.cell? ⟨wo.heap.size, j, none⟩ = some u → w3.cell? ⟨wo.heap.size, j, none⟩ = some u) ∧ Sts F w3 x.body (.slice a2 m2 cap2) ∧ Sts F w3 x.els (.slice a3 m3 cap3) ∧ wo.heap.size < w3.heap.size) := fun w3 hT ⟨v3, hC3, hW3⟩ => by
                  have hown : ∀ b, vk.ownBlock = some b → b < wo.heap.size := fun b hb => by
                    rcases HC.out.loc.2 with ⟨e, _⟩ | ⟨g, cp, e, h1, h2, _⟩
                    · rw [e] at hb; cases hb
                    · rw [e] at hb; cases hb; exact h2
                  have hF3 := (HF1.out.below Hlt.out hBr).step Hlt.out hT (fun _ _ h => h.2.1)
                  have hzr : wo.heap.size < wr.heap.size := Nat.lt_of_lt_of_le hzb hB.size
                  refine ⟨hF3, hF3.size, ⟨v3, hC3, HW.out.trans hW3 (Nat.le_refl _)⟩, hF3.b0, fun j u hu => ?_, ?_, ?_, Nat.lt_of_lt_of_le hzr hT.but.size⟩
                  · rw [World.cell?_of_block (w := wr) (a := ⟨wo.heap.size, j, none⟩) (hT.but.block wo.heap.size hzr (by rintro (e | e); have : wo.heap.size = B := e; omega; exact absurd (hown _ e.1) (Nat.lt_irrefl _)))]
                    exact hu
                  · have hk : ∀ b, F b → w3.heap[b]? = wo.heap[b]? := fun b hb => (hT.but.block b (by have := HC.out.inw b hb; omega) (by have := HC.out.inn b hb; rintro (e | e); omega; have := e.2.2; omega)).trans (hBr.block b (HC.out.inw b hb))
                    obtain ⟨c, h1, h2⟩ := HXB.out
                    exact ⟨c, h1.keep hk (fun _ h => h), h2.keep hk (fun _ h => h)⟩
                  · have hk : ∀ b, F b → w3.heap[b]? = wo.heap[b]? := fun b hb => (hT.but.block b (by have := HC.out.inw b hb; omega) (by have := HC.out.inn b hb; rintro (e | e); omega; have := e.2.2; omega)).trans (hBr.block b (HC.out.inw b hb))
                    obtain ⟨c, h1, h2⟩ := HXE.out
                    exact ⟨c, h1.keep hk (fun _ h => h), h2.keep hk (fun _ h => h)⟩
                have HPRE3 : Hid (l <+: locS kd lk s') := by
                  show _
                  unfold locS
                  split
                  · exact HPRE.out.trans (List.prefix_append _ _)
                  · exact HPRE.out
                have hlen3 : ((locS kd lk s').length : Int) + (if kd = 11 then 1 else 0) ≤ 1000 + (mk + addS kd) := by
                  unfold locS addS
                  by_cases e2 : kd = 2
                  · rw [if_pos e2, if_pos e2, List.length_append, e2]; simp; omega
                  · rw [if_neg e2, if_neg e2]; split <;> omega
                have hadd0 := addS_nonneg kd
                have hk11b : ∀ z : Int, kd = 11 → (if kd = 11 then z else 0) = z := fun z h => if_pos h
                clear hoz HQ2 hcalli
                go_upto_region 13 with (go_at_call 68; refine HCI.out.mono ?_; rintro e w3 ⟨rfl, hex, hT3⟩)
                obtain ⟨hF3, hz3, ⟨v3, hC3, hW3⟩, d0, hdd, hXB3, hXE3, hz30⟩ := hstep.out w3 hT3 hex
                have d00 := hdd 0 _ r0
                have d2 := hdd 2 _ r2
                have d4 := hdd 4 _ r4
                have d5 := hdd 5 _ r5
                have HC3 := Lib.hid hC3
                have HF3 := Lib.hid hF3
                have HW3 := Lib.hid hW3
                have HXB3 := Lib.hid hXB3
                have HXE3 := Lib.hid hXE3
                clear hex hT3 hC3 hF3 hW3 hXB3 hXE3 hstep HCI hdd r0 r1 r2 r3 r4 r5 hbr0 HC HF1 HW HXB HXE
                have hlB := HC3.out.lt
                by_cases hk11 : kd = 11
                · rw [hk11b 1 hk11] at hlen3
                  have e11 : (kd == 11) = true := by simpa using hk11
                  clear hk11b
                  have hcallb := HIB.out (locS kd lk s') [s'] wh (mk + addS kd) F _ (w3.alloc (.cells #[.string s'] 9)) B (w.heap.size + 2) v3 (.slice (some ⟨w3.heap.size, 0, none⟩) 1 1) (.slice a2 m2 cap2) (HC3.out.below ((Below.refl _ w3).alloc (Nat.le_refl _) _) (Nat.le_refl _)) (HXB3.out.below HC3.out.inw ((Below.refl _ w3).alloc (Nat.le_refl _) _) (Nat.le_refl _)) (show RdStrs (fun b => b = w3.heap.size) _ [s'] _ from built_strs w3 [s'] (by simp) (by intro y hy; simp at hy; subst hy; exact HSZ.out)) (fun b hb => by subst hb; simp) (by omega) hmk2 (by simp; omega) (by simp; omega)
                  have hbeq : locS kd lk s' ++ eachS kd s' = locS kd lk s' ++ [s'] := by rw [show eachS kd s' = [s'] by rw [hk11]; rfl]
                  rw [hbeq] at HQ3
                  by_cases hbz : (St.kWs t fs wh (locS kd lk s' ++ [s']) (mk + addS kd) x.body).1 = 0
                  · have HQ4 : Hid (St.kWs t fs wh (l ++ seen) m L = seqW (St.kWs t fs wh (locS kd lk s') (mk + addS kd + St.locsL x.body) x.els) (St.kWs t fs wh (locS kd lk s') (mk + addS kd + St.locsL x.body + St.locsL x.els) (L.drop (kk + 1)))) := by show _ = _; rw [HQ3.out, seqW_fine hbz]
                    have hfew := St.kWs_few t fs wh x.body _ _ hbz hmk2
                    have HCB := Lib.hid (post_ok hcallb hbz)
                    have hnn := St.locsL_nonneg x.body
                    have hstep : Hid (∀ w4 : World, Turn B (fun _ => False) (w3.alloc (.cells #[.string s'] 9)) w4 → (∃ v', Ck F w4 B t fs wh (mk + addS kd + St.locsL x.body) (w3.alloc (.cells #[.string s'] 9)).heap.size (locS kd lk s') v' ∧ Whence v3 (locS kd lk s').length (w3.alloc (.cells #[.string s'] 9)).heap.size v' (locS kd lk s')) →
                        Fr B l.length w w4 ∧ w.heap.size + 2 ≤ w4.heap.size ∧ (∃ v4, Ck F w4 B t fs wh (mk + addS kd + St.locsL x.body) (w.heap.size + 2) (locS kd lk s') v4 ∧ Whence (.slice va l.length vcap) l.length (w.heap.size + 2) v4 (locS kd lk s')) ∧ w4.cell? ⟨w.heap.size, 0, none⟩ = some (.pointer (some ⟨B, 0, none⟩)) ∧ w4.cell? ⟨wo.heap.size, 5, none⟩ = some (.slice a3 m3 cap3) ∧ Sts F w4 x.els (.slice a3 m3 cap3)) := fun w4 hT ⟨v4, hC4, hW4⟩ => by
                      have hT2 : Turn B (fun _ => False) w3 w4 := (Turn.ofBelow ((Below.refl _ w3).alloc (Nat.le_refl _) _) (by omega)).trans hT
                      have hF4 := HF3.out.step Hlt.out hT2 (fun _ _ h => h.elim)
                      refine ⟨hF4, hF4.size, ⟨v4, hC4.below' (by simp; omega), HW3.out.trans (hW4.mono (by simp; omega)) (Nat.le_refl _)⟩, hF4.b0, ?_, ?_⟩
                      · rw [World.cell?_of_block (w := w3) (a := ⟨wo.heap.size, 5, none⟩) (hT2.but.block wo.heap.size (by omega) (by rintro (e | e); have : wo.heap.size = B := e; omega; exact e))]
                        exact d5
                      · have hk : ∀ b, F b → w4.heap[b]? = w3.heap[b]? := fun b hb => hT2.but.block b (HC3.out.inw b hb) (by rintro (e | e); have := HC3.out.inn b hb; omega; exact e)
                        obtain ⟨c, h1, h2⟩ := HXE3.out
                        exact ⟨c, h1.keep hk (fun _ h => h), h2.keep hk (fun _ h => h)⟩
                    clear hcallb hbz hbeq HQ3
                    go_upto_region 16 with (go_at_call 39; refine HCB.out.mono ?_; rintro e w4 ⟨rfl, hex, hT4⟩)
                    obtain ⟨hF4, hz4, ⟨v4, hC4, hW4⟩, q0, q5, hXE4⟩ := hstep.out w4 hT4 hex
                    have hcalle := HIE.out (locS kd lk s') [] wh (mk + addS kd + St.locsL x.body) F _ w4 B (w.heap.size + 2) v4 (.slice none 0 0) (.slice a3 m3 cap3) hC4 hXE4 (RdL.nil _ _ (fun _ => False) _ _ _ (Nat.zero_le _)) (fun _ h => h.elim) (by omega) hfew hz4 (by simp; omega)
                    rw [List.append_nil] at hcalle
                    have HC4 := Lib.hid hC4
                    have HF4 := Lib.hid hF4
                    have HW4 := Lib.hid hW4
                    clear hex hT4 hC4 hF4 hW4 hXE4 hstep HCB d0 d2 d4 d5
                    by_cases hez : (St.kWs t fs wh (locS kd lk s') (mk + addS kd + St.locsL x.body) x.els).1 = 0
                    · have HQ5 : Hid (St.kWs t fs wh (l ++ seen) m L = St.kWs t fs wh (locS kd lk s') (mk + addS kd + St.locsL x.body + St.locsL x.els) (L.drop (kk + 1))) := by show _ = _; rw [HQ4.out, seqW_fine hez]
                      have hfe := St.kWs_few t fs wh x.els _ _ hez hfew
                      have hne := St.locsL_nonneg x.els
                      have HCE := Lib.hid (post_ok hcalle hez)
                      clear hcalle hez
                      go_wp2_with (go_at_call 39; refine HCE.out.mono ?_; rintro e w5 ⟨rfl, ⟨v5, hC5, hW5⟩, hT5⟩)
                      go_roundw
                      case rel =>
                        refine ⟨kk + 1, by omega, by go_num, HF4.out.step Hlt.out hT5 (fun _ _ h => h.elim), locS kd lk s', mk + addS kd + St.locsL x.body + St.locsL x.els, v5, HQ5.out, by rw [HML.out]; omega, hC5.below' hz4, HW4.out.trans (hW5.mono hz4) (Nat.le_refl _), HPRE3.out, by omega, by omega, hfe⟩
                      case measure => simp [intOf]; omega
                    · have HP : Hid (St.kWs t fs wh (l ++ seen) m L = ((St.kWs t fs wh (locS kd lk s') (mk + addS kd + St.locsL x.body) x.els).1, (St.kWs t fs wh (locS kd lk s') (mk + addS kd + St.locsL x.body) x.els).2)) := by show _ = _; rw [HQ4.out, seqW_bad hez]
                      have HZ := Lib.hid hez
                      have HCE := Lib.hid (post_bad hcalle hez)
                      clear hcalle hez HQ4
                      generalize St.kWs t fs wh (locS kd lk s') (mk + addS kd + St.locsL x.body) x.els = p at HP HZ HCE
                      go_wp2_with (go_at_call 39; refine HCE.out.mono ?_; rintro e w5 ⟨rfl, hh5, hT5⟩)
                      exact blk_bad (HF4.out.step Hlt.out hT5 (fun _ _ h => h.elim)) hh5 HPRE3.out.length_le ((hT5.frozen 14).trans HC4.out.z14) HP.out HZ.out
                  · have HP : Hid (St.kWs t fs wh (l ++ seen) m L = ((St.kWs t fs wh (locS kd lk s' ++ [s']) (mk + addS kd) x.body).1, (St.kWs t fs wh (locS kd lk s' ++ [s']) (mk + addS kd) x.body).2)) := by show _ = _; rw [HQ3.out, seqW_bad hbz]
                    have HZ := Lib.hid hbz
                    have HCB := Lib.hid (post_bad hcallb hbz)
                    clear hcallb hbz hbeq HQ3
                    generalize St.kWs t fs wh (locS kd lk s' ++ [s']) (mk + addS kd) x.body = p at HP HZ HCB
                    go_wp2_with (go_at_call 39; refine HCB.out.mono ?_; rintro e w4 ⟨rfl, hh4, hT4⟩)
                    have hT2 : Turn B (fun _ => False) w3 w4 := (Turn.ofBelow ((Below.refl _ w3).alloc (Nat.le_refl _) _) (by omega)).trans hT4
                    exact blk_bad (HF3.out.step Hlt.out hT2 (fun _ _ h => h.elim)) hh4 HPRE3.out.length_le ((hT2.frozen 14).trans HC3.out.z14) HP.out HZ.out
                · rw [if_neg hk11] at hlen3
                  have e11 : (kd == 11) = false := by simpa using hk11
                  clear hk11b
                  have hcallb := HIB.out (locS kd lk s') [] wh (mk + addS kd) F _ w3 B (w.heap.size + 2) v3 (.slice none 0 0) (.slice a2 m2 cap2) (HC3.out.below (Below.refl _ w3) (Nat.le_refl _)) (HXB3.out.below HC3.out.inw (Below.refl _ w3) (Nat.le_refl _)) (RdL.nil _ _ (fun _ => False) _ _ _ (Nat.zero_le _)) (fun _ h => h.elim) (by omega) hmk2 (by omega) (by simp; omega)
                  have hbeq : locS kd lk s' ++ eachS kd s' = locS kd lk s' ++ [] := by rw [show eachS kd s' = [] from if_neg hk11]
                  rw [hbeq] at HQ3
                  by_cases hbz : (St.kWs t fs wh (locS kd lk s' ++ []) (mk + addS kd) x.body).1 = 0
                  · have HQ4 : Hid (St.kWs t fs wh (l ++ seen) m L = seqW (St.kWs t fs wh (locS kd lk s') (mk + addS kd + St.locsL x.body) x.els) (St.kWs t fs wh (locS kd lk s') (mk + addS kd + St.locsL x.body + St.locsL x.els) (L.drop (kk + 1)))) := by show _ = _; rw [HQ3.out, seqW_fine hbz]
                    have hfew := St.kWs_few t fs wh x.body _ _ hbz hmk2
                    have HCB := Lib.hid (post_ok hcallb hbz)
                    have hnn := St.locsL_nonneg x.body
                    have hstep : Hid (∀ w4 : World, Turn B (fun _ => False) w3 w4 → (∃ v', Ck F w4 B t fs wh (mk + addS kd + St.locsL x.body) w3.heap.size (locS kd lk s') v' ∧ Whence v3 (locS kd lk s').length w3.heap.size v' (locS kd lk s')) →
                        Fr B l.length w w4 ∧ w.heap.size + 2 ≤ w4.heap.size ∧ (∃ v4, Ck F w4 B t fs wh (mk + addS kd + St.locsL x.body) (w.heap.size + 2) (locS kd lk s') v4 ∧ Whence (.slice va l.length vcap) l.length (w.heap.size + 2) v4 (locS kd lk s')) ∧ w4.cell? ⟨w.heap.size, 0, none⟩ = some (.pointer (some ⟨B, 0, none⟩)) ∧ w4.cell? ⟨wo.heap.size, 5, none⟩ = some (.slice a3 m3 cap3) ∧ Sts F w4 x.els (.slice a3 m3 cap3)) := fun w4 hT ⟨v4, hC4, hW4⟩ => by
                      have hT2 : Turn B (fun _ => False) w3 w4 := (Turn.ofBelow (Below.refl _ w3) (by omega)).trans hT
                      have hF4 := HF3.out.step Hlt.out hT2 (fun _ _ h => h.elim)
                      refine ⟨hF4, hF4.size, ⟨v4, hC4.below' (by omega), HW3.out.trans (hW4.mono (by omega)) (Nat.le_refl _)⟩, hF4.b0, ?_, ?_⟩
                      · rw [World.cell?_of_block (w := w3) (a := ⟨wo.heap.size, 5, none⟩) (hT2.but.block wo.heap.size (by omega) (by rintro (e | e); have : wo.heap.size = B := e; omega; exact e))]
                        exact d5
                      · have hk : ∀ b, F b → w4.heap[b]? = w3.heap[b]? := fun b hb => hT2.but.block b (HC3.out.inw b hb) (by rintro (e | e); have := HC3.out.inn b hb; omega; exact e)
                        obtain ⟨c, h1, h2⟩ := HXE3.out
                        exact ⟨c, h1.keep hk (fun _ h => h), h2.keep hk (fun _ h => h)⟩
                    clear hcallb hbz hbeq HQ3
                    go_upto_region 16 with (go_at_call 39; refine HCB.out.mono ?_; rintro e w4 ⟨rfl, hex, hT4⟩)
                    obtain ⟨hF4, hz4, ⟨v4, hC4, hW4⟩, q0, q5, hXE4⟩ := hstep.out w4 hT4 hex
                    have hcalle := HIE.out (locS kd lk s') [] wh (mk + addS kd + St.locsL x.body) F _ w4 B (w.heap.size + 2) v4 (.slice none 0 0) (.slice a3 m3 cap3) hC4 hXE4 (RdL.nil _ _ (fun _ => False) _ _ _ (Nat.zero_le _)) (fun _ h => h.elim) (by omega) hfew hz4 (by simp; omega)
                    rw [List.append_nil] at hcalle
                    have HC4 := Lib.hid hC4
                    have HF4 := Lib.hid hF4
                    have HW4 := Lib.hid hW4
                    clear hex hT4 hC4 hF4 hW4 hXE4 hstep HCB d0 d2 d4 d5
                    by_cases hez : (St.kWs t fs wh (locS kd lk s') (mk + addS kd + St.locsL x.body) x.els).1 = 0
                    · have HQ5 : Hid (St.kWs t fs wh (l ++ seen) m L = St.kWs t fs wh (locS kd lk s') (mk + addS kd + St.locsL x.body + St.locsL x.els) (L.drop (kk + 1))) := by show _ = _; rw [HQ4.out, seqW_fine hez]
                      have hfe := St.kWs_few t fs wh x.els _ _ hez hfew
                      have hne := St.locsL_nonneg x.els
                      have HCE := Lib.hid (post_ok hcalle hez)
                      clear hcalle hez
                      go_wp2_with (go_at_call 39; refine HCE.out.mono ?_; rintro e w5 ⟨rfl, ⟨v5, hC5, hW5⟩, hT5⟩)
                      go_roundw
                      case rel =>
                        refine ⟨kk + 1, by omega, by go_num, HF4.out.step Hlt.out hT5 (fun _ _ h => h.elim), locS kd lk s', mk + addS kd + St.locsL x.body + St.locsL x.els, v5, HQ5.out, by rw [HML.out]; omega, hC5.below' hz4, HW4.out.trans (hW5.mono hz4) (Nat.le_refl _), HPRE3.out, by omega, by omega, hfe⟩
                      case measure => simp [intOf]; omega
                    · have HP : Hid (St.kWs t fs wh (l ++ seen) m L = ((St.kWs t fs wh (locS kd lk s') (mk + addS kd + St.locsL x.body) x.els).1, (St.kWs t fs wh (locS kd lk s') (mk + addS kd + St.locsL x.body) x.els).2)) := by show _ = _; rw [HQ4.out, seqW_bad hez]
                      have HZ := Lib.hid hez
                      have HCE := Lib.hid (post_bad hcalle hez)
                      clear hcalle hez HQ4
                      generalize St.kWs t fs wh (locS kd lk s') (mk + addS kd + St.locsL x.body) x.els = p at HP HZ HCE
                      go_wp2_with (go_at_call 39; refine HCE.out.mono ?_; rintro e w5 ⟨rfl, hh5, hT5⟩)
                      exact blk_bad (HF4.out.step Hlt.out hT5 (fun _ _ h => h.elim)) hh5 HPRE3.out.length_le ((hT5.frozen 14).trans HC4.out.z14) HP.out HZ.out
                  · have HP : Hid (St.kWs t fs wh (l ++ seen) m L = ((St.kWs t fs wh (locS kd lk s' ++ []) (mk + addS kd) x.body).1, (St.kWs t fs wh (locS kd lk s' ++ []) (mk + addS kd) x.body).2)) := by show _ = _; rw [HQ3.out, seqW_bad hbz]
                    have HZ := Lib.hid hbz
                    have HCB := Lib.hid (post_bad hcallb hbz)
                    clear hcallb hbz hbeq HQ3
                    generalize St.kWs t fs wh (locS kd lk s' ++ []) (mk + addS kd) x.body = p at HP HZ HCB
                    go_wp2_with (go_at_call 39; refine HCB.out.mono ?_; rintro e w4 ⟨rfl, hh4, hT4⟩)
                    have hT2 : Turn B (fun _ => False) w3 w4 := (Turn.ofBelow (Below.refl _ w3) (by omega)).trans hT4
                    exact blk_bad (HF3.out.step Hlt.out hT2 (fun _ _ h => h.elim)) hh4 HPRE3.out.length_le ((hT2.frozen 14).trans HC3.out.z14) HP.out HZ.out
              · have HP : Hid (St.kWs t fs wh (l ++ seen) m L = ((ownSt t lk wh mk kd s').1, (ownSt t lk wh mk kd s').2)) := by show _ = _; rw [HQ2.out, seqW_bad hoz]
                have HZ := Lib.hid hoz
                have HCI := Lib.hid (post_bad hcalli hoz)
                clear hcalli hoz HQ2
                generalize ownSt t lk wh mk kd s' = p at HP HZ HCI
                go_wp2_with (go_at_call 68; refine HCI.out.mono ?_; rintro e w3 ⟨rfl, hh3, hT3⟩)
                exact blk_bad ((HF1.out.below Hlt.out hBr).step Hlt.out hT3 (fun _ _ h => h.2.1)) hh3 HPRE.out.length_le ((hT3.frozen 14).trans ((hBr.frozen (p := ⟨B, 14, none⟩) HC.out.lt).trans HC.out.z14)) HP.out HZ.out
        · have hend : L.drop kk = [] := List.drop_eq_nil_of_le (by omega)
          rw [hend] at hq hml
          have hzz : (St.kWs t fs wh (l ++ seen) m L).1 = 0 := by rw [hq]; rfl
          have hm2 : mk = m + St.locsL L := by rw [hml]; show mk = mk + 0; omega
          have HEND := Lib.hid (fun tmps => HFin.out wr mk lk vk tmps hFr1 hC hW hpre hzz hm2)
          clear hq hml hzz hm2 hC hW hFr1
          go_wp2_with fail
          exact HEND.out _
    | _ => exact hn.elim
end Go.Proofs.YtblhpiebheommaaGreat
