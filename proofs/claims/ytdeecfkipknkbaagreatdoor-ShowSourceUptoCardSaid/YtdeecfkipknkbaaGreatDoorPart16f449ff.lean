/- How long the texts of expressions and statements of a source are. No program in sight. -/
import Derived.Test.YtdeecfkipknkbaaGreatDoorPart5907e4d5
import Derived.Lib.ItoaLen
import Derived.Test.YtdeecfkipknkbaaGreatDoorPart65b68abe
namespace Go.Proofs.YtdeecfkipknkbaaGreatDoor
open Go.RowKit
theorem isName_size {s : ByteArray} (h : IsNm s) : s.size ≤ 24 := h.1.2.1
def psz : List (Int × ByteArray) → Nat
 | [] => 0
 | p :: l => p.2.size + 4 + psz l
theorem wrapB_sz (c : Bool) (x : ByteArray) : (wrapB c x).size ≤ x.size + 2 := by
 unfold wrapB
 split
 · simp only [ByteArray.size_append]
   have e1 : (⟨#[40]⟩ : ByteArray).size = 1 := rfl
   have e2 : (⟨#[41]⟩ : ByteArray).size = 1 := rfl
   omega
 omega
theorem pt_sz0 (p : Int × ByteArray) (l : List (Int × ByteArray)) (t : Int) : (pt (p :: l) 0 t).size ≤ p.2.size + 2 := by
 show (wrapB (decide (p.1 < t)) p.2).size ≤ _
 exact wrapB_sz _ _
theorem pt_sz1 (p q : Int × ByteArray) (l : List (Int × ByteArray)) (t : Int) : (pt (p :: q :: l) 1 t).size ≤ q.2.size + 2 := by
 show (wrapB (decide (q.1 < t)) q.2).size ≤ _
 exact wrapB_sz _ _
theorem pt_sz_one (p : Int × ByteArray) (t : Int) : (pt [p] 1 t).size = 0 := rfl
theorem pt_psz (ps : List (Int × ByteArray)) (t : Int) : (pt ps 0 t).size ≤ psz ps := by
 cases ps with
 | nil => exact Nat.le_refl _
 | cons p l => have := pt_sz0 p l t; simp only [psz]; omega
theorem pt_psz2 (ps : List (Int × ByteArray)) (t u : Int) : (pt ps 0 t).size + (pt ps 1 u).size ≤ psz ps := by
 match ps with
 | [] => exact Nat.le_refl _
 | [p] => have := pt_sz0 p [] t; have := pt_sz_one p u; simp only [psz]; omega
 | p :: q :: l => have := pt_sz0 p (q :: l) t; have := pt_sz1 p q l u; simp only [psz]; omega
theorem argB_psz (ps : List (Int × ByteArray)) : (argB ps 0).size + (argB ps 1).size ≤ psz ps := by
 match ps with
 | [] => exact Nat.le_refl _
 | [p] =>
  show p.2.size + 0 ≤ p.2.size + 4 + 0
  omega
 | p :: q :: l =>
  show p.2.size + q.2.size ≤ p.2.size + 4 + (q.2.size + 4 + psz l)
  omega
theorem argB_pt (ps : List (Int × ByteArray)) (t : Int) : (pt ps 0 t).size + (argB ps 1).size ≤ psz ps := by
 match ps with
 | [] => exact Nat.le_refl _
 | [p] =>
  have := pt_sz0 p [] t
  show _ + 0 ≤ p.2.size + 4 + 0
  omega
 | p :: q :: l =>
  have := pt_sz0 p (q :: l) t
  show _ + q.2.size ≤ p.2.size + 4 + (q.2.size + 4 + psz l)
  omega
theorem sepTail_sz (sep : ByteArray) (hs : sep.size ≤ 4) : ∀ ps : List (Int × ByteArray), (sepTail sep (ps.map Prod.snd)).size ≤ psz ps
 | [] => Nat.le_refl _
 | p :: l => by
  have := sepTail_sz sep hs l
  simp only [List.map_cons, sepTail, ByteArray.size_append, psz]
  omega
theorem sepB_sz (sep : ByteArray) (hs : sep.size ≤ 4) (ps : List (Int × ByteArray)) : (sepB sep (ps.map Prod.snd)).size ≤ psz ps := by
 cases ps with
 | nil => exact Nat.le_refl _
 | cons p l =>
  have := sepTail_sz sep hs l
  simp only [List.map_cons, sepB, ByteArray.size_append, psz]
  omega
theorem numB_sz (n : Int) (h : I64 n) : (numB n).size ≤ 21 := by
 have := Lib.itoa_length_le n h.1 h.2
 show (Lib.itoa n).toArray.size ≤ 21
 simpa using this
theorem signB_sz (o : Int) : (signB o).size ≤ 3 := by
 have h : ∀ n : Nat, ((signs.getD n ⟨#[]⟩ : ByteArray)).size ≤ 3 := by
  intro n
  match n with
  | 0 | 1 | 2 | 3 | 4 | 5 | 6 | 7 | 8 | 9 | 10 | 11 | 12 | 13 | 14 => decide
  | n + 15 => exact Nat.zero_le _
 exact h _
theorem selfB_sz (o : Int) : (selfB o).size ≤ 6 := by
 have h : ∀ n : Nat, ((selves.getD n ⟨#[]⟩ : ByteArray)).size ≤ 6 := by
  intro n
  match n with
  | 0 | 1 | 2 | 3 | 4 | 5 => decide
  | n + 6 => exact Nat.zero_le _
 exact h _
theorem aroundB_sz (o : Int) : (aroundB o).size ≤ 6 := by
 have h : ∀ n : Nat, ((arounds.getD n ⟨#[]⟩ : ByteArray)).size ≤ 6 := by
  intro n
  match n with
  | 0 | 1 | 2 => decide
  | n + 3 => exact Nat.zero_le _
 exact h _
theorem prE_sz (k o n : Int) (s : ByteArray) (ps : List (Int × ByteArray)) (hn : k = 1 → I64 n) (hs : s.size ≤ 1024) : (prE k o n s ps).size ≤ 2060 + psz ps := by
 have h0 : (⟨#[32]⟩ : ByteArray).size = 1 := rfl
 have h1 : (⟨#[45]⟩ : ByteArray).size = 1 := rfl
 have h2 : (⟨#[46]⟩ : ByteArray).size = 1 := rfl
 have h3 : (⟨#[40]⟩ : ByteArray).size = 1 := rfl
 have h4 : (⟨#[41]⟩ : ByteArray).size = 1 := rfl
 have h5 : (⟨#[110, 111, 116, 32]⟩ : ByteArray).size = 4 := rfl
 have h6 : (⟨#[32, 104, 97, 115, 32]⟩ : ByteArray).size = 5 := rfl
 unfold prE
 split
 · rename_i hk; have := numB_sz n (hn hk); omega
 split
 · have := quoteB_size s; omega
 split
 · omega
 split
 · have := pt_psz ps 7; simp only [ByteArray.size_append]; omega
 split
 · have := pt_psz ps 3; simp only [ByteArray.size_append]; omega
 split
 · have := pt_psz ps 5; simp only [ByteArray.size_append]; omega
 split
 · have := pt_psz ps 8; simp only [ByteArray.size_append]; omega
 split
 · have := pt_psz2 ps (lft o) (lvl o + 1); have := signB_sz o; simp only [ByteArray.size_append]; omega
 split
 · have := selfB_sz o; omega
 have h7 := sepB_sz ⟨#[44, 32]⟩ (by decide) ps
 have h8 : (headB k o s).size ≤ 1024 := by
  unfold headB
  split
  · have := aroundB_sz o; omega
  split
  · decide
  split
  · decide
  exact hs
 simp only [ByteArray.size_append]
 omega
mutual
theorem Ex.pr_sz : ∀ e : Ex, Src e → e.pr.size + 4 ≤ 2100 * e.size
 | .mk k o n s args, h => by
  obtain ⟨hk, hsh, h1, h2, h3, h4⟩ := h
  have hs : s.size ≤ 1024 := by
   by_cases c2 : k = 2
   · exact (h2 c2).1
   by_cases c3 : k = 3 ∨ k = 7 ∨ k = 8 ∨ k = 9
   · have := isName_size (h3 c3); omega
   obtain ⟨-, -, -, hn, -⟩ := hsh
   have hz : (hasOf k).name = false := by
    unfold hasOf
    repeat' split
    all_goals first | rfl | omega
   rw [hz] at hn
   have : s = ByteArray.empty := hn.resolve_left (by simp)
   subst this
   exact Nat.zero_le _
  have h5 := prE_sz k o n s (Ex.prs args) (fun hk => by have := h1 hk; unfold I64; omega) hs
  have h6 := Ex.prs_sz args h4
  show (prE k o n s (Ex.prs args)).size + 4 ≤ 2100 * (1 + Ex.sizes args)
  omega
theorem Ex.prs_sz : ∀ l : List Ex, Srcs l → psz (Ex.prs l) ≤ 2100 * Ex.sizes l
 | [], _ => Nat.le_refl _
 | e :: l, h => by
  have h1 := Ex.pr_sz e h.1.2
  have h2 := Ex.prs_sz l h.2
  simp only [Ex.prs, psz, Ex.sizes]
  omega
end
theorem wordB_sz (k : Int) : (wordB k).size ≤ 6 := by
 unfold wordB
 repeat' split
 all_goals decide
theorem ite_sz {c : Prop} [Decidable c] {x y : ByteArray} {n : Nat} (h1 : c → x.size ≤ n) (h2 : ¬ c → y.size ≤ n) : (if c then x else y).size ≤ n := by
 by_cases h : c
 · rw [if_pos h]; exact h1 h
 rw [if_neg h]; exact h2 h
theorem lnE_sz (k : Int) (s : ByteArray) (ps : List (Int × ByteArray)) (body els : ByteArray) : (lnE k s ps body els).size ≤ 30 + s.size + psz ps + body.size + els.size := by
 have h1 : (⟨#[115, 97, 121, 32]⟩ : ByteArray).size = 4 := rfl
 have h2 : (⟨#[59]⟩ : ByteArray).size = 1 := rfl
 have h3 : (⟨#[108, 101, 116, 32]⟩ : ByteArray).size = 4 := rfl
 have h4 : (⟨#[32, 61, 32]⟩ : ByteArray).size = 3 := rfl
 have h5 : (⟨#[46]⟩ : ByteArray).size = 1 := rfl
 have h6 : (⟨#[115, 101, 116, 32]⟩ : ByteArray).size = 4 := rfl
 have h7 : (⟨#[32, 105, 115, 32]⟩ : ByteArray).size = 4 := rfl
 have h8 : (⟨#[117, 110, 115, 101, 116, 32]⟩ : ByteArray).size = 6 := rfl
 have h9 : (⟨#[109, 111, 118, 101, 32]⟩ : ByteArray).size = 5 := rfl
 have h10 : (⟨#[32, 116, 111, 32]⟩ : ByteArray).size = 4 := rfl
 have h11 : (⟨#[105, 102, 32]⟩ : ByteArray).size = 3 := rfl
 have h12 : (⟨#[32]⟩ : ByteArray).size = 1 := rfl
 have h13 : (⟨#[119, 104, 105, 108, 101, 32]⟩ : ByteArray).size = 6 := rfl
 have h14 : (⟨#[101, 97, 99, 104, 32]⟩ : ByteArray).size = 5 := rfl
 have h15 : (⟨#[32, 105, 110, 32]⟩ : ByteArray).size = 4 := rfl
 have h16 : (⟨#[115, 116, 97, 114, 116, 32]⟩ : ByteArray).size = 6 := rfl
 have h17 : (⟨#[104, 97, 108, 116, 32]⟩ : ByteArray).size = 5 := rfl
 have hw := wordB_sz k
 have ha := argB_psz ps
 have hb := argB_pt ps 8
 have hc := sepB_sz ⟨#[44, 32]⟩ (by decide) ps
 unfold lnE
 repeat' (refine ite_sz (fun _ => ?_) (fun _ => ?_))
 all_goals
  (try simp only [ByteArray.size_append])
  omega
theorem linesB_sz (d : Nat) (hd : d ≤ 64) : ∀ l : List ByteArray, (linesB d l).size ≤ (l.map fun x => x.size + 65).sum
 | [] => Nat.le_refl _
 | x :: l => by
  have h1 := linesB_sz d hd l
  have h2 := tabsB_size d
  have h3 : (⟨#[10]⟩ : ByteArray).size = 1 := rfl
  simp only [linesB, ByteArray.size_append, List.map_cons, List.sum_cons]
  omega
theorem blockB_sz (d : Nat) (hd : d ≤ 64) (l : List ByteArray) : (blockB d l).size ≤ 67 + (l.map fun x => x.size + 65).sum := by
 have h1 := linesB_sz (dn d) (dn_le d) l
 have h2 := tabsB_size d
 have h3 : (⟨#[123, 10]⟩ : ByteArray).size = 2 := rfl
 have h4 : (⟨#[125]⟩ : ByteArray).size = 1 := rfl
 simp only [blockB, ByteArray.size_append]
 omega
mutual
theorem St.ln_sz : ∀ s : St, StOk s → ∀ d, d ≤ 64 → (s.ln d).size + 100 ≤ 2400 * s.total
 | .mk k n s args body els, h, d, hd => by
  obtain ⟨hg, -, ha, ⟨-, hb⟩, -, he⟩ := h
  obtain ⟨-, -, -, -, -, hnm⟩ := hg
  have hs : s.size ≤ 24 := by
   unfold NameOk at hnm
   split at hnm
   · exact isName_size hnm.2.2
   rw [hnm.1]; exact Nat.zero_le _
  have h1 : psz (Ex.prs args) ≤ 2100 * Ex.sizes args := by
   have : ∀ l : List Ex, (∀ x ∈ l, Src x) → psz (Ex.prs l) ≤ 2100 * Ex.sizes l := by
    intro l
    induction l with
    | nil => intro _; exact Nat.le_refl _
    | cons e l ih =>
     intro h
     have h1 := Ex.pr_sz e (h e (by simp))
     have h2 := ih (fun x hx => h x (by simp [hx]))
     simp only [Ex.prs, psz, Ex.sizes]
     omega
   exact this args (fun x hx => (ha x hx).2)
  have h2 := St.lns_sz body hb (dn d) (dn_le d)
  have h3 := St.lns_sz els he (dn d) (dn_le d)
  have h4 := blockB_sz d hd (St.lns body (dn d))
  have h5 := blockB_sz d hd (St.lns els (dn d))
  have h6 : (elsB d (oneIf els) (St.lns els d) (St.lns els (dn d))).size ≤ 73 + 2400 * St.totals els := by
   have h7 : (⟨#[32, 101, 108, 115, 101, 32]⟩ : ByteArray).size = 6 := rfl
   have h8 := St.lns_sz els he d hd
   cases hl : St.lns els d with
   | nil => simp only [elsB]; exact Nat.zero_le _
   | cons x r =>
    rw [hl] at h8
    simp only [List.map_cons, List.sum_cons] at h8
    simp only [elsB]
    split
    · simp only [ByteArray.size_append]; omega
    simp only [ByteArray.size_append]; omega
  have h7 := lnE_sz k s (Ex.prs args) (blockB d (St.lns body (dn d))) (elsB d (oneIf els) (St.lns els d) (St.lns els (dn d)))
  show (lnE k s (Ex.prs args) (blockB d (St.lns body (dn d))) (elsB d (oneIf els) (St.lns els d) (St.lns els (dn d)))).size + 100 ≤ 2400 * (1 + Ex.sizes args + St.totals body + St.totals els)
  omega
theorem St.lns_sz : ∀ l : List St, StOks l → ∀ d, d ≤ 64 → ((St.lns l d).map fun x => x.size + 65).sum ≤ 2400 * St.totals l
 | [], _, _, _ => Nat.le_refl _
 | s :: l, h, d, hd => by
  have h1 := St.ln_sz s h.1 d hd
  have h2 := St.lns_sz l h.2 d hd
  simp only [St.lns, List.map_cons, List.sum_cons, St.totals]
  omega
end
theorem St.pr_sz (s : St) (h : StOk s) (d : Nat) (hd : d ≤ 64) : (s.pr d).size ≤ 2400 * s.total := by
 have h1 := St.ln_sz s h d hd
 have h2 := tabsB_size d
 have h3 : (⟨#[10]⟩ : ByteArray).size = 1 := rfl
 simp only [St.pr, ByteArray.size_append]
 omega
theorem St.blk_sz (l : List St) (h : ∀ s ∈ l, StOk s) (d : Nat) (hd : d ≤ 64) : (St.blk l d).size ≤ 67 + 2400 * St.totals l := by
 have h1 := blockB_sz d hd (St.lns l (dn d))
 have h2 := St.lns_sz l ((stOks_iff l).2 h) (dn d) (dn_le d)
 show (blockB d (St.lns l (dn d))).size ≤ _
 omega
end Go.Proofs.YtdeecfkipknkbaaGreatDoor
/- How a source is written, as plain functions on plain data; how long its text is. No program in sight. -/
namespace Go.Proofs.YtdeecfkipknkbaaGreatDoor
open Go.RowKit
def catB : List ByteArray → ByteArray
 | [] => ⟨#[]⟩
 | x :: l => x ++ catB l
theorem catB_append (a b : List ByteArray) : catB (a ++ b) = catB a ++ catB b := by
 induction a with
 | nil => simp [catB, emp_app]
 | cons x a ih => simp only [List.cons_append, catB, ih, ByteArray.append_assoc]
theorem catB_one (x : ByteArray) : catB [x] = x := by simp [catB, app_emp]
theorem catB_sum (l : List ByteArray) : (catB l).size = (l.map ByteArray.size).sum := by
 induction l with
 | nil => rfl
 | cons x l ih => simp only [catB, ByteArray.size_append, ih, List.map_cons, List.sum_cons]
theorem catB_take_le (l : List ByteArray) (k : Nat) : (catB (l.take k)).size ≤ (catB l).size := by
 have h := congrArg ByteArray.size (catB_append (l.take k) (l.drop k))
 rw [List.take_append_drop, ByteArray.size_append] at h
 omega
theorem catB_step (l : List ByteArray) (k : Nat) (hk : k < l.length) : catB (l.take (k + 1)) = catB (l.take k) ++ l[k] := by
 rw [List.take_succ_eq_append_getElem hk, catB_append, catB_one]
def emB (s : ByteArray) (x : ByteArray) : ByteArray := if s = ⟨#[]⟩ then ⟨#[]⟩ else x
def condB : List Ex → ByteArray
 | [] => ⟨#[]⟩
 | e :: _ => ⟨#[32, 105, 102, 32]⟩ ++ e.pr
def valueB (p : PairD) : ByteArray := p.name ++ ⟨#[32, 61, 32]⟩ ++ numB p.num ++ ⟨#[59, 10]⟩
def dirs : List ByteArray := [⟨#[110, 111, 114, 116, 104]⟩, ⟨#[115, 111, 117, 116, 104]⟩, ⟨#[101, 97, 115, 116]⟩, ⟨#[119, 101, 115, 116]⟩, ⟨#[110, 111, 114, 116, 104, 101, 97, 115, 116]⟩, ⟨#[110, 111, 114, 116, 104, 119, 101, 115, 116]⟩, ⟨#[115, 111, 117, 116, 104, 101, 97, 115, 116]⟩, ⟨#[115, 111, 117, 116, 104, 119, 101, 115, 116]⟩, ⟨#[117, 112]⟩, ⟨#[100, 111, 119, 110]⟩, ⟨#[105, 110]⟩, ⟨#[111, 117, 116]⟩]
def dirB (d : Int) : ByteArray := dirs.getD (d - 1).toNat ⟨#[]⟩
def quotedB (sep : ByteArray) (l : List ByteArray) : ByteArray := sepB sep (l.map quoteB)
def itemB (word what : ByteArray) : ByteArray := emB what (⟨#[9]⟩ ++ word ++ what ++ ⟨#[59, 10]⟩)
abbrev comma : ByteArray := ⟨#[44, 32]⟩
def exitB (x : ExitD) : ByteArray := ⟨#[9, 101, 120, 105, 116, 32]⟩ ++ dirB x.dir ++ ⟨#[32, 116, 111, 32]⟩ ++ x.to ++ condB x.cond ++ emB x.els (⟨#[32, 101, 108, 115, 101, 32]⟩ ++ quoteB x.els) ++ ⟨#[59, 10]⟩
def objB (o : ObjD) : ByteArray :=
 (if o.room = true then ⟨#[114, 111, 111, 109, 32]⟩ else ⟨#[116, 104, 105, 110, 103, 32]⟩) ++ o.name ++ ⟨#[32]⟩ ++ quoteB o.title ++ emB o.inn (⟨#[32, 105, 110, 32]⟩ ++ o.inn) ++ ⟨#[32, 123, 10]⟩ ++
 emB o.text (⟨#[9, 116, 101, 120, 116, 32]⟩ ++ quoteB o.text ++ ⟨#[59, 10]⟩) ++ itemB ⟨#[119, 111, 114, 100, 115, 32]⟩ (quotedB comma o.words) ++ itemB ⟨#[97, 100, 106, 115, 32]⟩ (quotedB comma o.adjs) ++ itemB ⟨#[105, 115, 32]⟩ (sepB comma o.flags) ++
 catB (o.props.map fun p => ⟨#[9]⟩ ++ valueB p) ++ catB (o.exits.map exitB) ++ ⟨#[125, 10]⟩
def slotB (s : SlotD) : ByteArray := if s.kind = 2 then ⟨#[110, 111, 117, 110]⟩ else if s.kind = 3 then ⟨#[109, 97, 110, 121]⟩ else if s.kind = 4 then ⟨#[110, 117, 109, 98, 101, 114]⟩ else if s.kind = 5 then ⟨#[100, 105, 114]⟩ else quotedB ⟨#[32, 47, 32]⟩ s.words
def lineB (l : List SlotD) : ByteArray := sepB ⟨#[32]⟩ (l.map slotB)
def linesV (v : VerbD) : ByteArray := sepB ⟨#[32, 124, 32]⟩ (v.lines.map lineB)
def verbB (v : VerbD) : ByteArray := ⟨#[118, 101, 114, 98, 32]⟩ ++ v.name ++ (if v.isMeta = true then ⟨#[32, 109, 101, 116, 97]⟩ else ⟨#[]⟩) ++ ⟨#[32, 61, 32]⟩ ++ linesV v ++ ⟨#[59, 10]⟩
def phaseW (p : Int) : ByteArray := if p = 1 then ⟨#[98, 101, 102, 111, 114, 101, 32]⟩ else if p = 2 then ⟨#[111, 110, 32]⟩ else ⟨#[97, 102, 116, 101, 114, 32]⟩
def whichW (noun second : ByteArray) : ByteArray :=
 if second = ⟨#[]⟩ then (if noun = ⟨#[]⟩ then ⟨#[]⟩ else ⟨#[40]⟩ ++ noun ++ ⟨#[41]⟩)
 else ⟨#[40]⟩ ++ (if noun = ⟨#[]⟩ then ⟨#[97, 110, 121]⟩ else noun) ++ ⟨#[44, 32]⟩ ++ second ++ ⟨#[41]⟩
def ruleT (r : RuleD) : ByteArray := phaseW r.phase ++ r.verb ++ whichW r.noun r.second ++ condB r.cond ++ ⟨#[32]⟩ ++ St.blk r.body 0 ++ ⟨#[10]⟩
def funB (f : FuncD) : ByteArray := ⟨#[102, 117, 110, 99, 32]⟩ ++ f.name ++ ⟨#[40]⟩ ++ sepB comma f.params ++ ⟨#[41, 32]⟩ ++ St.blk f.body 0 ++ ⟨#[10]⟩
def daeB (f : FuncD) : ByteArray := ⟨#[100, 97, 101, 109, 111, 110, 32]⟩ ++ f.name ++ ⟨#[32]⟩ ++ St.blk f.body 0 ++ ⟨#[10]⟩
def headS (s : SrcD) : ByteArray := ⟨#[115, 116, 111, 114, 121, 32]⟩ ++ quoteB s.title ++ ⟨#[32, 98, 121, 32]⟩ ++ quoteB s.author ++ ⟨#[32, 114, 101, 108, 101, 97, 115, 101, 32]⟩ ++ numB s.release ++ ⟨#[32, 109, 97, 120, 32]⟩ ++ numB s.most ++ ⟨#[32, 115, 116, 97, 114, 116, 32]⟩ ++ s.start ++ ⟨#[59, 10]⟩
def flagsS (s : SrcD) : ByteArray := if s.flags = [] then ⟨#[]⟩ else ⟨#[102, 108, 97, 103, 32]⟩ ++ sepB comma s.flags ++ ⟨#[59, 10]⟩
def propS (p : PairD) : ByteArray := ⟨#[112, 114, 111, 112, 32]⟩ ++ valueB p
def globS (p : PairD) : ByteArray := ⟨#[103, 108, 111, 98, 97, 108, 32]⟩ ++ valueB p
def srcB (s : SrcD) : ByteArray := headS s ++ flagsS s ++ catB (s.props.map propS) ++ catB (s.globals.map globS) ++ catB (s.objects.map objB) ++ catB (s.verbs.map verbB) ++ catB (s.rules.map ruleT) ++ catB (s.funcs.map funB) ++ catB (s.daemons.map daeB)
/-! How long each part is. -/
def SrcD.nds (s : SrcD) : Nat := (s.objects.map fun o => (o.exits.map fun x => Ex.sizes x.cond).sum).sum + (s.rules.map fun r => Ex.sizes r.cond + St.totals r.body).sum + (s.funcs.map fun f => St.totals f.body).sum + (s.daemons.map fun f => St.totals f.body).sum
theorem emB_sz (s x : ByteArray) : (emB s x).size ≤ x.size := by unfold emB; split; exact Nat.zero_le _; exact Nat.le_refl _
theorem sum_le {α : Type} (f : α → Nat) (c : Nat) : ∀ l : List α, (∀ x ∈ l, f x ≤ c) → (l.map f).sum ≤ c * l.length
 | [], _ => Nat.zero_le _
 | x :: l, h => by
  have h1 := h x (by simp)
  have h2 := sum_le f c l (fun y hy => h y (by simp [hy]))
  simp only [List.map_cons, List.sum_cons, List.length_cons, Nat.mul_add, Nat.mul_one]
  omega
theorem sum_le2 {α : Type} (f g : α → Nat) (c : Nat) : ∀ l : List α, (∀ x ∈ l, f x ≤ c + 2400 * g x) → (l.map f).sum ≤ c * l.length + 2400 * (l.map g).sum
 | [], _ => Nat.zero_le _
 | x :: l, h => by
  have h1 := h x (by simp)
  have h2 := sum_le2 f g c l (fun y hy => h y (by simp [hy]))
  simp only [List.map_cons, List.sum_cons, List.length_cons, Nat.mul_add, Nat.mul_one]
  omega
theorem sepTail_le (sep : ByteArray) : ∀ l : List ByteArray, (sepTail sep l).size = (l.map fun x => sep.size + x.size).sum
 | [] => rfl
 | x :: l => by
  have := sepTail_le sep l
  simp only [sepTail, ByteArray.size_append, List.map_cons, List.sum_cons, this]
theorem sepB_le (sep : ByteArray) (c : Nat) (l : List ByteArray) (h : ∀ x ∈ l, x.size ≤ c) : (sepB sep l).size ≤ (sep.size + c) * l.length := by
 cases l with
 | nil => exact Nat.zero_le _
 | cons x l =>
  have h1 := h x (by simp)
  have h2 := sum_le (fun x : ByteArray => sep.size + x.size) (sep.size + c) l (fun y hy => by have := h y (by simp [hy]); show _ ≤ _; omega)
  have h3 := sepTail_le sep l
  simp only [sepB, ByteArray.size_append, List.length_cons, Nat.mul_add, Nat.mul_one]
  omega
theorem quote_sz {s : ByteArray} (h : IsText s) : (quoteB s).size ≤ 2050 := by have := quoteB_size s; have := h.1; omega
theorem quotedB_sz (sep : ByteArray) (hs : sep.size ≤ 4) {l : List ByteArray} {m : Nat} (hl : l.length ≤ m) (h : ∀ x ∈ l, IsText x) : (quotedB sep l).size ≤ 2054 * m := by
 have h1 := sepB_le sep 2050 (l.map quoteB) (fun x hx => by obtain ⟨y, hy, rfl⟩ := List.mem_map.1 hx; exact quote_sz (h y hy))
 rw [List.length_map] at h1
 refine Nat.le_trans h1 (Nat.mul_le_mul (by omega) hl)
theorem names_sz (sep : ByteArray) (hs : sep.size ≤ 4) {l : List ByteArray} {m : Nat} (hl : l.length ≤ m) (h : ∀ x ∈ l, IsNm x) : (sepB sep l).size ≤ 28 * m :=
 Nat.le_trans (sepB_le sep 24 l (fun x hx => isName_size (h x hx))) (Nat.mul_le_mul (by omega) hl)
theorem right_src {e : Ex} (h : CondR e) : Src e := h.2.2.1.2
theorem condB_sz {l : List Ex} (h : WhenR l) : (condB l).size ≤ 4 + 2400 * Ex.sizes l := by
 cases l with
 | nil => exact Nat.zero_le _
 | cons e l =>
  have h1 := Ex.pr_sz e (right_src (h.2 e (by simp)))
  have h2 : (⟨#[32, 105, 102, 32]⟩ : ByteArray).size = 4 := rfl
  simp only [condB, ByteArray.size_append, Ex.sizes]
  omega
theorem pair_i64 {p : PairD} (h : PairR p) : I64 p.num := by have := h.2; unfold I64; omega
theorem valueB_sz {p : PairD} (h : PairR p) : (valueB p).size ≤ 60 := by
 have h1 := isName_size h.1
 have h2 := numB_sz p.num (pair_i64 h)
 have h3 : (⟨#[32, 61, 32]⟩ : ByteArray).size = 3 := rfl
 have h4 : (⟨#[59, 10]⟩ : ByteArray).size = 2 := rfl
 simp only [valueB, ByteArray.size_append]
 omega
theorem dirB_sz (d : Int) : (dirB d).size ≤ 9 := by
 have h : ∀ n : Nat, ((dirs.getD n ⟨#[]⟩ : ByteArray)).size ≤ 9 := by
  intro n
  match n with
  | 0 | 1 | 2 | 3 | 4 | 5 | 6 | 7 | 8 | 9 | 10 | 11 => decide
  | n + 12 => exact Nat.zero_le _
 exact h _
theorem exitB_sz {x : ExitD} (h : ExitR x) : (exitB x).size ≤ 2200 + 2400 * Ex.sizes x.cond := by
 obtain ⟨-, -, h1, h2, h3⟩ := h
 have h1 := isName_size h1
 have h4 := condB_sz h3
 have h5 := dirB_sz x.dir
 have h6 := quote_sz h2
 have h7 := emB_sz x.els (⟨#[32, 101, 108, 115, 101, 32]⟩ ++ quoteB x.els)
 have e1 : (⟨#[9, 101, 120, 105, 116, 32]⟩ : ByteArray).size = 6 := rfl
 have e2 : (⟨#[32, 116, 111, 32]⟩ : ByteArray).size = 4 := rfl
 have e3 : (⟨#[32, 101, 108, 115, 101, 32]⟩ : ByteArray).size = 6 := rfl
 have e4 : (⟨#[59, 10]⟩ : ByteArray).size = 2 := rfl
 simp only [ByteArray.size_append] at h7
 simp only [exitB, ByteArray.size_append]
 omega
theorem maybe_sz {s : ByteArray} (h : MaybeR s) : s.size ≤ 24 := by
 rcases h with rfl | h
 · exact Nat.zero_le _
 exact isName_size h
theorem itemB_sz (word what : ByteArray) : (itemB word what).size ≤ 3 + word.size + what.size := by
 have h := emB_sz what (⟨#[9]⟩ ++ word ++ what ++ ⟨#[59, 10]⟩)
 have e1 : (⟨#[9]⟩ : ByteArray).size = 1 := rfl
 have e2 : (⟨#[59, 10]⟩ : ByteArray).size = 2 := rfl
 simp only [ByteArray.size_append] at h
 unfold itemB
 omega
theorem objB_sz {o : ObjD} (h : ObjR o) : (objB o).size ≤ 100000 + 2400 * (o.exits.map fun x => Ex.sizes x.cond).sum := by
 obtain ⟨-, -, hw, ha, hn, ht, hx, hi, hf, hp, he⟩ := h
 have h1 := isName_size hn
 have h2 := quote_sz ht
 have h3 := quote_sz hx
 have h4 := maybe_sz hi
 have h5 := quotedB_sz comma (by decide) (m := 8) (by have := hw.1; omega) hw.2
 have h6 := quotedB_sz comma (by decide) (m := 8) (by have := ha.1; omega) ha.2
 have h7 := names_sz comma (by decide) (m := 16) (by have := hf.1; omega) hf.2
 have h8 : (catB (o.props.map fun p => ⟨#[9]⟩ ++ valueB p)).size ≤ 61 * 16 := by
  rw [catB_sum, List.map_map]
  refine Nat.le_trans (sum_le _ 61 o.props (fun p hp' => ?_)) (Nat.mul_le_mul (Nat.le_refl _) (by have := hp.1; omega))
  have := valueB_sz (hp.2 p hp')
  have e1 : (⟨#[9]⟩ : ByteArray).size = 1 := rfl
  simp only [Function.comp, ByteArray.size_append]
  omega
 have h9 : (catB (o.exits.map exitB)).size ≤ 2200 * 12 + 2400 * (o.exits.map fun x => Ex.sizes x.cond).sum := by
  rw [catB_sum, List.map_map]
  have h10 := sum_le2 (ByteArray.size ∘ exitB) (fun x : ExitD => Ex.sizes x.cond) 2200 o.exits (fun x hx' => exitB_sz (he.2 x hx'))
  have h11 : 2200 * o.exits.length ≤ 2200 * 12 := Nat.mul_le_mul (Nat.le_refl _) (by have := he.1; omega)
  omega
 have g1 := emB_sz o.inn (⟨#[32, 105, 110, 32]⟩ ++ o.inn)
 have g2 := emB_sz o.text (⟨#[9, 116, 101, 120, 116, 32]⟩ ++ quoteB o.text ++ ⟨#[59, 10]⟩)
 have g3 := itemB_sz ⟨#[119, 111, 114, 100, 115, 32]⟩ (quotedB comma o.words)
 have g4 := itemB_sz ⟨#[97, 100, 106, 115, 32]⟩ (quotedB comma o.adjs)
 have g5 := itemB_sz ⟨#[105, 115, 32]⟩ (sepB comma o.flags)
 have e1 : (⟨#[32, 105, 110, 32]⟩ : ByteArray).size = 4 := rfl
 have e2 : (⟨#[9, 116, 101, 120, 116, 32]⟩ : ByteArray).size = 6 := rfl
 have e3 : (⟨#[59, 10]⟩ : ByteArray).size = 2 := rfl
 have e4 : (⟨#[32]⟩ : ByteArray).size = 1 := rfl
 have e5 : (⟨#[32, 123, 10]⟩ : ByteArray).size = 3 := rfl
 have e6 : (⟨#[125, 10]⟩ : ByteArray).size = 2 := rfl
 have e7 : (⟨#[119, 111, 114, 100, 115, 32]⟩ : ByteArray).size = 6 := rfl
 have e8 : (⟨#[97, 100, 106, 115, 32]⟩ : ByteArray).size = 5 := rfl
 have e9 : (⟨#[105, 115, 32]⟩ : ByteArray).size = 3 := rfl
 have g6 : (if o.room = true then (⟨#[114, 111, 111, 109, 32]⟩ : ByteArray) else ⟨#[116, 104, 105, 110, 103, 32]⟩).size ≤ 6 := by split <;> decide
 simp only [ByteArray.size_append] at g1 g2
 simp only [objB, ByteArray.size_append]
 omega
theorem slotB_sz {s : SlotD} (h : SlotR s) : (slotB s).size ≤ 8216 := by
 obtain ⟨-, -, -, h⟩ := h
 have h1 := quotedB_sz ⟨#[32, 47, 32]⟩ (by decide) (m := 4) (by have := h.1; omega) h.2
 unfold slotB
 split
 · decide
 split
 · decide
 split
 · decide
 split
 · decide
 omega
theorem lineB_sz {l : List SlotD} (h : LineR l) : (lineB l).size ≤ 8217 * 8 := by
 obtain ⟨-, h1, h2⟩ := h
 have h3 := sepB_le ⟨#[32]⟩ 8216 (l.map slotB) (fun x hx => by obtain ⟨y, hy, rfl⟩ := List.mem_map.1 hx; exact slotB_sz (h2 y hy))
 rw [List.length_map] at h3
 exact Nat.le_trans h3 (Nat.mul_le_mul (by decide) (by omega))
theorem linesV_sz {v : VerbD} (h : VerbR v) : (linesV v).size ≤ 65739 * 8 := by
 obtain ⟨-, -, h1, h2⟩ := h
 have h3 := sepB_le ⟨#[32, 124, 32]⟩ 65736 (v.lines.map lineB) (fun x hx => by obtain ⟨y, hy, rfl⟩ := List.mem_map.1 hx; exact lineB_sz (h2 y hy))
 rw [List.length_map] at h3
 exact Nat.le_trans h3 (Nat.mul_le_mul (by decide) (by omega))
theorem verbB_sz {v : VerbD} (h : VerbR v) : (verbB v).size ≤ 600000 := by
 have h1 := linesV_sz h
 have h2 := isName_size h.1
 have e1 : (⟨#[118, 101, 114, 98, 32]⟩ : ByteArray).size = 5 := rfl
 have e2 : (⟨#[32, 61, 32]⟩ : ByteArray).size = 3 := rfl
 have e3 : (⟨#[59, 10]⟩ : ByteArray).size = 2 := rfl
 have g6 : (if v.isMeta = true then (⟨#[32, 109, 101, 116, 97]⟩ : ByteArray) else ⟨#[]⟩).size ≤ 5 := by split <;> decide
 simp only [verbB, ByteArray.size_append]
 omega
theorem whichW_sz {n s : ByteArray} (hn : MaybeR n) (hs : MaybeR s) : (whichW n s).size ≤ 60 := by
 have h1 := maybe_sz hn
 have h2 := maybe_sz hs
 have e1 : (⟨#[40]⟩ : ByteArray).size = 1 := rfl
 have e2 : (⟨#[41]⟩ : ByteArray).size = 1 := rfl
 have e3 : (⟨#[44, 32]⟩ : ByteArray).size = 2 := rfl
 have g : (if n = ⟨#[]⟩ then (⟨#[97, 110, 121]⟩ : ByteArray) else n).size ≤ 24 := by split; decide; exact h1
 unfold whichW
 split
 · split
   · exact Nat.zero_le _
   simp only [ByteArray.size_append]; omega
 simp only [ByteArray.size_append]; omega
theorem rightB_ok {l : List St} (h : RightB l) : ∀ s ∈ l, StOk s := h.2.2
theorem phaseW_sz (p : Int) : (phaseW p).size ≤ 7 := by unfold phaseW; split; decide; split; decide; decide
theorem ruleT_sz {r : RuleD} (h : RuleR r) : (ruleT r).size ≤ 300 + 2400 * (Ex.sizes r.cond + St.totals r.body) := by
 obtain ⟨h1, -, -, h2, h3, h4, h5⟩ := h
 have h1 := isName_size h1
 have h6 := whichW_sz h2 h3
 have h7 := condB_sz h4
 have h8 := St.blk_sz r.body (rightB_ok h5) 0 (by omega)
 have h9 := phaseW_sz r.phase
 have e1 : (⟨#[32]⟩ : ByteArray).size = 1 := rfl
 have e2 : (⟨#[10]⟩ : ByteArray).size = 1 := rfl
 simp only [ruleT, ByteArray.size_append]
 omega
theorem funB_sz {f : FuncD} (h : FunR 8 f) : (funB f).size ≤ 500 + 2400 * St.totals f.body := by
 obtain ⟨h1, h2, h5⟩ := h
 have h1 := isName_size h1
 have h7 := names_sz comma (by decide) (m := 8) (by have := h2.1; omega) h2.2
 have h8 := St.blk_sz f.body (rightB_ok h5) 0 (by omega)
 have e1 : (⟨#[102, 117, 110, 99, 32]⟩ : ByteArray).size = 5 := rfl
 have e2 : (⟨#[10]⟩ : ByteArray).size = 1 := rfl
 have e3 : (⟨#[40]⟩ : ByteArray).size = 1 := rfl
 have e4 : (⟨#[41, 32]⟩ : ByteArray).size = 2 := rfl
 simp only [funB, ByteArray.size_append]
 omega
theorem daeB_sz {m : Int} {f : FuncD} (h : FunR m f) : (daeB f).size ≤ 500 + 2400 * St.totals f.body := by
 obtain ⟨h1, h2, h5⟩ := h
 have h1 := isName_size h1
 have h8 := St.blk_sz f.body (rightB_ok h5) 0 (by omega)
 have e1 : (⟨#[100, 97, 101, 109, 111, 110, 32]⟩ : ByteArray).size = 7 := rfl
 have e2 : (⟨#[10]⟩ : ByteArray).size = 1 := rfl
 have e3 : (⟨#[32]⟩ : ByteArray).size = 1 := rfl
 simp only [daeB, ByteArray.size_append]
 omega
theorem num_i64 {n : Int} (h : NumR n) : I64 n := by have h1 := h.1; have h2 := h.2; unfold I64; omega
theorem headS_sz {s : SrcD} (h : SrcR s) : (headS s).size ≤ 5000 := by
 obtain ⟨h1, h2, h3, h4, h5, -⟩ := h
 have h1 := quote_sz h1
 have h2 := quote_sz h2
 have h3 := isName_size h3
 have h4 := numB_sz s.release (num_i64 h4)
 have h5 := numB_sz s.most (num_i64 h5)
 have e1 : (⟨#[115, 116, 111, 114, 121, 32]⟩ : ByteArray).size = 6 := rfl
 have e2 : (⟨#[32, 98, 121, 32]⟩ : ByteArray).size = 4 := rfl
 have e3 : (⟨#[32, 114, 101, 108, 101, 97, 115, 101, 32]⟩ : ByteArray).size = 9 := rfl
 have e4 : (⟨#[32, 109, 97, 120, 32]⟩ : ByteArray).size = 5 := rfl
 have e5 : (⟨#[32, 115, 116, 97, 114, 116, 32]⟩ : ByteArray).size = 7 := rfl
 have e6 : (⟨#[59, 10]⟩ : ByteArray).size = 2 := rfl
 simp only [headS, ByteArray.size_append]
 omega
theorem flagsS_sz {s : SrcD} (h : NamesR 16 s.flags) : (flagsS s).size ≤ 500 := by
 have h1 := names_sz comma (by decide) (m := 16) (by have := h.1; omega) h.2
 have e1 : (⟨#[102, 108, 97, 103, 32]⟩ : ByteArray).size = 5 := rfl
 have e2 : (⟨#[59, 10]⟩ : ByteArray).size = 2 := rfl
 unfold flagsS
 split
 · exact Nat.zero_le _
 simp only [ByteArray.size_append]; omega
theorem cat_sz {α : Type} (f : α → ByteArray) (g : α → Nat) (c m : Nat) (l : List α) (hl : l.length ≤ m) (h : ∀ x ∈ l, (f x).size ≤ c + 2400 * g x) : (catB (l.map f)).size ≤ c * m + 2400 * (l.map g).sum := by
 rw [catB_sum, List.map_map]
 have h10 := sum_le2 (ByteArray.size ∘ f) g c l h
 have h11 : c * l.length ≤ c * m := Nat.mul_le_mul (Nat.le_refl _) hl
 omega
theorem sum_zero {α : Type} (l : List α) : (l.map fun _ => 0).sum = 0 := by
 induction l with
 | nil => rfl
 | cons x l ih => simp [ih]
theorem cat_sz0 {α : Type} (f : α → ByteArray) (c m : Nat) (l : List α) (hl : l.length ≤ m) (h : ∀ x ∈ l, (f x).size ≤ c) : (catB (l.map f)).size ≤ c * m := by
 have := cat_sz f (fun _ => 0) c m l hl (fun x hx => h x hx)
 rw [sum_zero] at this
 omega
theorem srcB_sz {s : SrcD} (h : SrcR s) : (srcB s).size ≤ 100000000 + 2400 * s.nds := by
 have g0 := headS_sz h
 obtain ⟨-, -, -, -, -, h1, h2, h3, h4, h5, h6, h7, h8⟩ := h
 have g1 := flagsS_sz h1
 have g2 := cat_sz0 propS 65 16 s.props (by have := h2.1; omega) (fun p hp => by
  have := valueB_sz (h2.2 p hp)
  have e1 : (⟨#[112, 114, 111, 112, 32]⟩ : ByteArray).size = 5 := rfl
  simp only [propS, ByteArray.size_append]
  omega)
 have g3 := cat_sz0 globS 67 64 s.globals (by have := h3.1; omega) (fun p hp => by
  have := valueB_sz (h3.2 p hp)
  have e1 : (⟨#[103, 108, 111, 98, 97, 108, 32]⟩ : ByteArray).size = 7 := rfl
  simp only [globS, ByteArray.size_append]
  omega)
 have g4 := cat_sz objB (fun o => (o.exits.map fun x => Ex.sizes x.cond).sum) 100000 126 s.objects (by have := h4.1; omega) (fun o ho => objB_sz (h4.2 o ho))
 have g5 := cat_sz0 verbB 600000 64 s.verbs (by have := h5.1; omega) (fun v hv => verbB_sz (h5.2 v hv))
 have g6 := cat_sz ruleT (fun r => Ex.sizes r.cond + St.totals r.body) 300 512 s.rules (by have := h6.1; omega) (fun r hr => ruleT_sz (h6.2 r hr))
 have g7 := cat_sz funB (fun f => St.totals f.body) 500 64 s.funcs (by have := h7.1; omega) (fun f hf => funB_sz (h7.2 f hf))
 have g8 := cat_sz daeB (fun f => St.totals f.body) 500 16 s.daemons (by have := h8.1; omega) (fun f hf => daeB_sz ((dae_iff f).1 (h8.2 f hf)))
 simp only [srcB, ByteArray.size_append, SrcD.nds]
 omega
end Go.Proofs.YtdeecfkipknkbaaGreatDoor
