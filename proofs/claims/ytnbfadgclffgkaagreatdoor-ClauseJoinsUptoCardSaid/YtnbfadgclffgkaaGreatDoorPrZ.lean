/- How long the texts of expressions and statements of a source are. No program in sight. -/
import Derived.Test.YtnbfadgclffgkaaGreatDoorPart68e43f7d
import Derived.Lib.ItoaLen
namespace Go.Proofs.YtnbfadgclffgkaaGreatDoor
open Go.RowKit
theorem isName_size {s : ByteArray} (h : IsNm s) : s.size ≤ 24 := h.1.2.1
def psz : List (Int × ByteArray) → Nat
  | [] => 0
  | p :: l => p.2.size + 4 + psz l
theorem wrapB_sz (c : Bool) (x : ByteArray) : (wrapB c x).size ≤ x.size + 2 := by
  unfold wrapB
  split
  · simp only [ByteArray.size_append]
    have e1 : (⟨#[40]⟩ : ByteArray).size = 1 := rfl
    have e2 : (⟨#[41]⟩ : ByteArray).size = 1 := rfl
    omega
  · omega
theorem pt_sz0 (p : Int × ByteArray) (l : List (Int × ByteArray)) (t : Int) : (pt (p :: l) 0 t).size ≤ p.2.size + 2 := by
  show (wrapB (decide (p.1 < t)) p.2).size ≤ _
  exact wrapB_sz _ _
theorem pt_sz1 (p q : Int × ByteArray) (l : List (Int × ByteArray)) (t : Int) : (pt (p :: q :: l) 1 t).size ≤ q.2.size + 2 := by
  show (wrapB (decide (q.1 < t)) q.2).size ≤ _
  exact wrapB_sz _ _
theorem pt_sz_one (p : Int × ByteArray) (t : Int) : (pt [p] 1 t).size = 0 := rfl
theorem pt_psz (ps : List (Int × ByteArray)) (t : Int) : (pt ps 0 t).size ≤ psz ps := by
  cases ps with
  | nil => exact Nat.le_refl _
  | cons p l => have := pt_sz0 p l t; simp only [psz]; omega
theorem pt_psz2 (ps : List (Int × ByteArray)) (t u : Int) : (pt ps 0 t).size + (pt ps 1 u).size ≤ psz ps := by
  match ps with
  | [] => exact Nat.le_refl _
  | [p] => have := pt_sz0 p [] t; have := pt_sz_one p u; simp only [psz]; omega
  | p :: q :: l => have := pt_sz0 p (q :: l) t; have := pt_sz1 p q l u; simp only [psz]; omega
theorem argB_psz (ps : List (Int × ByteArray)) : (argB ps 0).size + (argB ps 1).size ≤ psz ps := by
  match ps with
  | [] => exact Nat.le_refl _
  | [p] =>
    show p.2.size + 0 ≤ p.2.size + 4 + 0
    omega
  | p :: q :: l =>
    show p.2.size + q.2.size ≤ p.2.size + 4 + (q.2.size + 4 + psz l)
    omega
theorem argB_pt (ps : List (Int × ByteArray)) (t : Int) : (pt ps 0 t).size + (argB ps 1).size ≤ psz ps := by
  match ps with
  | [] => exact Nat.le_refl _
  | [p] =>
    have := pt_sz0 p [] t
    show _ + 0 ≤ p.2.size + 4 + 0
    omega
  | p :: q :: l =>
    have := pt_sz0 p (q :: l) t
    show _ + q.2.size ≤ p.2.size + 4 + (q.2.size + 4 + psz l)
    omega
theorem sepTail_sz (sep : ByteArray) (hs : sep.size ≤ 4) : ∀ ps : List (Int × ByteArray), (sepTail sep (ps.map Prod.snd)).size ≤ psz ps
  | [] => Nat.le_refl _
  | p :: l => by
    have := sepTail_sz sep hs l
    simp only [List.map_cons, sepTail, ByteArray.size_append, psz]
    omega
theorem sepB_sz (sep : ByteArray) (hs : sep.size ≤ 4) (ps : List (Int × ByteArray)) : (sepB sep (ps.map Prod.snd)).size ≤ psz ps := by
  cases ps with
  | nil => exact Nat.le_refl _
  | cons p l =>
    have := sepTail_sz sep hs l
    simp only [List.map_cons, sepB, ByteArray.size_append, psz]
    omega
theorem numB_sz (n : Int) (h : I64 n) : (numB n).size ≤ 21 := by
  have := Lib.itoa_length_le n h.1 h.2
  show (Lib.itoa n).toArray.size ≤ 21
  simpa using this
theorem signB_sz (o : Int) : (signB o).size ≤ 3 := by
  have h : ∀ n : Nat, ((signs.getD n ⟨#[]⟩ : ByteArray)).size ≤ 3 := by
    intro n
    match n with
    | 0 | 1 | 2 | 3 | 4 | 5 | 6 | 7 | 8 | 9 | 10 | 11 | 12 | 13 | 14 => decide
    | n + 15 => exact Nat.zero_le _
  exact h _
theorem selfB_sz (o : Int) : (selfB o).size ≤ 6 := by
  have h : ∀ n : Nat, ((selves.getD n ⟨#[]⟩ : ByteArray)).size ≤ 6 := by
    intro n
    match n with
    | 0 | 1 | 2 | 3 | 4 | 5 => decide
    | n + 6 => exact Nat.zero_le _
  exact h _
theorem aroundB_sz (o : Int) : (aroundB o).size ≤ 6 := by
  have h : ∀ n : Nat, ((arounds.getD n ⟨#[]⟩ : ByteArray)).size ≤ 6 := by
    intro n
    match n with
    | 0 | 1 | 2 => decide
    | n + 3 => exact Nat.zero_le _
  exact h _
theorem prE_sz (k o n : Int) (s : ByteArray) (ps : List (Int × ByteArray)) (hn : k = 1 → I64 n) (hs : s.size ≤ 1024) : (prE k o n s ps).size ≤ 2060 + psz ps := by
  have h0 : (⟨#[32]⟩ : ByteArray).size = 1 := rfl
  have h1 : (⟨#[45]⟩ : ByteArray).size = 1 := rfl
  have h2 : (⟨#[46]⟩ : ByteArray).size = 1 := rfl
  have h3 : (⟨#[40]⟩ : ByteArray).size = 1 := rfl
  have h4 : (⟨#[41]⟩ : ByteArray).size = 1 := rfl
  have h5 : (⟨#[110, 111, 116, 32]⟩ : ByteArray).size = 4 := rfl
  have h6 : (⟨#[32, 104, 97, 115, 32]⟩ : ByteArray).size = 5 := rfl
  unfold prE
  split
  · rename_i hk; have := numB_sz n (hn hk); omega
  split
  · have := quoteB_size s; omega
  split
  · omega
  split
  · have := pt_psz ps 7; simp only [ByteArray.size_append]; omega
  split
  · have := pt_psz ps 3; simp only [ByteArray.size_append]; omega
  split
  · have := pt_psz ps 5; simp only [ByteArray.size_append]; omega
  split
  · have := pt_psz ps 8; simp only [ByteArray.size_append]; omega
  split
  · have := pt_psz2 ps (lft o) (lvl o + 1); have := signB_sz o; simp only [ByteArray.size_append]; omega
  split
  · have := selfB_sz o; omega
  · have h7 := sepB_sz ⟨#[44, 32]⟩ (by decide) ps
    have h8 : (headB k o s).size ≤ 1024 := by
      unfold headB
      split
      · have := aroundB_sz o; omega
      split
      · decide
      split
      · decide
      · exact hs
    simp only [ByteArray.size_append]
    omega
mutual
theorem Ex.pr_sz : ∀ e : Ex, Src e → e.pr.size + 4 ≤ 2100 * e.size
  | .mk k o n s args, h => by
    obtain ⟨hk, hsh, h1, h2, h3, h4⟩ := h
    have hs : s.size ≤ 1024 := by
      by_cases c2 : k = 2
      · exact (h2 c2).1
      by_cases c3 : k = 3 ∨ k = 7 ∨ k = 8 ∨ k = 9
      · have := isName_size (h3 c3); omega
      · obtain ⟨-, -, -, hn, -⟩ := hsh
        have hz : (hasOf k).name = false := by
          unfold hasOf
          repeat' split
          all_goals first | rfl | omega
        rw [hz] at hn
        have : s = ByteArray.empty := hn.resolve_left (by simp)
        subst this
        exact Nat.zero_le _
    have h5 := prE_sz k o n s (Ex.prs args) (fun hk => by have := h1 hk; unfold I64; omega) hs
    have h6 := Ex.prs_sz args h4
    show (prE k o n s (Ex.prs args)).size + 4 ≤ 2100 * (1 + Ex.sizes args)
    omega
theorem Ex.prs_sz : ∀ l : List Ex, Srcs l → psz (Ex.prs l) ≤ 2100 * Ex.sizes l
  | [], _ => Nat.le_refl _
  | e :: l, h => by
    have h1 := Ex.pr_sz e h.1.2
    have h2 := Ex.prs_sz l h.2
    simp only [Ex.prs, psz, Ex.sizes]
    omega
end
theorem wordB_sz (k : Int) : (wordB k).size ≤ 6 := by
  unfold wordB
  repeat' split
  all_goals decide
theorem ite_sz {c : Prop} [Decidable c] {x y : ByteArray} {n : Nat} (h1 : c → x.size ≤ n) (h2 : ¬ c → y.size ≤ n) : (if c then x else y).size ≤ n := by
  by_cases h : c
  · rw [if_pos h]; exact h1 h
  · rw [if_neg h]; exact h2 h
theorem lnE_sz (k : Int) (s : ByteArray) (ps : List (Int × ByteArray)) (body els : ByteArray) : (lnE k s ps body els).size ≤ 30 + s.size + psz ps + body.size + els.size := by
  have h1 : (⟨#[115, 97, 121, 32]⟩ : ByteArray).size = 4 := rfl
  have h2 : (⟨#[59]⟩ : ByteArray).size = 1 := rfl
  have h3 : (⟨#[108, 101, 116, 32]⟩ : ByteArray).size = 4 := rfl
  have h4 : (⟨#[32, 61, 32]⟩ : ByteArray).size = 3 := rfl
  have h5 : (⟨#[46]⟩ : ByteArray).size = 1 := rfl
  have h6 : (⟨#[115, 101, 116, 32]⟩ : ByteArray).size = 4 := rfl
  have h7 : (⟨#[32, 105, 115, 32]⟩ : ByteArray).size = 4 := rfl
  have h8 : (⟨#[117, 110, 115, 101, 116, 32]⟩ : ByteArray).size = 6 := rfl
  have h9 : (⟨#[109, 111, 118, 101, 32]⟩ : ByteArray).size = 5 := rfl
  have h10 : (⟨#[32, 116, 111, 32]⟩ : ByteArray).size = 4 := rfl
  have h11 : (⟨#[105, 102, 32]⟩ : ByteArray).size = 3 := rfl
  have h12 : (⟨#[32]⟩ : ByteArray).size = 1 := rfl
  have h13 : (⟨#[119, 104, 105, 108, 101, 32]⟩ : ByteArray).size = 6 := rfl
  have h14 : (⟨#[101, 97, 99, 104, 32]⟩ : ByteArray).size = 5 := rfl
  have h15 : (⟨#[32, 105, 110, 32]⟩ : ByteArray).size = 4 := rfl
  have h16 : (⟨#[115, 116, 97, 114, 116, 32]⟩ : ByteArray).size = 6 := rfl
  have h17 : (⟨#[104, 97, 108, 116, 32]⟩ : ByteArray).size = 5 := rfl
  have hw := wordB_sz k
  have ha := argB_psz ps
  have hb := argB_pt ps 8
  have hc := sepB_sz ⟨#[44, 32]⟩ (by decide) ps
  unfold lnE
  repeat' (refine ite_sz (fun _ => ?_) (fun _ => ?_))
  all_goals
    (try simp only [ByteArray.size_append])
    omega
theorem linesB_sz (d : Nat) (hd : d ≤ 64) : ∀ l : List ByteArray, (linesB d l).size ≤ (l.map fun x => x.size + 65).sum
  | [] => Nat.le_refl _
  | x :: l => by
    have h1 := linesB_sz d hd l
    have h2 := tabsB_size d
    have h3 : (⟨#[10]⟩ : ByteArray).size = 1 := rfl
    simp only [linesB, ByteArray.size_append, List.map_cons, List.sum_cons]
    omega
theorem blockB_sz (d : Nat) (hd : d ≤ 64) (l : List ByteArray) : (blockB d l).size ≤ 67 + (l.map fun x => x.size + 65).sum := by
  have h1 := linesB_sz (dn d) (dn_le d) l
  have h2 := tabsB_size d
  have h3 : (⟨#[123, 10]⟩ : ByteArray).size = 2 := rfl
  have h4 : (⟨#[125]⟩ : ByteArray).size = 1 := rfl
  simp only [blockB, ByteArray.size_append]
  omega
mutual
theorem St.ln_sz : ∀ s : St, StOk s → ∀ d, d ≤ 64 → (s.ln d).size + 100 ≤ 2400 * s.total
  | .mk k n s args body els, h, d, hd => by
    obtain ⟨hg, -, ha, ⟨-, hb⟩, -, he⟩ := h
    obtain ⟨-, -, -, -, -, hnm⟩ := hg
    have hs : s.size ≤ 24 := by
      unfold NameOk at hnm
      split at hnm
      · exact isName_size hnm.2.2
      · rw [hnm.1]; exact Nat.zero_le _
    have h1 : psz (Ex.prs args) ≤ 2100 * Ex.sizes args := by
      have : ∀ l : List Ex, (∀ x ∈ l, Src x) → psz (Ex.prs l) ≤ 2100 * Ex.sizes l := by
        intro l
        induction l with
        | nil => intro _; exact Nat.le_refl _
        | cons e l ih =>
          intro h
          have h1 := Ex.pr_sz e (h e (by simp))
          have h2 := ih (fun x hx => h x (by simp [hx]))
          simp only [Ex.prs, psz, Ex.sizes]
          omega
      exact this args (fun x hx => (ha x hx).2)
    have h2 := St.lns_sz body hb (dn d) (dn_le d)
    have h3 := St.lns_sz els he (dn d) (dn_le d)
    have h4 := blockB_sz d hd (St.lns body (dn d))
    have h5 := blockB_sz d hd (St.lns els (dn d))
    have h6 : (elsB d (oneIf els) (St.lns els d) (St.lns els (dn d))).size ≤ 73 + 2400 * St.totals els := by
      have h7 : (⟨#[32, 101, 108, 115, 101, 32]⟩ : ByteArray).size = 6 := rfl
      have h8 := St.lns_sz els he d hd
      cases hl : St.lns els d with
      | nil => simp only [elsB]; exact Nat.zero_le _
      | cons x r =>
        rw [hl] at h8
        simp only [List.map_cons, List.sum_cons] at h8
        simp only [elsB]
        split
        · simp only [ByteArray.size_append]; omega
        · simp only [ByteArray.size_append]; omega
    have h7 := lnE_sz k s (Ex.prs args) (blockB d (St.lns body (dn d))) (elsB d (oneIf els) (St.lns els d) (St.lns els (dn d)))
    show (lnE k s (Ex.prs args) (blockB d (St.lns body (dn d))) (elsB d (oneIf els) (St.lns els d) (St.lns els (dn d)))).size + 100 ≤ 2400 * (1 + Ex.sizes args + St.totals body + St.totals els)
    omega
theorem St.lns_sz : ∀ l : List St, StOks l → ∀ d, d ≤ 64 → ((St.lns l d).map fun x => x.size + 65).sum ≤ 2400 * St.totals l
  | [], _, _, _ => Nat.le_refl _
  | s :: l, h, d, hd => by
    have h1 := St.ln_sz s h.1 d hd
    have h2 := St.lns_sz l h.2 d hd
    simp only [St.lns, List.map_cons, List.sum_cons, St.totals]
    omega
end
theorem St.pr_sz (s : St) (h : StOk s) (d : Nat) (hd : d ≤ 64) : (s.pr d).size ≤ 2400 * s.total := by
  have h1 := St.ln_sz s h d hd
  have h2 := tabsB_size d
  have h3 : (⟨#[10]⟩ : ByteArray).size = 1 := rfl
  simp only [St.pr, ByteArray.size_append]
  omega
theorem St.blk_sz (l : List St) (h : ∀ s ∈ l, StOk s) (d : Nat) (hd : d ≤ 64) : (St.blk l d).size ≤ 67 + 2400 * St.totals l := by
  have h1 := blockB_sz d hd (St.lns l (dn d))
  have h2 := St.lns_sz l ((stOks_iff l).2 h) (dn d) (dn_le d)
  show (blockB d (St.lns l (dn d))).size ≤ _
  omega
end Go.Proofs.YtnbfadgclffgkaaGreatDoor
