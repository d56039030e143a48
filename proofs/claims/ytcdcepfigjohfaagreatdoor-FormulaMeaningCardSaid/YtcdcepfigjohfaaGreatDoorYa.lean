/- Sets in order: strictly sorted lists, of literals and of clauses; what Sort of formulas answers. -/
import Derived.Test.YtcdcepfigjohfaaGreatDoorFd
set_option linter.unusedSimpArgs false
set_option linter.unusedVariables false
set_option linter.unusedSectionVars false
set_option maxRecDepth 100000
namespace Go.Mx
section
variable {α : Type} [DecidableEq α]
structure STO (lt : α → α → Bool) : Prop where
 irr : ∀ x, lt x x = false
 tr : ∀ x y z, lt x y = true → lt y z = true → lt x z = true
 tot : ∀ x y, lt x y = true ∨ x = y ∨ lt y x = true
theorem STO.asym {lt : α → α → Bool} (h : STO lt) {x y : α} (e : lt x y = true) : lt y x = false := by
 cases e2 : lt y x with
 | false => rfl
 | true =>
  have := h.tr x y x e e2
  rw [h.irr] at this
  cases this
theorem STO.eq {lt : α → α → Bool} (h : STO lt) {x y : α} (e : lt x y = false) (e2 : lt y x = false) : x = y := by
 rcases h.tot x y with k | k | k
 ·rw [e] at k; cases k
 ·exact k
 ·rw [e2] at k; cases k
def insU (lt : α → α → Bool) (x : α) : List α → List α
 | [] => [x]
 | y :: r => if lt y x = true then y :: insU lt x r else if x = y then y :: r else x :: y :: r
def srtU (lt : α → α → Bool) (l : List α) : List α := l.foldl (fun o x => insU lt x o) []
def Inc (lt : α → α → Bool) (l : List α) : Prop := l.Pairwise fun a b => lt a b = true
theorem mem_insU {lt : α → α → Bool} {x y : α} : ∀ {l : List α}, y ∈ insU lt x l ↔ y = x ∨ y ∈ l
 | [] => by simp [insU]
 | z :: r => by
  unfold insU
  split
  ·rw [List.mem_cons, mem_insU, List.mem_cons]
   constructor
   ·rintro (h | h | h)
    ·exact .inr (.inl h)
    ·exact .inl h
    ·exact .inr (.inr h)
   ·rintro (h | h | h)
    ·exact .inr (.inl h)
    ·exact .inl h
    ·exact .inr (.inr h)
  ·split
   ·rename_i h
    subst h
    simp
   ·simp
theorem insU_inc {lt : α → α → Bool} (h : STO lt) {x : α} : ∀ {l : List α}, Inc lt l → Inc lt (insU lt x l)
 | [], _ => List.pairwise_singleton _ _
 | y :: r, hl => by
  obtain ⟨h1, h2⟩ := List.pairwise_cons.1 hl
  unfold insU
  split
  ·rename_i e
   refine List.pairwise_cons.2 ⟨fun z hz => ?_, insU_inc h h2⟩
   rcases mem_insU.1 hz with rfl | hz
   ·exact e
   ·exact h1 z hz
  ·rename_i e
   split
   ·exact hl
   ·rename_i hne
    have e2 : lt x y = true := by
     rcases h.tot x y with k | k | k
     ·exact k
     ·exact absurd k hne
     ·exact absurd k e
    refine List.pairwise_cons.2 ⟨fun z hz => ?_, hl⟩
    rcases List.mem_cons.1 hz with rfl | hz
    ·exact e2
    ·exact h.tr _ _ _ e2 (h1 z hz)
theorem inc_uniq {lt : α → α → Bool} (h : STO lt) : ∀ {l m : List α}, Inc lt l → Inc lt m → (∀ x, x ∈ l ↔ x ∈ m) → l = m
 | [], [], _, _, _ => rfl
 | [], y :: m, _, _, e => by have := (e y).2 (by simp); simp at this
 | x :: l, [], _, _, e => by have := (e x).1 (by simp); simp at this
 | x :: l, y :: m, hl, hm, e => by
  obtain ⟨h1, h2⟩ := List.pairwise_cons.1 hl
  obtain ⟨h3, h4⟩ := List.pairwise_cons.1 hm
  have hxy : x = y := by
   rcases List.mem_cons.1 ((e x).1 (by simp)) with k | k
   ·exact k
   ·rcases List.mem_cons.1 ((e y).2 (by simp)) with k2 | k2
    ·exact k2.symm
    ·have a := h3 x k
     have b := h1 y k2
     rw [h.asym a] at b
     cases b
  subst hxy
  rw [inc_uniq h h2 h4 fun z => ?_]
  have hz := e z
  simp only [List.mem_cons] at hz
  constructor
  ·intro k
   rcases hz.1 (.inr k) with rfl | k2
   ·have := h1 z k
    rw [h.irr] at this
    cases this
   ·exact k2
  ·intro k
   rcases hz.2 (.inr k) with rfl | k2
   ·have := h3 z k
    rw [h.irr] at this
    cases this
   ·exact k2
theorem foldU {lt : α → α → Bool} (h : STO lt) : ∀ (l o : List α), Inc lt o → Inc lt (l.foldl (fun o x => insU lt x o) o) ∧ ∀ y, y ∈ l.foldl (fun o x => insU lt x o) o ↔ y ∈ o ∨ y ∈ l
 | [], o, ho => ⟨ho, fun y => by simp⟩
 | x :: l, o, ho => by
  obtain ⟨h1, h2⟩ := foldU h l (insU lt x o) (insU_inc h ho)
  refine ⟨h1, fun y => ?_⟩
  rw [List.foldl_cons, h2, mem_insU, List.mem_cons]
  constructor
  ·rintro ((k | k) | k)
   ·exact .inr (.inl k)
   ·exact .inl k
   ·exact .inr (.inr k)
  ·rintro (k | k | k)
   ·exact .inl (.inr k)
   ·exact .inl (.inl k)
   ·exact .inr k
theorem srtU_inc {lt : α → α → Bool} (h : STO lt) (l : List α) : Inc lt (srtU lt l) := (foldU h l [] .nil).1
theorem mem_srtU {lt : α → α → Bool} (h : STO lt) {l : List α} {y : α} : y ∈ srtU lt l ↔ y ∈ l := by
 have := (foldU h l [] .nil).2 y
 simpa [srtU] using this
theorem srtU_eq {lt : α → α → Bool} (h : STO lt) {l m : List α} (hm : Inc lt m) (e : ∀ y, y ∈ m ↔ y ∈ l) : m = srtU lt l :=
 inc_uniq h hm (srtU_inc h l) fun y => by rw [mem_srtU h, e]
theorem srtU_snoc {lt : α → α → Bool} (l : List α) (x : α) : srtU lt (l ++ [x]) = insU lt x (srtU lt l) := by simp [srtU]
def cmpct : List α → List α
 | [] => []
 | x :: r => match r with
  | [] => [x]
  | y :: _ => if x = y then cmpct r else x :: cmpct r
theorem mem_cmpct {y : α} : ∀ {l : List α}, y ∈ cmpct l ↔ y ∈ l
 | [] => by simp [cmpct]
 | [x] => by simp [cmpct]
 | x :: z :: r => by
  have ih := mem_cmpct (y := y) (l := z :: r)
  have e : cmpct (x :: z :: r) = if x = z then cmpct (z :: r) else x :: cmpct (z :: r) := rfl
  rw [e]
  split
  ·rename_i h
   subst h
   rw [ih]
   simp
  ·rw [List.mem_cons, ih, List.mem_cons (b := x)]
theorem cmpct_inc {lt : α → α → Bool} (h : STO lt) : ∀ {l : List α}, l.Pairwise (fun a b => lt b a = false) → Inc lt (cmpct l)
 | [], _ => .nil
 | [x], _ => List.pairwise_singleton _ _
 | x :: z :: r, hp => by
  obtain ⟨h1, h2⟩ := List.pairwise_cons.1 hp
  have ih := cmpct_inc h h2
  have e : cmpct (x :: z :: r) = if x = z then cmpct (z :: r) else x :: cmpct (z :: r) := rfl
  rw [e]
  split
  ·exact ih
  ·rename_i hne
   have hz : lt x z = true := by
    rcases h.tot x z with k | k | k
    ·exact k
    ·exact absurd k hne
    ·rw [h1 z (by simp)] at k
     cases k
   refine List.pairwise_cons.2 ⟨fun y hy => ?_, ih⟩
   rcases List.mem_cons.1 (mem_cmpct.1 hy) with rfl | hy
   ·exact hz
   ·rcases h.tot x y with k | k | k
    ·exact k
    ·subst k
     have := (List.pairwise_cons.1 h2).1 x hy
     rw [hz] at this
     cases this
    ·rw [h1 y (by simp [hy])] at k
     cases k
theorem cmpct_srt {lt : α → α → Bool} (h : STO lt) {l m : List α} (hp : l.Pairwise (fun a b => lt b a = false)) (e : ∀ y, y ∈ l ↔ y ∈ m) : cmpct l = srtU lt m :=
 srtU_eq h (cmpct_inc h hp) fun y => by rw [mem_cmpct, e]
end
namespace Tryz
def litLt (a b : Int) : Bool := decide (max a (-a) < max b (-b)) || (decide (max a (-a) = max b (-b)) && decide (a < b))
theorem sto_lit : STO litLt := by
 refine ⟨fun x => ?_, fun x y z => ?_, fun x y => ?_⟩
 ·simp [litLt]
 ·simp only [litLt, Bool.or_eq_true, Bool.and_eq_true, decide_eq_true_eq]
  omega
 ·simp only [litLt, Bool.or_eq_true, Bool.and_eq_true, decide_eq_true_eq]
  omega
def lexLt : List Int → List Int → Bool
 | [], [] => false
 | [], _ :: _ => true
 | _ :: _, [] => false
 | x :: a, y :: b => litLt x y || (decide (x = y) && lexLt a b)
theorem lexLt_cons (x y : Int) (a b : List Int) : lexLt (x :: a) (y :: b) = (litLt x y || (decide (x = y) && lexLt a b)) := rfl
theorem sto_lex : STO lexLt := by
 refine ⟨fun x => ?_, fun x => ?_, fun x => ?_⟩
 ·induction x with
  | nil => rfl
  | cons a x ih => rw [lexLt_cons, sto_lit.irr, ih]; simp
 ·induction x with
  | nil =>
   intro y z h1 h2
   cases y with
   | nil => cases h1
   | cons b y =>
    cases z with
    | nil => cases h2
    | cons c z => rfl
  | cons a x ih =>
   intro y z h1 h2
   cases y with
   | nil => cases h1
   | cons b y =>
    cases z with
    | nil => cases h2
    | cons c z =>
     rw [lexLt_cons] at h1 h2 ⊢
     simp only [Bool.or_eq_true, Bool.and_eq_true, decide_eq_true_eq] at h1 h2 ⊢
     rcases h1 with h1 | ⟨rfl, h1⟩
     ·rcases h2 with h2 | ⟨rfl, h2⟩
      ·exact .inl (sto_lit.tr _ _ _ h1 h2)
      ·exact .inl h1
     ·rcases h2 with h2 | ⟨rfl, h2⟩
      ·exact .inl h2
      ·exact .inr ⟨rfl, ih y z h1 h2⟩
 ·induction x with
  | nil =>
   intro y
   cases y with
   | nil => exact .inr (.inl rfl)
   | cons b y => exact .inl rfl
  | cons a x ih =>
   intro y
   cases y with
   | nil => exact .inr (.inr rfl)
   | cons b y =>
    rw [lexLt_cons, lexLt_cons]
    simp only [Bool.or_eq_true, Bool.and_eq_true, decide_eq_true_eq, List.cons.injEq]
    rcases sto_lit.tot a b with h | rfl | h
    ·exact .inl (.inl h)
    ·rcases ih y with h | rfl | h
     ·exact .inl (.inr ⟨rfl, h⟩)
     ·exact .inr (.inl ⟨rfl, rfl⟩)
     ·exact .inr (.inr (.inr ⟨rfl, h⟩))
    ·exact .inr (.inr (.inl h))
def nrm (c : List Int) : List Int := srtU litLt c
def opp (c : List Int) : Bool := c.any fun x => decide (-x ∈ c)
theorem opp_iff {c : List Int} : opp c = true ↔ ∃ x, x ∈ c ∧ -x ∈ c := by simp [opp]
def nrms (cls : List (List Int)) : List (List Int) := (cls.map nrm).filter fun c => !opp c
def srtC (cls : List (List Int)) : List (List Int) := srtU lexLt (nrms cls)
theorem mem_nrm {c : List Int} {x : Int} : x ∈ nrm c ↔ x ∈ c := mem_srtU sto_lit
theorem mem_nrms {cls : List (List Int)} {c : List Int} : c ∈ nrms cls ↔ (∃ d, d ∈ cls ∧ nrm d = c) ∧ opp c = false := by simp [nrms]
theorem mem_srtC {cls : List (List Int)} {c : List Int} : c ∈ srtC cls ↔ (∃ d, d ∈ cls ∧ nrm d = c) ∧ opp c = false := by rw [srtC, mem_srtU sto_lex, mem_nrms]
theorem nrm_nrm (c : List Int) : nrm (nrm c) = nrm c := (srtU_eq sto_lit (srtU_inc sto_lit c) fun _ => Iff.rfl).symm
theorem srtC_ext {a b : List (List Int)} (h : ∀ c, c ∈ nrms a ↔ c ∈ nrms b) : srtC a = srtC b := srtU_eq sto_lex (srtU_inc sto_lex _) fun y => by rw [show srtC a = srtU lexLt (nrms a) from rfl, mem_srtU sto_lex, h]
theorem srtC_idem (cls : List (List Int)) : srtC (srtC cls) = srtC cls := srtC_ext fun c => by
 rw [mem_nrms, mem_nrms]
 constructor
 ·rintro ⟨⟨d, hd, rfl⟩, h2⟩
  obtain ⟨⟨e, he, rfl⟩, _⟩ := mem_srtC.1 hd
  exact ⟨⟨e, he, (nrm_nrm e).symm⟩, h2⟩
 ·rintro ⟨⟨d, hd, rfl⟩, h2⟩
  exact ⟨⟨nrm d, mem_srtC.2 ⟨⟨d, hd, rfl⟩, h2⟩, nrm_nrm d⟩, h2⟩
theorem srtC_rev (cls : List (List Int)) : srtC cls.reverse = srtC cls := srtC_ext fun c => by
 rw [mem_nrms, mem_nrms]
 simp
def adjO : List Int → Bool
 | [] => false
 | x :: r => match r with
  | [] => false
  | y :: _ => decide (y = -x) || adjO r
theorem adjO_opp : ∀ {c : List Int}, Inc litLt c → (∀ x, x ∈ c → x ≠ 0) → adjO c = opp c
 | [], _, _ => rfl
 | [x], _, h => by
  have := h x (by simp)
  have e : adjO [x] = false := rfl
  rw [e]
  symm
  rw [← Bool.not_eq_true, opp_iff]
  rintro ⟨y, hy, hy2⟩
  simp at hy hy2
  omega
 | x :: y :: r, hc, h => by
  obtain ⟨h1, h2⟩ := List.pairwise_cons.1 hc
  have ih := adjO_opp h2 fun z hz => h z (by simp at hz ⊢; exact .inr hz)
  have e : adjO (x :: y :: r) = (decide (y = -x) || adjO (y :: r)) := rfl
  have hx := h x (by simp)
  rw [e, ih]
  rw [Bool.eq_iff_iff, Bool.or_eq_true, opp_iff, opp_iff, decide_eq_true_eq]
  constructor
  ·rintro (rfl | ⟨z, hz, hz2⟩)
   ·exact ⟨x, by simp, by simp⟩
   ·exact ⟨z, List.mem_cons_of_mem _ hz, List.mem_cons_of_mem _ hz2⟩
  ·rintro ⟨z, hz, hz2⟩
   have key : ∀ u, u ∈ y :: r → u = -x → y = -x := fun u hu e9 => by
    have k1 := h1 y (by simp)
    have k2 := h1 u hu
    rcases List.mem_cons.1 hu with rfl | hu'
    ·exact e9
    ·have k3 := (List.pairwise_cons.1 h2).1 u hu'
     simp only [litLt, Bool.or_eq_true, Bool.and_eq_true, decide_eq_true_eq] at k1 k2 k3
     omega
   rcases List.mem_cons.1 hz with rfl | hz
   ·rcases List.mem_cons.1 hz2 with e | hz2
    ·omega
    ·exact .inl (key _ hz2 rfl)
   ·rcases List.mem_cons.1 hz2 with e | hz2
    ·exact .inl (key z hz (by omega))
    ·exact .inr ⟨z, hz, hz2⟩
def sortV (n : Int) (zs : List I) : V := if frm n zs = true then frmV n (srtC (zs.map dI)) else errV 2
theorem lits_mem {n : Int} {c d : List Int} (h : lits n c = true) (hd : ∀ x, x ∈ d → x ∈ c) : lits n d = true := by
 unfold lits at h ⊢
 rw [List.all_eq_true] at h ⊢
 exact fun x hx => h x (hd x hx)
theorem srtU_len {α : Type} [DecidableEq α] (lt : α → α → Bool) (l : List α) : (srtU lt l).length ≤ l.length := by
 have key : ∀ (l o : List α), (l.foldl (fun o x => insU lt x o) o).length ≤ o.length + l.length := by
  intro l
  induction l with
  | nil => intro o; simp
  | cons x l ih =>
   intro o
   have h1 : (insU lt x o).length ≤ o.length + 1 := by
    induction o with
    | nil => simp [insU]
    | cons y r ih2 =>
     unfold insU
     split
     ·simpa using ih2
     ·split
      ·simp
      ·simp
   have := ih (insU lt x o)
   simp only [List.foldl_cons, List.length_cons]
   omega
 have := key l []
 simpa [srtU] using this
theorem srtC_len (cls : List (List Int)) : (srtC cls).length ≤ cls.length := by
 have h1 := srtU_len lexLt (nrms cls)
 have h2 : (nrms cls).length ≤ cls.length := by
  unfold nrms
  have := List.length_filter_le (fun c => !opp c) (cls.map nrm)
  simpa using this
 unfold srtC
 omega
theorem frm_srtC {n : Int} {zs : List I} (h : frm n zs = true) : frm n (zcl (srtC (zs.map dI))) = true := by
 have hl := srtC_len (zs.map dI)
 rw [List.length_map] at hl
 unfold frm at h ⊢
 simp only [Bool.and_eq_true, decide_eq_true_eq, List.all_eq_true, zcl_len] at h ⊢
 refine ⟨⟨h.1.1, h.1.2.1, by omega⟩, fun z hz => ?_⟩
 unfold zcl at hz
 obtain ⟨c, hc, rfl⟩ := List.mem_map.1 hz
 rw [dI_celI]
 obtain ⟨⟨d, hd, rfl⟩, _⟩ := mem_srtC.1 hc
 obtain ⟨z2, hz2, rfl⟩ := List.mem_map.1 hd
 exact lits_mem (h.2 z2 hz2) fun x hx => mem_nrm.1 hx
end Tryz
end Go.Mx
