/- The state of the machine against a frame's slots; a list of operations. -/
import Derived.Test.YtaomjcmiaiokcaaDoorSndP
import Derived.Orders
namespace Go.Mx
section
variable {P : Program} {w w' w1 w2 : World} {S S' S1 S2 : Nat → Prop} {ρ β ρ' β' ρ1 β1 ρ2 β2 : Nat → Nat} {M M' M1 M2 : Mem} {H H2 : Hp} {o : Oper} {a : Act} {vs : List V} {v : V} {call : Call} {hi : Hint} {gl : Nat → Option (List I)} {nt : Nat} {s s' : St}

theorem getE_setE (e : Env) (n : Nat) (x : V) (m : Nat) : getE (setE e n x) m = if m = n then some x else getE e m := by
  induction e with
  | nil =>
    simp only [setE, getE]
    by_cases h : m = n
    · subst h; simp
    · rw [if_neg h, beqf (fun e => h e.symm)]
  | cons p r ih =>
    obtain ⟨k, y⟩ := p
    simp only [setE]
    cases hb : Nat.blt n k with
    | true =>
      simp only [getE]
      by_cases h : m = n
      · subst h; simp
      · rw [if_neg h, beqf (fun e => h e.symm)]
    | false =>
      cases hq : Nat.beq k n with
      | true =>
        have := Nat.eq_of_beq_eq_true hq
        subst this
        simp only [getE]
        by_cases h : m = k
        · subst h; simp
        · rw [if_neg h, beqf (fun e => h e.symm)]
      | false =>
        simp only [getE]
        by_cases h : m = n
        · subst h
          rw [hq, ih]
        · cases hk : Nat.beq k m with
          | true => rw [if_neg h]
          | false => exact ih

theorem noFa_get {d : Nat} : ∀ {e : Env}, noFa d e = true → ∀ n k off, getE e n = some (.fa k off) → k ≠ d
  | [], _, n, k, off, hg => by simp [getE] at hg
  | (j, x) :: r, h, n, k, off, hg => by
    have hr : noFa d r = true ∧ ∀ k off, x = .fa k off → k ≠ d := by
      cases x with
      | fa k off =>
        simp only [noFa, Bool.and_eq_true, Bool.not_eq_true'] at h
        refine ⟨h.2, fun k' off' e => ?_⟩
        cases e
        rintro rfl
        simp at h
      | _ => exact ⟨h, fun k off e => by cases e⟩
    simp only [getE] at hg
    split at hg
    · exact hr.2 k off (Option.some.inj hg)
    · exact noFa_get hr.1 n k off hg

/-- The machine's state and a frame's slots. -/
structure Inv (hi : Hint) (nt : Nat) (w : World) (S : Nat → Prop) (ρ β : Nat → Nat) (s : St) (a : Act) : Prop where
  sz : a.tmps.size = nt
  df : a.defers = []
  ok : Ok w S ρ β s.M
  env : ∀ n v, getE s.E n = some v → hi.loc n = false ∧ RepX w S ρ β s.M.H v (a.tmps.getD n undef) ∧ ∀ d off, v = .fa d off → n = d
  loc : ∀ n v, getE s.L n = some v → hi.loc n = true ∧ RepX w S ρ β s.M.H v (a.tmps.getD n undef)

theorem evA_snd {x : Operand} {q : Opnd} (h : Inv hi nt w S ρ β s a) (hG : GlOk gl w S) (hc : cmpA hi gl x = some q) (he : evA s q = some v) : RepX w S ρ β s.M.H v (a.eval x) := by
  cases x with
  | tmp t =>
    simp only [cmpA, Option.some.injEq] at hc
    subst hc
    split at he
    · exact (h.loc _ _ he).2
    · exact (h.env _ _ he).2.1
  | const c =>
    simp only [cmpA, Option.bind_eq_some_iff, Option.some.injEq] at hc
    obtain ⟨y, hy, rfl⟩ := hc
    simp only [evA, Option.some.injEq] at he
    subst he
    exact RepX.ofV (toV_rep hy)
  | func f =>
    simp only [cmpA, Option.some.injEq] at hc
    subst hc
    simp only [evA, Option.some.injEq] at he
    subst he
    exact RepX.ofV (.m (.fn f [] #[] rfl (fun _ => undef) (by simp) (by simp)))
  | global g =>
    simp only [cmpA, Option.bind_eq_some_iff, Option.some.injEq] at hc
    obtain ⟨cs, hcs, rfl⟩ := hc
    simp only [evA, Option.some.injEq] at he
    subst he
    exact RepX.ofV (.m (hG g cs hcs))

theorem evAs_snd (h : Inv hi nt w S ρ β s a) (hG : GlOk gl w S) : ∀ {as : List Operand} {qs : List Opnd} {vs : List V}, optMap (cmpA hi gl) as = some qs → optMap (evA s) qs = some vs → All2 (RepX w S ρ β s.M.H) vs (as.map a.eval)
  | [], qs, vs, h1, h2 => by
    simp only [optMap, Option.some.injEq] at h1
    subst h1
    simp only [optMap, Option.some.injEq] at h2
    subst h2
    exact .nil
  | x :: as, qs, vs, h1, h2 => by
    simp only [optMap, Option.bind_eq_some_iff, Option.some.injEq] at h1
    obtain ⟨q, hq, l, hl, rfl⟩ := h1
    simp only [optMap, Option.bind_eq_some_iff, Option.some.injEq] at h2
    obtain ⟨v, hv, l', hl', rfl⟩ := h2
    exact .cons (evA_snd h hG hq hv) (evAs_snd h hG hl hl')

theorem slot_snd {d : Nat} (h : Inv hi nt w S ρ β s a) (he : evA s (match hi.loc d with | true => .l d | false => .v d) = some v) : RepX w S ρ β s.M.H v (a.tmps.getD d undef) := by
  split at he
  · exact (h.loc _ _ he).2
  · exact (h.env _ _ he).2.1

theorem guard_snd {ops : Array Oper} {g : Option (Opnd × Bool)} {b : Bool} (h : Inv hi nt w S ρ β s a) (hc : cmpG hi ops o.guard = some g) (he : wantsD s g = some b) : Region.wanted o (yielded ops a.tmps) = b := by
  unfold Region.wanted
  cases hg : o.guard with
  | none =>
    rw [hg] at hc
    simp only [cmpG, Option.some.injEq] at hc
    subst hc
    simp only [wantsD, Option.some.injEq] at he
    exact he
  | some p =>
    obtain ⟨j, want⟩ := p
    rw [hg] at hc
    simp only [cmpG, Option.bind_eq_some_iff, Option.some.injEq] at hc
    obtain ⟨oj, hoj, d, hd, rfl⟩ := hc
    simp only [wantsD, Option.bind_eq_some_iff] at he
    obtain ⟨v, hv, he⟩ := he
    have hr := slot_snd h hv
    have hb : (ops[j]?).bind (·.dst) = some d := by rw [hoj]; exact hd
    simp only [yielded, hb, Option.bind_some]
    split at he
    · rename_i x
      simp only [Option.some.injEq] at he
      have hx := repI_bool (RepX.toV rfl hr)
      have : a.tmps[d]? = some (.bool x) := by
        cases ht : a.tmps[d]? with
        | none => simp [ht, undef] at hx
        | some y => simp [ht] at hx; rw [hx]
      rw [this]
      simpa using he
    · simp only [Option.some.injEq] at he
      have hu : a.tmps.getD d undef = undef := by
        have := RepX.toV rfl hr
        generalize a.tmps.getD d undef = c at this
        cases this
        rfl
      have : ∀ x, a.tmps[d]? ≠ some (.bool x) := fun x ht => by simp [ht, undef] at hu
      subst he
      cases ht : a.tmps[d]? with
      | none => rfl
      | some y => cases y <;> first | rfl | exact absurd ht (this _)
    · cases he

theorem RepX.step {x : V} {c : Value} (h : RepX w S ρ β M.H x c) (k : Stp w S ρ β M w' S' ρ' H2) (hb : ∀ d off, x = .fa d off → β' d = β d) : RepX w' S' ρ' β' H2 x c := by
  cases x with
  | fa d off => simp only [RepX] at h ⊢; rw [hb d off rfl]; exact h
  | _ => exact k.vals _ _ h

theorem getD_put {a : Act} {n m : Nat} {c : Value} (hn : n < a.tmps.size) : (a.put (some n) c).tmps.getD m undef = if m = n then c else a.tmps.getD m undef := by
  by_cases h : m = n
  · subst h
    simp [Act.put, hn]
  · rw [if_neg h]
    simp [Act.put, Array.getElem?_setIfInBounds_ne (Ne.symm h)]

theorem dof_dst {q : O} {D : Dst} {as : List Opnd} {g : Option (Opnd × Bool)} (h : wfOp nt ⟨D, q, as, g⟩ = true) {d : Nat} (hd : dof q = some d) : isD d D = true := by
  simp only [wfOp, Bool.and_eq_true] at h
  unfold dof at hd
  split at hd
  · cases hd; exact h.2
  · cases hd; exact h.2
  · cases hd

theorem fresh_fa {q : O} {d : Nat} (h : fresh s q = true) (hd : dof q = some d) : noFa d s.L = true := by
  unfold dof at hd
  split at hd
  · cases hd; exact h
  · cases hd; exact h
  · cases hd

theorem Inv.step {q : O} {D : Dst} {as : List Opnd} {g : Option (Opnd × Bool)} {c : Value} (h : Inv hi nt w S ρ β s a) (hD : cmpD hi o.dst = D) (hwf : wfOp nt ⟨D, q, as, g⟩ = true) (hfr : fresh s q = true) (hn : Nxt w S ρ β s.M q v M' w' S' ρ' β' c)
    (hs : setD { s with M := M' } D v = some s') : Inv hi nt w' S' ρ' β' s' (a.put o.dst c) ∧ s'.M = M' := by
  have hL : ∀ n v, getE s.L n = some v → ∀ d off, v = .fa d off → β' d = β d := fun n v hg d off e => hn.own d fun hd => noFa_get (fresh_fa hfr hd) n d off (e ▸ hg) rfl
  cases hdst : o.dst with
  | none =>
    rw [hdst] at hD
    simp only [cmpD] at hD
    subst hD
    simp only [setD, Option.some.injEq] at hs
    subst hs
    refine ⟨⟨h.sz, h.df, hn.ok, fun n v hg => ?_, fun n v hg => ?_⟩, rfl⟩
    · obtain ⟨h1, h2, h3⟩ := h.env n v hg
      exact ⟨h1, h2.step hn.stp fun d off _ => hn.own d fun hd => (by have := dof_dst hwf hd; simp [isD] at this), h3⟩
    · obtain ⟨h1, h2⟩ := h.loc n v hg
      exact ⟨h1, h2.step hn.stp (hL n v hg)⟩
  | some k =>
    rw [hdst] at hD
    simp only [cmpD] at hD
    have hk : k < a.tmps.size := by
      rw [h.sz]
      simp only [wfOp, Bool.and_eq_true] at hwf
      have := hwf.1
      cases hl : hi.loc k <;> rw [hl] at hD <;> subst hD <;> simpa [Nat.blt_eq] using this
    have hdk : ∀ d, dof q = some d → d = k := fun d hd => by
      have := dof_dst hwf hd
      cases hl : hi.loc k <;> rw [hl] at hD <;> subst hD <;> exact Nat.eq_of_beq_eq_true this
    have hdf : (a.put (some k) c).defers = [] := h.df
    have hsz : (a.put (some k) c).tmps.size = nt := by simp [Act.put, h.sz]
    cases hl : hi.loc k with
    | true =>
      rw [hl] at hD
      simp only at hD
      subst hD
      simp only [setD, Option.some.injEq] at hs
      subst hs
      refine ⟨⟨hsz, hdf, hn.ok, fun n u hg => ?_, fun n u hg => ?_⟩, rfl⟩
      · obtain ⟨h1, h2, h3⟩ := h.env n u hg
        have hne : n ≠ k := fun e => by rw [e, hl] at h1; cases h1
        rw [getD_put hk, if_neg hne]
        exact ⟨h1, h2.step hn.stp fun d off e => hn.own d fun hd => hne (by rw [h3 d off e, hdk d hd]), h3⟩
      · simp only [getE_setE] at hg
        rw [getD_put hk]
        by_cases e : n = k
        · rw [if_pos e] at hg ⊢
          cases hg
          exact ⟨by rw [e]; exact hl, hn.rep⟩
        · rw [if_neg e] at hg ⊢
          obtain ⟨h1, h2⟩ := h.loc n u hg
          exact ⟨h1, h2.step hn.stp (hL n u hg)⟩
    | false =>
      rw [hl] at hD
      simp only at hD
      subst hD
      simp only [setD, gd_some, Option.some.injEq] at hs
      obtain ⟨hok, rfl⟩ := hs
      refine ⟨⟨hsz, hdf, hn.ok, fun n u hg => ?_, fun n u hg => ?_⟩, rfl⟩
      · simp only [getE_setE] at hg
        rw [getD_put hk]
        by_cases e : n = k
        · rw [if_pos e] at hg ⊢
          cases hg
          refine ⟨by rw [e]; exact hl, hn.rep, fun d off e' => ?_⟩
          subst e'
          simp only [okDst, Bool.and_eq_true] at hok
          rw [e, Nat.eq_of_beq_eq_true hok.1]
        · rw [if_neg e] at hg ⊢
          obtain ⟨h1, h2, h3⟩ := h.env n u hg
          exact ⟨h1, h2.step hn.stp fun d off e' => hn.own d fun hd => e (by rw [h3 d off e', hdk d hd]), h3⟩
      · obtain ⟨h1, h2⟩ := h.loc n u hg
        have hne : n ≠ k := fun e => by rw [e, hl] at h1; cases h1
        rw [getD_put hk, if_neg hne]
        exact ⟨h1, h2.step hn.stp (hL n u hg)⟩

/-- Private boxes are old ones, or new. -/
def Bx (w : World) (β : Nat → Nat) (B : List (Nat × List V)) (β' : Nat → Nat) (B' : List (Nat × List V)) : Prop := ∀ d, (getB B' d).isSome → (∃ q, (getB B q).isSome ∧ β' d = β q) ∨ w.heap.size ≤ β' d

theorem Bx.refl {B : List (Nat × List V)} : Bx w β B β B := fun d hd => .inl ⟨d, hd, rfl⟩
theorem Bx.trans {B B1 B2 : List (Nat × List V)} (h : Bx w β B β1 B1) (hs : w.heap.size ≤ w1.heap.size) (k : Bx w1 β1 B1 β2 B2) : Bx w β B β2 B2 := fun d hd => by
  rcases k d hd with ⟨q, hq, e⟩ | e
  · rw [e]
    exact h q hq
  · exact .inr (Nat.le_trans hs e)

/-- What is asked of an operation of a list. -/
def CmpAt (P : Program) (hi : Hint) (gl : Nat → Option (List I)) (nt : Nat) (ops : Array Oper) (i : Nat) (q : Op) : Prop := ∃ o, ops[i]? = some o ∧ cmpOp P hi gl ops o = some q ∧ wfOp nt q = true

theorem evOps_snd {ops : Array Oper} {Q : Exit → Act → World → Prop} (hcall : CallOk P gl call) : ∀ (l : List Nat) (qs : List Op), All2 (CmpAt P hi gl nt ops) l qs → ∀ (s s' : St) (a : Act) (w : World) (S : Nat → Prop) (ρ β : Nat → Nat), evOps call qs s = some s' → Inv hi nt w S ρ β s a → GlOk gl w S →
    (∀ a' w' S' ρ' β', Inv hi nt w' S' ρ' β' s' a' → Stp w S ρ β s.M w' S' ρ' s'.M.H → Bx w β s.M.B β' s'.M.B → Q .normal a' w') → wpOps P ops Q l a w := by
  intro l qs hl
  induction hl with
  | nil =>
    intro s s' a w S ρ β he hI hG hQ
    simp only [evOps, Option.some.injEq] at he
    subst he
    exact hQ a w S ρ β hI (Stp.refl _ _ _ _ _) Bx.refl
  | @cons i q l qs hq hl ih =>
    intro s s' a w S ρ β he hI hG hQ
    obtain ⟨o, ho, hc, hwf⟩ := hq
    obtain ⟨g, qo, os, hg, rfl, hco⟩ := cmpOp_some hc
    simp only [evOps, evOp, Option.bind_eq_some_iff] at he
    obtain ⟨s1, ⟨b, hb, he1⟩, he2⟩ := he
    have hwant := guard_snd hI hg hb
    simp only [wpOps, ho, hwant]
    have tail : ∀ {a1 : Act} {w1 : World} {S1 : Nat → Prop} {ρ1 β1 : Nat → Nat}, Inv hi nt w1 S1 ρ1 β1 s1 a1 → Stp w S ρ β s.M w1 S1 ρ1 s1.M.H → Bx w β s.M.B β1 s1.M.B → wpOps P ops Q l a1 w1 := fun {a1 w1 S1 ρ1 β1} hI1 hst hbx =>
      ih s1 s' a1 w1 S1 ρ1 β1 he2 hI1 (hG.step hst) fun a' w' S' ρ' β' h1 h2 h3 => hQ a' w' S' ρ' β' h1 (hst.trans hbx h2) (hbx.trans hst.size h3)
    cases b with
    | true =>
      simp only [gd_some, Option.bind_eq_some_iff] at he1
      obtain ⟨hfr, vs, hvs, ⟨v, M'⟩, hev, hset⟩ := he1
      simp only [if_true]
      rcases hco with ⟨as, hco, hos⟩ | ⟨rfl, rfl⟩
      case inr => simp [optMap] at hvs; subst hvs; simp [evO, pureX] at hev
      refine .inl (op_snd hco hcall hI.ok hG (evAs_snd hI hG hos hvs) hev fun w' S' ρ' β' c hn => ?_)
      obtain ⟨h1, h2⟩ := hI.step rfl hwf hfr hn hset
      exact tail h1 (by rw [h2]; exact hn.stp) (by rw [h2]; exact hn.box)
    | false =>
      simp only [Bool.false_eq_true, if_false]
      have hn : Nxt w S ρ β s.M (.p .mv) .un s.M w S ρ β undef := ⟨hI.ok, Stp.refl _ _ _ _ _, .un, fun _ _ => rfl, fun d hd => .inl ⟨d, hd, rfl⟩⟩
      have hwf' : wfOp nt ⟨cmpD hi o.dst, .p .mv, [], none⟩ = true := by
        simp only [wfOp, Bool.and_eq_true] at hwf ⊢
        exact ⟨hwf.1, trivial⟩
      obtain ⟨h1, h2⟩ := hI.step rfl hwf' rfl hn he1
      exact tail h1 (by rw [h2]; exact Stp.refl _ _ _ _ _) (by rw [h2]; exact Bx.refl)
end
end Go.Mx
