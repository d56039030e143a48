/- Regions that draw their order. -/
import Derived.Test.YtaomjcmiaiokcaaDoorSndR
namespace Go.Mx
section
variable {P : Program} {M M' M1 M2 : Mem} {H H' H2 : Hp} {vs : List V} {v v1 v2 : V} {call : Call} {s s' s1 s2 : St} {sh : Nat → Bool} {x y : Op} {hi : Hint} {gl : Nat → Option (List I)} {nt : Nat}

def instO (s : St) (x : Op) : Option (Option (O × List V)) := (wantsD s x.guard).bind fun q => match q with
  | true => gd (fresh s x.op) ((optMap (evA s) x.args).bind fun vs => some (some (x.op, vs)))
  | false => some none

def mact (call : Call) (M : Mem) : Option (O × List V) → Option (V × Mem)
  | some (o, vs) => evO call M o vs
  | none => some (.un, M)

theorem evOp_iff {s s1 : St} {x : Op} : evOp call s x = some s1 ↔ ∃ q v M1, instO s x = some q ∧ mact call s.M q = some (v, M1) ∧ okD x.dst v = true ∧ s1 = putD { s with M := M1 } x.dst v := by
  constructor
  · intro h
    simp only [evOp, Option.bind_eq_some_iff] at h
    obtain ⟨b, hb, h⟩ := h
    cases b with
    | true =>
      simp only [gd_some, Option.bind_eq_some_iff] at h
      obtain ⟨hf, vs, hvs, ⟨v, M1⟩, he, hs⟩ := h
      rw [setD_eq, gd_some, Option.some.injEq] at hs
      exact ⟨some (x.op, vs), v, M1, by simp [instO, hb, hf, hvs, gd], he, hs.1, hs.2.symm⟩
    | false =>
      simp only at h
      rw [setD_eq, gd_some, Option.some.injEq] at h
      exact ⟨none, .un, s.M, by simp [instO, hb], rfl, h.1, h.2.symm⟩
  · rintro ⟨q, v, M1, hq, hm, hd, rfl⟩
    simp only [instO, Option.bind_eq_some_iff] at hq
    obtain ⟨b, hb, h⟩ := hq
    cases b with
    | true =>
      simp only [gd_some, Option.bind_eq_some_iff, Option.some.injEq] at h
      obtain ⟨hf, vs, hvs, rfl⟩ := h
      have hm : evO call s.M x.op vs = some (v, M1) := hm
      simp [evOp, hb, hf, hvs, gd, hm, setD_eq, hd]
    | false =>
      simp only [Option.some.injEq] at h
      subst h
      simp only [mact, Option.some.injEq, Prod.mk.injEq] at hm
      obtain ⟨rfl, rfl⟩ := hm
      simp [evOp, hb, setD_eq, hd, gd]

theorem evA_put {d : Dst} {q : Opnd} (h : hits d q = false) : evA (putD s d v) q = evA s q := by
  have ne : ∀ n m : Nat, Nat.beq n m = false → m ≠ n := fun n m h e => by subst e; simp at h
  cases d <;> cases q <;> simp only [putD, evA, hits] at h ⊢
  · rw [getE_setE, if_neg (ne _ _ h)]
  · rw [getE_setE, if_neg (ne _ _ h)]

theorem evAs_put {d : Dst} : ∀ {as : List Opnd}, as.any (hits d) = false → optMap (evA (putD s d v)) as = optMap (evA s) as
  | [], _ => rfl
  | q :: as, h => by
    simp only [List.any_cons, Bool.or_eq_false_iff] at h
    simp only [optMap, evA_put h.1, evAs_put h.2]

theorem fresh_no {q : O} (h : allocs q = false) (s : St) : fresh s q = true := by
  unfold fresh
  split
  · simp [allocs] at h
  · simp [allocs] at h
  · rfl

theorem instO_put {d : Dst} {y : Op} (h : (opnds y).any (hits d) = false) (ha : allocs y.op = false) : instO (putD s d v) y = instO s y := by
  unfold instO
  simp only [opnds] at h
  cases hg : y.guard with
  | none =>
    rw [hg] at h
    simp only [wantsD, Option.bind_some, fresh_no ha, evAs_put h]
  | some p =>
    obtain ⟨q, b⟩ := p
    rw [hg] at h
    simp only [List.any_cons, Bool.or_eq_false_iff] at h
    simp only [wantsD, evA_put h.1, fresh_no ha, evAs_put h.2]

theorem instO_M (y : Op) (M : Mem) : instO { s with M := M } y = instO s y := rfl

theorem mact_swap {qx qy : Option (O × List V)} (hq : QuietCall sh call) (hk : ∀ ox xs oy ys, qx = some (ox, xs) → qy = some (oy, ys) → (memK sh ox = 0 ∨ memK sh oy = 0 ∨ (memK sh ox = 1 ∧ memK sh oy ≤ 2)))
    (hx : mact call M qx = some (v1, M1)) (hy : mact call M1 qy = some (v2, M2)) : ∃ M1', mact call M qy = some (v2, M1') ∧ mact call M1' qx = some (v1, M2) := by
  cases qx with
  | none =>
    simp only [mact, Option.some.injEq, Prod.mk.injEq] at hx
    obtain ⟨rfl, rfl⟩ := hx
    exact ⟨M2, hy, rfl⟩
  | some px =>
    cases qy with
    | none =>
      simp only [mact, Option.some.injEq, Prod.mk.injEq] at hy
      obtain ⟨rfl, rfl⟩ := hy
      exact ⟨M, rfl, hx⟩
    | some py => exact mem_swap hq (hk _ _ _ _ rfl rfl) hx hy

theorem instO_op {q : O × List V} (h : instO s x = some (some q)) : q.1 = x.op := by
  simp only [instO, Option.bind_eq_some_iff] at h
  obtain ⟨b, _, h⟩ := h
  cases b with
  | true =>
    simp only [gd_some, Option.bind_eq_some_iff, Option.some.injEq] at h
    obtain ⟨_, vs, _, rfl⟩ := h
    rfl
  | false => simp at h

/-- Two operations that are apart change places. -/
theorem op_swap (hq : QuietCall sh call) (hap : apart sh x y = true) (h1 : evOp call s x = some s1) (h2 : evOp call s1 y = some s2) : ∃ t, evOp call s y = some t ∧ evOp call t x = some s2 := by
  simp only [apart, Bool.and_eq_true, Bool.or_eq_true, Bool.not_eq_true', Nat.beq_eq, Nat.ble_eq] at hap
  obtain ⟨⟨⟨⟨⟨a1, a2⟩, a3⟩, a4⟩, a5⟩, a6⟩ := hap
  obtain ⟨qx, v1, M1, i1, m1, d1, rfl⟩ := evOp_iff.1 h1
  obtain ⟨qy, v2, M2, i2, m2, d2, rfl⟩ := evOp_iff.1 h2
  rw [instO_put a1 a5, instO_M] at i2
  rw [putD_M] at m2
  obtain ⟨M1', k1, k2⟩ := mact_swap hq (fun ox xs oy ys e1 e2 => by
    subst e1; subst e2
    rw [show ox = x.op from instO_op i1, show oy = y.op from instO_op i2]
    rcases a6 with (a6 | a6) | a6
    · exact .inl a6
    · exact .inr (.inl a6)
    · exact .inr (.inr a6)) m1 m2
  refine ⟨putD { s with M := M1' } y.dst v2, evOp_iff.2 ⟨qy, v2, M1', i2, k1, d2, rfl⟩, evOp_iff.2 ⟨qx, v1, M2, ?_, by rw [putD_M]; exact k2, d1, ?_⟩⟩
  · rw [instO_put a2 a4, instO_M]
    exact i1
  · rw [putD_withM, putD_withM]
    exact putD_comm { s with M := M2 } x.dst y.dst v1 v2 a3

theorem evOps_move (hq : QuietCall sh call) {q : Op} {post : List Op} : ∀ {pre : List Op} {s : St}, (∀ x, x ∈ pre → apart sh x q = true) → evOps call (pre ++ q :: post) s = some s' → evOps call (q :: (pre ++ post)) s = some s'
  | [], s, _, h => h
  | p :: pre, s, hap, h => by
    simp only [List.cons_append, evOps, Option.bind_eq_some_iff] at h
    obtain ⟨s1, h1, h⟩ := h
    have := evOps_move hq (fun x hx => hap x (by simp [hx])) h
    simp only [evOps, Option.bind_eq_some_iff] at this
    obtain ⟨s2, h2, h3⟩ := this
    obtain ⟨t, k1, k2⟩ := op_swap hq (hap p (by simp)) h1 h2
    simp only [List.cons_append, evOps, k1, Option.bind_some, k2]
    exact h3

/- What stands above an operation. -/
theorem fold_bit {acc : List Nat} {j : Nat} : ∀ (l : List Nat) (s0 : Nat), Nat.testBit (l.foldl (fun s j => Nat.lor s (Nat.lor (Nat.shiftLeft 1 j) (acc.getD j 0))) s0) j = true → Nat.testBit s0 j = true ∨ ∃ e, e ∈ l ∧ (j = e ∨ Nat.testBit (acc.getD e 0) j = true)
  | [], s0, h => .inl h
  | e :: l, s0, h => by
    simp only [List.foldl_cons] at h
    rcases fold_bit l _ h with h | ⟨e', h1, h2⟩
    · have h : Nat.testBit (s0 ||| (1 <<< e ||| acc.getD e 0)) j = true := h
      rw [Nat.testBit_or, Nat.testBit_or, Bool.or_eq_true, Bool.or_eq_true] at h
      rcases h with h | h | h
      · exact .inl h
      · rw [Nat.one_shiftLeft, Nat.testBit_two_pow, decide_eq_true_eq] at h
        exact .inr ⟨e, by simp, .inl h.symm⟩
      · exact .inr ⟨e, by simp, .inr h⟩
    · exact .inr ⟨e', by simp [h1], h2⟩

theorem aboveGo_pre : ∀ (ol : List Oper) (acc : List Nat) (e : Nat), e < acc.length → (aboveGo acc ol).getD e 0 = acc.getD e 0
  | [], acc, e, _ => rfl
  | o :: r, acc, e, h => by
    simp only [aboveGo]
    rw [aboveGo_pre r _ e (by simp; omega)]
    simp [List.getElem?_append_left h]

theorem above_spec {j : Nat} : ∀ (ol : List Oper) (acc : List Nat) (k : Nat) (o : Oper), ol[k]? = some o → Nat.testBit ((aboveGo acc ol).getD (acc.length + k) 0) j = true →
    ∃ e, e ∈ binds o ∧ (j = e ∨ (e < acc.length + k ∧ Nat.testBit ((aboveGo acc ol).getD e 0) j = true))
  | [], acc, k, o, ho, _ => by simp at ho
  | p :: r, acc, 0, o, ho, h => by
    simp only [List.getElem?_cons_zero, Option.some.injEq] at ho
    subst ho
    have e1 : (aboveGo acc (p :: r)).getD (acc.length + 0) 0 = (binds p).foldl (fun s j => Nat.lor s (Nat.lor (Nat.shiftLeft 1 j) (acc.getD j 0))) 0 := by
      simp only [aboveGo, Nat.add_zero]
      rw [aboveGo_pre r _ _ (by simp)]
      simp
    rw [e1] at h
    rcases fold_bit _ _ h with h | ⟨e, h1, h2⟩
    · simp at h
    · refine ⟨e, h1, h2.imp id fun h2 => ?_⟩
      by_cases hl : e < acc.length
      · exact ⟨by omega, by rw [aboveGo_pre _ _ _ hl]; exact h2⟩
      · simp [List.getElem?_eq_none (Nat.le_of_not_lt hl)] at h2
  | p :: r, acc, k + 1, o, ho, h => by
    have := above_spec (j := j) r (acc ++ [(binds p).foldl (fun s j => Nat.lor s (Nat.lor (Nat.shiftLeft 1 j) (acc.getD j 0))) 0]) k o (by simpa using ho)
    rw [List.length_append, List.length_singleton, show acc.length + 1 + k = acc.length + (k + 1) by omega] at this
    exact this h

theorem above_listed {ol : List Oper} {L : Nat → Prop} (hc : ∀ (k : Nat) o, ol[k]? = some o → L k → ∀ e, e ∈ binds o → L e) (hb : ∀ (k : Nat) o, ol[k]? = some o → ∀ e, e ∈ binds o → e < k) :
    ∀ (n k : Nat) o, k < n → ol[k]? = some o → (∀ e, e ∈ binds o → L e) → ∀ j, Nat.testBit ((aboveGo [] ol).getD k 0) j = true → L j
  | 0, k, o, h, _, _, _, _ => by omega
  | n + 1, k, o, hk, ho, hL, j, hj => by
    have := above_spec (j := j) ol [] k o ho (by simpa using hj)
    obtain ⟨e, he, h | ⟨_, h⟩⟩ := this
    · rw [h]; exact hL e he
    · have hek := hb k o ho e he
      obtain ⟨oe, hoe⟩ : ∃ oe, ol[e]? = some oe := ⟨_, List.getElem?_eq_getElem (by have := (List.getElem?_eq_some_iff.1 ho).1; omega)⟩
      exact above_listed hc hb n e oe (by omega) hoe (hc e oe hoe (hL e he)) j h

theorem mem_binds {o : Oper} {k : Nat} : k ∈ binds o ↔ ∃ e, e ∈ o.after ∧ Region.binds .any e = true ∧ e.on = k := by
  simp only [binds, List.mem_filterMap]
  constructor
  · rintro ⟨e, h1, h2⟩
    split at h2
    · rename_i h
      exact ⟨e, by simpa using h1, h, Option.some.inj h2⟩
    · cases h2
  · rintro ⟨e, h1, h2, h3⟩
    exact ⟨e, by simpa using h1, by simp [h2, h3]⟩

/-- One operation of a region. -/
theorem op1_snd {ops : Array Oper} {Q : Exit → Act → World → Prop} {K : Act → World → Prop} {i : Nat} {q : Op} {a : Act} {w : World} {S : Nat → Prop} {ρ β : Nat → Nat} (hcall : CallOk P gl call) (hq : CmpAt P hi gl nt ops i q) (he : evOp call s q = some s1) (hI : Inv hi nt w S ρ β s a) (hG : GlOk gl w S)
    (hK : ∀ a1 w1 S1 ρ1 β1, Inv hi nt w1 S1 ρ1 β1 s1 a1 → Stp w S ρ β s.M w1 S1 ρ1 s1.M.H → Bx w β s.M.B β1 s1.M.B → K a1 w1) : wpOp P ops Q i K a w := by
  obtain ⟨o, ho, hc, hwf⟩ := hq
  obtain ⟨g, qo, os, hg, rfl, hco⟩ := cmpOp_some hc
  simp only [evOp, Option.bind_eq_some_iff] at he
  obtain ⟨b, hb, he1⟩ := he
  have hwant := guard_snd hI hg hb
  unfold wpOp
  simp only [ho, hwant]
  cases b with
  | true =>
    simp only [gd_some, Option.bind_eq_some_iff] at he1
    obtain ⟨hfr, vs, hvs, ⟨v, M'⟩, hev, hset⟩ := he1
    simp only [if_true]
    rcases hco with ⟨as, hco, hos⟩ | ⟨rfl, rfl⟩
    case inr => simp [optMap] at hvs; subst hvs; simp [evO, pureX] at hev
    refine .inl (op_snd hco hcall hI.ok hG (evAs_snd hI hG hos hvs) hev fun w' S' ρ' β' c hn => ?_)
    obtain ⟨h1, h2⟩ := hI.step rfl hwf hfr hn hset
    exact hK _ _ _ _ _ h1 (by rw [h2]; exact hn.stp) (by rw [h2]; exact hn.box)
  | false =>
    simp only [Bool.false_eq_true, if_false]
    have hn : Nxt w S ρ β s.M (.p .mv) .un s.M w S ρ β undef := ⟨hI.ok, Stp.refl _ _ _ _ _, .un, fun _ _ => rfl, fun d hd => .inl ⟨d, hd, rfl⟩⟩
    have hwf' : wfOp nt ⟨cmpD hi o.dst, .p .mv, [], none⟩ = true := by
      simp only [wfOp, Bool.and_eq_true] at hwf ⊢
      exact ⟨hwf.1, trivial⟩
    obtain ⟨h1, h2⟩ := hI.step rfl hwf' rfl hn he1
    exact hK _ _ _ _ _ h1 (by rw [h2]; exact Stp.refl _ _ _ _ _) (by rw [h2]; exact Bx.refl)

theorem All2.split {α β : Type} {R : α → β → Prop} : ∀ {l l' : List α} {m : List β}, All2 R (l ++ l') m → ∃ m1 m2, m = m1 ++ m2 ∧ All2 R l m1 ∧ All2 R l' m2
  | [], l', m, h => ⟨[], m, rfl, .nil, h⟩
  | a :: l, l', m, h => by
    cases h with
    | cons h t =>
      obtain ⟨m1, m2, rfl, h1, h2⟩ := All2.split t
      exact ⟨_ :: m1, m2, rfl, .cons h h1, h2⟩

theorem All2.mem {α β : Type} {R : α → β → Prop} {l : List α} {m : List β} (h : All2 R l m) : ∀ y, y ∈ m → ∃ x, x ∈ l ∧ R x y := by
  induction h with
  | nil => intro y hy; simp at hy
  | cons h t ih =>
    intro y hy
    rcases List.mem_cons.1 hy with rfl | hy
    · exact ⟨_, by simp, h⟩
    · obtain ⟨x, hx, hr⟩ := ih y hy
      exact ⟨x, by simp [hx], hr⟩

theorem draw_go {ops : Array Oper} {cs : List Op} {Q : Exit → Act → World → Prop} (hcall : CallOk P gl call) (hq : QuietCall sh call) (hcs : ∀ i q, nth cs i = some q → CmpAt P hi gl nt ops i q) (hlen : cs.length = ops.size) (hdraw : okDraw sh ops.toList cs = true) (s' : St) :
    ∀ (fuel : Nat) (listed : Array Bool) (R : List Nat) (qs : List Op) (s : St) (a : Act) (w : World) (S : Nat → Prop) (ρ β : Nat → Nat),
      R.length ≤ fuel → R.Pairwise (· < ·) → (∀ j, j ∈ R ↔ j < ops.size ∧ listed.getD j true = false) → listed.size = ops.size →
      (∀ (k : Nat) o, ops.toList[k]? = some o → listed.getD k false = true → ∀ e, e ∈ binds o → listed.getD e false = true) →
      All2 (fun i q => nth cs i = some q) R qs → evOps call qs s = some s' → Inv hi nt w S ρ β s a → GlOk gl w S →
      (∀ a' w' S' ρ' β', Inv hi nt w' S' ρ' β' s' a' → Stp w S ρ β s.M w' S' ρ' s'.M.H → Bx w β s.M.B β' s'.M.B → Q .normal a' w') → wpAny P .any ops Q fuel listed a w := by
  have hD : ∀ k, k < cs.length → (∀ o, ops.toList[k]? = some o → ∀ e, e ∈ binds o → e < k) ∧ ∀ j, j < k → Nat.testBit ((aboveGo [] ops.toList).getD k 0) j = true ∨ ∃ x y, nth cs j = some x ∧ nth cs k = some y ∧ apart sh x y = true := by
    intro k hk
    simp only [okDraw, Bool.and_eq_true, List.all_eq_true, List.mem_range, Bool.or_eq_true] at hdraw
    obtain ⟨h1, h2⟩ := hdraw.2 k hk
    refine ⟨fun o ho e he => ?_, fun j hj => (h2 j hj).imp id fun h => ?_⟩
    · rw [ho] at h1
      simp only [Option.any_some, List.all_eq_true, Nat.blt_eq] at h1
      exact h1 e he
    · split at h
      · rename_i x y hx hy
        exact ⟨x, y, hx, hy, h⟩
      · cases h
  have stop : ∀ (listed : Array Bool) (R : List Nat), R.Pairwise (· < ·) → (∀ j, j ∈ R ↔ j < ops.size ∧ listed.getD j true = false) → listed.size = ops.size → Region.ready .any ops listed = [] → R = [] := by
    intro listed R hp hR hsz hr
    cases R with
    | nil => rfl
    | cons k R =>
      exfalso
      obtain ⟨hk, hku⟩ := (hR k).1 (by simp)
      obtain ⟨o, ho⟩ : ∃ o, ops[k]? = some o := ⟨_, Array.getElem?_eq_getElem hk⟩
      have hmem : k ∈ Region.ready .any ops listed := mem_ready.2 ⟨hku, o, ho, fun e he hb => by
        have hek := (hD k (by omega)).1 o (by simpa using ho) e.on (mem_binds.2 ⟨e, he, hb, rfl⟩)
        cases hl : listed.getD e.on false with
        | true => rfl
        | false =>
          have hin : e.on ∈ k :: R := (hR e.on).2 ⟨by omega, by
            have hlt : e.on < listed.size := by omega
            simp [hlt] at hl ⊢
            exact hl⟩
          rcases List.mem_cons.1 hin with h | h
          · omega
          · have := (List.pairwise_cons.1 hp).1 _ h
            omega⟩
      rw [hr] at hmem
      cases hmem
  intro fuel
  induction fuel with
  | zero =>
    intro listed R qs s a w S ρ β hf hp hR hsz hcl hl he hI hG hQ
    have : R = [] := List.eq_nil_of_length_eq_zero (by omega)
    subst this
    cases hl
    simp only [evOps, Option.some.injEq] at he
    subst he
    refine ⟨?_, hQ a w S ρ β hI (Stp.refl _ _ _ _ _) Bx.refl⟩
    cases hr : Region.ready .any ops listed with
    | nil => rfl
    | cons i l =>
      have hi : i ∈ Region.ready .any ops listed := by rw [hr]; simp
      obtain ⟨h1, o, h2, _⟩ := mem_ready.1 hi
      have := (hR i).2 ⟨(Array.getElem?_eq_some_iff.1 h2).1, h1⟩
      cases this
  | succ fuel ih =>
    intro listed R qs s a w S ρ β hf hp hR hsz hcl hl he hI hG hQ
    refine ⟨fun hr => ?_, fun i hi => ?_⟩
    · have := stop listed R hp hR hsz hr
      subst this
      cases hl
      simp only [evOps, Option.some.injEq] at he
      subst he
      exact hQ a w S ρ β hI (Stp.refl _ _ _ _ _) Bx.refl
    · obtain ⟨hun, o, ho, hedges⟩ := mem_ready.1 hi
      have hil : i < ops.size := (Array.getElem?_eq_some_iff.1 ho).1
      obtain ⟨pre, post, rfl⟩ := List.append_of_mem ((hR i).2 ⟨hil, hun⟩)
      obtain ⟨qpre, qr, rfl, hl1, hl2⟩ := All2.split hl
      cases hl2 with | @cons _ q _ qpost hqi hl3 =>
      have hbl : ∀ e, e ∈ binds o → listed.getD e false = true := fun e he => by
        obtain ⟨ed, h1, h2, h3⟩ := mem_binds.1 he
        rw [← h3]
        exact hedges ed h1 h2
      have hap : ∀ x, x ∈ qpre → apart sh x q = true := fun x hx => by
        obtain ⟨j, hj, hjx⟩ := All2.mem hl1 x hx
        have hji : j < i := (List.pairwise_append.1 hp).2.2 j hj i (by simp)
        have hju := ((hR j).1 (by simp [hj])).2
        rcases (hD i (by omega)).2 j hji with h | ⟨x', y', h1, h2, h3⟩
        · have := above_listed (L := fun k => listed.getD k false = true) hcl (fun k o ho e he => (hD k (by have := (List.getElem?_eq_some_iff.1 ho).1; simp at this; omega)).1 o ho e he) (i + 1) i o (by omega) (by simpa using ho) hbl j h
          exfalso
          have hlt : j < listed.size := by omega
          simp [hlt] at this hju
          rw [this] at hju
          cases hju
        · rw [hjx] at h1
          rw [hqi] at h2
          cases h1; cases h2
          exact h3
      have he := evOps_move hq hap he
      simp only [evOps, Option.bind_eq_some_iff] at he
      obtain ⟨s1, he1, he2⟩ := he
      refine op1_snd hcall (hcs i q hqi) he1 hI hG fun a1 w1 S1 ρ1 β1 hI1 hst hbx => ?_
      have hni : ∀ j, j ∈ pre ++ post ↔ j ∈ pre ++ i :: post ∧ j ≠ i := fun j => by
        have hp1 := List.pairwise_append.1 hp
        have hp2 := List.pairwise_cons.1 hp1.2.1
        constructor
        · intro h
          rcases List.mem_append.1 h with h | h
          · exact ⟨by simp [h], by have := hp1.2.2 j h i (by simp); omega⟩
          · exact ⟨by simp [h], by have := hp2.1 j h; omega⟩
        · rintro ⟨h, hne⟩
          simp only [List.mem_append, List.mem_cons] at h ⊢
          rcases h with h | h | h
          · exact .inl h
          · exact absurd h hne
          · exact .inr h
      refine ih (listed.setIfInBounds i true) (pre ++ post) (qpre ++ qpost) s1 a1 w1 S1 ρ1 β1 (by simp at hf ⊢; omega) ?_ (fun j => ?_) (by simpa using hsz) ?_ (All2.append hl1 hl3) he2 hI1 (hG.step hst) (fun a' w' S' ρ' β' h1 h2 h3 => hQ a' w' S' ρ' β' h1 (hst.trans hbx h2) (hbx.trans hst.size h3))
      · have hp1 := List.pairwise_append.1 hp
        have hp2 := List.pairwise_cons.1 hp1.2.1
        exact List.pairwise_append.2 ⟨hp1.1, hp2.2, fun x hx y hy => hp1.2.2 x hx y (by simp [hy])⟩
      · rw [hni, hR]
        by_cases hji : j = i
        · subst hji
          have hlt : j < listed.size := by omega
          simp [hlt]
        · rw [getD_set_ne true (Ne.symm hji)]
          exact ⟨fun h => h.1, fun h => ⟨h, hji⟩⟩
      · intro k o' hk hkl e he
        refine getD_set_true ?_
        by_cases hki : k = i
        · subst hki
          have : o' = o := by
            have h2 : ops[k]? = some o' := by simpa using hk
            rw [ho] at h2
            exact (Option.some.inj h2).symm
          subst this
          exact hbl e he
        · rw [getD_set_ne false (Ne.symm hki)] at hkl
          exact hcl k o' hk hkl e he

theorem optMap_nth {α β : Type} {f : α → Option β} {l : List α} {m : List β} (h : optMap f l = some m) {i : Nat} {y : β} (hy : nth m i = some y) : ∃ x, l[i]? = some x ∧ f x = some y := by
  rw [nth_eq] at hy
  exact (optMap_get h).2 i y hy

/-- A region of the loaded code. -/
theorem region_snd {id : Nat} {ops : Array Oper} {draw : Bool} {cs : List Op} {Q : Exit → Act → World → Prop} {a : Act} {w : World} {S : Nat → Prop} {ρ β : Nat → Nat} (hcall : CallOk P gl call) (hq : QuietCall sh call) (hm : P.follows .mixedOrders = true) (hc : optMap (cmpOp P hi gl ops) ops.toList = some cs)
    (hdraw : (!draw || okDraw sh ops.toList cs) = true) (hwf : cs.all (wfOp nt) = true) (he : evOps call cs s = some s') (hI : Inv hi nt w S ρ β s a) (hG : GlOk gl w S)
    (hQ : ∀ a' w' S' ρ' β', Inv hi nt w' S' ρ' β' s' a' → Stp w S ρ β s.M w' S' ρ' s'.M.H → Bx w β s.M.B β' s'.M.B → Q .normal a' w') : (Code.region id ops draw).wp P Q a w := by
  have hlen : cs.length = ops.size := by rw [(optMap_get hc).1]; simp
  have hat : ∀ i q, nth cs i = some q → CmpAt P hi gl nt ops i q := fun i q hiq => by
    obtain ⟨o, ho, hf⟩ := optMap_nth hc hiq
    rw [nth_eq] at hiq
    exact ⟨o, by simpa using ho, hf, List.all_eq_true.1 hwf q (List.mem_of_getElem? hiq)⟩
  have hall : All2 (fun i q => nth cs i = some q) (List.range ops.size) cs := All2.ofGet (by simp [hlen]) fun j i hj => by
    have hjl : j < cs.length := by have := (List.getElem?_eq_some_iff.1 hj).1; simp at this; omega
    rw [List.getElem?_range (by omega)] at hj
    cases hj
    exact ⟨cs[j], List.getElem?_eq_getElem hjl, by rw [nth_eq]; exact List.getElem?_eq_getElem hjl⟩
  cases draw with
  | false =>
    refine wp_region (evOps_snd hcall (List.range ops.size) cs ?_ s s' a w S ρ β he hI hG hQ)
    exact All2.ofGet (by simp [hlen]) fun j i hj => by
      obtain ⟨q, h1, h2⟩ := All2.get hall j i hj
      exact ⟨q, h1, hat i q h2⟩
  | true =>
    refine wp_region_any hm ?_
    have hg : w.grownBy { w with drawn := w.drawn + 1 } none := ⟨rfl, rfl, rfl, Nat.le_refl _, fun _ _ _ => rfl⟩
    obtain ⟨hok, hst⟩ := hI.ok.grow hg (fun _ h => h) (fun b h => .inl h) (fun b h => hI.ok.lt b h)
    have hI' : Inv hi nt { w with drawn := w.drawn + 1 } S ρ β s a := ⟨hI.sz, hI.df, hok, fun n v hv => let ⟨h1, h2, h3⟩ := hI.env n v hv; ⟨h1, h2.step hst fun _ _ _ => rfl, h3⟩, fun n v hv => let ⟨h1, h2⟩ := hI.loc n v hv; ⟨h1, h2.step hst fun _ _ _ => rfl⟩⟩
    refine draw_go hcall hq hat hlen (by simpa using hdraw) s' ops.size _ (List.range ops.size) cs s a _ S ρ β (by simp) List.pairwise_lt_range (fun j => ?_) (by simp) (fun k o hk hkl => ?_) hall he hI' (hG.step hst) (fun a' w' S' ρ' β' h1 h2 h3 => hQ a' w' S' ρ' β' h1 (hst.trans Bx.refl h2) (Bx.refl.trans hst.size h3))
    · by_cases h : j < ops.size <;> simp [h]
    · exfalso
      by_cases h : k < ops.size <;> simp [h] at hkl
end
end Go.Mx
