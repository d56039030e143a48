/- Code, functions, calls: what the machine returns, the loaded program returns. -/
import Derived.Test.YtaomjcmiaiokcaaDoorSndS
import Derived.LoopN
namespace Go.Mx
section
variable {P : Program} {M M' M1 M2 : Mem} {H H' H2 : Hp} {vs : List V} {v v1 v2 : V} {call : Call} {s s' s1 s2 : St} {sh : Nat → Bool} {hi : Hint} {gl : Nat → Option (List I)} {nt : Nat} {dr : Nat → List Nat} {a : Act} {w w' : World} {S S' : Nat → Prop} {ρ β ρ' β' : Nat → Nat}

theorem getE_rmE (n m : Nat) : ∀ (e : Env), getE (rmE e n) m = if m = n then none else getE e m
  | [] => by simp [rmE, getE]
  | (k, x) :: r => by
    have ih := getE_rmE n m r
    simp only [rmE]
    cases h : Nat.beq k n with
    | true =>
      have := Nat.eq_of_beq_eq_true h
      subst this
      simp only [getE]
      rw [ih]
      by_cases e : m = k
      · simp [e]
      · rw [if_neg e, if_neg e, beqf (fun h => e h.symm)]
    | false =>
      simp only [getE]
      cases hm : Nat.beq k m with
      | true =>
        have := Nat.eq_of_beq_eq_true hm
        subst this
        have : k ≠ n := fun e => by subst e; simp at h
        rw [if_neg this]
      | false => exact ih

theorem getE_dropE : ∀ (l : List Nat) (e : Env) (n : Nat) (x : V), getE (dropE l e) n = some x → getE e n = some x
  | [], e, n, x, h => h
  | k :: l, e, n, x, h => by
    have := getE_dropE l (rmE e k) n x h
    rw [getE_rmE] at this
    split at this
    · cases this
    · exact this

theorem Inv.drop (h : Inv hi nt w S ρ β s a) (l : List Nat) : Inv hi nt w S ρ β { s with E := dropE l s.E } a :=
  ⟨h.sz, h.df, h.ok, fun n v hv => h.env n v (getE_dropE l _ n v hv), h.loc⟩

theorem Inv.clear (h : Inv hi nt w S ρ β s a) : Inv hi nt w S ρ β { s with L := [] } a :=
  ⟨h.sz, h.df, h.ok, h.env, fun n v hv => by simp [getE] at hv⟩

def exOf : Ex → Exit
  | .nm => .normal
  | .ex id => .exit id
  | .ret => .ret

/-- What is asked of the end of a piece of code. -/
def Post (hi : Hint) (nt : Nat) (w : World) (S : Nat → Prop) (ρ β : Nat → Nat) (M : Mem) (s' : St) (K : Act → World → Prop) : Prop :=
  ∀ a' w' S' ρ' β', Inv hi nt w' S' ρ' β' s' a' → Stp w S ρ β M w' S' ρ' s'.M.H → Bx w β M.B β' s'.M.B → K a' w'

theorem Post.step {K : Act → World → Prop} (h : Post hi nt w S ρ β M s' K) (h1 : Stp w S ρ β M w' S' ρ' M1.H) (h2 : Bx w β M.B β' M1.B) : Post hi nt w' S' ρ' β' M1 s' K :=
  fun a2 w2 S2 ρ2 β2 k1 k2 k3 => h a2 w2 S2 ρ2 β2 k1 (h1.trans h2 k2) (h2.trans h1.size k3)

theorem evC_snd (hcall : CallOk P gl call) (hq : QuietCall sh call) (hm : P.follows .mixedOrders = true) (n : Nat) : ∀ (code : Code) (c : C), cmpC P hi gl sh dr code = some c → wfC nt c = true → ∀ (s : St) (e : Ex) (s' : St) (a : Act) (w : World) (S : Nat → Prop) (ρ β : Nat → Nat) (Q : Exit → Act → World → Prop),
    evC call n c s = some (e, s') → Inv hi nt w S ρ β s a → GlOk gl w S → Post hi nt w S ρ β s.M s' (Q (exOf e)) → code.wp P Q a w := by
  intro code
  induction code with
  | skip =>
    intro c hc _ s e s' a w S ρ β Q he hI hG hQ
    simp only [cmpC, Option.some.injEq] at hc
    subst hc
    simp only [evC, Option.some.injEq, Prod.mk.injEq] at he
    obtain ⟨rfl, rfl⟩ := he
    exact wp_skip (hQ a w S ρ β hI (Stp.refl _ _ _ _ _) Bx.refl)
  | region id ops draw =>
    intro c hc hwf s e s' a w S ρ β Q he hI hG hQ
    simp only [cmpC, Option.bind_eq_some_iff, gd_some, Option.some.injEq] at hc
    obtain ⟨cs, hcs, hd, rfl⟩ := hc
    simp only [evC, Option.bind_eq_some_iff, Option.some.injEq, Prod.mk.injEq] at he
    obtain ⟨s1, he, rfl, rfl⟩ := he
    exact region_snd hcall hq hm hcs hd hwf he hI hG fun a' w' S' ρ' β' h1 h2 h3 => hQ a' w' S' ρ' β' h1.clear h2 h3
  | seq x y ihx ihy =>
    intro c hc hwf s e s' a w S ρ β Q he hI hG hQ
    simp only [cmpC, Option.bind_eq_some_iff, Option.some.injEq] at hc
    obtain ⟨cx, hcx, cy, hcy, rfl⟩ := hc
    simp only [wfC, Bool.and_eq_true] at hwf
    simp only [evC, Option.bind_eq_some_iff] at he
    obtain ⟨⟨e1, s1⟩, he1, he2⟩ := he
    refine wp_seq (ihx cx hcx hwf.1 s e1 s1 a w S ρ β _ he1 hI hG fun a1 w1 S1 ρ1 β1 h1 h2 h3 => ?_)
    cases e1 with
    | nm => exact ihy cy hcy hwf.2 s1 e s' a1 w1 S1 ρ1 β1 Q he2 h1 (hG.step h2) (hQ.step h2 h3)
    | ex id =>
      simp only [Option.some.injEq, Prod.mk.injEq] at he2
      obtain ⟨rfl, rfl⟩ := he2
      exact hQ a1 w1 S1 ρ1 β1 h1 h2 h3
    | ret =>
      simp only [Option.some.injEq, Prod.mk.injEq] at he2
      obtain ⟨rfl, rfl⟩ := he2
      exact hQ a1 w1 S1 ρ1 β1 h1 h2 h3
  | cond x p q ihp ihq =>
    intro c hc hwf s e s' a w S ρ β Q he hI hG hQ
    simp only [cmpC, Option.bind_eq_some_iff, Option.some.injEq] at hc
    obtain ⟨o, ho, cp, hcp, cq, hcq, rfl⟩ := hc
    simp only [wfC, Bool.and_eq_true] at hwf
    simp only [evC, Option.bind_eq_some_iff] at he
    obtain ⟨v, hv, he⟩ := he
    have hr := evA_snd hI hG ho hv
    split at he
    · exact wp_cond_true (repI_bool (RepX.toV rfl hr)) (ihp cp hcp hwf.1 s e s' a w S ρ β Q he hI hG hQ)
    · exact wp_cond_false (repI_bool (RepX.toV rfl hr)) (ihq cq hcq hwf.2 s e s' a w S ρ β Q he hI hG hQ)
    · cases he
  | block id x ih =>
    intro c hc hwf s e s' a w S ρ β Q he hI hG hQ
    simp only [cmpC, Option.bind_eq_some_iff, Option.some.injEq] at hc
    obtain ⟨cx, hcx, rfl⟩ := hc
    simp only [evC, Option.bind_eq_some_iff] at he
    obtain ⟨⟨e1, s1⟩, he1, he2⟩ := he
    refine wp_block (ih cx hcx hwf s e1 s1 a w S ρ β _ he1 hI hG fun a1 w1 S1 ρ1 β1 h1 h2 h3 => ?_)
    cases e1 with
    | nm =>
      simp only [Option.some.injEq, Prod.mk.injEq] at he2
      obtain ⟨rfl, rfl⟩ := he2
      exact hQ a1 w1 S1 ρ1 β1 h1 h2 h3
    | ex j =>
      simp only at he2
      show Exit.inBlock id Q (.exit j) a1 w1
      simp only [Exit.inBlock]
      split at he2
      · rename_i hb
        have := Nat.eq_of_beq_eq_true hb
        subst this
        simp only [Option.some.injEq, Prod.mk.injEq] at he2
        obtain ⟨rfl, rfl⟩ := he2
        rw [if_pos rfl]
        exact hQ a1 w1 S1 ρ1 β1 h1 h2 h3
      · rename_i hb
        have : j ≠ id := fun e => by subst e; simp at hb
        simp only [Option.some.injEq, Prod.mk.injEq] at he2
        obtain ⟨rfl, rfl⟩ := he2
        rw [if_neg this]
        exact hQ a1 w1 S1 ρ1 β1 h1 h2 h3
    | ret =>
      simp only [Option.some.injEq, Prod.mk.injEq] at he2
      obtain ⟨rfl, rfl⟩ := he2
      exact hQ a1 w1 S1 ρ1 β1 h1 h2 h3
  | loop x ih =>
    intro c hc hwf s e s' a w S ρ β Q he hI hG hQ
    simp only [cmpC, Option.bind_eq_some_iff, Option.some.injEq] at hc
    obtain ⟨cx, hcx, rfl⟩ := hc
    simp only [evC] at he
    refine wp_loop_rounds n ?_
    have key : ∀ (k : Nat) (s : St) (a : Act) (w : World) (S : Nat → Prop) (ρ β : Nat → Nat), loopN (fun t => evC call n cx { t with E := dropE (dr ((firstR x).getD 0)) t.E }) k s = some (e, s') → Inv hi nt w S ρ β s a → GlOk gl w S →
        Post hi nt w S ρ β s.M s' (Q (exOf e)) → Code.rounds P x Q k a w := by
      intro k
      induction k with
      | zero => intro s a w S ρ β he; simp [loopN] at he
      | succ k ihk =>
        intro s a w S ρ β he hI hG hQ
        simp only [loopN, Option.bind_eq_some_iff] at he
        obtain ⟨⟨e1, s1⟩, he1, he2⟩ := he
        rw [rounds_succ]
        refine ih cx hcx hwf _ e1 s1 a w S ρ β _ he1 (hI.drop _) hG fun a1 w1 S1 ρ1 β1 h1 h2 h3 => ?_
        cases e1 with
        | nm => exact ihk s1 a1 w1 S1 ρ1 β1 he2 h1 (hG.step h2) (hQ.step h2 h3)
        | ex id =>
          simp only [Option.some.injEq, Prod.mk.injEq] at he2
          obtain ⟨rfl, rfl⟩ := he2
          exact hQ a1 w1 S1 ρ1 β1 h1 h2 h3
        | ret =>
          simp only [Option.some.injEq, Prod.mk.injEq] at he2
          obtain ⟨rfl, rfl⟩ := he2
          exact hQ a1 w1 S1 ρ1 β1 h1 h2 h3
    exact key n s a w S ρ β he hI hG hQ
  | exit id =>
    intro c hc _ s e s' a w S ρ β Q he hI hG hQ
    simp only [cmpC, Option.some.injEq] at hc
    subst hc
    simp only [evC, Option.some.injEq, Prod.mk.injEq] at he
    obtain ⟨rfl, rfl⟩ := he
    exact wp_exit (hQ a w S ρ β hI (Stp.refl _ _ _ _ _) Bx.refl)
  | ret =>
    intro c hc _ s e s' a w S ρ β Q he hI hG hQ
    simp only [cmpC, Option.some.injEq] at hc
    subst hc
    simp only [evC, Option.some.injEq, Prod.mk.injEq] at he
    obtain ⟨rfl, rfl⟩ := he
    exact wp_ret (hQ a w S ρ β hI (Stp.refl _ _ _ _ _) Bx.refl)
  | _ =>
    intro c hc _ s e s' a w S ρ β Q he
    simp only [cmpC, Option.some.injEq] at hc
    subst hc
    simp [evC, evOps, evOp, wantsD, fresh, gd, optMap, evO, pureX] at he

/- The frame of a function. -/
theorem lowOk_at : ∀ {n : Nat}, lowOk hi n = true → ∀ k, k < n → hi.loc k = false
  | 0, _, k, h => by omega
  | n + 1, h, k, hk => by
    simp only [lowOk, Bool.and_eq_true, Bool.not_eq_true'] at h
    by_cases e : k = n
    · rw [e]; exact h.1
    · exact lowOk_at h.2 k (by omega)

theorem getE_envOf : ∀ (vs : List V) (k n : Nat) (x : V), getE (envOf k vs) n = some x → k ≤ n ∧ vs[n - k]? = some x
  | [], k, n, x, h => by simp [envOf, getE] at h
  | v :: vs, k, n, x, h => by
    simp only [envOf, getE] at h
    split at h
    · rename_i hb
      have := Nat.eq_of_beq_eq_true hb
      subst this
      exact ⟨Nat.le_refl _, by simpa using h⟩
    · rename_i hb
      obtain ⟨h1, h2⟩ := getE_envOf vs (k + 1) n x h
      refine ⟨by omega, ?_⟩
      rw [show n - k = (n - (k + 1)) + 1 by omega]
      simpa using h2

theorem noFaV_eq {x : V} (h : noFaV x = true) : ∀ d off, x ≠ .fa d off := fun d off e => by subst e; simp [noFaV] at h

/-- Behind the callee: the caller's private boxes are as they were. -/
theorem Ok.back {B B' : List (Nat × List V)} {β0 : Nat → Nat} (h : Ok w S ρ β ⟨B, H⟩) (h' : Ok w' S' ρ' β' ⟨B', H'⟩) (k : Stp w S ρ β0 ⟨[], H⟩ w' S' ρ' H') : Ok w' S' ρ' β ⟨B, H'⟩ ∧ Stp w S ρ β ⟨B, H⟩ w' S' ρ' H' := by
  have hb0 : ∀ d, ¬ (getB ([] : List (Nat × List V)) d).isSome := fun d => by simp [getB]
  have nb : ∀ r d, r < H'.length → (getB B d).isSome → ρ' r ≠ β d := fun r d hr hd e => by
    rcases k.rown r hr with ⟨q, hq, e'⟩ | e'
    · exact h.rb q d hq hd (e'.symm.trans e)
    · have := h.blt hd; omega
  refine ⟨⟨h'.rows, fun d cs hd => ?_, h'.inj, h.bij, fun r d h1 h2 => nb r d h1 h2, fun d hd hs => ?_, h'.lt⟩, ⟨k.vals, k.stab, k.heap, fun b hb hr _ => k.keep b hb hr (fun d hd => absurd hd (hb0 d)), k.news, k.rown, k.size, k.os, k.tape, k.output⟩⟩
  · have hds : (getB B d).isSome := by rw [show getB B d = some cs from hd]; rfl
    obtain ⟨cur, T, hh, hr⟩ := h.boxes d cs hd
    exact ⟨cur, T, by rw [k.keep _ (h.blt hds) (fun r hr e => h.rb r d hr hds e.symm) (fun d hd => absurd hd (hb0 d))]; exact hh, k.list hr⟩
  · rcases k.news _ hs with hs | hs | ⟨r, hr, e⟩
    · exact h.bns d hd hs
    · have := h.blt hd; omega
    · exact h.rb r d hr hd e.symm

def resM (tmps : Array Value) : ResultVar → Sem Value
  | .tmp t => pure (tmps.getD t undef)
  | .cell x t => do loadVar t (← asAddr (tmps.getD x undef))

theorem results_eq (fn : Func) (tmps : Array Value) : results fn tmps = (do
    let vs ← fn.results.mapM (resM tmps)
    pure (if h : vs.size = 1 then vs[0] else .tuple vs)) := by
  unfold results
  congr 2

theorem resV_snd {r : ResultVar} {q : Res} (hc : cmpR P hi r = some q) (hI : Inv hi nt w S ρ β s a) (he : resV s q = some v) :
    ∃ c, (resM a.tmps r).run P w = .ok c w ∧ RepV w S ρ s.M.H v c := by
  cases r with
  | tmp t =>
    simp only [cmpR, gd_some, Option.some.injEq] at hc
    obtain ⟨_, rfl⟩ := hc
    simp only [resV, Option.bind_eq_some_iff, gd_some, Option.some.injEq] at he
    obtain ⟨x, hx, hn, rfl⟩ := he
    exact ⟨_, rfl, RepX.toV hn (hI.env _ _ hx).2.1⟩
  | cell x t =>
    simp only [cmpR, gd_some, Option.bind_eq_some_iff, Bool.or_eq_true, Nat.beq_eq, Option.some.injEq] at hc
    obtain ⟨_, ag, hag, z, hz, hs1, rfl⟩ := hc
    obtain ⟨i, hi, rfl⟩ := sizeT_some.1 hz
    simp only [resV, Option.bind_eq_some_iff] at he
    obtain ⟨y, hy, cs, hcs, hvo⟩ := he
    obtain ⟨b, off, cells, hx, hl, hR, hcell, _⟩ := readA_snd hI.ok (hI.env _ _ hy).2.1 hcs
    obtain ⟨c, hrun, hrep⟩ := run_loadVar (P := P) (w := w) hag hi hs1 hl hcell hR hvo
    exact ⟨c, by simp only [resM, Sem.run_bind, hx, asAddr, Sem.run_pure, Result.andThen_ok]; exact hrun, hrep⟩

theorem resVs_snd (hI : Inv hi nt w S ρ β s a) : ∀ {rs : List ResultVar} {qs : List Res} {vs : List V}, optMap (cmpR P hi) rs = some qs → optMap (resV s) qs = some vs →
    ∃ cs, (rs.mapM (resM a.tmps)).run P w = .ok cs w ∧ RepL w S ρ s.M.H vs cs
  | [], qs, vs, h1, h2 => by
    simp only [optMap, Option.some.injEq] at h1
    subst h1
    simp only [optMap, Option.some.injEq] at h2
    subst h2
    exact ⟨[], by simp, .nil⟩
  | r :: rs, qs, vs, h1, h2 => by
    simp only [optMap, Option.bind_eq_some_iff, Option.some.injEq] at h1
    obtain ⟨q, hq, l, hl, rfl⟩ := h1
    simp only [optMap, Option.bind_eq_some_iff, Option.some.injEq] at h2
    obtain ⟨v, hv, l', hl', rfl⟩ := h2
    obtain ⟨c, hrun, hrep⟩ := resV_snd hq hI hv
    obtain ⟨cs, hruns, hreps⟩ := resVs_snd hI hl hl'
    refine ⟨c :: cs, ?_, .cons hrep hreps⟩
    simp only [List.mapM_cons, Sem.run_bind, hrun, Result.andThen_ok, hruns, Sem.run_pure]

theorem tup_rep {vs : List V} {cs : List Value} (h : RepL w S ρ H vs cs) : RepV w S ρ H (tup vs) (if h : cs.toArray.size = 1 then cs.toArray[0] else .tuple cs.toArray) := by
  have hl := h.1
  match vs, cs, h, hl with
  | [], [], h, _ => exact RepL.toTu (cs := #[]) .nil
  | [v], [c], h, _ => exact h.head
  | _ :: _ :: _, c1 :: c2 :: cs, h, _ =>
    have : ¬ (c1 :: c2 :: cs).toArray.size = 1 := by simp
    rw [dif_neg this]
    exact RepL.toTu (by simpa using h)

theorem results_run {fn : Func} {qs : List Res} (hI : Inv hi nt w S ρ β s a) (h1 : optMap (cmpR P hi) fn.results.toList = some qs) (h2 : resOf s qs = some v) : ∃ c, (results fn a.tmps).run P w = .ok c w ∧ RepV w S ρ s.M.H v c := by
  simp only [resOf, Option.bind_eq_some_iff, Option.some.injEq] at h2
  obtain ⟨vs, hvs, rfl⟩ := h2
  obtain ⟨cs, hrun, hrep⟩ := resVs_snd hI h1 hvs
  refine ⟨_, ?_, tup_rep hrep⟩
  rw [results_eq, Array.mapM_eq_mapM_toList, Sem.run_bind, Sem.run_map, hrun]
  rfl

theorem fa_none {vs : List V} (h : vs.all noFaV = true) {n : Nat} {x : V} (hx : vs[n]? = some x) : noFaV x = true := List.all_eq_true.1 h x (List.mem_of_getElem? hx)

/-- What a call gives. -/
def RetOk (w : World) (S : Nat → Prop) (ρ β : Nat → Nat) (M : Mem) (v : V) (H' : Hp) (e : Ending) (w' : World) : Prop :=
  ∃ c S' ρ', e = .returned c ∧ Ok w' S' ρ' β ⟨M.B, H'⟩ ∧ Stp w S ρ β M w' S' ρ' H' ∧ RepV w' S' ρ' H' v c

theorem evF_snd {f : Nat} {func : Func} {fn : F} {n : Nat} {args : Array Value} {B : List (Nat × List V)} (hf : P.funcs[f]? = some func) (hc : cmpF P hi gl sh dr func = some fn) (hcall : CallOk P gl call) (hq : QuietCall sh call) (hm : P.follows .mixedOrders = true)
    (he : evF call n fn vs H = some (v, H')) (hok : Ok w S ρ β ⟨B, H⟩) (hG : GlOk gl w S) (hv : All2 (RepX w S ρ β H) vs args.toList) : Calls P f args w (RetOk w S ρ β ⟨B, H⟩ v H') := by
  simp only [cmpF, Option.bind_eq_some_iff, gd_some, Bool.and_eq_true, Nat.ble_eq, Option.some.injEq] at hc
  obtain ⟨code, hbody, c, hcc, rs, hrs, ⟨⟨hlow, hnt⟩, hwf⟩, rfl⟩ := hc
  simp only [evF, gd_some, Bool.and_eq_true, Nat.beq_eq, Option.bind_eq_some_iff] at he
  obtain ⟨⟨hna, hlen⟩, ⟨e, s'⟩, hev, he⟩ := he
  have hsz : args.size = func.params.size + func.nfree := by have := All2.length hv; simp at this; omega
  have hI : Inv hi func.ntmps w S ρ β ⟨envOf 0 vs, [], ⟨[], H⟩⟩ { tmps := args ++ Array.replicate (func.ntmps - args.size) undef, defers := [] } := by
    refine ⟨by simp; omega, rfl, ⟨hok.rows, fun d cs hd => by simp [getB] at hd, hok.inj, fun d d' hd => by simp [getB] at hd, fun r d _ hd => by simp [getB] at hd, fun d hd => by simp [getB] at hd, hok.lt⟩, fun k x hg => ?_, fun k x hg => by simp [getE] at hg⟩
    obtain ⟨_, hx⟩ := getE_envOf vs 0 k x hg
    simp only [Nat.sub_zero] at hx
    obtain ⟨c, hc, hr⟩ := All2.get hv k x hx
    have hk : k < vs.length := (List.getElem?_eq_some_iff.1 hx).1
    have hna' := fa_none hna hx
    refine ⟨lowOk_at hlow k (by omega), ?_, fun d off e => absurd e (noFaV_eq hna' d off)⟩
    have hk2 : k < args.size := by have := All2.length hv; simp at this; omega
    have : (args ++ Array.replicate (func.ntmps - args.size) undef).getD k undef = c := by
      have h1 : args[k]? = some c := by simpa using hc
      simp [Array.getElem?_append, hk2, h1]
      simpa [hk2] using h1
    rw [this]
    exact RepX.ofV (RepX.toV hna' hr)
  refine calls_of_wp hf hbody (evC_snd hcall hq hm n code c hcc hwf _ e s' _ w S ρ β _ hev hI hG ?_)
  intro a' w' S' ρ' β' h1 h2 h3
  have fin : (resOf s' rs).bind (fun v => some (v, s'.M.H)) = some (v, H') → a'.defers = [] ∧ ∃ c, (results func a'.tmps).run P w' = .ok c w' ∧ RetOk w S ρ β ⟨B, H⟩ v H' (.returned c) w' := fun he => by
    simp only [Option.bind_eq_some_iff, Option.some.injEq, Prod.mk.injEq] at he
    obtain ⟨x, hx, rfl, rfl⟩ := he
    obtain ⟨c, hrun, hrep⟩ := results_run h1 hrs hx
    obtain ⟨k1, k2⟩ := Ok.back hok (B' := s'.M.B) (H' := s'.M.H) h1.ok h2
    exact ⟨h1.df, c, hrun, c, S', ρ', rfl, k1, k2, hrep⟩
  cases e with
  | nm => exact fin he
  | ret => exact fin he
  | ex id => cases he

/- A pure call. -/
theorem optMap_all2 {β' : Type} {α : Type} {f : α → Option β'} : ∀ {l : List α} {m : List β'}, optMap f l = some m → All2 (fun x y => f x = some y) l m
  | [], m, h => by simp only [optMap, Option.some.injEq] at h; subst h; exact .nil
  | x :: l, m, h => by
    simp only [optMap, Option.bind_eq_some_iff, Option.some.injEq] at h
    obtain ⟨y, hy, m', hm, rfl⟩ := h
    exact .cons hy (optMap_all2 hm)

theorem view_noFa {n : Nat} {x : V} {i : I} (h : view n H x = some i) : noFaV x = true := by
  cases n with
  | zero => simp [view] at h
  | succ n => cases x <;> first | rfl | (simp [view] at h)

theorem views_args {R : Nat → Prop} {B : List (Nat × List V)} {is : List I} {args : List Value} (hok : Ok w S ρ β ⟨B, H⟩) (hcl : RowCl R H) (h : optMap (view 20 H) vs = some is) (hin : ∀ x, x ∈ vs → InN R 20 x) (hv : All2 (RepX w S ρ β H) vs args) {ρ0 β0 : Nat → Nat} : All2 (RepX w (Sof S ρ H R) ρ0 β0 []) (is.map .m) args := by
  induction hv generalizing is with
  | nil =>
    simp only [optMap, Option.some.injEq] at h
    subst h
    exact .nil
  | cons hx t ih =>
    simp only [optMap, Option.bind_eq_some_iff, Option.some.injEq] at h
    obtain ⟨i, hi, l, hl, rfl⟩ := h
    exact .cons (RepX.ofV (.m (view_snd hok hcl 20 _ _ i hi (hin _ (by simp)) (RepX.toV (view_noFa hi) hx)))) (ih hl fun x hx => hin x (by simp [hx]))

mutual
theorem flat_any {S2 : Nat → Prop} {w2 : World} : ∀ (i : I) {c : Value}, flatI i = true → RepI w S i c → RepI w2 S2 i c
  | .b x, c, _, h => by cases h; exact .b _
  | .i k n, c, _, h => by cases h; exact .i _ _
  | .s x, c, _, h => by cases h; exact .s _ _ ‹_›
  | .nl k, c, _, h => by cases h; exact .nlp; exact .nlm; exact .nlf; exact .nli; exact .nls
  | .er, c, _, h => by cases h; exact .er _ _
  | .ag cs, c, hf, h => by
    cases h with | ag _ as hl cf hc hr =>
    exact .ag cs as hl cf hc (flats_any cs hf hr)
  | .sl _, c, hf, _ => by simp [flatI] at hf
  | .pt _, c, hf, _ => by simp [flatI] at hf
  | .mp _, c, hf, _ => by simp [flatI] at hf
  | .fn _ _, c, hf, _ => by simp [flatI] at hf
theorem flats_any {S2 : Nat → Prop} {w2 : World} : ∀ (l : List I) {cf : Nat → Value}, flatIs l = true → (∀ (j : Nat) x, l[j]? = some x → RepI w S x (cf j)) → ∀ (j : Nat) x, l[j]? = some x → RepI w2 S2 x (cf j)
  | [], cf, _, _ => fun j x hj => by simp at hj
  | y :: l, cf, hf, h => fun j x hj => by
    simp only [flatIs, Bool.and_eq_true] at hf
    cases j with
    | zero =>
      simp only [List.getElem?_cons_zero, Option.some.injEq] at hj
      subst hj
      exact flat_any y hf.1 (h 0 y rfl)
    | succ j => exact flats_any l (cf := fun k => cf (k + 1)) hf.2 (fun k z hz => h (k + 1) z (by simpa using hz)) j x (by simpa using hj)
end

/-- The result of a pure call, read whole. -/
theorem viewR_snd {B : List (Nat × List V)} {c : Value} {r : V} (hok : Ok w S ρ β ⟨B, H⟩) (h : viewR H v = some r) (hv : RepV w S ρ H v c) {ρ0 : Nat → Nat} {H0 : Hp} : RepV w (Sof S ρ H fun _ => True) ρ0 H0 r c := by
  have one : ∀ {x : V} {i : I} {c : Value}, view 20 H x = some i → RepV w S ρ H x c → RepI w (Sof S ρ H fun _ => True) i c := fun h k => view_snd hok rowCl_true 20 _ _ _ h (in_true 20 _) k
  unfold viewR at h
  split at h
  · simp only [Option.bind_eq_some_iff, Option.some.injEq] at h
    obtain ⟨l, hl, rfl⟩ := h
    obtain ⟨cs, rfl, hcs⟩ := hv.tuL
    obtain ⟨g1, g2⟩ := optMap_get hl
    refine RepL.toTu ⟨by rw [List.length_map, g1]; exact hcs.1, fun j y hj => ?_⟩
    rw [List.getElem?_map] at hj
    obtain ⟨z, hz, rfl⟩ := Option.map_eq_some_iff.1 hj
    obtain ⟨x, hx, hf⟩ := g2 j z hz
    obtain ⟨c, hc, hr⟩ := hcs.2 j x hx
    exact ⟨c, hc, .m (one hf hr)⟩
  · simp only [Option.bind_eq_some_iff, Option.some.injEq] at h
    obtain ⟨x, hx, rfl⟩ := h
    exact .m (one hx hv)

/-- A result of immutable values. -/
def immV : V → Prop
  | .m _ => True
  | .tu vs => ∃ l : List I, vs = l.map .m
  | _ => False

theorem viewR_imm {r : V} (h : viewR H v = some r) : immV r := by
  unfold viewR at h
  split at h
  · simp only [Option.bind_eq_some_iff, Option.some.injEq] at h
    obtain ⟨l, _, rfl⟩ := h
    exact ⟨l, rfl⟩
  · simp only [Option.bind_eq_some_iff, Option.some.injEq] at h
    obtain ⟨x, _, rfl⟩ := h
    trivial

theorem immV_mono {r : V} {c : Value} {S2 : Nat → Prop} {ρ0 : Nat → Nat} {H0 : Hp} (hi : immV r) (h : RepV w S ρ H r c) (k : ∀ (x : I) c, RepI w S x c → RepI w S2 x c) : RepV w S2 ρ0 H0 r c := by
  cases r with
  | m x => exact .m (k x c h.imm)
  | tu vs =>
    obtain ⟨l, rfl⟩ := hi
    obtain ⟨cs, rfl, hcs⟩ := h.tuL
    obtain ⟨h1, cf, hcf, hr⟩ := hcs.toI
    refine RepL.toTu (RepL.ofI (by simpa using h1) cf (fun j x hj => by simpa using hcf j x hj) fun j x hj => k _ _ (hr j x hj))
  | _ => exact hi.elim

theorem flatV_mono {r : V} {c : Value} {S2 : Nat → Prop} {ρ0 : Nat → Nat} {H0 : Hp} (hi : immV r) (hf : flatV r = true) (h : RepV w S ρ H r c) : RepV w S2 ρ0 H0 r c := by
  cases r with
  | m x => exact .m (flat_any x hf h.imm)
  | tu vs =>
    obtain ⟨l, rfl⟩ := hi
    obtain ⟨cs, rfl, hcs⟩ := h.tuL
    obtain ⟨h1, cf, hcf, hr⟩ := hcs.toI
    refine RepL.toTu (RepL.ofI (by simpa using h1) cf (fun j x hj => by simpa using hcf j x hj) fun j x hj => flat_any x ?_ (hr j x hj))
    simp only [flatV, List.all_map, List.all_eq_true] at hf
    exact hf x (List.mem_of_getElem? hj)
  | _ => exact hi.elim

theorem callP_snd {f : Nat} {func : Func} {fn : F} {n : Nat} {args : Array Value} {B : List (Nat × List V)} (hf : P.funcs[f]? = some func) (hc : cmpF P hi gl sh dr func = some fn) (hcall : CallOk P gl call) (hq : QuietCall sh call) (hm : P.follows .mixedOrders = true)
    (he : callP call n fn vs H = some (v, H')) (hok : Ok w S ρ β ⟨B, H⟩) (hG : GlOk gl w S) (hv : All2 (RepX w S ρ β H) vs args.toList) : Calls P f args w (RetOk w S ρ β ⟨B, H⟩ v H') := by
  simp only [callP, Option.bind_eq_some_iff] at he
  obtain ⟨is, his, ⟨p1, p2⟩, hev, r, hr, he⟩ := he
  -- the callee, over the blocks of the rows of R
  have main : ∀ (R : Nat → Prop), RowCl R H → (∀ x, x ∈ vs → InN R 20 x) →
      Calls P f args w fun e w' => ∃ c S1 ρ1 β1, e = .returned c ∧ Ok w' S1 ρ1 β1 ⟨[], p2⟩ ∧ Stp w (Sof S ρ H R) id id ⟨[], []⟩ w' S1 ρ1 p2 ∧ RepV w' (Sof S1 ρ1 p2 fun _ => True) ρ1 p2 r c := fun R hcl hin => by
    have hokc : Ok w (Sof S ρ H R) id id ⟨[], []⟩ := ⟨fun r row h => by simp at h, fun d cs h => by simp [getB] at h, fun r r' h => by simp at h, fun d d' h => by simp [getB] at h, fun r d h => by simp at h, fun d h => by simp [getB] at h, fun b hb => by
      rcases hb with hb | ⟨r, _, hr, e⟩
      · exact hok.lt b hb
      · rw [e]; exact hok.rlt hr⟩
    refine (evF_snd hf hc hcall hq hm hev hokc (fun g cs hg => (hG g cs hg).mono (fun _ _ => rfl) fun _ h => .inl h) (views_args hok hcl his hin hv)).mono fun e w' hh => ?_
    obtain ⟨c, S1, ρ1, rfl, k1, k2, k3⟩ := hh
    exact ⟨c, S1, ρ1, _, rfl, k1, k2, viewR_snd k1 hr k3⟩
  have grown : ∀ {R : Nat → Prop} {w' : World} {S1 : Nat → Prop} {ρ1 : Nat → Nat}, Stp w (Sof S ρ H R) id id ⟨[], []⟩ w' S1 ρ1 p2 → w.grownBy w' none := fun k =>
    ⟨k.os, k.tape, k.output, k.size, fun b hb _ => k.keep b hb (fun r hr => by simp at hr) (fun d hd => by simp [getB] at hd)⟩
  have himm := viewR_imm hr
  -- what the callee leaves, stable from now on
  have leave : ∀ {S0 : Nat → Prop} {K : Hp} {R : Nat → Prop} {w' : World} {S1 : Nat → Prop} {ρ1 β1 : Nat → Nat}, Ok w S0 ρ β ⟨B, K⟩ → Stp w (Sof S ρ H R) id id ⟨[], []⟩ w' S1 ρ1 p2 → Ok w' S1 ρ1 β1 ⟨[], p2⟩ →
      Ok w' (fun b => S0 b ∨ (Sof S1 ρ1 p2 (fun _ => True) b ∧ w.heap.size ≤ b)) ρ β ⟨B, K⟩ ∧ Stp w S0 ρ β ⟨B, K⟩ w' (fun b => S0 b ∨ (Sof S1 ρ1 p2 (fun _ => True) b ∧ w.heap.size ≤ b)) ρ K := fun {S0 K R w' S1 ρ1 β1} hok0 k2 k1 =>
    Ok.grow hok0 (grown k2) (fun b h => .inl h) (fun b h => h.imp id (·.2)) (fun b h => by
      rcases h with h | ⟨h | ⟨r, _, hr, e⟩, _⟩
      · exact Nat.lt_of_lt_of_le (hok0.lt b h) k2.size
      · exact k1.lt b h
      · rw [e]; exact k1.rlt hr)
  have inS : ∀ {S0 : Nat → Prop} {R : Nat → Prop} {w' : World} {S1 : Nat → Prop} {ρ1 : Nat → Nat}, (∀ b, Sof S ρ H R b → S0 b) → Stp w (Sof S ρ H R) id id ⟨[], []⟩ w' S1 ρ1 p2 → ∀ b, Sof S1 ρ1 p2 (fun _ => True) b → S0 b ∨ (Sof S1 ρ1 p2 (fun _ => True) b ∧ w.heap.size ≤ b) := fun h0 k2 b hb => by
    have hb0 := hb
    rcases hb with hb | ⟨r, _, hr, e⟩
    · rcases k2.news b hb with h | h | ⟨r, hr, _⟩
      · exact .inl (h0 b h)
      · exact .inr ⟨hb0, h⟩
      · simp at hr
    · rcases k2.rown r hr with ⟨q, hq, _⟩ | h
      · simp at hq
      · exact .inr ⟨hb0, by omega⟩
  split at he
  · rename_i hrs
    simp only [gd_some, Option.some.injEq, Prod.mk.injEq] at he
    obtain ⟨hsh, rfl, rfl⟩ := he
    refine (main (· ∈ []) (fun r row h => by simp at h) fun x hx => shallow_in (List.all_eq_true.1 hsh x hx) (fun r hr => by rw [← hrs]; exact List.mem_flatMap.2 ⟨x, hx, hr⟩) 20).mono fun e w' hh => ?_
    obtain ⟨c, S1, ρ1, β1, rfl, k1, k2, k3⟩ := hh
    obtain ⟨m1, m2⟩ := leave hok k2 k1
    refine ⟨c, _, ρ, rfl, m1, m2, immV_mono himm k3 fun x c h => h.mono (fun _ _ => rfl) (inS (fun b hb => ?_) k2)⟩
    rcases hb with hb | ⟨r, hr, _⟩
    · exact hb
    · simp at hr
  · split at he
    · rename_i hflat
      simp only [Option.some.injEq, Prod.mk.injEq] at he
      obtain ⟨rfl, rfl⟩ := he
      refine (main (fun _ => True) rowCl_true fun x _ => in_true 20 x).mono fun e w' hh => ?_
      obtain ⟨c, S1, ρ1, β1, rfl, k1, k2, k3⟩ := hh
      obtain ⟨m1, m2⟩ := leave hok k2 k1
      exact ⟨c, _, ρ, rfl, m1, m2, flatV_mono himm hflat k3⟩
    · simp only [gd_some, Option.bind_eq_some_iff, Option.some.injEq, Prod.mk.injEq] at he
      obtain ⟨hsh, H2, hfz, rfl, rfl⟩ := he
      obtain ⟨f1, f2, f3, f4⟩ := freeze_snd _ hok hfz
      refine (main (· ∈ vs.flatMap refs) (rowCl_flat f4) fun x hx => shallow_in (List.all_eq_true.1 hsh x hx) (fun r hr => List.mem_flatMap.2 ⟨x, hx, hr⟩) 20).mono fun e w' hh => ?_
      obtain ⟨c, S1, ρ1, β1, rfl, k1, k2, k3⟩ := hh
      obtain ⟨m1, m2⟩ := leave f1 k2 k1
      exact ⟨c, _, ρ, rfl, m1, Stp.trans (M1 := ⟨B, H2⟩) f2 (fun d hd => .inl ⟨d, hd, rfl⟩) m2, immV_mono himm k3 fun x c h => h.mono (fun _ _ => rfl) (inS (fun b hb => hb) k2)⟩

theorem callP_quiet {fn : F} {n : Nat} (he : callP call n fn vs H = some (v, H')) : ∃ rs, freeze rs H = some H' ∧ ∀ K K', Le H K → freeze rs K = some K' → callP call n fn vs K = some (v, K') := by
  simp only [callP, Option.bind_eq_some_iff] at he
  obtain ⟨is, his, ⟨p1, p2⟩, hev, r, hr, he⟩ := he
  have hvw : ∀ K, Le H K → optMap (view 20 K) vs = some is := fun K hle => optMap_imp (fun x y => hle.view 20 x y) his
  split at he
  · rename_i hrs
    simp only [gd_some, Option.some.injEq, Prod.mk.injEq] at he
    obtain ⟨hsh, rfl, rfl⟩ := he
    refine ⟨[], rfl, fun K K' hle hf => ?_⟩
    simp only [freeze, Option.some.injEq] at hf
    subst hf
    simp [callP, hvw K hle, hev, hr, hrs, gd, hsh]
  · rename_i hrs
    split at he
    · rename_i hflat
      simp only [Option.some.injEq, Prod.mk.injEq] at he
      obtain ⟨rfl, rfl⟩ := he
      refine ⟨[], rfl, fun K K' hle hf => ?_⟩
      simp only [freeze, Option.some.injEq] at hf
      subst hf
      simp only [callP, hvw K hle, Option.bind_some, hev, hr, hflat]
    · rename_i hflat
      simp only [gd_some, Option.bind_eq_some_iff, Option.some.injEq, Prod.mk.injEq] at he
      obtain ⟨hsh, H2, hfz, rfl, rfl⟩ := he
      refine ⟨_, hfz, fun K K' hle hf => ?_⟩
      simp only [callP, hvw K hle, Option.bind_some, hev, hr, hflat, hsh, gd, hf]

/-- What is asked of a primitive. -/
structure PrimOk (P : Program) (gl : Nat → Option (List I)) (sh : Nat → Bool) (f : Nat) (p : Call → List V → Hp → Option (V × Hp)) : Prop where
  shared : sh f = true
  enters : Enters P f
  ok : ∀ call vs H v H', CallOk P gl call → p call vs H = some (v, H') → ∀ (w : World) S ρ β B (args : Array Value), Ok w S ρ β ⟨B, H⟩ → GlOk gl w S → All2 (RepX w S ρ β H) vs args.toList → Calls P f args w (RetOk w S ρ β ⟨B, H⟩ v H')

/-- The machine's functions are what the checked translation makes of the program's. -/
structure CfgOk (P : Program) (gl : Nat → Option (List I)) (G : Cfg) : Prop where
  mixed : P.follows .mixedOrders = true
  fn : ∀ f fn, G.prim f = none → G.fn f = some fn → ∃ func hi dr, P.funcs[f]? = some func ∧ (func.name == "runtime.NumGoroutine") = false ∧ cmpF P hi gl G.sh dr func = some fn
  prim : ∀ f p, G.prim f = some p → PrimOk P gl G.sh f p

/-- A function of the table. -/
def Good (P : Program) (gl : Nat → Option (List I)) (sh : Nat → Bool) (p : Nat × F) : Prop := ∃ func hi dr, P.funcs[p.1]? = some func ∧ (func.name == "runtime.NumGoroutine") = false ∧ cmpF P hi gl sh dr func = some p.2

def Goods (P : Program) (gl : Nat → Option (List I)) (sh : Nat → Bool) : List (Nat × F) → Prop
  | [] => True
  | p :: r => Good P gl sh p ∧ Goods P gl sh r

theorem Goods.mem {l : List (Nat × F)} (h : Goods P gl sh l) : ∀ p, p ∈ l → Good P gl sh p := by
  induction l with
  | nil => intro p hp; simp at hp
  | cons q l ih =>
    intro p hp
    rcases List.mem_cons.1 hp with rfl | hp
    · exact h.1
    · exact ih h.2 p hp

theorem T.look_mem : ∀ {t : T} {n : Nat} {f : F}, t.look n = some f → (n, f) ∈ t.all
  | .nil, n, f, h => by simp [T.look] at h
  | .lf k g, n, f, h => by
    simp only [T.look] at h
    split at h
    · rename_i hb
      have := Nat.eq_of_beq_eq_true hb
      subst this
      simp only [Option.some.injEq] at h
      subst h
      simp [T.all]
    · cases h
  | .nd m a b, n, f, h => by
    simp only [T.look] at h
    simp only [T.all, List.mem_append]
    split at h
    · exact .inl (T.look_mem h)
    · exact .inr (T.look_mem h)

theorem callM_snd {G : Cfg} (hG : CfgOk P gl G) : ∀ n, CallOk P gl (callM G n) ∧ QuietCall G.sh (callM G n)
  | 0 => ⟨fun f vs H v H' h => by simp [callM] at h, fun f _ vs H v H' h => by simp [callM] at h⟩
  | n + 1 => by
    obtain ⟨ih1, ih2⟩ := callM_snd hG n
    refine ⟨fun f vs H v H' h => ?_, fun f hsh vs H v H' h => ?_⟩
    · unfold callM at h
      split at h
      · rename_i p hp
        have := hG.prim f p hp
        exact ⟨this.enters, fun w S ρ β B args h1 h2 h3 => this.ok _ _ _ _ _ ih1 h w S ρ β B args h1 h2 h3⟩
      · rename_i hp
        simp only [Option.bind_eq_some_iff] at h
        obtain ⟨fn, hfn, h⟩ := h
        obtain ⟨func, hi, dr, hf, hname, hc⟩ := hG.fn f fn hp hfn
        have hen : Enters P f := ⟨func, hf, hname, by
          simp only [cmpF, Option.bind_eq_some_iff] at hc
          obtain ⟨code, hcode, _⟩ := hc
          rw [hcode]
          rfl⟩
        refine ⟨hen, fun w S ρ β B args h1 h2 h3 => ?_⟩
        split at h
        · exact evF_snd hf hc ih1 ih2 hG.mixed h h1 h2 h3
        · exact callP_snd hf hc ih1 ih2 hG.mixed h h1 h2 h3
    · unfold callM at h
      split at h
      · rename_i p hp
        have := (hG.prim f p hp).shared
        rw [this] at hsh
        cases hsh
      · rename_i hp
        simp only [Option.bind_eq_some_iff] at h
        obtain ⟨fn, hfn, h⟩ := h
        rw [hsh] at h
        obtain ⟨rs, h1, h2⟩ := callP_quiet h
        refine ⟨rs, h1, fun K K' hle hf => ?_⟩
        unfold callM
        simp only [hp, hfn, Option.bind_some, hsh]
        exact h2 K K' hle hf
end
end Go.Mx
