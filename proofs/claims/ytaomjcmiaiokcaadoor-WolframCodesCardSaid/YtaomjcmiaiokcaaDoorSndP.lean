/- Every operation of the machine against the model: the dispatch; calls by a hypothesis. -/
import Derived.Test.YtaomjcmiaiokcaaDoorSndO
namespace Go.Mx
section
variable {P : Program} {w : World} {S : Nat → Prop} {ρ β : Nat → Nat} {M M' : Mem} {H : Hp} {o : Oper} {a : Act} {vs : List V} {v : V} {call : Call} {hi : Hint} {gl : Nat → Option (List I)}

/-- The package-level variables that are read: stable, and as they are listed. -/
def GlOk (gl : Nat → Option (List I)) (w : World) (S : Nat → Prop) : Prop := ∀ g cs, gl g = some cs → RepI w S (.pt cs) (.pointer (some ⟨g, 0, none⟩))

theorem GlOk.step {w' : World} {S' : Nat → Prop} {ρ' : Nat → Nat} {H' : Hp} (h : GlOk gl w S) (k : Stp w S ρ β M w' S' ρ' H') : GlOk gl w' S' := fun g cs hg => k.imm (h g cs hg)

/-- A function that is entered by its call. -/
def Enters (P : Program) (f : Nat) : Prop := ∃ fn, P.funcs[f]? = some fn ∧ (fn.name == "runtime.NumGoroutine") = false ∧ fn.body.isNone = false

/-- What is asked of the calls: they return what the machine says. -/
def CallOk (P : Program) (gl : Nat → Option (List I)) (call : Call) : Prop := ∀ f vs H v H', call f vs H = some (v, H') → Enters P f ∧ ∀ (w : World) S ρ β B (args : Array Value), Ok w S ρ β ⟨B, H⟩ → GlOk gl w S → All2 (RepX w S ρ β H) vs args.toList →
  Calls P f args w fun e w' => ∃ c S' ρ', e = .returned c ∧ Ok w' S' ρ' β ⟨B, H'⟩ ∧ Stp w S ρ β ⟨B, H⟩ w' S' ρ' H' ∧ RepV w' S' ρ' H' v c

/-- The step that an operation makes. -/
structure Nxt (w : World) (S : Nat → Prop) (ρ β : Nat → Nat) (M : Mem) (q : O) (v : V) (M' : Mem) (w' : World) (S' : Nat → Prop) (ρ' β' : Nat → Nat) (c : Value) : Prop where
  ok : Ok w' S' ρ' β' M'
  stp : Stp w S ρ β M w' S' ρ' M'.H
  rep : RepX w' S' ρ' β' M'.H v c
  own : ∀ d, dof q ≠ some d → β' d = β d
  box : ∀ d, (getB M'.B d).isSome → (∃ q, (getB M.B q).isSome ∧ β' d = β q) ∨ w.heap.size ≤ β' d

theorem Outc.wp {q : O} {next : Act → World → Prop} {Q : Exit → Act → World → Prop} (h : Outc w S ρ β M q v M' ((execOp a.eval o).run P w))
    (hn : ∀ w' S' ρ' β' c, Nxt w S ρ β M q v M' w' S' ρ' β' c → next (a.put o.dst c) w') : o.wp P a w next Q := by
  obtain ⟨nx, c, w', S', ρ', β', hr, hc, h1, h2, h3, h4, h5⟩ := h
  unfold Oper.wp
  rw [hr]
  rcases hc with rfl | ⟨rfl, rfl⟩
  · exact hn _ _ _ _ _ ⟨h1, h2, h3, h4, h5⟩
  · exact hn _ _ _ _ _ ⟨h1, h2, h3, h4, h5⟩

/-- A call. -/
theorem call_wp {q : O} {next : Act → World → Prop} {Q : Exit → Act → World → Prop} {f : Nat} {xs : List V} {args : Array Value} {H' : Hp} (hq : dof q = none) (hcall : CallOk P gl call) (hok : Ok w S ρ β M) (hG : GlOk gl w S) (hc : call f xs M.H = some (v, H'))
    (hx : All2 (RepX w S ρ β M.H) xs args.toList) (hr : Enters P f → (execOp a.eval o).run P w = .ok (.enter f args) w)
    (hn : ∀ w' S' ρ' β' c, Nxt w S ρ β M q v { M with H := H' } w' S' ρ' β' c → next (a.put o.dst c) w') : o.wp P a w next Q := by
  obtain ⟨hen, hcall⟩ := hcall f xs M.H v H' hc
  unfold Oper.wp
  rw [hr hen, Oper.upon_enter]
  refine (hcall w S ρ β M.B args hok hG hx).mono fun e w' h => ?_
  obtain ⟨c, S', ρ', rfl, h1, h2, h3⟩ := h
  exact hn w' S' ρ' β c ⟨h1, h2, RepX.ofV h3, fun _ _ => rfl, fun d hd => .inl ⟨d, hd, rfl⟩⟩

theorem All2.append {α β : Type} {R : α → β → Prop} {l l' : List α} {m m' : List β} (h : All2 R l m) (k : All2 R l' m') : All2 R (l ++ l') (m ++ m') := by
  induction h with
  | nil => exact k
  | cons h t ih => exact .cons h ih

theorem RepL.toAll2 {xs : List V} {cs : List Value} (h : RepL w S ρ H xs cs) : All2 (RepX w S ρ β H) xs cs :=
  All2.ofGet h.1 fun j x hj => let ⟨c, hc, hr⟩ := h.2 j x hj; ⟨c, hc, RepX.ofV hr⟩

theorem run_enter {c : Go.Call} {f : Nat} {as : Array Value} {g : Operand} (ho : o.op = .call c) (hc : c.callee = .value g) (hg : a.eval g = .func (.func f) #[] as) (hen : Enters P f) : (execOp a.eval o).run P w = .ok (.enter f (c.args.map a.eval ++ as)) w := by
  obtain ⟨fn, h1, h2, h3⟩ := hen
  have h2 : ¬ fn.name = "runtime.NumGoroutine" := by simpa using h2
  have h3 : ¬ fn.body = none := by rintro e; simp [e] at h3
  simp [execOp, ho, resolve, hc, Deferred.ofValue, hg, invoke, callFunc, h1, h2, h3]

theorem snd_cal {c : Go.Call} {f : Nat} {next : Act → World → Prop} {Q : Exit → Act → World → Prop} (ho : o.op = .call c) (hc : c.callee = .value (.func f)) (hcall : CallOk P gl call) (hok : Ok w S ρ β M) (hG : GlOk gl w S)
    (hv : All2 (RepX w S ρ β M.H) vs (c.args.toList.map a.eval)) (he : loudX call M (.cal f) vs = some (v, M')) (hn : ∀ w' S' ρ' β' x, Nxt w S ρ β M (.l (.cal f)) v M' w' S' ρ' β' x → next (a.put o.dst x) w') : o.wp P a w next Q := by
  simp only [loudX, Option.bind_eq_some_iff, Option.some.injEq, Prod.mk.injEq] at he
  obtain ⟨⟨r, H'⟩, hr, rfl, rfl⟩ := he
  exact call_wp rfl hcall hok hG hr (args := c.args.map a.eval ++ #[]) (by simpa using hv) (run_enter ho hc rfl) hn

theorem snd_cav {c : Go.Call} {g : Operand} {next : Act → World → Prop} {Q : Exit → Act → World → Prop} (ho : o.op = .call c) (hc : c.callee = .value g) (hcall : CallOk P gl call) (hok : Ok w S ρ β M) (hG : GlOk gl w S)
    (hv : All2 (RepX w S ρ β M.H) vs ((g :: c.args.toList).map a.eval)) (he : loudX call M .cav vs = some (v, M')) (hn : ∀ w' S' ρ' β' x, Nxt w S ρ β M (.l .cav) v M' w' S' ρ' β' x → next (a.put o.dst x) w') : o.wp P a w next Q := by
  match vs, he with
  | x :: xs, he =>
    simp only [List.map_cons] at hv
    generalize hg : a.eval g = cg at hv
    cases hv with | cons h t =>
    simp only [loudX] at he
    split at he
    · rename_i f cap
      simp only [Option.bind_eq_some_iff, Option.some.injEq, Prod.mk.injEq] at he
      obtain ⟨⟨r, H'⟩, hr, rfl, rfl⟩ := he
      obtain ⟨cs, rfl, hcs⟩ := (RepX.toV rfl h).fnL
      exact call_wp rfl hcall hok hG hr (args := c.args.map a.eval ++ cs) (by simpa using All2.append t (RepL.toAll2 hcs)) (run_enter ho hc hg) hn
    · rename_i f cap
      simp only [Option.bind_eq_some_iff, Option.some.injEq, Prod.mk.injEq] at he
      obtain ⟨⟨r, H'⟩, hr, rfl, rfl⟩ := he
      have hI := (RepX.toV rfl h).imm
      cases hI with | fn _ _ cs hl ci hci hri =>
      exact call_wp rfl hcall hok hG hr (args := c.args.map a.eval ++ cs) (by simpa using All2.append t (RepL.toAll2 (RepL.ofI hl ci hci hri))) (run_enter ho hc hg) hn
    · cases he

theorem optO_eq {b : Bool} {q q' : O} {l l' : List Operand} (h : optO b q l = some (q', l')) : b = true ∧ q = q' ∧ l = l' := by
  cases b <;> simp [optO, gd] at h
  exact ⟨rfl, h.1, h.2⟩


theorem evO_p {x : OP} (h : evO call M (.p x) vs = some (v, M')) : pureX x vs = some v ∧ M' = M := by
  simp only [evO, Option.bind_eq_some_iff, Option.some.injEq, Prod.mk.injEq] at h
  obtain ⟨u, h, rfl, rfl⟩ := h
  exact ⟨h, rfl⟩
theorem evO_r {x : OR} (h : evO call M (.r x) vs = some (v, M')) : readX M x vs = some v ∧ M' = M := by
  simp only [evO, Option.bind_eq_some_iff, Option.some.injEq, Prod.mk.injEq] at h
  obtain ⟨u, h, rfl, rfl⟩ := h
  exact ⟨h, rfl⟩

theorem isStr_eq {x : V} (h : isStr x = true) : ∃ l, x = .m (.s l) := by
  unfold isStr at h
  split at h
  · exact ⟨_, rfl⟩
  · cases h

theorem cmpEq_snd {neg : Bool} {t ty : TypeId} {x y : Operand} {q : O} {as : List Operand} (ho : o.op = .binOp (eqOp neg) t x y ty) (hc : cmpEq P neg t x y = some (q, as)) (hok : Ok w S ρ β M) (hv : All2 (RepX w S ρ β M.H) vs (as.map a.eval)) (he : evO call M q vs = some (v, M')) :
    Outc w S ρ β M q v M' ((execOp a.eval o).run P w) := by
  unfold cmpEq at hc
  split at hc
  · rename_i hu
    simp only [Option.some.injEq, Prod.mk.injEq] at hc
    obtain ⟨rfl, rfl⟩ := hc
    obtain ⟨h, rfl⟩ := evO_p he
    exact snd_eqb ho hu hok hv h
  · split at hc
    · rename_i ks hf
      simp only [Option.some.injEq, Prod.mk.injEq] at hc
      obtain ⟨rfl, rfl⟩ := hc
      obtain ⟨h, rfl⟩ := evO_p he
      exact snd_eqs ho hf hok hv h
    · simp only [Option.bind_eq_some_iff] at hc
      obtain ⟨k, hk, hc⟩ := hc
      split at hc
      · rename_i hy
        simp only [Option.some.injEq, Prod.mk.injEq] at hc
        obtain ⟨rfl, rfl⟩ := hc
        obtain ⟨h, rfl⟩ := evO_p he
        exact snd_eqn ho hk (.inl ⟨hy, rfl⟩) hok hv h
      · split at hc
        · rename_i hx
          simp only [Option.some.injEq, Prod.mk.injEq] at hc
          obtain ⟨rfl, rfl⟩ := hc
          obtain ⟨h, rfl⟩ := evO_p he
          exact snd_eqn ho hk (.inr ⟨hx, rfl⟩) hok hv h
        · cases hc

theorem cmpBin_snd {b : BinOp} {t ty : TypeId} {x y : Operand} {q : O} {as : List Operand} (ho : o.op = .binOp b t x y ty) (hc : cmpBin P b t x y = some (q, as)) (hok : Ok w S ρ β M) (hv : All2 (RepX w S ρ β M.H) vs (as.map a.eval)) (he : evO call M q vs = some (v, M')) :
    Outc w S ρ β M q v M' ((execOp a.eval o).run P w) := by
  unfold cmpBin at hc
  split at hc
  · simp only [Option.some.injEq, Prod.mk.injEq] at hc
    obtain ⟨rfl, rfl⟩ := hc
    obtain ⟨h, rfl⟩ := evO_p he
    exact snd_bin ho hok hv h
  · simp only [Option.some.injEq, Prod.mk.injEq] at hc
    obtain ⟨rfl, rfl⟩ := hc
    obtain ⟨h, rfl⟩ := evO_p he
    exact snd_bin ho hok hv h
  · split at hc
    · exact cmpEq_snd (neg := false) ho hc hok hv he
    · exact cmpEq_snd (neg := true) ho hc hok hv he
    · cases hc

theorem slc_str {z : Nat} {lo hi' mx : Bool} {x : V} (h : pureX (.slc z lo hi' mx) (x :: vs) = some v) : isStr x = Nat.beq z 0 :=
  (eqB_eq (gd_some.1 (show gd (eqB (isStr x) (Nat.beq z 0)) _ = some v from h)).1).symm

theorem slc_snd {t : TypeId} {x : Operand} {lo hi' mx : Option Operand} {q : O} {as : List Operand} (ho : o.op = .slice t x lo hi' mx) (hc : cmpO P hi o.dst (.slice t x lo hi' mx) = some (q, as)) (hok : Ok w S ρ β M) (hv : All2 (RepX w S ρ β M.H) vs (as.map a.eval)) (he : evO call M q vs = some (v, M')) :
    Outc w S ρ β M q v M' ((execOp a.eval o).run P w) := by
  simp only [cmpO, Option.bind_eq_some_iff] at hc
  obtain ⟨u, hu, hc⟩ := hc
  split at hc
  · simp only [Option.some.injEq, Prod.mk.injEq] at hc
    obtain ⟨rfl, rfl⟩ := hc
    obtain ⟨h, rfl⟩ := evO_p he
    simp only [List.map_cons] at hv
    cases hv with | cons h1 t1 =>
    have hs : isStr _ = true := slc_str h
    obtain ⟨l, rfl⟩ := isStr_eq hs
    exact snd_slc_str ho hu hok h1 t1 h
  · simp only [Option.bind_eq_some_iff, gd_some, Option.some.injEq, Prod.mk.injEq, Nat.ble_eq] at hc
    obtain ⟨s, hs, h1s, rfl, rfl⟩ := hc
    obtain ⟨h, rfl⟩ := evO_p he
    simp only [List.map_cons] at hv
    cases hv with | cons h1 t1 =>
    obtain ⟨i, hi1, hi2⟩ := sizeT_some.1 hs
    have hq : Nat.beq s 0 = isStr _ := (slc_str h).symm
    refine snd_slc ho hu hi1 hi2 hok h1 (fun l hl => ?_) t1 h
    subst hl
    have : s = 0 := Nat.eq_of_beq_eq_true hq
    omega
  · simp only [Option.bind_eq_some_iff, Option.some.injEq, Prod.mk.injEq] at hc
    obtain ⟨s, hs, rfl, rfl⟩ := hc
    obtain ⟨h, rfl⟩ := evO_r he
    simp only [List.map_cons] at hv
    cases hv with | cons h1 t1 =>
    exact snd_slcA ho (.inl hu) hs hok h1 t1 h
  · rename_i at'
    split at hc
    · rename_i hu'
      simp only [Option.bind_eq_some_iff, Option.some.injEq, Prod.mk.injEq] at hc
      obtain ⟨s, hs, rfl, rfl⟩ := hc
      obtain ⟨h, rfl⟩ := evO_r he
      simp only [List.map_cons] at hv
      cases hv with | cons h1 t1 =>
      exact snd_slcA ho (.inr ⟨_, hu, hu'⟩) hs hok h1 t1 h
    · cases hc
  · cases hc


theorem call_snd {c : Go.Call} {q : O} {as : List Operand} {next : Act → World → Prop} {Q : Exit → Act → World → Prop} (ho : o.op = .call c) (hc : cmpO P hi o.dst (.call c) = some (q, as)) (hcall : CallOk P gl call) (hok : Ok w S ρ β M) (hG : GlOk gl w S)
    (hv : All2 (RepX w S ρ β M.H) vs (as.map a.eval)) (he : evO call M q vs = some (v, M')) (hn : ∀ w' S' ρ' β' x, Nxt w S ρ β M q v M' w' S' ρ' β' x → next (a.put o.dst x) w') : o.wp P a w next Q := by
  simp only [cmpO] at hc
  split at hc
  · rename_i f hcv
    split at hc
    · rename_i g
      simp only [Option.some.injEq, Prod.mk.injEq] at hc
      obtain ⟨rfl, rfl⟩ := hc
      exact snd_cal ho hcv hcall hok hG hv he hn
    · simp only [Option.some.injEq, Prod.mk.injEq] at hc
      obtain ⟨rfl, rfl⟩ := hc
      exact snd_cav ho hcv hcall hok hG hv he hn
  · cases hc
  · rename_i b hb
    simp only [Option.bind_eq_some_iff] at hc
    obtain ⟨t0, h0, u0, hu0, hc⟩ := hc
    split at hc
    · split at hc
      · obtain ⟨_, rfl, rfl⟩ := optO_eq hc
        obtain ⟨h, rfl⟩ := evO_p he
        exact (snd_len ho hb h0 hok hv h (fun _ => hu0) (fun e => by cases e)).wp hn
      · obtain ⟨_, rfl, rfl⟩ := optO_eq hc
        obtain ⟨h, rfl⟩ := evO_p he
        exact (snd_len ho hb h0 hok hv h (fun e => by cases e) (fun _ => ⟨_, hu0⟩)).wp hn
      · obtain ⟨_, rfl, rfl⟩ := optO_eq hc
        obtain ⟨h, rfl⟩ := evO_r he
        exact (snd_lenm ho hb h0 hu0 hok hv h).wp hn
      · cases hc
    · split at hc
      · simp only [Option.some.injEq, Prod.mk.injEq] at hc
        obtain ⟨rfl, rfl⟩ := hc
        obtain ⟨h, rfl⟩ := evO_p he
        exact (snd_mm (mx := false) ho hb hok hv h).wp hn
      · cases hc
    · split at hc
      · simp only [Option.some.injEq, Prod.mk.injEq] at hc
        obtain ⟨rfl, rfl⟩ := hc
        obtain ⟨h, rfl⟩ := evO_p he
        exact (snd_mm (mx := true) ho hb hok hv h).wp hn
      · cases hc
    · split at hc
      · rename_i e
        simp only [Option.bind_eq_some_iff, gd_some, Bool.and_eq_true, Nat.ble_eq, Nat.beq_eq] at hc
        obtain ⟨t1, h1, u1, hu1, zs, hz, s, hs, bt, hbt, ⟨⟨hs1, hb1⟩, _⟩, hc⟩ := hc
        split at hc
        · simp only [Option.some.injEq, Prod.mk.injEq] at hc
          obtain ⟨rfl, rfl⟩ := hc
          exact (snd_app ho hb h0 h1 hu0 hu1 (.inl ⟨_, rfl⟩) hz hs hbt hs1 hb1 hok hv he).wp hn
        · split at hc
          · simp only [Option.some.injEq, Prod.mk.injEq] at hc
            obtain ⟨rfl, rfl⟩ := hc
            exact (snd_app ho hb h0 h1 hu0 hu1 (.inr rfl) hz hs hbt hs1 hb1 hok hv he).wp hn
          · cases hc
        · cases hc
      · cases hc
    · split at hc
      · rename_i e
        simp only [Option.bind_eq_some_iff, gd_some, Bool.and_eq_true, Nat.ble_eq, Nat.beq_eq] at hc
        obtain ⟨s, hs, _, t1, h1, u1, hu1, hc⟩ := hc
        split at hc
        · simp only [Option.some.injEq, Prod.mk.injEq] at hc
          obtain ⟨rfl, rfl⟩ := hc
          exact (snd_cpy ho hb h0 hu0 hs hok hv he).wp hn
        · cases hc
      · cases hc
    · split at hc
      · rename_i kt0 e
        simp only [Option.bind_eq_some_iff, gd_some, Nat.beq_eq, Option.some.injEq, Prod.mk.injEq] at hc
        obtain ⟨kt, hkt, _, rfl, rfl⟩ := hc
        exact (snd_mdl ho hb h0 hu0 hkt hok hv he).wp hn
      · cases hc
    · split at hc
      · obtain ⟨_, rfl, rfl⟩ := optO_eq hc
        obtain ⟨h, rfl⟩ := evO_p he
        exact (snd_usd ho hb hok hv h).wp hn
      · cases hc
    · split at hc
      · rename_i e
        simp only [Option.bind_eq_some_iff] at hc
        obtain ⟨s, hs, hc⟩ := hc
        obtain ⟨hq, rfl, rfl⟩ := optO_eq hc
        simp only [Bool.and_eq_true, Nat.beq_eq] at hq
        obtain ⟨⟨_, hts⟩, rfl⟩ := hq
        exact (snd_ust ho hb h0 hts hu0 hs hok hv he).wp hn
      · cases hc
    · cases hc

theorem size_ne {s : Nat} (h : Nat.ble 1 s = true) : s ≠ 0 := by rw [Nat.ble_eq] at h; omega

theorem op_snd {q : O} {as : List Operand} {next : Act → World → Prop} {Q : Exit → Act → World → Prop} (hc : cmpO P hi o.dst o.op = some (q, as)) (hcall : CallOk P gl call) (hok : Ok w S ρ β M) (hG : GlOk gl w S)
    (hv : All2 (RepX w S ρ β M.H) vs (as.map a.eval)) (he : evO call M q vs = some (v, M')) (hn : ∀ w' S' ρ' β' x, Nxt w S ρ β M q v M' w' S' ρ' β' x → next (a.put o.dst x) w') : o.wp P a w next Q := by
  cases hop : o.op with
  | call c => rw [hop] at hc; exact call_snd hop hc hcall hok hG hv he hn
  | slice t x lo hi' mx => rw [hop] at hc; exact (slc_snd hop hc hok hv he).wp hn
  | binOp b t x y ty => rw [hop] at hc; exact (cmpBin_snd hop hc hok hv he).wp hn
  | move x =>
    simp only [hop, cmpO, Option.some.injEq, Prod.mk.injEq] at hc
    obtain ⟨rfl, rfl⟩ := hc
    obtain ⟨h, rfl⟩ := evO_p he
    exact (snd_mv (.inl hop) hok rfl hv h).wp hn
  | assign x =>
    simp only [hop, cmpO, Option.some.injEq, Prod.mk.injEq] at hc
    obtain ⟨rfl, rfl⟩ := hc
    obtain ⟨h, rfl⟩ := evO_p he
    exact (snd_mv (.inr hop) hok rfl hv h).wp hn
  | pick c x y =>
    simp only [hop, cmpO, Option.some.injEq, Prod.mk.injEq] at hc
    obtain ⟨rfl, rfl⟩ := hc
    obtain ⟨h, rfl⟩ := evO_p he
    exact (snd_pick hop hok hv h).wp hn
  | alloc t =>
    simp only [hop, cmpO, Option.bind_eq_some_iff] at hc
    obtain ⟨zs, hz, d, hd, hc⟩ := hc
    split at hc
    · simp only [Option.some.injEq, Prod.mk.injEq] at hc
      obtain ⟨rfl, rfl⟩ := hc
      exact (snd_alp hop hz hok he).wp hn
    · split at hc
      · simp only [Option.bind_eq_some_iff, Option.some.injEq, Prod.mk.injEq] at hc
        obtain ⟨s, hs, rfl, rfl⟩ := hc
        exact (snd_als hop hz hok he).wp hn
      · simp only [Option.bind_eq_some_iff, Option.some.injEq, Prod.mk.injEq] at hc
        obtain ⟨s, hs, rfl, rfl⟩ := hc
        exact (snd_als hop hz hok he).wp hn
  | box t x =>
    simp only [hop, cmpO, Option.bind_eq_some_iff] at hc
    obtain ⟨d, hd, hc⟩ := hc
    split at hc
    · simp only [Option.bind_eq_some_iff, Option.some.injEq, Prod.mk.injEq] at hc
      obtain ⟨s, hs, rfl, rfl⟩ := hc
      exact (snd_bxp hop hok hv he).wp hn
    · split at hc
      · simp only [Option.bind_eq_some_iff, Option.some.injEq, Prod.mk.injEq] at hc
        obtain ⟨s, hs, rfl, rfl⟩ := hc
        exact (snd_bxs hop hok hv he).wp hn
      · simp only [Option.bind_eq_some_iff, Option.some.injEq, Prod.mk.injEq] at hc
        obtain ⟨s, hs, rfl, rfl⟩ := hc
        exact (snd_bxs hop hok hv he).wp hn
  | build t ps =>
    simp only [hop, cmpO, Option.bind_eq_some_iff] at hc
    obtain ⟨zs, hz, u, hu, hc⟩ := hc
    split at hc
    · simp only [gd_some, Option.bind_eq_some_iff, Option.some.injEq, Prod.mk.injEq] at hc
      obtain ⟨hall, pl, hpl, rfl, rfl⟩ := hc
      obtain ⟨h, rfl⟩ := evO_p he
      exact (snd_build_struct hop hz hu hall hpl hok hv h).wp hn
    · simp only [Option.bind_eq_some_iff, Option.some.injEq, Prod.mk.injEq] at hc
      obtain ⟨s, hs, rfl, rfl⟩ := hc
      obtain ⟨h, rfl⟩ := evO_p he
      exact (snd_build_array hop hz hu hs hok hv h).wp hn
    · cases hc
  | buildSlice t n ps =>
    simp only [hop, cmpO, Option.bind_eq_some_iff] at hc
    obtain ⟨u, hu, hc⟩ := hc
    split at hc
    · simp only [Option.bind_eq_some_iff, gd_some, Bool.and_eq_true, Nat.ble_eq] at hc
      obtain ⟨s, hs, ⟨hl, h1⟩, zs, hz, d, hd, hc⟩ := hc
      split at hc
      · simp only [Option.some.injEq, Prod.mk.injEq] at hc
        obtain ⟨rfl, rfl⟩ := hc
        obtain ⟨h, rfl⟩ := evO_p he
        exact (snd_bsl hop hu hs hl h1 hz hok hv h).wp hn
      · simp only [Option.some.injEq, Prod.mk.injEq] at hc
        obtain ⟨rfl, rfl⟩ := hc
        exact (snd_bsf (call := call) hop hu hs hl h1 hz hok hv he).wp hn
      · simp only [Option.some.injEq, Prod.mk.injEq] at hc
        obtain ⟨rfl, rfl⟩ := hc
        exact (snd_bss (call := call) hop hu hs hl h1 hz hok hv he).wp hn
    · cases hc
  | load t x =>
    simp only [hop, cmpO, Option.bind_eq_some_iff, gd_some, Bool.or_eq_true, Nat.beq_eq, Option.some.injEq, Prod.mk.injEq] at hc
    obtain ⟨ag, hag, s, hs, h1, rfl, rfl⟩ := hc
    obtain ⟨h, rfl⟩ := evO_r he
    exact (snd_ld hop hag hs h1 hok hv h).wp hn
  | store t x y =>
    simp only [hop, cmpO] at hc
    split at hc
    · simp only [Option.bind_eq_some_iff, Option.some.injEq, Prod.mk.injEq] at hc
      obtain ⟨s, hs, rfl, rfl⟩ := hc
      exact (snd_st hop hs hok hv he).wp hn
    · cases hc
  | nilCheck x =>
    simp only [hop, cmpO, Option.some.injEq, Prod.mk.injEq] at hc
    obtain ⟨rfl, rfl⟩ := hc
    obtain ⟨h, rfl⟩ := evO_p he
    exact (snd_nck hop hok hv h).wp hn
  | unOp u t x =>
    simp only [hop, cmpO, Option.some.injEq, Prod.mk.injEq] at hc
    obtain ⟨rfl, rfl⟩ := hc
    obtain ⟨h, rfl⟩ := evO_p he
    exact (snd_un hop hok hv h).wp hn
  | convert src d x =>
    simp only [hop, cmpO, Option.bind_eq_some_iff] at hc
    obtain ⟨su, hsu, du, hdu, hc⟩ := hc
    split at hc
    · simp only [Option.some.injEq, Prod.mk.injEq] at hc
      obtain ⟨rfl, rfl⟩ := hc
      obtain ⟨h, rfl⟩ := evO_p he
      exact (snd_cv hop ⟨_, hsu⟩ hdu hok hv h).wp hn
    · simp only [Option.some.injEq, Prod.mk.injEq] at hc
      obtain ⟨rfl, rfl⟩ := hc
      obtain ⟨h, rfl⟩ := evO_p he
      exact (snd_cvs hop hsu hdu hok hv h).wp hn
    · split at hc
      · simp only [Option.some.injEq, Prod.mk.injEq] at hc
        obtain ⟨rfl, rfl⟩ := hc
        obtain ⟨h, rfl⟩ := evO_p he
        exact (snd_s2b hop hsu hdu (by assumption) hok hv h).wp hn
      · cases hc
    · split at hc
      · simp only [Option.some.injEq, Prod.mk.injEq] at hc
        obtain ⟨rfl, rfl⟩ := hc
        obtain ⟨h, rfl⟩ := evO_r he
        exact (snd_b2s hop hsu (by assumption) hdu hok hv h).wp hn
      · cases hc
    · cases hc
  | makeFunc fn first cap =>
    simp only [hop, cmpO] at hc
    split at hc
    · split at hc
      · simp only [Option.some.injEq, Prod.mk.injEq] at hc
        obtain ⟨rfl, rfl⟩ := hc
        obtain ⟨h, rfl⟩ := evO_p he
        exact (snd_mkf hop (Array.eq_empty_of_size_eq_zero (by assumption)) hok hv h).wp hn
      · cases hc
    · cases hc
  | makeMap t r =>
    simp only [hop, cmpO, Option.bind_eq_some_iff] at hc
    obtain ⟨u, hu, hc⟩ := hc
    split at hc
    · simp only [Option.some.injEq, Prod.mk.injEq] at hc
      obtain ⟨rfl, rfl⟩ := hc
      exact (snd_mkm hop hu hok hv he).wp hn
    · cases hc
  | makeSlice t n c =>
    simp only [hop, cmpO, Option.bind_eq_some_iff] at hc
    obtain ⟨u, hu, hc⟩ := hc
    split at hc
    · simp only [Option.bind_eq_some_iff, Option.some.injEq, Prod.mk.injEq] at hc
      obtain ⟨zs, hz, s, hs, b, hb, rfl, rfl⟩ := hc
      exact (snd_mks hop hu hz hs hb hok hv he).wp hn
    · cases hc
  | fieldAddr t x f =>
    simp only [hop, cmpO, Option.bind_eq_some_iff] at hc
    obtain ⟨u, hu, hc⟩ := hc
    split at hc
    · simp only [Option.bind_eq_some_iff, gd_some, Option.some.injEq, Prod.mk.injEq] at hc
      obtain ⟨fl, hf, s, hs, h1, rfl, rfl⟩ := hc
      obtain ⟨i, hi1, rfl⟩ := sizeT_some.1 hs
      obtain ⟨h, rfl⟩ := evO_p he
      exact (snd_fad hop hu hf hi1 (size_ne h1) hok hv h).wp hn
    · cases hc
  | field t x f =>
    simp only [hop, cmpO, Option.bind_eq_some_iff] at hc
    obtain ⟨u, hu, hc⟩ := hc
    split at hc
    · simp only [Option.bind_eq_some_iff, gd_some, Option.some.injEq, Prod.mk.injEq, Bool.or_eq_true, Nat.beq_eq] at hc
      obtain ⟨fl, hf, s, hs, ag, hag, h1, rfl, rfl⟩ := hc
      obtain ⟨i, hi1, rfl⟩ := sizeT_some.1 hs
      obtain ⟨h, rfl⟩ := evO_p he
      exact (snd_fld hop hu hf hi1 hag h1 hok hv h).wp hn
    · cases hc
  | indexAddr t x y =>
    simp only [hop, cmpO, Option.bind_eq_some_iff] at hc
    obtain ⟨u, hu, hc⟩ := hc
    split at hc
    · simp only [Option.bind_eq_some_iff, Option.some.injEq, Prod.mk.injEq] at hc
      obtain ⟨s, hs, rfl, rfl⟩ := hc
      obtain ⟨i, hi1, rfl⟩ := sizeT_some.1 hs
      obtain ⟨h, rfl⟩ := evO_p he
      exact (snd_ixa hop hu hi1 hok hv h).wp hn
    · simp only [Option.bind_eq_some_iff, Option.some.injEq, Prod.mk.injEq] at hc
      obtain ⟨s, hs, rfl, rfl⟩ := hc
      obtain ⟨i, hi1, rfl⟩ := sizeT_some.1 hs
      obtain ⟨h, rfl⟩ := evO_p he
      exact (snd_ixaA hop hu hi1 hok hv h).wp hn
    · cases hc
  | index t x y =>
    simp only [hop, cmpO, Option.bind_eq_some_iff] at hc
    obtain ⟨u, hu, hc⟩ := hc
    split at hc
    · simp only [Option.some.injEq, Prod.mk.injEq] at hc
      obtain ⟨rfl, rfl⟩ := hc
      obtain ⟨h, rfl⟩ := evO_p he
      exact (snd_ixs hop hu hok hv h).wp hn
    · simp only [Option.bind_eq_some_iff, gd_some, Option.some.injEq, Prod.mk.injEq, Bool.or_eq_true, Nat.beq_eq] at hc
      obtain ⟨s, hs, ag, hag, h1, rfl, rfl⟩ := hc
      obtain ⟨i, hi1, rfl⟩ := sizeT_some.1 hs
      obtain ⟨h, rfl⟩ := evO_p he
      exact (snd_ixv hop hu hi1 hag h1 hok hv h).wp hn
    · cases hc
  | lookup t x y ok =>
    simp only [hop, cmpO, Option.bind_eq_some_iff] at hc
    obtain ⟨u, hu, hc⟩ := hc
    split at hc
    · simp only [Option.bind_eq_some_iff, gd_some, Option.some.injEq, Prod.mk.injEq] at hc
      obtain ⟨zs, hz, ag, hag, hg, kt, hkt, rfl, rfl⟩ := hc
      obtain ⟨h, rfl⟩ := evO_r he
      exact (snd_lkp hop hu hz hg hkt hok hv h).wp hn
    · cases hc
  | mapUpdate t m k x =>
    simp only [hop, cmpO] at hc
    split at hc
    · simp only [Option.bind_eq_some_iff] at hc
      obtain ⟨u, hu, hc⟩ := hc
      split at hc
      · simp only [Option.bind_eq_some_iff, Option.some.injEq, Prod.mk.injEq] at hc
        obtain ⟨kt, hkt, rfl, rfl⟩ := hc
        exact (snd_mup (.inl hop) hu hkt hok hv he).wp hn
      · cases hc
    · cases hc
  | insert t m k x =>
    simp only [hop, cmpO] at hc
    split at hc
    · simp only [Option.bind_eq_some_iff] at hc
      obtain ⟨u, hu, hc⟩ := hc
      split at hc
      · simp only [Option.bind_eq_some_iff, Option.some.injEq, Prod.mk.injEq] at hc
        obtain ⟨kt, hkt, rfl, rfl⟩ := hc
        exact (snd_mup (.inr hop) hu hkt hok hv he).wp hn
      · cases hc
    · cases hc
  | extract x j =>
    simp only [hop, cmpO, Option.some.injEq, Prod.mk.injEq] at hc
    obtain ⟨rfl, rfl⟩ := hc
    obtain ⟨h, rfl⟩ := evO_p he
    exact (snd_ext hop hok hv h).wp hn
  | _ => simp [hop, cmpO] at hc

end
end Go.Mx
