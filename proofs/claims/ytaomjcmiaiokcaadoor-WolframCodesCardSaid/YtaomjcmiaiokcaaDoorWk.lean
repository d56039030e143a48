/- Walking the machine, first order: what follows is kept as data, so that simp looks at the state alone. Nothing here speaks of a program. -/
import Derived.Test.YtaomjcmiaiokcaaDoorWp
namespace Go.Mx

/-- What follows a piece of code. -/
inductive K where
  | fin (rs : List Res) (Q : V → Hp → Prop)
  | pur (rs : List Res) (H : Hp) (Q : V → Hp → Prop)
  | st (Q : Ex → St → Prop)
  | seq (b : C) (k : K)
  | blk (id : Nat) (k : K)

def K.sem (G : Cfg) : K → Ex → St → Prop
  | .fin rs Q => Mx.fin rs Q
  | .pur rs H Q => Mx.fin rs fun v H' => OptP (viewR H' v) fun r => Q r H
  | .st Q => Q
  | .seq b k => thn (fun s => Runs G b s (k.sem G)) (k.sem G)
  | .blk id k => inB id (k.sem G)

/-- A piece of code from a state, and what follows. -/
def Run (G : Cfg) (c : C) (s : St) (k : K) : Prop := Runs G c s (k.sem G)
/-- What follows an end. -/
def At' (G : Cfg) (e : Ex) (s : St) (k : K) : Prop := k.sem G e s
/-- The rest of a region, and what follows. -/
def Rest (G : Cfg) (s : Option St) (ops : List Op) (k : K) : Prop := OptP s fun s => RunOps G ops s fun s' => k.sem G .nm { s' with L := [] }
/-- A test, and what follows. -/
def Test (G : Cfg) (t : Option Bool) (a b : C) (s : St) (k : K) : Prop := OptP t fun t => if t then Runs G a s (k.sem G) else Runs G b s (k.sem G)
/-- A call, the rest of its region, and what follows. -/
def CallK (G : Cfg) (f : Nat) (vs : Option (List V)) (s : St) (d : Dst) (r : List Op) (k : K) : Prop :=
  OptP vs fun vs => Ret G f vs s.M.H fun v H' => Rest G (setD { s with M := { s.M with H := H' } } d v) r k

/-- An operation that is no call, as a step; where it is guarded, as the guard says. -/
def stepP (s : St) (o : OP) (as : List Opnd) (d : Dst) : Option St := (optMap (evA s) as).bind fun vs => (pureX o vs).bind fun v => setD s d v
def stepR (s : St) (o : OR) (as : List Opnd) (d : Dst) : Option St := (optMap (evA s) as).bind fun vs => (readX s.M o vs).bind fun v => setD s d v
def stepL (s : St) (o : OL) (as : List Opnd) (d : Dst) : Option St := gd (fresh s (.l o)) ((optMap (evA s) as).bind fun vs => (loudX (fun _ _ _ => none) s.M o vs).bind fun p => setD { s with M := p.2 } d p.1)
def pickS (q : Option Bool) (a b : Option St) : Option St := q.bind fun q => match q with
  | true => a
  | false => b

section
variable {G : Cfg}

theorem at_seq_nm (s : St) (b : C) (k : K) : At' G .nm s (.seq b k) = Run G b s k := rfl
theorem at_seq_ex (s : St) (b : C) (k : K) (j : Nat) : At' G (.ex j) s (.seq b k) = At' G (.ex j) s k := rfl
theorem at_seq_ret (s : St) (b : C) (k : K) : At' G .ret s (.seq b k) = At' G .ret s k := rfl
theorem at_blk_nm (s : St) (id : Nat) (k : K) : At' G .nm s (.blk id k) = At' G .nm s k := rfl
theorem at_blk_ret (s : St) (id : Nat) (k : K) : At' G .ret s (.blk id k) = At' G .ret s k := rfl
theorem at_blk_ex (s : St) (id : Nat) (k : K) (j : Nat) : At' G (.ex j) s (.blk id k) = if j = id then At' G .nm s k else At' G (.ex j) s k := inB_ex id _ s j
theorem at_st (e : Ex) (s : St) (Q : Ex → St → Prop) : At' G e s (.st Q) = Q e s := rfl
theorem at_fin_nm (s : St) (rs : List Res) (Q : V → Hp → Prop) : At' G .nm s (.fin rs Q) = OptP (resOf s rs) fun v => Q v s.M.H := rfl
theorem at_fin_ret (s : St) (rs : List Res) (Q : V → Hp → Prop) : At' G .ret s (.fin rs Q) = OptP (resOf s rs) fun v => Q v s.M.H := rfl
theorem at_pur_nm (s : St) (rs : List Res) (H : Hp) (Q : V → Hp → Prop) : At' G .nm s (.pur rs H Q) = OptP ((resOf s rs).bind (viewR s.M.H)) fun r => Q r H := by
  rw [optP_bind]; rfl
theorem at_pur_ret (s : St) (rs : List Res) (H : Hp) (Q : V → Hp → Prop) : At' G .ret s (.pur rs H Q) = OptP ((resOf s rs).bind (viewR s.M.H)) fun r => Q r H := by
  rw [optP_bind]; rfl

theorem run_skip' (s : St) (k : K) : Run G .skip s k = At' G .nm s k := runs_skip s _
theorem run_ex' (id : Nat) (s : St) (k : K) : Run G (.ex id) s k = At' G (.ex id) s k := runs_ex id s _
theorem run_ret' (s : St) (k : K) : Run G .ret s k = At' G .ret s k := runs_ret s _
theorem run_seq' (hG : MonoP G) (a b : C) (s : St) (k : K) : Run G (.seq a b) s k = Run G a s (.seq b k) := runs_seq hG a b s _
theorem run_blk' (id : Nat) (c : C) (s : St) (k : K) : Run G (.blk id c) s k = Run G c s (.blk id k) := runs_blk id c s _
theorem run_reg' (ops : List Op) (s : St) (k : K) : Run G (.reg ops) s k = Rest G (some s) ops k := by
  unfold Run Rest
  rw [optP_some]
  exact runs_reg ops s _
theorem run_ite' (o : Opnd) (a b : C) (s : St) (k : K) : Run G (.ite o a b) s k = Test G ((evA s o).bind asB) a b s k := runs_ite o a b s _
theorem run_loop' (hG : MonoP G) (dr : List Nat) (c : C) (s : St) (k : K) : Run G (.loop dr c) s k = Run G c { s with E := dropE dr s.E } (.seq (.loop dr c) k) := runs_loop hG dr c s _

theorem test_true (a b : C) (s : St) (k : K) : Test G (some true) a b s k = Run G a s k := by simp [Test, optP_some, Run]
theorem test_false (a b : C) (s : St) (k : K) : Test G (some false) a b s k = Run G b s k := by simp [Test, optP_some, Run]
theorem test_if (t : Bool) (a b : C) (s : St) (k : K) : Test G (some t) a b s k = if t then Run G a s k else Run G b s k := by simp [Test, optP_some, Run]

theorem rest_nil (s : St) (k : K) : Rest G (some s) [] k = At' G .nm { s with L := [] } k := by
  simp only [Rest, optP_some, ops_nil]
  rfl
theorem rest_none (ops : List Op) (k : K) : Rest G none ops k = False := by simp [Rest, OptP]
theorem rest_gd (b : Bool) (s : Option St) (ops : List Op) (k : K) : Rest G (gd b s) ops k = (b = true ∧ Rest G s ops k) := optP_gd b s _
theorem rest_p (hG : MonoP G) (d : Dst) (o : OP) (as : List Opnd) (s : St) (r : List Op) (k : K) : Rest G (some s) (⟨d, .p o, as, none⟩ :: r) k = Rest G (stepP s o as d) r k := by
  simp only [Rest, optP_some, ops_cons hG, op_pure, stepP, optP_bind]
theorem rest_r (hG : MonoP G) (d : Dst) (o : OR) (as : List Opnd) (s : St) (r : List Op) (k : K) : Rest G (some s) (⟨d, .r o, as, none⟩ :: r) k = Rest G (stepR s o as d) r k := by
  simp only [Rest, optP_some, ops_cons hG, op_read, stepR, optP_bind]
theorem rest_call (hG : MonoP G) (d : Dst) (f : Nat) (as : List Opnd) (s : St) (r : List Op) (k : K) : Rest G (some s) (⟨d, .l (.cal f), as, none⟩ :: r) k = CallK G f (optMap (evA s) as) s d r k := by
  simp only [Rest, optP_some, ops_cons hG, op_call, CallK]
theorem rest_guard (hG : MonoP G) (d : Dst) (o : O) (as : List Opnd) (g : Opnd) (want : Bool) (s : St) (r : List Op) (k : K) :
    Rest G (some s) (⟨d, o, as, some (g, want)⟩ :: r) k = OptP (wantsD s (some (g, want))) fun q => if q then Rest G (some s) (⟨d, o, as, none⟩ :: r) k else Rest G (setD s d .un) r k := by
  simp only [Rest, optP_some, ops_cons hG, op_guard]
theorem rest_guard_p (hG : MonoP G) (d : Dst) (o : OP) (as : List Opnd) (g : Opnd) (want : Bool) (s : St) (r : List Op) (k : K) :
    Rest G (some s) (⟨d, .p o, as, some (g, want)⟩ :: r) k = Rest G (pickS (wantsD s (some (g, want))) (stepP s o as d) (setD s d .un)) r k := by
  rw [rest_guard hG]
  cases hq : wantsD s (some (g, want)) with
  | none => simp [OptP, pickS, Rest]
  | some q => cases q <;> simp [optP_some, pickS, rest_p hG]
theorem rest_guard_r (hG : MonoP G) (d : Dst) (o : OR) (as : List Opnd) (g : Opnd) (want : Bool) (s : St) (r : List Op) (k : K) :
    Rest G (some s) (⟨d, .r o, as, some (g, want)⟩ :: r) k = Rest G (pickS (wantsD s (some (g, want))) (stepR s o as d) (setD s d .un)) r k := by
  rw [rest_guard hG]
  cases hq : wantsD s (some (g, want)) with
  | none => simp [OptP, pickS, Rest]
  | some q => cases q <;> simp [optP_some, pickS, rest_r hG]
/-- A guarded call. -/
def GCall (G : Cfg) (q : Option Bool) (f : Nat) (as : List Opnd) (s : St) (d : Dst) (r : List Op) (k : K) : Prop := OptP q fun q => if q then CallK G f (optMap (evA s) as) s d r k else Rest G (setD s d .un) r k
theorem rest_guard_call (hG : MonoP G) (d : Dst) (f : Nat) (as : List Opnd) (g : Opnd) (want : Bool) (s : St) (r : List Op) (k : K) :
    Rest G (some s) (⟨d, .l (.cal f), as, some (g, want)⟩ :: r) k = GCall G (wantsD s (some (g, want))) f as s d r k := by
  rw [rest_guard hG]
  simp only [GCall, rest_call hG]
theorem gcall_true (f : Nat) (as : List Opnd) (s : St) (d : Dst) (r : List Op) (k : K) : GCall G (some true) f as s d r k = CallK G f (optMap (evA s) as) s d r k := by simp [GCall, optP_some]
theorem gcall_false (f : Nat) (as : List Opnd) (s : St) (d : Dst) (r : List Op) (k : K) : GCall G (some false) f as s d r k = Rest G (setD s d .un) r k := by simp [GCall, optP_some]

theorem callK_some (f : Nat) (vs : List V) (s : St) (d : Dst) (r : List Op) (k : K) : CallK G f (some vs) s d r k = Ret G f vs s.M.H fun v H' => Rest G (setD { s with M := { s.M with H := H' } } d v) r k := by simp [CallK, optP_some]
theorem callK_of (hG : MonoP G) {f : Nat} {vs : List V} {s : St} {d : Dst} {r : List Op} {k : K} {v : V} {H' : Hp} (h : Gives G f vs s.M.H v H') : CallK G f (some vs) s d r k = Rest G (setD { s with M := { s.M with H := H' } } d v) r k := by
  rw [callK_some, ret_of hG h]

theorem loud_step (hG : MonoP G) (d : Dst) (o : OL) (as : List Opnd) (s : St) (r : List Op) (k : K) (hc : ∀ call vs, loudX call s.M o vs = loudX (fun _ _ _ => none) s.M o vs) : Rest G (some s) (⟨d, .l o, as, none⟩ :: r) k = Rest G (stepL s o as d) r k := by
  simp only [Rest, optP_some, ops_cons hG, stepL, optP_gd, optP_bind]
  apply propext
  simp only [RunOp, evOp, wantsD, Option.bind_some, evO, hc, OptP]
  constructor
  · rintro ⟨n, s', h, hq⟩
    rw [gd_eq] at h
    obtain ⟨hf, h⟩ := h
    simp only [Option.bind_eq_some_iff] at h
    obtain ⟨vs, h1, p, h2, h3⟩ := h
    exact ⟨hf, vs, h1, p, h2, s', h3, hq⟩
  · rintro ⟨hf, vs, h1, p, h2, s', h3, hq⟩
    refine ⟨0, s', ?_, hq⟩
    rw [gd_eq]
    simp only [Option.bind_eq_some_iff]
    exact ⟨hf, vs, h1, p, h2, h3⟩
where gd_eq {α : Type} {b : Bool} {x : Option α} {y : α} : (gd b x = some y) = (b = true ∧ x = some y) := by cases b <;> simp [gd]

theorem loud_any {M : Mem} {o : OL} (h1 : ∀ f, o ≠ .cal f) (h2 : o ≠ .cav) (c d : Call) (vs : List V) : loudX c M o vs = loudX d M o vs := by
  cases o with
  | cal f => exact absurd rfl (h1 f)
  | cav => exact absurd rfl h2
  | _ =>
    match vs with
    | [] => rfl
    | [_] => rfl
    | [_, _] => rfl
    | [_, _, _] => rfl
    | _ :: _ :: _ :: _ :: _ => rfl

/-- A pure function. -/
theorem ret_pur {f np : Nat} {rs : List Res} {c : C} {vs : List V} {is : List I} {H : Hp} {Q : V → Hp → Prop} (hp : G.prim f = none) (hf : G.fn f = some ⟨np, rs, c⟩) (hs : G.sh f = false) (hv : allM vs = some is) (hl : vs.length = np)
    (h : Run G c ⟨envOf 0 vs, [], ⟨[], []⟩⟩ (.pur rs H Q)) : Ret G f vs H Q := ret_pure hp hf hs hv hl h
theorem gives_pur {f np : Nat} {rs : List Res} {c : C} {vs : List V} {is : List I} {H : Hp} {v : V} (hp : G.prim f = none) (hf : G.fn f = some ⟨np, rs, c⟩) (hs : G.sh f = false) (hv : allM vs = some is) (hl : vs.length = np)
    (h : Run G c ⟨envOf 0 vs, [], ⟨[], []⟩⟩ (.pur rs H fun v' _ => v' = v)) : Gives G f vs H v H := by
  refine .of_ret (ret_pure hp hf hs hv hl (h.mono fun e s hq => ?_))
  cases e with
  | ex j => exact hq
  | nm =>
    obtain ⟨x, h1, r, h2, h3⟩ := hq
    exact ⟨x, h1, r, h2, h3, rfl⟩
  | ret =>
    obtain ⟨x, h1, r, h2, h3⟩ := hq
    exact ⟨x, h1, r, h2, h3, rfl⟩
theorem ret_sh (hG : MonoP G) {f np : Nat} {rs : List Res} {c : C} {vs : List V} {H : Hp} {Q : V → Hp → Prop} (hp : G.prim f = none) (hf : G.fn f = some ⟨np, rs, c⟩) (hs : G.sh f = true) (hv : vs.all noFaV = true) (hl : vs.length = np)
    (h : Run G c ⟨envOf 0 vs, [], ⟨[], H⟩⟩ (.fin rs Q)) : Ret G f vs H Q := ret_shared hG hp hf hs hv hl h
end
end Go.Mx
