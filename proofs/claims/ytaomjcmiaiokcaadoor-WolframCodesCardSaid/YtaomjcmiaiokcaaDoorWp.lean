/- Walking the machine: what a piece of code comes to, whatever the fuel. Nothing here speaks of a program. -/
import Derived.Test.YtaomjcmiaiokcaaDoorMach
namespace Go.Mx

/- More fuel gives the same. -/
def LeC (c d : Call) : Prop := ∀ f vs H r, c f vs H = some r → d f vs H = some r

theorem bind_mono {α β : Type} {x y : Option α} {f g : α → Option β} {r : β} (hx : ∀ a, x = some a → y = some a) (hf : ∀ a r, f a = some r → g a = some r) (h : x.bind f = some r) : y.bind g = some r := by
  simp only [Option.bind_eq_some_iff] at h ⊢
  obtain ⟨a, h1, h2⟩ := h
  exact ⟨a, hx a h1, hf a r h2⟩

theorem evO_mono {c d : Call} (h : LeC c d) {M : Mem} {o : O} {vs : List V} {r : V × Mem} (he : evO c M o vs = some r) : evO d M o vs = some r := by
  cases o with
  | p o => exact he
  | r o => exact he
  | l o =>
    simp only [evO] at he ⊢
    cases o with
    | cal f =>
      simp only [loudX] at he ⊢
      exact bind_mono (fun a => h f vs M.H a) (fun _ _ h => h) he
    | cav =>
      match vs, he with
      | .fn f cap :: xs, he => simp only [loudX] at he ⊢; exact bind_mono (fun a => h f _ M.H a) (fun _ _ h => h) he
      | .m (.fn f cap) :: xs, he => simp only [loudX] at he ⊢; exact bind_mono (fun a => h f _ M.H a) (fun _ _ h => h) he
      | .m (.b _) :: xs, he => simp [loudX] at he
      | .m (.i _ _) :: xs, he => simp [loudX] at he
      | .m (.s _) :: xs, he => simp [loudX] at he
      | .m (.nl _) :: xs, he => simp [loudX] at he
      | .m .er :: xs, he => simp [loudX] at he
      | .m (.sl _) :: xs, he => simp [loudX] at he
      | .m (.pt _) :: xs, he => simp [loudX] at he
      | .m (.ag _) :: xs, he => simp [loudX] at he
      | .m (.mp _) :: xs, he => simp [loudX] at he
      | .un :: xs, he => simp [loudX] at he
      | .ls _ :: xs, he => simp [loudX] at he
      | .sl .. :: xs, he => simp [loudX] at he
      | .pt .. :: xs, he => simp [loudX] at he
      | .fa .. :: xs, he => simp [loudX] at he
      | .mp _ :: xs, he => simp [loudX] at he
      | .ag _ :: xs, he => simp [loudX] at he
      | .tu _ :: xs, he => simp [loudX] at he
      | [], he => simp [loudX] at he
    | _ =>
      match vs, he with
      | [], he => exact he
      | [_], he => exact he
      | [_, _], he => exact he
      | [_, _, _], he => exact he
      | _ :: _ :: _ :: _ :: _, he => exact he

theorem evOp_mono {c d : Call} (h : LeC c d) {s s' : St} {o : Op} (he : evOp c s o = some s') : evOp d s o = some s' := by
  simp only [evOp, Option.bind_eq_some_iff] at he ⊢
  obtain ⟨q, hq, he⟩ := he
  refine ⟨q, hq, ?_⟩
  cases q with
  | true =>
    simp only at he ⊢
    cases hf : fresh s o.op with
    | false => rw [hf] at he; simp [gd] at he
    | true =>
      rw [hf] at he
      simp only [gd, Option.bind_eq_some_iff] at he ⊢
      obtain ⟨vs, hvs, p, hp, hs⟩ := he
      exact ⟨vs, hvs, p, evO_mono h hp, hs⟩
  | false => exact he

theorem evOps_mono {c d : Call} (h : LeC c d) : ∀ {ops : List Op} {s s' : St}, evOps c ops s = some s' → evOps d ops s = some s'
  | [], _, _, he => he
  | o :: r, s, s', he => by
    simp only [evOps] at he ⊢
    exact bind_mono (fun a => evOp_mono h) (fun a r => evOps_mono h) he

theorem loopN_mono {f g : St → Option (Ex × St)} (h : ∀ s r, f s = some r → g s = some r) : ∀ {n m : Nat} {s : St} {r : Ex × St}, n ≤ m → loopN f n s = some r → loopN g m s = some r
  | 0, m, s, r, _, he => by simp [loopN] at he
  | n + 1, 0, s, r, hn, _ => by omega
  | n + 1, m + 1, s, r, hn, he => by
    simp only [loopN] at he ⊢
    refine bind_mono (fun a => h s a) (fun a r ha => ?_) he
    obtain ⟨e, t⟩ := a
    cases e with
    | nm => exact loopN_mono h (by omega) ha
    | _ => exact ha

theorem evC_mono {c d : Call} (h : LeC c d) {n m : Nat} (hn : n ≤ m) : ∀ {k : C} {s : St} {r : Ex × St}, evC c n k s = some r → evC d m k s = some r := by
  intro k
  induction k with
  | skip => exact fun h => h
  | reg ops =>
    intro s r he
    simp only [evC] at he ⊢
    exact bind_mono (fun a => evOps_mono h) (fun _ _ h => h) he
  | seq a b iha ihb =>
    intro s r he
    simp only [evC] at he ⊢
    refine bind_mono (fun x => iha) (fun x r hx => ?_) he
    obtain ⟨e, t⟩ := x
    cases e with
    | nm => exact ihb hx
    | _ => exact hx
  | ite c a b iha ihb =>
    intro s r he
    simp only [evC] at he ⊢
    refine bind_mono (fun _ h => h) (fun x r hx => ?_) he
    split at hx
    · exact iha hx
    · exact ihb hx
    · cases hx
  | blk id c ih =>
    intro s r he
    simp only [evC] at he ⊢
    exact bind_mono (fun x => ih) (fun _ _ h => h) he
  | loop dr c ih =>
    intro s r he
    simp only [evC] at he ⊢
    exact loopN_mono (fun t r => ih) hn he
  | ex id => exact fun h => h
  | ret => exact fun h => h

theorem evF_mono {c d : Call} (h : LeC c d) {n m : Nat} (hn : n ≤ m) {f : F} {vs : List V} {H : Hp} {r : V × Hp} (he : evF c n f vs H = some r) : evF d m f vs H = some r := by
  unfold evF at he ⊢
  cases hg : (vs.all noFaV && Nat.beq vs.length f.np) with
  | false => rw [hg] at he; simp [gd] at he
  | true =>
    rw [hg] at he
    exact bind_mono (fun a => evC_mono h hn) (fun _ _ h => h) he

theorem callP_mono {c d : Call} (h : LeC c d) {n m : Nat} (hn : n ≤ m) {f : F} {vs : List V} {H : Hp} {r : V × Hp} (he : callP c n f vs H = some r) : callP d m f vs H = some r := by
  unfold callP at he ⊢
  exact bind_mono (fun _ h => h) (fun a r => bind_mono (fun b => evF_mono h hn) (fun _ _ h => h)) he

/-- Primitives give the same with more. -/
def MonoP (G : Cfg) : Prop := ∀ f p, G.prim f = some p → ∀ c d, LeC c d → ∀ vs H r, p c vs H = some r → p d vs H = some r

theorem callM_mono {G : Cfg} (hG : MonoP G) : ∀ {n m : Nat}, n ≤ m → LeC (callM G n) (callM G m)
  | 0, _, _, f, vs, H, r, h => by simp [callM] at h
  | n + 1, 0, hn, _, _, _, _, _ => by omega
  | n + 1, m + 1, hn, f, vs, H, r, h => by
    have ih := callM_mono hG (n := n) (m := m) (by omega)
    unfold callM at h ⊢
    split at h
    · rename_i p hp
      exact hG f p hp _ _ ih vs H r h
    · refine bind_mono (fun _ h => h) (fun fn r hf => ?_) h
      split at hf
      · exact evF_mono ih (by omega) hf
      · exact callP_mono ih (by omega) hf

/- Running, whatever the fuel. -/
def OptP {α : Type} (x : Option α) (p : α → Prop) : Prop := ∃ a, x = some a ∧ p a

theorem optP_some {α : Type} (a : α) (p : α → Prop) : OptP (some a) p = p a := by simp [OptP]
theorem optP_gd {α : Type} (b : Bool) (x : Option α) (p : α → Prop) : OptP (gd b x) p = (b = true ∧ OptP x p) := by cases b <;> simp [OptP, gd]
theorem optP_bind {α β : Type} (x : Option α) (f : α → Option β) (p : β → Prop) : OptP (x.bind f) p = OptP x fun a => OptP (f a) p := by
  apply propext
  simp only [OptP, Option.bind_eq_some_iff]
  constructor
  · rintro ⟨b, ⟨a, h1, h2⟩, h3⟩
    exact ⟨a, h1, b, h2, h3⟩
  · rintro ⟨a, h1, b, h2, h3⟩
    exact ⟨b, ⟨a, h1, h2⟩, h3⟩

def Runs (G : Cfg) (c : C) (s : St) (Q : Ex → St → Prop) : Prop := ∃ n e s', evC (callM G n) n c s = some (e, s') ∧ Q e s'
def RunOps (G : Cfg) (ops : List Op) (s : St) (Q : St → Prop) : Prop := ∃ n s', evOps (callM G n) ops s = some s' ∧ Q s'
def RunOp (G : Cfg) (o : Op) (s : St) (Q : St → Prop) : Prop := ∃ n s', evOp (callM G n) s o = some s' ∧ Q s'
def Ret (G : Cfg) (f : Nat) (vs : List V) (H : Hp) (Q : V → Hp → Prop) : Prop := ∃ n v H', callM G n f vs H = some (v, H') ∧ Q v H'
/-- A call gives this. -/
def Gives (G : Cfg) (f : Nat) (vs : List V) (H : Hp) (v : V) (H' : Hp) : Prop := ∃ n, callM G n f vs H = some (v, H')

/-- On with what follows, where the end is a normal one. -/
def thn (A : St → Prop) (Q : Ex → St → Prop) : Ex → St → Prop
  | .nm, s => A s
  | e, s => Q e s

def inB (id : Nat) (Q : Ex → St → Prop) : Ex → St → Prop
  | .ex j, s => (j = id → Q .nm s) ∧ (j ≠ id → Q (.ex j) s)
  | e, s => Q e s

theorem thn_nm (A : St → Prop) (Q : Ex → St → Prop) (s : St) : thn A Q .nm s = A s := rfl
theorem thn_ex (A : St → Prop) (Q : Ex → St → Prop) (s : St) (j : Nat) : thn A Q (.ex j) s = Q (.ex j) s := rfl
theorem thn_ret (A : St → Prop) (Q : Ex → St → Prop) (s : St) : thn A Q .ret s = Q .ret s := rfl
theorem inB_nm (id : Nat) (Q : Ex → St → Prop) (s : St) : inB id Q .nm s = Q .nm s := rfl
theorem inB_ret (id : Nat) (Q : Ex → St → Prop) (s : St) : inB id Q .ret s = Q .ret s := rfl
theorem inB_ex (id : Nat) (Q : Ex → St → Prop) (s : St) (j : Nat) : inB id Q (.ex j) s = if j = id then Q .nm s else Q (.ex j) s := by
  apply propext
  by_cases h : j = id <;> simp [inB, h]

section
variable {G : Cfg}

theorem Runs.mono {c : C} {s : St} {Q Q' : Ex → St → Prop} (h : Runs G c s Q) (hq : ∀ e s, Q e s → Q' e s) : Runs G c s Q' := by
  obtain ⟨n, e, s', h1, h2⟩ := h
  exact ⟨n, e, s', h1, hq e s' h2⟩

theorem runs_skip (s : St) (Q : Ex → St → Prop) : Runs G .skip s Q = Q .nm s := by
  apply propext
  simp only [Runs, evC, Option.some.injEq, Prod.mk.injEq]
  constructor
  · rintro ⟨_, _, _, ⟨rfl, rfl⟩, h⟩
    exact h
  · exact fun h => ⟨0, _, _, ⟨rfl, rfl⟩, h⟩
theorem runs_ex (id : Nat) (s : St) (Q : Ex → St → Prop) : Runs G (.ex id) s Q = Q (.ex id) s := by
  apply propext
  simp only [Runs, evC, Option.some.injEq, Prod.mk.injEq]
  constructor
  · rintro ⟨_, _, _, ⟨rfl, rfl⟩, h⟩
    exact h
  · exact fun h => ⟨0, _, _, ⟨rfl, rfl⟩, h⟩
theorem runs_ret (s : St) (Q : Ex → St → Prop) : Runs G .ret s Q = Q .ret s := by
  apply propext
  simp only [Runs, evC, Option.some.injEq, Prod.mk.injEq]
  constructor
  · rintro ⟨_, _, _, ⟨rfl, rfl⟩, h⟩
    exact h
  · exact fun h => ⟨0, _, _, ⟨rfl, rfl⟩, h⟩
theorem runs_reg (ops : List Op) (s : St) (Q : Ex → St → Prop) : Runs G (.reg ops) s Q = RunOps G ops s fun s' => Q .nm { s' with L := [] } := by
  apply propext
  simp only [Runs, RunOps, evC, Option.bind_eq_some_iff, Option.some.injEq, Prod.mk.injEq]
  constructor
  · rintro ⟨n, _, _, ⟨s', h, rfl, rfl⟩, hq⟩
    exact ⟨n, s', h, hq⟩
  · rintro ⟨n, s', h, hq⟩
    exact ⟨n, _, _, ⟨s', h, rfl, rfl⟩, hq⟩

theorem runs_seq (hG : MonoP G) (a b : C) (s : St) (Q : Ex → St → Prop) : Runs G (.seq a b) s Q = Runs G a s (thn (fun s' => Runs G b s' Q) Q) := by
  apply propext
  constructor
  · rintro ⟨n, e, s', h, hq⟩
    simp only [evC, Option.bind_eq_some_iff] at h
    obtain ⟨⟨e1, s1⟩, h1, h2⟩ := h
    refine ⟨n, e1, s1, h1, ?_⟩
    cases e1 with
    | nm => exact ⟨n, e, s', h2, hq⟩
    | _ =>
      simp only [Option.some.injEq, Prod.mk.injEq] at h2
      obtain ⟨rfl, rfl⟩ := h2
      exact hq
  · rintro ⟨n, e1, s1, h1, h2⟩
    cases e1 with
    | nm =>
      obtain ⟨m, e, s', h3, hq⟩ := h2
      refine ⟨max n m, e, s', ?_, hq⟩
      simp only [evC, Option.bind_eq_some_iff]
      exact ⟨_, evC_mono (callM_mono hG (Nat.le_max_left n m)) (Nat.le_max_left n m) h1, evC_mono (callM_mono hG (Nat.le_max_right n m)) (Nat.le_max_right n m) h3⟩
    | ex j => exact ⟨n, .ex j, s1, by simp [evC, h1], h2⟩
    | ret => exact ⟨n, .ret, s1, by simp [evC, h1], h2⟩

/-- A bool that is tested. -/
def asB : V → Option Bool
  | .m (.b t) => some t
  | _ => none

theorem runs_ite (o : Opnd) (a b : C) (s : St) (Q : Ex → St → Prop) : Runs G (.ite o a b) s Q = OptP ((evA s o).bind asB) fun t => if t then Runs G a s Q else Runs G b s Q := by
  apply propext
  constructor
  · rintro ⟨n, e, s', h, hq⟩
    simp only [evC, Option.bind_eq_some_iff] at h
    obtain ⟨v, hv, h⟩ := h
    split at h
    · exact ⟨true, by simp [hv, asB], n, e, s', h, hq⟩
    · exact ⟨false, by simp [hv, asB], n, e, s', h, hq⟩
    · cases h
  · rintro ⟨t, ht, h⟩
    simp only [Option.bind_eq_some_iff] at ht
    obtain ⟨v, hv, ht⟩ := ht
    have : v = .m (.b t) := by
      unfold asB at ht
      split at ht
      · rw [Option.some.injEq] at ht; rw [ht]
      · cases ht
    subst this
    cases t with
    | true =>
      obtain ⟨n, e, s', h, hq⟩ := h
      exact ⟨n, e, s', by simp [evC, hv, h], hq⟩
    | false =>
      obtain ⟨n, e, s', h, hq⟩ := h
      exact ⟨n, e, s', by simp [evC, hv, h], hq⟩

theorem runs_blk (id : Nat) (c : C) (s : St) (Q : Ex → St → Prop) : Runs G (.blk id c) s Q = Runs G c s (inB id Q) := by
  apply propext
  constructor
  · rintro ⟨n, e, s', h, hq⟩
    simp only [evC, Option.bind_eq_some_iff] at h
    obtain ⟨⟨e1, s1⟩, h1, h2⟩ := h
    refine ⟨n, e1, s1, h1, ?_⟩
    cases e1 with
    | ex j =>
      simp only at h2
      split at h2
      · rename_i hb
        have := Nat.eq_of_beq_eq_true hb
        simp only [Option.some.injEq, Prod.mk.injEq] at h2
        obtain ⟨rfl, rfl⟩ := h2
        exact ⟨fun _ => hq, fun hne => absurd this hne⟩
      · rename_i hb
        simp only [Option.some.injEq, Prod.mk.injEq] at h2
        obtain ⟨rfl, rfl⟩ := h2
        exact ⟨fun e => (by subst e; simp at hb), fun _ => hq⟩
    | _ =>
      simp only [Option.some.injEq, Prod.mk.injEq] at h2
      obtain ⟨rfl, rfl⟩ := h2
      exact hq
  · rintro ⟨n, e1, s1, h1, h2⟩
    cases e1 with
    | ex j =>
      cases hb : Nat.beq j id with
      | true => exact ⟨n, .nm, s1, by simp [evC, h1, hb], h2.1 (Nat.eq_of_beq_eq_true hb)⟩
      | false => exact ⟨n, .ex j, s1, by simp [evC, h1, hb], h2.2 (fun e => by subst e; simp at hb)⟩
    | nm => exact ⟨n, .nm, s1, by simp [evC, h1], h2⟩
    | ret => exact ⟨n, .ret, s1, by simp [evC, h1], h2⟩

theorem runs_loop (hG : MonoP G) (dr : List Nat) (c : C) (s : St) (Q : Ex → St → Prop) : Runs G (.loop dr c) s Q = Runs G c { s with E := dropE dr s.E } (thn (fun s' => Runs G (.loop dr c) s' Q) Q) := by
  apply propext
  constructor
  · rintro ⟨n, e, s', h, hq⟩
    simp only [evC] at h
    cases n with
    | zero => simp [loopN] at h
    | succ n =>
      simp only [loopN, Option.bind_eq_some_iff] at h
      obtain ⟨⟨e1, s1⟩, h1, h2⟩ := h
      refine ⟨n + 1, e1, s1, h1, ?_⟩
      cases e1 with
      | nm => exact ⟨n + 1, e, s', by simp only [evC]; exact loopN_mono (fun _ _ h => h) (Nat.le_succ n) h2, hq⟩
      | _ =>
        simp only [Option.some.injEq, Prod.mk.injEq] at h2
        obtain ⟨rfl, rfl⟩ := h2
        exact hq
  · rintro ⟨n, e1, s1, h1, h2⟩
    cases e1 with
    | nm =>
      obtain ⟨m, e, s', h3, hq⟩ := h2
      have hn : n ≤ max n m + 1 := by omega
      have hm : m ≤ max n m + 1 := by omega
      refine ⟨max n m + 1, e, s', ?_, hq⟩
      simp only [evC, loopN, Option.bind_eq_some_iff]
      refine ⟨_, evC_mono (callM_mono hG hn) hn h1, ?_⟩
      simp only [evC] at h3
      exact loopN_mono (fun t r => evC_mono (callM_mono hG hm) hm) (by omega) h3
    | ex j => exact ⟨n + 1, .ex j, s1, by simp only [evC, loopN, Option.bind_eq_some_iff]; exact ⟨_, evC_mono (callM_mono hG (Nat.le_succ n)) (Nat.le_succ n) h1, rfl⟩, h2⟩
    | ret => exact ⟨n + 1, .ret, s1, by simp only [evC, loopN, Option.bind_eq_some_iff]; exact ⟨_, evC_mono (callM_mono hG (Nat.le_succ n)) (Nat.le_succ n) h1, rfl⟩, h2⟩

theorem ops_nil (s : St) (Q : St → Prop) : RunOps G [] s Q = Q s := by
  apply propext
  simp only [RunOps, evOps, Option.some.injEq]
  constructor
  · rintro ⟨_, _, rfl, h⟩
    exact h
  · exact fun h => ⟨0, _, rfl, h⟩

theorem ops_cons (hG : MonoP G) (o : Op) (r : List Op) (s : St) (Q : St → Prop) : RunOps G (o :: r) s Q = RunOp G o s fun s' => RunOps G r s' Q := by
  apply propext
  simp only [RunOps, RunOp, evOps, Option.bind_eq_some_iff]
  constructor
  · rintro ⟨n, s', ⟨s1, h1, h2⟩, hq⟩
    exact ⟨n, s1, h1, n, s', h2, hq⟩
  · rintro ⟨n, s1, h1, m, s', h2, hq⟩
    exact ⟨max n m, s', ⟨s1, evOp_mono (callM_mono hG (Nat.le_max_left n m)) h1, evOps_mono (callM_mono hG (Nat.le_max_right n m)) h2⟩, hq⟩

theorem op_pure (d : Dst) (o : OP) (as : List Opnd) (s : St) (Q : St → Prop) : RunOp G ⟨d, .p o, as, none⟩ s Q = OptP (optMap (evA s) as) fun vs => OptP (pureX o vs) fun v => OptP (setD s d v) Q := by
  apply propext
  simp only [RunOp, evOp, wantsD, Option.bind_some, fresh, gd, evO, Option.bind_eq_some_iff, OptP]
  constructor
  · rintro ⟨_, s', ⟨vs, h1, ⟨v, M⟩, ⟨v', h2, h3⟩, h4⟩, hq⟩
    simp only [Option.some.injEq, Prod.mk.injEq] at h3
    obtain ⟨rfl, rfl⟩ := h3
    exact ⟨vs, h1, _, h2, s', h4, hq⟩
  · rintro ⟨vs, h1, v, h2, s', h4, hq⟩
    exact ⟨0, s', ⟨vs, h1, (v, s.M), ⟨v, h2, rfl⟩, h4⟩, hq⟩

theorem op_read (d : Dst) (o : OR) (as : List Opnd) (s : St) (Q : St → Prop) : RunOp G ⟨d, .r o, as, none⟩ s Q = OptP (optMap (evA s) as) fun vs => OptP (readX s.M o vs) fun v => OptP (setD s d v) Q := by
  apply propext
  simp only [RunOp, evOp, wantsD, Option.bind_some, fresh, gd, evO, Option.bind_eq_some_iff, OptP]
  constructor
  · rintro ⟨_, s', ⟨vs, h1, ⟨v, M⟩, ⟨v', h2, h3⟩, h4⟩, hq⟩
    simp only [Option.some.injEq, Prod.mk.injEq] at h3
    obtain ⟨rfl, rfl⟩ := h3
    exact ⟨vs, h1, _, h2, s', h4, hq⟩
  · rintro ⟨vs, h1, v, h2, s', h4, hq⟩
    exact ⟨0, s', ⟨vs, h1, (v, s.M), ⟨v, h2, rfl⟩, h4⟩, hq⟩

theorem op_call (d : Dst) (f : Nat) (as : List Opnd) (s : St) (Q : St → Prop) : RunOp G ⟨d, .l (.cal f), as, none⟩ s Q = OptP (optMap (evA s) as) fun vs => Ret G f vs s.M.H fun v H' => OptP (setD { s with M := { s.M with H := H' } } d v) Q := by
  apply propext
  simp only [RunOp, evOp, wantsD, Option.bind_some, fresh, gd, evO, loudX, Option.bind_eq_some_iff, OptP, Ret]
  constructor
  · rintro ⟨n, s', ⟨vs, h1, ⟨v, M⟩, ⟨⟨r, H'⟩, h2, h3⟩, h4⟩, hq⟩
    simp only [Option.some.injEq, Prod.mk.injEq] at h3
    obtain ⟨rfl, rfl⟩ := h3
    exact ⟨vs, h1, n, _, _, h2, s', h4, hq⟩
  · rintro ⟨vs, h1, n, v, H', h2, s', h4, hq⟩
    exact ⟨n, s', ⟨vs, h1, _, ⟨_, h2, rfl⟩, h4⟩, hq⟩

/-- A guarded operation, the guard known. -/
theorem op_guard_on {d : Dst} {o : O} {as : List Opnd} {g : Opnd} {want : Bool} {s : St} {Q : St → Prop} {x : Bool} (hg : evA s g = some (.m (.b x))) (hx : x = want) : RunOp G ⟨d, o, as, some (g, want)⟩ s Q = RunOp G ⟨d, o, as, none⟩ s Q := by
  subst hx
  apply propext
  simp [RunOp, evOp, wantsD, hg, fresh]
theorem op_guard_off {d : Dst} {o : O} {as : List Opnd} {g : Opnd} {want : Bool} {s : St} {Q : St → Prop} {x : Bool} (hg : evA s g = some (.m (.b x))) (hx : x ≠ want) : RunOp G ⟨d, o, as, some (g, want)⟩ s Q = OptP (setD s d .un) Q := by
  apply propext
  have : (x == want) = false := by simpa using hx
  simp [RunOp, evOp, wantsD, hg, this, OptP]
theorem op_guard (d : Dst) (o : O) (as : List Opnd) (g : Opnd) (want : Bool) (s : St) (Q : St → Prop) : RunOp G ⟨d, o, as, some (g, want)⟩ s Q = OptP (wantsD s (some (g, want))) fun q => if q then RunOp G ⟨d, o, as, none⟩ s Q else OptP (setD s d .un) Q := by
  apply propext
  constructor
  · rintro ⟨n, s', h, hq⟩
    simp only [evOp, Option.bind_eq_some_iff] at h
    obtain ⟨b, hb, h⟩ := h
    refine ⟨b, hb, ?_⟩
    cases b with
    | true => exact ⟨n, s', by simpa [evOp, wantsD] using h, hq⟩
    | false => exact ⟨s', h, hq⟩
  · rintro ⟨b, hb, h⟩
    cases b with
    | true =>
      obtain ⟨n, s', h, hq⟩ := h
      exact ⟨n, s', by simp only [evOp, hb, Option.bind_some]; simpa [evOp, wantsD] using h, hq⟩
    | false =>
      obtain ⟨s', h, hq⟩ := h
      exact ⟨0, s', by simp only [evOp, hb, Option.bind_some]; exact h, hq⟩

/- Calls. -/
theorem ret_of {f : Nat} {vs : List V} {H H' : Hp} {v : V} {Q : V → Hp → Prop} (hG : MonoP G) (h : Gives G f vs H v H') : Ret G f vs H Q = Q v H' := by
  apply propext
  obtain ⟨n, hn⟩ := h
  constructor
  · rintro ⟨m, v2, H2, hm, hq⟩
    have h1 := callM_mono hG (Nat.le_max_left n m) _ _ _ _ hn
    have h2 := callM_mono hG (Nat.le_max_right n m) _ _ _ _ hm
    rw [h1] at h2
    cases h2
    exact hq
  · exact fun hq => ⟨n, v, H', hn, hq⟩

theorem Gives.of_ret {f : Nat} {vs : List V} {H H' : Hp} {v : V} (h : Ret G f vs H fun v' H2 => v' = v ∧ H2 = H') : Gives G f vs H v H' := by
  obtain ⟨n, v2, H2, h, rfl, rfl⟩ := h
  exact ⟨n, h⟩

/-- What a body's end gives. -/
def fin (rs : List Res) (Q : V → Hp → Prop) : Ex → St → Prop
  | .ex _, _ => False
  | _, s => OptP (resOf s rs) fun v => Q v s.M.H

theorem fin_nm (rs : List Res) (Q : V → Hp → Prop) (s : St) : fin rs Q .nm s = OptP (resOf s rs) fun v => Q v s.M.H := rfl
theorem fin_ret (rs : List Res) (Q : V → Hp → Prop) (s : St) : fin rs Q .ret s = OptP (resOf s rs) fun v => Q v s.M.H := rfl

theorem evF_of {c : C} {np : Nat} {rs : List Res} {vs : List V} {H : Hp} {Q : V → Hp → Prop} (hv : vs.all noFaV = true) (hl : vs.length = np) (h : Runs G c ⟨envOf 0 vs, [], ⟨[], H⟩⟩ (fin rs Q)) :
    ∃ n v H', evF (callM G n) n ⟨np, rs, c⟩ vs H = some (v, H') ∧ Q v H' := by
  obtain ⟨n, e, s', h1, h2⟩ := h
  have hb : (vs.all noFaV && Nat.beq vs.length np) = true := by rw [hv, hl, Nat.beq_refl]; rfl
  have key : OptP (resOf s' rs) (fun v => Q v s'.M.H) → (∀ id, e ≠ .ex id) → ∃ n v H', evF (callM G n) n ⟨np, rs, c⟩ vs H = some (v, H') ∧ Q v H' := by
    rintro ⟨v, hv, hq⟩ hne
    refine ⟨n, v, s'.M.H, ?_, hq⟩
    simp only [evF, hb, gd, h1, Option.bind_some]
    cases e with
    | ex id => exact absurd rfl (hne id)
    | _ => simp [hv]
  cases e with
  | ex id => exact h2.elim
  | nm => exact key h2 (fun _ h => by cases h)
  | ret => exact key h2 (fun _ h => by cases h)

/-- A function in shared memory. -/
theorem ret_shared (hG : MonoP G) {f np : Nat} {rs : List Res} {c : C} {vs : List V} {H : Hp} {Q : V → Hp → Prop} (hp : G.prim f = none) (hf : G.fn f = some ⟨np, rs, c⟩) (hs : G.sh f = true) (hv : vs.all noFaV = true) (hl : vs.length = np)
    (h : Runs G c ⟨envOf 0 vs, [], ⟨[], H⟩⟩ (fin rs Q)) : Ret G f vs H Q := by
  obtain ⟨n, v, H', he, hq⟩ := evF_of hv hl h
  refine ⟨n + 1, v, H', ?_, hq⟩
  simp [callM, hp, hf, hs, he]

theorem refs_imm : ∀ {vs : List V} {is : List I}, allM vs = some is → vs.flatMap refs = [] ∧ vs.all shallow = true ∧ vs.all noFaV = true ∧ vs = is.map .m ∧ ∀ (n : Nat) H, optMap (view (n + 1) H) vs = some is
  | [], is, h => by simp only [allM, Option.some.injEq] at h; subst h; exact ⟨rfl, rfl, rfl, rfl, fun _ _ => rfl⟩
  | .m x :: r, is, h => by
    simp only [allM, Option.bind_eq_some_iff, Option.some.injEq] at h
    obtain ⟨l, hl, rfl⟩ := h
    obtain ⟨h1, h2, h3, h4, h5⟩ := refs_imm hl
    refine ⟨by simp [refs, ref1, h1], by simp [shallow, shallow1, h2], by simp [noFaV, h3], by simp [h4], fun n H => ?_⟩
    simp only [optMap, h5 n H]
    rfl
  | .un :: _, is, h => by simp [allM] at h
  | .ls _ :: _, is, h => by simp [allM] at h
  | .sl .. :: _, is, h => by simp [allM] at h
  | .pt .. :: _, is, h => by simp [allM] at h
  | .fa .. :: _, is, h => by simp [allM] at h
  | .mp _ :: _, is, h => by simp [allM] at h
  | .fn .. :: _, is, h => by simp [allM] at h
  | .ag _ :: _, is, h => by simp [allM] at h
  | .tu _ :: _, is, h => by simp [allM] at h

/-- A pure function of immutable values. -/
theorem ret_pure {f np : Nat} {rs : List Res} {c : C} {vs : List V} {is : List I} {H : Hp} {Q : V → Hp → Prop} (hp : G.prim f = none) (hf : G.fn f = some ⟨np, rs, c⟩) (hs : G.sh f = false) (hv : allM vs = some is) (hl : vs.length = np)
    (h : Runs G c ⟨envOf 0 vs, [], ⟨[], []⟩⟩ (fin rs fun v H' => OptP (viewR H' v) fun r => Q r H)) : Ret G f vs H Q := by
  obtain ⟨h1, h2, h3, h4, h5⟩ := refs_imm hv
  obtain ⟨n, v, H', he, r, hr, hq⟩ := evF_of h3 hl h
  refine ⟨n + 1, r, H, ?_, hq⟩
  simp only [callM, hp, hf, hs, Option.bind_some, callP, h5 19 H]
  rw [← h4, he]
  simp only [Option.bind_some, hr, h1, h2, gd]
end
end Go.Mx
