/- Operations that touch no memory, second part: parts of values, lengths, cuts, least and greatest, equality. -/
import Derived.Test.YtaomjcmiaiokcaaDoorSndB
namespace Go.Mx
section
variable {P : Program} {w : World} {S : Nat → Prop} {ρ β : Nat → Nat} {M : Mem} {H : Hp} {o : Oper} {a : Act} {hi : Hint} {vs : List V} {v : V}

theorem aggC_rep {x : V} {c : Value} {l : List V} (h : RepX w S ρ β H x c) (hl : aggC x = some l) : ∃ cs, c = .agg cs ∧ RepL w S ρ H l cs.toList := by
  unfold aggC at hl
  split at hl
  · simp only [Option.some.injEq] at hl
    subst hl
    exact RepV.ofAgI (RepX.toV rfl h)
  · simp only [Option.some.injEq] at hl
    subst hl
    exact RepV.agL (RepX.toV rfl h)
  · cases hl

theorem snd_fld {t : TypeId} {x : Operand} {f : Nat} {fs : Array Field} {fl : Field} {i : TypeInfo} {ag : Bool} (ho : o.op = .field t x f) (hu : P.underlying t = some (.struct fs)) (hf : fs[f]? = some fl) (hi' : P.info? fl.type = some i)
    (hag : aggT P fl.type = some ag) (hs : ag = true ∨ i.size = 1) (hok : Ok w S ρ β M) (hv : All2 (RepX w S ρ β M.H) vs [a.eval x]) (he : pureX (.fld ag i.size fl.offset) vs = some v) :
    Outc w S ρ β M (.p (.fld ag i.size fl.offset)) v M ((execOp a.eval o).run P w) := by
  cases hv with | cons h t =>
  cases t
  simp only [pureX, Option.bind_eq_some_iff] at he
  obtain ⟨cs, hcs, l, hl, hv⟩ := he
  obtain ⟨arr, hc, hr⟩ := aggC_rep h hcs
  obtain ⟨c, hrun, hrep⟩ := run_part (P := P) hag hi' hs hr hl hv
  refine .val hok (RepX.ofV hrep) ?_
  simp [execOp, ho, hc, Instr.field, run_underlying hu, hf, asAgg, hrun]

theorem snd_ixv {t e : TypeId} {x y : Operand} {n : Nat} {i : TypeInfo} {ag : Bool} (ho : o.op = .index t x y) (hu : P.underlying t = some (.array n e)) (hi' : P.info? e = some i)
    (hag : aggT P e = some ag) (hs : ag = true ∨ i.size = 1) (hok : Ok w S ρ β M) (hv : All2 (RepX w S ρ β M.H) vs [a.eval x, a.eval y]) (he : pureX (.ixv n i.size ag) vs = some v) :
    Outc w S ρ β M (.p (.ixv n i.size ag)) v M ((execOp a.eval o).run P w) := by
  cases hv with | cons h t =>
  cases t with | cons h1 t =>
  cases t
  simp only [pureX, Option.bind_eq_some_iff] at he
  obtain ⟨j, hj, cs, hcs, l, hl, hv⟩ := he
  obtain ⟨k, hy, hlt⟩ := idx_int h1 hj
  obtain ⟨arr, hc, hr⟩ := aggC_rep h hcs
  obtain ⟨c, hrun, hrep⟩ := run_part (P := P) hag hi' hs hr hl hv
  refine .val hok (RepX.ofV hrep) ?_
  simp [execOp, ho, hc, hy, Instr.index, asIntOf, run_underlying hu, hlt, run_sizeOf hi', hrun]

theorem snd_ixaA {t e : TypeId} {x y : Operand} {n : Nat} {i : TypeInfo} (ho : o.op = .indexAddr t x y) (hu : P.underlying t = some (.array n e)) (hi' : P.info? e = some i)
    (hok : Ok w S ρ β M) (hv : All2 (RepX w S ρ β M.H) vs [a.eval x, a.eval y]) (he : pureX (.ixaA n i.size) vs = some v) : Outc w S ρ β M (.p (.ixaA n i.size)) v M ((execOp a.eval o).run P w) := by
  cases hv with | cons h t =>
  cases t with | cons h1 t =>
  cases t
  simp only [pureX, Option.bind_eq_some_iff] at he
  obtain ⟨j, hj, hv⟩ := he
  obtain ⟨k, hy, hlt⟩ := idx_int h1 hj
  obtain ⟨p, hp, hr⟩ := mvA_rep (n := j * i.size) (v := v) h hv
  refine .val hok hr ?_
  simp [execOp, ho, hp, hy, Instr.indexAt, asIntOf, run_underlying hu, Instr.sureAddr, hlt, run_sizeOf hi']

theorem snd_ixs {t : TypeId} {x y : Operand} (ho : o.op = .index t x y) (hu : P.underlying t = some .string) (hok : Ok w S ρ β M) (hv : All2 (RepX w S ρ β M.H) vs [a.eval x, a.eval y]) (he : pureX .ixs vs = some v) :
    Outc w S ρ β M (.p .ixs) v M ((execOp a.eval o).run P w) := by
  cases hv with | cons h t =>
  cases t with | cons h1 t =>
  cases t
  simp only [pureX] at he
  split at he
  · simp only [Option.bind_eq_some_iff, vi, Option.some.injEq] at he
    obtain ⟨j, hj, c, hc, rfl⟩ := he
    obtain ⟨k, hy, hlt⟩ := idx_int h1 hj
    obtain ⟨s, hx, rfl⟩ := repI_str (RepX.toV rfl h)
    rw [nth_eq, List.getElem?_map] at hc
    have hlt' : j < s.data.size := by simpa using hlt
    have hsz : j < s.size := hlt'
    have hcb : c = (s.data[j]'hlt').toNat := by
      have : s.data.toList[j]? = some (s.data[j]'hlt') := by simp
      rw [this] at hc
      simpa using hc.symm
    refine .val hok (RepX.ofV (.m (.i .u8 (Int.ofNat c)))) ?_
    have hg : s[j]? = some (s.data[j]'hlt') := getElem?_pos s j hsz
    simp [execOp, ho, hx, hy, Instr.index, asIntOf, run_underlying hu, hg, hcb]
  · cases he

theorem snd_ext {x : Operand} {j : Nat} (ho : o.op = .extract x j) (hok : Ok w S ρ β M) (hv : All2 (RepX w S ρ β M.H) vs [a.eval x]) (he : pureX (.ext j) vs = some v) :
    Outc w S ρ β M (.p (.ext j)) v M ((execOp a.eval o).run P w) := by
  cases hv with | cons h t =>
  cases t
  simp only [pureX] at he
  split at he
  · obtain ⟨cs, hc, hr⟩ := RepV.tuL (RepX.toV rfl h)
    rw [nth_eq] at he
    obtain ⟨c, hc', hrep⟩ := hr.2 j v he
    refine .val hok (RepX.ofV hrep) ?_
    have hcj : cs[j]? = some c := by simpa using hc'
    simp [execOp, ho, hc, Instr.extract, hcj]
  · cases he

theorem map_toList {α β : Type} (f : α → β) (l : Array α) : (l.map f).toList = l.toList.map f := by simp

theorem snd_mkf {f : Nat} {first cap : Array Operand} (ho : o.op = .makeFunc (.func f) first cap) (hf : first = #[]) (hok : Ok w S ρ β M) (hv : All2 (RepX w S ρ β M.H) vs (cap.toList.map a.eval)) (he : pureX (.mkf f) vs = some v) :
    Outc w S ρ β M (.p (.mkf f)) v M ((execOp a.eval o).run P w) := by
  simp only [pureX, gd_some, Option.some.injEq] at he
  obtain ⟨hn, rfl⟩ := he
  have hr := hv.toL hn
  rw [← map_toList] at hr
  refine .val hok (RepX.ofV hr.toFn) ?_
  simp [execOp, ho, hf, Instr.makeFunc]

theorem snd_nck {x : Operand} (ho : o.op = .nilCheck x) (hok : Ok w S ρ β M) (hv : All2 (RepX w S ρ β M.H) vs [a.eval x]) (he : pureX .nck vs = some v) :
    Outc w S ρ β M (.p .nck) v M ((execOp a.eval o).run P w) := by
  cases hv with | cons h t =>
  cases t
  rename_i x0
  have hvx : v = x0 ∧ ((∃ p, a.eval x = .pointer (some p)) ∨ ∃ f cs, a.eval x = .func (.func f) #[] cs) := by
    simp only [pureX] at he
    split at he
    · cases he; exact ⟨rfl, .inl ⟨_, h⟩⟩
    · cases he
      refine ⟨rfl, .inl ?_⟩
      have h := RepX.toV rfl h
      generalize a.eval x = c at h
      cases h; exact ⟨_, rfl⟩
    · cases he
      obtain ⟨b, off, hc, _⟩ := ptI_form (RepX.toV rfl h)
      exact ⟨rfl, .inl ⟨_, hc⟩⟩
    · cases he
      obtain ⟨cs, hc, _⟩ := RepV.fnL (RepX.toV rfl h)
      exact ⟨rfl, .inr ⟨_, cs, hc⟩⟩
    · cases he
      have h := (RepX.toV rfl h).imm
      generalize a.eval x = c at h
      cases h; exact ⟨rfl, .inr ⟨_, _, rfl⟩⟩
    · cases he
  obtain ⟨rfl, hc⟩ := hvx
  refine .val hok h ?_
  rcases hc with ⟨p, hc⟩ | ⟨f, cs, hc⟩ <;> simp [execOp, ho, hc]

/-- A call of a builtin function that hands back a value. -/
theorem run_call_builtin {c : Go.Call} {b : Builtin} {r : Sem Value} {x : Value} {w' : World} (ho : o.op = .call c) (hb : c.callee = .builtin b)
    (hr : ∀ consts, builtin b c.argTypes o.type consts (c.args.map a.eval) = (do pure (.value (← r)))) (hx : r.run P w = .ok x w') : (execOp a.eval o).run P w = .ok (.value x) w' := by
  simp [execOp, ho, resolve, hb, invoke, hr, hx]

theorem mm_run (mx : Bool) : ∀ (r : List V) (cs : List Value) (k : IntKind) (x : Int), All2 (RepX w S ρ β H) r cs → mmX mx k x r = some v →
    ∃ n, v = .m (.i k n) ∧ (cs.foldlM (match mx with | true => Builtin.max2 | false => Builtin.min2) (.int k x) : Sem Value).run P w = .ok (.int k n) w
  | [], cs, k, x, hr, he => by
    cases hr
    simp only [mmX, vi, Option.some.injEq] at he
    exact ⟨x, he.symm, by simp⟩
  | y :: r, cs, k, x, hr, he => by
    cases hr with | cons h t =>
    rename_i c cs
    unfold mmX at he
    split at he <;> rename_i heq
    · cases heq
    · rename_i k' y' r'
      cases heq
      have hc := repI_int (RepX.toV rfl h)
      subst hc
      obtain ⟨n, hn, hrun⟩ := mm_run mx _ cs k _ t he
      refine ⟨n, hn, ?_⟩
      cases mx
      · simp only [List.foldlM_cons, Sem.run_bind]
        have : (Builtin.min2 (.int k x) (.int k' y')).run P w = .ok (.int k (minI x y')) w := by
          simp only [Builtin.min2, minI, ltI_eq, Sem.run_pure]
          by_cases h : y' < x <;> simp [h]
        rw [this]
        exact hrun
      · simp only [List.foldlM_cons, Sem.run_bind]
        have : (Builtin.max2 (.int k x) (.int k' y')).run P w = .ok (.int k (maxI x y')) w := by
          simp only [Builtin.max2, maxI, ltI_eq, Sem.run_pure]
          by_cases h : x < y' <;> simp [h]
        rw [this]
        exact hrun
    · cases he

theorem snd_mm {c : Go.Call} {mx : Bool} (ho : o.op = .call c) (hb : c.callee = .builtin (match mx with | true => .max | false => .min)) (hok : Ok w S ρ β M) (hv : All2 (RepX w S ρ β M.H) vs (c.args.toList.map a.eval)) (he : pureX (.mm mx) vs = some v) :
    Outc w S ρ β M (.p (.mm mx)) v M ((execOp a.eval o).run P w) := by
  cases vs with
  | nil => simp [pureX] at he
  | cons x r =>
    cases hargs : c.args.toList.map a.eval with
    | nil => rw [hargs] at hv; cases hv
    | cons c0 cs =>
      rw [hargs] at hv
      cases hv with | cons h t =>
      simp only [pureX] at he
      split at he
      · rename_i k x'
        have hc := repI_int (RepX.toV rfl h)
        subst hc
        obtain ⟨n, rfl, hrun⟩ := mm_run (P := P) mx r cs k x' t he
        have hl : (c.args.map a.eval).toList = .int k x' :: cs := by rw [← hargs]; simp
        refine .val hok (RepX.ofV (.m (.i k n))) ?_
        cases mx
        · exact run_call_builtin ho hb (fun _ => rfl) (by simp only [Builtin.min_, hl]; exact hrun)
        · exact run_call_builtin ho hb (fun _ => rfl) (by simp only [Builtin.max_, hl]; exact hrun)
      · cases he

theorem args1 {α β : Type} {l : Array α} {f : α → β} {x : β} (h : l.toList.map f = [x]) : l.map f = #[x] := by
  rw [← map_toList] at h
  exact Array.toList_inj.1 (by simpa using h)
theorem args2 {α β : Type} {l : Array α} {f : α → β} {x y : β} (h : l.toList.map f = [x, y]) : l.map f = #[x, y] := by
  rw [← map_toList] at h
  exact Array.toList_inj.1 (by simpa using h)

theorem nls_form {c : Value} (h : RepV w S ρ H (.m (.nl 4)) c) : c = .slice none 0 0 := by have := h.imm; cases this; rfl

theorem eqB_eq {x y : Bool} (h : eqB x y = true) : y = x := by cases x <;> cases y <;> simp [eqB] at h ⊢

theorem snd_len {c : Go.Call} {t : TypeId} {str : Bool} (ho : o.op = .call c) (hb : c.callee = .builtin .len) (ht : c.argTypes[0]? = some t) (hok : Ok w S ρ β M) (hv : All2 (RepX w S ρ β M.H) vs (c.args.toList.map a.eval)) (he : pureX (.len str) vs = some v) (hstr : str = true → P.underlying t = some .string) (hsl : str = false → ∃ e, P.underlying t = some (.slice e)) :
    Outc w S ρ β M (.p (.len str)) v M ((execOp a.eval o).run P w) := by
  cases vs with
  | nil => simp [pureX] at he
  | cons x r =>
    cases r with
    | cons y r => simp [pureX] at he
    | nil =>
      obtain ⟨c0, hargs, h⟩ := hv.inv1
      have hm := args1 hargs
      have fin : ∀ n : Nat, v = .m (.i .i64 (Int.ofNat n)) → (Builtin.len_ c.argTypes o.type #[c0]).run P w = .ok (.int .i64 (n : Int)) w → Outc w S ρ β M (.p (.len str)) v M ((execOp a.eval o).run P w) := fun n hn hr => by
        subst hn
        exact .val hok (RepX.ofV (.m (.i .i64 (Int.ofNat n)))) (run_call_builtin ho hb (fun _ => by rw [hm]; rfl) hr)
      simp only [pureX, vi, gd_some] at he
      obtain ⟨hq, he⟩ := he
      have hq := eqB_eq hq
      subst hq
      split at he
      · simp only [Option.some.injEq] at he
        obtain ⟨e, hue⟩ := hsl rfl
        have hc := nls_form (RepX.toV rfl h)
        subst hc
        exact fin 0 he.symm (by simp [Builtin.len_, ht, run_underlying hue, goInt])
      · rename_i es
        simp only [Option.some.injEq] at he
        obtain ⟨e, hue⟩ := hsl rfl
        obtain ⟨ad, cap, rfl, _⟩ := slI_form (RepX.toV rfl h).imm
        exact fin es.length he.symm (by simp [Builtin.len_, ht, run_underlying hue, goInt])
      · rename_i es
        simp only [Option.some.injEq] at he
        obtain ⟨e, hue⟩ := hsl rfl
        obtain ⟨ad, cap, rfl, _⟩ := slI_form (ls_imm (RepX.toV rfl h))
        exact fin es.length he.symm (by simp [Builtin.len_, ht, run_underlying hue, goInt])
      · rename_i l
        simp only [Option.some.injEq] at he
        have hue := hstr rfl
        obtain ⟨s, rfl, rfl⟩ := repI_str (RepX.toV rfl h)
        exact fin _ he.symm (by simp [Builtin.len_, ht, run_underlying hue, goInt])
      · rename_i r ver esz st len lim
        simp only [Option.some.injEq] at he
        obtain ⟨e, hue⟩ := hsl rfl
        have h := RepX.toV rfl h
        cases h
        exact fin len he.symm (by simp [Builtin.len_, ht, run_underlying hue, goInt])
      · cases he
end
end Go.Mx
