/- Operations that touch no memory: each against the model's. -/
import Derived.Test.YtaomjcmiaiokcaaDoorSndA
namespace Go.Mx
section
variable {P : Program} {w : World} {S : Nat → Prop} {ρ β : Nat → Nat} {M : Mem} {H : Hp} {o : Oper} {a : Act} {hi : Hint} {vs : List V} {v : V}

theorem repI_int {k : IntKind} {n : Int} {c : Value} (h : RepV w S ρ H (.m (.i k n)) c) : c = .int k n := by have := h.imm; cases this; rfl
theorem repI_bool {b : Bool} {c : Value} (h : RepV w S ρ H (.m (.b b)) c) : c = .bool b := by have := h.imm; cases this; rfl
theorem repI_str {l : List Nat} {c : Value} (h : RepV w S ρ H (.m (.s l)) c) : ∃ s : ByteArray, c = .string s ∧ s.data.toList.map UInt8.toNat = l := by have := h.imm; cases this; exact ⟨_, rfl, ‹_›⟩

theorem snd_mv {op : OP} {x : Operand} (ho : o.op = .move x ∨ o.op = .assign x) (hok : Ok w S ρ β M) (hop : op = .mv) (hv : All2 (RepX w S ρ β M.H) vs [a.eval x]) (he : pureX op vs = some v) :
    Outc w S ρ β M (.p op) v M ((execOp a.eval o).run P w) := by
  subst hop
  cases hv with | cons h t =>
  cases t
  simp only [pureX, Option.some.injEq] at he
  subst he
  refine .val hok h ?_
  rcases ho with ho | ho <;> simp [execOp, ho]

theorem snd_pick {c x y : Operand} (ho : o.op = .pick c x y) (hok : Ok w S ρ β M) (hv : All2 (RepX w S ρ β M.H) vs [a.eval c, a.eval x, a.eval y]) (he : pureX .pick vs = some v) :
    Outc w S ρ β M (.p .pick) v M ((execOp a.eval o).run P w) := by
  cases hv with | cons h t =>
  cases t with | cons h1 t =>
  cases t with | cons h2 t =>
  cases t
  simp only [pureX] at he
  split at he
  · simp only [Option.some.injEq] at he
    subst he
    have hc : a.eval c = .bool true := repI_bool h
    exact .val hok h1 (by simp [execOp, ho, hc, asBool])
  · simp only [Option.some.injEq] at he
    subst he
    have hc : a.eval c = .bool false := repI_bool h
    exact .val hok h2 (by simp [execOp, ho, hc, asBool])
  · cases he

theorem snd_un {u : UnOp} {t : TypeId} {x : Operand} (ho : o.op = .unOp u t x) (hok : Ok w S ρ β M) (hv : All2 (RepX w S ρ β M.H) vs [a.eval x]) (he : pureX (.un u) vs = some v) :
    Outc w S ρ β M (.p (.un u)) v M ((execOp a.eval o).run P w) := by
  cases hv with | cons h t =>
  cases t
  rename_i x0
  simp only [pureX] at he
  obtain ⟨i, rfl⟩ : ∃ i, x0 = .m i := by cases x0 <;> first | exact ⟨_, rfl⟩ | (simp [unX] at he)
  obtain ⟨c', hr, j, rfl, hj⟩ := run_un (P := P) w u (.m i) _ v i rfl (RepV.imm h) he
  exact .val hok (RepX.ofV (.m hj.any)) (by simp [execOp, ho, hr])

theorem snd_bin {b : BinOp} {t ty : TypeId} {x y : Operand} (ho : o.op = .binOp b t x y ty) (hok : Ok w S ρ β M) (hv : All2 (RepX w S ρ β M.H) vs [a.eval x, a.eval y]) (he : pureX (.bin b) vs = some v) :
    Outc w S ρ β M (.p (.bin b)) v M ((execOp a.eval o).run P w) := by
  cases hv with | cons h t =>
  cases t with | cons h1 t =>
  cases t
  simp only [pureX] at he
  unfold binX at he
  split at he
  · rename_i k x' k' y'
    have hx := repI_int h
    have hy := repI_int h1
    have hg : eqGuard b t x y (.int k x') (a.eval y) = pure () := eqGuard_at_int ..
    split at he
    · simp only [Option.bind_eq_some_iff] at he
      obtain ⟨n, hn, he⟩ := he
      have hyn : y' = (n : Int) := by cases y' <;> simp [nat?] at hn; subst hn; rfl
      subst hyn
      obtain ⟨c, hr, i, rfl, hi'⟩ := run_bin_shift (P := P) w t k k' x' n .shl v (.inl rfl) he
      exact .val hok (RepX.ofV (.m hi'.any)) (by rw [hy] at hg; simp [execOp, ho, hx, hy, hg, hr])
    · simp only [Option.bind_eq_some_iff] at he
      obtain ⟨n, hn, he⟩ := he
      have hyn : y' = (n : Int) := by cases y' <;> simp [nat?] at hn; subst hn; rfl
      subst hyn
      obtain ⟨c, hr, i, rfl, hi'⟩ := run_bin_shift (P := P) w t k k' x' n .shr v (.inr rfl) he
      exact .val hok (RepX.ofV (.m hi'.any)) (by rw [hy] at hg; simp [execOp, ho, hx, hy, hg, hr])
    · simp only [gd_some, eqK_eq] at he
      obtain ⟨rfl, he⟩ := he
      obtain ⟨c, hr, i, rfl, hi'⟩ := run_bin_int (P := P) w t k x' y' b v (by assumption) (by assumption) he
      exact .val hok (RepX.ofV (.m hi'.any)) (by rw [hy] at hg; simp [execOp, ho, hx, hy, hg, hr])
  · rename_i x' y'
    obtain ⟨sx, hx, rfl⟩ := repI_str h
    obtain ⟨sy, hy, rfl⟩ := repI_str h1
    have hg : eqGuard b t x y (.string sx) (a.eval y) = pure () := eqGuard_at_string ..
    obtain ⟨c, hr, i, rfl, hi'⟩ := run_bin_str (P := P) w t sx sy b v he
    exact .val hok (RepX.ofV (.m hi'.any)) (by rw [hy] at hg; simp [execOp, ho, hx, hy, hg, hr])
  · cases he

theorem snd_cv {src d : TypeId} {x : Operand} {k : IntKind} (ho : o.op = .convert src d x) (hs : ∃ u, P.underlying src = some u) (hd : P.underlying d = some (.int k)) (hok : Ok w S ρ β M) (hv : All2 (RepX w S ρ β M.H) vs [a.eval x]) (he : pureX (.cv k) vs = some v) :
    Outc w S ρ β M (.p (.cv k)) v M ((execOp a.eval o).run P w) := by
  cases hv with | cons h t =>
  cases t
  simp only [pureX] at he
  split at he
  · rename_i k' n
    have hx := repI_int h
    simp only [vi, Option.some.injEq] at he
    subst he
    obtain ⟨u, hu⟩ := hs
    refine .val hok (RepX.ofV (.m (by rw [wr_eq]; exact .i k (k.wrap n)))) ?_
    simp [execOp, ho, hx, convert, run_underlying hu, run_underlying hd, Conv.intToInt]
  · cases he

theorem snd_cvs {src d : TypeId} {x : Operand} (ho : o.op = .convert src d x) (hs : P.underlying src = some .string) (hd : P.underlying d = some .string) (hok : Ok w S ρ β M) (hv : All2 (RepX w S ρ β M.H) vs [a.eval x]) (he : pureX .cvs vs = some v) :
    Outc w S ρ β M (.p .cvs) v M ((execOp a.eval o).run P w) := by
  cases hv with | cons h t =>
  cases t
  simp only [pureX] at he
  split at he
  · rename_i l
    simp only [Option.some.injEq] at he
    subst he
    obtain ⟨s, hx, hl⟩ := repI_str h
    refine .val hok h ?_
    simp [execOp, ho, hx, convert, run_underlying hs, run_underlying hd]
  · cases he

theorem addr_add (b off n : Nat) : Addr.add ⟨b, off, none⟩ n = ⟨b, off + n, none⟩ := Addr.add_lit b off n

theorem run_fieldPlace {p : Addr} {f : Field} {i : TypeInfo} (hi' : P.info? f.type = some i) (hs : i.size ≠ 0) : (fieldPlace p f).run P w = .ok (p.add f.offset) w := by
  simp [fieldPlace, run_sizeOf hi', hs]

theorem drop_get {α : Type} {l : List α} {n j : Nat} {x : α} (h : (l.drop n)[j]? = some x) : l[n + j]? = some x := by rwa [List.getElem?_drop] at h

theorem ptI_drop {cs : List I} {b off n : Nat} (h : RepI w S (.pt cs) (.pointer (some ⟨b, off, none⟩))) : RepI w S (.pt (cs.drop n)) (.pointer (some ⟨b, off + n, none⟩)) := by
  cases h with
  | pt xs b off f hS hc hr => exact .pt _ b _ (fun j => f (n + j)) hS (fun j x hj => by rw [Nat.add_assoc]; exact hc _ _ (drop_get hj)) (fun j x hj => hr _ _ (drop_get hj))

theorem ptI_form {cs : List I} {c : Value} (h : RepV w S ρ H (.m (.pt cs)) c) : ∃ b off, c = .pointer (some ⟨b, off, none⟩) ∧ RepI w S (.pt cs) (.pointer (some ⟨b, off, none⟩)) := by
  have h := h.imm
  cases h with
  | pt _ b off f hS hc hr => exact ⟨b, off, rfl, .pt cs b off f hS hc hr⟩

/-- An address moved on by n cells. -/
def mvA (n : Nat) : V → Option V
  | .fa d o => some (.fa d (o + n))
  | .pt r ver ix o => some (.pt r ver ix (o + n))
  | .m (.pt cs) => some (.m (.pt (cs.drop n)))
  | _ => none

theorem mvA_rep {x : V} {c : Value} {n : Nat} (h : RepX w S ρ β H x c) (he : mvA n x = some v) : ∃ p, c = .pointer (some p) ∧ RepX w S ρ β H v (.pointer (some (p.add n))) := by
  unfold mvA at he
  split at he
  · rename_i d off
    simp only [Option.some.injEq] at he
    subst he
    exact ⟨_, h, by rw [addr_add]; rfl⟩
  · rename_i r ver ix off
    simp only [Option.some.injEq] at he
    subst he
    cases RepX.toV rfl h with
    | pt _ _ _ _ ty esz es base fz p hrow h2 hx hb =>
      refine ⟨p, rfl, RepX.ofV (.pt r ver ix (off + n) ty esz es base fz (p.add n) hrow h2 hx fun hbv => ?_)⟩
      obtain ⟨b, rfl, hA⟩ := hb hbv
      exact ⟨b, by rw [addr_add, Nat.add_assoc], hA⟩
  · rename_i cs
    simp only [Option.some.injEq] at he
    subst he
    obtain ⟨b, off, rfl, hp⟩ := ptI_form (RepX.toV rfl h)
    exact ⟨_, rfl, RepX.ofV (.m (by rw [addr_add]; exact ptI_drop hp))⟩
  · cases he

theorem snd_fad {t : TypeId} {x : Operand} {f : Nat} {fs : Array Field} {fl : Field} {i : TypeInfo} (ho : o.op = .fieldAddr t x f) (hu : P.underlying t = some (.struct fs)) (hf : fs[f]? = some fl) (hi' : P.info? fl.type = some i) (hs : i.size ≠ 0)
    (hok : Ok w S ρ β M) (hv : All2 (RepX w S ρ β M.H) vs [a.eval x]) (he : pureX (.fad fl.offset) vs = some v) : Outc w S ρ β M (.p (.fad fl.offset)) v M ((execOp a.eval o).run P w) := by
  cases hv with | cons h t =>
  cases t
  rename_i x0
  obtain ⟨p, hp, hr⟩ := mvA_rep (n := fl.offset) (v := v) h he
  refine .val hok hr ?_
  simp [execOp, ho, hp, Instr.fieldAt, run_underlying hu, hf, Instr.sureAddr, run_fieldPlace hi' hs]

theorem idx_int {n j : Nat} {i : V} {c : Value} (h : RepX w S ρ β H i c) (he : idx n i = some j) : ∃ k, c = .int k (j : Int) ∧ j < n := by
  unfold idx at he
  split at he
  · simp only [gd_some, Option.some.injEq, Nat.blt_eq] at he
    obtain ⟨h1, rfl⟩ := he
    exact ⟨_, repI_int (RepX.toV rfl h), h1⟩
  · cases he

theorem ls_imm {es : List (List I)} {c : Value} (h : RepV w S ρ H (.ls es) c) : RepI w S (.sl es) c := by cases h; assumption

theorem slI_form {es : List (List I)} {c : Value} (h : RepI w S (.sl es) c) : ∃ a cap, c = .slice a es.length cap ∧ es.length ≤ cap ∧ cap ≤ maxLen ∧ (es ≠ [] → ∃ b off, a = some ⟨b, off, none⟩ ∧ S b) := by
  cases h with
  | sl es a cap esz b off cs hcap hm hsz ha hc hr => exact ⟨a, cap, rfl, hcap, hm, fun hne => ⟨b, off, (ha hne).1, (ha hne).2⟩⟩

theorem slI_elem {es : List (List I)} {a : Option Addr} {n cap : Nat} (h : RepI w S (.sl es) (.slice a n cap)) {j : Nat} {e : List I} (he : nth es j = some e) : ∃ p : Addr, a = some p ∧ RepI w S (.pt e) (.pointer (some (p.add (j * e.length)))) := by
  rw [nth_eq] at he
  cases h with
  | sl es a cap esz b off cs hcap hm hsz ha hc hr =>
    have hne : es ≠ [] := by rintro rfl; simp at he
    obtain ⟨rfl, hS⟩ := ha hne
    refine ⟨_, rfl, ?_⟩
    rw [addr_add, hsz e (List.mem_of_getElem? he)]
    exact .pt e b _ (fun k => cs j k) hS (fun k x hk => by rw [Nat.add_assoc]; exact hc j e k x he hk) (fun k x hk => hr j e k x he hk)

theorem run_indexAt_sl {t : TypeId} {e : TypeId} {i : TypeInfo} (hu : P.underlying t = some (.slice e)) (hi' : P.info? e = some i) {p : Addr} {len cap j : Nat} {k : IntKind} (hj : j < len) :
    (Instr.indexAt t (.slice (some p) len cap) (.int k (j : Int))).run P w = .ok (.pointer (some (p.add (j * i.size)))) w := by
  simp [Instr.indexAt, asIntOf, run_underlying hu, hj, run_sizeOf hi']

theorem snd_ixa {t e : TypeId} {x y : Operand} {i : TypeInfo} (ho : o.op = .indexAddr t x y) (hu : P.underlying t = some (.slice e)) (hi' : P.info? e = some i)
    (hok : Ok w S ρ β M) (hv : All2 (RepX w S ρ β M.H) vs [a.eval x, a.eval y]) (he : pureX (.ixa i.size) vs = some v) : Outc w S ρ β M (.p (.ixa i.size)) v M ((execOp a.eval o).run P w) := by
  cases hv with | cons h t =>
  cases t with | cons h1 t =>
  cases t
  simp only [pureX] at he
  split at he
  · rename_i es
    simp only [Option.bind_eq_some_iff, gd_some, Option.some.injEq, Nat.beq_eq] at he
    obtain ⟨j, hj, e', he', hl, rfl⟩ := he
    obtain ⟨k, hy, hlt⟩ := idx_int h1 hj
    have hI := RepV.imm (RepX.toV rfl h)
    obtain ⟨ad, cap, hc, _, _, _⟩ := slI_form hI
    rw [hc] at hI
    obtain ⟨p, rfl, hp⟩ := slI_elem hI he'
    rw [hl] at hp
    refine .val hok (RepX.ofV (.m hp)) ?_
    simp [execOp, ho, hc, hy, run_indexAt_sl hu hi' hlt]
  · rename_i es
    simp only [Option.bind_eq_some_iff, gd_some, Option.some.injEq, Nat.beq_eq] at he
    obtain ⟨j, hj, e', he', hl, rfl⟩ := he
    obtain ⟨k, hy, hlt⟩ := idx_int h1 hj
    have hI := ls_imm (RepX.toV rfl h)
    obtain ⟨ad, cap, hc, _, _, _⟩ := slI_form hI
    rw [hc] at hI
    obtain ⟨p, rfl, hp⟩ := slI_elem hI he'
    rw [hl] at hp
    refine .val hok (RepX.ofV (.m hp)) ?_
    simp [execOp, ho, hc, hy, run_indexAt_sl hu hi' hlt]
  · rename_i r ver esz' st len lim
    simp only [Option.bind_eq_some_iff, gd_some, Option.some.injEq, Nat.beq_eq] at he
    obtain ⟨hes, j, hj, rfl⟩ := he
    obtain ⟨k, hy, hlt⟩ := idx_int h1 hj
    have h := RepX.toV rfl h
    generalize hc : a.eval x = c at h
    cases h with
    | sl _ _ _ _ _ _ ty es base fz ad cap hrow h1 h2 h3 h4 h5 hn hb ha =>
      obtain ⟨p, rfl⟩ := hn (by omega)
      refine .val hok (RepX.ofV (.pt r ver (st + j) 0 ty esz' es base fz (p.add (j * i.size)) hrow h2 (by omega) fun hbv => ?_)) ?_
      · obtain ⟨b, hp, hA⟩ := hb hbv (by omega)
        cases hp
        exact ⟨b, by rw [addr_add, hes, Nat.add_mul, Nat.add_zero], hA⟩
      · simp [execOp, ho, hc, hy, run_indexAt_sl hu hi' hlt]
  · cases he
end
end Go.Mx
