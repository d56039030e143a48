/- Equality, literals of structs, arrays and slices, '[]byte(s)', slice data: each against the model's. -/
import Derived.Test.YtaomjcmiaiokcaaDoorEq
import Derived.Laws.IdiomStrings
import Derived.Laws.MakeOwn
import Derived.Lib.UnsafeStr
namespace Go.Mx
section
variable {P : Program} {w : World} {S : Nat → Prop} {ρ β : Nat → Nat} {M : Mem} {H : Hp} {o : Oper} {a : Act} {vs : List V} {v : V}

def eqOp (neg : Bool) : BinOp := match neg with
  | true => .neq
  | false => .eql

theorem run_eql {t : TypeId} {x y : Operand} {c c' : Value} {neg : Bool} {r : Bool} (hx : ∀ k n, c ≠ .int k n) (hx2 : ∀ k p q, c ≠ .complex k p q) (hx3 : ∀ k n, c ≠ .float k n) (hx4 : ∀ s, c ≠ .string s)
    (hg : (eqGuard (eqOp neg) t x y c c').run P w = .ok () w) (h : (Op.equal t c c').run P w = .ok r w) :
    (do eqGuard (eqOp neg) t x y c c'; binOp (eqOp neg) t c c' : Sem Value).run P w = .ok (.bool (xor neg r)) w := by
  rw [Sem.run_bind, hg, Result.andThen_ok]
  cases neg
  · have : binOp .eql t c c' = (do pure (.bool (← Op.equal t c c'))) := by
      unfold binOp
      cases c <;> cases c' <;> first | rfl | (exfalso; first | exact hx _ _ rfl | exact hx2 _ _ _ rfl | exact hx3 _ _ rfl | exact hx4 _ rfl)
    simp only [eqOp, this, Sem.run_bind, h, Result.andThen_ok, Sem.run_pure]
    simp
  · have : binOp .neq t c c' = (do pure (.bool (!(← Op.equal t c c')))) := by
      unfold binOp
      cases c <;> cases c' <;> first | rfl | (exfalso; first | exact hx _ _ rfl | exact hx2 _ _ _ rfl | exact hx3 _ _ rfl | exact hx4 _ rfl)
    simp only [eqOp, this, Sem.run_bind, h, Result.andThen_ok, Sem.run_pure]
    simp

theorem snd_eqb {neg : Bool} {t ty : TypeId} {x y : Operand} (ho : o.op = .binOp (eqOp neg) t x y ty) (hu : P.underlying t = some .bool) (hok : Ok w S ρ β M) (hv : All2 (RepX w S ρ β M.H) vs [a.eval x, a.eval y]) (he : pureX (.eqb neg) vs = some v) :
    Outc w S ρ β M (.p (.eqb neg)) v M ((execOp a.eval o).run P w) := by
  cases hv with | cons h t1 =>
  cases t1 with | cons h1 t2 =>
  cases t2
  simp only [pureX] at he
  split at he
  · rename_i p q
    simp only [vb, Option.some.injEq] at he
    subst he
    have hx := repI_bool (RepX.toV rfl h)
    have hy := repI_bool (RepX.toV rfl h1)
    have hg : (eqGuard (eqOp neg) t x y (.bool p) (.bool q)).run P w = .ok () w := by cases neg <;> simp [eqGuard, eqOp]
    have hr := run_eql (P := P) (w := w) (x := x) (y := y) (neg := neg) (by simp) (by simp) (by simp) (by simp) hg (run_equalIn_bool w _ t p q hu)
    refine .val hok (RepX.ofV (.m (.b (xor neg (p == q))))) ?_
    simp only [execOp, ho, hx, hy]
    rw [Sem.run_bind, hr]
    rfl
  · cases he

theorem flatT_some {t : TypeId} {ks : List Nat} (hf : flatT P t = some ks) : aggT P t = some true ∧ P.eqGuardType P.depth t = false ∧ flatN P 6 t = some ks := by
  unfold flatT at hf
  split at hf
  · rename_i hu; simp only [gd_some, Bool.not_eq_true'] at hf; exact ⟨by simp [aggT, hu], hf⟩
  · rename_i hu; simp only [gd_some, Bool.not_eq_true'] at hf; exact ⟨by simp [aggT, hu], hf⟩
  · cases hf

theorem snd_eqs {neg : Bool} {ks : List Nat} {t ty : TypeId} {x y : Operand} (ho : o.op = .binOp (eqOp neg) t x y ty) (hf : flatT P t = some ks) (hok : Ok w S ρ β M) (hv : All2 (RepX w S ρ β M.H) vs [a.eval x, a.eval y]) (he : pureX (.eqs neg ks) vs = some v) :
    Outc w S ρ β M (.p (.eqs neg ks)) v M ((execOp a.eval o).run P w) := by
  cases hv with | cons h t1 =>
  cases t1 with | cons h1 t2 =>
  cases t2
  simp only [pureX] at he
  split at he
  · rename_i xs ys
    simp only [vb, Option.bind_eq_some_iff, Option.some.injEq] at he
    obtain ⟨r, hr, rfl⟩ := he
    obtain ⟨cx, hx, lx⟩ := RepV.ofAgI (RepX.toV rfl h)
    obtain ⟨cy, hy, ly⟩ := RepV.ofAgI (RepX.toV rfl h1)
    obtain ⟨g1, g2, g3⟩ := flatT_some hf
    have hq := flat_eq 6 t ks g3 9994 w S (.agg cx) (.agg cy) _ _ xs ys r (.inl ⟨g1, _, rfl, rfl⟩) (.inl ⟨g1, _, rfl, rfl⟩) (.ofL lx) (.ofL ly) hr
    have hg := run_eqGuard_agg w (eqOp neg) t x y cx cy g2
    have hr := run_eql (P := P) (w := w) (x := x) (y := y) (neg := neg) (by simp) (by simp) (by simp) (by simp) hg hq
    refine .val hok (RepX.ofV (.m (.b (xor neg r)))) ?_
    simp only [execOp, ho, hx, hy]
    rw [Sem.run_bind, hr]
    rfl
  · cases he

/-- fold of cells into an array. -/
theorem fold_put : ∀ (xs : List Value) (k off : Nat) (cells : Array Value), off + k + xs.length ≤ cells.size →
    ((xs.zipIdx k).foldl (fun cs p => cs.setIfInBounds (off + p.2) p.1) cells).toList = cells.toList.take (off + k) ++ xs ++ cells.toList.drop (off + k + xs.length)
  | [], k, off, cells, h => by simp
  | x :: xs, k, off, cells, h => by
    simp only [List.length_cons] at h
    rw [List.zipIdx_cons, List.foldl_cons, fold_put xs (k + 1) off _ (by simp; omega)]
    have hlt : off + k < cells.toList.length := by simp; omega
    simp only [Array.toList_setIfInBounds, List.length_cons]
    have h1 : (cells.toList.set (off + k) x).take (off + (k + 1)) = cells.toList.take (off + k) ++ [x] := by
      rw [List.set_eq_take_append_cons_drop, if_pos hlt, show off + (k + 1) = (off + k) + 1 by omega]
      rw [List.take_append, List.length_take, Nat.min_eq_left (by omega), List.take_take, Nat.min_eq_right (by omega)]
      simp
    have h2 : (cells.toList.set (off + k) x).drop (off + (k + 1) + xs.length) = cells.toList.drop (off + k + (xs.length + 1)) := by
      rw [List.drop_set_of_lt (by omega)]
      congr 1
      omega
    rw [h1, h2]
    simp

theorem fill_put (c : Array Value) (off : Nat) (cells : Array Value) (h : off + c.size ≤ cells.size) :
    (c.zipIdx.foldl (fun cs (p : Value × Nat) => cs.setIfInBounds (off + p.2) p.1) cells).toList = cells.toList.take off ++ c.toList ++ cells.toList.drop (off + c.size) := by
  rw [← Array.foldl_toList, Array.toList_zipIdx]
  have := fold_put c.toList 0 off cells (by simpa using h)
  simpa using this

theorem putAt_rep {xs cs l : List V} {off : Nat} {X C : List Value} (h : putAt cs off xs = some l) (hc : RepL w S ρ H cs C) (hx : RepL w S ρ H xs X) : RepL w S ρ H l (C.take off ++ X ++ C.drop (off + X.length)) ∧ off + X.length ≤ C.length := by
  simp only [putAt, gd_some, Nat.ble_eq, Option.some.injEq] at h
  obtain ⟨hl, rfl⟩ := h
  have h1 := hx.1
  have h2 := hc.1
  rw [h1]
  exact ⟨((hc.take off).append hx).append (hc.drop _), by omega⟩

theorem fill_snd {place : Nat → Option (Nat × Nat)} : ∀ (ps : List (Nat × Nat)) (parts : List (Nat × Value)) (xs cs l : List V) (C : Array Value), fill cs ps xs = some l → RepL w S ρ H cs C.toList → All2 (RepX w S ρ β H) xs (parts.map (·.2)) →
    (∀ (j : Nat) p q, ps[j]? = some p → parts[j]? = some q → place q.1 = some p) → ∃ C', Instr.fill place C parts = some C' ∧ RepL w S ρ H l C'.toList
  | [], parts, xs, cs, l, C, h, hc, hx, hp => by
    cases xs with
    | nil =>
      simp only [fill, Option.some.injEq] at h
      subst h
      cases parts with
      | nil => exact ⟨C, rfl, hc⟩
      | cons p ps => cases hx
    | cons x xs => simp [fill] at h
  | p :: ps, parts, xs, cs, l, C, h, hc, hx, hp => by
    cases xs with
    | nil => obtain ⟨off, sz⟩ := p; simp [fill] at h
    | cons x xs =>
      obtain ⟨off, sz⟩ := p
      simp only [fill, Option.bind_eq_some_iff, gd_some, Nat.beq_eq] at h
      obtain ⟨lx, hlx, hsz, cs', hcs', h⟩ := h
      cases parts with
      | nil => cases hx
      | cons q parts =>
        obtain ⟨i, c⟩ := q
        cases hx with | cons hc0 hx =>
        have hcl := RepX.cells hc0 hlx
        have hpl := hp 0 (off, sz) (i, c) rfl rfl
        obtain ⟨h1, h2⟩ := putAt_rep hcs' hc hcl
        have hcsz : c.cells.size = sz := by have := hcl.1; simp at this; omega
        simp only [Array.length_toList] at h1 h2
        rw [← fill_put c.cells off C h2] at h1
        obtain ⟨C', hC', hl'⟩ := fill_snd ps parts xs cs' l _ h h1 hx (fun j p q hj hq => hp (j + 1) p q (by simpa using hj) (by simpa using hq))
        refine ⟨C', ?_, hl'⟩
        have hpl : place i = some (off, sz) := hpl
        simp only [Instr.fill, hpl]
        rw [if_neg (by simp; omega)]
        exact hC'

theorem parts_map (f : Operand → Value) (ps : Array (Nat × Operand)) : (ps.map fun (i, x) => (i, f x)).toList = ps.toList.map fun q => (q.1, f q.2) := by simp

theorem mapM_run {α β : Type} {f : α → Sem β} {g : α → β} (w : World) : ∀ (l : List α), (∀ x, x ∈ l → (f x).run P w = .ok (g x) w) → (l.mapM f).run P w = .ok (l.map g) w
  | [], _ => by simp
  | x :: l, h => by
    simp only [List.mapM_cons, Sem.run_bind, h x (by simp), Result.andThen_ok, mapM_run w l (fun y hy => h y (by simp [hy])), Sem.run_pure, List.map_cons]

theorem placesF_get {fs : Array Field} : ∀ {ps : List (Nat × Operand)} {l : List (Nat × Nat)}, placesF P fs ps = some l → ∀ (j : Nat) p q, l[j]? = some p → ps[j]? = some q → ∃ f s, fs[q.1]? = some f ∧ sizeT P f.type = some s ∧ p = (f.offset, s)
  | [], l, h, j, p, q, hp, hq => by simp at hq
  | (i, x) :: ps, l, h, j, p, q, hp, hq => by
    simp only [placesF, Option.bind_eq_some_iff, Option.some.injEq] at h
    obtain ⟨f, hf, s, hs, l', hl', rfl⟩ := h
    cases j with
    | zero => simp at hp hq; subst hp; subst hq; exact ⟨f, s, hf, hs, rfl⟩
    | succ j => exact placesF_get hl' j p q (by simpa using hp) (by simpa using hq)

theorem snd_build_struct {t : TypeId} {ps : Array (Nat × Operand)} {zs : List V} {fs : Array Field} {pl : List (Nat × Nat)} (ho : o.op = .build t ps) (hz : zeros P t = some zs) (hu : P.underlying t = some (.struct fs)) (hall : (fs.toList.all fun f => (P.info? f.type).isSome) = true) (hpl : placesF P fs ps.toList = some pl)
    (hok : Ok w S ρ β M) (hv : All2 (RepX w S ρ β M.H) vs ((ps.toList.map (·.2)).map a.eval)) (he : pureX (.build zs pl) vs = some v) :
    Outc w S ρ β M (.p (.build zs pl)) v M ((execOp a.eval o).run P w) := by
  obtain ⟨i, z, hi, hz1, hz2, hz3, hz4⟩ := zeros_rep hz
  simp only [pureX, Option.bind_eq_some_iff, Option.some.injEq] at he
  obtain ⟨cs, hcs, rfl⟩ := he
  have hmapM : (fs.mapM fun f => do pure (f.offset, ← sizeOf f.type) : Sem (Array (Nat × Nat))).run P w = .ok (fs.map fun f => (f.offset, ((P.info? f.type).map (·.size)).getD 0)) w := by
    rw [Array.mapM_eq_mapM_toList]
    simp only [Sem.run_map]
    rw [mapM_run (g := fun f => (f.offset, ((P.info? f.type).map (·.size)).getD 0)) w fs.toList (fun f hf => by
      have := List.all_eq_true.1 hall f hf
      obtain ⟨i, hi⟩ := Option.isSome_iff_exists.1 this
      simp [run_sizeOf hi, hi])]
    simp only [Result.andThen, ← Array.toList_map]
  obtain ⟨C', hC', hl'⟩ := fill_snd (place := fun k => (fs.map fun f => (f.offset, ((P.info? f.type).map (·.size)).getD 0))[k]?) (β := β) pl (ps.map fun (i, x) => (i, a.eval x)).toList vs zs cs z.cells hcs (hz4 w S ρ M.H)
    (by rw [parts_map]; simpa [List.map_map, Function.comp_def] using hv) (fun j p q hp hq => by
      rw [parts_map, List.getElem?_map] at hq
      obtain ⟨q', hq', rfl⟩ := Option.map_eq_some_iff.1 hq
      obtain ⟨f, s, hf, hs, rfl⟩ := placesF_get hpl j p q' hp hq'
      obtain ⟨i', hi', rfl⟩ := sizeT_some.1 hs
      simp [hf, hi'])
  refine .val hok (RepX.ofV hl'.mkAg) ?_
  simp only [execOp, ho, Instr.build, Sem.run_bind, run_zeroValue hi hz1, run_underlying hu, Result.andThen_ok, hmapM, hC']
  simp

theorem snd_build_array {t e : TypeId} {n : Nat} {ps : Array (Nat × Operand)} {zs : List V} {s : Nat} (ho : o.op = .build t ps) (hz : zeros P t = some zs) (hu : P.underlying t = some (.array n e)) (hs : sizeT P e = some s)
    (hok : Ok w S ρ β M) (hv : All2 (RepX w S ρ β M.H) vs ((ps.toList.map (·.2)).map a.eval)) (he : pureX (.build zs (ps.toList.map fun q => (q.1 * s, s))) vs = some v) :
    Outc w S ρ β M (.p (.build zs (ps.toList.map fun q => (q.1 * s, s)))) v M ((execOp a.eval o).run P w) := by
  obtain ⟨i, z, hi, hz1, hz2, hz3, hz4⟩ := zeros_rep hz
  obtain ⟨ie, hie, rfl⟩ := sizeT_some.1 hs
  simp only [pureX, Option.bind_eq_some_iff, Option.some.injEq] at he
  obtain ⟨cs, hcs, rfl⟩ := he
  obtain ⟨C', hC', hl'⟩ := fill_snd (place := fun k => some (k * ie.size, ie.size)) (β := β) _ (ps.map fun (i, x) => (i, a.eval x)).toList vs zs cs z.cells hcs (hz4 w S ρ M.H)
    (by rw [parts_map]; simpa [List.map_map, Function.comp_def] using hv) (fun j p q hp hq => by
      rw [parts_map, List.getElem?_map] at hq
      obtain ⟨q', hq', rfl⟩ := Option.map_eq_some_iff.1 hq
      rw [List.getElem?_map, hq'] at hp
      simpa using hp)
  refine .val hok (RepX.ofV hl'.mkAg) ?_
  simp only [execOp, ho, Instr.build, Sem.run_bind, run_zeroValue hi hz1, run_underlying hu, Result.andThen_ok, run_sizeOf hie, hC']
  simp

/-- The nil of a kind. -/
def nilVal : Nat → Value
  | 0 => .pointer none
  | 1 => .map none
  | 2 => .nilFunc
  | 3 => .nilIface
  | _ => .slice none 0 0

theorem isNilC_eq {k : Nat} {y : Operand} (h : isNilC k y = true) : y = .const (nilVal k) := by
  unfold isNilC at h
  split at h <;> first | rfl | cases h

theorem isNil_form {k : Nat} {x : V} {c : Value} {r : Bool} (h : isNil k x = some r) (hx : RepX w S ρ β H x c) :
    (k = 0 ∧ ∃ p : Option Addr, c = .pointer p ∧ r = p.isNone) ∨ (k = 1 ∧ ∃ p : Option Nat, c = .map p ∧ r = p.isNone) ∨ (k = 2 ∧ ((c = .nilFunc ∧ r = true) ∨ (∃ f u z, c = .func f u z) ∧ r = false)) ∨
    (k = 3 ∧ ((c = .nilIface ∧ r = true) ∨ (∃ t u, c = .iface t u) ∧ r = false)) ∨ (k = 4 ∧ ∃ (p : Option Addr) (n m : Nat), c = .slice p n m ∧ r = p.isNone) := by
  unfold isNil at h
  split at h <;> first | cases h | (simp only [Option.some.injEq] at h; subst h)
  · have hx := (RepX.toV rfl hx).imm; cases hx; exact .inl ⟨rfl, none, rfl, rfl⟩
  · have hx := (RepX.toV rfl hx).imm; cases hx; exact .inl ⟨rfl, some _, rfl, rfl⟩
  · have hx := RepX.toV rfl hx; cases hx; exact .inl ⟨rfl, some _, rfl, rfl⟩
  · exact .inl ⟨rfl, some _, hx, rfl⟩
  · have hx := (RepX.toV rfl hx).imm; cases hx; exact .inr (.inl ⟨rfl, none, rfl, rfl⟩)
  · have hx := (RepX.toV rfl hx).imm; cases hx; exact .inr (.inl ⟨rfl, some _, rfl, rfl⟩)
  · have hx := RepX.toV rfl hx; cases hx; exact .inr (.inl ⟨rfl, some _, rfl, rfl⟩)
  · have hx := (RepX.toV rfl hx).imm; cases hx; exact .inr (.inr (.inl ⟨rfl, .inl ⟨rfl, rfl⟩⟩))
  · have hx := (RepX.toV rfl hx).imm; cases hx; exact .inr (.inr (.inl ⟨rfl, .inr ⟨⟨_, _, _, rfl⟩, rfl⟩⟩))
  · have hx := RepX.toV rfl hx; cases hx; exact .inr (.inr (.inl ⟨rfl, .inr ⟨⟨_, _, _, rfl⟩, rfl⟩⟩))
  · have hx := (RepX.toV rfl hx).imm; cases hx; exact .inr (.inr (.inr (.inl ⟨rfl, .inl ⟨rfl, rfl⟩⟩)))
  · have hx := (RepX.toV rfl hx).imm; cases hx; exact .inr (.inr (.inr (.inl ⟨rfl, .inr ⟨⟨_, _, rfl⟩, rfl⟩⟩)))
  · have hx := (RepX.toV rfl hx).imm; cases hx; exact .inr (.inr (.inr (.inr ⟨rfl, none, _, _, rfl, rfl⟩)))
  · have hx := (RepX.toV rfl hx).imm
    cases hx with | sl _ ad cap esz b off cs hcap hm hsz ha hc hr =>
    obtain ⟨rfl, _⟩ := ha (by simp)
    exact .inr (.inr (.inr (.inr ⟨rfl, some _, _, _, rfl, rfl⟩)))
  · have hx := ls_imm (RepX.toV rfl hx)
    cases hx with | sl _ ad cap esz b off cs hcap hm hsz ha hc hr =>
    obtain ⟨rfl, _⟩ := ha (by simp)
    exact .inr (.inr (.inr (.inr ⟨rfl, some _, _, _, rfl, rfl⟩)))
  · have hx := RepX.toV rfl hx
    cases hx with | sl _ _ _ _ _ _ ty es base fz ad cap hrow h1 h2 h3 h4 h5 hn hb ha =>
    obtain ⟨p, rfl⟩ := hn (by omega)
    exact .inr (.inr (.inr (.inr ⟨rfl, some _, _, _, rfl, rfl⟩)))

theorem nil_run (d : Nat) {k : Nat} {x : V} {c : Value} {r : Bool} {t : TypeId} (h : isNil k x = some r) (hx : RepX w S ρ β H x c) (ht : nilT P t = some k) :
    (Op.equalIn (d + 1) t c (nilVal k)).run P w = .ok r w ∧ (Op.equalIn (d + 1) t (nilVal k) c).run P w = .ok r w := by
  have hU : ∃ d, P.underlying t = some d := by
    unfold nilT at ht
    cases hu : P.underlying t with
    | none => simp [hu] at ht
    | some d => exact ⟨d, rfl⟩
  obtain ⟨u, hu⟩ := hU
  simp only [nilT, hu] at ht
  rcases isNil_form h hx with ⟨rfl, p, rfl, rfl⟩ | ⟨rfl, p, rfl, rfl⟩ | ⟨rfl, hc⟩ | ⟨rfl, hc⟩ | ⟨rfl, p, n, m, rfl, rfl⟩
  · cases u <;> simp at ht
    simp only [Op.equalIn, nilVal, Sem.run_bind, run_underlying hu, Result.andThen_ok]
    cases p <;> simp
  · cases u <;> simp at ht
    simp only [Op.equalIn, nilVal, Sem.run_bind, run_underlying hu, Result.andThen_ok]
    cases p <;> simp
  · cases u <;> simp at ht
    simp only [Op.equalIn, nilVal, Sem.run_bind, run_underlying hu, Result.andThen_ok]
    rcases hc with ⟨rfl, rfl⟩ | ⟨⟨f, u, z, rfl⟩, rfl⟩ <;> simp
  · cases u <;> simp at ht
    simp only [Op.equalIn, nilVal, Sem.run_bind, run_underlying hu, Result.andThen_ok]
    rcases hc with ⟨rfl, rfl⟩ | ⟨⟨f, u, rfl⟩, rfl⟩ <;> simp
  · cases u <;> simp at ht
    simp only [Op.equalIn, nilVal, Sem.run_bind, run_underlying hu, Result.andThen_ok]
    cases p <;> simp

theorem guard_nil {op : BinOp} {t : TypeId} {x y : Operand} {c c' : Value} (h : ∀ xs, c ≠ .agg xs) (hc : (∃ u, x = .const u) ∨ ∃ u, y = .const u) : (eqGuard op t x y c c').run P w = .ok () w := by
  rcases hc with ⟨u, rfl⟩ | ⟨u, rfl⟩ <;> cases c <;> first | exact absurd rfl (h _) | (cases op <;> rfl) | (cases c' <;> cases op <;> first | rfl | (cases x <;> rfl))

theorem isNil_not {k : Nat} {x : V} {c : Value} {r : Bool} (h : isNil k x = some r) (hx : RepX w S ρ β H x c) :
    (∀ k n, c ≠ .int k n) ∧ (∀ k p q, c ≠ .complex k p q) ∧ (∀ k n, c ≠ .float k n) ∧ (∀ s, c ≠ .string s) ∧ ∀ xs, c ≠ .agg xs := by
  rcases isNil_form h hx with ⟨rfl, p, rfl, rfl⟩ | ⟨rfl, p, rfl, rfl⟩ | ⟨rfl, ⟨rfl, rfl⟩ | ⟨⟨f, u, z, rfl⟩, rfl⟩⟩ | ⟨rfl, ⟨rfl, rfl⟩ | ⟨⟨f, u, rfl⟩, rfl⟩⟩ | ⟨rfl, p, n, m, rfl, rfl⟩ <;> simp

theorem snd_eqn {neg : Bool} {k : Nat} {t ty : TypeId} {x y z : Operand} (ho : o.op = .binOp (eqOp neg) t x y ty) (ht : nilT P t = some k) (hz : (isNilC k y = true ∧ z = x) ∨ (isNilC k x = true ∧ z = y)) (hok : Ok w S ρ β M) (hv : All2 (RepX w S ρ β M.H) vs [a.eval z]) (he : pureX (.eqn neg k) vs = some v) :
    Outc w S ρ β M (.p (.eqn neg k)) v M ((execOp a.eval o).run P w) := by
  cases hv with | cons h t1 =>
  cases t1
  simp only [pureX, vb, Option.bind_eq_some_iff, Option.some.injEq] at he
  obtain ⟨r, hr, rfl⟩ := he
  obtain ⟨e1, e2⟩ := nil_run (P := P) 9999 hr h ht
  obtain ⟨n1, n2, n3, n4, n5⟩ := isNil_not hr h
  refine .val hok (RepX.ofV (.m (.b (xor neg r)))) ?_
  have hnv : (∀ j n, nilVal k ≠ .int j n) ∧ (∀ j p q, nilVal k ≠ .complex j p q) ∧ (∀ j n, nilVal k ≠ .float j n) ∧ (∀ s, nilVal k ≠ .string s) ∧ ∀ xs, nilVal k ≠ .agg xs := by
    unfold nilVal
    split <;> simp
  rcases hz with ⟨hn, rfl⟩ | ⟨hn, rfl⟩
  · have hy := isNilC_eq hn
    have hye : a.eval y = nilVal k := by rw [hy]; rfl
    have := run_eql (P := P) (w := w) (x := z) (y := y) (neg := neg) n1 n2 n3 n4 (guard_nil n5 (.inr ⟨_, hy⟩)) e1
    simp only [execOp, ho, hye]
    rw [Sem.run_bind, this]
    rfl
  · have hx := isNilC_eq hn
    have hxe : a.eval x = nilVal k := by rw [hx]; rfl
    have := run_eql (P := P) (w := w) (x := x) (y := z) (neg := neg) hnv.1 hnv.2.1 hnv.2.2.1 hnv.2.2.2.1 (guard_nil hnv.2.2.2.2 (.inl ⟨_, hx⟩)) e2
    simp only [execOp, ho, hxe]
    rw [Sem.run_bind, this]
    rfl
end
end Go.Mx
