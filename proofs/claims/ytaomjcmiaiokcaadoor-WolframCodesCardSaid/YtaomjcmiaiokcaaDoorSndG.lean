/- Operations that read memory: each against the model's. -/
import Derived.Test.YtaomjcmiaiokcaaDoorKey
namespace Go.Mx
section
variable {P : Program} {w : World} {S : Nat → Prop} {ρ β : Nat → Nat} {M : Mem} {H : Hp} {o : Oper} {a : Act} {vs : List V} {v : V}

theorem takeN_eq {n : Nat} {xs l : List V} (h : takeN n xs = some l) : l = xs.take n ∧ l.length = n := by
  simp only [takeN, gd_some, Nat.beq_eq, Option.some.injEq] at h
  exact ⟨h.2.symm, by rw [← h.2]; exact h.1⟩

theorem readR_eq {esz ix off sz : Nat} {es : List (List V)} {l : List V} (hu : Uni esz es) (h : readR esz es ix off sz = some l) : l = (es.flatten.drop (ix * esz + off)).take sz ∧ l.length = sz := by
  unfold readR at h
  split at h
  · rename_i hb
    rw [Nat.ble_eq] at hb
    simp only [Option.bind_eq_some_iff, nth_eq] at h
    obtain ⟨e, he, ht⟩ := h
    obtain ⟨rfl, hl⟩ := takeN_eq ht
    refine ⟨?_, hl⟩
    rw [flat_get hu he, List.drop_take, List.take_take, Nat.min_eq_left (by omega), List.drop_drop]
    congr 2
    have := Nat.div_add_mod off esz
    rw [Nat.add_mul, Nat.mul_comm (off / esz) esz]
    omega
  · exact takeN_eq h

/-- What lies at an address. -/
theorem readA_snd {sz : Nat} {x : V} {c : Value} {cs : List V} (hok : Ok w S ρ β M) (hx : RepX w S ρ β M.H x c) (h : readA M sz x = some cs) :
    ∃ b off cells, c = .pointer (some ⟨b, off, none⟩) ∧ cells.length = sz ∧ RepL w S ρ M.H cs cells ∧ (∀ (j : Nat) u, cells[j]? = some u → w.cell? ⟨b, off + j, none⟩ = some u) ∧ (noFaV x = true → S b ∨ ∃ r, r < M.H.length ∧ b = ρ r ∧ ref1 x = [r]) := by
  unfold readA at h
  split at h
  · rename_i d off
    simp only [Option.bind_eq_some_iff] at h
    obtain ⟨cs0, h0, ht⟩ := h
    obtain ⟨cur, T, hh, hr⟩ := hok.boxes d cs0 h0
    obtain ⟨rfl, hl⟩ := takeN_eq ht
    have hR := (hr.drop off).take sz
    refine ⟨β d, off, _, hx, by rw [hR.1]; exact hl, hR, fun j u hj => ?_, by simp [noFaV]⟩
    rw [List.getElem?_take] at hj
    split at hj
    · rw [List.getElem?_drop] at hj
      rw [cell_of_row w _ _ cur T _ hh]
      simpa using hj
    · cases hj
  · rename_i r ver ix off
    simp only [Option.bind_eq_some_iff, nth_eq] at h
    obtain ⟨row, hrow, h⟩ := h
    split at h
    · rename_i ty esz es base fz
      simp only [gd_some, Bool.and_eq_true, Bool.or_eq_true, Nat.ble_eq, Nat.beq_eq] at h
      obtain ⟨⟨hbv, hsz⟩, ht⟩ := h
      have hx := RepX.toV rfl hx
      cases hx with | pt _ _ _ _ ty' esz' es' base' fz' p hrow' h2 hix hb =>
      rw [hrow] at hrow'
      simp only [Option.some.injEq, Row.cs.injEq] at hrow'
      obtain ⟨rfl, rfl, rfl, rfl, rfl⟩ := hrow'
      obtain ⟨b, rfl, hA⟩ := hb hbv
      obtain ⟨_, hpos, hU, _, _, cur, cap, mk, hh, _, hcs, hcap, _, hr⟩ := hok.rows r _ hrow
      obtain ⟨hl1, hl2⟩ := readR_eq hU ht
      subst hl1
      have hR := (hr.drop (ix * esz + off)).take sz
      have key : ∀ (j : Nat) u, (((cur.toList.take (es.length * esz)).drop (ix * esz + off)).take sz)[j]? = some u → w.cell? ⟨ρ r, ix * esz + off + j, none⟩ = some u := fun j u hj => by
        rw [List.getElem?_take] at hj
        split at hj
        · rw [List.getElem?_drop, List.getElem?_take] at hj
          split at hj
          · rw [cell_of_row w _ _ cur _ mk hh]
            simpa using hj
          · cases hj
        · cases hj
      refine ⟨b, ix * esz + off, _, rfl, by rw [hR.1]; exact hl2, hR, fun j u hj => ?_, fun _ => ?_⟩
      rotate_left
      · rcases hA with rfl | ⟨hSb, _⟩
        · exact .inr ⟨r, (List.getElem?_eq_some_iff.1 hrow).1, rfl, rfl⟩
        · exact .inl hSb
      rcases hA with rfl | ⟨_, hne, hcell⟩
      · exact key j u hj
      · have hlt : j < sz := by
          have := (List.getElem?_eq_some_iff.1 hj).1
          rw [List.length_take] at this
          omega
        rcases hsz with hsz | hsz
        · have : ix * esz + esz ≤ ver * esz := by
            have := Nat.mul_le_mul_right esz (Nat.succ_le_of_lt hix)
            rw [Nat.succ_mul] at this
            exact this
          rw [hcell _ (by omega)]
          exact key j u hj
        · exact absurd hsz hne
    · cases h
  · rename_i xs
    obtain ⟨rfl, hl⟩ := takeN_eq h
    have hx := (RepX.toV rfl hx).imm
    cases hx with | pt _ b off c hS hc hr =>
    have hlen : sz ≤ xs.length := by rw [List.length_take, List.length_map] at hl; omega
    refine ⟨b, off, (List.range sz).map c, rfl, by simp, ⟨by simp; omega, fun j y hj => ?_⟩, fun j u hj => ?_, fun _ => .inl hS⟩
    · rw [List.getElem?_take] at hj
      split at hj
      · rename_i hlt
        rw [List.getElem?_map] at hj
        obtain ⟨z, hz, rfl⟩ := Option.map_eq_some_iff.1 hj
        exact ⟨c j, by simp [hlt], .m (hr j z hz)⟩
      · cases hj
    · have hlt : j < sz := by have := (List.getElem?_eq_some_iff.1 hj).1; simpa using this
      have hz : xs[j]? = some xs[j] := List.getElem?_eq_getElem (by omega)
      rw [hc j _ hz]
      simp [hlt] at hj
      rw [hj]
  · cases h

theorem run_loadVar {t : TypeId} {ag : Bool} {i : TypeInfo} (hag : aggT P t = some ag) (hi : P.info? t = some i) (hs : ag = true ∨ i.size = 1) {b off : Nat} {cells : List Value} (hl : cells.length = i.size) (hc : ∀ (j : Nat) u, cells[j]? = some u → w.cell? ⟨b, off + j, none⟩ = some u)
    {cs : List V} (hr : RepL w S ρ H cs cells) (hv : valOf ag cs = some v) : ∃ c, (loadVar t ⟨b, off, none⟩).run P w = .ok c w ∧ RepV w S ρ H v c := by
  rcases valOf_rep (cs := cells.toArray) (by simpa using hr) hv with ⟨rfl, h4⟩ | ⟨rfl, c, hcs, h4⟩
  · refine ⟨_, ?_, h4⟩
    have := run_loadCells_list (P := P) w ⟨b, off, none⟩ cells (fun j u hj => by rw [addr_add]; exact hc j u hj)
    rw [hl] at this
    simp only [loadVar, Sem.run_bind, run_isAgg hag, Result.andThen_ok, if_true, run_sizeOf hi, this, Sem.run_pure]
  · refine ⟨c, ?_, h4⟩
    have hce : cells = [c] := by simpa using congrArg Array.toList hcs
    subst hce
    have := hc 0 c rfl
    simp only [Nat.add_zero] at this
    simp [loadVar, run_isAgg hag, this, run_load, Result.andThen]

theorem snd_ld {t : TypeId} {x : Operand} {ag : Bool} {s : Nat} (ho : o.op = .load t x) (hag : aggT P t = some ag) (hs : sizeT P t = some s) (hs1 : ag = true ∨ s = 1) (hok : Ok w S ρ β M) (hv : All2 (RepX w S ρ β M.H) vs [a.eval x]) (he : readX M (.ld ag s) vs = some v) :
    Outc w S ρ β M (.r (.ld ag s)) v M ((execOp a.eval o).run P w) := by
  cases hv with | cons h t1 =>
  cases t1
  obtain ⟨i, hi, rfl⟩ := sizeT_some.1 hs
  simp only [readX, Option.bind_eq_some_iff] at he
  obtain ⟨cs, hcs, hvo⟩ := he
  obtain ⟨b, off, cells, hx, hl, hR, hc, _⟩ := readA_snd hok h hcs
  obtain ⟨c, hrun, hrep⟩ := run_loadVar (P := P) (w := w) hag hi hs1 hl hc hR hvo
  refine .val hok (RepX.ofV hrep) ?_
  simp [execOp, ho, hx, Instr.loadAt, Instr.sureAddr, hrun]

theorem pairs_get : ∀ {es : List (List I)} {l : List (I × V)}, pairs es = some l → l.length = es.length ∧ ∀ (j : Nat) k x, l[j]? = some (k, x) → ∃ y, x = .m y ∧ es[j]? = some [k, y]
  | [], l, h => by simp [pairs] at h; subst h; simp
  | [k, x] :: r, l, h => by
    simp only [pairs, Option.bind_eq_some_iff, Option.some.injEq] at h
    obtain ⟨l', hl', rfl⟩ := h
    obtain ⟨h1, h2⟩ := pairs_get hl'
    refine ⟨by simp [h1], fun j k' x' hj => ?_⟩
    cases j with
    | zero => simp at hj; obtain ⟨rfl, rfl⟩ := hj; exact ⟨x, rfl, rfl⟩
    | succ j => simpa using h2 j k' x' (by simpa using hj)
  | [] :: _, _, h => by simp [pairs] at h
  | [_] :: _, _, h => by simp [pairs] at h
  | (_ :: _ :: _ :: _) :: _, _, h => by simp [pairs] at h

theorem All2.ofGet {α β : Type} {R : α → β → Prop} : ∀ {l : List α} {m : List β}, m.length = l.length → (∀ (j : Nat) x, l[j]? = some x → ∃ y, m[j]? = some y ∧ R x y) → All2 R l m
  | [], [], _, _ => .nil
  | [], _ :: _, h, _ => by simp at h
  | _ :: _, [], h, _ => by simp at h
  | x :: l, y :: m, h, hr => by
    obtain ⟨y', hy, hxy⟩ := hr 0 x rfl
    simp at hy
    subst hy
    exact .cons hxy (All2.ofGet (by simpa using h) fun j x' hj => by simpa using hr (j + 1) x' (by simpa using hj))

theorem All2.get {α β : Type} {R : α → β → Prop} : ∀ {l : List α} {m : List β}, All2 R l m → ∀ (j : Nat) x, l[j]? = some x → ∃ y, m[j]? = some y ∧ R x y
  | _, _, .nil, j, x, h => by simp at h
  | _, _, .cons hxy t, 0, x, h => by simp at h; subst h; exact ⟨_, rfl, hxy⟩
  | _, _, .cons hxy t, j + 1, x, h => by simpa using t.get j x (by simpa using h)

/-- A map as it lies. -/
theorem mapOf_snd {x : V} {c : Value} {es : List (I × V)} (hok : Ok w S ρ β M) (hx : RepX w S ρ β M.H x c) (h : mapOf M.H x = some es) :
    (c = .map none ∧ es = []) ∨ ∃ r ents clock, c = .map (some r) ∧ w.heap[r]? = some (.map ents clock) ∧ Ents w S ρ M.H es ents.toList := by
  unfold mapOf at h
  split at h
  · simp only [Option.some.injEq] at h
    subst h
    have := (RepX.toV rfl hx).imm
    cases this
    exact .inl ⟨rfl, rfl⟩
  · rename_i l
    have := (RepX.toV rfl hx).imm
    obtain ⟨h1, h2⟩ := pairs_get h
    cases this with | mp _ r ents clock ks xs hS hw hl hp hk hxx hkr hxr =>
    refine .inr ⟨r, ents, clock, rfl, hw, All2.ofGet (by simp; omega) fun j p hj => ?_⟩
    obtain ⟨k, x⟩ := p
    obtain ⟨y, rfl, hy⟩ := h2 j k x hj
    have a1 := hk j k y hy
    have a2 := hxx j k y hy
    cases hen : ents[j]? with
    | none => simp [hen] at a1
    | some e =>
      simp only [hen, Option.map_some, Option.some.injEq] at a1 a2
      exact ⟨e, by simpa using hen, by rw [a1]; exact hkr j k y hy, by rw [a2]; exact .m (hxr j k y hy)⟩
  · rename_i r
    simp only [Option.bind_eq_some_iff, nth_eq] at h
    obtain ⟨row, hrow, h⟩ := h
    split at h
    · rename_i es' fz
      simp only [Option.some.injEq] at h
      subst h
      have := RepX.toV rfl hx
      cases this
      obtain ⟨_, _, ents, clock, hh, hl, hE⟩ := hok.rows r _ hrow
      exact .inr ⟨ρ r, ents, clock, rfl, hh, All2.ofGet (by simpa using hl) fun j p hj => by
        obtain ⟨ent, h1, h2⟩ := hE j p.1 p.2 hj
        exact ⟨ent, by simpa using h1, h2⟩⟩
    · cases h
  · cases h

theorem keyV_eq {x : V} {k : I} (h : keyV x = some k) : x = .m k := by cases x <;> simp [keyV] at h; rw [h]

/-- What a lookup does once the entries are at hand. -/
def lookTail (k e : TypeId) (y : Value) (ok : Bool) (es : Array MapEntry) : Sem Value := do
  Instr.checkKey es.isEmpty 10000 k y
  let (v, b) ← match ← Instr.findKey k y es.toList with
    | some (_, v) => pure (v, true)
    | none => pure (← zeroValue e, false)
  pure (if ok then .tuple #[v, .bool b] else v)

theorem zeroAg_val {t : TypeId} {ag : Bool} {i : TypeInfo} {z : Value} {zs : List V} {v0 : V} (hi : P.info? t = some i) (hz : i.zero = some z) (hg : zeroAg P t ag = true) (hr : RepL w S ρ H zs z.cells.toList) (hv : valOf ag zs = some v0) : RepV w S ρ H v0 z := by
  simp only [zeroAg, hi, Option.bind_some, hz] at hg
  cases z with
  | agg cs =>
    simp only at hg
    subst hg
    rcases valOf_rep (cs := cs) hr hv with ⟨_, h4⟩ | ⟨h, _⟩
    · exact h4
    · cases h
  | _ =>
    simp only [Bool.not_eq_true'] at hg
    subst hg
    rcases valOf_rep (cs := #[_]) hr hv with ⟨h, _⟩ | ⟨_, c, hc, h4⟩
    · cases h
    · simp at hc
      rw [hc]
      exact h4

theorem lookTail_snd {k e : TypeId} {ok ag : Bool} {kt : KT} {zs : List V} {key : I} {cy : Value} {es : List (I × V)} {ents : Array MapEntry} {q : Option V} (hz : zeros P e = some zs) (hg : zeroAg P e ag = true) (hkt : keyT P k = some kt)
    (hkr : RepI w S key cy) (hoky : okKey kt key = true) (hE : Ents w S ρ H es ents.toList) (hq : findK kt key es = some q)
    (he : lkpR zs ag ok q = some v) : ∃ c, (lookTail k e cy ok ents).run P w = .ok c w ∧ RepV w S ρ H v c := by
  obtain ⟨i, z, hi, hz1, hz2, hz3, hz4⟩ := zeros_rep hz
  obtain ⟨p, hp, rfl⟩ := findK_pos hq
  have hck := run_checkKey_ok (P := P) (w := w) ents.isEmpty hkt hoky hkr
  have hfk := run_findKey_pos (P := P) hkt hkr hoky hE hp
  have fin : ∀ (x : V) (c : Value) (b : Bool), RepV w S ρ H x c → RepV w S ρ H (okT ok x b) (if ok = true then .tuple #[c, .bool b] else c) := fun x c b hx => by
    cases ok
    · simpa [okT] using hx
    · exact RepL.toTu (cs := #[c, .bool b]) (.cons hx (.cons (.m (.b b)) .nil))
  cases p with
  | none =>
    simp only [Option.bind_none, lkpR, Option.bind_eq_some_iff, Option.some.injEq] at he
    obtain ⟨v0, hv0, rfl⟩ := he
    refine ⟨_, ?_, fin v0 z false (zeroAg_val hi hz1 hg (hz4 w S ρ H) hv0)⟩
    simp [lookTail, hck, hfk, ansAt, run_zeroValue hi hz1]
  | some j =>
    simp only [Option.bind_some] at he
    cases hej : es[j]? with
    | none =>
      have hn : ents.toList[j]? = none := by
        rw [List.getElem?_eq_none_iff] at hej ⊢
        rw [← All2.length hE]
        exact hej
      simp only [hej, Option.map_none, lkpR, Option.bind_eq_some_iff, Option.some.injEq] at he
      obtain ⟨v0, hv0, rfl⟩ := he
      refine ⟨_, ?_, fin v0 z false (zeroAg_val hi hz1 hg (hz4 w S ρ H) hv0)⟩
      have : ansAt ents.toList 0 (some j) = none := by simp only [ansAt, Option.bind_some, hn, Option.map_none]
      simp [lookTail, hck, hfk, this, run_zeroValue hi hz1]
    | some kx =>
      obtain ⟨k0, x⟩ := kx
      obtain ⟨ent, h1, _, h2⟩ := All2.get hE j _ hej
      simp only [hej, Option.map_some, lkpR, Option.some.injEq] at he
      subst he
      refine ⟨_, ?_, fin x ent.val true h2⟩
      have : ansAt ents.toList 0 (some j) = some (0 + j, ent.val) := by simp only [ansAt, Option.bind_some, h1, Option.map_some]
      simp [lookTail, hck, hfk, this]

theorem snd_lkp {t k e : TypeId} {x y : Operand} {ok ag : Bool} {kt : KT} {zs : List V} (ho : o.op = .lookup t x y ok) (hu : P.underlying t = some (.map k e)) (hz : zeros P e = some zs) (hg : zeroAg P e ag = true) (hkt : keyT P k = some kt)
    (hok : Ok w S ρ β M) (hv : All2 (RepX w S ρ β M.H) vs [a.eval x, a.eval y]) (he : readX M (.lkp kt zs ag ok) vs = some v) :
    Outc w S ρ β M (.r (.lkp kt zs ag ok)) v M ((execOp a.eval o).run P w) := by
  cases hv with | cons h t1 =>
  cases t1 with | cons h1 t2 =>
  cases t2
  simp only [readX, Option.bind_eq_some_iff, gd_some] at he
  obtain ⟨es, hes, key, hkey, q, ⟨hoky, hq⟩, he⟩ := he
  have hke := keyV_eq hkey
  subst hke
  have hkr := (RepX.toV rfl h1).imm
  rcases mapOf_snd hok h hes with ⟨hc, rfl⟩ | ⟨r, ents, clock, hc, hw, hE⟩
  · obtain ⟨c, hrun, hrep⟩ := lookTail_snd (P := P) (v := v) (ents := #[]) hz hg hkt hkr hoky .nil hq he
    refine .val hok (RepX.ofV hrep) ?_
    have : (Instr.lookup t (.map none) (a.eval y) ok).run P w = .ok c w := by
      rw [← hrun]
      simp [Instr.lookup, lookTail, run_underlying hu]
      rfl
    simp [execOp, ho, hc, this]
  · obtain ⟨c, hrun, hrep⟩ := lookTail_snd (P := P) (v := v) hz hg hkt hkr hoky hE hq he
    refine .val hok (RepX.ofV hrep) ?_
    have : (Instr.lookup t (.map (some r)) (a.eval y) ok).run P w = .ok c w := by
      rw [← hrun]
      simp [Instr.lookup, lookTail, run_underlying hu, MapKept.run_getObj_map hw]
      rfl
    simp [execOp, ho, hc, this]

theorem snd_lenm {c : Go.Call} {t k e : TypeId} (ho : o.op = .call c) (hb : c.callee = .builtin .len) (ht : c.argTypes[0]? = some t) (hu : P.underlying t = some (.map k e)) (hok : Ok w S ρ β M) (hv : All2 (RepX w S ρ β M.H) vs (c.args.toList.map a.eval)) (he : readX M .lenm vs = some v) :
    Outc w S ρ β M (.r .lenm) v M ((execOp a.eval o).run P w) := by
  cases vs with
  | nil => simp [readX] at he
  | cons x r =>
    cases r with
    | cons y r => simp [readX] at he
    | nil =>
      obtain ⟨c0, hargs, h⟩ := hv.inv1
      have hm := args1 hargs
      simp only [readX, vi, Option.bind_eq_some_iff, Option.some.injEq] at he
      obtain ⟨es, hes, rfl⟩ := he
      rcases mapOf_snd hok h hes with ⟨rfl, rfl⟩ | ⟨r, ents, clock, rfl, hw, hE⟩
      · exact .val hok (RepX.ofV (.m (.i _ _))) (run_call_builtin ho hb (fun _ => by rw [hm]; rfl) (by simp [Builtin.len_, ht, run_underlying hu, goInt]))
      · have hl := All2.length hE
        refine .val hok (RepX.ofV (.m (.i _ _))) (run_call_builtin ho hb (fun _ => by rw [hm]; rfl) ?_)
        simp only [Array.length_toList] at hl
        simp [Builtin.len_, ht, run_underlying hu, MapKept.run_getObj_map hw, goInt, hl]
end
end Go.Mx
