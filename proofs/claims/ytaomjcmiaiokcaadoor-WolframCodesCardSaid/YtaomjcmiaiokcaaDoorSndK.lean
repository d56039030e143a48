/- Maps that turn; slice literals whose parts are frozen. -/
import Derived.Test.YtaomjcmiaiokcaaDoorSndJ
namespace Go.Mx
section
variable {P : Program} {w : World} {S : Nat → Prop} {ρ β : Nat → Nat} {M M' : Mem} {H : Hp} {o : Oper} {a : Act} {vs : List V} {v : V} {call : Call}

theorem ρ_self (r : Nat) : (fun k => if k = r then ρ r else ρ k) = ρ := by
  funext k
  by_cases c : k = r
  · rw [if_pos c, c]
  · rw [if_neg c]

theorem sameBits_cell (n : Nat) {k : Nat} {x y : I} {c c' : Value} (h : eqC k x y = some true) (hx : RepI w S x c) (hy : RepI w S y c') : Instr.sameBits n c' c = true := by
  rcases eqC_run h hx hy with ⟨_, p, q, rfl, rfl, e⟩ | ⟨_, j, p, q, rfl, rfl, e⟩ | ⟨_, p, q, rfl, rfl, e⟩
  · have : p = q := eq_of_beq e.symm
    subst this
    cases n <;> simp [Instr.sameBits]
  · have : p = q := eq_of_beq e.symm
    subst this
    cases n <;> simp [Instr.sameBits]
  · have e' := e.symm
    rw [beq_toListBytes] at e'
    have : (q == p) = true := by rw [beq_toListBytes, eq_of_beq e']; simp
    cases n <;> simpa [Instr.sameBits] using this

theorem sameBits_cells (n : Nat) : ∀ (ks : List Nat) (xs ys : List I) (cs cs' : List Value), eqCs ks xs ys = some true → LI w S xs cs → LI w S ys cs' → ((cs'.zip cs).all fun p => Instr.sameBits n p.1 p.2) = true
  | [], xs, ys, cs, cs', h, hx, hy => by
    have hl := eqCs_len _ _ _ _ h
    have h2 := hy.len
    have : cs' = [] := List.eq_nil_of_length_eq_zero (by rw [h2, hl.2]; rfl)
    subst this
    rfl
  | k :: ks, [], ys, cs, cs', h, hx, hy => by simp [eqCs] at h
  | k :: ks, x :: xs, [], cs, cs', h, hx, hy => by simp [eqCs] at h
  | k :: ks, x :: xs, y :: ys, cs, cs', h, hx, hy => by
    simp only [eqCs, Option.bind_eq_some_iff, Option.some.injEq, Bool.and_eq_true] at h
    obtain ⟨r, hr, rs, hrs, rfl, rfl⟩ := h
    obtain ⟨c, cs, rfl, h1, h2⟩ := RepL.inv_cons (xs := xs.map .m) hx
    obtain ⟨c', cs', rfl, h3, h4⟩ := RepL.inv_cons (xs := ys.map .m) hy
    simp only [List.zip_cons_cons, List.all_cons, Bool.and_eq_true]
    exact ⟨sameBits_cell n hr h1.imm h3.imm, sameBits_cells n ks xs ys cs cs' hrs h2 h4⟩

theorem sameBits_key {kt : KT} {x y : I} {c c' : Value} (h : eqKey kt x y = some true) (hx : RepI w S x c) (hy : RepI w S y c') : Instr.sameBits 10000 c' c = true := by
  unfold eqKey at h
  split at h
  · split at h
    · rename_i xs ys
      obtain ⟨cs, rfl, lx⟩ := RepV.ofAgI (ρ := id) (H := []) (.m hx)
      obtain ⟨cs', rfl, ly⟩ := RepV.ofAgI (ρ := id) (H := []) (.m hy)
      have hl := eqCs_len _ _ _ _ h
      have h1 := (LI.ofL lx).len
      have h2 := (LI.ofL ly).len
      have := sameBits_cells 9999 _ _ _ _ _ h (.ofL lx) (.ofL ly)
      simp only [Array.length_toList] at h1 h2
      have hs : (cs'.size == cs.size) = true := by rw [h1, h2, hl.1, hl.2]; simp
      show ((cs'.size == cs.size) && (cs'.toList.zip cs.toList).all fun (x, y) => Instr.sameBits 9999 x y) = true
      rw [hs]
      exact this
    · cases h
  · split at h
    · exact sameBits_cell _ h hx hy
    · cases h

theorem posK_get {kt : KT} {key : I} : ∀ {es : List (I × V)} {i : Nat}, posK kt key es = some (some i) → ∃ p, es[i]? = some p ∧ eqKey kt key p.1 = some true
  | [], i, h => by simp [posK] at h
  | (k, x) :: es, i, h => by
    simp only [posK, Option.bind_eq_some_iff] at h
    obtain ⟨b, hb, h⟩ := h
    cases b with
    | true => simp at h; subst h; exact ⟨_, rfl, hb⟩
    | false =>
      simp only [Option.bind_eq_some_iff, Option.some.injEq] at h
      obtain ⟨q, hq, hqi⟩ := h
      cases q with
      | none => simp at hqi
      | some j =>
        simp at hqi
        subst hqi
        simpa using posK_get hq

theorem grown_setMap (w : World) (r : Nat) (x : Obj) : w.grownBy { w with heap := w.heap.setIfInBounds r x } (some r) :=
  ⟨rfl, rfl, rfl, by simp, fun k _ hk => by
    have : r ≠ k := fun e => hk (by rw [e])
    simp [this]⟩

/-- A map whose entries turn. -/
theorem map_snd {r : Nat} {es es' : List (I × V)} {ents ents' : Array MapEntry} {clock clock' : Nat} (hok : Ok w S ρ β M) (hrow : M.H[r]? = some (.mp es false)) (hh : w.heap[ρ r]? = some (.map ents clock)) (hE : Ents w S ρ M.H es' ents'.toList) :
    Ok { w with heap := w.heap.setIfInBounds (ρ r) (.map ents' clock') } S ρ β { M with H := M.H.set r (.mp es' false) } ∧ Stp w S ρ β M { w with heap := w.heap.setIfInBounds (ρ r) (.map ents' clock') } S ρ (M.H.set r (.mp es' false)) := by
  obtain ⟨_, hns, _⟩ := hok.rows r _ hrow
  have hnS := hns rfl
  have hlt := (Array.getElem?_eq_some_iff.1 hh).1
  have key := Ok.setRow (w' := { w with heap := w.heap.setIfInBounds (ρ r) (.map ents' clock') }) (S' := S) (g := ρ r) (row' := .mp es' false) hok hrow (grown_setMap w _ _) (.inl rfl) (fun _ h => h) (fun b h => .inl h)
    (fun b hb => by
      have : ρ r ≠ b := fun e => hnS (e ▸ hb)
      simp [this])
    (fun ty1 esz1 es1 base1 fz1 e => by cases e)
    (fun es1 fz1 e => ⟨rfl, es', false, rfl⟩)
    (fun hto => by
      rw [ρ_self] at hto ⊢
      refine ⟨fun e => (by cases e), fun _ => hnS, ents', clock', by simp [hlt], by have := All2.length hE; simpa using this.symm, fun j k x hj => ?_⟩
      obtain ⟨ent, h1, h2, h3⟩ := All2.get hE j _ hj
      exact ⟨ent, by simpa using h1, h2.mono hto.hw hto.hS, h3.mono hto⟩)
  rw [ρ_self] at key
  exact key

theorem Ents.ofRow {r : Nat} {es : List (I × V)} {fz : Bool} (hok : Ok w S ρ β M) (hrow : M.H[r]? = some (.mp es fz)) : ∃ ents clock, w.heap[ρ r]? = some (.map ents clock) ∧ Ents w S ρ M.H es ents.toList := by
  obtain ⟨_, _, ents, clock, hh, hl, hE⟩ := hok.rows r _ hrow
  exact ⟨ents, clock, hh, All2.ofGet (by simpa using hl) fun j p hj => by
    obtain ⟨ent, h1, h2⟩ := hE j p.1 p.2 hj
    exact ⟨ent, by simpa using h1, h2⟩⟩

theorem snd_mup {t kt0 e : TypeId} {m k x : Operand} {kt : KT} (ho : o.op = .mapUpdate t m k x ∨ o.op = .insert t m k x) (hu : P.underlying t = some (.map kt0 e)) (hkt : keyT P kt0 = some kt)
    (hok : Ok w S ρ β M) (hv : All2 (RepX w S ρ β M.H) vs [a.eval m, a.eval k, a.eval x]) (he : loudX call M (.mup kt) vs = some (v, M')) :
    Outc w S ρ β M (.l (.mup kt)) v M' ((execOp a.eval o).run P w) := by
  cases hv with | cons h t1 =>
  cases t1 with | cons h1 t2 =>
  cases t2 with | cons h2 t3 =>
  cases t3
  simp only [loudX] at he
  split at he
  · rename_i r
    simp only [Option.bind_eq_some_iff, nth_eq] at he
    obtain ⟨row, hrow, he⟩ := he
    split at he
    · rename_i es
      simp only [Option.bind_eq_some_iff, gd_some, Bool.and_eq_true, Option.some.injEq, Prod.mk.injEq] at he
      obtain ⟨key, hkey, ⟨hfa, hoky⟩, es', hes', H', hH', rfl, rfl⟩ := he
      have hke := keyV_eq hkey
      subst hke
      obtain ⟨hrl, rfl⟩ := setEl_eq hH'
      have hkr := (RepX.toV rfl h1).imm
      have hxv := RepX.toV hfa h2
      have hm : a.eval m = .map (some (ρ r)) := by
        have := RepX.toV rfl h
        generalize a.eval m = c at this
        cases this
        rfl
      obtain ⟨ents, clock, hh, hE⟩ := Ents.ofRow hok hrow
      obtain ⟨p, hp, rfl⟩ := updK_pos hes'
      have hck := run_checkKey_ok (P := P) (w := w) false hkt hoky hkr
      have hfk := run_findKey_pos (P := P) hkt hkr hoky hE hp
      have main : ∀ ents' clock', (Instr.mapUpdate t (.map (some (ρ r))) (a.eval k) (a.eval x)).run P w = .ok () { w with heap := w.heap.setIfInBounds (ρ r) (.map ents' clock') } → ∀ es', Ents w S ρ M.H es' ents'.toList →
          Outc w S ρ β M (.l (.mup kt)) .un { M with H := M.H.set r (.mp es' false) } ((execOp a.eval o).run P w) := fun ents' clock' hrun es' hE' => by
        obtain ⟨hok', hst⟩ := map_snd (clock' := clock') hok hrow hh hE'
        refine ⟨.skip, undef, _, _, _, _, ?_, .inr ⟨rfl, rfl⟩, hok', hst, .un, fun _ _ => rfl, fun d hd => .inl ⟨d, hd, rfl⟩⟩
        rcases ho with ho | ho <;> simp [execOp, ho, hm, hrun]
      cases p with
      | none =>
        have hn : ansAt ents.toList 0 none = none := rfl
        refine main (ents.push { key := a.eval k, val := a.eval x, born := clock }) (clock + 1) ?_ _ ?_
        · simp only [Instr.mapUpdate, Sem.run_bind, run_underlying hu, Result.andThen_ok, MapKept.run_getObj_map hh, hck, hfk, hn, MapKept.run_setObj_map _ hh]
        · refine All2.ofGet (by have := All2.length hE; simp at this ⊢; omega) fun j q hj => ?_
          by_cases c : j < es.length
          · rw [List.getElem?_append_left c] at hj
            obtain ⟨ent, h1, h2⟩ := All2.get hE j q hj
            refine ⟨ent, ?_, h2⟩
            have hlt := (List.getElem?_eq_some_iff.1 h1).1
            simp only [Array.toList_push]
            rw [List.getElem?_append_left hlt]
            exact h1
          · have hl := All2.length hE
            have hj' := (List.getElem?_eq_some_iff.1 hj).1
            simp only [List.length_append, List.length_cons, List.length_nil] at hj'
            have hje : j = es.length := by omega
            subst hje
            simp at hj
            subst hj
            exact ⟨{ key := a.eval k, val := a.eval x, born := clock }, by rw [hl]; simp, hkr, hxv⟩
      | some i =>
        obtain ⟨q, hq, hqk⟩ := posK_get hp
        obtain ⟨ent, hent, hE1, hE2⟩ := All2.get hE i q hq
        have hn : ansAt ents.toList 0 (some i) = some (i, ent.val) := by simp only [ansAt, Option.bind_some, hent, Option.map_some, Nat.zero_add]
        have hsb := sameBits_key hqk hkr hE1
        have hent' : ents[i]? = some ent := by simpa using hent
        refine main (ents.modify i fun e => { e with key := a.eval k, val := a.eval x }) clock ?_ _ ?_
        · simp only [Instr.mapUpdate, Sem.run_bind, run_underlying hu, Result.andThen_ok, MapKept.run_getObj_map hh, hck, hfk, hn, hent', Option.map_some, Option.getD_some, Instr.keyThatStays, hsb, if_true, Sem.run_pure, MapKept.run_setObj_map _ hh]
        · refine All2.ofGet (by have := All2.length hE; simp at this ⊢; omega) fun j q' hj => ?_
          by_cases c : i = j
          · subst c
            have hlt := (List.getElem?_eq_some_iff.1 hq).1
            simp [hlt] at hj
            subst hj
            exact ⟨{ ent with key := a.eval k, val := a.eval x }, by simp [hent'], hkr, hxv⟩
          · rw [List.getElem?_set_ne c] at hj
            obtain ⟨ent', h1, h2⟩ := All2.get hE j q' hj
            have h1' : ents[j]? = some ent' := by simpa using h1
            exact ⟨ent', by simp [c, h1'], h2⟩
    · cases he
  · cases he

theorem snd_mdl {c : Go.Call} {t kt0 e : TypeId} {kt : KT} (ho : o.op = .call c) (hb : c.callee = .builtin .delete) (ht : c.argTypes[0]? = some t) (hu : P.underlying t = some (.map kt0 e)) (hkt : keyT P kt0 = some kt)
    (hok : Ok w S ρ β M) (hv : All2 (RepX w S ρ β M.H) vs (c.args.toList.map a.eval)) (he : loudX call M (.mdl kt) vs = some (v, M')) :
    Outc w S ρ β M (.l (.mdl kt)) v M' ((execOp a.eval o).run P w) := by
  match vs, he with
  | [m, k], he =>
    obtain ⟨cm, ck, hargs, h, h1⟩ := hv.inv2
    have hm := args2 hargs
    simp only [loudX] at he
    split at he
    · rename_i r
      simp only [Option.bind_eq_some_iff, nth_eq] at he
      obtain ⟨row, hrow, he⟩ := he
      split at he
      · rename_i es
        simp only [Option.bind_eq_some_iff, gd_some, Option.some.injEq, Prod.mk.injEq] at he
        obtain ⟨key, hkey, es', ⟨hoky, hes'⟩, H', hH', rfl, rfl⟩ := he
        have hke := keyV_eq hkey
        subst hke
        obtain ⟨hrl, rfl⟩ := setEl_eq hH'
        have hkr := (RepX.toV rfl h1).imm
        have hmc : cm = .map (some (ρ r)) := by
          have := RepX.toV rfl h
          cases this
          rfl
        subst hmc
        obtain ⟨ents, clock, hh, hE⟩ := Ents.ofRow hok hrow
        obtain ⟨p, hp, rfl⟩ := delK_pos hes'
        have hck := run_checkKey_ok (P := P) (w := w) ents.isEmpty hkt hoky hkr
        have hfk := run_findKey_pos (P := P) hkt hkr hoky hE hp
        have main : ∀ ents', (Builtin.delete_ c.argTypes o.type #[.map (some (ρ r)), ck]).run P w = .ok (.tuple #[]) { w with heap := w.heap.setIfInBounds (ρ r) (.map ents' clock) } → ∀ es', Ents w S ρ M.H es' ents'.toList →
            Outc w S ρ β M (.l (.mdl kt)) (.tu []) { M with H := M.H.set r (.mp es' false) } ((execOp a.eval o).run P w) := fun ents' hrun es' hE' => by
          obtain ⟨hok', hst⟩ := map_snd (clock' := clock) hok hrow hh hE'
          exact ⟨_, .tuple #[], _, _, _, _, run_call_builtin ho hb (fun _ => by rw [hm]; rfl) hrun, .inl rfl, hok', hst, RepL.toTu (cs := #[]) .nil, fun _ _ => rfl, fun d hd => .inl ⟨d, hd, rfl⟩⟩
        cases p with
        | none =>
          have hn : ansAt ents.toList 0 none = none := rfl
          refine main ents ?_ _ hE
          simp [Builtin.delete_, ht, run_underlying hu, MapKept.run_getObj_map hh, hck, hfk, hn, MapKept.run_setObj_map _ hh]
        | some i =>
          obtain ⟨q, hq, hqk⟩ := posK_get hp
          obtain ⟨ent, hent, hE1, hE2⟩ := All2.get hE i q hq
          have hn : ansAt ents.toList 0 (some i) = some (i, ent.val) := by simp only [ansAt, Option.bind_some, hent, Option.map_some, Nat.zero_add]
          refine main (ents.eraseIdxIfInBounds i) ?_ _ ?_
          · simp [Builtin.delete_, ht, run_underlying hu, MapKept.run_getObj_map hh, hck, hfk, hn, MapKept.run_setObj_map _ hh]
          · have hlt : i < ents.size := by have := (List.getElem?_eq_some_iff.1 hent).1; simpa using this
            have : (ents.eraseIdxIfInBounds i).toList = ents.toList.eraseIdx i := by simp [Array.eraseIdxIfInBounds, hlt]
            rw [this]
            refine All2.ofGet (by
              have := All2.length hE
              have h2 := (List.getElem?_eq_some_iff.1 hq).1
              rw [List.length_eraseIdx, List.length_eraseIdx]
              simp at this ⊢
              rw [if_pos hlt, if_pos h2, this]) fun j q' hj => ?_
            rw [List.getElem?_eraseIdx] at hj ⊢
            split at hj
            · rename_i c; rw [if_pos c]; exact All2.get hE j q' hj
            · rename_i c; rw [if_neg c]; exact All2.get hE (j + 1) q' hj
      · cases he
    · cases he
end
end Go.Mx
