/- Slices' elements as they lie; 'string(b)'; cuts of arrays. -/
import Derived.Test.YtaomjcmiaiokcaaDoorSndG
namespace Go.Mx
section
variable {P : Program} {w : World} {S : Nat → Prop} {ρ β : Nat → Nat} {M : Mem} {H : Hp} {o : Oper} {a : Act} {vs : List V} {v : V}

theorem RepI.cells {es : List (List I)} {ad : Option Addr} {n cap : Nat} (h : RepI w S (.sl es) (.slice ad n cap)) : n = es.length ∧ ∃ esz cells, Uni esz es ∧ RepL w S ρ H (es.flatten.map .m) cells ∧
    (es ≠ [] → ∃ b off, ad = some ⟨b, off, none⟩ ∧ S b ∧ ∀ (j : Nat) u, cells[j]? = some u → w.cell? ⟨b, off + j, none⟩ = some u) := by
  cases h with
  | sl _ _ _ esz b off cs hcap hm hsz ha hc hr =>
    have hu : Uni esz es := hsz
    refine ⟨rfl, esz, (List.range (es.length * esz)).map fun p => cs (p / esz) (p % esz), hu, ⟨by rw [List.length_map, List.length_range, List.length_map, hu.len], fun j y hj => ?_⟩, fun hne => ⟨b, off, (ha hne).1, (ha hne).2, fun j u hj => ?_⟩⟩
    · rw [List.getElem?_map] at hj
      obtain ⟨z, hz, rfl⟩ := Option.map_eq_some_iff.1 hj
      have hlt : j < es.length * esz := by rw [← hu.len]; exact (List.getElem?_eq_some_iff.1 hz).1
      have hpos : 0 < esz := Nat.pos_of_ne_zero (by rintro rfl; simp at hlt)
      obtain ⟨e, he, hx⟩ := flat_inv hpos hu hz
      exact ⟨_, by simp [hlt], .m (hr _ _ _ _ he hx)⟩
    · have hlt : j < es.length * esz := by have := (List.getElem?_eq_some_iff.1 hj).1; simpa using this
      have hpos : 0 < esz := Nat.pos_of_ne_zero (by rintro rfl; simp at hlt)
      have hz : es.flatten[j]? = some (es.flatten[j]'(by rw [hu.len]; exact hlt)) := List.getElem?_eq_getElem _
      obtain ⟨e, he, hx⟩ := flat_inv hpos hu hz
      have := hc _ _ _ _ he hx
      rw [show j / esz * esz + j % esz = j by rw [Nat.mul_comm]; exact Nat.div_add_mod j esz] at this
      rw [this]
      simp [hlt] at hj
      rw [hj]

/-- The elements that a slice shows. -/
theorem elems_snd {x : V} {c : Value} {es : List (List V)} (hok : Ok w S ρ β M) (hx : RepX w S ρ β M.H x c) (h : elems M.H x = some es) :
    ∃ ad cap esz cells, c = .slice ad es.length cap ∧ Uni esz es ∧ RepL w S ρ M.H es.flatten cells ∧
      (es ≠ [] → ∃ b off, ad = some ⟨b, off, none⟩ ∧ (∀ (j : Nat) u, cells[j]? = some u → w.cell? ⟨b, off + j, none⟩ = some u) ∧ (S b ∨ ∃ r, r < M.H.length ∧ b = ρ r ∧ ref1 x = [r])) := by
  have imm : ∀ {l : List (List I)}, RepI w S (.sl l) c → ∃ ad cap esz cells, c = .slice ad (immS l).length cap ∧ Uni esz (immS l) ∧ RepL w S ρ M.H (immS l).flatten cells ∧
      (immS l ≠ [] → ∃ b off, ad = some ⟨b, off, none⟩ ∧ (∀ (j : Nat) u, cells[j]? = some u → w.cell? ⟨b, off + j, none⟩ = some u) ∧ (S b ∨ ∃ r, r < M.H.length ∧ b = ρ r ∧ ref1 x = [r])) := fun {l} hI => by
    obtain ⟨ad, cap, rfl, _⟩ := slI_form hI
    obtain ⟨_, esz, cells, hu, hr, hc⟩ := RepI.cells (ρ := ρ) (H := M.H) hI
    refine ⟨ad, cap, esz, cells, by rw [immS_len], uni_immS hu, by rw [immS_flat]; exact hr, fun hne => ?_⟩
    obtain ⟨b, off, h1, h3, h2⟩ := hc (by rintro rfl; exact hne rfl)
    exact ⟨b, off, h1, h2, .inl h3⟩
  unfold elems at h
  split at h
  · simp only [Option.some.injEq] at h
    subst h
    have := nls_form (RepX.toV rfl hx)
    subst this
    exact ⟨none, 0, 0, [], rfl, fun e he => by simp at he, .nil, fun h => absurd rfl h⟩
  · simp only [Option.some.injEq] at h
    subst h
    exact imm (RepX.toV rfl hx).imm
  · simp only [Option.some.injEq] at h
    subst h
    exact imm (ls_imm (RepX.toV rfl hx))
  · rename_i r ver esz st len lim
    simp only [Option.bind_eq_some_iff, nth_eq] at h
    obtain ⟨row, hrow, h⟩ := h
    split at h
    · rename_i ty esz' es0 base fz
      simp only [gd_some, Bool.and_eq_true, Nat.ble_eq, Nat.beq_eq, Option.some.injEq] at h
      obtain ⟨⟨hbv, rfl⟩, rfl⟩ := h
      have hx := RepX.toV rfl hx
      cases hx with | sl _ _ _ _ _ _ ty' es' base' fz' ad cap hrow' h1 h2 h3 h4 h5 hn hb ha =>
      rw [hrow] at hrow'
      simp only [Option.some.injEq, Row.cs.injEq] at hrow'
      obtain ⟨rfl, _, rfl, rfl, rfl⟩ := hrow'
      obtain ⟨_, hpos, hU, _, _, cur, cap', mk, hh, _, hcs, hcap, _, hr⟩ := hok.rows r _ hrow
      have hlen : ((es0.drop st).take len).length = len := by rw [List.length_take, List.length_drop]; omega
      have hU : Uni esz es0 := hU
      have hfl : ((es0.drop st).take len).flatten = (es0.flatten.drop (st * esz)).take (len * esz) := by
        rw [flat_take (hU.drop st) len, flat_drop hU st]
      have hR := (hr.drop (st * esz)).take (len * esz)
      refine ⟨ad, cap, esz, _, by rw [hlen], (hU.drop st).take len, by rw [hfl]; exact hR, fun hne => ?_⟩
      have hlp : 0 < len := by rw [← hlen]; exact List.length_pos_iff.2 hne
      obtain ⟨b, rfl, hA⟩ := hb hbv hlp
      have key : ∀ (j : Nat) u, (((cur.toList.take (es0.length * esz)).drop (st * esz)).take (len * esz))[j]? = some u → w.cell? ⟨ρ r, st * esz + j, none⟩ = some u := fun j u hj => by
        rw [List.getElem?_take] at hj
        split at hj
        · rw [List.getElem?_drop, List.getElem?_take] at hj
          split at hj
          · rw [cell_of_row w _ _ cur _ mk hh]
            simpa using hj
          · cases hj
        · cases hj
      refine ⟨b, st * esz, rfl, fun j u hj => ?_, ?_⟩
      rotate_left
      · rcases hA with rfl | ⟨hSb, _⟩
        · exact .inr ⟨r, (List.getElem?_eq_some_iff.1 hrow).1, rfl, rfl⟩
        · exact .inl hSb
      rcases hA with rfl | ⟨_, hne, hcell⟩
      · exact key j u hj
      · have hlt : j < len * esz := by
          have := (List.getElem?_eq_some_iff.1 hj).1
          rw [List.length_take] at this
          omega
        have : (st + len) * esz ≤ ver * esz := Nat.mul_le_mul_right esz h1
        rw [Nat.add_mul] at this
        rw [hcell _ (by omega)]
        exact key j u hj
    · cases h
  · cases h

theorem bytes_snd : ∀ {es : List (List V)} {l : List Nat} {cells : List Value}, bytes? es = some l → RepL w S ρ H es.flatten cells → l.length = es.length ∧ (∀ c, c ∈ l → c < 256) ∧ cells = l.map fun c : Nat => Value.int .u8 (c : Int)
  | [], l, cells, h, hr => by
    simp only [bytes?, Option.some.injEq] at h
    subst h
    exact ⟨rfl, by simp, by simpa using hr.inv_nil⟩
  | [.m (.i .u8 (.ofNat c))] :: r, l, cells, h, hr => by
    simp only [bytes?, gd_some, Option.bind_eq_some_iff, Option.some.injEq] at h
    obtain ⟨hlt, l', hl', rfl⟩ := h
    rw [List.flatten_cons] at hr
    obtain ⟨c0, cs, rfl, hc, hr⟩ := hr.inv_cons
    obtain ⟨h1, h2, rfl⟩ := bytes_snd hl' hr
    have := repI_int hc
    subst this
    refine ⟨by simp [h1], fun d hd => ?_, by simp⟩
    rcases List.mem_cons.1 hd with rfl | hd
    · simpa [Nat.blt_eq] using hlt
    · exact h2 d hd
  | e :: r, l, cells, h, hr => by
    unfold bytes? at h
    split at h
    · rename_i he; cases he
    · rename_i c r' he
      cases he
      simp only [gd_some, Option.bind_eq_some_iff, Option.some.injEq] at h
      obtain ⟨hlt, l', hl', rfl⟩ := h
      rw [List.flatten_cons] at hr
      obtain ⟨c0, cs, rfl, hc, hr⟩ := hr.inv_cons
      obtain ⟨h1, h2, rfl⟩ := bytes_snd hl' hr
      have := repI_int hc
      subst this
      refine ⟨by simp [h1], fun d hd => ?_, by simp⟩
      rcases List.mem_cons.1 hd with rfl | hd
      · simpa [Nat.blt_eq] using hlt
      · exact h2 d hd
    · cases h

theorem ofNat_map {l : List Nat} (h : ∀ c, c ∈ l → c < 256) : (l.map UInt8.ofNat).map UInt8.toNat = l := by
  induction l with
  | nil => rfl
  | cons c l ih =>
    have := h c (by simp)
    simp only [List.map_cons, ih fun d hd => h d (by simp [hd])]
    congr 1
    simp; omega

theorem snd_b2s {src d e : TypeId} {x : Operand} (ho : o.op = .convert src d x) (hs : P.underlying src = some (.slice e)) (hde : P.underlying e = some (.int .u8)) (hd : P.underlying d = some .string)
    (hok : Ok w S ρ β M) (hv : All2 (RepX w S ρ β M.H) vs [a.eval x]) (he : readX M .b2s vs = some v) :
    Outc w S ρ β M (.r .b2s) v M ((execOp a.eval o).run P w) := by
  cases hv with | cons h t1 =>
  cases t1
  simp only [readX, Option.bind_eq_some_iff, Option.some.injEq] at he
  obtain ⟨es, hes, l, hl, rfl⟩ := he
  obtain ⟨ad, cap, esz, cells, hx, hu, hr, hc⟩ := elems_snd hok h hes
  obtain ⟨h1, h2, rfl⟩ := bytes_snd hl hr
  have hm := ofNat_map h2
  refine .val hok (RepX.ofV (.m (.s ⟨(l.map UInt8.ofNat).toArray⟩ l (by simpa using hm)))) ?_
  cases es with
  | nil =>
    have : l = [] := List.eq_nil_of_length_eq_zero (by simpa using h1)
    subst this
    cases ad with
    | none =>
      simp only [execOp, ho, hx, Sem.run_bind, convert, run_underlying hs, run_underlying hd, run_underlying hde, Result.andThen_ok, Conv.bytesToString, Sem.run_pure]
      rfl
    | some p =>
      have := run_convert_bytes_back (P := P) w src d e p cap [] hs hde hd (by simp)
      simp only [execOp, ho, hx, Sem.run_bind]
      simp only [List.length_nil] at this ⊢
      rw [this]
      rfl
  | cons e0 es =>
    obtain ⟨b, off, rfl, hcell, _⟩ := hc (by simp)
    have := run_convert_bytes_back (P := P) w src d e ⟨b, off, none⟩ cap (l.map UInt8.ofNat) hs hde hd (fun j hj => by
      rw [addr_add]
      refine hcell j _ ?_
      simp only [List.length_map] at hj
      have hlt := h2 l[j] (List.getElem_mem hj)
      simp only [List.getElem?_map, List.getElem?_eq_getElem hj, Option.map_some, List.getElem_map]
      congr 2
      simp; omega)
    simp only [execOp, ho, hx, Sem.run_bind]
    rw [List.length_map, h1] at this
    rw [this]
    rfl

theorem snd_slcA {t e : TypeId} {n s : Nat} {x : Operand} {lo hi mx : Option Operand} (ho : o.op = .slice t x lo hi mx) (hu : P.underlying t = some (.array n e) ∨ ∃ t', P.underlying t = some (.pointer t') ∧ P.underlying t' = some (.array n e)) (hs : sizeT P e = some s) {x0 : V}
    (hok : Ok w S ρ β M) (h : RepX w S ρ β M.H x0 (a.eval x)) (hv : All2 (RepX w S ρ β M.H) vs ((lo.toList ++ hi.toList ++ mx.toList).map a.eval)) (he : readX M (.slcA n s lo.isSome hi.isSome mx.isSome) (x0 :: vs) = some v) :
    Outc w S ρ β M (.r (.slcA n s lo.isSome hi.isSome mx.isSome)) v M ((execOp a.eval o).run P w) := by
  obtain ⟨i, hi', rfl⟩ := sizeT_some.1 hs
  rw [opt_map_list] at hv
  have run : ∀ (ad : Addr) l h m, a.eval x = .pointer (some ad) → (Instr.sliceBounds false n n (lo.map a.eval) (hi.map a.eval) (mx.map a.eval)).run P w = .ok (l, h, m) w →
      (execOp a.eval o).run P w = .ok (.value (.slice (some (if m = l then ad else ad.add (l * i.size))) (h - l) (m - l))) w := fun ad l h m hx hb => by
    rcases hu with hu | ⟨t', hu, hu'⟩
    · simp only [execOp, ho, hx, Instr.sliceAt, Sem.run_bind, run_underlying hu, Result.andThen_ok, Instr.sureAddr, hb, run_sizeOf hi', Sem.run_pure]
    · simp only [execOp, ho, hx, Instr.sliceAt, Sem.run_bind, run_underlying hu, Result.andThen_ok, Instr.slice, asAddr, run_underlying hu', hb, run_sizeOf hi', Sem.run_pure]
  simp only [readX] at he
  split at he
  · rename_i cs
    simp only [gd_some, Bool.and_eq_true, Nat.beq_eq, Nat.ble_eq, Option.bind_eq_some_iff, Option.some.injEq] at he
    obtain ⟨⟨hlen, hn63⟩, ⟨pl, ph⟩, hb, rfl⟩ := he
    have hI := (RepX.toV rfl h).imm
    generalize hx : a.eval x = c at hI
    cases hI with | pt _ b off c hS hc hr =>
    obtain ⟨hrun, k1, k2⟩ := run_bounds (P := P) (isS := false) (c := n) (Nat.le_refl _) rfl (by simp) (by simp) (by simp) hv hb
    have hr' := run _ _ _ _ hx hrun
    have hU := chunk_uni i.size n cs (by omega)
    have hF : (chunk i.size n cs).flatten = cs := by rw [chunk_flat i.size n cs (by omega), ← hlen, List.take_length]
    have hL : (chunk i.size n cs).length = n := chunk_len ..
    have hbase : RepI w S (.sl (chunk i.size n cs)) (.slice (some ⟨b, off, none⟩) n n) := by
      have := RepI.sl (w := w) (S := S) (chunk i.size n cs) (some ⟨b, off, none⟩) n i.size b off (fun i' j => c (i' * i.size + j)) (by omega) (by unfold maxLen; omega) hU (fun _ => ⟨rfl, hS⟩)
        (fun i' e j x hi hj => hc _ x (by have := flat_cell hU hi hj; rwa [hF] at this)) (fun i' e j x hi hj => hr _ x (by have := flat_cell hU hi hj; rwa [hF] at this))
      rw [hL] at this
      exact this
    have hcut := fun m (hm : ph ≤ m) (hmc : m ≤ n) => slI_cut hbase k1 k2 hm hmc hU
    have hlen2 : (((chunk i.size n cs).drop pl).take (ph - pl)).length = ph - pl := by rw [List.length_take, List.length_drop]; omega
    have lsr : ∀ m, m = ph → (hm : ph ≤ m) → (hmc : m ≤ n) → RepV w S ρ M.H (.ls (((chunk i.size n cs).drop pl).take (ph - pl))) (.slice (some (if m = pl then ⟨b, off, none⟩ else (⟨b, off, none⟩ : Addr).add (pl * i.size))) (ph - pl) (m - pl)) := fun m hmp hm hmc => by
      subst hmp
      have hc := hcut m hm hmc
      have := RepV.ls (w := w) (S := S) (ρ := ρ) (H := M.H) (((chunk i.size n cs).drop pl).take (m - pl)) (some (if m = pl then ⟨b, off, none⟩ else (⟨b, off, none⟩ : Addr).add (pl * i.size)))
        (by rw [hlen2]; by_cases e : m = pl <;> simpa [e] using hc)
      rw [hlen2] at this
      exact this
    cases hmx : mx.isSome with
    | true =>
      rw [hmx] at hr'
      refine .val hok (RepX.ofV ?_) hr'
      simp only [if_true, Bool.true_or]
      exact lsr ph rfl (Nat.le_refl _) (by omega)
    | false =>
      rw [hmx] at hr'
      refine .val hok (RepX.ofV ?_) hr'
      simp only [Bool.false_eq_true, if_false, Bool.false_or]
      cases hbq : Nat.beq ph n with
      | true => exact lsr n (Nat.eq_of_beq_eq_true hbq).symm (by omega) (Nat.le_refl _)
      | false =>
        refine .m ?_
        have := hcut n (by omega) (Nat.le_refl _)
        by_cases e : n = pl <;> simpa [e] using this
  · rename_i r ver
    simp only [Option.bind_eq_some_iff, nth_eq] at he
    obtain ⟨row, hrow, he⟩ := he
    split at he
    · rename_i ty esz es base fz
      simp only [gd_some, Bool.and_eq_true, Nat.beq_eq, Option.bind_eq_some_iff, Option.some.injEq] at he
      obtain ⟨⟨⟨hez, hel⟩, hvn⟩, ⟨pl, ph⟩, hb, rfl⟩ := he
      have hV := RepX.toV rfl h
      generalize hx : a.eval x = c at hV
      cases hV with | pt _ _ _ _ ty' esz' es' base' fz' p hrow' h2 hix hbb =>
      rw [hrow] at hrow'
      simp only [Option.some.injEq, Row.cs.injEq] at hrow'
      obtain ⟨rfl, rfl, rfl, rfl, rfl⟩ := hrow'
      obtain ⟨hrun, k1, k2⟩ := run_bounds (P := P) (isS := false) (c := n) (Nat.le_refl _) rfl (by simp) (by simp) (by simp) hv hb
      have hr' := run _ _ _ _ hx hrun
      obtain ⟨_, _, _, _, _, cur, cap, mk, hh, _, hcs, hcap, hcm, _⟩ := hok.rows r _ hrow
      refine .val hok (RepX.ofV ?_) hr'
      rw [hez]
      refine .sl r ver esz pl (ph - pl) _ ty es base fz _ _ hrow (by omega) h2 ?_ ?_ ?_ (fun _ => ⟨_, rfl⟩) ?_ ?_
      · split <;> omega
      · split <;> omega
      · intro hlim
        cases hmx : mx.isSome with
        | true => simp
        | false =>
          rw [hmx] at hlim
          simp only [Bool.false_or, Nat.beq_eq] at hlim
          simp
          omega
      · intro hbv hpos
        obtain ⟨b, hp, hA⟩ := hbb hbv
        subst hp
        have hne : ¬ (if mx.isSome = true then ph else n) = pl := by split <;> omega
        rw [if_neg hne]
        exact ⟨b, by simp [addr_add], hA⟩
      · intro hve hst hlim hle
        exfalso
        have hbq : Nat.beq ph n = true := by rw [Nat.beq_eq]; omega
        simp [hbq] at hlim
    · cases he
  · cases he
end
end Go.Mx
