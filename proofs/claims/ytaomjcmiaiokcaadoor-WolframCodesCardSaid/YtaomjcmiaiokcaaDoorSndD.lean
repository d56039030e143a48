/- Operations that touch no memory, third part: cuts of strings and slices; equality. -/
import Derived.Test.YtaomjcmiaiokcaaDoorSndC
namespace Go.Mx
section
variable {P : Program} {w : World} {S : Nat → Prop} {ρ β : Nat → Nat} {M : Mem} {H : Hp} {o : Oper} {a : Act} {hi : Hint} {vs : List V} {v : V}

theorem bnd_int {n j : Nat} {x : V} {c : Value} (h : RepX w S ρ β H x c) (he : bnd n x = some j) : ∃ k, c = .int k (j : Int) ∧ j ≤ n := by
  unfold bnd at he
  split at he
  · simp only [gd_some, Option.some.injEq, Nat.ble_eq] at he
    obtain ⟨h1, rfl⟩ := he
    exact ⟨_, repI_int (RepX.toV rfl h), h1⟩
  · cases he


/-- The model's bounds, where the machine's are l and h over n elements of a capacity of c. -/
theorem run_bounds {isS lo hi mx : Bool} {n c l h : Nat} {vs : List V} {cs : List Value} {vlo vhi vmx : Option Value} (hn : n ≤ c) (hcs : cs = vlo.toList ++ vhi.toList ++ vmx.toList)
    (hlo : vlo.isSome = lo) (hhi : vhi.isSome = hi) (hmx : vmx.isSome = mx) (hv : All2 (RepX w S ρ β H) vs cs) (he : bnds n lo hi mx vs = some (l, h)) :
    (Instr.sliceBounds isS n c vlo vhi vmx).run P w = .ok (l, h, if mx then h else c) w ∧ l ≤ h ∧ h ≤ n := by
  have sb : ∀ (k : IntKind) (j m : Nat) (code : BoundsCode), j ≤ m → (Instr.sliceBound (.int k (j : Int)) m code).run P w = .ok j w := fun k j m code hj => by
    have := run_sliceBound (P := P) (w := w) k (j : Int) m code (by omega) (by omega)
    simpa using this
  unfold bnds at he
  split at he
  · cases vlo <;> simp at hlo
    cases vhi <;> simp at hhi
    cases vmx <;> simp at hmx
    simp only [Option.some.injEq, Prod.mk.injEq] at he
    obtain ⟨rfl, rfl⟩ := he
    exact ⟨by simp [Instr.sliceBounds], Nat.zero_le _, Nat.le_refl _⟩
  · obtain ⟨vlo, rfl⟩ := Option.isSome_iff_exists.1 hlo
    cases vhi <;> simp at hhi
    cases vmx <;> simp at hmx
    simp only [Option.bind_eq_some_iff, Option.some.injEq, Prod.mk.injEq] at he
    obtain ⟨j, hj, rfl, rfl⟩ := he
    obtain ⟨c0, hc0, h0⟩ := hv.inv1
    simp [hc0] at hcs
    subst hcs
    obtain ⟨k, rfl, hle⟩ := bnd_int h0 hj
    exact ⟨by simp [Instr.sliceBounds, sb _ _ _ _ hle], hle, Nat.le_refl _⟩
  · cases vlo <;> simp at hlo
    obtain ⟨vhi, rfl⟩ := Option.isSome_iff_exists.1 hhi
    cases vmx <;> simp at hmx
    simp only [Option.bind_eq_some_iff, Option.some.injEq, Prod.mk.injEq] at he
    obtain ⟨j, hj, rfl, rfl⟩ := he
    obtain ⟨c0, hc0, h0⟩ := hv.inv1
    simp [hc0] at hcs
    subst hcs
    obtain ⟨k, rfl, hle⟩ := bnd_int h0 hj
    exact ⟨by simp [Instr.sliceBounds, sb _ _ _ _ (Nat.le_trans hle hn)], Nat.zero_le _, hle⟩
  · obtain ⟨vlo, rfl⟩ := Option.isSome_iff_exists.1 hlo
    obtain ⟨vhi, rfl⟩ := Option.isSome_iff_exists.1 hhi
    cases vmx <;> simp at hmx
    simp only [Option.bind_eq_some_iff, Option.some.injEq, Prod.mk.injEq] at he
    obtain ⟨j, hj, i, hi', rfl, rfl⟩ := he
    obtain ⟨c0, c1, hc0, h0, h1⟩ := hv.inv2
    simp [hc0] at hcs
    obtain ⟨rfl, rfl⟩ := hcs
    obtain ⟨k, rfl, hle⟩ := bnd_int h1 hj
    obtain ⟨k', rfl, hle'⟩ := bnd_int h0 hi'
    exact ⟨by simp [Instr.sliceBounds, sb _ _ _ _ (Nat.le_trans hle hn), sb _ _ _ _ hle'], hle', hle⟩
  · cases vlo <;> simp at hlo
    obtain ⟨vhi, rfl⟩ := Option.isSome_iff_exists.1 hhi
    obtain ⟨vmx, rfl⟩ := Option.isSome_iff_exists.1 hmx
    simp only [Option.bind_eq_some_iff, gd_some, Nat.beq_eq, Option.some.injEq, Prod.mk.injEq] at he
    obtain ⟨m, hm, j, hj, rfl, rfl, rfl⟩ := he
    obtain ⟨c0, c1, hc0, h0, h1⟩ := hv.inv2
    simp [hc0] at hcs
    obtain ⟨rfl, rfl⟩ := hcs
    obtain ⟨k, rfl, hle⟩ := bnd_int h1 hm
    obtain ⟨k', rfl, hle'⟩ := bnd_int h0 hj
    exact ⟨by simp [Instr.sliceBounds, sb _ _ _ _ (Nat.le_trans hle hn), sb _ _ _ _ hle'], Nat.zero_le _, hle⟩
  · obtain ⟨vlo, rfl⟩ := Option.isSome_iff_exists.1 hlo
    obtain ⟨vhi, rfl⟩ := Option.isSome_iff_exists.1 hhi
    obtain ⟨vmx, rfl⟩ := Option.isSome_iff_exists.1 hmx
    simp only [Option.bind_eq_some_iff, gd_some, Nat.beq_eq, Option.some.injEq, Prod.mk.injEq] at he
    obtain ⟨m, hm, j, hj, rfl, i, hi', rfl, rfl⟩ := he
    obtain ⟨c0, c1, c2, hc0, h0, h1, h2⟩ := hv.inv3
    simp [hc0] at hcs
    obtain ⟨rfl, rfl, rfl⟩ := hcs
    obtain ⟨k, rfl, hle⟩ := bnd_int h2 hm
    obtain ⟨k', rfl, hle'⟩ := bnd_int h1 hj
    obtain ⟨k'', rfl, hle''⟩ := bnd_int h0 hi'
    exact ⟨by simp [Instr.sliceBounds, sb _ _ _ _ (Nat.le_trans hle hn), sb _ _ _ _ hle', sb _ _ _ _ hle''], hle'', hle⟩
  · cases he

/-- The operands of a slice expression. -/
theorem opt_map_list {α β : Type} (f : α → β) (x y z : Option α) : (x.toList ++ y.toList ++ z.toList).map f = (x.map f).toList ++ (y.map f).toList ++ (z.map f).toList := by
  cases x <;> cases y <;> cases z <;> rfl

theorem slI_cut {es : List (List I)} {ad : Option Addr} {n cap l h m : Nat} {esz : Nat} (hI : RepI w S (.sl es) (.slice ad n cap)) (hl : l ≤ h) (hh : h ≤ n) (hm : h ≤ m) (hmc : m ≤ cap) (hsz : ∀ e, e ∈ es → e.length = esz) :
    RepI w S (.sl ((es.drop l).take (h - l))) (.slice (if m = l then ad else ad.map (·.add (l * esz))) (h - l) (m - l)) := by
  cases hI with
  | sl _ _ _ esz' b off cs hcap hmx hsz' ha hc hr =>
    have hlen : ((es.drop l).take (h - l)).length = h - l := by rw [List.length_take, List.length_drop]; omega
    have hget : ∀ {i e}, ((es.drop l).take (h - l))[i]? = some e → es[l + i]? = some e := fun {i e} hi => by
      rw [List.getElem?_take] at hi
      split at hi
      · rwa [List.getElem?_drop] at hi
      · cases hi
    have key := RepI.sl (w := w) (S := S) ((es.drop l).take (h - l)) (if m = l then ad else ad.map (·.add (l * esz))) (m - l) esz' b (off + l * esz') (fun i j => cs (l + i) j)
      (by omega) (by omega) (fun e he => hsz' e (List.mem_of_mem_drop (List.mem_of_mem_take he)))
      (fun hne => by
        have hpos : 0 < h - l := by rw [← hlen]; exact List.length_pos_iff.2 hne
        have hes : es ≠ [] := by rintro rfl; simp at hlen; omega
        have hez : esz = esz' := by
          obtain ⟨e, he⟩ := List.exists_mem_of_ne_nil es hes
          rw [← hsz e he, hsz' e he]
        obtain ⟨h1, h2⟩ := ha hes
        subst h1
        rw [if_neg (by omega), hez]
        exact ⟨by simp [addr_add], h2⟩)
      (fun i e j x hi hj => by
        have := hc _ _ _ _ (hget hi) hj
        rw [← this]
        congr 2
        rw [Nat.add_mul]
        omega)
      (fun i e j x hi hj => hr _ _ _ _ (hget hi) hj)
    rw [hlen] at key
    exact key

theorem slI_uni {es : List (List I)} {c : Value} (h : RepI w S (.sl es) c) : ∃ n, ∀ e, e ∈ es → e.length = n := by
  cases h with
  | sl _ _ _ esz b off cs hcap hmx hsz ha hc hr => exact ⟨esz, hsz⟩

theorem snd_slc_str {t : TypeId} {z : Nat} {x : Operand} {lo hi mx : Option Operand} (ho : o.op = .slice t x lo hi mx) (hu : P.underlying t = some .string) {l : List Nat}
    (hok : Ok w S ρ β M) (h : RepX w S ρ β M.H (.m (.s l)) (a.eval x)) (hv : All2 (RepX w S ρ β M.H) vs ((lo.toList ++ hi.toList ++ mx.toList).map a.eval)) (he : pureX (.slc z lo.isSome hi.isSome mx.isSome) (.m (.s l) :: vs) = some v) :
    Outc w S ρ β M (.p (.slc z lo.isSome hi.isSome mx.isSome)) v M ((execOp a.eval o).run P w) := by
  simp only [pureX, gd_some, Option.bind_eq_some_iff, Option.some.injEq] at he
  obtain ⟨_, hmx, ⟨pl, ph⟩, hb, rfl⟩ := he
  have hmn : mx = none := by cases mx <;> simp at hmx ⊢
  subst hmn
  obtain ⟨s, hx, rfl⟩ := repI_str (RepX.toV rfl h)
  rw [opt_map_list] at hv
  have hlen : (s.data.toList.map UInt8.toNat).length = s.size := by simp
  rw [hlen] at hb
  obtain ⟨hrun, h1, h2⟩ := run_bounds (P := P) (isS := false) (c := s.size) (Nat.le_refl _) rfl (by simp) (by simp) (by simp) hv hb
  refine .val hok (RepX.ofV (.m (.s (s.extract pl ph) _ ?_))) ?_
  · have : (s.extract pl ph).data.toList = (s.data.toList.drop pl).take (ph - pl) := by
      rw [ByteArray.data_extract, Array.toList_extract]
    rw [this, List.map_take, List.map_drop]
  · simp only [execOp, ho, hx, Instr.sliceAt, Sem.run_bind, run_underlying hu, Result.andThen_ok, Instr.slice]
    simp only [Option.map_none] at hrun
    simp [hrun]

theorem okEl_uni {es : List (List I)} {c : Value} {n : Nat} (h : RepI w S (.sl es) c) (he : okEl n es = true) : ∀ e, e ∈ es → e.length = n := by
  obtain ⟨k, hk⟩ := slI_uni h
  cases es with
  | nil => simp
  | cons e es =>
    simp only [okEl, Nat.beq_eq] at he
    have := hk e (by simp)
    intro x hx
    rw [hk x hx]
    omega

theorem snd_slc {t e : TypeId} {x : Operand} {lo hi mx : Option Operand} {i : TypeInfo} {z : Nat} (ho : o.op = .slice t x lo hi mx) (hu : P.underlying t = some (.slice e)) (hi' : P.info? e = some i) (hz : i.size = z) {x0 : V}
    (hok : Ok w S ρ β M) (h : RepX w S ρ β M.H x0 (a.eval x)) (hns : ∀ l, x0 ≠ .m (.s l)) (hv : All2 (RepX w S ρ β M.H) vs ((lo.toList ++ hi.toList ++ mx.toList).map a.eval)) (he : pureX (.slc z lo.isSome hi.isSome mx.isSome) (x0 :: vs) = some v) :
    Outc w S ρ β M (.p (.slc z lo.isSome hi.isSome mx.isSome)) v M ((execOp a.eval o).run P w) := by
  subst hz
  rw [opt_map_list] at hv
  have run : ∀ ad n cap, a.eval x = .slice ad n cap → ∀ l h m, (Instr.sliceBounds true n cap (lo.map a.eval) (hi.map a.eval) (mx.map a.eval)).run P w = .ok (l, h, m) w →
      (execOp a.eval o).run P w = .ok (.value (.slice (if m = l then ad else ad.map (·.add (l * i.size))) (h - l) (m - l))) w := fun ad n cap hx l h m hb => by
    simp only [execOp, ho, hx, Instr.sliceAt, Sem.run_bind, run_underlying hu, Result.andThen_ok, Instr.slice, hb, run_sizeOf hi', Sem.run_pure]
  simp only [pureX] at he
  replace he := (gd_some.1 he).2
  split at he
  · exact absurd rfl (hns _)
  · simp only [Option.bind_eq_some_iff, Option.some.injEq] at he
    obtain ⟨⟨pl, ph⟩, hb, rfl⟩ := he
    have hx := nls_form (RepX.toV rfl h)
    obtain ⟨hrun, h1, h2⟩ := run_bounds (P := P) (isS := true) (c := 0) (Nat.le_refl _) rfl (by simp) (by simp) (by simp) hv hb
    have hr := run _ _ _ hx _ _ _ hrun
    have hp0 : pl = 0 := by omega
    have hq0 : ph = 0 := by omega
    subst hp0; subst hq0
    refine .val hok (RepX.ofV (.m .nls)) ?_
    rw [hr]
    simp
  · rename_i es
    simp only [gd_some, Option.bind_eq_some_iff, Option.some.injEq] at he
    obtain ⟨hel, ⟨pl, ph⟩, hb, rfl⟩ := he
    have hI := (RepX.toV rfl h).imm
    have hesz := okEl_uni hI hel
    obtain ⟨ad, cap, hx, hcap, hcm, _⟩ := slI_form hI
    rw [hx] at hI
    obtain ⟨hrun, h1, h2⟩ := run_bounds (P := P) (isS := true) (c := cap) hcap rfl (by simp) (by simp) (by simp) hv hb
    have hcut := fun m (hm : ph ≤ m) (hmc : m ≤ cap) => slI_cut hI h1 h2 hm hmc hesz
    have hr := run _ _ _ hx _ _ _ hrun
    have hlen : ((es.drop pl).take (ph - pl)).length = ph - pl := by rw [List.length_take, List.length_drop]; omega
    cases hmx : mx.isSome with
    | true =>
      rw [hmx] at hr
      refine .val hok (RepX.ofV ?_) hr
      simp only [if_true]
      have hc := hcut ph (Nat.le_refl _) (by omega)
      have := RepV.ls (w := w) (S := S) (ρ := ρ) (H := M.H) ((es.drop pl).take (ph - pl)) (if ph = pl then ad else ad.map (·.add (pl * i.size))) (by rw [hlen]; exact hc)
      rw [hlen] at this
      exact this
    | false =>
      rw [hmx] at hr
      refine .val hok (RepX.ofV (.m ?_)) hr
      simp only [Bool.false_eq_true, if_false]
      exact hcut cap (by omega) (Nat.le_refl _)
  · rename_i es
    simp only [gd_some, Option.bind_eq_some_iff, Option.some.injEq] at he
    obtain ⟨hel, ⟨pl, ph⟩, hb, rfl⟩ := he
    have hV := RepX.toV rfl h
    have hI := ls_imm hV
    have hesz := okEl_uni hI hel
    obtain ⟨ad, hx⟩ : ∃ ad, a.eval x = .slice ad es.length es.length := by generalize a.eval x = c at hV; cases hV; exact ⟨_, rfl⟩
    rw [hx] at hI
    obtain ⟨hrun, h1, h2⟩ := run_bounds (P := P) (isS := true) (c := es.length) (Nat.le_refl _) rfl (by simp) (by simp) (by simp) hv hb
    have hcut := fun m (hm : ph ≤ m) (hmc : m ≤ es.length) => slI_cut hI h1 h2 hm hmc hesz
    have hr := run _ _ _ hx _ _ _ hrun
    have hlen : ((es.drop pl).take (ph - pl)).length = ph - pl := by rw [List.length_take, List.length_drop]; omega
    have lsr : ∀ m, m = ph → (hm : ph ≤ m) → (hmc : m ≤ es.length) → RepV w S ρ M.H (.ls ((es.drop pl).take (ph - pl))) (.slice (if m = pl then ad else ad.map (·.add (pl * i.size))) (ph - pl) (m - pl)) := fun m hmp hm hmc => by
      subst hmp
      have hc := hcut m hm hmc
      have := RepV.ls (w := w) (S := S) (ρ := ρ) (H := M.H) ((es.drop pl).take (m - pl)) (if m = pl then ad else ad.map (·.add (pl * i.size))) (by rw [hlen]; exact hc)
      rw [hlen] at this
      exact this
    cases hmx : mx.isSome with
    | true =>
      rw [hmx] at hr
      refine .val hok (RepX.ofV ?_) hr
      simp only [if_true, Bool.true_or]
      exact lsr ph rfl (Nat.le_refl _) (by omega)
    | false =>
      rw [hmx] at hr
      refine .val hok (RepX.ofV ?_) hr
      simp only [Bool.false_eq_true, if_false, Bool.false_or]
      cases hbq : Nat.beq ph es.length with
      | true => exact lsr es.length (Nat.eq_of_beq_eq_true hbq).symm (by omega) (Nat.le_refl _)
      | false => exact .m (hcut es.length (by omega) (Nat.le_refl _))
  · rename_i r ver esz st len lim
    simp only [gd_some, Nat.beq_eq, Option.bind_eq_some_iff, Option.some.injEq] at he
    obtain ⟨hsz, ⟨pl, ph⟩, hb, rfl⟩ := he
    subst hsz
    have hV := RepX.toV rfl h
    generalize hx : a.eval x = c at hV
    cases hV with
    | sl _ _ _ _ _ _ ty es base fz ad cap hrow h1 h2 h3 h4 h5 hn hb' ha =>
      obtain ⟨hrun, k1, k2⟩ := run_bounds (P := P) (isS := true) (c := cap) h3 rfl (by simp) (by simp) (by simp) hv hb
      have hr := run _ _ _ hx _ _ _ hrun
      refine .val hok (RepX.ofV ?_) hr
      refine .sl r ver i.size (st + pl) (ph - pl) _ ty es base fz _ _ hrow (by omega) h2 ?_ ?_ ?_ ?_ ?_ ?_
      · split <;> omega
      · split <;> omega
      · intro hlim
        cases hmx : mx.isSome with
        | true => simp
        | false =>
          rw [hmx] at hlim
          simp only [Bool.false_or, Bool.and_eq_true, Nat.beq_eq] at hlim
          have := h5 hlim.1
          simp
          omega
      · intro hpos
        obtain ⟨p, hp⟩ := hn (by omega)
        subst hp
        have hne : ¬ (if mx.isSome = true then ph else cap) = pl := by split <;> omega
        rw [if_neg hne]
        exact ⟨_, rfl⟩
      · intro hbv hpos
        obtain ⟨b, hp, hA⟩ := hb' hbv (by omega)
        subst hp
        have hne : ¬ (if mx.isSome = true then ph else cap) = pl := by split <;> omega
        rw [if_neg hne]
        exact ⟨b, by simp [addr_add, Nat.add_mul], hA⟩
      · intro hve hst hlim hle
        have hmx : mx.isSome = false := by cases hmx : mx.isSome <;> simp [hmx] at hlim ⊢
        have hl0 : lim = false := by
          cases lim with
          | false => rfl
          | true =>
            rw [hmx] at hlim
            have hbq : Nat.beq ph len = true := by rw [Nat.beq_eq]; omega
            simp [hbq] at hlim
        obtain ⟨hp, cur, mk, hh, hcs⟩ := ha hve (by omega) hl0 (by omega)
        subst hp
        have hp0 : pl = 0 := by omega
        subst hp0
        refine ⟨?_, cur, mk, hh, ?_⟩
        · split <;> simp [addr_add]
        · rw [hmx]; simpa using hcs
  · cases he
end
end Go.Mx
