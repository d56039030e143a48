/- Stores. -/
import Derived.Test.YtaomjcmiaiokcaaDoorSndI
import Derived.Laws.CopyRow
namespace Go.Mx
section
variable {P : Program} {w : World} {S : Nat → Prop} {ρ β : Nat → Nat} {M M' : Mem} {H : Hp} {o : Oper} {a : Act} {vs : List V} {v : V} {call : Call}

theorem cut3 {α : Type} (F X : List α) (p N : Nat) (h : p + X.length ≤ N) (hN : N ≤ F.length) : (F.take p ++ X ++ F.drop (p + X.length)).take N = (F.take N).take p ++ X ++ (F.take N).drop (p + X.length) := by
  have h1 : (F.take p ++ X).length = p + X.length := by rw [List.length_append, List.length_take]; omega
  rw [List.take_append, h1, List.take_of_length_le (by omega), List.take_take, Nat.min_eq_left (by omega), List.drop_take]

theorem writeR_eq {esz ix off : Nat} {es es' : List (List V)} {xs : List V} (hu : Uni esz es) (h : writeR esz es ix off xs = some es') :
    es'.flatten = es.flatten.take (ix * esz + off) ++ xs ++ es.flatten.drop (ix * esz + off + xs.length) ∧ Uni esz es' ∧ es'.length = es.length ∧ ix * esz + off + xs.length ≤ es.length * esz := by
  unfold writeR at h
  split at h
  · rename_i hb
    rw [Nat.ble_eq] at hb
    simp only [Option.bind_eq_some_iff, nth_eq, putAt, gd_some, Nat.ble_eq, Option.some.injEq] at h
    obtain ⟨e, he, e', ⟨hle, rfl⟩, hset⟩ := h
    obtain ⟨hlt, rfl⟩ := setEl_eq hset
    have hel := hu.get he
    have hi : (ix + off / esz) * esz + off % esz = ix * esz + off := by
      have := Nat.div_add_mod off esz
      rw [Nat.add_mul, Nat.mul_comm (off / esz) esz]
      omega
    have hmul : (ix + off / esz) * esz + esz ≤ es.length * esz := by
      have := Nat.mul_le_mul_right esz (Nat.succ_le_of_lt hlt)
      rw [Nat.succ_mul] at this
      exact this
    have hlen' : (e.take (off % esz) ++ xs ++ e.drop (off % esz + xs.length)).length = esz := by
      simp only [List.length_append, List.length_take, List.length_drop]
      omega
    refine ⟨?_, hu.set hlen', by simp, by omega⟩
    rw [flat_set hu hlt hlen']
    have hge := flat_get hu he
    generalize hF : es.flatten = F at hge
    have hFl : F.length = es.length * esz := by rw [← hF]; exact hu.len
    generalize (ix + off / esz) * esz = q at hge hi hmul
    have a1 : F.take q ++ e.take (off % esz) = F.take (ix * esz + off) := by
      rw [hge, List.take_take, Nat.min_eq_left (by omega), ← hi, List.take_add]
    have a2 : e.drop (off % esz + xs.length) ++ F.drop (q + esz) = F.drop (ix * esz + off + xs.length) := by
      rw [hge, ← hi]
      have : F.drop (q + esz) = (F.drop q).drop esz := by rw [List.drop_drop]
      rw [this, ← List.drop_append_of_le_length (by rw [List.length_take, List.length_drop]; omega), List.take_append_drop, List.drop_drop]
      congr 1
      omega
    rw [← a1, ← a2]
    simp only [List.append_assoc]
  · simp only [Option.bind_eq_some_iff, putAt, gd_some, Nat.ble_eq, Option.some.injEq] at h
    obtain ⟨l, ⟨hle, rfl⟩, rfl⟩ := h
    rw [hu.len] at hle
    have hl : (es.flatten.take (ix * esz + off) ++ xs ++ es.flatten.drop (ix * esz + off + xs.length)).length = es.length * esz := by
      simp only [List.length_append, List.length_take, List.length_drop, hu.len]
      omega
    refine ⟨?_, chunk_uni esz _ _ (by omega), chunk_len .., hle⟩
    rw [chunk_flat esz _ _ (by omega), List.take_of_length_le (by omega)]

theorem oneV_cell {x : V} {c : Value} (h : oneV x = true) (hx : RepV w S ρ H x c) : c.oneCell' = true := by
  cases hx with
  | m hI => cases hI <;> first | rfl | (simp [oneV] at h)
  | un => simp [oneV] at h
  | ag xs cs hl c hc hr => simp [oneV] at h
  | tu xs cs hl c hc hr => simp [oneV] at h
  | _ => rfl

theorem oneVs_cells {xs : List V} {cs : List Value} (h : xs.all oneV = true) (hx : RepL w S ρ H xs cs) : ∀ c, c ∈ cs → c.oneCell' = true := by
  induction xs generalizing cs with
  | nil => rw [hx.inv_nil]; simp
  | cons x xs ih =>
    obtain ⟨c, r, rfl, h1, h2⟩ := hx.inv_cons
    simp only [List.all_cons, Bool.and_eq_true] at h
    intro d hd
    rcases List.mem_cons.1 hd with rfl | hd
    · exact oneV_cell h.1 h1
    · exact ih h.2 h2 d hd

theorem grown_setRow (w : World) (g : Nat) (cs : Array Value) : w.grownBy (w.setRow g cs) (some g) :=
  ⟨rfl, rfl, rfl, by simp, fun k _ hk => setRow_other w g k cs (fun e => hk (by rw [e]))⟩

/-- A row whose cells turn where they are; older versions can be read no more. -/
theorem set_snd {r ty esz : Nat} {es es' : List (List V)} {base : Nat} {cur : Array Value} {arr : Array Value} {cap : Nat} (hok : Ok w S ρ β M) (hrow : M.H[r]? = some (.cs ty esz es base false)) (hh : w.heap[ρ r]? = some (.cells cur ty (0, 0)))
    (hU : Uni esz es') (hlen : es'.length = es.length) (hcs : arr.size = cur.size) (hcap : cur.size = cap * esz) (hle : es.length ≤ cap) (hcm : cap ≤ maxLen) (hr : RepL w S ρ M.H es'.flatten (arr.toList.take (es.length * esz))) :
    Ok (w.setRow (ρ r) arr) S ρ β { M with H := M.H.set r (.cs ty esz es' es.length false) } ∧ Stp w S ρ β M (w.setRow (ρ r) arr) S ρ (M.H.set r (.cs ty esz es' es.length false)) := by
  obtain ⟨hb, hpos, _, _, hns, _⟩ := hok.rows r _ hrow
  have hnS := hns rfl
  have hρ : (fun k => if k = r then ρ r else ρ k) = ρ := by
    funext k
    by_cases c : k = r
    · rw [if_pos c, c]
    · rw [if_neg c]
  have hh' := setRow_heap w (ρ r) cur arr ty (0, 0) hh
  have key := Ok.setRow (w' := w.setRow (ρ r) arr) (S' := S) (g := ρ r) (row' := .cs ty esz es' es.length false) hok hrow (grown_setRow w _ arr) (.inl rfl) (fun _ h => h) (fun b h => .inl h)
    (fun b hb => setRow_other w _ b arr (fun e => hnS (e ▸ hb)))
    (fun ty1 esz1 es1 base1 fz1 e => by
      cases e
      refine ⟨es', es.length, false, rfl, by omega, hb, fun b ver h1 h2 hA => ?_, fun _ => ⟨rfl, fun cur1 mk1 h1 => ?_⟩⟩
      · rcases hA with hA | ⟨_, hne, _⟩
        · exact .inl hA
        · omega
      · rw [hh] at h1
        cases h1
        exact ⟨arr, (0, 0), hh', hcs⟩)
    (fun es1 fz1 e => by cases e)
    (fun hto => by
      rw [hρ] at hto ⊢
      exact ⟨by omega, hpos, hU, fun e => (by cases e), fun _ => hnS, arr, cap, (0, 0), hh', fun _ => rfl, by omega, by omega, hcm, by rw [hlen]; exact hr.mono hto⟩)
  rw [hρ] at key
  exact key

theorem snd_st {t : TypeId} {x y : Operand} {s : Nat} (ho : o.op = .store t x y) (hs : sizeT P t = some s) (hok : Ok w S ρ β M) (hv : All2 (RepX w S ρ β M.H) vs [a.eval x, a.eval y]) (he : loudX call M (.st s) vs = some (v, M')) :
    Outc w S ρ β M (.l (.st s)) v M' ((execOp a.eval o).run P w) := by
  cases hv with | cons h t1 =>
  cases t1 with | cons h1 t2 =>
  cases t2
  obtain ⟨i, hi, rfl⟩ := sizeT_some.1 hs
  simp only [loudX, Option.bind_eq_some_iff, gd_some, Bool.and_eq_true, Nat.beq_eq, Option.some.injEq, Prod.mk.injEq] at he
  obtain ⟨xs, hxs, ⟨hl, hone⟩, M1, hw, rfl, rfl⟩ := he
  have hX := RepX.cells h1 hxs
  have hXl := hX.1
  have hX1 := oneVs_cells hone hX
  simp only [Array.length_toList] at hXl
  have run : ∀ (b off : Nat) (cur : Array Value) (T : TypeId), a.eval x = .pointer (some ⟨b, off, none⟩) → w.heap[b]? = some (.cells cur T (0, 0)) → off + xs.length ≤ cur.size →
      (execOp a.eval o).run P w = .ok .skip (w.setRow b (cur.toList.take off ++ (a.eval y).cells.toList ++ cur.toList.drop (off + xs.length)).toArray) := fun b off cur T hx hh hle => by
    have hst := run_storeCells_at P b off T (a.eval y).cells.toList 0 cur w hh (by simp; omega) hX1
    simp only [Nat.add_zero, Array.length_toList, hXl] at hst
    have hne : ¬ (a.eval y).cells.size ≠ i.size := by omega
    simp only [execOp, ho, hx, Instr.storeAt, Instr.sureAddr, storeVar, Sem.run_bind, Sem.run_pure, Result.andThen_ok, run_sizeOf hi, if_neg hne, hst]
  unfold writeA at hw
  split at hw
  · rename_i d off
    simp only [Option.bind_eq_some_iff, Option.some.injEq] at hw
    obtain ⟨cs0, h0, cs', hcs', rfl⟩ := hw
    obtain ⟨cur, T, hh, hr⟩ := hok.boxes d cs0 h0
    obtain ⟨hR, hle⟩ := putAt_rep hcs' hr hX
    simp only [Array.length_toList, hXl] at hR hle
    have hrun := run (β d) off cur T h hh hle
    obtain ⟨hok', hst⟩ := Ok.setBox (d := d) (cs := cs') (cur := (cur.toList.take off ++ (a.eval y).cells.toList ++ cur.toList.drop (off + xs.length)).toArray) (T := T) hok (by rw [h0]; rfl) (grown_setRow w (β d) _) (setRow_heap w _ cur _ T (0, 0) hh) (by simpa using hR)
    refine ⟨_, undef, _, _, _, _, hrun, .inr ⟨rfl, rfl⟩, hok', hst, .un, fun _ _ => rfl, fun k hk => .inl ⟨k, ?_, rfl⟩⟩
    simp only [getB_setB] at hk
    split at hk
    · rename_i e; rw [e, h0]; rfl
    · exact hk
  · rename_i r ver ix off
    simp only [Option.bind_eq_some_iff, nth_eq] at hw
    obtain ⟨row, hrow, hw⟩ := hw
    split at hw
    · rename_i ty esz es base fz
      simp only [gd_some, Bool.and_eq_true, Nat.beq_eq, Bool.not_eq_true', Option.bind_eq_some_iff, Option.some.injEq] at hw
      obtain ⟨⟨hfz, hve⟩, es', hes', H', hH', rfl⟩ := hw
      subst hfz
      obtain ⟨hrl, rfl⟩ := setEl_eq hH'
      have hx := RepX.toV rfl h
      generalize hxe : a.eval x = c at hx
      cases hx with | pt _ _ _ _ ty' esz' es1 base' fz' p hrow' h2 hix hb =>
      rw [hrow] at hrow'
      simp only [Option.some.injEq, Row.cs.injEq] at hrow'
      obtain ⟨rfl, rfl, rfl, rfl, rfl⟩ := hrow'
      obtain ⟨hbl, hpos, hU, _, hns, cur, cap, mk, hh, hmk, hcs, hcap, hcm, hr⟩ := hok.rows r _ hrow
      have hmk := hmk rfl
      subst hmk
      obtain ⟨b, rfl, hA⟩ := hb (by omega)
      have hbe : b = ρ r := by
        rcases hA with hA | ⟨_, hne, _⟩
        · exact hA
        · exact absurd hve hne
      subst hbe
      obtain ⟨w1, w2, w3, w4⟩ := writeR_eq hU hes'
      have hcap' : es.length * esz ≤ cap * esz := Nat.mul_le_mul_right _ hcap
      have hrun := run (ρ r) (ix * esz + off) cur ty hxe hh (by omega)
      have hRL : RepL w S ρ M.H es'.flatten ((cur.toList.take (ix * esz + off) ++ (a.eval y).cells.toList ++ cur.toList.drop (ix * esz + off + xs.length)).toArray.toList.take (es.length * esz)) := by
        have := cut3 cur.toList (a.eval y).cells.toList (ix * esz + off) (es.length * esz) (by simp; omega) (by simp; omega)
        simp only [Array.length_toList, hXl] at this
        rw [List.toList_toArray, this, w1]
        exact ((hr.take _).append hX).append (hr.drop _)
      obtain ⟨hok', hst⟩ := set_snd (arr := (cur.toList.take (ix * esz + off) ++ (a.eval y).cells.toList ++ cur.toList.drop (ix * esz + off + xs.length)).toArray) hok hrow hh w2 w3 (by simp; omega) hcs hcap hcm hRL
      exact ⟨_, undef, _, _, _, _, hrun, .inr ⟨rfl, rfl⟩, hok', hst, .un, fun _ _ => rfl, fun k hk => .inl ⟨k, hk, rfl⟩⟩
    · cases hw
  · cases hw
end
end Go.Mx
