/- append and copy: the operations. -/
import Derived.Test.YtaomjcmiaiokcaaDoorSndN
namespace Go.Mx
section
variable {P : Program} {w : World} {S : Nat → Prop} {ρ β : Nat → Nat} {M M' : Mem} {H : Hp} {o : Oper} {a : Act} {vs : List V} {v : V} {call : Call}

theorem grown_weaken {w w' : World} {row : Option Nat} (h : w.grownBy w' none) : w.grownBy w' row := ⟨h.os, h.tape, h.output, h.size, fun k hk _ => h.block k hk (by simp)⟩

/-- A row that grows in its own block. -/
theorem grow_in {r ty esz : Nat} {es xs : List (List V)} {base : Nat} {cur : Array Value} {news : List Value} {cap : Nat} (hok : Ok w S ρ β M) (hrow : M.H[r]? = some (.cs ty esz es base false)) (hh : w.heap[ρ r]? = some (.cells cur ty (0, 0)))
    (hU : Uni esz xs) (hne : xs ≠ []) (hcap : cur.size = cap * esz) (hle : es.length + xs.length ≤ cap) (hcm : cap ≤ maxLen) (hnl : news.length = xs.length * esz) (hr : RepL w S ρ M.H es.flatten (cur.toList.take (es.length * esz))) (hn : RepL w S ρ M.H xs.flatten news) :
    Ok (w.setRow (ρ r) (cur.toList.take (es.length * esz) ++ news ++ cur.toList.drop (es.length * esz + news.length)).toArray) S ρ β { M with H := M.H.set r (.cs ty esz (es ++ xs) base false) } ∧
      Stp w S ρ β M (w.setRow (ρ r) (cur.toList.take (es.length * esz) ++ news ++ cur.toList.drop (es.length * esz + news.length)).toArray) S ρ (M.H.set r (.cs ty esz (es ++ xs) base false)) := by
  obtain ⟨hb, hpos, hU0, _, hns, _⟩ := hok.rows r _ hrow
  have hU0 : Uni esz es := hU0
  have hnS := hns rfl
  have hxl : 0 < xs.length := List.length_pos_iff.2 hne
  have hmul : (es.length + xs.length) * esz ≤ cap * esz := Nat.mul_le_mul_right _ hle
  rw [Nat.add_mul] at hmul
  have hsz : (cur.toList.take (es.length * esz) ++ news ++ cur.toList.drop (es.length * esz + news.length)).toArray.size = cur.size := by
    simp only [List.size_toArray, List.length_append, List.length_take, List.length_drop, Array.length_toList]
    omega
  have hh' := setRow_heap w (ρ r) cur (cur.toList.take (es.length * esz) ++ news ++ cur.toList.drop (es.length * esz + news.length)).toArray ty (0, 0) hh
  have hcell : ∀ j, j < es.length * esz → (w.setRow (ρ r) (cur.toList.take (es.length * esz) ++ news ++ cur.toList.drop (es.length * esz + news.length)).toArray).cell? ⟨ρ r, j, none⟩ = w.cell? ⟨ρ r, j, none⟩ := fun j hj => by
    rw [cell_of_row _ _ j _ ty _ hh', cell_of_row _ _ j cur ty _ hh]
    have h1 : j < (cur.toList.take (es.length * esz) ++ news).length := by
      simp only [List.length_append, List.length_take, Array.length_toList]; omega
    have h2 : j < (cur.toList.take (es.length * esz)).length := by
      simp only [List.length_take, Array.length_toList]; omega
    rw [List.getElem?_toArray, List.getElem?_append_left h1, List.getElem?_append_left h2, List.getElem?_take, if_pos hj]
    simp
  have key := Ok.setRow (w' := w.setRow (ρ r) (cur.toList.take (es.length * esz) ++ news ++ cur.toList.drop (es.length * esz + news.length)).toArray) (S' := S) (g := ρ r) (row' := .cs ty esz (es ++ xs) base false) hok hrow (grown_setRow w _ _) (.inl rfl) (fun _ h => h) (fun b h => .inl h)
    (fun b hb => setRow_other w _ b _ (fun e => hnS (e ▸ hb)))
    (fun ty1 esz1 es1 base1 fz1 e => by
      cases e
      refine ⟨es ++ xs, base, false, rfl, by simp, Nat.le_refl _, fun b ver h1 h2 hA => ?_, fun e => by simp at e; exact absurd e hne⟩
      rcases hA with hA | ⟨hSb, hv, hc⟩
      · exact .inl hA
      · refine .inr ⟨hSb, by rw [List.length_append]; omega, fun j hj => ?_⟩
        have : ver * esz ≤ es.length * esz := Nat.mul_le_mul_right _ h1
        rw [hcell j (by omega), World.cell?_of_block (a := ⟨b, j, none⟩) (setRow_other w (ρ r) b _ (fun e => hnS (e ▸ hSb)))]
        exact hc j hj)
    (fun es1 fz1 e => by cases e)
    (fun hto => by
      rw [ρ_self] at hto ⊢
      refine ⟨by simp; omega, hpos, hU0.append hU, fun e => (by cases e), fun _ => hnS, _, cap, (0, 0), hh', fun _ => rfl, by omega, by simp; omega, hcm, ?_⟩
      have : (cur.toList.take (es.length * esz) ++ news ++ cur.toList.drop (es.length * esz + news.length)).toArray.toList.take ((es ++ xs).length * esz) = cur.toList.take (es.length * esz) ++ news := by
        rw [List.toList_toArray, List.length_append, Nat.add_mul, List.take_append_of_le_length (by simp only [List.length_append, List.length_take, Array.length_toList]; omega),
          List.take_of_length_le (by simp only [List.length_append, List.length_take, Array.length_toList]; omega)]
      rw [this, List.flatten_append]
      exact (hr.append hn).mono hto)
  rw [ρ_self] at key
  exact key

/-- A row that moves as it grows: the old block is stable from now on. -/
theorem grow_out {r ty esz : Nat} {es xs : List (List V)} {base : Nat} {cur arr : Array Value} {news : List Value} {cap cap' : Nat} {w' : World} (hok : Ok w S ρ β M) (hrow : M.H[r]? = some (.cs ty esz es base false)) (hh : w.heap[ρ r]? = some (.cells cur ty (0, 0)))
    (hU : Uni esz xs) (hne : xs ≠ []) (hcap : cur.size = cap * esz) (hle0 : es.length ≤ cap) (hnl : news.length = xs.length * esz) (hr : RepL w S ρ M.H es.flatten (cur.toList.take (es.length * esz))) (hn : RepL w S ρ M.H xs.flatten news)
    (hg : w.grownBy w' none) (hnew : w'.heap[w.heap.size]? = some (.cells arr ty (0, 0))) (hasz : arr.size = cap' * esz) (hle : es.length + xs.length ≤ cap') (hcm : cap' ≤ maxLen) (harr : arr.toList.take ((es.length + xs.length) * esz) = cur.toList.take (es.length * esz) ++ news) :
    Ok w' (fun b => S b ∨ b = ρ r) (fun k => if k = r then w.heap.size else ρ k) β { M with H := M.H.set r (.cs ty esz (es ++ xs) base false) } ∧
      Stp w S ρ β M w' (fun b => S b ∨ b = ρ r) (fun k => if k = r then w.heap.size else ρ k) (M.H.set r (.cs ty esz (es ++ xs) base false)) := by
  obtain ⟨hb, hpos, hU0, _, hns, _⟩ := hok.rows r _ hrow
  have hU0 : Uni esz es := hU0
  have hnS := hns rfl
  have hxl : 0 < xs.length := List.length_pos_iff.2 hne
  have hrl := (List.getElem?_eq_some_iff.1 hrow).1
  have hρl := hok.rlt hrl
  have hmul : es.length * esz ≤ cap * esz := Nat.mul_le_mul_right _ hle0
  have old : ∀ b, b < w.heap.size → w'.heap[b]? = w.heap[b]? := fun b hb => hg.block b hb (by simp)
  have hcell : ∀ j, j < es.length * esz → w'.cell? ⟨w.heap.size, j, none⟩ = w.cell? ⟨ρ r, j, none⟩ := fun j hj => by
    rw [cell_of_row _ _ j _ ty _ hnew, cell_of_row _ _ j cur ty _ hh]
    have h2 : j < (cur.toList.take (es.length * esz)).length := by
      simp only [List.length_take, Array.length_toList]; omega
    have h3 : (arr.toList.take ((es.length + xs.length) * esz))[j]? = (cur.toList.take (es.length * esz) ++ news)[j]? := by rw [harr]
    rw [List.getElem?_take, if_pos (by rw [Nat.add_mul]; omega), List.getElem?_append_left h2, List.getElem?_take, if_pos hj] at h3
    simpa using h3
  refine Ok.setRow (w' := w') (S' := fun b => S b ∨ b = ρ r) (g := w.heap.size) (row' := .cs ty esz (es ++ xs) base false) hok hrow (grown_weaken hg) (.inr (Nat.le_refl _)) (fun _ h => .inl h) (fun b h => h)
    (fun b hb => old b (hok.lt b hb))
    (fun ty1 esz1 es1 base1 fz1 e => by
      cases e
      refine ⟨es ++ xs, base, false, rfl, by simp, Nat.le_refl _, fun b ver h1 h2 hA => ?_, fun e => by simp at e; exact absurd e hne⟩
      have hm2 : ver * esz ≤ es.length * esz := Nat.mul_le_mul_right _ h1
      rcases hA with hA | ⟨hSb, hv, hc⟩
      · subst hA
        refine .inr ⟨.inr rfl, by rw [List.length_append]; omega, fun j hj => ?_⟩
        rw [hcell j (by omega)]
        exact World.cell?_of_block (a := ⟨ρ r, j, none⟩) (old _ hρl)
      · refine .inr ⟨.inl hSb, by rw [List.length_append]; omega, fun j hj => ?_⟩
        rw [hcell j (by omega), World.cell?_of_block (a := ⟨b, j, none⟩) (old b (hok.lt b hSb))]
        exact hc j hj)
    (fun es1 fz1 e => by cases e)
    (fun hto => ?_)
  have hgr : (if r = r then w.heap.size else ρ r) = w.heap.size := if_pos rfl
  refine ⟨by simp; omega, hpos, hU0.append hU, fun e => (by cases e), fun _ => ?_, arr, cap', (0, 0), by simpa [hgr] using hnew, fun _ => rfl, hasz, by simpa using hle, hcm, ?_⟩
  · show ¬ (S (if r = r then w.heap.size else ρ r) ∨ (if r = r then w.heap.size else ρ r) = ρ r)
    rw [hgr]
    rintro (h | h)
    · have := hok.lt _ h; omega
    · omega
  · rw [List.length_append, harr, List.flatten_append]
    exact (hr.append hn).mono hto

theorem slice_form {s : V} {cs : Value} (h : RepX w S ρ β H s cs) (hs : (∃ l, s = .m (.sl l)) ∨ (∃ l, s = .ls l) ∨ s = .m (.nl 4) ∨ ∃ r ver esz st len lim, s = .sl r ver esz st len lim) : ∃ ad n cap, cs = .slice ad n cap ∧ n ≤ cap := by
  rcases hs with ⟨l, rfl⟩ | ⟨l, rfl⟩ | rfl | ⟨r, ver, esz, st, len, lim, rfl⟩
  · obtain ⟨ad, cap, rfl, hle, _⟩ := slI_form (RepX.toV rfl h).imm
    exact ⟨ad, _, cap, rfl, hle⟩
  · have h := RepX.toV rfl h
    cases h
    exact ⟨_, _, _, rfl, Nat.le_refl _⟩
  · have := nls_form (RepX.toV rfl h)
    exact ⟨_, _, _, this, Nat.le_refl _⟩
  · have h := RepX.toV rfl h
    cases h
    exact ⟨_, _, _, rfl, ‹_›⟩

theorem appX_snd {c : Go.Call} {t t1 e : TypeId} {u1 : TypeDesc} {esz bytes : Nat} {z : Value} {i : TypeInfo} {x cs : Value} {xs : List (List V)} {s val : V} (ho : o.op = .call c) (hb : c.callee = .builtin .append) (h0 : c.argTypes[0]? = some t) (h1 : c.argTypes[1]? = some t1) (ht : P.underlying t = some (.slice e)) (hu1 : P.underlying t1 = some u1) (hn : (∃ e', u1 = .slice e') ∨ u1 = .string)
    (hi : P.info? e = some i) (hz : i.zero = some z) (hzs : z.cells.size = i.size) (hesz : i.size = esz) (hby : i.bytes = bytes) (hpos : 1 ≤ esz) (hb1 : 1 ≤ bytes) (hok : Ok w S ρ β M) (hm : c.args.map a.eval = #[cs, x]) (h : RepX w S ρ β M.H s cs)
    (hs : Uni esz xs → ∃ news, Src P w esz xs.length x news ∧ news.length = xs.length * esz ∧ RepL w S ρ M.H xs.flatten news)
    (he : appX M e esz bytes s xs = some (val, M')) : Outc w S ρ β M (.l (.app e esz bytes)) val M' ((execOp a.eval o).run P w) := by
  unfold appX at he
  split at he
  · have hU : Uni esz ([] : List (List V)) := fun y hy => by simp at hy
    obtain ⟨news, hsrc, hnl, _⟩ := hs hU
    have : news = [] := List.eq_nil_of_length_eq_zero (by simpa using hnl)
    subst this
    have hf : s = val ∧ M = M' ∧ ((∃ l, s = .m (.sl l)) ∨ (∃ l, s = .ls l) ∨ s = .m (.nl 4) ∨ ∃ r ver esz st len lim, s = .sl r ver esz st len lim) := by
      split at he <;> first | (cases he; done) | (simp only [Option.some.injEq, Prod.mk.injEq] at he; exact ⟨he.1, he.2, by simp⟩)
    obtain ⟨rfl, rfl, hf⟩ := hf
    obtain ⟨ad, n, cap, rfl, hle⟩ := slice_form h hf
    subst hesz
    exact .val hok h (run_call_builtin ho hb (fun _ => by rw [hm]; rfl) (app_none h0 h1 ht hu1 hn hi hsrc hle))
  · rename_i y ys
    generalize hxs : y :: ys = xs at he hs
    have hne : xs ≠ [] := by rw [← hxs]; simp
    have hxl : 0 < xs.length := List.length_pos_iff.2 hne
    have uniOf : ∀ {l : List (List V)} {q : V × Mem}, newRow M e esz bytes l = some q → Uni esz l := fun {l q} h => by
      simp only [newRow, gd_some, Bool.and_eq_true, List.all_eq_true, Nat.beq_eq] at h
      exact fun e he => (h.1.2 e he).1
    split at he
    · have hc := nls_form (RepX.toV rfl h)
      subst hc
      obtain ⟨news, hsrc, hnl, hnr⟩ := hs (uniOf he)
      exact app_new (es0 := []) (olds := []) ho hb h0 h1 ht hu1 hn hi hz hzs hesz hby hb1 hok hm hsrc hnl hnr Src.none (by simp) .nil (by simpa using hxl) he
    · rename_i es
      have hU := uniOf he
      have hUx : Uni esz xs := fun q hq => hU q (List.mem_append_right _ hq)
      have hUe : Uni esz (immS es) := fun q hq => hU q (List.mem_append_left _ hq)
      obtain ⟨news, hsrc, hnl, hnr⟩ := hs hUx
      obtain ⟨olds, hos, hol, hor⟩ := src_snd (P := P) hok h (show elems M.H (.ls es) = some (immS es) from rfl) esz hUe
      have h' := RepX.toV rfl h
      cases h' with | ls _ ad hI =>
      rw [← immS_len es] at hm hos
      exact app_new (es0 := immS es) ho hb h0 h1 ht hu1 hn hi hz hzs hesz hby hb1 hok hm hsrc hnl hnr hos hol hor (by omega) he
    · rename_i r ver esz0 st len lim
      simp only [Option.bind_eq_some_iff, nth_eq] at he
      obtain ⟨row, hrow, he⟩ := he
      split at he
      · rename_i ty' esz' es base fz
        split at he
        · simp only [gd_some, Bool.and_eq_true, Nat.ble_eq, Nat.beq_eq] at he
          obtain ⟨⟨⟨hbv, rfl⟩, rfl⟩, he⟩ := he
          have hU := uniOf he
          have hUx : Uni esz xs := fun q hq => hU q (List.mem_append_right _ hq)
          have hUe : Uni esz ((es.drop st).take len) := fun q hq => hU q (List.mem_append_left _ hq)
          obtain ⟨news, hsrc, hnl, hnr⟩ := hs hUx
          have hel : elems M.H (.sl r ver esz st len true) = some ((es.drop st).take len) := by
            simp only [elems, nth_eq, hrow, Option.bind_some, Nat.beq_refl, Bool.and_true, gd_some, Nat.ble_eq, and_true]
            exact hbv
          obtain ⟨olds, hos, hol, hor⟩ := src_snd (P := P) hok h hel esz hUe
          have h' := RepX.toV rfl h
          cases h' with | sl _ _ _ _ _ _ ty2 es2 base2 fz2 ad cap hrow2 g1 g2 g3 g4 g5 gn gb ga =>
          rw [hrow] at hrow2
          simp only [Option.some.injEq, Row.cs.injEq] at hrow2
          obtain ⟨rfl, _, rfl, rfl, rfl⟩ := hrow2
          have hcl := g5 rfl
          subst hcl
          have hlen : ((es.drop st).take cap).length = cap := by rw [List.length_take, List.length_drop]; omega
          rw [hlen] at hos
          exact app_new (es0 := (es.drop st).take cap) (olds := olds) (sCap := cap) (ad := ad) ho hb h0 h1 ht hu1 hn hi hz hzs hesz hby hb1 hok (by rw [hlen]; exact hm) hsrc hnl hnr (by rw [hlen]; exact hos) hol hor (by omega) he
        · simp only [gd_some, Bool.and_eq_true, Nat.ble_eq, Nat.beq_eq, Bool.not_eq_true', Option.bind_eq_some_iff, Option.some.injEq, Prod.mk.injEq, List.all_eq_true] at he
          obtain ⟨⟨⟨⟨⟨⟨⟨⟨⟨rfl, rfl⟩, rfl⟩, hz0⟩, rfl⟩, rfl⟩, rfl⟩, hbs⟩, hall⟩, H', hH', rfl, rfl⟩ := he
          have hz0 := hz0.symm
          subst hz0
          obtain ⟨hrl, rfl⟩ := setEl_eq hH'
          have hUx : Uni esz xs := fun q hq => (hall q hq).1
          obtain ⟨news, hsrc, hnl, hnr⟩ := hs hUx
          have h' := RepX.toV rfl h
          cases h' with | sl _ _ _ _ _ _ ty2 es2 base2 fz2 ad cap hrow2 g1 g2 g3 g4 g5 gn gb ga =>
          rw [hrow] at hrow2
          simp only [Option.some.injEq, Row.cs.injEq] at hrow2
          obtain ⟨rfl, _, rfl, rfl, rfl⟩ := hrow2
          obtain ⟨rfl, cur, mk, hh, hcs⟩ := ga rfl rfl rfl rfl
          obtain ⟨hbl, _, hU0, _, hns, cur', cap', mk', hh', hmk, hcs', hcap, hcm, hr⟩ := hok.rows r _ hrow
          rw [hh] at hh'
          simp only [Option.some.injEq, Obj.cells.injEq] at hh'
          obtain ⟨rfl, _, rfl⟩ := hh'
          have hmk := hmk rfl
          subst hmk
          have hone : ∀ u, u ∈ news → u.oneCell' = true := oneVs_cells (by
            rw [List.all_eq_true]
            intro y hy
            obtain ⟨l, hl, hyl⟩ := List.mem_flatten.1 hy
            exact (hall l hl).2 y hyl) hnr
          have hmul : cap = cap' := Nat.eq_of_mul_eq_mul_right hpos (by rw [← hcs, hcs'])
          subst hmul
          by_cases hroom : es.length + xs.length ≤ cap
          · have hm2 : (es.length + xs.length) * esz ≤ cap * esz := Nat.mul_le_mul_right _ hroom
            rw [Nat.add_mul] at hm2
            subst hesz
            have hrun := app_room (ty := o.type) h0 h1 ht hu1 hn hi hsrc hnl hh hone hroom (by omega)
            obtain ⟨hok', hst⟩ := grow_in hok hrow hh hUx hne hcs hroom hcm hnl hr hnr
            refine ⟨_, .slice (some ⟨ρ r, 0, none⟩) (es.length + xs.length) cap, _, _, _, _, run_call_builtin ho hb (fun _ => by rw [hm]; rfl) hrun, .inl rfl, hok', hst, RepX.ofV ?_, fun _ _ => rfl, fun d hd => .inl ⟨d, hd, rfl⟩⟩
            refine .sl r _ _ 0 _ false e (es ++ xs) base false _ cap (by simp [hrl]) (by omega) (by simp) hroom hcm (fun h => by cases h) (fun _ => ⟨_, rfl⟩) (fun _ _ => ⟨ρ r, by simp, .inl rfl⟩) (fun _ _ _ _ => ⟨rfl, _, (0, 0), setRow_heap w (ρ r) cur _ e (0, 0) hh, ?_⟩)
            simp only [List.size_toArray, List.length_append, List.length_take, List.length_drop, Array.length_toList]
            omega
          · have h47 : es.length + xs.length ≤ 140737488355328 := by
              have : (es.length + xs.length) * 1 ≤ (es.length + xs.length) * bytes := Nat.mul_le_mul_left _ hb1
              omega
            have h63 : es.length + xs.length ≤ maxLen := by unfold maxLen; omega
            have hol : (cur.toList.take (es.length * esz)).length = es.length * esz := by
              have : es.length * esz ≤ cap * esz := Nat.mul_le_mul_right _ hcap
              simp only [List.length_take, Array.length_toList]; omega
            have hos : Src P w esz es.length (.slice (some ⟨ρ r, 0, none⟩) es.length cap) (cur.toList.take (es.length * esz)) := Src.slice' hol rfl fun j u hj => by
              rw [Nat.zero_add, cell_of_row w _ j cur e _ hh]
              rw [List.getElem?_take] at hj
              split at hj
              · simpa using hj
              · cases hj
            subst hesz; subst hby
            have hrun := app_grow (P := P) (w := w) (ty := o.type) h0 h1 ht hu1 hn hi hz hsrc hos (by omega) h63 hbs
            have hcm' := grownCap_le_maxLen w (es.length + xs.length) cap e h63
            have hge := grownCap_ge w (es.length + xs.length) cap e
            have hnew := heap_alloc_new w.drew (.cells ((cur.toList.take (es.length * i.size)).toArray ++ news.toArray ++ Builtin.zeroCells z.cells (grownCap w (es.length + xs.length) cap e - (es.length + xs.length))) e)
            have hsize : ((cur.toList.take (es.length * i.size)).toArray ++ news.toArray ++ Builtin.zeroCells z.cells (grownCap w (es.length + xs.length) cap e - (es.length + xs.length))).size = grownCap w (es.length + xs.length) cap e * i.size := by
              simp only [Array.size_append, List.size_toArray, zc_size, hzs, hol, hnl, ← Nat.add_mul]
              congr 1
              omega
            obtain ⟨hok', hst⟩ := grow_out (w' := w.drew.alloc _) hok hrow hh hUx hne hcs hcap hnl hr hnr (grown_drew_alloc w _) hnew hsize hge hcm' (by
              simp only [Array.toList_append]
              rw [List.take_append_of_le_length (by simp only [List.length_append, hol, hnl, Nat.add_mul]; omega), List.take_of_length_le (by simp only [List.length_append, hol, hnl, Nat.add_mul]; omega)])
            refine ⟨_, _, _, _, _, _, run_call_builtin ho hb (fun _ => by rw [hm]; rfl) hrun, .inl rfl, hok', hst, RepX.ofV ?_, fun _ _ => rfl, fun d hd => .inl ⟨d, hd, rfl⟩⟩
            exact .sl r _ _ 0 _ false e (es ++ xs) base false _ _ (by simp [hrl]) (by omega) (by simp) hge hcm' (fun h => by cases h) (fun _ => ⟨_, rfl⟩) (fun _ _ => ⟨w.heap.size, by simp, .inl (by simp)⟩) (fun _ _ _ _ => ⟨by simp, _, (0, 0), by simpa using hnew, hsize⟩)
      · cases he
    · cases he

theorem snd_app {c : Go.Call} {t t1 e : TypeId} {u1 : TypeDesc} {esz bytes : Nat} {zs : List V} (ho : o.op = .call c) (hb : c.callee = .builtin .append) (h0 : c.argTypes[0]? = some t) (h1 : c.argTypes[1]? = some t1) (ht : P.underlying t = some (.slice e)) (hu1 : P.underlying t1 = some u1) (hn : (∃ e', u1 = .slice e') ∨ u1 = .string)
    (hz : zeros P e = some zs) (hs : sizeT P e = some esz) (hby : bytesT P e = some bytes) (hpos : 1 ≤ esz) (hb1 : 1 ≤ bytes) (hok : Ok w S ρ β M) (hv : All2 (RepX w S ρ β M.H) vs (c.args.toList.map a.eval)) (he : loudX call M (.app e esz bytes) vs = some (v, M')) :
    Outc w S ρ β M (.l (.app e esz bytes)) v M' ((execOp a.eval o).run P w) := by
  obtain ⟨i, z, hi, hz0, hzs, _⟩ := zeros_rep hz
  obtain ⟨i', hi', hsz⟩ := sizeT_some.1 hs
  obtain ⟨i'', hi'', hbz⟩ := bytesT_some.1 hby
  rw [hi] at hi' hi''
  cases hi'; cases hi''
  match vs, he with
  | [s, x], he =>
    obtain ⟨cs, cx, hargs, h, hx⟩ := hv.inv2
    have hm := args2 hargs
    simp only [loudX] at he
    split at he
    · rename_i l
      refine appX_snd ho hb h0 h1 ht hu1 hn hi hz0 hzs hsz hbz hpos hb1 hok hm h (fun hU => ?_) he
      cases l with
      | nil =>
        obtain ⟨s, rfl, hl⟩ := repI_str (RepX.toV rfl hx)
        have h0 : s.size = 0 := by
          have := congrArg List.length hl
          simpa using this
        have := Src.string (P := P) (w := w) (size := esz) s
        have hc : Lib.strCells s = [] := List.eq_nil_of_length_eq_zero (by rw [Lib.strCells_length]; exact h0)
        rw [h0, hc] at this
        exact ⟨[], this, by simp, .nil⟩
      | cons d l =>
        have h1 : esz = 1 := by have := hU [V.m (.i .u8 (Int.ofNat d))] (by simp); simpa using this.symm
        exact src_str hx esz h1
    · simp only [Option.bind_eq_some_iff] at he
      obtain ⟨xs, hxs, he⟩ := he
      exact appX_snd ho hb h0 h1 ht hu1 hn hi hz0 hzs hsz hbz hpos hb1 hok hm h (fun hU => src_snd hok hx hxs esz hU) he

theorem run_copy_gen {dT sT ty e : TypeId} {i : TypeInfo} {ts : Array TypeId} (h0 : ts[0]? = some dT) (hu : P.underlying dT = some (.slice e)) (hi : P.info? e = some i) {g o' dLen dCap m : Nat} {x : Value} {cur : Array Value} {T : TypeId} {cs : List Value}
    (hl : Builtin.lenOf x = pure m) (hf : (Builtin.firstCells i.size (Nat.min m dLen) x).run P w = .ok cs.toArray w) (hg : w.heap[g]? = some (.cells cur T (0, 0))) (hfit : o' + cs.length ≤ cur.size) (h1 : ∀ v ∈ cs, v.oneCell' = true) :
    (Builtin.copy_ ts ty #[.slice (some ⟨g, o', none⟩) dLen dCap, x]).run P w = .ok (goInt (Nat.min m dLen)) (w.setRow g (cur.toList.take o' ++ cs ++ cur.toList.drop (o' + cs.length)).toArray) := by
  have hst := run_storeCells_at P g o' T cs 0 cur w hg (by simpa using hfit) h1
  simp only [Nat.add_zero] at hst
  simp [Builtin.copy_, h0, run_underlying hu, hl, run_sizeOf hi, hf, hst]

theorem run_copy_zero {dT sT ty e : TypeId} {i : TypeInfo} {ts : Array TypeId} (h0 : ts[0]? = some dT) (hu : P.underlying dT = some (.slice e)) (hi : P.info? e = some i) {ad : Option Addr} {dCap m : Nat} {x : Value}
    (hl : Builtin.lenOf x = pure m) (hf : (Builtin.firstCells i.size 0 x).run P w = .ok #[] w) :
    (Builtin.copy_ ts ty #[.slice ad 0 dCap, x]).run P w = .ok (goInt 0) w := by
  have hm : Nat.min m 0 = 0 := Nat.min_zero m
  cases ad <;> simp [Builtin.copy_, h0, run_underlying hu, hl, run_sizeOf hi, hf, hm, storeCells]

theorem setRow_same (w : World) (g : Nat) (cur : Array Value) (t : TypeId) (fr : Nat × Nat) (hg : w.heap[g]? = some (.cells cur t fr)) : w.setRow g cur = w := setRow_self w g cur t fr hg

theorem snd_cpy {c : Go.Call} {t e : TypeId} {esz : Nat} (ho : o.op = .call c) (hb : c.callee = .builtin .copy) (h0 : c.argTypes[0]? = some t) (ht : P.underlying t = some (.slice e)) (hs : sizeT P e = some esz)
    (hok : Ok w S ρ β M) (hv : All2 (RepX w S ρ β M.H) vs (c.args.toList.map a.eval)) (he : loudX call M (.cpy esz) vs = some (v, M')) :
    Outc w S ρ β M (.l (.cpy esz)) v M' ((execOp a.eval o).run P w) := by
  obtain ⟨i, hi, rfl⟩ := sizeT_some.1 hs
  match vs, he with
  | [d, x], he =>
    obtain ⟨cd, cx, hargs, h, hx⟩ := hv.inv2
    have hm := args2 hargs
    simp only [loudX, Option.bind_eq_some_iff] at he
    obtain ⟨xs, hxs, he⟩ := he
    split at he
    · rename_i r ver esz st len lim
      simp only [Option.bind_eq_some_iff, nth_eq] at he
      obtain ⟨row, hrow, he⟩ := he
      split at he
      · rename_i ty esz' es base
        simp only [gd_some, Bool.and_eq_true, Nat.beq_eq, Option.bind_eq_some_iff, Option.some.injEq, Prod.mk.injEq, List.all_eq_true] at he
        obtain ⟨⟨⟨⟨hve, rfl⟩, hsz⟩, hall⟩, H', hH', rfl, rfl⟩ := he
        obtain ⟨hrl, rfl⟩ := setEl_eq hH'
        have hUx : Uni esz xs := fun q hq => (hall q hq).1
        obtain ⟨ad, cap, esz1, cells, rfl, hu1, hr1, hc1⟩ := elems_snd hok hx hxs
        have h' := RepX.toV rfl h
        cases h' with | sl _ _ _ _ _ _ ty2 es2 base2 fz2 adr cap2 hrow2 g1 g2 g3 g4 g5 gn gb ga =>
        rw [hrow] at hrow2
        simp only [Option.some.injEq, Row.cs.injEq] at hrow2
        obtain ⟨rfl, _, rfl, rfl, rfl⟩ := hrow2
        obtain ⟨hbl, hpos, hU0, _, hns, cur, cap', mk, hh, hmk, hcs, hcap, hcm, hr⟩ := hok.rows r _ hrow
        have hmk := hmk rfl
        subst hmk
        have hU0 : Uni esz es := hU0
        have hlc : cells.length = xs.length * esz := by rw [hr1.1, hUx.len]
        generalize hn : Nat.min xs.length len = n
        have hnx : n ≤ xs.length := by rw [← hn]; exact Nat.min_le_left _ _
        have hnl : n ≤ len := by rw [← hn]; exact Nat.min_le_right _ _
        have htk : xs.take len = xs.take n := by rw [← hn]; simp [List.take_eq_take_iff]; exact Nat.min_comm _ _
        have hxt : (xs.take n).length = n := by rw [List.length_take]; omega
        have hmulx : n * esz ≤ xs.length * esz := Nat.mul_le_mul_right _ hnx
        have hnews : (cells.take (n * esz)).length = n * esz := by rw [List.length_take]; omega
        have hrn : RepL w S ρ M.H (xs.take n).flatten (cells.take (n * esz)) := by rw [flat_take hUx n]; exact hr1.take _
        have hone : ∀ u, u ∈ cells.take (n * esz) → u.oneCell' = true := oneVs_cells (by
          rw [List.all_eq_true]
          intro y hy
          obtain ⟨l, hl, hyl⟩ := List.mem_flatten.1 hy
          exact (hall l (List.mem_of_mem_take hl)).2 y hyl) hrn
        have hf : (Builtin.firstCells i.size n (.slice ad xs.length cap)).run P w = .ok (cells.take (n * esz)).toArray w := by
          by_cases hne : xs = []
          · have hn0 : n = 0 := by rw [hne] at hnx; simpa using hnx
            subst hn0
            cases ad with
            | none => simp [Builtin.firstCells]
            | some p => simp [Builtin.firstCells, loadCells, loadCellsFrom]
          · obtain ⟨b, off, rfl, hcell, _⟩ := hc1 hne
            refine run_firstCells_some w i.size n _ _ _ _ (by rw [hnews, hsz]) fun j u hj => ?_
            rw [addr_add]
            rw [List.getElem?_take] at hj
            split at hj
            · exact hcell j u hj
            · cases hj
        have hel : (es.take st ++ xs.take n ++ es.drop (st + n)).length = es.length := by
          simp only [List.length_append, List.length_take, List.length_drop]; omega
        have hfin : ∀ arr : Array Value, arr.toList = cur.toList.take (st * esz) ++ cells.take (n * esz) ++ cur.toList.drop (st * esz + n * esz) → (Builtin.copy_ c.argTypes o.type #[.slice adr len cap2, .slice ad xs.length cap]).run P w = .ok (goInt n) (w.setRow (ρ r) arr) →
            Outc w S ρ β M (.l (.cpy i.size)) (.m (.i .i64 (Int.ofNat n))) { M with H := M.H.set r (.cs ty esz (cpyEl es st (xs.take len)) es.length false) } ((execOp a.eval o).run P w) := fun arr harr hrun => by
          rw [htk]
          have hce : cpyEl es st (xs.take n) = es.take st ++ xs.take n ++ es.drop (st + n) := by unfold cpyEl; rw [hxt]
          rw [hce]
          have hm1 : st * esz + n * esz ≤ es.length * esz := by rw [← Nat.add_mul]; exact Nat.mul_le_mul_right _ (by omega)
          have hm2 : es.length * esz ≤ cap' * esz := Nat.mul_le_mul_right _ hcap
          have hasz : arr.size = cur.size := by
            rw [← Array.length_toList, harr]
            simp only [List.length_append, List.length_take, List.length_drop, Array.length_toList]
            omega
          obtain ⟨hok', hst⟩ := set_snd (arr := arr) hok hrow hh (((hU0.take st).append (hUx.take n)).append (hU0.drop _)) hel hasz hcs hcap hcm (by
            have := cut3 cur.toList (cells.take (n * esz)) (st * esz) (es.length * esz) (by rw [hnews]; exact hm1) (by simp; omega)
            rw [hnews] at this
            rw [harr, this, List.flatten_append, List.flatten_append, flat_take hU0 st, flat_drop hU0, Nat.add_mul]
            exact ((hr.take _).append hrn).append (hr.drop _))
          exact ⟨_, _, _, _, _, _, run_call_builtin ho hb (fun _ => by rw [hm]; rfl) hrun, .inl rfl, hok', hst, RepX.ofV (.m (.i .i64 _)), fun _ _ => rfl, fun k hk => .inl ⟨k, hk, rfl⟩⟩
        by_cases hl0 : len = 0
        · subst hl0
          have hn0 : n = 0 := by omega
          subst hn0
          refine hfin cur (by simp) ?_
          rw [setRow_same w (ρ r) cur ty (0, 0) hh]
          exact run_copy_zero (sT := t) h0 ht hi rfl (by simpa using hf)
        · obtain ⟨b, rfl, hA⟩ := gb (by omega) (by omega)
          have hbe : b = ρ r := by
            rcases hA with hA | ⟨_, hne, _⟩
            · exact hA
            · exact absurd hve hne
          subst hbe
          have hm1 : st * esz + n * esz ≤ es.length * esz := by rw [← Nat.add_mul]; exact Nat.mul_le_mul_right _ (by omega)
          have hm2 : es.length * esz ≤ cap' * esz := Nat.mul_le_mul_right _ hcap
          have hrun := run_copy_gen (P := P) (w := w) (ty := o.type) (sT := t) (dCap := cap2) (o' := st * esz) h0 ht hi (m := xs.length) (dLen := len) (x := .slice ad xs.length cap) (cs := cells.take (n * esz)) rfl (by rw [hn]; exact hf) hh (by rw [hnews]; omega) hone
          rw [hn, hnews] at hrun
          exact hfin _ (by simp) hrun
      · cases he
    · cases he
end
end Go.Mx
