/- Operations that make memory: each against the model's. -/
import Derived.Test.YtaomjcmiaiokcaaDoorFrz
namespace Go.Mx
section
variable {P : Program} {w : World} {S : Nat → Prop} {ρ β : Nat → Nat} {M M' : Mem} {H : Hp} {o : Oper} {a : Act} {vs : List V} {v : V} {call : Call}

theorem run_newVar (w : World) (t : TypeId) (x : Value) : (newVar t x).run P w = .ok ⟨w.heap.size, 0, none⟩ (w.alloc (.cells x.cells t)) := rfl

theorem box_snd {t : TypeId} {x : Value} {d : Nat} {cs : List V} {op : OL} (hd : dof (.l op) = some d) (hok : Ok w S ρ β M) (hr : RepL w S ρ M.H cs x.cells.toList) (hrun : (execOp a.eval o).run P w = .ok (.value (.pointer (some ⟨w.heap.size, 0, none⟩))) (w.alloc (.cells x.cells t))) :
    Outc w S ρ β M (.l op) (.fa d 0) { M with B := setB M.B d cs } ((execOp a.eval o).run P w) := by
  have hS : ¬ S w.heap.size := fun h => by have := hok.lt _ h; omega
  obtain ⟨hok', hst⟩ := Ok.newBox (w' := w.alloc (.cells x.cells t)) (S' := S) (d := d) (g := w.heap.size) hok (World.grownBy_alloc w _ none) (fun _ h => h) (fun b h => .inl h) (fun b h => by have := hok.lt b h; simp; omega)
    (Nat.le_refl _) hS (heap_alloc_new w _) hr
  refine ⟨_, .pointer (some ⟨w.heap.size, 0, none⟩), _, _, _, _, hrun, .inl rfl, hok', hst, ?_, fun k hk => ?_, fun k hk => ?_⟩
  · simp [RepX]
  · rw [hd] at hk
    rw [if_neg (fun e => hk (by rw [e]))]
  · by_cases c : k = d
    · exact .inr (by rw [if_pos c]; exact Nat.le_refl _)
    · refine .inl ⟨k, ?_, if_neg c⟩
      simp only [getB_setB, if_neg c] at hk
      exact hk

theorem snd_alp {t : TypeId} {d : Nat} {zs : List V} (ho : o.op = .alloc t) (hz : zeros P t = some zs) (hok : Ok w S ρ β M) (he : loudX call M (.alp d zs) vs = some (v, M')) :
    Outc w S ρ β M (.l (.alp d zs)) v M' ((execOp a.eval o).run P w) := by
  obtain ⟨i, z, hi, hz1, hz2, hz3, hz4⟩ := zeros_rep hz
  cases vs with
  | cons x r => simp [loudX] at he
  | nil =>
    simp only [loudX, Option.some.injEq, Prod.mk.injEq] at he
    obtain ⟨rfl, rfl⟩ := he
    exact box_snd (t := t) rfl hok (hz4 w S ρ M.H) (by simp [execOp, ho, Instr.alloc, run_zeroValue hi hz1, run_newVar])

theorem snd_bxp {t : TypeId} {x : Operand} {d s : Nat} (ho : o.op = .box t x) (hok : Ok w S ρ β M) (hv : All2 (RepX w S ρ β M.H) vs [a.eval x]) (he : loudX call M (.bxp d s) vs = some (v, M')) :
    Outc w S ρ β M (.l (.bxp d s)) v M' ((execOp a.eval o).run P w) := by
  cases hv with | cons h t1 =>
  cases t1
  simp only [loudX, Option.bind_eq_some_iff, gd_some, Option.some.injEq, Prod.mk.injEq] at he
  obtain ⟨cs, hcs, _, rfl, rfl⟩ := he
  exact box_snd (t := t) rfl hok (RepX.cells h hcs) (by simp [execOp, ho, Instr.box, run_newVar])

/-- A new row of elements. -/
theorem row_snd {op : OL} {ty esz cap : Nat} {es : List (List V)} {cur : Array Value} {val : V} {c : Value} {w' : World} (hok : Ok w S ρ β M) (hpos : 0 < esz) (hu : Uni esz es) (hg : w.grownBy w' none) (hsz : w'.heap.size = w.heap.size + 1) (hcur : w'.heap[w.heap.size]? = some (.cells cur ty (0, 0)))
    (hcap : es.length ≤ cap) (hcm : cap ≤ maxLen) (hcs : cur.size = cap * esz) (hr : RepL w S ρ M.H es.flatten (cur.toList.take (es.length * esz)))
    (hrun : (execOp a.eval o).run P w = .ok (.value c) w')
    (hval : ∀ ρ', ρ' M.H.length = w.heap.size → RepV w' S ρ' (M.H ++ [.cs ty esz es 0 false]) val c) :
    Outc w S ρ β M (.l op) val { M with H := M.H ++ [.cs ty esz es 0 false] } ((execOp a.eval o).run P w) := by
  have hS : ¬ S w.heap.size := fun h => by have := hok.lt _ h; omega
  obtain ⟨hok', hst⟩ := Ok.newRow (w' := w') (S' := S) (g := w.heap.size) (row := .cs ty esz es 0 false) hok hg (fun _ h => h) (fun b h => .inl h) (fun b h => by have := hok.lt b h; omega) (Nat.le_refl _)
    (fun hto => ⟨Nat.zero_le _, hpos, hu, fun e => (by cases e), fun _ => by simpa using hS, cur, cap, (0, 0), by simpa using hcur, fun _ => rfl, hcs, hcap, hcm, hr.mono hto⟩)
  exact ⟨_, c, _, _, _, _, hrun, .inl rfl, hok', hst, RepX.ofV (hval _ (by simp)), fun _ _ => rfl, fun k hk => .inl ⟨k, hk, rfl⟩⟩

theorem new_get (H : Hp) (row : Row) : (H ++ [row])[H.length]? = some row := by simp

theorem arr_snd {op : OL} {t : TypeId} {x : Value} {esz n : Nat} {cs : List V} (hok : Ok w S ρ β M) (hr : RepL w S ρ M.H cs x.cells.toList) (h1 : cs.length = n * esz) (h2 : 1 ≤ esz) (h3 : 1 ≤ n) (h4 : n ≤ 9223372036854775807)
    (hrun : (execOp a.eval o).run P w = .ok (.value (.pointer (some ⟨w.heap.size, 0, none⟩))) (w.alloc (.cells x.cells t))) :
    Outc w S ρ β M (.l op) (.pt M.H.length n 0 0) { M with H := M.H ++ [.cs t esz (chunk esz n cs) 0 false] } ((execOp a.eval o).run P w) := by
  have hl := chunk_len esz n cs
  have hlx := hr.1
  have hf : (chunk esz n cs).flatten = cs := by rw [chunk_flat esz n cs (by omega), ← h1, List.take_length]
  refine row_snd (cap := n) hok h2 (chunk_uni esz n cs (by omega)) (World.grownBy_alloc w _ none) (by simp) (heap_alloc_new w _) (by omega) (by unfold maxLen; omega) (by simp at hlx; omega)
    (by rw [hf, hl, List.take_of_length_le (by omega)]; exact hr) hrun (fun ρ' hρ => ?_)
  refine .pt M.H.length n 0 0 t esz (chunk esz n cs) 0 false _ (new_get _ _) (by omega) (by omega) (fun _ => ⟨w.heap.size, by simp, .inl hρ.symm⟩)

theorem snd_als {t : TypeId} {esz n : Nat} {zs : List V} (ho : o.op = .alloc t) (hz : zeros P t = some zs) (hok : Ok w S ρ β M) (he : loudX call M (.als t esz n zs) vs = some (v, M')) :
    Outc w S ρ β M (.l (.als t esz n zs)) v M' ((execOp a.eval o).run P w) := by
  obtain ⟨i, z, hi, hz1, hz2, hz3, hz4⟩ := zeros_rep hz
  cases vs with
  | cons x r => simp [loudX] at he
  | nil =>
    simp only [loudX, gd_some, Bool.and_eq_true, Nat.beq_eq, Nat.ble_eq, Option.some.injEq, Prod.mk.injEq] at he
    obtain ⟨⟨⟨⟨h1, h2⟩, h3⟩, h4⟩, rfl, rfl⟩ := he
    exact arr_snd hok (hz4 w S ρ M.H) h1 h2 h3 h4 (by simp [execOp, ho, Instr.alloc, run_zeroValue hi hz1, run_newVar])

theorem snd_bxs {t : TypeId} {x : Operand} {esz n : Nat} (ho : o.op = .box t x) (hok : Ok w S ρ β M) (hv : All2 (RepX w S ρ β M.H) vs [a.eval x]) (he : loudX call M (.bxs t esz n) vs = some (v, M')) :
    Outc w S ρ β M (.l (.bxs t esz n)) v M' ((execOp a.eval o).run P w) := by
  cases hv with | cons h t1 =>
  cases t1
  simp only [loudX, Option.bind_eq_some_iff, gd_some, Bool.and_eq_true, Nat.beq_eq, Nat.ble_eq, Option.some.injEq, Prod.mk.injEq] at he
  obtain ⟨cs, hcs, ⟨⟨⟨h1, h2⟩, h3⟩, h4⟩, rfl, rfl⟩ := he
  exact arr_snd hok (RepX.cells h hcs) h1 h2 h3 h4 (by simp [execOp, ho, Instr.box, run_newVar])

theorem snd_mkm {t k e : TypeId} {r : Option Operand} (ho : o.op = .makeMap t r) (hu : P.underlying t = some (.map k e)) (hok : Ok w S ρ β M) (hv : All2 (RepX w S ρ β M.H) vs (r.toList.map a.eval)) (he : loudX call M .mkm vs = some (v, M')) :
    Outc w S ρ β M (.l .mkm) v M' ((execOp a.eval o).run P w) := by
  have hS : ¬ S w.heap.size := fun h => by have := hok.lt _ h; omega
  have main : (execOp a.eval o).run P w = .ok (.value (.map (some w.heap.size))) (w.alloc (.map #[] 0)) → Outc w S ρ β M (.l .mkm) (.mp M.H.length) { M with H := M.H ++ [.mp [] false] } ((execOp a.eval o).run P w) := fun hrun => by
    obtain ⟨hok', hst⟩ := Ok.newRow (w' := w.alloc (.map #[] 0)) (S' := S) (g := w.heap.size) (row := .mp [] false) hok (World.grownBy_alloc w _ none) (fun _ h => h) (fun b h => .inl h) (fun b h => by have := hok.lt b h; simp; omega) (Nat.le_refl _)
      (fun hto => ⟨fun e => (by cases e), fun _ => by simpa using hS, #[], 0, by simpa using heap_alloc_new w _, rfl, by simp⟩)
    refine ⟨_, _, _, _, _, _, hrun, .inl rfl, hok', hst, RepX.ofV ?_, fun _ _ => rfl, fun k hk => .inl ⟨k, hk, rfl⟩⟩
    have := RepV.mp (w := w.alloc (.map #[] 0)) (S := S) (ρ := fun r => if r = M.H.length then w.heap.size else ρ r) (H := M.H ++ [.mp [] false]) M.H.length [] false (new_get _ _)
    simpa using this
  cases r with
  | none =>
    cases hv
    simp only [loudX, Option.some.injEq, Prod.mk.injEq] at he
    obtain ⟨rfl, rfl⟩ := he
    exact main (by simp [execOp, ho, Instr.makeMap])
  | some x =>
    obtain ⟨c, hc, h⟩ : ∃ c, vs = [c] ∧ RepX w S ρ β M.H c (a.eval x) := by
      cases hv with | cons h t => cases t; exact ⟨_, rfl, h⟩
    subst hc
    simp only [loudX] at he
    split at he
    · simp only [Option.some.injEq, Prod.mk.injEq] at he
      obtain ⟨rfl, rfl⟩ := he
      have hx := repI_int (RepX.toV rfl h)
      exact main (by simp [execOp, ho, Instr.makeMap, run_underlying hu, hx, asInt, asIntOf])
    · cases he

theorem snd_mks {t e : TypeId} {esz bytes : Nat} {zs : List V} {x y : Operand} (ho : o.op = .makeSlice t x y) (hu : P.underlying t = some (.slice e)) (hz : zeros P e = some zs) (hs : sizeT P e = some esz) (hb : bytesT P e = some bytes)
    (hok : Ok w S ρ β M) (hv : All2 (RepX w S ρ β M.H) vs [a.eval x, a.eval y]) (he : loudX call M (.mks e esz zs bytes) vs = some (v, M')) :
    Outc w S ρ β M (.l (.mks e esz zs bytes)) v M' ((execOp a.eval o).run P w) := by
  cases hv with | cons h t1 =>
  cases t1 with | cons h1 t2 =>
  cases t2
  obtain ⟨i, z, hi, hz1, hz2, hz3, hz4⟩ := zeros_rep hz
  obtain ⟨i1, hi1, rfl⟩ := sizeT_some.1 hs
  obtain ⟨i2, hi2, rfl⟩ := bytesT_some.1 hb
  rw [hi] at hi1 hi2
  cases hi1; cases hi2
  simp only [loudX] at he
  split at he
  · rename_i c
    simp only [Option.bind_eq_some_iff, gd_some, Bool.and_eq_true, Nat.beq_eq, Nat.ble_eq, Option.some.injEq, Prod.mk.injEq] at he
    obtain ⟨n, hn, ⟨⟨⟨g1, g2⟩, g3⟩, g4⟩, rfl, rfl⟩ := he
    obtain ⟨k, hx, hnc⟩ := bnd_int h hn
    have hy := repI_int (RepX.toV rfl h1)
    have hrun := run_make (P := P) w t e i z hu hi hz1 k .i64 (n : Int) (c : Int) (by omega) (by omega) (by
      have g1' : i.bytes * c ≤ 281474976710656 := by rw [Nat.mul_comm]; exact g1
      have : ((i.bytes * c : Nat) : Int) ≤ 281474976710656 := by omega
      rwa [Int.natCast_mul] at this) (by omega)
    simp only [Int.toNat_natCast] at hrun
    have hu' : Uni i.size (List.replicate n zs) := Uni.replicate hz3
    have hle : n * i.size ≤ c * i.size := Nat.mul_le_mul_right _ hnc
    have hcells : ((madeCells z.cells (c * i.size)).toList.take (n * i.size)) = (List.replicate n z.cells.toList).flatten := by
      have := rep_zero z.cells c (by omega)
      rw [hz2] at this
      have hm : (madeCells z.cells (c * i.size)).toList = (List.replicate c z.cells.toList).flatten := by
        rw [← this]
        simp [madeCells, hz2]
      rw [hm]
      have hu2 : Uni i.size (List.replicate c z.cells.toList) := Uni.replicate (by simpa using hz2)
      rw [← flat_take hu2, List.take_replicate, Nat.min_eq_left hnc]
    refine row_snd (cap := c) (cur := madeCells z.cells (c * i.size)) (c := .slice (some ⟨w.heap.size, 0, none⟩) n c) hok g3 hu' (World.grownBy_alloc w _ none) (by simp) (heap_alloc_new w _) (by simpa using hnc) (by unfold maxLen; omega) (size_madeCells _ _) ?_ (by simp [execOp, ho, hx, hy, hrun]) (fun ρ' hρ => ?_)
    · rw [List.length_replicate, hcells]
      clear hrun hcells hle hn hnc hu' hx
      induction n with
      | zero => simpa using RepL.nil
      | succ n ih => rw [List.replicate_succ, List.replicate_succ, List.flatten_cons, List.flatten_cons]; exact (hz4 w S ρ M.H).append ih
    · refine .sl M.H.length n i.size 0 n _ e (List.replicate n zs) 0 false _ c (new_get _ _) (by omega) (by simp) hnc (by unfold maxLen; omega) (fun hl => ?_) (fun _ => ⟨_, rfl⟩) (fun _ _ => ⟨w.heap.size, by simp, .inl hρ.symm⟩) (fun _ _ _ _ => ⟨by rw [hρ], _, (0, 0), by rw [hρ]; exact heap_alloc_new w _, size_madeCells _ _⟩)
      rw [Nat.beq_eq] at hl
      exact hl.symm
  · cases he

theorem snd_bss {t e : TypeId} {n s : Nat} {ps : Array (Nat × Operand)} {zs : List V} (ho : o.op = .buildSlice t n ps) (hu : P.underlying t = some (.slice e)) (hs : sizeT P e = some s) (hlim : n * s ≤ 16777216) (hpos : 1 ≤ s) (hz : zeros P e = some zs)
    (hok : Ok w S ρ β M) (hv : All2 (RepX w S ρ β M.H) vs ((ps.toList.map (·.2)).map a.eval)) (he : loudX call M (.bss e s zs n (ps.toList.map (·.1))) vs = some (v, M')) :
    Outc w S ρ β M (.l (.bss e s zs n (ps.toList.map (·.1)))) v M' ((execOp a.eval o).run P w) := by
  simp only [loudX, Option.bind_eq_some_iff, gd_some, Option.some.injEq, Prod.mk.injEq] at he
  obtain ⟨es, hes, _, rfl, rfl⟩ := he
  obtain ⟨C', hrun, hR, hU, hlen⟩ := run_buildSlice (P := P) (w := w) (S := S) (ρ := ρ) (β := β) (H := M.H) (a := a) hu hs hlim hpos hz hv hes
  have hCs := hR.1
  rw [hU.len, hlen] at hCs
  have hln : n ≤ maxLen := by
    have : n * 1 ≤ n * s := Nat.mul_le_mul_left _ hpos
    unfold maxLen; omega
  refine row_snd (cap := n) (c := .slice (some ⟨w.heap.size, 0, none⟩) n n) hok hpos hU (World.grownBy_alloc w _ none) (by simp) (heap_alloc_new w _) (by omega) hln (by simpa using hCs) (by rw [hlen, List.take_of_length_le (by omega)]; exact hR) (by simp [execOp, ho, hrun]) (fun ρ' hρ => ?_)
  exact .sl M.H.length n s 0 n true e es 0 false _ n (new_get _ _) (by omega) (by omega) (Nat.le_refl _) hln (fun _ => rfl) (fun _ => ⟨_, rfl⟩) (fun _ _ => ⟨w.heap.size, by simp, .inl hρ.symm⟩) (fun _ _ h => by cases h)
end
end Go.Mx
