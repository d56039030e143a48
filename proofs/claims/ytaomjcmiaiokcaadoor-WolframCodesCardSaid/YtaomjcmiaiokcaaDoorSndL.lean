/- Strings over bytes; slice literals whose parts are frozen; copy. -/
import Derived.Test.YtaomjcmiaiokcaaDoorSndK
namespace Go.Mx
section
variable {P : Program} {w : World} {S : Nat → Prop} {ρ β : Nat → Nat} {M M' : Mem} {H : Hp} {o : Oper} {a : Act} {vs : List V} {v : V} {call : Call}

theorem freeze_heap {w : World} {g n : Nat} {cur : Array Value} {ty : TypeId} (hh : w.heap[g]? = some (.cells cur ty (0, 0))) (hn : n ≠ 0) : (w.freeze ⟨g, 0, none⟩ n).heap[g]? = some (.cells cur ty (0, n)) ∧ w.grownBy (w.freeze ⟨g, 0, none⟩ n) (some g) := by
  unfold World.freeze
  rw [if_neg hn]
  refine ⟨?_, rfl, rfl, rfl, by simp, fun k _ hk => ?_⟩
  · rw [Array.getElem?_modify, if_pos rfl, hh]
    simp
  · have : g ≠ k := fun e => hk (by rw [e])
    simp [Array.getElem?_modify, this]

theorem snd_ust {c : Go.Call} {t e : TypeId} (ho : o.op = .call c) (hb : c.callee = .builtin .unsafeString) (ht : c.argTypes[0]? = some t) (hts : c.argTypes.size = 2) (hu : P.underlying t = some (.pointer e)) (hs : sizeT P e = some 1)
    (hok : Ok w S ρ β M) (hv : All2 (RepX w S ρ β M.H) vs (c.args.toList.map a.eval)) (he : loudX call M (.ust e) vs = some (v, M')) :
    Outc w S ρ β M (.l (.ust e)) v M' ((execOp a.eval o).run P w) := by
  obtain ⟨it, hat⟩ : ∃ it, c.argTypes = #[t, it] := by
    obtain ⟨l, hl⟩ : ∃ l, c.argTypes = List.toArray l := ⟨c.argTypes.toList, by simp⟩
    rw [hl] at ht hts ⊢
    match l, hts with
    | [x, y], _ => simp at ht; subst ht; exact ⟨y, rfl⟩
  match vs, he with
  | [p, n], he =>
    obtain ⟨cp, cn, hargs, h, h1⟩ := hv.inv2
    have hm := args2 hargs
    simp only [loudX] at he
    split at he
    · rename_i k
      have hn := repI_int (RepX.toV rfl h1)
      subst hn
      split at he
      · simp only [gd_some, Nat.beq_eq, Option.some.injEq, Prod.mk.injEq] at he
        obtain ⟨rfl, rfl, rfl⟩ := he
        have hc : cp = .pointer none := by have := (RepX.toV rfl h).imm; cases this; rfl
        subst hc
        exact .val hok (RepX.ofV (.m (.s .empty [] rfl))) (run_call_builtin ho hb (fun _ => by rw [hm]; rfl) (by rw [hat]; exact Lib.run_unsafeString_none w t it o.type none))
      · rename_i r ver
        simp only [Option.bind_eq_some_iff, nth_eq] at he
        obtain ⟨row, hrow, he⟩ := he
        split at he
        · rename_i ty esz es base
          simp only [gd_some, Bool.and_eq_true, Nat.beq_eq, Nat.ble_eq, Option.bind_eq_some_iff, Option.some.injEq, Prod.mk.injEq] at he
          obtain ⟨⟨⟨⟨⟨⟨rfl, rfl⟩, hbv⟩, hve⟩, hkl⟩, hk1⟩, l, hl, H', hH', rfl, rfl⟩ := he
          obtain ⟨hrl, rfl⟩ := setEl_eq hH'
          have hx := RepX.toV rfl h
          cases hx with | pt _ _ _ _ ty' esz' es1 base' fz' q hrow' h2 hix hb' =>
          rw [hrow] at hrow'
          simp only [Option.some.injEq, Row.cs.injEq] at hrow'
          obtain ⟨rfl, rfl, rfl, rfl, rfl⟩ := hrow'
          obtain ⟨hbl, hpos, hU, _, hns, cur, cap, mk, hh, hmk, hcs, hcap, hcm, hr⟩ := hok.rows r _ hrow
          have hmk := hmk rfl
          subst hmk
          have hnS := hns rfl
          obtain ⟨b, rfl, hA⟩ := hb' hbv
          have hbe : b = ρ r := by
            rcases hA with hA | ⟨_, hne, _⟩
            · exact hA
            · exact absurd hve hne
          subst hbe
          obtain ⟨g1, g2, g3⟩ := bytes_snd hl hr
          have hm8 := ofNat_map g2
          have hll : (l.map UInt8.ofNat).length = k := by rw [List.length_map]; omega
          have hne : l.map UInt8.ofNat ≠ [] := by intro e; rw [e] at hll; simp at hll; omega
          have hsh : w.shape? (ρ r) = some (e, cur.size) := by unfold World.shape?; rw [hh]
          have hcell : ∀ j x, (l.map UInt8.ofNat)[j]? = some x → w.cell? ((⟨ρ r, 0 * 1 + 0, none⟩ : Addr).add j) = some (.int .u8 x.toNat) := fun j x hj => by
            rw [addr_add, Nat.zero_mul, Nat.zero_add, cell_of_row w (ρ r) j cur e (0, 0) hh]
            rw [List.getElem?_map] at hj
            obtain ⟨d, hd, rfl⟩ := Option.map_eq_some_iff.1 hj
            have hg : (cur.toList.take (es.length * 1))[j]? = some (.int .u8 (d : Int)) := by rw [g3]; simp [hd]
            rw [List.getElem?_take] at hg
            split at hg
            · have hd2 := g2 d (List.mem_of_getElem? hd)
              have : ((UInt8.ofNat d).toNat : Int) = (d : Int) := by simp; omega
              rw [this]
              simpa using hg
            · cases hg
          have hcz : P.cellsOf e = 1 := by
            obtain ⟨i, hi, hi1⟩ := sizeT_some.1 hs
            simp [Program.cellsOf, hi, hi1]
          have hrun := Lib.run_unsafeString_row (P := P) w t it o.type e hu hcz (ρ r) cur.size hsh (l.map UInt8.ofNat) hne (by rw [hll]; omega) (by rw [hll]; unfold maxLen at hcm; omega) (by simpa using hcell)
          rw [hll] at hrun
          obtain ⟨f1, f2⟩ := freeze_heap hh (n := k) (by omega)
          have key := Ok.setRow (w' := w.freeze ⟨ρ r, 0, none⟩ k) (S' := fun b => S b ∨ b = ρ r) (g := ρ r) (row' := .cs e 1 es base true) hok hrow f2 (.inl rfl) (fun _ h => .inl h) (fun b h => h)
            (fun b hb => f2.block b (hok.lt b hb) (fun e => hnS (by cases e; exact hb)))
            (fun ty1 esz1 es1 base1 fz1 e1 => by
              cases e1
              refine ⟨es, base, true, rfl, Nat.le_refl _, Nat.le_refl _, fun b ver h1 h2 hA => ?_, fun _ => ⟨rfl, fun cur1 mk1 h1 => ?_⟩⟩
              · rcases hA with hA | ⟨hSb, hne, hc⟩
                · exact .inl hA
                · refine .inr ⟨.inl hSb, hne, fun j hj => ?_⟩
                  have e1 : (w.freeze ⟨ρ r, 0, none⟩ k).cell? ⟨b, j, none⟩ = w.cell? ⟨b, j, none⟩ := World.cell?_of_block (f2.block b (hok.lt b hSb) (fun e => hnS (by cases e; exact hSb)))
                  have e2 : (w.freeze ⟨ρ r, 0, none⟩ k).cell? ⟨ρ r, j, none⟩ = w.cell? ⟨ρ r, j, none⟩ := by
                    rw [cell_of_row _ _ j cur e _ f1, cell_of_row _ _ j cur e _ hh]
                  rw [e1, e2]
                  exact hc j hj
              · rw [hh] at h1
                cases h1
                exact ⟨cur, (0, k), f1, rfl⟩)
            (fun es1 fz1 e1 => by cases e1)
            (fun hto => by
              rw [ρ_self] at hto ⊢
              exact ⟨hbl, hpos, hU, fun _ => .inr rfl, fun e => (by cases e), cur, cap, (0, k), f1, fun e => (by cases e), hcs, hcap, hcm, hr.mono hto⟩)
          rw [ρ_self] at key
          exact ⟨_, .string ⟨(l.map UInt8.ofNat).toArray⟩, _, _, _, _, run_call_builtin ho hb (fun _ => by rw [hm]; rfl) (by rw [hat]; simpa using hrun), .inl rfl, key.1, key.2, RepX.ofV (.m (.s _ l (by simpa using hm8))), fun _ _ => rfl, fun d hd => .inl ⟨d, hd, rfl⟩⟩
        · cases he
      · cases he
    · cases he
end
end Go.Mx
