/- The primitive of the machine for (*strings.Builder).copyCheck, and its contract: the library's own body, walked over any program that bears it. -/
import Derived.Test.YtaomjcmiaiokcaaDoorSndT
set_option linter.unusedVariables false
namespace Go.Mx
variable {P : Program}

/-- copyCheck: a fresh Builder stores its own address; a used one is left. -/
def ccX (ty : Nat) (_ : Call) (vs : List V) (H : Hp) : Option (V × Hp) := match vs with
  | [.pt r ver 0 0] => (nth H r).bind fun row => match row with
    | .cs ty' esz [[a, b]] _ false => gd (Nat.beq ty ty' && Nat.beq ver 1 && Nat.beq esz 2) (match a with
      | .m (.nl 0) => (setEl H r (.cs ty' esz [[.pt r 1 0 0, b]] 1 false)).bind fun H' => some (.tu [], H')
      | .pt r' ver' 0 0 => gd (Nat.beq r r' && Nat.beq ver' 1) (some (.tu [], H))
      | _ => none)
    | _ => none
  | _ => none

/-- What the library's own body does, by a walk over the seat's program: at a fresh Builder, at a used one. -/
def CcFresh (P : Program) (f ty : Nat) : Prop := ∀ (b cells : Nat) (w : World), w.cell? ⟨b, 0, none⟩ = some (.pointer none) → w.shape? b = some (ty, cells) → 0 < cells → liesAt P P.depth ty (cells / P.cellsOf ty) 0 ty 1 = true → w.frozen? ⟨b, 0, none⟩ = false →
  Calls P f #[.pointer (some ⟨b, 0, none⟩)] w fun e w' => e = .returned (.tuple #[]) ∧ w' = w.setCell ⟨b, 0, none⟩ (.pointer (some ⟨b, 0, none⟩))
def CcUsed (P : Program) (f : Nat) : Prop := ∀ (b : Nat) (w : World), w.cell? ⟨b, 0, none⟩ = some (.pointer (some ⟨b, 0, none⟩)) → Calls P f #[.pointer (some ⟨b, 0, none⟩)] w fun e w' => e = .returned (.tuple #[]) ∧ w' = w

theorem lies_self {T : TypeId} {n : Nat} (hs : P.cellsOf T ≠ 0) (hn : 1 ≤ n) : liesAt P P.depth T n 0 T 1 = true := by
  have hd : ∃ d, P.depth = d + 1 := ⟨2 * (P.types.size + Made.depth) + 1, by simp [Program.depth]⟩
  obtain ⟨d, hd⟩ := hd
  have hl : sameLayout P P.depth T T = true := by rw [hd]; simp [sameLayout]
  have hr : rowAt P (sameLayout P P.depth · T) P.depth T n 0 1 = true := by
    rw [hd] at hl ⊢
    simp [rowAt, hs, hn, hl]
  rw [hd] at hr ⊢
  simp only [liesAt]
  rw [hd, hr]
  rfl

theorem setCell_row {w : World} {g : Nat} {cur : Array Value} {T : TypeId} {v : Value} (hh : w.heap[g]? = some (.cells cur T (0, 0))) : w.setCell ⟨g, 0, none⟩ v = w.setRow g (cur.setIfInBounds 0 v) := by
  have hlt := (Array.getElem?_eq_some_iff.1 hh).1
  have hg : w.heap[g] = .cells cur T (0, 0) := (Array.getElem?_eq_some_iff.1 hh).2
  unfold World.setCell World.setRow
  congr 1
  apply Array.ext_getElem?
  intro i
  simp only [Array.getElem?_modify]
  by_cases h : g = i
  · subst h
    simp [hh]
  · simp [h]

theorem cc_ok {f ty : Nat} (hfresh : CcFresh P f ty) (hused : CcUsed P f) {sh : Nat → Bool} {gl : Nat → Option (List I)} (hen : Enters P f) (hsh : sh f = true) (hcz : P.cellsOf ty = 2) : PrimOk P gl sh f (ccX ty) where
  shared := hsh
  enters := hen
  ok := by
    intro call vs H v H' _ he w S ρ β B args hok hG hv
    unfold ccX at he
    split at he
    · rename_i r ver
      simp only [Option.bind_eq_some_iff, nth_eq] at he
      obtain ⟨row, hrow, he⟩ := he
      split at he
      · rename_i ty' esz x y base
        simp only [gd_some, Bool.and_eq_true, Nat.beq_eq] at he
        obtain ⟨⟨⟨rfl, rfl⟩, rfl⟩, he⟩ := he
        obtain ⟨c, hargs, hx⟩ := hv.inv1
        have hV := RepX.toV rfl hx
        cases hV with | pt _ _ _ _ ty2 esz2 es2 base2 fz2 q hrow2 h2 hix hb =>
        rw [hrow] at hrow2
        simp only [Option.some.injEq, Row.cs.injEq] at hrow2
        obtain ⟨rfl, rfl, rfl, rfl, rfl⟩ := hrow2
        have hrow' : (⟨B, H⟩ : Mem).H[r]? = some (Row.cs ty 2 [[x, y]] base false) := hrow
        obtain ⟨hbl, hpos, hU, _, hns, cur, cap, mk, hh, hmk, hcs, hcap, hcm, hr⟩ := hok.rows r _ hrow'
        have hmk := hmk rfl
        subst hmk
        simp only [List.length_singleton] at hbl hcap hr
        obtain ⟨b, rfl, hA⟩ := hb (by omega)
        have hbe : b = ρ r := by
          rcases hA with hA | ⟨_, hne, _⟩
          · exact hA
          · exact absurd rfl hne
        subst hbe
        have hargs : args = #[.pointer (some ⟨ρ r, 0, none⟩)] := by
          apply Array.ext'
          rw [hargs]
        subst hargs
        have hfl : ([[x, y]] : List (List V)).flatten = [x, y] := rfl
        rw [hfl] at hr
        obtain ⟨c0, rest, hce, hc0, hr1⟩ := hr.inv_cons
        obtain ⟨c1, rest1, hce1, hc1, hr2⟩ := hr1.inv_cons
        have := hr2.inv_nil
        subst this
        subst hce1
        have hsz2 : 2 ≤ cur.size := by omega
        have g0 : cur[0]? = some c0 := by
          have : (cur.toList.take (1 * 2))[0]? = some c0 := by rw [hce]; rfl
          rw [List.getElem?_take, if_pos (by omega)] at this
          simpa using this
        have g1 : cur[1]? = some c1 := by
          have : (cur.toList.take (1 * 2))[1]? = some c1 := by rw [hce]; rfl
          rw [List.getElem?_take, if_pos (by omega)] at this
          simpa using this
        have k0 : w.cell? ⟨ρ r, 0, none⟩ = some c0 := by rw [cell_of_row w _ 0 cur _ _ hh]; exact g0
        split at he
        · simp only [Option.bind_eq_some_iff, Option.some.injEq, Prod.mk.injEq] at he
          obtain ⟨H2, hH2, rfl, rfl⟩ := he
          obtain ⟨hrl, rfl⟩ := setEl_eq hH2
          have e0 : c0 = .pointer none := by have := hc0.imm; cases this; rfl
          subst e0
          refine (hfresh (ρ r) cur.size w k0 (by unfold World.shape?; rw [hh]) (by omega) (lies_self (by rw [hcz]; decide) (by rw [hcz]; omega)) (by simp [World.frozen?, hh])).mono fun e w' h => ?_
          obtain ⟨rfl, rfl⟩ := h
          rw [setCell_row hh]
          have hself : RepV w S ρ H (.pt r 1 0 0) (.pointer (some ⟨ρ r, 0, none⟩)) := by
            have := RepV.pt (w := w) (S := S) (ρ := ρ) (H := H) r 1 0 0 ty 2 [[.m (.nl 0), y]] base false ⟨ρ r, 0, none⟩ hrow (by simp) (by omega) (fun _ => ⟨ρ r, by simp, .inl rfl⟩)
            exact this
          obtain ⟨ok', st'⟩ := set_snd (es' := [[.pt r 1 0 0, y]]) (arr := cur.setIfInBounds 0 (.pointer (some ⟨ρ r, 0, none⟩))) hok hrow' hh (fun e he => by simp at he; subst he; rfl) rfl (by simp) hcs (by simpa using hcap) hcm (by
            have e1 : (cur.setIfInBounds 0 (.pointer (some ⟨ρ r, 0, none⟩))).toList.take (1 * 2) = [.pointer (some ⟨ρ r, 0, none⟩), c1] := by
              rw [Array.toList_setIfInBounds, List.take_set, hce]
              rfl
            show RepL w S ρ H [.pt r 1 0 0, y] ((cur.setIfInBounds 0 (.pointer (some ⟨ρ r, 0, none⟩))).toList.take (1 * 2))
            rw [e1]
            exact .cons hself (.cons hc1 .nil))
          exact ⟨_, S, ρ, rfl, ok', st', RepL.toTu (cs := #[]) .nil⟩
        · rename_i r' ver'
          simp only [gd_some, Bool.and_eq_true, Nat.beq_eq, Option.some.injEq, Prod.mk.injEq] at he
          obtain ⟨⟨rfl, rfl⟩, rfl, rfl⟩ := he
          have e0 : c0 = .pointer (some ⟨ρ r, 0, none⟩) := by
            cases hc0 with | pt _ _ _ _ ty3 esz3 es3 base3 fz3 q3 hrow3 h3 hix3 hb3 =>
            rw [hrow] at hrow3
            simp only [Option.some.injEq, Row.cs.injEq] at hrow3
            obtain ⟨rfl, rfl, rfl, rfl, rfl⟩ := hrow3
            obtain ⟨b, rfl, hA3⟩ := hb3 (by omega)
            rcases hA3 with rfl | ⟨_, hne, _⟩
            · rfl
            · exact absurd rfl hne
          subst e0
          refine (hused (ρ r) w k0).mono fun e w' h => ?_
          obtain ⟨rfl, rfl⟩ := h
          exact ⟨_, S, ρ, rfl, hok, Stp.refl _ _ _ _ _, RepL.toTu (cs := #[]) .nil⟩
        · cases he
      · cases he
    · cases he
end Go.Mx
