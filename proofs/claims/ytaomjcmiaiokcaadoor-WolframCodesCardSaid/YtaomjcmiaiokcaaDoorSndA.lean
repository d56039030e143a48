/- The operations of the machine against those of the model, first part: what an operation's outcome is; operations that touch no memory. -/
import Derived.Test.YtaomjcmiaiokcaaDoorArith
import Derived.Test.YtaomjcmiaiokcaaDoorStep
import Derived.Test.YtaomjcmiaiokcaaDoorComp
import Derived.Laws.Slices
import Derived.Laws.Strings3
namespace Go.Mx

/-- A value, an address of a private box among them. -/
def RepX (w : World) (S : Nat → Prop) (ρ β : Nat → Nat) (H : Hp) (v : V) (c : Value) : Prop := match v with
  | .fa d off => c = .pointer (some ⟨β d, off, none⟩)
  | v => RepV w S ρ H v c

inductive All2 {α β : Type} (R : α → β → Prop) : List α → List β → Prop where
  | nil : All2 R [] []
  | cons {a : α} {b : β} {l : List α} {m : List β} (h : R a b) (t : All2 R l m) : All2 R (a :: l) (b :: m)

def dof : O → Option Nat
  | .l (.alp d _) => some d
  | .l (.bxp d _) => some d
  | _ => none

/-- The outcome of an operation: a value (or nothing, for a store), memory that lies as the machine says, and nothing else turned. -/
def Outc (w : World) (S : Nat → Prop) (ρ β : Nat → Nat) (M : Mem) (o : O) (v : V) (M' : Mem) (r : Result Next) : Prop :=
  ∃ nx c w' S' ρ' β', r = .ok nx w' ∧ (nx = .value c ∨ (nx = .skip ∧ c = undef)) ∧ Ok w' S' ρ' β' M' ∧ Stp w S ρ β M w' S' ρ' M'.H ∧ RepX w' S' ρ' β' M'.H v c ∧ (∀ d, dof o ≠ some d → β' d = β d) ∧ ∀ d, (getB M'.B d).isSome → (∃ q, (getB M.B q).isSome ∧ β' d = β q) ∨ w.heap.size ≤ β' d

section
variable {P : Program} {w : World} {S : Nat → Prop} {ρ β : Nat → Nat} {M : Mem} {H : Hp}

theorem RepX.ofV {v : V} {c : Value} (h : RepV w S ρ H v c) : RepX w S ρ β H v c := by
  cases v <;> first | exact h | cases h
theorem RepX.toV {v : V} {c : Value} (hv : noFaV v = true) (h : RepX w S ρ β H v c) : RepV w S ρ H v c := by
  cases v <;> first | exact h | simp [noFaV] at hv
theorem RepX.cells {v : V} {c : Value} {l : List V} (h : RepX w S ρ β H v c) (hl : cellsV v = some l) : RepL w S ρ H l c.cells.toList := by
  cases v <;> first | exact RepV.cells h hl | simp [cellsV] at hl

theorem RepI.any {i : I} {c : Value} (h : RepI w (fun _ => False) i c) : RepI w S i c := h.mono (fun _ h => h.elim) (fun _ h => h.elim)

theorem Outc.val {o : O} {v : V} {c : Value} {r : Result Next} (hok : Ok w S ρ β M) (h : RepX w S ρ β M.H v c) (hr : r = .ok (.value c) w) : Outc w S ρ β M o v M r :=
  ⟨_, c, w, S, ρ, β, hr, .inl rfl, hok, Stp.refl _ _ _ _ _, h, fun _ _ => rfl, fun d hd => .inl ⟨d, hd, rfl⟩⟩

theorem All2.inv1 {α β : Type} {R : α → β → Prop} {a : α} {m : List β} (h : All2 R [a] m) : ∃ b, m = [b] ∧ R a b := by
  cases h with | cons h t => cases t; exact ⟨_, rfl, h⟩
theorem All2.inv2 {α β : Type} {R : α → β → Prop} {a a' : α} {m : List β} (h : All2 R [a, a'] m) : ∃ b b', m = [b, b'] ∧ R a b ∧ R a' b' := by
  cases h with | cons h t => obtain ⟨b', rfl, h'⟩ := t.inv1; exact ⟨_, _, rfl, h, h'⟩
theorem All2.inv3 {α β : Type} {R : α → β → Prop} {a a' a'' : α} {m : List β} (h : All2 R [a, a', a''] m) : ∃ b b' b'', m = [b, b', b''] ∧ R a b ∧ R a' b' ∧ R a'' b'' := by
  cases h with | cons h t => obtain ⟨b', b'', rfl, h', h''⟩ := t.inv2; exact ⟨_, _, _, rfl, h, h', h''⟩
theorem All2.length {α β : Type} {R : α → β → Prop} {l : List α} {m : List β} (h : All2 R l m) : l.length = m.length := by
  induction h with | nil => rfl | cons _ _ ih => simp [ih]
theorem All2.toL {vs : List V} {cs : List Value} (hn : vs.all noFaV = true) (h : All2 (RepX w S ρ β H) vs cs) : RepL w S ρ H vs cs := by
  induction h with
  | nil => exact .nil
  | cons h t ih => simp only [List.all_cons, Bool.and_eq_true] at hn; exact .cons (h.toV hn.1) (ih hn.2)

theorem toV_rep {c : Value} {v : V} (h : toV c = some v) : RepV w S ρ H v c := by
  unfold toV at h
  split at h <;> first | contradiction | (simp only [Option.some.injEq] at h; subst h)
  · exact .m (.b _)
  · exact .m (.i _ _)
  · exact .m (.s _ _ rfl)
  · exact .m .nlp
  · exact .m .nlm
  · exact .m .nlf
  · exact .m .nli
  · exact .m .nls

theorem toVs_rep : ∀ {cs : List Value} {vs : List V}, optMap toV cs = some vs → RepL w S ρ H vs cs
  | [], vs, h => by simp [optMap] at h; subst h; exact .nil
  | c :: cs, vs, h => by
    simp only [optMap, Option.bind_eq_some_iff, Option.some.injEq] at h
    obtain ⟨x, hx, l, hl, rfl⟩ := h
    exact .cons (toV_rep hx) (toVs_rep hl)

theorem zeros_rep {t : TypeId} {zs : List V} (h : zeros P t = some zs) : ∃ i z, P.info? t = some i ∧ i.zero = some z ∧ z.cells.size = i.size ∧ zs.length = i.size ∧ ∀ (w : World) S ρ H, RepL w S ρ H zs z.cells.toList := by
  simp only [zeros, Option.bind_eq_some_iff, gd_some, Nat.beq_eq] at h
  obtain ⟨i, hi, z, hz, hs, hm⟩ := h
  have hr := fun (w : World) S ρ H => toVs_rep (w := w) (S := S) (ρ := ρ) (H := H) hm
  refine ⟨i, z, hi, hz, hs, ?_, hr⟩
  have := (hr default (fun _ => False) id []).1
  simp at this
  omega

theorem sizeT_some {t : TypeId} {s : Nat} : sizeT P t = some s ↔ ∃ i, P.info? t = some i ∧ i.size = s := by simp [sizeT, Option.bind_eq_some_iff]
theorem bytesT_some {t : TypeId} {s : Nat} : bytesT P t = some s ↔ ∃ i, P.info? t = some i ∧ i.bytes = s := by simp [bytesT, Option.bind_eq_some_iff]

theorem run_sizeOf {t : TypeId} {i : TypeInfo} (hi : P.info? t = some i) (w : World) : (sizeOf t).run P w = .ok i.size w := by simp [sizeOf, typeInfo, hi]
theorem run_typeInfo {t : TypeId} {i : TypeInfo} (hi : P.info? t = some i) (w : World) : (typeInfo t).run P w = .ok i w := by simp [typeInfo, hi]
theorem run_zeroValue {t : TypeId} {i : TypeInfo} {z : Value} (hi : P.info? t = some i) (hz : i.zero = some z) (w : World) : (zeroValue t).run P w = .ok z w := by simp [zeroValue, typeInfo, hi, hz]
theorem run_isAgg {t : TypeId} {ag : Bool} (h : aggT P t = some ag) (w : World) : (isAgg t).run P w = .ok ag w := by
  simp only [aggT, Option.bind_eq_some_iff] at h
  obtain ⟨d, hd, h⟩ := h
  simp only [isAgg, Sem.run_bind, run_underlying hd, Result.andThen_ok]
  cases d <;> simp at h <;> subst h <;> rfl

/-- A part of a value's cells, as a value. -/
theorem takeN_rep {n : Nat} {xs l : List V} {cs : List Value} (h : RepL w S ρ H xs cs) (ht : takeN n xs = some l) : RepL w S ρ H l (cs.take n) ∧ (cs.take n).length = n := by
  simp only [takeN, gd_some, Nat.beq_eq, Option.some.injEq] at ht
  obtain ⟨hl, rfl⟩ := ht
  have h2 := h.take n
  exact ⟨h2, by have := h2.1; omega⟩

theorem valOf_rep {ag : Bool} {l : List V} {v : V} {cs : Array Value} (h : RepL w S ρ H l cs.toList) (hv : valOf ag l = some v) :
    (ag = true ∧ RepV w S ρ H v (.agg cs)) ∨ (ag = false ∧ ∃ c, cs = #[c] ∧ RepV w S ρ H v c) := by
  cases ag with
  | true => simp only [valOf, Option.some.injEq] at hv; subst hv; exact .inl ⟨rfl, h.mkAg⟩
  | false =>
    simp only [valOf] at hv
    split at hv
    · rename_i x
      simp only [Option.some.injEq] at hv
      subst hv
      obtain ⟨c, r, hc, hx, hr⟩ := h.inv_cons
      have := hr.inv_nil
      subst this
      refine .inr ⟨rfl, c, ?_, hx⟩
      obtain ⟨l⟩ := cs
      simp at hc
      simp [hc]
    · cases hv

theorem run_part {t : TypeId} {ag : Bool} {i : TypeInfo} (hag : aggT P t = some ag) (hi : P.info? t = some i) (hs : ag = true ∨ i.size = 1) {cs : Array Value} {off : Nat} {l : List V} {xs : List V} {v : V}
    (h : RepL w S ρ H xs cs.toList) (ht : takeN i.size (xs.drop off) = some l) (hv : valOf ag l = some v) :
    ∃ c, (part t cs off).run P w = .ok c w ∧ RepV w S ρ H v c := by
  obtain ⟨h1, h2⟩ := takeN_rep (h.drop off) ht
  have h3 : RepL w S ρ H l (cs.extract off (off + i.size)).toList := by
    have : (cs.extract off (off + i.size)).toList = (cs.toList.drop off).take i.size := by simp [List.take_drop]
    rw [this]; exact h1
  rcases valOf_rep h3 hv with ⟨rfl, h4⟩ | ⟨rfl, c, hc, h4⟩
  · exact ⟨_, by simp [part, run_isAgg hag, run_sizeOf hi], h4⟩
  · refine ⟨c, ?_, h4⟩
    have h1s : i.size = 1 := by rcases hs with h | h; cases h; exact h
    have hget : cs[off]? = some c := by
      have h6 : (cs.extract off (off + i.size))[0]? = some c := by rw [hc]; rfl
      rw [h1s] at h6
      exact (by simpa [Array.getElem?_extract] using h6 : _ ∧ _).2
    simp [part, run_isAgg hag, hget]
end
end Go.Mx
