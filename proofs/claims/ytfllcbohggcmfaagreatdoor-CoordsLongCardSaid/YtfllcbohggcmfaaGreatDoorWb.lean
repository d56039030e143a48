/- Maps; decimal numerals. Nothing here speaks of a program. -/
import Derived.Test.YtfllcbohggcmfaaGreatDoorWa
import Derived.Lib.ItoaMem
set_option linter.unusedSimpArgs false
set_option linter.unusedVariables false
set_option linter.unusedSectionVars false
/- Maps: rows of pairs as finite maps. Nothing here speaks of a program. -/
namespace Go.Mx
section
variable {α β : Type} [DecidableEq α]
def mfind : List (α × β) → α → Option β
 | [], _ => none
 | (a, b) :: r, k => if a = k then some b else mfind r k
def mset : List (α × β) → α → β → List (α × β)
 | [], k, v => [(k, v)]
 | (a, b) :: r, k, v => if a = k then (k, v) :: r else (a, b) :: mset r k v
def mdel : List (α × β) → α → List (α × β)
 | [], _ => []
 | (a, b) :: r, k => if a = k then r else (a, b) :: mdel r k
theorem mfind_mset (m : List (α × β)) (k : α) (v : β) (j : α) : mfind (mset m k v) j = if k = j then some v else mfind m j := by
 induction m with
 | nil => simp [mset, mfind]
 | cons p r ih =>
  obtain ⟨a, b⟩ := p
  by_cases h : a = k
  ·subst h
   by_cases h2 : a = j <;> simp [mset, mfind, h2]
  ·by_cases h2 : k = j
   ·subst h2
    simp [mset, mfind, h, ih]
   ·simp [mset, mfind, h, ih, h2]
theorem mkeys_mset (m : List (α × β)) (k : α) (v : β) : (mset m k v).map Prod.fst = if k ∈ m.map Prod.fst then m.map Prod.fst else m.map Prod.fst ++ [k] := by
 induction m with
 | nil => simp [mset]
 | cons p r ih =>
  obtain ⟨a, b⟩ := p
  by_cases h : a = k
  ·subst h; simp [mset]
  ·have h' : ¬ k = a := fun e => h e.symm
   by_cases hm : k ∈ r.map Prod.fst
   ·rw [if_pos hm] at ih
    simp only [mset, if_neg h, List.map_cons, ih]
    rw [if_pos (by simp only [List.mem_cons]; exact .inr hm)]
   ·rw [if_neg hm] at ih
    simp only [mset, if_neg h, List.map_cons, ih]
    rw [if_neg (by simp only [List.mem_cons, not_or]; exact ⟨h', hm⟩)]
    rfl
theorem mset_new (m : List (α × β)) (k : α) (v : β) (h : k ∉ m.map Prod.fst) : mset m k v = m ++ [(k, v)] := by
 induction m with
 | nil => rfl
 | cons p r ih =>
  obtain ⟨a, b⟩ := p
  simp only [List.map_cons, List.mem_cons, not_or] at h
  simp only [mset, if_neg (fun e => h.1 (Eq.symm e)), ih h.2]
  rfl
theorem mfind_none (m : List (α × β)) (k : α) : mfind m k = none ↔ k ∉ m.map Prod.fst := by
 induction m with
 | nil => simp [mfind]
 | cons p r ih =>
  obtain ⟨a, b⟩ := p
  by_cases h : a = k
  ·subst h; simp [mfind]
  ·have h' : ¬ k = a := fun e => h e.symm
   simp only [mfind, if_neg h, ih, List.map_cons, List.mem_cons, not_or]
   exact ⟨fun x => ⟨h', x⟩, fun x => x.2⟩
theorem mfind_some_mem {m : List (α × β)} {k : α} {v : β} (h : mfind m k = some v) : (k, v) ∈ m := by
 induction m with
 | nil => simp [mfind] at h
 | cons p r ih =>
  obtain ⟨a, b⟩ := p
  by_cases e : a = k
  ·subst e; simp [mfind] at h; simp [h]
  ·simp only [mfind, if_neg e] at h
   simp [ih h]
theorem mdel_none (m : List (α × β)) (k : α) (h : mfind m k = none) : mdel m k = m := by
 induction m with
 | nil => rfl
 | cons p r ih =>
  obtain ⟨a, b⟩ := p
  by_cases e : a = k
  ·subst e; simp [mfind] at h
  ·simp only [mfind, if_neg e] at h
   simp only [mdel, if_neg e, ih h]
theorem mdel_length {m : List (α × β)} {k : α} {v : β} (h : mfind m k = some v) : (mdel m k).length + 1 = m.length := by
 induction m with
 | nil => simp [mfind] at h
 | cons p r ih =>
  obtain ⟨a, b⟩ := p
  by_cases e : a = k
  ·simp [mdel, e]
  ·simp only [mfind, if_neg e] at h
   simp [mdel, if_neg e, ih h]
theorem mfind_mdel {m : List (α × β)} (hd : (m.map Prod.fst).Nodup) (k j : α) : mfind (mdel m k) j = if k = j then none else mfind m j := by
 induction m with
 | nil => simp [mdel, mfind]
 | cons p r ih =>
  obtain ⟨a, b⟩ := p
  simp only [List.map_cons, List.nodup_cons] at hd
  by_cases e : a = k
  ·subst e
   simp only [mdel, if_pos, mfind]
   by_cases e2 : a = j
   ·subst e2
    rw [if_pos rfl]
    exact (mfind_none r a).2 hd.1
   ·simp [e2]
  ·simp only [mdel, if_neg e, mfind, ih hd.2]
   by_cases e2 : a = j
   ·subst e2
    rw [if_pos rfl, if_neg (fun h => e h.symm), if_pos rfl]
   ·simp [e2]
theorem mdel_sub (m : List (α × β)) (k : α) : (mdel m k).Sublist m := by
 induction m with
 | nil => exact .refl _
 | cons p r ih =>
  obtain ⟨a, b⟩ := p
  by_cases e : a = k
  ·simp only [mdel, if_pos e]; exact List.sublist_cons_self _ _
  ·simp only [mdel, if_neg e]; exact ih.cons_cons _
theorem mdel_nodup {m : List (α × β)} (hd : (m.map Prod.fst).Nodup) (k : α) : ((mdel m k).map Prod.fst).Nodup := hd.sublist ((mdel_sub m k).map Prod.fst)
theorem mset_nodup {m : List (α × β)} (hd : (m.map Prod.fst).Nodup) (k : α) (v : β) : ((mset m k v).map Prod.fst).Nodup := by
 rw [mkeys_mset]
 split
 ·exact hd
 ·rename_i h
  rw [List.nodup_append]
  exact ⟨hd, by simp, fun a ha b hb => by simp at hb; subst hb; exact fun e => h (e ▸ ha)⟩

theorem mdel_filter {m : List (α × β)} (hd : (m.map Prod.fst).Nodup) (k : α) : mdel m k = m.filter fun e => decide (¬ e.1 = k) := by
 induction m with
 | nil => rfl
 | cons p r ih =>
  obtain ⟨a, b⟩ := p
  simp only [List.map_cons, List.nodup_cons] at hd
  by_cases e : a = k
  ·subst e
   simp only [mdel, if_pos, List.filter_cons, not_true, decide_false, Bool.false_eq_true, if_false]
   symm
   rw [List.filter_eq_self]
   intro x hx
   have : x.1 ≠ a := fun h => hd.1 (h ▸ List.mem_map_of_mem hx)
   simpa using this
  ·simp only [mdel, if_neg e, List.filter_cons, ih hd.2]
   rw [if_pos (by simpa using e)]
theorem mfind_filter (m : List (α × β)) (P : α → Bool) (k : α) : mfind (m.filter fun e => P e.1) k = if P k = true then mfind m k else none := by
 induction m with
 | nil => simp [mfind]
 | cons p r ih =>
  obtain ⟨a, b⟩ := p
  by_cases e : a = k
  ·subst e
   by_cases h : P a = true
   ·simp [h, mfind]
   ·rw [if_neg h] at ih; rw [if_neg h]; simpa [List.filter_cons, h] using ih
  ·by_cases h : P a = true
   ·simp [h, mfind, e, ih]
   ·simp [h, mfind, e, ih]

def mpR (ek : α → I) (ev : β → V) (m : List (α × β)) : Row := .mp (m.map fun p => (ek p.1, ev p.2)) false
variable {ek : α → I} {ev : β → V} {kt : KT}
theorem findK_enc (hk : ∀ a b, eqKey kt (ek a) (ek b) = some (decide (a = b))) (m : List (α × β)) (k : α) : findK kt (ek k) (m.map fun p => (ek p.1, ev p.2)) = some ((mfind m k).map ev) := by
 induction m with
 | nil => rfl
 | cons p r ih =>
  obtain ⟨a, b⟩ := p
  simp only [List.map_cons, findK, hk, Option.bind_some, mfind]
  by_cases e : k = a
  ·subst e; simp
  ·rw [decide_eq_false e, if_neg (fun h => e h.symm)]
   exact ih
theorem updK_enc (hk : ∀ a b, eqKey kt (ek a) (ek b) = some (decide (a = b))) (m : List (α × β)) (k : α) (v : β) : updK kt (ek k) (ev v) (m.map fun p => (ek p.1, ev p.2)) = some ((mset m k v).map fun p => (ek p.1, ev p.2)) := by
 induction m with
 | nil => rfl
 | cons p r ih =>
  obtain ⟨a, b⟩ := p
  simp only [List.map_cons, updK, hk, Option.bind_some, mset]
  by_cases e : k = a
  ·subst e; simp
  ·rw [decide_eq_false e, if_neg (fun h => e h.symm), ih]
   rfl
theorem delK_enc (hk : ∀ a b, eqKey kt (ek a) (ek b) = some (decide (a = b))) (m : List (α × β)) (k : α) : delK kt (ek k) (m.map fun p => (ek p.1, ev p.2)) = some ((mdel m k).map fun p => (ek p.1, ev p.2)) := by
 induction m with
 | nil => rfl
 | cons p r ih =>
  obtain ⟨a, b⟩ := p
  simp only [List.map_cons, delK, hk, Option.bind_some, mdel]
  by_cases e : k = a
  ·subst e; simp
  ·rw [decide_eq_false e, if_neg (fun h => e h.symm), ih]
   rfl
end

/- What the operations do to a row. -/
def mupR (kt : KT) (row : Row) (k : I) (x : V) : Option Row := match row with
 | .mp es false => gd (noFaV x && okKey kt k) ((updK kt k x es).map fun es' => .mp es' false)
 | _ => none
def mdlR (kt : KT) (row : Row) (k : I) : Option Row := match row with
 | .mp es false => (gd (okKey kt k) (delK kt k es)).map fun es' => .mp es' false
 | _ => none
def lkpRow (kt : KT) (zero : List V) (ag ok : Bool) (row : Row) (k : I) : Option V := match row with
 | .mp es _ => (gd (okKey kt k) (findK kt k es)).bind fun q => lkpR zero ag ok q
 | _ => none
def lenR (row : Row) : Option V := match row with
 | .mp es _ => some (.m (.i .i64 es.length))
 | _ => none
@[simp] theorem loud_mkm0 (c : Call) (M : Mem) : loudX c M .mkm [] = some (.mp M.H.length, { M with H := M.H ++ [.mp [] false] }) := rfl
@[simp] theorem loud_mkm1 (c : Call) (M : Mem) (k : IntKind) (n : Int) : loudX c M .mkm [.m (.i k n)] = some (.mp M.H.length, { M with H := M.H ++ [.mp [] false] }) := rfl
@[simp] theorem loud_mup (c : Call) (M : Mem) (kt : KT) (r : Nat) (k : I) (x : V) : loudX c M (.mup kt) [.mp r, .m k, x] = (nth M.H r).bind fun row => (mupR kt row k x).bind fun row' => (setEl M.H r row').bind fun H' => some (.un, { M with H := H' }) := by
 simp only [loudX]
 congr 1
 funext row
 cases row with
 | cs => rfl
 | lp => rfl
 | mp es fz =>
  cases fz with
  | true => rfl
  | false =>
   simp only [mupR, keyV, Option.bind_some]
   cases (noFaV x && okKey kt k) with
   | false => rfl
   | true => simp only [gd]; cases updK kt k x es <;> rfl
@[simp] theorem loud_mdl (c : Call) (M : Mem) (kt : KT) (r : Nat) (k : I) : loudX c M (.mdl kt) [.mp r, .m k] = (nth M.H r).bind fun row => (mdlR kt row k).bind fun row' => (setEl M.H r row').bind fun H' => some (.tu [], { M with H := H' }) := by
 simp only [loudX]
 congr 1
 funext row
 cases row with
 | cs => rfl
 | lp => rfl
 | mp es fz =>
  cases fz with
  | true => rfl
  | false =>
   simp only [mdlR, keyV, Option.bind_some]
   cases (gd (okKey kt k) (delK kt k es)) <;> rfl
@[simp] theorem rx_lkp (M : Mem) (kt : KT) (z : List V) (ag ok : Bool) (r : Nat) (k : I) : readX M (.lkp kt z ag ok) [.mp r, .m k] = (nth M.H r).bind fun row => lkpRow kt z ag ok row k := by
 simp only [readX, mapOf, keyV]
 cases nth M.H r with
 | none => rfl
 | some row => cases row <;> rfl
@[simp] theorem rx_lenm (M : Mem) (r : Nat) : readX M .lenm [.mp r] = (nth M.H r).bind lenR := by
 simp only [readX, mapOf]
 cases nth M.H r with
 | none => rfl
 | some row => cases row <;> rfl
@[simp] theorem okT_t (x : V) (b : Bool) : okT true x b = .tu [x, .m (.b b)] := rfl
@[simp] theorem okT_f (x : V) (b : Bool) : okT false x b = x := rfl

section
variable {α β : Type} [DecidableEq α] {ek : α → I} {ev : β → V} {kt : KT}
theorem okKey_enc (hk : ∀ a b, eqKey kt (ek a) (ek b) = some (decide (a = b))) (k : α) : okKey kt (ek k) = true := by simp [okKey, hk]
theorem mupR_enc (hk : ∀ a b, eqKey kt (ek a) (ek b) = some (decide (a = b))) (hv : ∀ v, noFaV (ev v) = true) (m : List (α × β)) (k : α) (v : β) : mupR kt (mpR ek ev m) (ek k) (ev v) = some (mpR ek ev (mset m k v)) := by
 simp only [mupR, mpR, okKey_enc hk, hv, updK_enc hk, Bool.and_self, gd, Option.map_some]
theorem mdlR_enc (hk : ∀ a b, eqKey kt (ek a) (ek b) = some (decide (a = b))) (m : List (α × β)) (k : α) : mdlR kt (mpR ek ev m) (ek k) = some (mpR ek ev (mdel m k)) := by
 simp only [mdlR, mpR, okKey_enc hk, delK_enc hk, gd, Option.map_some]
theorem lkpRow_enc (hk : ∀ a b, eqKey kt (ek a) (ek b) = some (decide (a = b))) {z : List V} {ag ok : Bool} {z0 : β} (hz : valOf ag z = some (ev z0)) (m : List (α × β)) (k : α) : lkpRow kt z ag ok (mpR ek ev m) (ek k) = some (okT ok (ev ((mfind m k).getD z0)) (mfind m k).isSome) := by
 simp only [lkpRow, mpR, okKey_enc hk, findK_enc hk, gd, Option.bind_some]
 cases mfind m k with
 | none => simp [lkpR, hz]
 | some v => rfl
omit [DecidableEq α] in
@[simp] theorem lenR_enc (m : List (α × β)) : lenR (mpR ek ev m) = some (.m (.i .i64 m.length)) := by simp [lenR, mpR]
omit [DecidableEq α] in
theorem mpR_nil : Row.mp [] false = mpR ek ev ([] : List (α × β)) := rfl
end

/- Keys: positions (two ints), ints, texts. Values: ints, bools. -/
def ekP (p : Int × Int) : I := .ag [.i .i64 p.1, .i .i64 p.2]
def ekI (x : Int) : I := .i .i64 x
def ekS (x : List Nat) : I := .s x
def evI (x : Int) : V := .m (.i .i64 x)
def evB (x : Bool) : V := .m (.b x)
theorem hkP (a b : Int × Int) : eqKey ⟨true, [1, 1]⟩ (ekP a) (ekP b) = some (decide (a = b)) := by
 simp only [eqKey, ekP, eqCs_cons, eqC_i, eqCs_nil, Option.bind_some, Option.some.injEq]
 obtain ⟨a1, a2⟩ := a
 obtain ⟨b1, b2⟩ := b
 rw [Bool.eq_iff_iff]
 simp
theorem hkI (a b : Int) : eqKey ⟨false, [1]⟩ (ekI a) (ekI b) = some (decide (a = b)) := by
 simp only [eqKey, ekI, eqC_i]
theorem hkS (a b : List Nat) : eqKey ⟨false, [2]⟩ (ekS a) (ekS b) = some (decide (a = b)) := by
 simp only [eqKey, ekS, eqC_s]
abbrev mPI := mpR ekP evI
abbrev mPB := mpR ekP evB
abbrev mIB := mpR ekI evB
abbrev mSI := mpR ekS evI
@[simp] theorem mPI_up (m : List ((Int × Int) × Int)) (x y s : Int) : mupR ⟨true, [1, 1]⟩ (mpR ekP evI m) (.ag [.i .i64 x, .i .i64 y]) (.m (.i .i64 s)) = some (mpR ekP evI (mset m (x, y) s)) := mupR_enc hkP (fun _ => rfl) m (x, y) s
@[simp] theorem mPB_up (m : List ((Int × Int) × Bool)) (x y : Int) (s : Bool) : mupR ⟨true, [1, 1]⟩ (mpR ekP evB m) (.ag [.i .i64 x, .i .i64 y]) (.m (.b s)) = some (mpR ekP evB (mset m (x, y) s)) := mupR_enc hkP (fun _ => rfl) m (x, y) s
@[simp] theorem mIB_up (m : List (Int × Bool)) (x : Int) (s : Bool) : mupR ⟨false, [1]⟩ (mpR ekI evB m) (.i .i64 x) (.m (.b s)) = some (mpR ekI evB (mset m x s)) := mupR_enc hkI (fun _ => rfl) m x s
@[simp] theorem mSI_up (m : List (List Nat × Int)) (x : List Nat) (s : Int) : mupR ⟨false, [2]⟩ (mpR ekS evI m) (.s x) (.m (.i .i64 s)) = some (mpR ekS evI (mset m x s)) := mupR_enc hkS (fun _ => rfl) m x s
@[simp] theorem mP_del {β : Type} (ev : β → V) (m : List ((Int × Int) × β)) (x y : Int) : mdlR ⟨true, [1, 1]⟩ (mpR ekP ev m) (.ag [.i .i64 x, .i .i64 y]) = some (mpR ekP ev (mdel m (x, y))) := mdlR_enc hkP m (x, y)
@[simp] theorem mPI_get (m : List ((Int × Int) × Int)) (x y : Int) (ok : Bool) : lkpRow ⟨true, [1, 1]⟩ [.m (.i .i64 0)] false ok (mpR ekP evI m) (.ag [.i .i64 x, .i .i64 y]) = some (okT ok (.m (.i .i64 ((mfind m (x, y)).getD 0))) (mfind m (x, y)).isSome) := lkpRow_enc (z0 := 0) hkP rfl m (x, y)
@[simp] theorem mPB_get (m : List ((Int × Int) × Bool)) (x y : Int) (ok : Bool) : lkpRow ⟨true, [1, 1]⟩ [.m (.b false)] false ok (mpR ekP evB m) (.ag [.i .i64 x, .i .i64 y]) = some (okT ok (.m (.b ((mfind m (x, y)).getD false))) (mfind m (x, y)).isSome) := lkpRow_enc (z0 := false) hkP rfl m (x, y)
@[simp] theorem mIB_get (m : List (Int × Bool)) (x : Int) (ok : Bool) : lkpRow ⟨false, [1]⟩ [.m (.b false)] false ok (mpR ekI evB m) (.i .i64 x) = some (okT ok (.m (.b ((mfind m x).getD false))) (mfind m x).isSome) := lkpRow_enc (z0 := false) hkI rfl m x
@[simp] theorem mSI_get (m : List (List Nat × Int)) (x : List Nat) (ok : Bool) : lkpRow ⟨false, [2]⟩ [.m (.i .i64 0)] false ok (mpR ekS evI m) (.s x) = some (okT ok (.m (.i .i64 ((mfind m x).getD 0))) (mfind m x).isSome) := lkpRow_enc (z0 := 0) hkS rfl m x
end Go.Mx

/- Decimal numerals: what the library's own conversion lays into memory. Nothing here speaks of a program. -/
namespace Go.Mx
open Go.Lib

theorem nth_congr {α : Type} {l : List α} {n m : Nat} (h : n = m) : nth l n = nth l m := by rw [h]
theorem bl_bounds (x : Nat) (h0 : x ≠ 0) (h : x < 2 ^ 64) : 1 ≤ bitLen x ∧ 2 ^ (bitLen x - 1) ≤ x ∧ x < 2 ^ bitLen x := bitLenAux_bounds 64 x h h0
theorem bl_unique {x a : Nat} (h1 : 2 ^ a ≤ x) (h2 : x < 2 ^ (a + 1)) (h : x < 2 ^ 64) : bitLen x = a + 1 := by
 have h0 : x ≠ 0 := by have := Nat.two_pow_pos a; omega
 obtain ⟨b1, b2, b3⟩ := bl_bounds x h0 h
 have c1 : 2 ^ a < 2 ^ bitLen x := by omega
 have c2 : 2 ^ (bitLen x - 1) < 2 ^ (a + 1) := by omega
 have d1 := (Nat.pow_lt_pow_iff_right (a := 2) (by decide)).1 c1
 have d2 := (Nat.pow_lt_pow_iff_right (a := 2) (by decide)).1 c2
 omega
theorem bl_zero : bitLen 0 = 0 := rfl
theorem bl_add {x k : Nat} (h1 : 2 ^ k ≤ x) (h : x < 2 ^ 64) : bitLen x = k + bitLen (x / 2 ^ k) := by
 have hp := Nat.two_pow_pos k
 have h0 : x / 2 ^ k ≠ 0 := by have := Nat.div_pos h1 hp; omega
 have hx : x / 2 ^ k ≤ x := Nat.div_le_self _ _
 obtain ⟨b1, b2, b3⟩ := bl_bounds (x / 2 ^ k) h0 (by omega)
 generalize hL : bitLen (x / 2 ^ k) = L at b1 b2 b3 ⊢
 have e : bitLen x = (L - 1 + k) + 1 := by
  refine bl_unique ?_ ?_ h
  ·rw [Nat.pow_add]
   exact (Nat.le_div_iff_mul_le hp).1 b2
  ·rw [show L - 1 + k + 1 = L + k by omega, Nat.pow_add]
   exact (Nat.div_lt_iff_lt_mul hp).1 b3
 omega
theorem bl_8 {x : Nat} (h : x < 256) : bitLen x = bitLenAux 8 x := by
 by_cases h0 : x = 0
 ·subst h0; rfl
 ·obtain ⟨b1, b2, b3⟩ := bitLenAux_bounds 8 x h h0
  have := bl_unique (x := x) (a := bitLenAux 8 x - 1) b2 (by rw [show bitLenAux 8 x - 1 + 1 = bitLenAux 8 x by omega]; exact b3) (by omega)
  omega

def encB (x : UInt8) : List V := [.m (.i .u8 (x.toNat : Int))]
def rowP (pre : List (List V)) (d : Array UInt8) (post : List (List V)) : List (List V) := pre ++ (d.toList.map encB ++ post)
@[simp] theorem rowP_len (pre : List (List V)) (d : Array UInt8) (post : List (List V)) : (rowP pre d post).length = pre.length + (d.size + post.length) := by simp [rowP]
theorem rowP_nth (pre : List (List V)) (d : Array UInt8) (post : List (List V)) {i : Nat} (h : i < d.size) : nth (rowP pre d post) (pre.length + i) = some (encB d[i]) := by
 rw [nth_get, rowP, List.getElem?_append_right (by omega), List.getElem?_append_left (by simp; omega)]
 simp [h]
theorem rowP_set (pre : List (List V)) (d : Array UInt8) (post : List (List V)) {i : Nat} (x : UInt8) (h : i < d.size) : setEl (rowP pre d post) (pre.length + i) (encB x) = some (rowP pre (d.setIfInBounds i x) post) := by
 rw [setEl_put _ _ _ (by simp; omega)]
 congr 1
 unfold rowP
 rw [List.set_append_right _ _ (by omega), List.set_append_left _ _ (by simp; omega)]
 simp [List.map_set]
theorem rowP_write (pre : List (List V)) (d : Array UInt8) (post : List (List V)) {i : Nat} (x : UInt8) (h : i < d.size) : writeR 1 (rowP pre d post) (pre.length + i) 0 [.m (.i .u8 (x.toNat : Int))] = some (rowP pre (d.setIfInBounds i x) post) := by
 rw [writeR_10, rowP_nth pre d post h]
 show (putAt (encB d[i]) 0 [.m (.i .u8 (x.toNat : Int))]).bind _ = _
 have : putAt (encB d[i]) 0 [.m (.i .u8 (x.toNat : Int))] = some (encB x) := by simp [encB]
 rw [this]
 exact rowP_set pre d post x h
theorem rowP_write0 (pre : List (List V)) (d : Array UInt8) (post : List (List V)) (x : UInt8) (h : 0 < d.size) : writeR 1 (rowP pre d post) pre.length 0 [.m (.i .u8 (x.toNat : Int))] = some (rowP pre (d.setIfInBounds 0 x) post) := rowP_write pre d post (i := 0) x h
theorem rowP_last (pre : List (List V)) (d : Array UInt8) (post : List (List V)) (v : Nat) (h : 0 < d.size) (hv : v < 10) : writeR 1 (rowP pre d post) pre.length 0 [.m (.i .u8 (48 + (v : Int)))] = some (rowP pre (d.setIfInBounds 0 (UInt8.ofNat (48 + v))) post) := by
 have := rowP_write pre d post (i := 0) (UInt8.ofNat (48 + v)) h
 have e : ((UInt8.ofNat (48 + v)).toNat : Int) = 48 + (v : Int) := by simp; omega
 rw [e] at this
 exact this
theorem bytes_enc : ∀ (l : List UInt8), bytes? (l.map encB) = some (l.map UInt8.toNat)
 | [] => rfl
 | x :: r => by
  have hx : x.toNat < 256 := x.toNat_lt
  show gd (Nat.blt x.toNat 256) ((bytes? (r.map encB)).bind fun l => some (x.toNat :: l)) = _
  rw [blt_dec, decide_eq_true hx, bytes_enc r]
  rfl
theorem rowP_shown (pre : List (List V)) (d : Array UInt8) (post : List (List V)) : ((rowP pre d post).drop pre.length).take d.size = d.toList.map encB := by
 unfold rowP
 rw [List.drop_left, List.take_left' (by simp)]
theorem nth_mid {α : Type} (A : List α) (x : α) (B : List α) : nth (A ++ x :: B) A.length = some x := by rw [nth_get]; simp
theorem setEl_mid {α : Type} (A : List α) (x y : α) (B : List α) : setEl (A ++ x :: B) A.length y = some (A ++ y :: B) := by
 rw [setEl_put _ _ _ (by simp)]
 congr 1
 rw [List.set_append_right _ _ (by omega)]
 simp

def decN (u : Nat) : List Nat := (decDigits u).map UInt8.toNat
def itoaN (n : Int) : List Nat := (Lib.itoa n).map UInt8.toNat
theorem fmt_done {u v' : Nat} {dk : Array UInt8} (h : FmtInv (nDigits u) u 0 v' dk) : dk.toList.map UInt8.toNat = decN u := by
 have hs : dk.size = (decDigits u).length := by rw [decDigits_length]; exact h.size
 have : dk.toList = decDigits u := by
  refine List.ext_getElem (by simpa using hs) fun j h1 h2 => ?_
  rw [row_is_numeral h j h2, getElem!_pos dk j (by simpa using h1)]
  simp
 rw [this]; rfl
theorem decN_one {i : Nat} (h : i < 10) : decN i = [48 + i] := by
 unfold decN
 rw [decDigits_one h]
 simp
 omega
theorem decN_two {i : Nat} (h1 : ¬ i < 10) (h2 : i < 100) : decN i = [48 + i / 10, 48 + i % 10] := by
 unfold decN
 rw [decDigits_two h1 h2]
 simp
 omega
theorem decN_big {u : Nat} (h : ¬ u < 10) : decN u = decN (u / 10) ++ [48 + u % 10] := by
 unfold decN
 rw [decDigits, dif_neg h]
 simp
 omega
theorem itoaN_pos (u : Nat) : itoaN (u : Int) = decN u := by unfold itoaN decN; rw [itoa_nonneg]
theorem itoaN_neg (u : Nat) (h : 1 ≤ u) : itoaN (-(u : Int)) = 45 :: decN u := by unfold itoaN decN; rw [itoa_neg u h]; rfl
theorem gives_of_ret {G : Cfg} {f : Nat} {vs : List V} {H : Hp} {Q : V → Hp → Prop} (h : Ret G f vs H Q) : ∃ v H', Gives G f vs H v H' ∧ Q v H' := by
 obtain ⟨n, v, H', h1, h2⟩ := h
 exact ⟨v, H', ⟨n, h1⟩, h2⟩
theorem tdiv_nat (a b : Nat) : (a : Int).tdiv (b : Int) = ((a / b : Nat) : Int) := rfl
theorem tmod_nat (a b : Nat) : (a : Int).tmod (b : Int) = ((a % b : Nat) : Int) := rfl
theorem nat_div_int (a b : Nat) : (a : Int) / (b : Int) = ((a / b : Nat) : Int) := rfl
theorem elems_row (H : Hp) (r ver esz st len : Nat) (lim : Bool) : elems H (.sl r ver esz st len lim) = (nth H r).bind fun row => match row with
  | .cs _ esz' es base _ => gd (Nat.ble base ver && Nat.beq esz esz') (some ((es.drop st).take len))
  | _ => none := rfl
theorem gives_view_fr {G : Cfg} {f : Nat} {is : List I} {vs : List V} {H H0 H2 : Hp} {v : V} (hp : G.prim f = none) (hs : G.sh f = false) (h : Gives G f (is.map .m) H0 v H0) (hv : optMap (view 20 H) vs = some is)
  (hr : vs.flatMap refs ≠ []) (hfl : flatV v = false) (hsh : vs.all shallow = true) (hfz : freeze (vs.flatMap refs) H = some H2) : Gives G f vs H v H2 := by
 obtain ⟨n, h⟩ := h
 cases n with
 | zero => simp [callM] at h
 | succ n =>
  refine ⟨n + 1, ?_⟩
  simp only [callM, hp, hs] at h ⊢
  cases hfn : G.fn f with
  | none =>
   rw [hfn] at h
   simp only [gd_some] at h
   obtain ⟨_, h⟩ := h
   cases is <;> simp [roundM] at h
  | some fn =>
  rw [hfn] at h
  simp only at h ⊢
  have hm : ∀ (l : List I), optMap (view 20 H0) (l.map V.m) = some l := by
   intro l
   induction l with
   | nil => rfl
   | cons a r ih => simp only [List.map_cons, optMap, view_m20, ih]; rfl
  have hz : (is.map V.m).flatMap refs = [] := by
   induction is with
   | nil => rfl
   | cons a r _ => simp [refs, ref1]
  unfold callP at h ⊢
  simp only [hm, hz, Option.bind_eq_some_iff] at h
  obtain ⟨is', he, ⟨v1, H1⟩, hev, r, hr1, h2⟩ := h
  cases he
  have hrv : r = v := by
   cases hsh : (is.map V.m).all shallow with
   | false => rw [hsh] at h2; simp at h2
   | true => rw [hsh] at h2; simp at h2; exact h2
  subst hrv
  simp only [hv, Option.bind_some, hev, hr1]
  cases hl : vs.flatMap refs with
  | nil => exact absurd hl hr
  | cons a b =>
   rw [hl] at hfz
   simp [hfl, hsh, hfz]
end Go.Mx

