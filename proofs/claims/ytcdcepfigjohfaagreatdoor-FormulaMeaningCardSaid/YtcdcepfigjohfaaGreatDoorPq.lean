/- The primitive of the machine for slices.SortFunc; its contract is the kit's, proved over any program that bears the library's own bodies. -/
import Derived.Test.YtcdcepfigjohfaaGreatDoorBd
import Derived.Test.YtcdcepfigjohfaaGreatDoorWa
import Derived.Shelf.SlSortCmp.NoneTotal
set_option linter.unusedSimpArgs false
set_option linter.unusedVariables false
set_option linter.unusedSectionVars false
set_option linter.unusedVariables false
namespace Go.Mx
open Go.Proofs Go.RowKit

/- Sorting by a comparison that may stop. -/
section
variable {α : Type}
def insO (lt : α → α → Option Bool) (x : α) : List α → Option (List α)
 | [] => some [x]
 | y :: r => (lt x y).bind fun b => match b with
  | true => some (x :: y :: r)
  | false => (insO lt x r).bind fun l => some (y :: l)
def srtO (lt : α → α → Option Bool) : List α → Option (List α)
 | [] => some []
 | x :: r => (srtO lt r).bind (insO lt x)
def ordO (lt : α → α → Option Bool) (eq : α → α → Bool) (x y : α) : Option Bool := (lt x y).bind fun a => (lt y x).bind fun b => some (match b with
 | true => false
 | false => match a with
  | true => true
  | false => eq x y)
def allO (p : α → Option Bool) : List α → Option Bool
 | [] => some true
 | y :: r => (p y).bind fun b => match b with
  | true => allO p r
  | false => some false
def chkO (lt : α → α → Option Bool) (eq : α → α → Bool) : List α → Option Bool
 | [] => some true
 | x :: r => (lt x x).bind fun b => match b with
  | true => some false
  | false => (allO (ordO lt eq x) r).bind fun b => match b with
   | true => chkO lt eq r
   | false => some false

theorem insO_perm {lt : α → α → Option Bool} {x : α} : ∀ {l ys : List α}, insO lt x l = some ys → ys.Perm (x :: l)
 | [], ys, h => by
  simp only [insO, Option.some.injEq] at h
  subst h
  exact .refl _
 | y :: r, ys, h => by
  simp only [insO, Option.bind_eq_some_iff] at h
  obtain ⟨b, _, h⟩ := h
  cases b with
  | true =>
   simp only [Option.some.injEq] at h
   subst h
   exact .refl _
  | false =>
   simp only [Option.bind_eq_some_iff, Option.some.injEq] at h
   obtain ⟨l, hl, rfl⟩ := h
   exact (List.Perm.cons y (insO_perm hl)).trans (List.Perm.swap x y r)
theorem srtO_perm {lt : α → α → Option Bool} : ∀ {l ys : List α}, srtO lt l = some ys → ys.Perm l
 | [], ys, h => by
  simp only [srtO, Option.some.injEq] at h
  subst h
  exact .refl _
 | x :: r, ys, h => by
  simp only [srtO, Option.bind_eq_some_iff] at h
  obtain ⟨l, hl, h⟩ := h
  exact (insO_perm h).trans ((srtO_perm hl).cons x)
theorem allO_mem {p : α → Option Bool} : ∀ {l : List α}, allO p l = some true → ∀ y, y ∈ l → p y = some true
 | [], _, y, hy => by simp at hy
 | x :: r, h, y, hy => by
  simp only [allO, Option.bind_eq_some_iff] at h
  obtain ⟨b, hb, h⟩ := h
  cases b with
  | false => simp at h
  | true =>
   rcases List.mem_cons.1 hy with rfl | hy
   ·exact hb
   ·exact allO_mem h y hy
structure Srt (lt : α → α → Option Bool) (ys : List α) : Prop where
 irr : ∀ y, y ∈ ys → lt y y = some false
 pw : ys.Pairwise fun x y => lt y x = some false ∧ (lt x y = some true ∨ (lt x y = some false ∧ x = y))
theorem chkO_srt {lt : α → α → Option Bool} {eq : α → α → Bool} (he : ∀ x y, eq x y = true → x = y) : ∀ {ys : List α}, chkO lt eq ys = some true → Srt lt ys
 | [], _ => ⟨by simp, .nil⟩
 | x :: r, h => by
  simp only [chkO, Option.bind_eq_some_iff] at h
  obtain ⟨b, hb, h⟩ := h
  cases b with
  | true => simp at h
  | false =>
   simp only [Option.bind_eq_some_iff] at h
   obtain ⟨c, hc, h⟩ := h
   cases c with
   | false => simp at h
   | true =>
    have ih := chkO_srt he h
    refine ⟨fun y hy => ?_, .cons (fun y hy => ?_) ih.pw⟩
    ·rcases List.mem_cons.1 hy with rfl | hy
     ·exact hb
     ·exact ih.irr y hy
    ·have := allO_mem hc y hy
     simp only [ordO, Option.bind_eq_some_iff, Option.some.injEq] at this
     obtain ⟨a, ha, b, hb, h⟩ := this
     cases b with
     | true => simp at h
     | false =>
      cases a with
      | true => exact ⟨hb, .inl ha⟩
      | false => exact ⟨hb, .inr ⟨ha, he _ _ h⟩⟩
section
variable {lt : α → α → Option Bool} {ys : List α} (h : Srt lt ys)
include h
theorem Srt.at {i j : Nat} (hi : i < ys.length) (hj : j < ys.length) (hij : i < j) : lt ys[j] ys[i] = some false ∧ (lt ys[i] ys[j] = some true ∨ (lt ys[i] ys[j] = some false ∧ ys[i] = ys[j])) :=
 List.pairwise_iff_getElem.1 h.pw i j hi hj hij
theorem Srt.dec {x y : α} (hx : x ∈ ys) (hy : y ∈ ys) : ∃ b, lt x y = some b := by
 obtain ⟨i, hi, rfl⟩ := List.getElem_of_mem hx
 obtain ⟨j, hj, rfl⟩ := List.getElem_of_mem hy
 rcases Nat.lt_trichotomy i j with e | e | e
 ·rcases (h.at hi hj e).2 with e | e
  ·exact ⟨_, e⟩
  ·exact ⟨_, e.1⟩
 ·subst e
  exact ⟨_, h.irr _ hx⟩
 ·exact ⟨_, (h.at hj hi e).1⟩
theorem Srt.pos {i j : Nat} (hi : i < ys.length) (hj : j < ys.length) (e : lt ys[i] ys[j] = some true) : i < j := by
 rcases Nat.lt_trichotomy i j with k | k | k
 ·exact k
 ·subst k
  rw [h.irr _ (List.getElem_mem hi)] at e
  cases e
 ·rw [(h.at hj hi k).1] at e
  cases e
theorem Srt.trans {x y z : α} (hx : x ∈ ys) (hy : y ∈ ys) (hz : z ∈ ys) (h1 : lt x y = some true) (h2 : lt y z = some true) : lt x z = some true := by
 obtain ⟨i, hi, rfl⟩ := List.getElem_of_mem hx
 obtain ⟨j, hj, rfl⟩ := List.getElem_of_mem hy
 obtain ⟨k, hk, rfl⟩ := List.getElem_of_mem hz
 have a := h.pos hi hj h1
 have b := h.pos hj hk h2
 rcases (h.at hi hk (by omega)).2 with e | ⟨_, e⟩
 ·exact e
 ·rw [← e, (h.at hi hj a).1] at h2
  cases h2
theorem Srt.ntrans {x y z : α} (hx : x ∈ ys) (hy : y ∈ ys) (hz : z ∈ ys) (h1 : lt x y = some false) (h2 : lt y z = some false) : lt x z = some false := by
 obtain ⟨b, hb⟩ := h.dec hx hz
 cases b with
 | false => exact hb
 | true =>
  obtain ⟨i, hi, rfl⟩ := List.getElem_of_mem hx
  obtain ⟨j, hj, rfl⟩ := List.getElem_of_mem hy
  obtain ⟨k, hk, rfl⟩ := List.getElem_of_mem hz
  have a := h.pos hi hk hb
  by_cases c : j < k
  ·rcases (h.at hj hk c).2 with e | ⟨_, e⟩
   ·rw [e] at h2
    cases h2
   ·rw [e, hb] at h1
    cases h1
  ·rcases (h.at hi hj (by omega)).2 with e | ⟨_, e⟩
   ·rw [e] at h1
    cases h1
   ·rw [← e, hb] at h2
    cases h2
theorem Srt.anti {x y : α} (hx : x ∈ ys) (hy : y ∈ ys) (h1 : lt x y = some false) (h2 : lt y x = some false) : x = y := by
 obtain ⟨i, hi, rfl⟩ := List.getElem_of_mem hx
 obtain ⟨j, hj, rfl⟩ := List.getElem_of_mem hy
 rcases Nat.lt_trichotomy i j with k | k | k
 ·rcases (h.at hi hj k).2 with e | e
  ·rw [e] at h1
   cases h1
  ·exact e.2
 ·subst k
  rfl
 ·rcases (h.at hj hi k).2 with e | e
  ·rw [e] at h2
   cases h2
  ·exact e.2.symm
theorem Srt.uniq {zs : List α} (hp : zs.Perm ys) (hs : zs.Pairwise fun x y => lt y x = some false) : zs = ys :=
 List.Perm.eq_of_pairwise (le := fun x y => lt y x = some false) (fun a b ha hb h1 h2 => h.anti (hp.mem_iff.1 ha) hb h2 h1) hs (h.pw.imp fun h => h.1) hp
end
end

def triO {α : Type} (lt : α → α → Option Bool) (x y z : α) : Option Bool := (lt x x).bind fun r => (lt x y).bind fun a => (lt y z).bind fun b => (lt x z).bind fun c => some (match r with
 | true => false
 | false => match a, b with
  | true, true => c
  | false, false => !c
  | _, _ => true)
def swoO {α : Type} (lt : α → α → Option Bool) (l : List α) : Option Bool := allO (fun x => allO (fun y => allO (fun z => triO lt x y z) l) l) l
structure Swo {α : Type} (lt : α → α → Option Bool) (l : List α) : Prop where
 dec : ∀ x, x ∈ l → ∀ y, y ∈ l → ∃ b, lt x y = some b
 irr : ∀ x, x ∈ l → lt x x = some false
 tr : ∀ x, x ∈ l → ∀ y, y ∈ l → ∀ z, z ∈ l → lt x y = some true → lt y z = some true → lt x z = some true
 ntr : ∀ x, x ∈ l → ∀ y, y ∈ l → ∀ z, z ∈ l → lt x y = some false → lt y z = some false → lt x z = some false
theorem swoO_swo {α : Type} {lt : α → α → Option Bool} {l : List α} (h : swoO lt l = some true) : Swo lt l := by
 have key : ∀ x, x ∈ l → ∀ y, y ∈ l → ∀ z, z ∈ l → triO lt x y z = some true := fun x hx y hy z hz => allO_mem (allO_mem (allO_mem h x hx) y hy) z hz
 have un : ∀ x, x ∈ l → ∀ y, y ∈ l → ∀ z, z ∈ l → ∃ a b c, lt x x = some false ∧ lt x y = some a ∧ lt y z = some b ∧ lt x z = some c ∧ (a = true → b = true → c = true) ∧ (a = false → b = false → c = false) := fun x hx y hy z hz => by
  have h := key x hx y hy z hz
  simp only [triO, Option.bind_eq_some_iff, Option.some.injEq] at h
  obtain ⟨r, hr, a, ha, b, hb, c, hc, h⟩ := h
  cases r with
  | true => cases h
  | false => exact ⟨a, b, c, hr, ha, hb, hc, by cases a <;> cases b <;> cases c <;> simp_all, by cases a <;> cases b <;> cases c <;> simp_all⟩
 refine ⟨fun x hx y hy => ?_, fun x hx => ?_, fun x hx y hy z hz e1 e2 => ?_, fun x hx y hy z hz e1 e2 => ?_⟩
 ·obtain ⟨a, b, c, _, h, _⟩ := un x hx y hy y hy
  exact ⟨a, h⟩
 ·obtain ⟨a, b, c, h, _⟩ := un x hx x hx x hx
  exact h
 ·obtain ⟨a, b, c, _, h1, h2, h3, h4, _⟩ := un x hx y hy z hz
  rw [e1] at h1
  rw [e2] at h2
  rw [h3, h4 (Option.some.inj h1).symm (Option.some.inj h2).symm]
 ·obtain ⟨a, b, c, _, h1, h2, h3, _, h4⟩ := un x hx y hy z hz
  rw [e1] at h1
  rw [e2] at h2
  rw [h3, h4 (Option.some.inj h1).symm (Option.some.inj h2).symm]
theorem Srt.swo {α : Type} {lt : α → α → Option Bool} {ys l : List α} (h : Srt lt ys) (hm : ∀ x, x ∈ l → x ∈ ys) : Swo lt l :=
 ⟨fun x hx y hy => h.dec (hm x hx) (hm y hy), fun x hx => h.irr x (hm x hx), fun x hx y hy z hz => h.trans (hm x hx) (hm y hy) (hm z hz), fun x hx y hy z hz => h.ntrans (hm x hx) (hm y hy) (hm z hz)⟩
def pdqF {n : Nat} (hn : 0 < n) (f : Fin n → Fin n → Bool) : List (Fin n) := (@Go.Sort.pdq _ ⟨⟨0, hn⟩⟩ f (Array.ofFn id) 0 n (Go.Lib.bitLen n) true true).toList
def pdqL {α : Type} (lt : α → α → Option Bool) (l : List α) : List α := match h : l.length with
 | 0 => []
 | n + 1 => (pdqF (Nat.succ_pos n) fun i j => match lt (l[i.1]'(by omega)) (l[j.1]'(by omega)) with
  | some b => b
  | none => false).map fun i => l[i.1]'(by omega)

/- Equality of immutable values, so many levels deep. -/
def eqLs {α : Type} (f : α → α → Bool) : List α → List α → Bool
 | [], [] => true
 | x :: r, y :: t => f x y && eqLs f r t
 | _, _ => false
theorem eqLs_eq {α : Type} {f : α → α → Bool} (hf : ∀ x y, f x y = true → x = y) : ∀ (l m : List α), eqLs f l m = true → l = m
 | [], [], _ => rfl
 | [], _ :: _, h => by simp [eqLs] at h
 | _ :: _, [], h => by simp [eqLs] at h
 | x :: r, y :: t, h => by
  simp only [eqLs, Bool.and_eq_true] at h
  rw [hf x y h.1, eqLs_eq hf r t h.2]
theorem eqLs_refl {α : Type} {f : α → α → Bool} : ∀ (l : List α), (∀ x, x ∈ l → f x x = true) → eqLs f l l = true
 | [], _ => rfl
 | x :: r, h => by rw [eqLs, h x (by simp), eqLs_refl r fun y hy => h y (by simp [hy])]; rfl
def eqX : Nat → I → I → Bool
 | 0, _, _ => false
 | n + 1, x, y => match x, y with
  | .b a, .b c => eqB a c
  | .i k a, .i k' c => eqK k k' && eqI a c
  | .s a, .s c => eqL a c
  | .nl a, .nl c => Nat.beq a c
  | .sl a, .sl c => eqLs (eqLs (eqX n)) a c
  | .ag a, .ag c => eqLs (eqX n) a c
  | _, _ => false
theorem eqX_eq : ∀ (n : Nat) (x y : I), eqX n x y = true → x = y
 | 0, _, _, h => by simp [eqX] at h
 | n + 1, x, y, h => by
  unfold eqX at h
  split at h
  ·rename_i a c
   cases a <;> cases c <;> first | rfl | simp [eqB] at h
  ·simp only [Bool.and_eq_true] at h
   have h2 := h.2
   rw [eqI_eq] at h2
   rw [(eqK_eq _ _).1 h.1, eq_of_beq h2]
  ·rw [eqL_eq] at h
   rw [of_decide_eq_true h]
  ·rw [Nat.eq_of_beq_eq_true h]
  ·rw [eqLs_eq (eqLs_eq (eqX_eq n)) _ _ h]
  ·rw [eqLs_eq (eqX_eq n) _ _ h]
  ·cases h

def elV (ag : Bool) (x : List I) : V := match ag with
 | true => .m (.ag x)
 | false => match x with
  | [a] => .m a
  | _ => .un
def ltC (call : Call) (f : Nat) (cap : List V) (ag : Bool) (x y : List I) : Option Bool := (call f (elV ag x :: elV ag y :: cap) []).bind fun p => match p.1, p.2 with
 | .m (.i .i64 c), [] => some (ltI c 0)
 | _, _ => none
def srtX (ag : Bool) (k : Nat) (call : Call) (vs : List V) (H : Hp) : Option (V × Hp) := match vs with
 | [s, g] => (cavF g).bind fun gc => (allM gc.2).bind fun _ => match s with
  | .m (.nl 4) => some (.tu [], H)
  | .m (.sl []) => some (.tu [], H)
  | .ls [] => some (.tu [], H)
  | .sl r ver esz st len _ => (nth H r).bind fun row => match row with
   | .cs ty esz' es base fz => gd (!fz && Nat.beq ver es.length && Nat.beq esz esz' && Nat.beq esz k && Nat.ble len 4611686018427387903 && Nat.ble (st + len) es.length)
    ((optMap allM ((es.drop st).take len)).bind fun xs => match xs with
     | [] => some (.tu [], H)
     | _ :: _ => gd ((immS xs).all fun e => e.all oneV) <| (srtO (ltC call gc.1 gc.2 ag) xs).bind fun ys => (chkO (ltC call gc.1 gc.2 ag) (eqLs (eqX 6)) ys).bind fun b => (match b with
      | true => some ys
      | false => (swoO (ltC call gc.1 gc.2 ag) xs).bind fun b2 => gd b2 (some (pdqL (ltC call gc.1 gc.2 ag) xs))).bind fun zs =>
      (setEl H r (.cs ty esz' (cpyEl es st (immS zs)) es.length false)).bind fun H' => some (.tu [], H'))
   | _ => none
  | _ => none
 | _ => none
end Go.Mx

/- The kit's contract, in one form for elements of one cell and of many. -/
namespace Go.Mx
open Go.Proofs Go.RowKit Go.Sort
variable {P : Program}

def elC (ag : Bool) (cs : List Value) : Value := match ag with
 | true => .agg cs.toArray
 | false => cs.headD undef

def sw0 (w : World) (blk off m : Nat) (F : Array Value) (os : Array Obj) : World := grow (putRow id (Sort.ahead w m) blk off F) os

def SortWalk (P : Program) (f : Nat) (ag : Bool) (k : Nat) : Prop := ∀ (n : Nat) (hn0 : 0 < n) (enc : Fin n → List Value) (cf : Fin n → Fin n → Int) (g : Nat) (cb : Array Value) (blk off cap : Nat) (w : World),
 (∀ i, (enc i).length = k) → (∀ i v, v ∈ enc i → v.oneCell' = true) → SWO (ltOf cf) → Enters P g →
 (∀ m os (F : Array Value), F.size = n * k → ∀ x y, Calls P g (#[elC ag (enc x), elC ag (enc y)] ++ cb) (sw0 w blk off m F os) fun e w' => e = .returned (.int .i64 (cf x y)) ∧ ∃ q os', w' = grow ((sw0 w blk off m F os).drewN q) os') →
 (∀ i : Fin n, ∀ j v, (enc i)[j]? = some v → w.cell? ⟨blk, off + (i.1 * k + j), none⟩ = some v ∧ w.frozen? ⟨blk, off + (i.1 * k + j), none⟩ = false) → blk < w.heap.size → n < 4611686018427387904 →
 Calls P f #[.slice (some ⟨blk, off, none⟩) n cap, .func (.func g) #[] cb] w fun e w' => e = .returned (.tuple #[]) ∧ ∃ (m : Nat) (os : Array Obj) (F : Array Value),
  F.toList = (pdqF hn0 (ltOf cf)).flatMap enc ∧ w' = sw0 w blk off m F os
def SortNone (P : Program) (f : Nat) : Prop := ∀ (p : Option Addr) (cap : Nat) (fv : Value) (w : World), Calls P f #[.slice p 0 cap, fv] w fun e w' => e = .returned (.tuple #[]) ∧ w' = w

theorem enters_run {g : Nat} (h : Enters P g) : ∀ args w, (callFunc g args).run P w = .ok (.enter g args) w := by
 obtain ⟨fn, h1, h2, h3⟩ := h
 cases hb : fn.body with
 | none => rw [hb] at h3; cases h3
 | some c => exact enters_of h1 h2 hb

theorem putRow_map {α : Type} [Inhabited α] (enc : α → Value) (w : World) (blk off : Nat) (d : Array α) : putRow enc w blk off d = putRow id w blk off (d.map enc) := by
 unfold putRow
 refine mapBlock_congr _ _ _ _ fun c _ _ _ => ?_
 apply Array.ext_getElem?
 intro k
 simp only [putCells, Array.getElem?_mapIdx, Array.size_map]
 cases c[k]? with
 | none => rfl
 | some y =>
  simp only [Option.map_some, id_eq]
  split
  ·rename_i h
   have : k - off < d.size := by omega
   rw [getElem!_pos (d.map enc) (k - off) (by simpa using this), getElem!_pos d (k - off) this, Array.getElem_map]
  ·rfl
theorem size_mapf {α : Type} (enc : α → Value) (d : Array α) : (d.map enc).size = d.size := Array.size_map ..

theorem flatMap_get {α β : Type} {k : Nat} (hk : 0 < k) {f : α → List β} (hf : ∀ x, (f x).length = k) : ∀ (l : List α) (t : Nat), (l.flatMap f)[t]? = (l[t / k]?).bind fun x => (f x)[t % k]?
 | [], t => by simp
 | x :: l, t => by
  rw [List.flatMap_cons, List.getElem?_append]
  split
  ·rename_i h
   rw [hf] at h
   rw [Nat.div_eq_of_lt h, Nat.mod_eq_of_lt h]
   rfl
  ·rename_i h
   rw [hf] at h
   rw [flatMap_get hk hf l, hf]
   have e1 : t / k = (t - k) / k + 1 := by
    rw [← Nat.add_div_right _ hk]
    congr 1
    omega
   have e2 : t % k = (t - k) % k := by
    rw [← Nat.add_mod_right (t - k) k]
    congr 1
    omega
   rw [e1, e2]
   rfl
theorem flatK_list {α : Type} [Inhabited α] {k : Nat} (hk : 0 < k) {enc : α → List Value} (hf : ∀ x, (enc x).length = k) (d : Array α) : (flatK enc k d).toList = d.toList.flatMap enc := by
 apply List.ext_getElem?
 intro t
 rw [flatMap_get hk hf]
 by_cases h : t < d.size * k
 ·have h1 : t / k < d.size := (Nat.div_lt_iff_lt_mul hk).2 h
  have h2 := get_flatK enc k d t h
  have hs : t < (flatK enc k d).size := by rw [size_flatK]; exact h
  rw [Array.getElem?_toList, Array.getElem?_eq_getElem hs]
  rw [getElem!_pos _ t hs] at h2
  rw [h2, Array.getElem?_toList, Array.getElem?_eq_getElem h1, Option.bind_some, getElem!_pos d _ h1]
  have h3 : t % k < (enc d[t / k]).length := by rw [hf]; exact Nat.mod_lt _ hk
  rw [List.getElem?_eq_getElem h3, getElem!_pos (enc d[t / k]) (t % k) h3]
 ·have h1 : ¬ t / k < d.size := fun h' => h ((Nat.div_lt_iff_lt_mul hk).1 h')
  have hs : (flatK enc k d).size ≤ t := by rw [size_flatK]; omega
  rw [Array.getElem?_toList, Array.getElem?_eq_none hs, Array.getElem?_toList, Array.getElem?_eq_none (by omega)]
  rfl

theorem perm_of {n : Nat} [Inhabited (Fin n)] {cf : Fin n → Fin n → Int} {d : Array (Fin n)} (h1 : PermIn 0 n (Array.ofFn (n := n) id) d) (h2 : SortedIn (ltOf cf) 0 n d) :
  d.toList.Perm (List.finRange n) ∧ d.toList.Pairwise fun x y => ¬ cf y x < 0 := by
 obtain ⟨hs, _, hp⟩ := h1
 have hd : (Array.ofFn (n := n) (id : Fin n → Fin n)).size = n := by simp
 have e1 : (Array.ofFn (n := n) (id : Fin n → Fin n)).extract 0 n = Array.ofFn id := by
  have := Array.extract_size (xs := Array.ofFn (n := n) (id : Fin n → Fin n))
  rwa [hd] at this
 have e2 : d.extract 0 n = d := by
  have := Array.extract_size (xs := d)
  rwa [hs, hd] at this
 rw [e1, e2] at hp
 refine ⟨?_, ?_⟩
 ·have : (Array.ofFn (n := n) (id : Fin n → Fin n)).toList = List.finRange n := by rw [Array.toList_ofFn]; rfl
  rw [← this]
  exact hp
 ·rw [List.pairwise_iff_getElem]
  intro i j hi hj hij
  have hj' : j < d.size := by simpa using hj
  have := h2 i j (Nat.zero_le _) hij (by rw [hs, hd] at hj'; exact hj')
  rw [getElem!_pos d j hj', getElem!_pos d i (by omega)] at this
  simpa [ltOf] using this

theorem pdqF_srt {n : Nat} (hn : 0 < n) {cf : Fin n → Fin n → Int} (hO : SWO (ltOf cf)) : (pdqF hn (ltOf cf)).Perm (List.finRange n) ∧ (pdqF hn (ltOf cf)).Pairwise fun x y => ¬ cf y x < 0 := by
 letI : Inhabited (Fin n) := ⟨⟨0, hn⟩⟩
 have h := pdq_sorts (ltOf cf) hO (Array.ofFn (n := n) id) 0 n (Lib.bitLen n) true true (Nat.zero_le _) (by simp) (Or.inl rfl)
 exact perm_of h.1 h.2
theorem sw_one {ρ : Go.Shelf.Ren} (L : SlLaysF.n6 P ρ) : SortWalk P (ρ.f 6) false 1 := fun n hn0 enc cf g cb blk off cap w h1 h2 hO hen hc hH hb hn => by
 letI : Inhabited (Fin n) := ⟨⟨0, hn0⟩⟩
 have he : ∀ i, enc i = [(enc i).headD undef] := fun i => by
  have := h1 i
  generalize enc i = l at this
  match l, this with
  | [x], _ => rfl
 have hd : (Array.ofFn (n := n) (id : Fin n → Fin n)).size = n := by simp
 have h := Any.slices_SortFunc_eq L (fun i => (enc i).headD undef) (fun i => h2 i _ (by rw [he i]; simp)) cf hO g cb blk off cap (Array.ofFn id) w (enters_run hen) (fun m os dk hs x y => by
  have := hc m os (dk.map fun i => (enc i).headD undef) (by rw [size_mapf, hs, hd, Nat.mul_one]) x y
  unfold sw0 at this
  rw [← putRow_map] at this
  exact this) (fun j hj => by
  have := hH ⟨j, by simpa using hj⟩ 0 ((enc ⟨j, by simpa using hj⟩).headD undef) (by rw [he]; rfl)
  rw [getElem!_pos _ j hj]
  simpa using this) hb (by rw [hd]; exact hn)
 rw [hd] at h
 refine h.mono fun e w' hh => ?_
 obtain ⟨rfl, m, os, rfl⟩ := hh
 refine ⟨rfl, m, os, (pdq (ltOf cf) (Array.ofFn (n := n) id) 0 n (Lib.bitLen n) true true).map fun i => (enc i).headD undef, ?_, ?_⟩
 ·rw [Array.toList_map]
  show _ = (pdq (ltOf cf) (Array.ofFn (n := n) id) 0 n (Lib.bitLen n) true true).toList.flatMap enc
  generalize (pdq (ltOf cf) (Array.ofFn (n := n) id) 0 n (Lib.bitLen n) true true).toList = l
  induction l with
  | nil => rfl
  | cons x l ih => rw [List.map_cons, List.flatMap_cons, he x, ih]; rfl
 ·unfold sortWorld sw0
  rw [putRow_map]

theorem sw_agg {ρ : Go.Shelf.Ren} {k : Nat} (L : SlLaysF0.n6 P ρ) (hk : 0 < k) (aE : ∀ w, (isAgg (ρ.t 24)).run P w = .ok true w) (zE : ∀ w, (Go.sizeOf (ρ.t 24)).run P w = .ok k w) : SortWalk P (ρ.f 6) true k := fun n hn0 enc cf g cb blk off cap w h1 h2 hO hen hc hH hb hn => by
 letI : Inhabited (Fin n) := ⟨⟨0, hn0⟩⟩
 have hd : (Array.ofFn (n := n) (id : Fin n → Fin n)).size = n := by simp
 have h := AnyQ.slices_SortFunc_eq L k aE zE enc h1 h2 cf hO g cb blk off cap (Array.ofFn id) w (enters_run hen) (fun m os dk hs x y => hc m os (flatK enc k dk) (by rw [size_flatK, hs, hd]) x y) (fun j hj => by
  have hj' : j < n * k := by rw [size_flatK, hd] at hj; exact hj
  have hi : j / k < n := (Nat.div_lt_iff_lt_mul hk).2 hj'
  have hl : j % k < (enc ⟨j / k, hi⟩).length := by rw [h1]; exact Nat.mod_lt _ hk
  have := hH ⟨j / k, hi⟩ (j % k) _ (List.getElem?_eq_getElem hl)
  rw [show j / k * k + j % k = j from by rw [Nat.mul_comm]; exact Nat.div_add_mod j k] at this
  have hh := get_flatK enc k (Array.ofFn (n := n) id) j (by rw [hd]; exact hj')
  rw [hh, getElem!_pos _ (j / k) (by rw [hd]; exact hi)]
  have e : (Array.ofFn (n := n) (id : Fin n → Fin n))[j / k]'(by rw [hd]; exact hi) = ⟨j / k, hi⟩ := by simp
  rw [e, getElem!_pos (enc ⟨j / k, hi⟩) (j % k) hl]
  exact this) hb (by rw [hd]; exact hn)
 rw [hd] at h
 refine h.mono fun e w' hh => ?_
 obtain ⟨rfl, m, os, rfl⟩ := hh
 exact ⟨rfl, m, os, flatK enc k _, flatK_list hk h1 _, rfl⟩

/- The primitive stands for it. -/
theorem stp_grow {W w' : World} {S S' : Nat → Prop} {ρ ρ' β : Nat → Nat} {H' : Hp} (hD : drawM = true) (h : Stp W S ρ β ⟨[], []⟩ w' S' ρ' H') : ∃ q os', w' = grow (W.drewN q) os' := by
 have hh : w'.heap = W.heap ++ w'.heap.extract W.heap.size w'.heap.size := by
  apply Array.ext_getElem?
  intro b
  rw [Array.getElem?_append]
  split
  ·rename_i hb
   exact h.keep b hb (fun r hr => by simp at hr) (fun d hd => by simp [getB] at hd)
  ·rename_i hb
   rw [Array.getElem?_extract]
   have := h.size
   by_cases c : b < w'.heap.size
   ·rw [if_pos (by omega)]
    congr 1
    omega
   ·rw [if_neg (by omega), Array.getElem?_eq_none (by omega)]
 have h1 := h.drawn hD
 have h2 := h.os
 have h3 := h.tape
 have h4 := h.output
 refine ⟨w'.drawn - W.drawn, w'.heap.extract W.heap.size w'.heap.size, ?_⟩
 unfold grow World.drewN
 obtain ⟨a1, a2, a3, a4, a5⟩ := w'
 obtain ⟨b1, b2, b3, b4, b5⟩ := W
 simp only at h1 h2 h3 h4 hh ⊢
 subst h2
 subst h3
 subst h4
 congr 1
 omega

theorem heap_sw0 {w : World} {blk off m : Nat} {F : Array Value} {os : Array Obj} : w.heap.size ≤ (sw0 w blk off m F os).heap.size ∧ ∀ b, b < w.heap.size → b ≠ blk → (sw0 w blk off m F os).heap[b]? = w.heap[b]? := by
 unfold sw0 grow putRow mapBlock Sort.ahead
 refine ⟨by simp, fun b hb hne => ?_⟩
 rw [Array.getElem?_append]
 rw [if_pos (by simpa using hb), Array.getElem?_modify, if_neg (fun e => hne e.symm)]
theorem putRow_set {w : World} {blk off : Nat} {F : Array Value} {cur : Array Value} {ty : TypeId} {mk : Nat × Nat} (hh : w.heap[blk]? = some (.cells cur ty mk)) : putRow id w blk off F = w.setRow blk (putCells id off F cur) := by
 unfold putRow mapBlock World.setRow
 congr 1
 apply Array.ext_getElem?
 intro k
 simp only [Array.getElem?_modify]
 by_cases hk : blk = k
 ·subst hk
  simp only [if_true, hh, Option.map_some, onCells]
 ·simp [hk]
theorem putCells_list {off : Nat} {F cur : Array Value} (h : off + F.size ≤ cur.size) : (putCells id off F cur).toList = cur.toList.take off ++ F.toList ++ cur.toList.drop (off + F.size) := by
 apply List.ext_getElem?
 intro i
 rw [Array.getElem?_toList]
 simp only [putCells, Array.getElem?_mapIdx, id_eq]
 rw [List.append_assoc, List.getElem?_append]
 have hl : (cur.toList.take off).length = off := by simp; omega
 rw [hl]
 by_cases c : i < off
 ·rw [if_pos c, List.getElem?_take, if_pos c, Array.getElem?_toList]
  cases cur[i]? with
  | none => rfl
  | some x => simp only [Option.map_some]; rw [if_neg (by omega)]
 ·rw [if_neg c, List.getElem?_append]
  have hl2 : F.toList.length = F.size := by simp
  rw [hl2]
  by_cases c2 : i - off < F.size
  ·rw [if_pos c2, Array.getElem?_toList, Array.getElem?_eq_getElem c2, Array.getElem?_eq_getElem (show i < cur.size from by omega), Option.map_some, if_pos ⟨by omega, by omega⟩, getElem!_pos F _ c2]
  ·rw [if_neg c2, List.getElem?_drop, Array.getElem?_toList]
   rw [show off + F.size + (i - off - F.size) = i from by omega]
   cases cur[i]? with
   | none => rfl
   | some x => simp only [Option.map_some]; rw [if_neg (by omega)]

def cfC (call : Call) (f : Nat) (cap : List V) (ag : Bool) (x y : List I) : Int := match call f (elV ag x :: elV ag y :: cap) [] with
 | some (.m (.i .i64 c), []) => c
 | _ => 0
theorem ltC_some {call : Call} {f : Nat} {cap : List V} {ag : Bool} {x y : List I} {b : Bool} (h : ltC call f cap ag x y = some b) : call f (elV ag x :: elV ag y :: cap) [] = some (.m (.i .i64 (cfC call f cap ag x y)), []) ∧ b = decide (cfC call f cap ag x y < 0) := by
 unfold ltC at h
 simp only [Option.bind_eq_some_iff] at h
 obtain ⟨⟨v, H'⟩, h1, h2⟩ := h
 unfold cfC
 rw [h1]
 simp only at h2 ⊢
 split at h2
 ·simp only [Option.some.injEq] at h2
  refine ⟨rfl, ?_⟩
  rw [← h2]
  exact ltI_eq _ _
 ·cases h2

theorem immS_get {xs : List (List I)} {es : List (List V)} (h : optMap allM es = some xs) : es = immS xs := by
 induction es generalizing xs with
 | nil =>
  simp only [optMap, Option.some.injEq] at h
  subst h
  rfl
 | cons e es ih =>
  simp only [optMap, Option.bind_eq_some_iff, Option.some.injEq] at h
  obtain ⟨x, hx, l, hl, rfl⟩ := h
  rw [allM_eq hx, ih hl]
  rfl
end Go.Mx

namespace Go.Mx
open Go.Proofs Go.RowKit Go.Sort
variable {P : Program}

theorem cav_snd {w : World} {S : Nat → Prop} {ρ β : Nat → Nat} {H : Hp} {g : V} {cg : Value} {gc : Nat × List V} (h : RepX w S ρ β H g cg) (hg : cavF g = some gc) : gc.1 ≠ yN ∧ ∃ cb : Array Value, cg = .func (.func gc.1) #[] cb ∧ RepL w S ρ H gc.2 cb.toList := by
 cases g with
 | fn f cap =>
  simp only [cavF, Option.some.injEq] at hg
  subst hg
  exact (RepX.toV rfl h).fnL
 | m x =>
  cases x with
  | fn f cap =>
   simp only [cavF, Option.some.injEq] at hg
   subst hg
   cases (RepV.imm (RepX.toV rfl h)) with
   | fn f hny xs cs hl c hc hr => exact ⟨hny, cs, rfl, RepL.ofI hl c hc hr⟩
  | _ => simp [cavF] at hg
 | _ => simp [cavF] at hg

theorem repL_imm {w w' : World} {S : Nat → Prop} {ρ ρ' : Nat → Nat} {H H' : Hp} (hw : ∀ b, S b → w'.heap[b]? = w.heap[b]?) {xs : List I} {cs : List Value} (h : RepL w S ρ H (xs.map .m) cs) : RepL w' S ρ' H' (xs.map .m) cs := by
 obtain ⟨h1, c, h2, h3⟩ := h.toI
 refine ⟨by simpa using h1, fun j x hj => ?_⟩
 rw [List.getElem?_map] at hj
 cases hx : xs[j]? with
 | none => simp [hx] at hj
 | some y =>
  simp only [hx, Option.map_some, Option.some.injEq] at hj
  subst hj
  exact ⟨c j, h2 j y hx, .m ((h3 j y hx).mono hw fun _ h => h)⟩

theorem elV_snd {w : World} {S : Nat → Prop} {ρ β : Nat → Nat} {H : Hp} {ag : Bool} {x : List I} {cs : List Value} (h1 : ag = false → x.length = 1) (h : RepL w S ρ H (x.map .m) cs) : RepX w S ρ β H (elV ag x) (elC ag cs) := by
 cases ag with
 | true => exact RepX.ofV (RepL.toAgI (cs := cs.toArray) (by simpa using h))
 | false =>
  match x, h1 rfl with
  | [a], _ =>
   obtain ⟨c, r, rfl, hc, hr⟩ := RepL.inv_cons (x := V.m a) (xs := []) h
   exact RepX.ofV hc

theorem mids_snd {w : World} {S : Nat → Prop} {ρ : Nat → Nat} {H : Hp} {n : Nat} {z : Fin n → List I} {enc : Fin n → List Value} (h : ∀ i, RepL w S ρ H ((z i).map .m) (enc i)) : ∀ l : List (Fin n), RepL w S ρ H (immS (l.map z)).flatten (l.flatMap enc)
 | [] => .nil
 | i :: l => (h i).append (mids_snd h l)

theorem pdqL_eq {α : Type} {lt : α → α → Option Bool} {xs : List α} (hn : 0 < xs.length) {f : Fin xs.length → Fin xs.length → Bool} (h : ∀ i j : Fin xs.length, lt xs[i] xs[j] = some (f i j)) :
  pdqL lt xs = (pdqF hn f).map fun i => xs[i] := by
 have key : ∀ (n : Nat) (hl : xs.length = n) (hn : 0 < n) (f : Fin n → Fin n → Bool), (∀ i j : Fin n, lt (xs[i.1]'(by omega)) (xs[j.1]'(by omega)) = some (f i j)) → pdqL lt xs = (pdqF hn f).map fun i => xs[i.1]'(by omega) := fun n hl hn f h => by
  unfold pdqL
  split
  ·omega
  ·rename_i m hm
   have : n = m + 1 := by omega
   subst this
   congr 2
   funext i j
   rw [h i j]
 exact key _ rfl hn f h

theorem map_finRange {α : Type} (xs : List α) : (List.finRange xs.length).map (fun i => xs[i]) = xs := by
 apply List.ext_getElem
 ·simp
 ·intro i h1 h2
  simp

theorem laid {w : World} {S : Nat → Prop} {ρ β : Nat → Nat} {B : List (Nat × List V)} {H : Hp} (hok : Ok w S ρ β ⟨B, H⟩) {r ty esz st base : Nat} {es ys : List (List V)} (hrow : H[r]? = some (.cs ty esz es base false)) (hst : st + ys.length ≤ es.length) (hUy : Uni esz ys) {F : Array Value} (hF : RepL w S ρ H ys.flatten F.toList) (m : Nat) (os : Array Obj) :
  RetOk w S ρ β ⟨B, H⟩ (.tu []) (H.set r (.cs ty esz (cpyEl es st ys) es.length false)) (.returned (.tuple #[])) (sw0 w (ρ r) (st * esz) m F os) := by
 obtain ⟨hb0, hpos, hU, _, _, cur, cap', mk, hheap, hwin, hcs, hle, hcm, hrep⟩ := hok.rows r _ hrow
 have hwin := hwin rfl
 have hFs : F.size = ys.length * esz := by
  have := hF.1
  rw [Array.length_toList] at this
  rw [this, hUy.len]
 have hst2 : (st + ys.length) * esz ≤ es.length * esz := Nat.mul_le_mul_right _ hst
 have hcc : es.length * esz ≤ cur.size := by rw [hcs]; exact Nat.mul_le_mul_right _ hle
 have hoF : st * esz + F.size = (st + ys.length) * esz := by rw [hFs, Nat.add_mul]
 have g0 : Gw w (Sort.ahead w m) none := ⟨⟨rfl, rfl, rfl, Nat.le_refl _, fun _ _ _ => rfl⟩, fun _ => Nat.le_add_right _ _⟩
 obtain ⟨o1, s1⟩ := hok.grow g0 (fun _ h => h) (fun b h => .inl h) hok.lt
 have hheap1 : (Sort.ahead w m).heap[ρ r]? = some (.cells cur ty mk) := hheap
 have hes2 : cpyEl es st ys = es.take st ++ ys ++ es.drop (st + ys.length) := rfl
 have hlist := putCells_list (off := st * esz) (F := F) (cur := cur) (by rw [hoF]; omega)
 have hUes : Uni esz (cpyEl es st ys) := by
  rw [hes2]
  intro e he
  simp only [List.mem_append] at he
  rcases he with (he | he) | he
  ·exact hU e (List.mem_of_mem_take he)
  ·exact hUy e he
  ·exact hU e (List.mem_of_mem_drop he)
 have hrep2 : RepL w S ρ H (cpyEl es st ys).flatten ((putCells id (st * esz) F cur).toList.take (es.length * esz)) := by
  have e1 : (cpyEl es st ys).flatten = es.flatten.take (st * esz) ++ ys.flatten ++ es.flatten.drop ((st + ys.length) * esz) := by
   rw [hes2, List.flatten_append, List.flatten_append, flat_take hU, flat_drop hU]
  have e2 : (putCells id (st * esz) F cur).toList.take (es.length * esz) = (cur.toList.take (es.length * esz)).take (st * esz) ++ F.toList ++ (cur.toList.take (es.length * esz)).drop ((st + ys.length) * esz) := by
   rw [hlist, hoF]
   have hso : st * esz ≤ es.length * esz := Nat.mul_le_mul_right _ (by omega)
   have hl1 : (cur.toList.take (st * esz) ++ F.toList).length = (st + ys.length) * esz := by
    rw [← hoF, List.length_append, List.length_take, Array.length_toList, Array.length_toList]
    omega
   rw [List.take_append, hl1, List.take_of_length_le (by rw [hl1]; exact hst2), List.take_take, Nat.min_eq_left hso, List.drop_take]
  rw [e1, e2]
  exact ((hrep.take _).append hF).append (hrep.drop _)
 obtain ⟨o2, s2⟩ := set_snd (M := ⟨B, H⟩) o1 hrow hheap1 hwin hUes (by rw [hes2]; simp; omega) (by simp [putCells]) hcs hle hcm (s1.list hrep2)
 rw [← putRow_set hheap1] at o2 s2
 have g2 : Gw (putRow id (Sort.ahead w m) (ρ r) (st * esz) F) (sw0 w (ρ r) (st * esz) m F os) none := ⟨⟨rfl, rfl, rfl, by unfold sw0; simp, fun b hb _ => by
  unfold sw0 grow
  rw [Array.getElem?_append, if_pos hb]⟩, fun _ => Nat.le_refl _⟩
 obtain ⟨o3, s3⟩ := o2.grow g2 (fun _ h => h) (fun b h => .inl h) (fun b h => Nat.lt_of_lt_of_le (o2.lt b h) g2.size)
 exact ⟨_, S, ρ, rfl, o3, Stp.trans (M1 := { B := B, H := _ }) (Stp.trans (M1 := { B := B, H := H }) s1 (fun d hd => .inl ⟨d, hd, rfl⟩) s2) (fun d hd => .inl ⟨d, hd, rfl⟩) s3, RepL.toTu (cs := #[]) .nil⟩

set_option maxHeartbeats 4000000 in
theorem srt_prim {f k : Nat} {ag : Bool} (hD : drawM = true) (hk : ag = false → k = 1) (hw : SortWalk P f ag k) (hno : SortNone P f) {sh : Nat → Bool} {gl : Nat → Option (List I)} (hen : Enters P f) (hsh : sh f = true) : PrimOk P gl sh f (srtX ag k) where
 shared := hsh
 enters := hen
 ok := by
  intro call vs H v H' hcall he w S ρ β B args hok hG hv
  match vs, he with
  | [s, g], he =>
   obtain ⟨cs, cg, hargs, h1, h2⟩ := hv.inv2
   have ha : args = #[cs, cg] := by
    apply Array.ext'
    rw [hargs]
   subst ha
   simp only [srtX, Option.bind_eq_some_iff] at he
   obtain ⟨gc, hgc, is, his, he⟩ := he
   obtain ⟨hny, cb, rfl, hcb⟩ := cav_snd h2 hgc
   have done : ∀ (p : Option Addr) (cap : Nat), (v = .tu [] ∧ H' = H) → Calls P f #[.slice p 0 cap, .func (.func gc.1) #[] cb] w (RetOk w S ρ β ⟨B, H⟩ v H') := fun p cap e => by
    obtain ⟨rfl, rfl⟩ := e
    refine (hno p cap _ w).mono fun e w' hh => ?_
    obtain ⟨rfl, rfl⟩ := hh
    exact ⟨_, S, ρ, rfl, hok, Stp.refl _ _ _ _ _, RepL.toTu (cs := #[]) .nil⟩
   split at he
   ·simp only [Option.some.injEq, Prod.mk.injEq] at he
    cases (RepV.imm (RepX.toV rfl h1)) with
    | nls => exact done _ _ ⟨he.1.symm, he.2.symm⟩
   ·simp only [Option.some.injEq, Prod.mk.injEq] at he
    cases (RepV.imm (RepX.toV rfl h1)) with
    | sl => exact done _ _ ⟨he.1.symm, he.2.symm⟩
   ·simp only [Option.some.injEq, Prod.mk.injEq] at he
    cases (RepX.toV rfl h1) with
    | ls => exact done _ _ ⟨he.1.symm, he.2.symm⟩
   ·rename_i r ver esz st len lim
    cases (RepX.toV rfl h1) with
    | sl _ _ _ _ _ _ ty es base fz a cap hrow g1 g2 g3 g4 g5 gn gb ga =>
    simp only [Option.bind_eq_some_iff] at he
    obtain ⟨row, hr1, he⟩ := he
    rw [nth_eq, hrow] at hr1
    cases hr1
    simp only [gd_some, Bool.and_eq_true, Bool.not_eq_true', Nat.beq_eq, Nat.ble_eq, Option.bind_eq_some_iff] at he
    obtain ⟨⟨⟨⟨⟨⟨rfl, rfl⟩, _⟩, rfl⟩, hsz⟩, hst⟩, xs, hxs, he⟩ := he
    have hes := immS_get hxs
    have hxl : xs.length = len := by
     have := congrArg List.length hes
     simp only [immS, List.length_map, List.length_take, List.length_drop] at this
     omega
    obtain ⟨hb0, hpos, hU, _, hnS, cur, cap', mk, hheap, hwin, hcs, hle, hcm, hrep⟩ := hok.rows r _ hrow
    have hnS := hnS rfl
    have hwin := hwin rfl
    split at he
    ·simp only [Option.some.injEq, Prod.mk.injEq] at he
     have h0 : len = 0 := by rw [← hxl]; rfl
     subst h0
     exact done _ _ ⟨he.1.symm, he.2.symm⟩
    ·rename_i x0 t0
     generalize hxx : x0 :: t0 = xs at *
     have hlen : 0 < len := by rw [← hxl, ← hxx]; simp
     subst hxl
     simp only [gd_some, Option.bind_eq_some_iff, Option.some.injEq, Prod.mk.injEq] at he
     obtain ⟨hone, ys0, hys, b, hb, ys, hz, H2, hH2, rfl, rfl⟩ := he
     have hP0 := srtO_perm hys
     have hSw : Swo (ltC call gc.1 gc.2 ag) xs := by
      cases b with
      | true => exact (chkO_srt (eqLs_eq (eqX_eq 6)) hb).swo fun x hx => hP0.mem_iff.2 hx
      | false =>
       simp only [Option.bind_eq_some_iff, gd_some] at hz
       obtain ⟨b2, hb2, rfl, _⟩ := hz
       exact swoO_swo hb2
     obtain ⟨hrl, rfl⟩ := setEl_set hH2
     obtain ⟨bb, rfl, hAt⟩ := gb hb0 hlen
     have hbb : bb = ρ r := by
      rcases hAt with e | ⟨_, e, _⟩
      ·exact e
      ·exact absurd rfl e
     subst hbb
     have hget : ∀ i : Fin xs.length, es[st + i.1]? = some ((xs[i]).map .m) := fun i => by
      have : ((es.drop st).take xs.length)[i.1]? = (immS xs)[i.1]? := by rw [hes]
      rw [List.getElem?_take, if_pos i.2, List.getElem?_drop] at this
      rw [this]
      simp [immS]
     have hr0 : ∀ i : Fin xs.length, RepL w S ρ H ((xs[i]).map .m) ((cur.toList.drop ((st + i.1) * esz)).take esz) := fun i => by
      have e := flat_get hU (hget i)
      have h := (hrep.drop ((st + i.1) * esz)).take esz
      rw [← e] at h
      have e2 : ((cur.toList.take (es.length * esz)).drop ((st + i.1) * esz)).take esz = (cur.toList.drop ((st + i.1) * esz)).take esz := by
       rw [List.drop_take, List.take_take, Nat.min_eq_left]
       have : (st + i.1 + 1) * esz ≤ es.length * esz := Nat.mul_le_mul_right _ (by omega)
       rw [Nat.add_mul, Nat.one_mul] at this
       omega
      rw [e2] at h
      exact h
     generalize hen : (fun i : Fin xs.length => (cur.toList.drop ((st + i.1) * esz)).take esz) = enc
     have hr1 : ∀ i, RepL w S ρ H ((xs[i]).map .m) (enc i) := fun i => by rw [← hen]; exact hr0 i
     have hxe : ∀ i : Fin xs.length, (xs[i]).length = esz := fun i => by
      have := hU _ (List.mem_of_getElem? (hget i))
      simpa using this
     have hel : ∀ i, (enc i).length = esz := fun i => by rw [(hr1 i).1, List.length_map, hxe i]
     have hmem : ∀ i : Fin xs.length, xs[i] ∈ xs := fun i => List.getElem_mem i.2
     have hlt : ∀ i j : Fin xs.length, ltC call gc.1 gc.2 ag xs[i] xs[j] = some (ltOf (fun i j : Fin xs.length => cfC call gc.1 gc.2 ag xs[i] xs[j]) i j) := fun i j => by
      obtain ⟨b, hb⟩ := hSw.dec _ (hmem i) _ (hmem j)
      rw [hb, (ltC_some hb).2]
      rfl
     have hO : SWO (ltOf (fun i j : Fin xs.length => cfC call gc.1 gc.2 ag xs[i] xs[j])) := by
      refine ⟨fun i => ?_, fun i j l e1 e2 => ?_, fun i j l e1 e2 => ?_⟩
      ·have := hSw.irr _ (hmem i)
       rw [hlt] at this
       exact Option.some.inj this
      ·have := hSw.tr _ (hmem i) _ (hmem j) _ (hmem l) (by rw [hlt, e1]) (by rw [hlt, e2])
       rw [hlt] at this
       exact Option.some.inj this
      ·have := hSw.ntr _ (hmem i) _ (hmem j) _ (hmem l) (by rw [hlt, e1]) (by rw [hlt, e2])
       rw [hlt] at this
       exact Option.some.inj this
     have hCall : ∀ i j : Fin xs.length, call gc.1 (elV ag xs[i] :: elV ag xs[j] :: gc.2) [] = some (.m (.i .i64 (cfC call gc.1 gc.2 ag xs[i] xs[j])), []) := fun i j => (ltC_some (hlt i j)).1
     have hpf := pdqF_srt hlen hO
     have hdz : (pdqF hlen (ltOf (fun i j : Fin xs.length => cfC call gc.1 gc.2 ag xs[i] xs[j]))).map (fun i => xs[i]) = ys := by
      cases b with
      | false =>
       simp only [Option.bind_eq_some_iff, gd_some, Option.some.injEq] at hz
       obtain ⟨b2, _, _, rfl⟩ := hz
       exact (pdqL_eq hlen hlt).symm
      | true =>
       simp only [Option.some.injEq] at hz
       subst hz
       have hS := chkO_srt (eqLs_eq (eqX_eq 6)) hb
       refine hS.uniq ?_ ?_
       ·refine ((hpf.1.map fun i : Fin xs.length => xs[i]).trans ?_).trans hP0.symm
        rw [map_finRange]
       ·rw [List.pairwise_map]
        refine hpf.2.imp fun {i j} hij => ?_
        rw [hlt]
        simpa [ltOf] using hij
     have hP : ys.Perm xs := by
      rw [← hdz]
      refine (hpf.1.map fun i : Fin xs.length => xs[i]).trans ?_
      rw [map_finRange]
     have hEn : Enters P gc.1 := ((hcall _ _ _ _ _ (hCall ⟨0, hlen⟩ ⟨0, hlen⟩)).1 hny).1
     have hx1 : ∀ i : Fin xs.length, ag = false → (xs[i]).length = 1 := fun i e => by rw [hxe i]; exact hk e
     have hSb : ∀ b, S b → b ≠ ρ r := fun b hb e => hnS (e ▸ hb)
     have hst2 : (st + xs.length) * esz ≤ es.length * esz := Nat.mul_le_mul_right _ hst
     have hcc : es.length * esz ≤ cur.size := by rw [hcs]; exact Nat.mul_le_mul_right _ hle
     rw [allM_eq his] at hcb
     refine (hw xs.length hlen enc _ gc.1 cb (ρ r) (st * esz) cap w hel (fun i v hv => ?_) hO hEn (fun m os F hF i j => ?_) (fun i j v hv => ?_) (hok.rlt hrl) (by omega)).mono fun e w' hh => ?_
     ·have hall : ((xs[i]).map V.m).all oneV = true := List.all_eq_true.1 hone _ (by simp only [immS, List.mem_map]; exact ⟨_, List.getElem_mem i.2, rfl⟩)
      exact oneVs_cells hall (hr1 i) v hv
     ·obtain ⟨hs1, hs2⟩ := heap_sw0 (w := w) (blk := ρ r) (off := st * esz) (m := m) (F := F) (os := os)
      have hsame : ∀ b, S b → (sw0 w (ρ r) (st * esz) m F os).heap[b]? = w.heap[b]? := fun b hb => hs2 b (hok.lt b hb) (hSb b hb)
      have hargs2 : All2 (RepX (sw0 w (ρ r) (st * esz) m F os) S ρ β []) (elV ag xs[i] :: elV ag xs[j] :: gc.2) (#[elC ag (enc i), elC ag (enc j)] ++ cb).toList := by
       rw [Array.toList_append]
       refine .cons (elV_snd (hx1 i) (repL_imm hsame (hr1 i))) (.cons (elV_snd (hx1 j) (repL_imm hsame (hr1 j))) ?_)
       rw [allM_eq his]
       exact RepL.toAll2 (repL_imm hsame hcb)
      refine (((hcall _ _ _ _ _ (hCall i j)).1 hny).2 _ S ρ β [] _ ⟨fun r row h => by simp at h, fun d cs h => by simp [getB] at h, fun r r' h => by simp at h, fun d d' h => by simp [getB] at h, fun r d h => by simp at h, fun d h => by simp [getB] at h, fun b hb => Nat.lt_of_lt_of_le (hok.lt b hb) hs1⟩ (fun g cs hg => (hG g cs hg).mono hsame fun _ h => h) hargs2).mono fun e w' hh => ?_
      obtain ⟨c, S', ρ', rfl, _, hstp, hrv⟩ := hh
      cases hrv.imm with
      | i => exact ⟨rfl, stp_grow hD hstp⟩
     ·have hj : j < esz := by rw [← hel i]; exact (List.getElem?_eq_some_iff.1 hv).1
      rw [← hen] at hv
      simp only [List.getElem?_take, if_pos hj, List.getElem?_drop] at hv
      have e : st * esz + (i.1 * esz + j) = (st + i.1) * esz + j := by rw [Nat.add_mul]; omega
      have hlt2 : (st + i.1) * esz + j < cur.size := by
       have := (List.getElem?_eq_some_iff.1 hv).1
       simpa using this
      rw [e]
      refine ⟨?_, win_frozen hheap hwin hlt2⟩
      rw [Array.getElem?_toList] at hv
      simp only [World.cell?, hheap]
      exact hv
     ·obtain ⟨rfl, m, os, F, hF, rfl⟩ := hh
      have hmid := mids_snd hr1 (pdqF hlen (ltOf (fun i j : Fin xs.length => cfC call gc.1 gc.2 ag xs[i] xs[j])))
      rw [hdz, ← hF] at hmid
      have hyl : ys.length = xs.length := hP.length_eq
      have hUy : Uni esz (immS ys) := fun e he => by
       simp only [immS, List.mem_map] at he
       obtain ⟨y, hy, rfl⟩ := he
       obtain ⟨i, hi, rfl⟩ := List.getElem_of_mem (hP.mem_iff.1 hy)
       rw [List.length_map]
       exact hxe ⟨i, hi⟩
      exact laid hok hrow (by simpa [immS, hyl] using hst) hUy hmid m os
   ·cases he
end Go.Mx

/- More fuel gives the same. -/
namespace Go.Mx
theorem insO_mono {α : Type} {lt lt' : α → α → Option Bool} (h : ∀ x y b, lt x y = some b → lt' x y = some b) {x : α} : ∀ {l ys : List α}, insO lt x l = some ys → insO lt' x l = some ys
 | [], ys, e => e
 | y :: r, ys, e => by
  simp only [insO, Option.bind_eq_some_iff] at e ⊢
  obtain ⟨b, hb, e⟩ := e
  refine ⟨b, h _ _ _ hb, ?_⟩
  cases b with
  | true => exact e
  | false =>
   simp only [Option.bind_eq_some_iff] at e ⊢
   obtain ⟨l, hl, e⟩ := e
   exact ⟨l, insO_mono h hl, e⟩
theorem srtO_mono {α : Type} {lt lt' : α → α → Option Bool} (h : ∀ x y b, lt x y = some b → lt' x y = some b) : ∀ {l ys : List α}, srtO lt l = some ys → srtO lt' l = some ys
 | [], ys, e => e
 | x :: r, ys, e => by
  simp only [srtO, Option.bind_eq_some_iff] at e ⊢
  obtain ⟨l, hl, e⟩ := e
  exact ⟨l, srtO_mono h hl, insO_mono h e⟩
theorem ordO_mono {α : Type} {lt lt' : α → α → Option Bool} {eq : α → α → Bool} (h : ∀ x y b, lt x y = some b → lt' x y = some b) {x y : α} {b : Bool} (e : ordO lt eq x y = some b) : ordO lt' eq x y = some b := by
 simp only [ordO, Option.bind_eq_some_iff] at e ⊢
 obtain ⟨a, ha, c, hc, e⟩ := e
 exact ⟨a, h _ _ _ ha, c, h _ _ _ hc, e⟩
theorem allO_mono {α : Type} {p q : α → Option Bool} (h : ∀ y b, p y = some b → q y = some b) : ∀ {l : List α} {b : Bool}, allO p l = some b → allO q l = some b
 | [], b, e => e
 | y :: r, b, e => by
  simp only [allO, Option.bind_eq_some_iff] at e ⊢
  obtain ⟨a, ha, e⟩ := e
  refine ⟨a, h _ _ ha, ?_⟩
  cases a with
  | true => exact allO_mono h e
  | false => exact e
theorem chkO_mono {α : Type} {lt lt' : α → α → Option Bool} {eq : α → α → Bool} (h : ∀ x y b, lt x y = some b → lt' x y = some b) : ∀ {l : List α} {b : Bool}, chkO lt eq l = some b → chkO lt' eq l = some b
 | [], b, e => e
 | x :: r, b, e => by
  simp only [chkO, Option.bind_eq_some_iff] at e ⊢
  obtain ⟨a, ha, e⟩ := e
  refine ⟨a, h _ _ _ ha, ?_⟩
  cases a with
  | true => exact e
  | false =>
   simp only [Option.bind_eq_some_iff] at e ⊢
   obtain ⟨c, hc, e⟩ := e
   refine ⟨c, allO_mono (fun y b => ordO_mono h) hc, ?_⟩
   cases c with
   | true => exact chkO_mono h e
   | false => exact e
theorem triO_mono {α : Type} {lt lt' : α → α → Option Bool} (h : ∀ x y b, lt x y = some b → lt' x y = some b) {x y z : α} {b : Bool} (e : triO lt x y z = some b) : triO lt' x y z = some b := by
 simp only [triO, Option.bind_eq_some_iff] at e ⊢
 obtain ⟨r, h1, a, h2, c, h3, d, h4, e⟩ := e
 exact ⟨r, h _ _ _ h1, a, h _ _ _ h2, c, h _ _ _ h3, d, h _ _ _ h4, e⟩
theorem swoO_mono {α : Type} {lt lt' : α → α → Option Bool} (h : ∀ x y b, lt x y = some b → lt' x y = some b) {l : List α} {b : Bool} (e : swoO lt l = some b) : swoO lt' l = some b :=
 allO_mono (fun _ _ => allO_mono fun _ _ => allO_mono fun _ _ => triO_mono h) e
theorem pdqL_mono {α : Type} {lt lt' : α → α → Option Bool} (h : ∀ x y b, lt x y = some b → lt' x y = some b) {l : List α} (e : swoO lt l = some true) : pdqL lt' l = pdqL lt l := by
 have hw := swoO_swo e
 unfold pdqL
 split
 ·rfl
 ·congr 2
  funext i j
  obtain ⟨b, hb⟩ := hw.dec (l[i.1]'(by omega)) (List.getElem_mem _) (l[j.1]'(by omega)) (List.getElem_mem _)
  rw [hb, h _ _ _ hb]
theorem ltC_mono {c d : Call} (h : LeC c d) {f : Nat} {cap : List V} {ag : Bool} (x y : List I) (b : Bool) (e : ltC c f cap ag x y = some b) : ltC d f cap ag x y = some b := by
 simp only [ltC, Option.bind_eq_some_iff] at e ⊢
 obtain ⟨p, hp, e⟩ := e
 exact ⟨p, h _ _ _ _ hp, e⟩
theorem srtX_mono {ag : Bool} {k : Nat} {c d : Call} (h : LeC c d) {vs : List V} {H : Hp} {r : V × Hp} (e : srtX ag k c vs H = some r) : srtX ag k d vs H = some r := by
 unfold srtX at e ⊢
 split at e
 ·refine bind_mono (fun _ h => h) (fun gc r e => bind_mono (fun _ h => h) (fun _ r e => ?_) e) e
  split at e
  ·exact e
  ·exact e
  ·exact e
  ·refine bind_mono (fun _ h => h) (fun row r e => ?_) e
   split at e
   ·simp only [gd_some] at e ⊢
    refine ⟨e.1, bind_mono (fun _ h => h) (fun xs r e => ?_) e.2⟩
    split at e
    ·exact e
    ·simp only [gd_some] at e ⊢
     refine ⟨e.1, bind_mono (fun _ => srtO_mono (ltC_mono h)) (fun ys r e => bind_mono (fun _ => chkO_mono (ltC_mono h)) (fun b r e => bind_mono (fun zs hz => ?_) (fun _ _ h => h) e) e) e.2⟩
     cases b with
     | true => exact hz
     | false =>
      simp only [Option.bind_eq_some_iff, gd_some] at hz ⊢
      obtain ⟨b2, hb2, rfl, hz⟩ := hz
      exact ⟨true, swoO_mono (ltC_mono h) hb2, rfl, by rw [pdqL_mono (ltC_mono h) hb2]; exact hz⟩
   ·cases e
  ·cases e
 ·cases e
end Go.Mx
