/- What the abstract machine's values stand for in a world: RepI (immutable values over stable blocks), RepV (values with references), Ok (the rows and private boxes as they lie in the heap), Stp (what a step leaves as it was). -/
import Derived.Test.YtaomjcmiaiokcaaDoorFlat
import Derived.Calls
import Derived.Laws.AppendOwn
import Derived.Below
namespace Go.Mx

/-- Immutable values as they lie over stable blocks. -/
inductive RepI (w : World) (S : Nat → Prop) : I → Value → Prop where
  | b (x : Bool) : RepI w S (.b x) (.bool x)
  | i (k : IntKind) (n : Int) : RepI w S (.i k n) (.int k n)
  | s (x : ByteArray) (l : List Nat) (h : x.data.toList.map UInt8.toNat = l) : RepI w S (.s l) (.string x)
  | nlp : RepI w S (.nl 0) (.pointer none)
  | nlm : RepI w S (.nl 1) (.map none)
  | nlf : RepI w S (.nl 2) .nilFunc
  | nli : RepI w S (.nl 3) .nilIface
  | nls : RepI w S (.nl 4) (.slice none 0 0)
  | er (t : TypeId) (v : Value) : RepI w S .er (.iface t v)
  | sl (es : List (List I)) (a : Option Addr) (cap esz b off : Nat) (cs : Nat → Nat → Value)
      (hcap : es.length ≤ cap) (hm : cap ≤ maxLen) (hsz : ∀ e, e ∈ es → e.length = esz)
      (ha : es ≠ [] → a = some ⟨b, off, none⟩ ∧ S b)
      (hc : ∀ i e j x, es[i]? = some e → e[j]? = some x → w.cell? ⟨b, off + (i * esz + j), none⟩ = some (cs i j))
      (hr : ∀ i e j x, es[i]? = some e → e[j]? = some x → RepI w S x (cs i j)) : RepI w S (.sl es) (.slice a es.length cap)
  | pt (xs : List I) (b off : Nat) (cs : Nat → Value) (hS : S b)
      (hc : ∀ (j : Nat) x, xs[j]? = some x → w.cell? ⟨b, off + j, none⟩ = some (cs j))
      (hr : ∀ (j : Nat) x, xs[j]? = some x → RepI w S x (cs j)) : RepI w S (.pt xs) (.pointer (some ⟨b, off, none⟩))
  | ag (xs : List I) (cs : Array Value) (hl : cs.size = xs.length) (c : Nat → Value)
      (hc : ∀ (j : Nat) x, xs[j]? = some x → cs[j]? = some (c j)) (hr : ∀ (j : Nat) x, xs[j]? = some x → RepI w S x (c j)) : RepI w S (.ag xs) (.agg cs)
  | mp (es : List (List I)) (r : Nat) (ents : Array MapEntry) (clock : Nat) (ks xs : Nat → Value) (hS : S r) (hw : w.heap[r]? = some (.map ents clock)) (hl : ents.size = es.length)
      (hp : ∀ (j : Nat) e, es[j]? = some e → ∃ k x, e = [k, x])
      (hk : ∀ (j : Nat) k x, es[j]? = some [k, x] → (ents[j]?).map (·.key) = some (ks j)) (hx : ∀ (j : Nat) k x, es[j]? = some [k, x] → (ents[j]?).map (·.val) = some (xs j))
      (hkr : ∀ (j : Nat) k x, es[j]? = some [k, x] → RepI w S k (ks j)) (hxr : ∀ (j : Nat) k x, es[j]? = some [k, x] → RepI w S x (xs j)) : RepI w S (.mp es) (.map (some r))
  | fn (f : Nat) (xs : List I) (cs : Array Value) (hl : cs.size = xs.length) (c : Nat → Value)
      (hc : ∀ (j : Nat) x, xs[j]? = some x → cs[j]? = some (c j)) (hr : ∀ (j : Nat) x, xs[j]? = some x → RepI w S x (c j)) : RepI w S (.fn f xs) (.func (.func f) #[] cs)

theorem RepI.mono {w w' : World} {S S' : Nat → Prop} (hw : ∀ b, S b → w'.heap[b]? = w.heap[b]?) (hS : ∀ b, S b → S' b) {x : I} {c : Value} (h : RepI w S x c) : RepI w' S' x c := by
  have hcell : ∀ b o, S b → w'.cell? ⟨b, o, none⟩ = w.cell? ⟨b, o, none⟩ := fun b o h => World.cell?_of_block (hw b h)
  induction h with
  | b x => exact .b x
  | i k n => exact .i k n
  | s x l h => exact .s x l h
  | nlp => exact .nlp
  | nlm => exact .nlm
  | nlf => exact .nlf
  | nli => exact .nli
  | nls => exact .nls
  | er t v => exact .er t v
  | sl es a cap esz b off cs hcap hm hsz ha hc hr ih =>
    refine .sl es a cap esz b off cs hcap hm hsz (fun hne => ⟨(ha hne).1, hS _ (ha hne).2⟩) (fun i e j x hi hj => ?_) ih
    rw [hcell _ _ (ha (by rintro rfl; simp at hi)).2]
    exact hc i e j x hi hj
  | pt xs b off cs hSb hc hr ih => exact .pt xs b off cs (hS _ hSb) (fun j x hj => by rw [hcell _ _ hSb]; exact hc j x hj) ih
  | ag xs cs hl c hc hr ih => exact .ag xs cs hl c hc ih
  | mp es r ents clock ks xs hSr hwr hl hp hk hx hkr hxr ihk ihx => exact .mp es r ents clock ks xs (hS _ hSr) (by rw [hw _ hSr]; exact hwr) hl hp hk hx ihk ihx
  | fn f xs cs hl c hc hr ih => exact .fn f xs cs hl c hc ih

theorem nth_eq {α : Type} : ∀ (l : List α) (n : Nat), nth l n = l[n]?
  | [], n => by simp [nth]
  | x :: l, 0 => rfl
  | x :: l, n + 1 => by simp [nth, nth_eq l n]

theorem gd_some {α : Type} {b : Bool} {x : Option α} {y : α} : gd b x = some y ↔ b = true ∧ x = some y := by cases b <;> simp [gd]

/-- Where the cells of a row are read by a value of version ver: in the row's block, or in an elder, stable block that holds the same. -/
def At (w : World) (S : Nat → Prop) (g : Nat) (b ver esz n : Nat) : Prop :=
  b = g ∨ (S b ∧ ver ≠ n ∧ ∀ j, j < ver * esz → w.cell? ⟨b, j, none⟩ = w.cell? ⟨g, j, none⟩)

/-- Values with references. -/
inductive RepV (w : World) (S : Nat → Prop) (ρ : Nat → Nat) (H : Hp) : V → Value → Prop where
  | m {x : I} {c : Value} (h : RepI w S x c) : RepV w S ρ H (.m x) c
  | un : RepV w S ρ H .un undef
  | ls (es : List (List I)) (a : Option Addr) (h : RepI w S (.sl es) (.slice a es.length es.length)) : RepV w S ρ H (.ls es) (.slice a es.length es.length)
  | sl (r ver esz st len : Nat) (lim : Bool) (ty : Nat) (es : List (List V)) (base : Nat) (fz : Bool) (a : Option Addr) (cap : Nat)
      (hrow : H[r]? = some (.cs ty esz es base fz)) (h1 : st + len ≤ ver) (h2 : ver ≤ es.length) (h3 : len ≤ cap) (h4 : cap ≤ maxLen) (h5 : lim = true → cap = len) (hn : 0 < len → ∃ p, a = some p)
      (hb : base ≤ ver → 0 < len → ∃ b, a = some ⟨b, st * esz, none⟩ ∧ At w S (ρ r) b ver esz es.length)
      (ha : ver = es.length → st = 0 → lim = false → len = es.length → a = some ⟨ρ r, 0, none⟩ ∧ ∃ cur mk, w.heap[ρ r]? = some (.cells cur ty mk) ∧ cur.size = cap * esz) :
      RepV w S ρ H (.sl r ver esz st len lim) (.slice a len cap)
  | pt (r ver ix off : Nat) (ty esz : Nat) (es : List (List V)) (base : Nat) (fz : Bool) (p : Addr)
      (hrow : H[r]? = some (.cs ty esz es base fz)) (h2 : ver ≤ es.length) (hx : ix < ver)
      (hb : base ≤ ver → ∃ b, p = ⟨b, ix * esz + off, none⟩ ∧ At w S (ρ r) b ver esz es.length) : RepV w S ρ H (.pt r ver ix off) (.pointer (some p))
  | mp (r : Nat) (es : List (I × V)) (fz : Bool) (hrow : H[r]? = some (.mp es fz)) : RepV w S ρ H (.mp r) (.map (some (ρ r)))
  | fn (f : Nat) (xs : List V) (cs : Array Value) (hl : cs.size = xs.length) (c : Nat → Value)
      (hc : ∀ (j : Nat) x, xs[j]? = some x → cs[j]? = some (c j)) (hr : ∀ (j : Nat) x, xs[j]? = some x → RepV w S ρ H x (c j)) : RepV w S ρ H (.fn f xs) (.func (.func f) #[] cs)
  | ag (xs : List V) (cs : Array Value) (hl : cs.size = xs.length) (c : Nat → Value)
      (hc : ∀ (j : Nat) x, xs[j]? = some x → cs[j]? = some (c j)) (hr : ∀ (j : Nat) x, xs[j]? = some x → RepV w S ρ H x (c j)) : RepV w S ρ H (.ag xs) (.agg cs)
  | tu (xs : List V) (cs : Array Value) (hl : cs.size = xs.length) (c : Nat → Value)
      (hc : ∀ (j : Nat) x, xs[j]? = some x → cs[j]? = some (c j)) (hr : ∀ (j : Nat) x, xs[j]? = some x → RepV w S ρ H x (c j)) : RepV w S ρ H (.tu xs) (.tuple cs)

/-- Lists of values, cell by cell. -/
def RepL (w : World) (S : Nat → Prop) (ρ : Nat → Nat) (H : Hp) (xs : List V) (cs : List Value) : Prop :=
  cs.length = xs.length ∧ ∀ (j : Nat) x, xs[j]? = some x → ∃ c, cs[j]? = some c ∧ RepV w S ρ H x c

section
variable {w : World} {S : Nat → Prop} {ρ : Nat → Nat} {H : Hp}

theorem RepL.nil : RepL w S ρ H [] [] := ⟨rfl, by simp⟩
theorem RepL.cons {x : V} {c : Value} {xs : List V} {cs : List Value} (h : RepV w S ρ H x c) (hs : RepL w S ρ H xs cs) : RepL w S ρ H (x :: xs) (c :: cs) := by
  refine ⟨by simp [hs.1], fun j y hj => ?_⟩
  cases j with
  | zero => simp at hj; subst hj; exact ⟨c, by simp, h⟩
  | succ j => simpa using hs.2 j y (by simpa using hj)
theorem RepL.head {x : V} {c : Value} {xs : List V} {cs : List Value} (h : RepL w S ρ H (x :: xs) (c :: cs)) : RepV w S ρ H x c := by
  obtain ⟨c', hc, hr⟩ := h.2 0 x (by simp)
  simp at hc
  exact hc ▸ hr
theorem RepL.tail {x : V} {c : Value} {xs : List V} {cs : List Value} (h : RepL w S ρ H (x :: xs) (c :: cs)) : RepL w S ρ H xs cs :=
  ⟨by simpa using h.1, fun j y hj => by simpa using h.2 (j + 1) y (by simpa using hj)⟩
theorem RepL.inv_nil {cs : List Value} (h : RepL w S ρ H [] cs) : cs = [] := List.eq_nil_of_length_eq_zero (by simpa using h.1)
theorem RepL.inv_cons {x : V} {xs : List V} {cs : List Value} (h : RepL w S ρ H (x :: xs) cs) : ∃ c r, cs = c :: r ∧ RepV w S ρ H x c ∧ RepL w S ρ H xs r := by
  cases cs with
  | nil => have := h.1; simp at this
  | cons c r => exact ⟨c, r, rfl, h.head, h.tail⟩
theorem RepL.append {xs ys : List V} {cs ds : List Value} (h : RepL w S ρ H xs cs) (k : RepL w S ρ H ys ds) : RepL w S ρ H (xs ++ ys) (cs ++ ds) := by
  induction xs generalizing cs with
  | nil => rw [h.inv_nil]; exact k
  | cons x xs ih => obtain ⟨c, r, rfl, hx, hr⟩ := h.inv_cons; exact .cons hx (ih hr)
theorem RepL.take {xs : List V} {cs : List Value} (h : RepL w S ρ H xs cs) (n : Nat) : RepL w S ρ H (xs.take n) (cs.take n) := by
  induction xs generalizing cs n with
  | nil => rw [h.inv_nil]; simpa using RepL.nil
  | cons x xs ih =>
    obtain ⟨c, r, rfl, hx, hr⟩ := h.inv_cons
    cases n with
    | zero => simpa using RepL.nil
    | succ n => exact .cons hx (ih hr n)
theorem RepL.drop {xs : List V} {cs : List Value} (h : RepL w S ρ H xs cs) (n : Nat) : RepL w S ρ H (xs.drop n) (cs.drop n) := by
  induction xs generalizing cs n with
  | nil => rw [h.inv_nil]; simpa using RepL.nil
  | cons x xs ih =>
    obtain ⟨c, r, rfl, hx, hr⟩ := h.inv_cons
    cases n with
    | zero => simpa using h
    | succ n => simpa using ih hr n
theorem RepL.of_skolem {xs : List V} {cs : Array Value} (hl : cs.size = xs.length) (c : Nat → Value)
    (hc : ∀ (j : Nat) x, xs[j]? = some x → cs[j]? = some (c j)) (hr : ∀ (j : Nat) x, xs[j]? = some x → RepV w S ρ H x (c j)) : RepL w S ρ H xs cs.toList :=
  ⟨by simpa using hl, fun j x hj => ⟨c j, by simpa using hc j x hj, hr j x hj⟩⟩
theorem RepL.skolem {xs : List V} {cs : List Value} (h : RepL w S ρ H xs cs) : ∃ c : Nat → Value, (∀ (j : Nat) x, xs[j]? = some x → cs[j]? = some (c j)) ∧ (∀ (j : Nat) x, xs[j]? = some x → RepV w S ρ H x (c j)) := by
  refine ⟨fun j => cs.getD j undef, fun j x hj => ?_, fun j x hj => ?_⟩
  · obtain ⟨c, hc, _⟩ := h.2 j x hj
    simp [hc]
  · obtain ⟨c, hc, hr⟩ := h.2 j x hj
    simpa [hc] using hr
theorem RepL.toAg {xs : List V} {cs : Array Value} (h : RepL w S ρ H xs cs.toList) : RepV w S ρ H (.ag xs) (.agg cs) := by
  obtain ⟨c, hc, hr⟩ := h.skolem
  exact .ag xs cs (by simpa using h.1) c (fun j x hj => by simpa using hc j x hj) hr
theorem RepL.toTu {xs : List V} {cs : Array Value} (h : RepL w S ρ H xs cs.toList) : RepV w S ρ H (.tu xs) (.tuple cs) := by
  obtain ⟨c, hc, hr⟩ := h.skolem
  exact .tu xs cs (by simpa using h.1) c (fun j x hj => by simpa using hc j x hj) hr
theorem RepL.toFn {f : Nat} {xs : List V} {cs : Array Value} (h : RepL w S ρ H xs cs.toList) : RepV w S ρ H (.fn f xs) (.func (.func f) #[] cs) := by
  obtain ⟨c, hc, hr⟩ := h.skolem
  exact .fn f xs cs (by simpa using h.1) c (fun j x hj => by simpa using hc j x hj) hr
theorem RepV.agL {xs : List V} {c : Value} (h : RepV w S ρ H (.ag xs) c) : ∃ cs, c = .agg cs ∧ RepL w S ρ H xs cs.toList := by
  cases h with
  | ag xs cs hl c hc hr => exact ⟨cs, rfl, .of_skolem hl c hc hr⟩
theorem RepV.tuL {xs : List V} {c : Value} (h : RepV w S ρ H (.tu xs) c) : ∃ cs, c = .tuple cs ∧ RepL w S ρ H xs cs.toList := by
  cases h with
  | tu xs cs hl c hc hr => exact ⟨cs, rfl, .of_skolem hl c hc hr⟩
theorem RepV.fnL {f : Nat} {xs : List V} {c : Value} (h : RepV w S ρ H (.fn f xs) c) : ∃ cs, c = .func (.func f) #[] cs ∧ RepL w S ρ H xs cs.toList := by
  cases h with
  | fn f xs cs hl c hc hr => exact ⟨cs, rfl, .of_skolem hl c hc hr⟩
theorem RepV.imm {x : I} {c : Value} (h : RepV w S ρ H (.m x) c) : RepI w S x c := by cases h; assumption
theorem RepL.ofI {xs : List I} {cs : Array Value} (hl : cs.size = xs.length) (c : Nat → Value)
    (hc : ∀ (j : Nat) x, xs[j]? = some x → cs[j]? = some (c j)) (hr : ∀ (j : Nat) x, xs[j]? = some x → RepI w S x (c j)) : RepL w S ρ H (xs.map .m) cs.toList := by
  refine ⟨by simpa using hl, fun j x hj => ?_⟩
  rw [List.getElem?_map] at hj
  cases hx : xs[j]? with
  | none => simp [hx] at hj
  | some y =>
    simp only [hx, Option.map_some, Option.some.injEq] at hj
    subst hj
    exact ⟨c j, by simpa using hc j y hx, .m (hr j y hx)⟩
theorem RepL.toI {xs : List I} {cs : List Value} (h : RepL w S ρ H (xs.map .m) cs) : cs.length = xs.length ∧ ∃ c : Nat → Value, (∀ (j : Nat) x, xs[j]? = some x → cs[j]? = some (c j)) ∧ ∀ (j : Nat) x, xs[j]? = some x → RepI w S x (c j) := by
  obtain ⟨c, hc, hr⟩ := h.skolem
  refine ⟨by simpa using h.1, c, fun j x hj => hc j (.m x) (by simp [hj]), fun j x hj => (hr j (.m x) (by simp [hj])).imm⟩
theorem RepV.ofAgI {xs : List I} {c : Value} (h : RepV w S ρ H (.m (.ag xs)) c) : ∃ cs, c = .agg cs ∧ RepL w S ρ H (xs.map .m) cs.toList := by
  cases h.imm with
  | ag xs cs hl c hc hr => exact ⟨cs, rfl, .ofI hl c hc hr⟩
theorem RepL.toAgI {xs : List I} {cs : Array Value} (h : RepL w S ρ H (xs.map .m) cs.toList) : RepV w S ρ H (.m (.ag xs)) (.agg cs) := by
  obtain ⟨hl, c, hc, hr⟩ := h.toI
  exact .m (.ag xs cs (by simpa using hl) c (fun j x hj => by simpa using hc j x hj) hr)
theorem allM_eq : ∀ {xs : List V} {l : List I}, allM xs = some l → xs = l.map .m
  | [], l, h => by simp [allM] at h; simp [h]
  | .m x :: xs, l, h => by
    simp only [allM, Option.bind_eq_some_iff, Option.some.injEq] at h
    obtain ⟨l', h', rfl⟩ := h
    simp [allM_eq h']
  | .un :: _, _, h => by simp [allM] at h
  | .ls _ :: _, _, h => by simp [allM] at h
  | .sl .. :: _, _, h => by simp [allM] at h
  | .pt .. :: _, _, h => by simp [allM] at h
  | .fa .. :: _, _, h => by simp [allM] at h
  | .mp _ :: _, _, h => by simp [allM] at h
  | .fn .. :: _, _, h => by simp [allM] at h
  | .ag _ :: _, _, h => by simp [allM] at h
  | .tu _ :: _, _, h => by simp [allM] at h
theorem RepL.mkAg {xs : List V} {cs : Array Value} (h : RepL w S ρ H xs cs.toList) : RepV w S ρ H (mkAg xs) (.agg cs) := by
  unfold Mx.mkAg
  cases hx : allM xs with
  | none => exact h.toAg
  | some l => rw [allM_eq hx] at h; exact h.toAgI
theorem RepV.cells {v : V} {c : Value} {l : List V} (h : RepV w S ρ H v c) (hl : cellsV v = some l) : RepL w S ρ H l c.cells.toList := by
  have one : ∀ {v : V} {c : Value}, RepV w S ρ H v c → c.cells = #[c] → RepL w S ρ H [v] c.cells.toList := fun h e => by rw [e]; exact .cons h .nil
  cases h with
  | m hI => cases hI with
    | ag xs cs hl' c hc hr => simp [cellsV] at hl; subst hl; exact RepL.ofI hl' c hc hr
    | b x => simp [cellsV] at hl; subst hl; exact one (.m (.b x)) rfl
    | i k n => simp [cellsV] at hl; subst hl; exact one (.m (.i k n)) rfl
    | s x l' h => simp [cellsV] at hl; subst hl; exact one (.m (.s x l' h)) rfl
    | nlp => simp [cellsV] at hl; subst hl; exact one (.m .nlp) rfl
    | nlm => simp [cellsV] at hl; subst hl; exact one (.m .nlm) rfl
    | nlf => simp [cellsV] at hl; subst hl; exact one (.m .nlf) rfl
    | nli => simp [cellsV] at hl; subst hl; exact one (.m .nli) rfl
    | nls => simp [cellsV] at hl; subst hl; exact one (.m .nls) rfl
    | er t v => simp [cellsV] at hl; subst hl; exact one (.m (.er t v)) rfl
    | sl es a cap esz b off cs hcap hm hsz ha hc hr => simp [cellsV] at hl; subst hl; exact one (.m (.sl es a cap esz b off cs hcap hm hsz ha hc hr)) rfl
    | pt xs b off cs hS hc hr => simp [cellsV] at hl; subst hl; exact one (.m (.pt xs b off cs hS hc hr)) rfl
    | mp es r ents clock ks xs hS hw hl' hp hk hx hkr hxr => simp [cellsV] at hl; subst hl; exact one (.m (.mp es r ents clock ks xs hS hw hl' hp hk hx hkr hxr)) rfl
    | fn f xs cs hl' c hc hr => simp [cellsV] at hl; subst hl; exact one (.m (.fn f xs cs hl' c hc hr)) rfl
  | un => simp [cellsV] at hl
  | ls es a h => simp [cellsV] at hl; subst hl; exact one (.ls es a h) rfl
  | sl r ver esz st len lim ty es base fz a cap hrow h1 h2 h3 h4 h5 hn hb ha => simp [cellsV] at hl; subst hl; exact one (.sl r ver esz st len lim ty es base fz a cap hrow h1 h2 h3 h4 h5 hn hb ha) rfl
  | pt r ver ix off ty esz es base fz p hrow h2 hx hb => simp [cellsV] at hl; subst hl; exact one (.pt r ver ix off ty esz es base fz p hrow h2 hx hb) rfl
  | mp r es fz hrow => simp [cellsV] at hl; subst hl; exact one (.mp r es fz hrow) rfl
  | fn f xs cs hl' c hc hr => simp [cellsV] at hl; subst hl; exact one (.fn f xs cs hl' c hc hr) rfl
  | ag xs cs hl' c hc hr => simp [cellsV] at hl; subst hl; exact RepL.of_skolem hl' c hc hr
  | tu xs cs hl' c hc hr => simp [cellsV] at hl

/-- A row as it lies in the heap. -/
def RowOk (w : World) (S : Nat → Prop) (ρ : Nat → Nat) (H : Hp) (r : Nat) : Row → Prop
  | .cs ty esz es base fz => base ≤ es.length ∧ 0 < esz ∧ (∀ e, e ∈ es → e.length = esz) ∧ (fz = true → S (ρ r)) ∧ (fz = false → ¬ S (ρ r)) ∧
      ∃ cur cap mk, w.heap[ρ r]? = some (.cells cur ty mk) ∧ (fz = false → mk = (0, 0)) ∧ cur.size = cap * esz ∧ es.length ≤ cap ∧ cap ≤ maxLen ∧
        RepL w S ρ H es.flatten (cur.toList.take (es.length * esz))
  | .mp es fz => (fz = true → S (ρ r)) ∧ (fz = false → ¬ S (ρ r)) ∧ ∃ ents clock, w.heap[ρ r]? = some (.map ents clock) ∧ ents.size = es.length ∧
        ∀ (j : Nat) k x, es[j]? = some (k, x) → ∃ ent, ents[j]? = some ent ∧ RepI w S k ent.key ∧ RepV w S ρ H x ent.val

/-- Memory as it lies in the heap: rows, private boxes, blocks that differ. -/
structure Ok (w : World) (S : Nat → Prop) (ρ β : Nat → Nat) (M : Mem) : Prop where
  rows : ∀ r row, M.H[r]? = some row → RowOk w S ρ M.H r row
  boxes : ∀ d cs, getB M.B d = some cs → ∃ cur T, w.heap[β d]? = some (.cells cur T (0, 0)) ∧ RepL w S ρ M.H cs cur.toList
  inj : ∀ r r', r < M.H.length → r' < M.H.length → ρ r = ρ r' → r = r'
  bij : ∀ d d', (getB M.B d).isSome → (getB M.B d').isSome → β d = β d' → d = d'
  rb : ∀ r d, r < M.H.length → (getB M.B d).isSome → ρ r ≠ β d
  bns : ∀ d, (getB M.B d).isSome → ¬ S (β d)
  lt : ∀ b, S b → b < w.heap.size

theorem Ok.rlt {w : World} {S : Nat → Prop} {ρ β : Nat → Nat} {M : Mem} (h : Ok w S ρ β M) {r : Nat} (hr : r < M.H.length) : ρ r < w.heap.size := by
  obtain ⟨row, hrow⟩ : ∃ row, M.H[r]? = some row := ⟨_, List.getElem?_eq_getElem hr⟩
  have lt : ∀ o, w.heap[ρ r]? = some o → ρ r < w.heap.size := fun o ho => (Array.getElem?_eq_some_iff.1 ho).1
  cases row with
  | cs ty esz es base fz => obtain ⟨_, _, _, _, _, cur, cap, mk, hh, _⟩ := h.rows r _ hrow; exact lt _ hh
  | mp es fz => obtain ⟨_, _, ents, clock, hh, _⟩ := h.rows r _ hrow; exact lt _ hh
theorem Ok.blt {w : World} {S : Nat → Prop} {ρ β : Nat → Nat} {M : Mem} (h : Ok w S ρ β M) {d : Nat} (hd : (getB M.B d).isSome) : β d < w.heap.size := by
  obtain ⟨cs, hcs⟩ := Option.isSome_iff_exists.1 hd
  obtain ⟨cur, T, hh, _⟩ := h.boxes d cs hcs
  exact (Array.getElem?_eq_some_iff.1 hh).1

/-- What a step leaves: values stand for what they stood for, and whatever is neither a row nor a private box is as it was. -/
structure Stp (w : World) (S : Nat → Prop) (ρ β : Nat → Nat) (M : Mem) (w' : World) (S' : Nat → Prop) (ρ' : Nat → Nat) (H' : Hp) : Prop where
  vals : ∀ v c, RepV w S ρ M.H v c → RepV w' S' ρ' H' v c
  stab : ∀ b, S b → S' b
  heap : ∀ b, S b → w'.heap[b]? = w.heap[b]?
  keep : ∀ b, b < w.heap.size → (∀ r, r < M.H.length → b ≠ ρ r) → (∀ d, (getB M.B d).isSome → b ≠ β d) → w'.heap[b]? = w.heap[b]?
  news : ∀ b, S' b → S b ∨ w.heap.size ≤ b ∨ ∃ r, r < M.H.length ∧ b = ρ r
  rown : ∀ r, r < H'.length → (∃ q, q < M.H.length ∧ ρ' r = ρ q) ∨ w.heap.size ≤ ρ' r
  size : w.heap.size ≤ w'.heap.size
  os : w'.os = w.os
  tape : w'.tape = w.tape
  output : w'.output = w.output

theorem Stp.imm {w : World} {S : Nat → Prop} {ρ β : Nat → Nat} {M : Mem} {w' : World} {S' : Nat → Prop} {ρ' : Nat → Nat} {H' : Hp} (h : Stp w S ρ β M w' S' ρ' H') {x : I} {c : Value} (hx : RepI w S x c) : RepI w' S' x c :=
  (h.vals (.m x) c (.m hx)).imm
theorem Stp.list {w : World} {S : Nat → Prop} {ρ β : Nat → Nat} {M : Mem} {w' : World} {S' : Nat → Prop} {ρ' : Nat → Nat} {H' : Hp} (h : Stp w S ρ β M w' S' ρ' H') {xs : List V} {cs : List Value} (hx : RepL w S ρ M.H xs cs) : RepL w' S' ρ' H' xs cs :=
  ⟨hx.1, fun j x hj => let ⟨c, hc, hr⟩ := hx.2 j x hj; ⟨c, hc, h.vals _ _ hr⟩⟩
theorem Stp.refl (w : World) (S : Nat → Prop) (ρ β : Nat → Nat) (M : Mem) : Stp w S ρ β M w S ρ M.H :=
  ⟨fun _ _ h => h, fun _ h => h, fun _ _ => rfl, fun _ _ _ _ => rfl, fun _ h => .inl h, fun r h => .inl ⟨r, h, rfl⟩, Nat.le_refl _, rfl, rfl, rfl⟩
end
end Go.Mx
