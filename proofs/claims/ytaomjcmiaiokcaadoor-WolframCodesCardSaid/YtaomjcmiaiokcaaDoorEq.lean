/- '==' over bools, integers, strings, and structs and arrays of such, cell by cell; keys of maps. -/
import Derived.Test.YtaomjcmiaiokcaaDoorSndD
import Derived.Laws.StructEq
import Derived.ChangeKeysEq
namespace Go.Mx
section
variable {P : Program} {w : World} {S : Nat → Prop} {ρ β : Nat → Nat} {M : Mem} {H : Hp}

/-- A value of a type, by its cells. -/
def Vt (P : Program) (t : TypeId) (c : Value) (cs : List Value) : Prop := (aggT P t = some true ∧ ∃ a : Array Value, c = .agg a ∧ a.toList = cs) ∨ (aggT P t = some false ∧ cs = [c])

/-- Immutable values, cell by cell. -/
def LI (w : World) (S : Nat → Prop) (xs : List I) (cs : List Value) : Prop := RepL w S id [] (xs.map .m) cs

theorem LI.ofL {xs : List I} {cs : List Value} (h : RepL w S ρ H (xs.map .m) cs) : LI w S xs cs := by
  obtain ⟨hl, c, hc, hr⟩ := h.toI
  refine ⟨by simpa using hl, fun j x hj => ?_⟩
  simp only [List.getElem?_map, Option.map_eq_some_iff] at hj
  obtain ⟨y, hy, rfl⟩ := hj
  exact ⟨c j, hc j y hy, .m (hr j y hy)⟩
theorem LI.len {xs : List I} {cs : List Value} (h : LI w S xs cs) : cs.length = xs.length := by have := h.1; simpa using this
theorem LI.drop {xs : List I} {cs : List Value} (h : LI w S xs cs) (n : Nat) : LI w S (xs.drop n) (cs.drop n) := by have := RepL.drop h n; rwa [← List.map_drop] at this
theorem LI.take {xs : List I} {cs : List Value} (h : LI w S xs cs) (n : Nat) : LI w S (xs.take n) (cs.take n) := by have := RepL.take h n; rwa [← List.map_take] at this
theorem LI.one {x : I} {c : Value} (h : LI w S [x] [c]) : RepI w S x c := (RepL.head (xs := []) (cs := []) h).imm

theorem part_vt {t : TypeId} {ag : Bool} {i : TypeInfo} (w : World) (hag : aggT P t = some ag) (hi : P.info? t = some i) (hs : ag = false → i.size = 1) {cs : Array Value} {off : Nat} (hl : ag = false → off < cs.size) :
    ∃ c, (part t cs off).run P w = .ok c w ∧ Vt P t c ((cs.toList.drop off).take i.size) := by
  cases ag with
  | true =>
    refine ⟨.agg (cs.extract off (off + i.size)), by simp [part, run_isAgg hag, run_sizeOf hi], .inl ⟨hag, _, rfl, ?_⟩⟩
    simp [List.take_drop]
  | false =>
    obtain ⟨c, hc⟩ : ∃ c, cs[off]? = some c := ⟨_, Array.getElem?_eq_getElem (hl rfl)⟩
    refine ⟨c, by simp [part, run_isAgg hag, hc], .inr ⟨hag, ?_⟩⟩
    rw [hs rfl]
    have h2 : cs.toList[off]? = some c := by simpa using hc
    obtain ⟨h3, h4⟩ := List.getElem?_eq_some_iff.1 h2
    rw [List.drop_eq_getElem_cons h3, h4]
    rfl

theorem eqCs_append : ∀ (k1 k2 : List Nat) (xs ys : List I) (r : Bool), eqCs (k1 ++ k2) xs ys = some r →
    ∃ r1 r2, eqCs k1 (xs.take k1.length) (ys.take k1.length) = some r1 ∧ eqCs k2 (xs.drop k1.length) (ys.drop k1.length) = some r2 ∧ r = (r1 && r2)
  | [], k2, xs, ys, r, h => ⟨true, r, by simp [eqCs], by simpa using h, by simp⟩
  | k :: k1, k2, xs, ys, r, h => by
    cases xs with
    | nil => simp [eqCs] at h
    | cons x xs =>
      cases ys with
      | nil => simp [eqCs] at h
      | cons y ys =>
        simp only [List.cons_append, eqCs, Option.bind_eq_some_iff, Option.some.injEq] at h
        obtain ⟨a, ha, b, hb, rfl⟩ := h
        obtain ⟨r1, r2, h1, h2, rfl⟩ := eqCs_append k1 k2 xs ys b hb
        exact ⟨a && r1, r2, by simp [eqCs, ha, h1], by simpa using h2, by simp [Bool.and_assoc]⟩

theorem eqCs_len : ∀ (ks : List Nat) (xs ys : List I) (r : Bool), eqCs ks xs ys = some r → xs.length = ks.length ∧ ys.length = ks.length
  | [], [], [], _, _ => by simp
  | [], _ :: _, _, _, h => by simp [eqCs] at h
  | [], [], _ :: _, _, h => by simp [eqCs] at h
  | _ :: _, [], _, _, h => by simp [eqCs] at h
  | _ :: _, _ :: _, [], _, h => by simp [eqCs] at h
  | k :: ks, x :: xs, y :: ys, r, h => by
    simp only [eqCs, Option.bind_eq_some_iff, Option.some.injEq] at h
    obtain ⟨a, ha, b, hb, rfl⟩ := h
    have := eqCs_len ks xs ys b hb
    simp [this.1, this.2]

/-- One cell. -/
theorem eqC_run {k : Nat} {x y : I} {r : Bool} {c c' : Value} (h : eqC k x y = some r) (hx : RepI w S x c) (hy : RepI w S y c') :
    (k = 0 ∧ ∃ a b, c = .bool a ∧ c' = .bool b ∧ r = (a == b)) ∨ (k = 1 ∧ ∃ j a b, c = .int j a ∧ c' = .int j b ∧ r = (a == b)) ∨ (k = 2 ∧ ∃ a b, c = .string a ∧ c' = .string b ∧ r = (a == b)) := by
  unfold eqC at h
  split at h
  · simp only [gd_some, Nat.beq_eq, Option.some.injEq] at h
    obtain ⟨rfl, rfl⟩ := h
    cases hx; cases hy
    exact .inl ⟨rfl, _, _, rfl, rfl, rfl⟩
  · simp only [gd_some, Bool.and_eq_true, Nat.beq_eq, eqK_eq, Option.some.injEq] at h
    obtain ⟨⟨rfl, rfl⟩, rfl⟩ := h
    cases hx; cases hy
    exact .inr (.inl ⟨rfl, _, _, _, rfl, rfl, eqI_eq ..⟩)
  · simp only [gd_some, Nat.beq_eq, Option.some.injEq] at h
    obtain ⟨rfl, rfl⟩ := h
    cases hx with | s a _ ha =>
    cases hy with | s b _ hb =>
    subst ha; subst hb
    refine .inr (.inr ⟨rfl, _, _, rfl, rfl, ?_⟩)
    rw [eqL_eq]
    rw [beq_toListBytes, ByteArray.toList_eq, ByteArray.toList_eq]
    by_cases e : a.data.toList = b.data.toList
    · rw [e]; simp
    · have h1 : ¬ a.data.toList.map UInt8.toNat = b.data.toList.map UInt8.toNat := fun h => e (toNat_map_inj.1 h)
      rw [decide_eq_false h1, beq_eq_false_iff_ne.2 e]
  · cases h

def EqT (P : Program) (d : Nat) (t : TypeId) (ks : List Nat) : Prop := ∀ (w : World) (S : Nat → Prop) (c c' : Value) (cs cs' : List Value) (xs ys : List I) (r : Bool), Vt P t c cs → Vt P t c' cs' → LI w S xs cs → LI w S ys cs' → eqCs ks xs ys = some r → (Op.equalIn d t c c').run P w = .ok r w

theorem flatN_agg {k : Nat} {t : TypeId} {ks : List Nat} (h : flatN P k t = some ks) : ∃ ag, aggT P t = some ag ∧ (ag = false → ks.length = 1) := by
  cases k with
  | zero => simp [flatN] at h
  | succ k =>
    simp only [flatN] at h
    split at h
    · rename_i hu
      exact ⟨false, by simp [aggT, hu], fun _ => by simp at h; simp [← h]⟩
    · rename_i hu
      exact ⟨false, by simp [aggT, hu], fun _ => by simp at h; simp [← h]⟩
    · rename_i hu
      exact ⟨false, by simp [aggT, hu], fun _ => by simp at h; simp [← h]⟩
    · rename_i hu
      exact ⟨true, by simp [aggT, hu], by simp⟩
    · rename_i hu
      exact ⟨true, by simp [aggT, hu], by simp⟩
    · cases h

theorem flat_step {k : Nat} {t : TypeId} {ks : List Nat} (h : flatN P k t = some ks) {i : TypeInfo} (hi : P.info? t = some i) (hsz : i.size = ks.length) {as : Array Value} {o : Nat} {xs : List I} (hx : LI w S xs (as.toList.drop o)) (hl : ks.length ≤ xs.length) :
    ∃ c, (part t as o).run P w = .ok c w ∧ Vt P t c ((as.toList.drop o).take ks.length) := by
  obtain ⟨ag, hag, h1⟩ := flatN_agg h
  rw [← hsz]
  refine part_vt w hag hi (fun e => by rw [hsz]; exact h1 e) (fun e => ?_)
  have := hx.len
  simp at this
  have := h1 e
  omega

theorem flat_fields {d k : Nat} (IH : ∀ t ks, flatN P k t = some ks → EqT P d t ks) (S : Nat → Prop) (as bs : Array Value) : ∀ (fs : List Field) (o : Nat) (ks : List Nat), flatFs (flatN P k) (sizeT P) o fs = some ks →
    ∀ (xs ys : List I) (r : Bool), LI w S xs (as.toList.drop o) → LI w S ys (bs.toList.drop o) → eqCs ks xs ys = some r → (Op.eqFields d as bs fs).run P w = .ok r w
  | [], o, ks, h, xs, ys, r, hx, hy, he => by
    simp only [flatFs, Option.some.injEq] at h
    subst h
    have : r = true := by
      cases xs <;> cases ys <;> simp [eqCs] at he
      exact he
    subst this
    simp [Op.eqFields]
  | f :: fs, o, ks, h, xs, ys, r, hx, hy, he => by
    simp only [flatFs, gd_some, Bool.and_eq_true, Nat.beq_eq, decide_eq_true_eq, Option.bind_eq_some_iff, Option.some.injEq, sizeT_some] at h
    obtain ⟨⟨ho, hn⟩, s, hs, s', ⟨i, hi, rfl⟩, hsz, l, hl, rfl⟩ := h
    obtain ⟨r1, r2, h1, h2, rfl⟩ := eqCs_append _ _ _ _ _ he
    have hle := eqCs_len _ _ _ _ he
    simp at hle
    obtain ⟨c, p1, v1⟩ := flat_step hs hi hsz.symm hx (by omega)
    obtain ⟨c', p2, v2⟩ := flat_step hs hi hsz.symm hy (by omega)
    have e1 := IH _ _ hs w S c c' _ _ _ _ r1 v1 v2 (hx.take _) (hy.take _) h1
    simp only [Op.eqFields, hn, ne_eq, not_false_eq_true, if_true, ho, Sem.run_bind, p1, p2, e1, Result.andThen_ok]
    have hx2 := hx.drop s.length
    have hy2 := hy.drop s.length
    rw [List.drop_drop] at hx2 hy2
    rw [← hsz] at hl
    have ih := flat_fields IH S as bs fs (o + s.length) l hl _ _ r2 hx2 hy2 h2
    cases r1
    · simp
    · simpa using ih

theorem flat_items {d k : Nat} {e : TypeId} {s : List Nat} (hs : flatN P k e = some s) (IH : EqT P d e s) {i : TypeInfo} (hi : P.info? e = some i) (hsz : i.size = s.length) (S : Nat → Prop) (as bs : Array Value) : ∀ (n j : Nat) (xs ys : List I) (r : Bool),
    LI w S xs (as.toList.drop (j * s.length)) → LI w S ys (bs.toList.drop (j * s.length)) → eqCs (List.replicate n s).flatten xs ys = some r → (Op.eqItems d e s.length as bs (List.range' j n)).run P w = .ok r w
  | 0, j, xs, ys, r, hx, hy, he => by
    have : r = true := by
      cases xs <;> cases ys <;> simp [eqCs] at he
      exact he
    subst this
    simp [Op.eqItems]
  | n + 1, j, xs, ys, r, hx, hy, he => by
    rw [List.replicate_succ, List.flatten_cons] at he
    obtain ⟨r1, r2, h1, h2, rfl⟩ := eqCs_append _ _ _ _ _ he
    have hle := eqCs_len _ _ _ _ he
    simp only [List.length_append] at hle
    obtain ⟨c, p1, v1⟩ := flat_step hs hi hsz hx (by omega)
    obtain ⟨c', p2, v2⟩ := flat_step hs hi hsz hy (by omega)
    have e1 := IH w S c c' _ _ _ _ r1 v1 v2 (hx.take _) (hy.take _) h1
    simp only [List.range'_succ, Op.eqItems, Sem.run_bind, p1, p2, e1, Result.andThen_ok]
    have hx2 := hx.drop s.length
    have hy2 := hy.drop s.length
    rw [List.drop_drop, show j * s.length + s.length = (j + 1) * s.length by rw [Nat.add_mul]; omega] at hx2 hy2
    have ih := flat_items hs IH hi hsz S as bs n (j + 1) _ _ r2 hx2 hy2 h2
    cases r1
    · simp
    · simpa using ih

theorem Vt.agg {t : TypeId} {c : Value} {cs : List Value} (h : Vt P t c cs) (ha : aggT P t = some true) : ∃ a : Array Value, c = .agg a ∧ a.toList = cs := by
  rcases h with h | h
  · exact h.2
  · rw [ha] at h; cases h.1
theorem Vt.cell {t : TypeId} {c : Value} {cs : List Value} (h : Vt P t c cs) (ha : aggT P t = some false) : cs = [c] := by
  rcases h with h | h
  · rw [ha] at h; cases h.1
  · exact h.2

theorem eqCs_one {k : Nat} {x y : List I} {r : Bool} (h : eqCs [k] x y = some r) : ∃ a b, x = [a] ∧ y = [b] ∧ eqC k a b = some r := by
  have := eqCs_len _ _ _ _ h
  match x, y, this with
  | [a], [b], _ =>
    simp only [eqCs, Option.bind_eq_some_iff, Option.some.injEq] at h
    obtain ⟨p, hp, q, rfl, rfl⟩ := h
    exact ⟨a, b, rfl, rfl, by simpa using hp⟩

theorem flat_eq : ∀ (k : Nat) (t : TypeId) (ks : List Nat), flatN P k t = some ks → ∀ d, EqT P (d + k) t ks
  | 0, _, _, h, _ => by simp [flatN] at h
  | k + 1, t, ks, h, d => by
    intro w S c c' cs cs' xs ys r v1 v2 hx hy he
    simp only [flatN] at h
    split at h
    · rename_i hu
      have hag : aggT P t = some false := by simp [aggT, hu]
      simp only [Option.some.injEq] at h
      subst h
      obtain ⟨a, b, rfl, rfl, hc⟩ := eqCs_one he
      have := v1.cell hag; subst this
      have := v2.cell hag; subst this
      rcases eqC_run hc hx.one hy.one with ⟨_, p, q, rfl, rfl, rfl⟩ | ⟨h, _⟩ | ⟨h, _⟩
      · exact run_equalIn_bool w _ t p q hu
      · cases h
      · cases h
    · rename_i kk hu
      have hag : aggT P t = some false := by simp [aggT, hu]
      simp only [Option.some.injEq] at h
      subst h
      obtain ⟨a, b, rfl, rfl, hc⟩ := eqCs_one he
      have := v1.cell hag; subst this
      have := v2.cell hag; subst this
      rcases eqC_run hc hx.one hy.one with ⟨h, _⟩ | ⟨_, j, p, q, rfl, rfl, rfl⟩ | ⟨h, _⟩
      · cases h
      · exact run_equalIn_int w _ t j kk p q hu
      · cases h
    · rename_i hu
      have hag : aggT P t = some false := by simp [aggT, hu]
      simp only [Option.some.injEq] at h
      subst h
      obtain ⟨a, b, rfl, rfl, hc⟩ := eqCs_one he
      have := v1.cell hag; subst this
      have := v2.cell hag; subst this
      rcases eqC_run hc hx.one hy.one with ⟨h, _⟩ | ⟨h, _⟩ | ⟨_, p, q, rfl, rfl, rfl⟩
      · cases h
      · cases h
      · rw [beq_toListBytes]; exact run_equalIn_string w _ t p q hu
    · rename_i fs hu
      have hag : aggT P t = some true := by simp [aggT, hu]
      simp only [gd_some, Bool.not_eq_true'] at h
      obtain ⟨hst, h⟩ := h
      obtain ⟨a, rfl, rfl⟩ := v1.agg hag
      obtain ⟨b, rfl, rfl⟩ := v2.agg hag
      have hfs : P.fieldsOf t = fs := by simp [Program.fieldsOf, hu]
      rw [← Nat.add_assoc, run_equalIn_struct w (d + k) t a b (by rw [hfs]; exact hu) hst, hfs]
      exact flat_fields (fun t ks hk => flat_eq k t ks hk d) S a b fs.toList 0 ks h xs ys r (by simpa using hx) (by simpa using hy) he
    · rename_i n e hu
      have hag : aggT P t = some true := by simp [aggT, hu]
      simp only [Option.bind_eq_some_iff, gd_some, Nat.beq_eq, Option.some.injEq, sizeT_some] at h
      obtain ⟨s, hs, s', ⟨i, hi, rfl⟩, hsz, rfl⟩ := h
      obtain ⟨a, rfl, rfl⟩ := v1.agg hag
      obtain ⟨b, rfl, rfl⟩ := v2.agg hag
      have hce : P.cellsOf e = s.length := by simp [Program.cellsOf, hi, hsz]
      rw [← Nat.add_assoc, run_equalIn_array w (d + k) a b hu hi, hce, List.range_eq_range']
      exact flat_items hs (flat_eq k e s hs d) hi hsz.symm S a b n 0 xs ys r (by simpa using hx) (by simpa using hy) he
    · cases h
end
end Go.Mx
