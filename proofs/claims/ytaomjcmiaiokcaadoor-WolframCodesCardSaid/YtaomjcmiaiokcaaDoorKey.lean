/- Keys of maps: what the model checks and finds, against the machine's. -/
import Derived.Test.YtaomjcmiaiokcaaDoorSndF
import Derived.WideKeyRuns
import Derived.MapKept
namespace Go.Mx
section
variable {P : Program} {w : World} {S : Nat → Prop} {ρ β : Nat → Nat} {M : Mem} {H : Hp}

theorem checkKey_flat (em : Bool) : ∀ (k : Nat) (t : TypeId) (ks : List Nat), flatN P k t = some ks → ∀ (d : Nat) (w : World) (S : Nat → Prop) (c : Value) (cs : List Value) (xs : List I), Vt P t c cs → LI w S xs cs → xs.length = ks.length →
    (Instr.checkKey em (d + k) t c).run P w = .ok () w
  | 0, _, _, h, _ => by simp [flatN] at h
  | k + 1, t, ks, h, d => by
    intro w S c cs xs v1 hx hl
    rw [← Nat.add_assoc]
    simp only [flatN] at h
    split at h
    · rename_i hu
      simp only [Instr.checkKey, Sem.run_bind, run_underlying hu, Result.andThen_ok, Sem.run_pure]
    · rename_i hu
      simp only [Instr.checkKey, Sem.run_bind, run_underlying hu, Result.andThen_ok, Sem.run_pure]
    · rename_i hu
      simp only [Instr.checkKey, Sem.run_bind, run_underlying hu, Result.andThen_ok, Sem.run_pure]
    · rename_i fs hu
      have hag : aggT P t = some true := by simp [aggT, hu]
      simp only [gd_some, Bool.not_eq_true'] at h
      obtain ⟨hst, h⟩ := h
      obtain ⟨a, rfl, rfl⟩ := v1.agg hag
      simp only [Instr.checkKey, Sem.run_bind, run_underlying hu, Result.andThen_ok]
      rw [← Array.forIn_toList]
      have IH := fun t ks (hk : flatN P k t = some ks) => checkKey_flat em k t ks hk d w S
      have hx0 : LI w S xs (a.toList.drop 0) := by simpa using hx
      clear hx v1 hu hst
      generalize (0 : Nat) = o0 at h hx0
      generalize fs.toList = L at h
      induction L generalizing o0 ks xs with
      | nil => simp
      | cons f L ih =>
        simp only [flatFs, gd_some, Bool.and_eq_true, Nat.beq_eq, decide_eq_true_eq, Option.bind_eq_some_iff, Option.some.injEq, sizeT_some] at h
        obtain ⟨⟨ho, hn⟩, s, hs, s', ⟨i, hi, rfl⟩, hsz, l, hlf, rfl⟩ := h
        simp only [List.length_append] at hl
        obtain ⟨c, p1, v1⟩ := flat_step hs hi hsz.symm hx0 (by omega)
        have p2 := IH _ _ hs c _ _ v1 (hx0.take _) (by rw [List.length_take]; omega)
        rw [← ho] at p1
        simp only [List.forIn_cons, Sem.run_bind, hn, ne_eq, not_false_eq_true, if_true, Result.andThen_ok, p1, p2, Sem.run_pure]
        have hx2 := hx0.drop s.length
        rw [List.drop_drop] at hx2
        rw [← hsz] at hlf
        exact ih (hl := by rw [List.length_drop]; omega) (h := hlf) (hx0 := hx2)
    · rename_i n e hu
      have hag : aggT P t = some true := by simp [aggT, hu]
      simp only [Option.bind_eq_some_iff, gd_some, Nat.beq_eq, Option.some.injEq, sizeT_some] at h
      obtain ⟨s, hs, s', ⟨i, hi, rfl⟩, hsz, rfl⟩ := h
      obtain ⟨a, rfl, rfl⟩ := v1.agg hag
      simp only [Instr.checkKey, Sem.run_bind, run_underlying hu, Result.andThen_ok]
      simp only [Std.Legacy.Range.forIn_eq_forIn_range', Std.Legacy.Range.size, Nat.sub_zero, Nat.add_one_sub_one, Nat.div_one]
      have hx0 : LI w S xs (a.toList.drop (0 * s.length)) := by simpa using hx
      have hl0 : xs.length = n * s.length := by rw [hl]; simp [List.length_flatten]
      clear hx v1 hu hl
      generalize (0 : Nat) = j at hx0
      induction n generalizing j xs with
      | zero => simp
      | succ n ih =>
        rw [Nat.add_mul] at hl0
        obtain ⟨c, p1, v1⟩ := flat_step hs hi hsz.symm hx0 (by omega)
        have p2 := checkKey_flat em k e s hs d w S c _ _ v1 (hx0.take _) (by rw [List.length_take]; omega)
        rw [hsz] at p1
        simp only [List.range'_succ, List.forIn_cons, Sem.run_bind, run_sizeOf hi, Result.andThen_ok, p1, p2, Sem.run_pure]
        have hx2 := hx0.drop s.length
        rw [List.drop_drop, show j * s.length + s.length = (j + 1) * s.length by rw [Nat.add_mul]; omega] at hx2
        exact ih (hl0 := by rw [List.length_drop]; omega) (hx0 := hx2)
    · cases h

theorem keyT_some {t : TypeId} {kt : KT} (h : keyT P t = some kt) : flatN P 6 t = some kt.ks ∧ aggT P t = some kt.ag := by
  simp only [keyT, Option.bind_eq_some_iff, Option.some.injEq] at h
  obtain ⟨ks, h1, ag, h2, rfl⟩ := h
  exact ⟨h1, h2⟩

theorem run_checkKey_ok {t : TypeId} {kt : KT} {key : I} {c : Value} (em : Bool) (h : keyT P t = some kt) (hk : okKey kt key = true) (hr : RepI w S key c) : (Instr.checkKey em 10000 t c).run P w = .ok () w := by
  obtain ⟨h1, h2⟩ := keyT_some h
  have hq : ∃ r, eqKey kt key key = some r := by
    unfold okKey at hk
    split at hk
    · rename_i r hr; exact ⟨r, hr⟩
    · cases hk
  obtain ⟨r, hq⟩ := hq
  unfold eqKey at hq
  cases hag : kt.ag with
  | true =>
    rw [hag] at hq h2
    cases key with
    | ag xs =>
      obtain ⟨cs, rfl, hl⟩ := RepV.ofAgI (ρ := id) (H := []) (.m hr)
      exact checkKey_flat em 6 t _ h1 9994 w S _ _ xs (.inl ⟨h2, _, rfl, rfl⟩) (.ofL hl) (eqCs_len _ _ _ _ hq).1
    | _ => simp at hq
  | false =>
    rw [hag] at hq h2
    simp only at hq
    split at hq
    · rename_i k hks
      rw [hks] at h1
      exact checkKey_flat em 6 t _ h1 9994 w S c [c] [key] (.inr ⟨h2, rfl⟩) (RepL.cons (.m hr) .nil) (by simp)
    · cases hq

/-- Entries of a map as they lie. -/
def Ents (w : World) (S : Nat → Prop) (ρ : Nat → Nat) (H : Hp) (es : List (I × V)) (ents : List MapEntry) : Prop := All2 (fun p (e : MapEntry) => RepI w S p.1 e.key ∧ RepV w S ρ H p.2 e.val) es ents

/-- Where a key stands. -/
def posK (kt : KT) (key : I) : List (I × V) → Option (Option Nat)
  | [] => some none
  | (k, _) :: r => (eqKey kt key k).bind fun q => match q with
    | true => some (some 0)
    | false => (posK kt key r).bind fun p => some (p.map (· + 1))

theorem findK_pos {kt : KT} {key : I} : ∀ {es : List (I × V)} {q : Option V}, findK kt key es = some q → ∃ p, posK kt key es = some p ∧ q = p.bind fun i => (es[i]?).map (·.2)
  | [], q, h => by simp [findK] at h; subst h; exact ⟨none, rfl, rfl⟩
  | (k, x) :: r, q, h => by
    simp only [findK, Option.bind_eq_some_iff] at h
    obtain ⟨b, hb, h⟩ := h
    cases b with
    | true => simp only [Option.some.injEq] at h; subst h; exact ⟨some 0, by simp [posK, hb], rfl⟩
    | false =>
      obtain ⟨p, hp, rfl⟩ := findK_pos h
      refine ⟨p.map (· + 1), by simp [posK, hb, hp], ?_⟩
      cases p <;> simp

theorem updK_pos {kt : KT} {key : I} {x : V} : ∀ {es es' : List (I × V)}, updK kt key x es = some es' → ∃ p, posK kt key es = some p ∧ es' = match p with
    | some i => es.set i (key, x)
    | none => es ++ [(key, x)]
  | [], es', h => by simp [updK] at h; subst h; exact ⟨none, rfl, rfl⟩
  | (k, y) :: r, es', h => by
    simp only [updK, Option.bind_eq_some_iff] at h
    obtain ⟨b, hb, h⟩ := h
    cases b with
    | true => simp only [Option.some.injEq] at h; subst h; exact ⟨some 0, by simp [posK, hb], rfl⟩
    | false =>
      simp only [Option.bind_eq_some_iff, Option.some.injEq] at h
      obtain ⟨l, hl, rfl⟩ := h
      obtain ⟨p, hp, rfl⟩ := updK_pos hl
      refine ⟨p.map (· + 1), by simp [posK, hb, hp], ?_⟩
      cases p <;> simp

theorem delK_pos {kt : KT} {key : I} : ∀ {es es' : List (I × V)}, delK kt key es = some es' → ∃ p, posK kt key es = some p ∧ es' = match p with
    | some i => es.eraseIdx i
    | none => es
  | [], es', h => by simp [delK] at h; subst h; exact ⟨none, rfl, rfl⟩
  | (k, y) :: r, es', h => by
    simp only [delK, Option.bind_eq_some_iff] at h
    obtain ⟨b, hb, h⟩ := h
    cases b with
    | true => simp only [Option.some.injEq] at h; subst h; exact ⟨some 0, by simp [posK, hb], rfl⟩
    | false =>
      simp only [Option.bind_eq_some_iff, Option.some.injEq] at h
      obtain ⟨l, hl, rfl⟩ := h
      obtain ⟨p, hp, rfl⟩ := delK_pos hl
      refine ⟨p.map (· + 1), by simp [posK, hb, hp], ?_⟩
      cases p <;> simp

/-- The answer for a position. -/
def ansAt (ents : List MapEntry) (i : Nat) (p : Option Nat) : Option (Nat × Value) := p.bind fun j => (ents[j]?).map fun e => (i + j, e.val)

theorem ansAt_succ (e : MapEntry) (ents : List MapEntry) (i : Nat) (p : Option Nat) : ansAt (e :: ents) i (p.map (· + 1)) = ansAt ents (i + 1) p := by
  cases p with
  | none => rfl
  | some j => simp only [ansAt, Option.map_some, Option.bind_some, List.getElem?_cons_succ]; congr 1; funext e; congr 1; omega

theorem find_agg {t : TypeId} {ks : List Nat} {xs : List I} {c : Value} (h1 : flatN P 6 t = some ks) (h2 : aggT P t = some true) (hc : RepI w S (.ag xs) c) : ∀ (es : List (I × V)) (ents : List MapEntry) (i : Nat) (p : Option Nat), Ents w S ρ H es ents → posK ⟨true, ks⟩ (.ag xs) es = some p →
    (Instr.findAsking t c ents i).run P w = .ok (ansAt ents i p) w
  | [], ents, i, p, he, hp => by
    cases he
    simp only [posK, Option.some.injEq] at hp
    subst hp
    simp [Instr.findAsking, ansAt]
  | (k, x) :: es, ents, i, p, he, hp => by
    cases he with | cons hd he =>
    rename_i ent ents
    simp only [posK, Option.bind_eq_some_iff] at hp
    obtain ⟨b, hb, hp⟩ := hp
    simp only [eqKey] at hb
    cases k with
    | ag ys =>
      obtain ⟨cx, rfl, lx⟩ := RepV.ofAgI (ρ := id) (H := []) (.m hc)
      obtain ⟨cy, hy, ly⟩ := RepV.ofAgI (ρ := id) (H := []) (.m hd.1)
      have hq := flat_eq 6 t ks h1 9994 w S (.agg cx) (.agg cy) _ _ _ ys b (.inl ⟨h2, _, rfl, rfl⟩) (.inl ⟨h2, _, rfl, rfl⟩) (.ofL lx) (.ofL ly) hb
      have hq : (Op.equal t (.agg cx) ent.key).run P w = .ok b w := by rw [hy]; exact hq
      simp only [Instr.findAsking, Sem.run_bind, hq, Result.andThen_ok]
      cases b with
      | true => simp only [Option.some.injEq] at hp; subst hp; simp [ansAt]
      | false =>
        simp only [Option.bind_eq_some_iff, Option.some.injEq] at hp
        obtain ⟨q, hq, rfl⟩ := hp
        rw [ansAt_succ]
        simpa using find_agg h1 h2 hc es ents (i + 1) q he hq
    | _ => simp at hb

theorem sameNow_cell {t : TypeId} {k : Nat} {d : TypeDesc} {x y : I} {r : Bool} {c c' : Value} (h1 : flatN P 6 t = some [k]) (h2 : aggT P t = some false) (hu : P.underlying t = some d) (h : eqC k x y = some r) (hx : RepI w S x c) (hy : RepI w S y c') : Instr.sameNow d c c' = some r := by
  have hk : (k = 0 → d = .bool) ∧ (k = 1 → ∃ j, d = .int j) ∧ (k = 2 → d = .string) := by
    simp only [flatN, hu] at h1
    simp only [aggT, hu, Option.bind_some] at h2
    cases d <;> simp at h1 h2 <;> subst h1 <;> simp
  rcases eqC_run h hx hy with ⟨rfl, p, q, rfl, rfl, rfl⟩ | ⟨rfl, j, p, q, rfl, rfl, rfl⟩ | ⟨rfl, p, q, rfl, rfl, rfl⟩
  · rw [hk.1 rfl]; rfl
  · obtain ⟨j', rfl⟩ := hk.2.1 rfl; simp [Instr.sameNow]
  · rw [hk.2.2 rfl]; rfl

theorem find_cell {t : TypeId} {k : Nat} {d : TypeDesc} {x : I} {c : Value} (h1 : flatN P 6 t = some [k]) (h2 : aggT P t = some false) (hu : P.underlying t = some d) (hc : RepI w S x c) : ∀ (es : List (I × V)) (ents : List MapEntry) (i : Nat) (p : Option Nat), Ents w S ρ H es ents → posK ⟨false, [k]⟩ x es = some p →
    Instr.findNow d c ents i = some (ansAt ents i p)
  | [], ents, i, p, he, hp => by
    cases he
    simp only [posK, Option.some.injEq] at hp
    subst hp
    simp [Instr.findNow, ansAt]
  | (y, v) :: es, ents, i, p, he, hp => by
    cases he with | cons hd he =>
    rename_i ent ents
    simp only [posK, Option.bind_eq_some_iff] at hp
    obtain ⟨b, hb, hp⟩ := hp
    simp only [eqKey] at hb
    have hs := sameNow_cell h1 h2 hu hb hc hd.1
    simp only [Instr.findNow, hs]
    cases b with
    | true => simp only [Option.some.injEq] at hp; subst hp; simp [ansAt]
    | false =>
      simp only [Option.bind_eq_some_iff, Option.some.injEq] at hp
      obtain ⟨q, hq, rfl⟩ := hp
      rw [ansAt_succ]
      exact find_cell h1 h2 hu hc es ents (i + 1) q he hq

theorem run_findKey_pos {t : TypeId} {kt : KT} {key : I} {c : Value} {es : List (I × V)} {ents : List MapEntry} {p : Option Nat} (h : keyT P t = some kt) (hc : RepI w S key c) (hok : okKey kt key = true) (he : Ents w S ρ H es ents) (hp : posK kt key es = some p) :
    (Instr.findKey t c ents).run P w = .ok (ansAt ents 0 p) w := by
  obtain ⟨h1, h2⟩ := keyT_some h
  obtain ⟨ag, ks⟩ := kt
  cases ag with
  | true =>
    have hxs : ∃ xs, key = .ag xs := by
      unfold okKey at hok
      simp only [eqKey] at hok
      split at hok
      · rename_i hq; split at hq
        · exact ⟨_, rfl⟩
        · cases hq
      · cases hok
    obtain ⟨xs, rfl⟩ := hxs
    rw [run_findKey_eq w (by
      simp only [aggT, Option.bind_eq_some_iff] at h2
      obtain ⟨d, hd, h2⟩ := h2
      rw [hd]
      cases d <;> simp at h2 <;> rfl)]
    exact find_agg h1 h2 hc es ents 0 p he hp
  | false =>
    have hk : ∃ k, ks = [k] := by
      obtain ⟨ag, hag, hl⟩ := flatN_agg h1
      rw [h2] at hag
      simp only [Option.some.injEq] at hag
      have := hl hag.symm
      exact List.length_eq_one_iff.1 this
    obtain ⟨k, rfl⟩ := hk
    have hd : ∃ d, P.underlying t = some d := by
      simp only [aggT, Option.bind_eq_some_iff] at h2
      obtain ⟨d, hd, _⟩ := h2
      exact ⟨d, hd⟩
    obtain ⟨d, hd⟩ := hd
    exact MapKept.run_findKey hd (find_cell h1 h2 hd hc es ents 0 p he hp)
end
end Go.Mx
