/- slices.SortFunc and slices.Sort by their primitives: what a call gives where the comparing function is a strict total order. -/
import Derived.Test.YtcdcepfigjohfaaGreatDoorPq
set_option linter.unusedSimpArgs false
set_option linter.unusedVariables false
set_option linter.unusedSectionVars false
set_option maxRecDepth 100000
namespace Go.Mx
section
variable {α : Type}
def insF (lt : α → α → Bool) (x : α) : List α → List α
  | [] => [x]
  | y :: r => match lt x y with
    | true => x :: y :: r
    | false => y :: insF lt x r
def srtF (lt : α → α → Bool) : List α → List α
  | [] => []
  | x :: r => insF lt x (srtF lt r)
theorem insF_perm (lt : α → α → Bool) (x : α) : ∀ l : List α, (insF lt x l).Perm (x :: l)
  | [] => .refl _
  | y :: r => by
    unfold insF
    split
    · exact .refl _
    · exact ((insF_perm lt x r).cons y).trans (List.Perm.swap x y r)
theorem srtF_perm (lt : α → α → Bool) : ∀ l : List α, (srtF lt l).Perm l
  | [] => .refl _
  | x :: r => (insF_perm lt x _).trans ((srtF_perm lt r).cons x)
theorem insO_F {lo : α → α → Option Bool} {lt : α → α → Bool} {x : α} : ∀ {l : List α}, (∀ y, y ∈ l → lo x y = some (lt x y)) → insO lo x l = some (insF lt x l)
  | [], _ => rfl
  | y :: r, h => by
    unfold insO insF
    rw [h y (by simp), Option.bind_some]
    cases lt x y with
    | true => rfl
    | false =>
      simp only
      rw [insO_F fun z hz => h z (by simp [hz])]
      rfl
theorem srtO_F {lo : α → α → Option Bool} {lt : α → α → Bool} : ∀ {l : List α}, (∀ x, x ∈ l → ∀ y, y ∈ l → lo x y = some (lt x y)) → srtO lo l = some (srtF lt l)
  | [], _ => rfl
  | x :: r, h => by
    unfold srtO srtF
    rw [srtO_F fun y hy z hz => h y (by simp [hy]) z (by simp [hz]), Option.bind_some]
    exact insO_F fun y hy => h x (by simp) y (by simp [(srtF_perm lt r).mem_iff.1 hy])
structure Wo (lt : α → α → Bool) (l : List α) : Prop where
  irr : ∀ x, x ∈ l → lt x x = false
  tr : ∀ x, x ∈ l → ∀ y, y ∈ l → ∀ z, z ∈ l → lt x y = true → lt y z = true → lt x z = true
  ntr : ∀ x, x ∈ l → ∀ y, y ∈ l → ∀ z, z ∈ l → lt x y = false → lt y z = false → lt x z = false
theorem Wo.sub {lt : α → α → Bool} {l m : List α} (h : Wo lt l) (hm : ∀ x, x ∈ m → x ∈ l) : Wo lt m :=
  ⟨fun x hx => h.irr x (hm x hx), fun x hx y hy z hz => h.tr x (hm x hx) y (hm y hy) z (hm z hz), fun x hx y hy z hz => h.ntr x (hm x hx) y (hm y hy) z (hm z hz)⟩
structure Tot (lt : α → α → Bool) (l : List α) : Prop where
  irr : ∀ x, x ∈ l → lt x x = false
  tr : ∀ x, x ∈ l → ∀ y, y ∈ l → ∀ z, z ∈ l → lt x y = true → lt y z = true → lt x z = true
  tot : ∀ x, x ∈ l → ∀ y, y ∈ l → lt x y = true ∨ x = y ∨ lt y x = true
theorem Tot.wo {lt : α → α → Bool} {l : List α} (h : Tot lt l) : Wo lt l :=
  ⟨h.irr, h.tr, fun x hx y hy z hz a b => by
    cases c : lt x z with
    | false => rfl
    | true =>
      rcases h.tot x hx y hy with k | rfl | k
      · rw [a] at k; cases k
      · rw [c] at b; cases b
      · have := h.tr y hy x hx z hz k c
        rw [b] at this
        cases this⟩
theorem insF_pw {lt : α → α → Bool} {x : α} : ∀ {l : List α}, Wo lt (x :: l) → l.Pairwise (fun a b => lt b a = false) → (insF lt x l).Pairwise fun a b => lt b a = false
  | [], _, _ => List.pairwise_singleton _ _
  | y :: r, ht, h => by
    obtain ⟨h1, h2⟩ := List.pairwise_cons.1 h
    unfold insF
    cases e : lt x y with
    | true =>
      refine List.pairwise_cons.2 ⟨fun z hz => ?_, h⟩
      cases e2 : lt z x with
      | false => rfl
      | true =>
        have := ht.tr z (by simp [hz]) x (by simp) y (by simp) e2 e
        rcases List.mem_cons.1 hz with rfl | hz
        · rw [ht.irr z (by simp)] at this
          cases this
        · rw [h1 z hz] at this
          cases this
    | false =>
      refine List.pairwise_cons.2 ⟨fun z hz => ?_, insF_pw (ht.sub fun a ha => by
        rcases List.mem_cons.1 ha with rfl | ha
        · simp
        · simp [ha]) h2⟩
      rcases List.mem_cons.1 ((insF_perm lt x r).mem_iff.1 hz) with rfl | hz
      · exact e
      · exact h1 z hz
theorem srtF_pw {lt : α → α → Bool} : ∀ {l : List α}, Wo lt l → (srtF lt l).Pairwise fun a b => lt b a = false
  | [], _ => .nil
  | x :: r, h => insF_pw (h.sub fun a ha => by
      rcases List.mem_cons.1 ha with rfl | ha
      · simp
      · simp [(srtF_perm lt r).mem_iff.1 ha]) (srtF_pw (h.sub fun a ha => by simp [ha]))
theorem allO_F {p : α → Option Bool} : ∀ {l : List α}, (∀ y, y ∈ l → p y = some true) → allO p l = some true
  | [], _ => rfl
  | y :: r, h => by
    unfold allO
    rw [h y (by simp), Option.bind_some]
    exact allO_F fun z hz => h z (by simp [hz])
theorem allO_some {p : α → Option Bool} : ∀ {l : List α}, (∀ y, y ∈ l → ∃ b, p y = some b) → ∃ b, allO p l = some b
  | [], _ => ⟨true, rfl⟩
  | y :: r, h => by
    obtain ⟨b, hb⟩ := h y (by simp)
    unfold allO
    rw [hb, Option.bind_some]
    cases b with
    | true => exact allO_some fun z hz => h z (by simp [hz])
    | false => exact ⟨false, rfl⟩
theorem chkO_some {lo : α → α → Option Bool} {lt eq : α → α → Bool} : ∀ {l : List α}, (∀ x, x ∈ l → ∀ y, y ∈ l → lo x y = some (lt x y)) → ∃ b, chkO lo eq l = some b
  | [], _ => ⟨true, rfl⟩
  | x :: r, h => by
    unfold chkO
    rw [h x (by simp) x (by simp), Option.bind_some]
    cases lt x x with
    | true => exact ⟨false, rfl⟩
    | false =>
      simp only
      obtain ⟨b, hb⟩ := allO_some (p := ordO lo eq x) (l := r) fun y hy => by
        unfold ordO
        rw [h x (by simp) y (by simp [hy]), h y (by simp [hy]) x (by simp), Option.bind_some, Option.bind_some]
        exact ⟨_, rfl⟩
      rw [hb, Option.bind_some]
      cases b with
      | true => exact chkO_some fun a ha b hb => h a (by simp [ha]) b (by simp [hb])
      | false => exact ⟨false, rfl⟩
theorem swoO_F {lo : α → α → Option Bool} {lt : α → α → Bool} {l : List α} (h : ∀ x, x ∈ l → ∀ y, y ∈ l → lo x y = some (lt x y)) (ht : Wo lt l) : swoO lo l = some true :=
  allO_F fun x hx => allO_F fun y hy => allO_F fun z hz => by
    unfold triO
    rw [h x hx x hx, h x hx y hy, h y hy z hz, h x hx z hz, ht.irr x hx]
    simp only [Option.bind_some]
    cases a : lt x y <;> cases b : lt y z <;> cases c : lt x z <;> first | rfl | (rw [ht.tr x hx y hy z hz a b] at c; cases c) | (rw [ht.ntr x hx y hy z hz a b] at c; cases c)
end

theorem fuel1 {G : Cfg} (hG : MonoP G) {f : Nat} {cap : List V} {ag : Bool} {c : List I → List I → Int} (x : List I) : ∀ ys : List (List I), (∀ y, y ∈ ys → Gives G f (elV ag x :: elV ag y :: cap) [] (.m (.i .i64 (c x y))) []) → ∃ n, ∀ m, n ≤ m → ∀ y, y ∈ ys → ltC (callM G m) f cap ag x y = some (decide (c x y < 0))
  | [], _ => ⟨0, fun m _ y hy => by simp at hy⟩
  | y :: r, h => by
    obtain ⟨n1, h1⟩ := h y (by simp)
    obtain ⟨n2, h2⟩ := fuel1 hG x r fun z hz => h z (by simp [hz])
    refine ⟨max n1 n2, fun m hm z hz => ?_⟩
    rcases List.mem_cons.1 hz with rfl | hz
    · unfold ltC
      rw [callM_mono hG (show n1 ≤ m by omega) _ _ _ _ h1, Option.bind_some]
      simp only
      rw [ltI_eq]
    · exact h2 m (by omega) z hz
theorem fuel2 {G : Cfg} (hG : MonoP G) {f : Nat} {cap : List V} {ag : Bool} {c : List I → List I → Int} : ∀ xs ys : List (List I), (∀ x, x ∈ xs → ∀ y, y ∈ ys → Gives G f (elV ag x :: elV ag y :: cap) [] (.m (.i .i64 (c x y))) []) → ∃ n, ∀ m, n ≤ m → ∀ x, x ∈ xs → ∀ y, y ∈ ys → ltC (callM G m) f cap ag x y = some (decide (c x y < 0))
  | [], _, _ => ⟨0, fun m _ x hx => by simp at hx⟩
  | x :: r, ys, h => by
    obtain ⟨n1, h1⟩ := fuel1 hG x ys (h x (by simp))
    obtain ⟨n2, h2⟩ := fuel2 hG r ys fun z hz => h z (by simp [hz])
    refine ⟨max n1 n2, fun m hm z hz => ?_⟩
    rcases List.mem_cons.1 hz with rfl | hz
    · exact h1 m (by omega)
    · exact h2 m (by omega) z hz
theorem allM_imm : ∀ x : List I, allM (x.map .m) = some x
  | [] => rfl
  | a :: r => by
    show (allM (r.map V.m)).bind _ = _
    rw [allM_imm r]
    rfl
theorem optM_imm : ∀ xs : List (List I), optMap allM (immS xs) = some xs
  | [] => rfl
  | x :: r => by
    show (allM (x.map V.m)).bind _ = _
    rw [allM_imm, Option.bind_some]
    show (optMap allM (immS r)).bind _ = _
    rw [optM_imm r]
    rfl
def srtH (H : Hp) (r ty k : Nat) (es : List (List V)) (st : Nat) (ys : List (List V)) : Hp := match ys with
  | [] => H
  | _ :: _ => H.set r (.cs ty k (cpyEl es st ys) es.length false)
theorem prim_gives {G : Cfg} {F : Nat} {p : Call → List V → Hp → Option (V × Hp)} (hp : G.prim F = some p) {vs : List V} {H : Hp} {r : V × Hp} {n : Nat} (h : p (callM G n) vs H = some r) : Gives G F vs H r.1 r.2 :=
  ⟨n + 1, by unfold callM; rw [hp]; exact h⟩
theorem sort_nil {G : Cfg} {F k : Nat} {ag : Bool} (hp : G.prim F = some (srtX ag k)) {g : V} {gc : Nat × List V} (hg : cavF g = some gc) {is : List I} (hi : allM gc.2 = some is) {o : V} (ho : o = .m (.nl 4) ∨ o = .ls []) (H : Hp) : Gives G F [o, g] H (.tu []) H :=
  prim_gives (n := 0) (r := (.tu [], H)) hp (by
    unfold srtX
    rcases ho with rfl | rfl <;> simp only [hg, hi, Option.bind_some])
theorem sort_gives {G : Cfg} (hG : MonoP G) {F k : Nat} {ag : Bool} (hp : G.prim F = some (srtX ag k)) {g : V} {gc : Nat × List V} (hg : cavF g = some gc) {is : List I} (hi : allM gc.2 = some is)
    {H : Hp} {r ty st len base : Nat} {lim : Bool} {es : List (List V)} (hrow : nth H r = some (.cs ty k es base false)) (hst : st + len ≤ es.length) (hle : es.length ≤ 4611686018427387903) {xs : List (List I)} (hxs : (es.drop st).take len = immS xs) (hone : (immS xs).all (fun e => e.all oneV) = true)
    {c : List I → List I → Int} (hc : ∀ x, x ∈ xs → ∀ y, y ∈ xs → Gives G gc.1 (elV ag x :: elV ag y :: gc.2) [] (.m (.i .i64 (c x y))) []) (ht : Wo (fun x y => decide (c x y < 0)) xs) :
    ∃ ys : List (List I), ys.Perm xs ∧ ys.Pairwise (fun a b => decide (c b a < 0) = false) ∧ Gives G F [.sl r es.length k st len lim, g] H (.tu []) (srtH H r ty k es st (immS ys)) := by
  obtain ⟨n, hn⟩ := fuel2 hG xs xs hc
  have hn := hn n (Nat.le_refl _)
  have hr : r < H.length := by
    rw [nth_get] at hrow
    exact (List.getElem?_eq_some_iff.1 hrow).1
  have e1 : (!false && Nat.beq es.length es.length && Nat.beq k k && Nat.beq k k && Nat.ble len 4611686018427387903 && Nat.ble (st + len) es.length) = true := by
    simp only [Nat.beq_refl, Bool.not_false, Bool.and_true, Bool.true_and, Bool.and_eq_true, Nat.ble_eq]
    omega
  have hsp := srtF_perm (fun x y => decide (c x y < 0)) xs
  obtain ⟨b, hb⟩ := chkO_some (lo := ltC (callM G n) gc.1 gc.2 ag) (lt := fun x y => decide (c x y < 0)) (eq := eqLs (eqX 6)) (l := srtF (fun x y => decide (c x y < 0)) xs) fun x hx y hy => hn x (hsp.mem_iff.1 hx) y (hsp.mem_iff.1 hy)
  obtain ⟨ys, hp1, hp2, hp3⟩ : ∃ ys : List (List I), ys.Perm xs ∧ ys.Pairwise (fun a b => decide (c b a < 0) = false) ∧ ((b = true ∧ ys = srtF (fun x y => decide (c x y < 0)) xs) ∨ (b = false ∧ swoO (ltC (callM G n) gc.1 gc.2 ag) xs = some true ∧ ys = pdqL (ltC (callM G n) gc.1 gc.2 ag) xs)) := by
    cases b with
    | true => exact ⟨_, hsp, srtF_pw ht, .inl ⟨rfl, rfl⟩⟩
    | false =>
      refine ⟨pdqL (ltC (callM G n) gc.1 gc.2 ag) xs, ?_, ?_, .inr ⟨rfl, swoO_F hn ht, rfl⟩⟩
      all_goals
        by_cases h0 : 0 < xs.length
        · have hO : Go.Sort.SWO (Go.Proofs.ltOf fun i j : Fin xs.length => c xs[i] xs[j]) := ⟨fun i => ht.irr _ (List.getElem_mem i.2), fun i j l => ht.tr _ (List.getElem_mem i.2) _ (List.getElem_mem j.2) _ (List.getElem_mem l.2), fun i j l => ht.ntr _ (List.getElem_mem i.2) _ (List.getElem_mem j.2) _ (List.getElem_mem l.2)⟩
          obtain ⟨q1, q2⟩ := pdqF_srt h0 hO
          rw [pdqL_eq h0 (f := Go.Proofs.ltOf fun i j : Fin xs.length => c xs[i] xs[j]) fun i j => hn _ (List.getElem_mem i.2) _ (List.getElem_mem j.2)]
          first
            | (refine (q1.map fun i : Fin xs.length => xs[i]).trans ?_
               rw [map_finRange])
            | (rw [List.pairwise_map]
               exact q2.imp fun h => decide_eq_false h)
        · have : xs = [] := List.eq_nil_of_length_eq_zero (by omega)
          subst this
          first | exact .refl _ | exact .nil
  refine ⟨ys, hp1, hp2, prim_gives (n := n) (r := (.tu [], _)) hp ?_⟩
  unfold srtX
  simp only [hg, hi, Option.bind_some, hrow, e1, gd, hxs, optM_imm]
  cases xs with
  | nil =>
    have : ys = [] := hp1.eq_nil
    subst this
    rfl
  | cons x t =>
    simp only [hone]
    rw [srtO_F hn, Option.bind_some, hb, Option.bind_some]
    have hne : ys ≠ [] := fun e => by
      subst e
      have := hp1.length_eq
      simp at this
    have hh : srtH H r ty k es st (immS ys) = H.set r (.cs ty k (cpyEl es st (immS ys)) es.length false) := by
      cases ys with
      | nil => exact absurd rfl hne
      | cons y s => rfl
    rcases hp3 with ⟨rfl, hy⟩ | ⟨rfl, e, hy⟩
    · simp only [Option.bind_some]
      rw [← hy, setEl_put _ _ _ hr]
      exact congrArg (fun h => some (V.tu [], h)) hh.symm
    · simp only [e, Option.bind_some]
      rw [← hy, setEl_put _ _ _ hr]
      exact congrArg (fun h => some (V.tu [], h)) hh.symm
end Go.Mx
