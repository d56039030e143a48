/- slices.CompactFunc at clauses. -/
import Derived.Test.YtcdcepfigjohfaaGreatDoorYd
set_option linter.unusedSimpArgs false
set_option linter.unusedVariables false
set_option linter.unusedSectionVars false
set_option maxRecDepth 100000
namespace Go.Mx.Tryz

def cR (e : I → I → Bool) : List I → List I
 | [] => []
 | b :: t => match t with
  | [] => [b]
  | a :: _ => if e b a = true then cR e t else cR e t ++ [b]
def cB (e : I → I → Bool) (l : List I) : List I := cR e l.reverse
theorem cR_cons (e : I → I → Bool) (b a : I) (r : List I) : cR e (b :: a :: r) = if e b a = true then cR e (a :: r) else cR e (a :: r) ++ [b] := rfl
theorem cB_take {e : I → I → Bool} {l : List I} {k : Nat} {a b : I} (h1 : l[k]? = some a) (h2 : l[k + 1]? = some b) : cB e (l.take (k + 2)) = if e b a = true then cB e (l.take (k + 1)) else cB e (l.take (k + 1)) ++ [b] := by
 unfold cB
 rw [take_succ_get h2, take_succ_get h1]
 simp only [List.reverse_append, List.reverse_cons, List.reverse_nil, List.nil_append, List.singleton_append, List.cons_append]
 exact cR_cons e b a _
theorem cR_len (e : I → I → Bool) : ∀ l : List I, (cR e l).length ≤ l.length
 | [] => Nat.le_refl _
 | [b] => Nat.le_refl _
 | b :: a :: r => by
  have ih := cR_len e (a :: r)
  rw [cR_cons]
  split
  ·simp only [List.length_cons] at ih ⊢
   omega
  ·simp only [List.length_append, List.length_cons, List.length_nil] at ih ⊢
   omega
theorem cR_mem (e : I → I → Bool) {x : I} : ∀ l : List I, x ∈ cR e l → x ∈ l
 | [], h => h
 | [b], h => h
 | b :: a :: r, h => by
  rw [cR_cons] at h
  split at h
  ·exact List.mem_cons_of_mem _ (cR_mem e (a :: r) h)
  ·rcases List.mem_append.1 h with h | h
   ·exact List.mem_cons_of_mem _ (cR_mem e (a :: r) h)
   ·rw [List.mem_singleton] at h
    subst h
    simp
theorem cB_mem {e : I → I → Bool} {x : I} {l : List I} (h : x ∈ cB e l) : x ∈ l := by
 have := cR_mem e _ h
 simpa using this
theorem cB_map {β : Type} [DecidableEq β] {e : I → I → Bool} {f : I → β} : ∀ l : List I, (∀ x, x ∈ l → ∀ y, y ∈ l → e x y = decide (f x = f y)) → (cR e l).map f = cmpct ((l.reverse).map f)
 | [], _ => rfl
 | [b], _ => rfl
 | b :: a :: r, h => by
  have ih := cB_map (e := e) (f := f) (a :: r) fun x hx y hy => h x (List.mem_cons_of_mem _ hx) y (List.mem_cons_of_mem _ hy)
  rw [cR_cons, h b (by simp) a (by simp), List.reverse_cons, List.map_append]
  have hl : ((a :: r).reverse.map f).getLast? = some (f a) := by simp
  rw [show [b].map f = [f b] from rfl, cmpct_snoc _ (f a) (f b) hl, ← ih]
  by_cases k : f b = f a
  ·rw [if_pos (decide_eq_true k), if_pos k.symm]
  ·rw [if_neg (by simpa using k), if_neg fun e => k e.symm, List.map_append]
   rfl

set_option maxHeartbeats 4000000 in
theorem compactF_s {ty : Nat} {l : List I} {o : V} {H : Hp} {ok : Nat → Prop} (h : LF ty l o H ok) (hl : l.length ≤ 1000000) (ha : noAg l) {f : Nat} {cap : List V} {eq : I → I → Bool} (hcap : (cap.all noFaV) = true) (hcl : ∀ H', (∀ q, ¬ ok q → nth H' q = nth H q) → ∀ x, x ∈ l → ∀ y, y ∈ l → Gives G f (.m x :: .m y :: cap) H' (.m (.b (eq x y))) H') : ∃ o1 H1, Gives G 39 [o, .fn f cap] H o1 H1 ∧ LW ty (cB eq l) o1 H1 ok ∧ H1.length = H.length ∧ ∀ r, ¬ ok r → nth H1 r = nth H r := by
 refine gives_of_ret (Q := fun o1 H1 => LW ty (cB eq l) o1 H1 ok ∧ H1.length = H.length ∧ ∀ r, ¬ ok r → nth H1 r = nth H r) ?_
 have hw := h.toLW
 obtain ⟨o1, o2, o3, o4⟩ := hw.nf
 refine ret_sh mono rfl rfl rfl (by simp [o1]) rfl ?_
 generalize hQ : (fun (o1 : V) (H1 : Hp) => LW ty (cB eq l) o1 H1 ok ∧ H1.length = H.length ∧ ∀ r, ¬ ok r → nth H1 r = nth H r) = Q
 have qk : ∀ o1 H1, LW ty (cB eq l) o1 H1 ok → H1.length = H.length → (∀ r, ¬ ok r → nth H1 r = nth H r) → Q o1 H1 := fun o1 H1 a b c => by rw [← hQ]; exact ⟨a, b, c⟩
 clear hQ
 by_cases h2 : l.length < 2
 ·have h2' : (l.length : Int) < 2 := by omega
  have e : cB eq l = l := by
   match l, h2 with
   | [], _ => rfl
   | [x], _ => rfl
  have k := qk o H (by rw [e]; exact hw) rfl fun _ _ => rfl
  simp (maxSteps := 2000000) (disch := omega) [gd_in, gd_and, wr_i64, o4, h2, h2', setC_v o1, o1]
  exact k
 have h2' : ¬ (l.length : Int) < 2 := by omega
 rcases h with ⟨h0, _⟩ | ⟨r, base, hr, rfl, h3, h4, hne⟩
 ·have : l = [] := h0
  subst this
  simp at h2
 simp (maxSteps := 2000000) (disch := omega) [gd_in, gd_and, wr_i64, h2, h2']
 refine (?key : ∀ (k : Nat) (B : List (Nat × List V)), 1 ≤ k → k ≤ l.length → cB eq (l.take k) = l.take k → Run G c39_B1 (S39_1 (.sl r l.length 1 0 l.length false) (.fn f cap) (.m (.i .i64 (k : Int))) B H) _) 1 _ (Nat.le_refl _) (by omega) (by
  obtain ⟨x, t, rfl⟩ := List.exists_cons_of_ne_nil (show l ≠ [] from fun e => by subst e; simp at h2)
  rfl)
 refine indM (fun k : Nat => l.length - k) fun k ih B hk1 hk hc => ?_
 unfold c39_B1
 cases hx : l[k]? with
 | none =>
  have : k = l.length := by have := List.getElem?_eq_none_iff.1 hx; omega
  subst this
  rw [List.take_length] at hc
  have kq := qk _ H (by rw [hc]; exact hw) rfl fun _ _ => rfl
  simp (maxSteps := 2000000) (disch := omega) [gd_in, gd_and, wr_i64, ]
  exact kq
 | some x =>
  have hlt := (List.getElem?_eq_some_iff.1 hx).1
  have hlt' : (k : Int) < l.length := by omega
  obtain ⟨j, rfl⟩ : ∃ j, k = j + 1 := ⟨k - 1, by omega⟩
  have hlj : j < l.length := by omega
  obtain ⟨a, ha'⟩ : ∃ a, l[j]? = some a := ⟨l[j], List.getElem?_eq_getElem hlj⟩
  have hn := onV_nth hx
  have hna := onV_nth ha'
  have wj : wr .i64 (((j + 1 : Nat) : Int) - 1) = (j : Int) := by rw [wr_i64 (by omega) (by omega)]; omega
  have wi : wr .i64 (((j + 1 : Nat) : Int) + 1) = ((j + 1 + 1 : Nat) : Int) := wr_i64 (by omega) (by omega)
  have hct := cB_take (e := eq) ha' hx
  have gc := hcl H (fun _ _ => rfl) x (List.mem_of_getElem? hx) a (List.mem_of_getElem? ha')
  cases e : eq x a with
  | true =>
   rw [e] at gc
   rw [e, if_pos rfl, hc] at hct
   simp (maxSteps := 2000000) (disch := omega) [gd_in, gd_and, wr_i64, h3, h4, hn, hna, hlt, hlt', hlj, wj, cl gc, -Int.natCast_add]
   refine (?key2 : ∀ (i kk : Nat) (m : List I) (b : Nat) (B : List (Nat × List V)) (H2 : Hp), j + 1 + (i + 1) ≤ l.length → kk ≤ j + 1 + i → m.length = l.length → m.take kk = cB eq (l.take (j + 1 + (i + 1))) → m.drop (j + 1 + i) = l.drop (j + 1 + i) → nth H2 r = some (.cs ty 1 (onV m) b false) → b ≤ l.length → H2.length = H.length → (∀ q, ¬ ok q → nth H2 q = nth H q) →
    Run G c39_B0 (S39_0 (.sl r l.length 1 0 l.length false) (.fn f cap) (.m (.i .i64 (kk : Int))) (.sl r l.length 1 (j + 1) (l.length - (j + 1)) false) (.m (.i .i64 ((i + 1 : Nat) : Int))) B H2) _) 0 (j + 1) l base _ _ (by omega) (by omega) rfl hct.symm rfl h3 h4 rfl (fun _ _ => rfl)
   clear ih hw h3 h4 o1 o2 o3 o4 hc hct gc
   refine indM (fun i : Nat => l.length - i) fun i ih kk m b B H2 hi hkk hml hmt hmd hm hb hHl hH => ?_
   unfold c39_B0
   have hlen : pureX (.len false) [.sl r l.length 1 (j + 1) (l.length - (j + 1)) false] = some (.m (.i .i64 ((l.length - (j + 1) : Nat) : Int))) := rfl
   cases hy : l[j + 1 + (i + 1)]? with
   | none =>
    have hil : j + 1 + (i + 1) = l.length := by have := List.getElem?_eq_none_iff.1 hy; omega
    rw [hil, List.take_length] at hmt
    have hkl : kk ≤ l.length := by omega
    have ht : ¬ i + 1 < l.length - (j + 1) := by omega
    have ht' : ¬ ((i + 1 : Nat) : Int) < ((l.length - (j + 1) : Nat) : Int) := by omega
    have hkl' : (kk : Int) ≤ l.length := by omega
    have hcr := fun B => clr_on (st := kk) (len := l.length - kk) (lim := false) hm (by simpa using hml) (z := .nl 4) rfl B
    have hfin := qk (.sl r l.length 1 0 kk false) (H2.set r (.cs ty 1 (onV (m.take kk ++ List.replicate (l.length - kk) (.nl 4) ++ m.drop (kk + (l.length - kk)))) l.length false)) (.inr ⟨r, m.take kk ++ List.replicate (l.length - kk) (.nl 4) ++ m.drop (kk + (l.length - kk)), l.length, false, hr, by
      have e1 : (cB eq l).length = kk := by rw [← hmt]; first | (simp; done) | (simp; omega)
      rw [e1]
      congr 1
      first | (simp; done) | (simp; omega), nl_set_eq (nl_lt hm), by first | (simp; done) | (simp; omega), by rw [← hmt]; first | (simp; done) | (simp; omega), by
      have e1 : (cB eq l).length = (m.take kk).length := by rw [← hmt]
      rw [e1, List.append_assoc, List.take_left]
      exact hmt⟩) (by simp [hHl]) (fun q hq => by
      rw [nl_set_ne (show r ≠ q from fun e => hq (by rw [← e]; exact hr))]
      exact hH q hq)
    rw [List.append_assoc, show kk + (l.length - kk) = l.length from by omega] at hfin
    simp (maxSteps := 2000000) (disch := omega) [gd_in, gd_and, wr_i64, ht, ht', hkl, hkl', hcr, -Int.natCast_add]
    exact hfin
   | some y =>
    have hyl := (List.getElem?_eq_some_iff.1 hy).1
    obtain ⟨p, hp⟩ : ∃ p, l[j + 1 + i]? = some p := ⟨l[j + 1 + i], List.getElem?_eq_getElem (by omega)⟩
    have gm : ∀ d, m[j + 1 + i + d]? = l[j + 1 + i + d]? := fun d => by rw [← List.getElem?_drop, hmd, List.getElem?_drop]
    have hny : nth (onV m) (j + 1 + (i + 1)) = some [.m y] := onV_nth ( (by rw [show j + 1 + (i + 1) = j + 1 + i + 1 from by omega, gm, show j + 1 + i + 1 = j + 1 + (i + 1) from by omega]; exact hy))
    have hnp : nth (onV m) (j + 1 + i) = some [.m p] := onV_nth ( (by have := gm 0; rw [Nat.add_zero] at this; rw [this]; exact hp))
    have ht : i + 1 < l.length - (j + 1) := by omega
    have ht' : ((i + 1 : Nat) : Int) < ((l.length - (j + 1) : Nat) : Int) := by omega
    have hil : i < l.length - (j + 1) := by omega
    have wi1 : wr .i64 (((i + 1 : Nat) : Int) - 1) = (i : Int) := by rw [wr_i64 (by omega) (by omega)]; omega
    have wi2 : wr .i64 (((i + 1 : Nat) : Int) + 1) = ((i + 1 + 1 : Nat) : Int) := wr_i64 (by omega) (by omega)
    have wk : wr .i64 ((kk : Int) + 1) = ((kk + 1 : Nat) : Int) := wr_i64 (by omega) (by omega)
    have hct := cB_take (e := eq) (k := j + 1 + i) hp (by rw [show j + 1 + i + 1 = j + 1 + (i + 1) from by omega]; exact hy)
    rw [show j + 1 + i + 2 = j + 1 + (i + 1 + 1) from by omega, show j + 1 + i + 1 = j + 1 + (i + 1) from by omega, ← hmt] at hct
    have hmd2 : m.drop (j + 1 + (i + 1)) = l.drop (j + 1 + (i + 1)) := by
     have := congrArg (List.drop 1) hmd
     rwa [List.drop_drop, List.drop_drop] at this
    have gc := hcl H2 hH y (List.mem_of_getElem? hy) p (List.mem_of_getElem? hp)
    cases e : eq y p with
    | true =>
     rw [e] at gc
     rw [e, if_pos rfl] at hct
     have kk2 := fun B => ih (i + 1) (by omega) kk m b B H2 (by omega) (by omega) hml hct.symm hmd2 hm hb hHl hH
     simp (maxSteps := 2000000) (disch := omega) [gd_in, gd_and, wr_i64, ht, ht', hil, wi1, wi2, hm, hb, hny, hnp, cl gc, -Int.natCast_add]
     exact kk2 _
    | false =>
     rw [e] at gc
     rw [e, if_neg (by simp)] at hct
     have hkl : kk < l.length := by omega
     have hkl' : (kk : Int) < l.length := by omega
     have hst := fun B => st_on hm (i := kk) (n := l.length) (by simpa using hml) hkl (x := y) (ha y (List.mem_of_getElem? hy)) B
     have kk2 := fun B => ih (i + 1) (by omega) (kk + 1) (m.set kk y) l.length B (H2.set r (.cs ty 1 (onV (m.set kk y)) l.length false)) (by omega) (by omega) (by simpa using hml) (by
      rw [hct, take_succ_get (List.getElem?_set_self (by omega)), List.take_set_of_le (Nat.le_refl _)]) (by
      rw [List.drop_set_of_lt (by omega)]
      exact hmd2) (nl_set_eq (nl_lt hm)) (Nat.le_refl _) (by simpa using hHl) (fun q hq => by
      rw [nl_set_ne (show r ≠ q from fun e => hq (by rw [← e]; exact hr))]
      exact hH q hq)
     simp (maxSteps := 2000000) (disch := omega) [gd_in, gd_and, wr_i64, ht, ht', hil, wi1, wi2, wk, hm, hb, hny, hnp, cl gc, hkl, hkl', -loud_st, hst, -Int.natCast_add]
     exact kk2 _
  | false =>
   rw [e] at gc
   rw [e, if_neg (by simp), hc] at hct
   have kk := ih (j + 1 + 1) (by omega) B (by omega) (by omega) (by rw [hct, take_succ_get hx])
   simp (maxSteps := 2000000) (disch := omega) [gd_in, gd_and, wr_i64, h3, h4, hn, hna, hlt, hlt', hlj, wj, wi, cl gc, -Int.natCast_add]
   exact kk
end Go.Mx.Tryz
