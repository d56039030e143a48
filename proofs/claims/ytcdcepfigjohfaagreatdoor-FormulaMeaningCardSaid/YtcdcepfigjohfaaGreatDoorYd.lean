/- slices.Compact at ints. -/
import Derived.Test.YtcdcepfigjohfaaGreatDoorYb
import Derived.Test.YtcdcepfigjohfaaGreatDoorYc
set_option linter.unusedSimpArgs false
set_option linter.unusedVariables false
set_option linter.unusedSectionVars false
set_option maxRecDepth 100000
namespace Go.Mx.Tryz

@[simp] theorem v_clr (d : Dst) (z : V) (xs : List Opnd) (s : St) (r : List Op) (k : K) : RestC G (some s) (⟨d, .l (.clr z), xs, none⟩ :: r) k = RestC G (stepLC s (.clr z) xs d) r k := v_loud _ _ _ _ _ _ (fun _ h => by cases h) (fun h => by cases h) rfl
theorem st_on {H : Hp} {r ty b : Nat} {m : List I} (h : nth H r = some (.cs ty 1 (onV m) b false)) {i n : Nat} (hn : m.length = n) (hi : i < n) {x : I} (hx : oneV (.m x) = true) (B : List (Nat × List V)) :
  loudX (fun _ _ _ => none) ⟨B, H⟩ (.st 1) [.pt r n i 0, .m x] = some (.un, ⟨B, H.set r (.cs ty 1 (onV (m.set i x)) n false)⟩) := by
 subst hn
 have hc : cellsV (.m x) = some [.m x] := by cases x <;> first | rfl | (simp [oneV] at hx)
 have hs : setEl (onV m) i [V.m x] = some (onV (m.set i x)) := by
  rw [setEl_put _ _ _ (by simpa using hi)]
  simp [onV, List.map_set]
 have hn : nth (onV m) i = some [.m m[i]] := onV_nth (List.getElem?_eq_getElem hi)
 rw [loud_st, hc, Option.bind_some]
 simp only [List.length_cons, List.length_nil, Nat.beq_refl, List.all_cons, hx, List.all_nil, Bool.and_self, gd]
 show Option.bind (writeA ⟨B, H⟩ [.m x] (.pt r m.length i 0)) _ = _
 have e : writeA ⟨B, H⟩ [.m x] (.pt r m.length i 0) = some ⟨B, H.set r (.cs ty 1 (onV (m.set i x)) m.length false)⟩ := by
  rw [writeA_row, h]
  simp only [Option.bind_some, onV_len, Nat.beq_refl, Bool.not_false, Bool.and_self, gd, writeR]
  show Option.bind (Option.bind (nth (onV m) (i + 0)) _) _ = _
  rw [Nat.add_zero, hn]
  show Option.bind (Option.bind (putAt [V.m m[i]] 0 [V.m x]) _) _ = _
  show Option.bind (setEl (onV m) i [V.m x]) _ = _
  rw [hs, Option.bind_some, setEl_put _ _ _ (nl_lt h)]
  simp
 rw [e]
 rfl
theorem clr_on {H : Hp} {r ty b : Nat} {m : List I} (h : nth H r = some (.cs ty 1 (onV m) b false)) {st len n : Nat} {lim : Bool} (hn : m.length = n) {z : I} (hz : oneV (.m z) = true) (B : List (Nat × List V)) :
  loudX (fun _ _ _ => none) ⟨B, H⟩ (.clr (.m z)) [.sl r n 1 st len lim] = some (.tu [], ⟨B, H.set r (.cs ty 1 (onV (m.take st ++ List.replicate len z ++ m.drop (st + len))) n false)⟩) := by
 subst hn
 show Option.bind (nth H r) _ = _
 rw [h]
 show gd (Nat.beq m.length (onV m).length && Nat.beq 1 1 && Nat.beq 1 1 && oneV (.m z)) ((setEl H r (.cs ty 1 (cpyEl (onV m) st (List.replicate len [V.m z])) (onV m).length false)).bind _) = _
 simp only [onV_len, Nat.beq_refl, hz, Bool.and_self, gd]
 rw [setEl_put _ _ _ (nl_lt h), Option.bind_some]
 have e : cpyEl (onV m) st (List.replicate len [V.m z]) = onV (m.take st ++ List.replicate len z ++ m.drop (st + len)) := by
  unfold cpyEl onV
  simp [List.map_take, List.map_drop, List.length_replicate]
 rw [e]
theorem iI_set (l : List Int) (i : Nat) (x : Int) : (iI l).set i (.i .i64 x) = iI (l.set i x) := by simp [iI, List.map_set]

theorem cmpct_snoc {α : Type} [DecidableEq α] : ∀ (l : List α) (a b : α), l.getLast? = some a → cmpct (l ++ [b]) = if a = b then cmpct l else cmpct l ++ [b]
 | [], a, b, h => by simp at h
 | [x], a, b, h => by
  simp at h
  subst h
  show (if x = b then cmpct [b] else x :: cmpct [b]) = _
  by_cases e : x = b
  ·subst e
   rw [if_pos rfl, if_pos rfl]
  ·rw [if_neg e, if_neg e]
   rfl
 | x :: y :: r, a, b, h => by
  have ih := cmpct_snoc (y :: r) a b (by simpa [List.getLast?_cons] using h)
  show (if x = y then cmpct (y :: r ++ [b]) else x :: cmpct (y :: r ++ [b])) = if a = b then (if x = y then cmpct (y :: r) else x :: cmpct (y :: r)) else (if x = y then cmpct (y :: r) else x :: cmpct (y :: r)) ++ [b]
  rw [ih]
  by_cases e : x = y
  ·simp only [e, if_true]
  ·simp only [e, if_false]
   split <;> simp
theorem cmpct_take {l : List Int} {k : Nat} {a b : Int} (h1 : l[k]? = some a) (h2 : l[k + 1]? = some b) : cmpct (l.take (k + 2)) = if a = b then cmpct (l.take (k + 1)) else cmpct (l.take (k + 1)) ++ [b] := by
 rw [take_succ_get h2]
 refine cmpct_snoc _ _ _ ?_
 have hlt := (List.getElem?_eq_some_iff.1 h1).1
 rw [List.getLast?_eq_getElem?, List.length_take, List.getElem?_take]
 rw [if_pos (by omega), show min (k + 1) l.length - 1 = k by omega]
 exact h1
theorem cmpct_len : ∀ l : List Int, (cmpct l).length ≤ l.length
 | [] => Nat.le_refl _
 | [x] => Nat.le_refl _
 | x :: y :: r => by
  have ih := cmpct_len (y :: r)
  show (if x = y then cmpct (y :: r) else x :: cmpct (y :: r)).length ≤ _
  split
  ·simp only [List.length_cons] at ih ⊢
   omega
  ·simp only [List.length_cons] at ih ⊢
   omega

set_option maxHeartbeats 4000000 in
theorem compact_s {l : List Int} {o : V} {H : Hp} {ok : Nat → Prop} (h : LF 3 (iI l) o H ok) (hl : l.length ≤ 1000000) : ∃ o1 H1, Gives G 35 [o] H o1 H1 ∧ LW 3 (iI (cmpct l)) o1 H1 ok ∧ H1.length = H.length ∧ ∀ r, ¬ ok r → nth H1 r = nth H r := by
 refine gives_of_ret (Q := fun o1 H1 => LW 3 (iI (cmpct l)) o1 H1 ok ∧ H1.length = H.length ∧ ∀ r, ¬ ok r → nth H1 r = nth H r) ?_
 have hw := h.toLW
 obtain ⟨o1, o2, o3, o4⟩ := hw.nf
 simp only [iI_len] at o4
 refine ret_sh mono rfl rfl rfl (by simp [o1]) rfl ?_
 generalize hQ : (fun (o1 : V) (H1 : Hp) => LW 3 (iI (cmpct l)) o1 H1 ok ∧ H1.length = H.length ∧ ∀ r, ¬ ok r → nth H1 r = nth H r) = Q
 have qk : ∀ o1 H1, LW 3 (iI (cmpct l)) o1 H1 ok → H1.length = H.length → (∀ r, ¬ ok r → nth H1 r = nth H r) → Q o1 H1 := fun o1 H1 a b c => by rw [← hQ]; exact ⟨a, b, c⟩
 clear hQ
 by_cases h2 : l.length < 2
 ·have h2' : (l.length : Int) < 2 := by omega
  have e : cmpct l = l := by
   match l, h2 with
   | [], _ => rfl
   | [x], _ => rfl
  have k := qk o H (by rw [e]; exact hw) rfl fun _ _ => rfl
  simp (maxSteps := 2000000) (disch := omega) [gd_in, gd_and, wr_i64, o4, h2, h2', setC_v o1, o1]
  exact k
 have h2' : ¬ (l.length : Int) < 2 := by omega
 rcases h with ⟨h0, _⟩ | ⟨r, base, hr, rfl, h3, h4, hne⟩
 ·have : l = [] := by simpa [iI] using h0
  subst this
  simp at h2
 simp only [iI_len] at h4 h3 o4 hw o1 o2 o3 qk ⊢
 simp (maxSteps := 2000000) (disch := omega) [gd_in, gd_and, wr_i64, h2, h2']
 refine (?key : ∀ (k : Nat) (B : List (Nat × List V)), 1 ≤ k → k ≤ l.length → cmpct (l.take k) = l.take k → Run G c35_B1 (S35_1 (.sl r l.length 1 0 l.length false) (.m (.i .i64 (k : Int))) B H) _) 1 _ (Nat.le_refl _) (by omega) (by
  obtain ⟨x, t, rfl⟩ := List.exists_cons_of_ne_nil (show l ≠ [] from fun e => by subst e; simp at h2)
  rfl)
 refine indM (fun k : Nat => l.length - k) fun k ih B hk1 hk hc => ?_
 unfold c35_B1
 cases hx : l[k]? with
 | none =>
  have : k = l.length := by have := List.getElem?_eq_none_iff.1 hx; omega
  subst this
  rw [List.take_length] at hc
  have kq := qk _ H (by rw [hc]; exact hw) rfl fun _ _ => rfl
  simp (maxSteps := 2000000) (disch := omega) [gd_in, gd_and, wr_i64, ]
  exact kq
 | some x =>
  have hlt := (List.getElem?_eq_some_iff.1 hx).1
  have hlt' : (k : Int) < l.length := by omega
  obtain ⟨j, rfl⟩ : ∃ j, k = j + 1 := ⟨k - 1, by omega⟩
  have hlj : j < l.length := by omega
  obtain ⟨a, ha⟩ : ∃ a, l[j]? = some a := ⟨l[j], List.getElem?_eq_getElem hlj⟩
  have hn := onV_nth (iI_get hx)
  have hna := onV_nth (iI_get ha)
  have wj : wr .i64 (((j + 1 : Nat) : Int) - 1) = (j : Int) := by rw [wr_i64 (by omega) (by omega)]; omega
  have wi : wr .i64 (((j + 1 : Nat) : Int) + 1) = ((j + 1 + 1 : Nat) : Int) := wr_i64 (by omega) (by omega)
  have hct := cmpct_take ha hx
  by_cases e : x = a
  ·subst e
   rw [if_pos rfl, hc] at hct
   simp (maxSteps := 2000000) (disch := omega) [gd_in, gd_and, wr_i64, h3, h4, hn, hna, hlt, hlt', hlj, wj, -Int.natCast_add]
   refine (?key2 : ∀ (i kk : Nat) (m : List Int) (b : Nat) (B : List (Nat × List V)) (H2 : Hp), j + 1 + (i + 1) ≤ l.length → kk ≤ j + 1 + i → m.length = l.length → m.take kk = cmpct (l.take (j + 1 + (i + 1))) → m.drop (j + 1 + i) = l.drop (j + 1 + i) → nth H2 r = some (.cs 3 1 (onV (iI m)) b false) → b ≤ l.length → H2.length = H.length → (∀ q, ¬ ok q → nth H2 q = nth H q) →
    Run G c35_B0 (S35_0 (.sl r l.length 1 0 l.length false) (.m (.i .i64 (kk : Int))) (.sl r l.length 1 (j + 1) (l.length - (j + 1)) false) (.m (.i .i64 ((i + 1 : Nat) : Int))) B H2) _) 0 (j + 1) l base _ _ (by omega) (by omega) rfl hct.symm rfl h3 h4 rfl (fun _ _ => rfl)
   clear ih hw h3 h4 o1 o2 o3 o4 hc hct
   refine indM (fun i : Nat => l.length - i) fun i ih kk m b B H2 hi hkk hml hmt hmd hm hb hHl hH => ?_
   unfold c35_B0
   have hlen : pureX (.len false) [.sl r l.length 1 (j + 1) (l.length - (j + 1)) false] = some (.m (.i .i64 ((l.length - (j + 1) : Nat) : Int))) := rfl
   cases hy : l[j + 1 + (i + 1)]? with
   | none =>
    have hil : j + 1 + (i + 1) = l.length := by have := List.getElem?_eq_none_iff.1 hy; omega
    rw [hil, List.take_length] at hmt
    have hkl : kk ≤ l.length := by omega
    have ht : ¬ i + 1 < l.length - (j + 1) := by omega
    have ht' : ¬ ((i + 1 : Nat) : Int) < ((l.length - (j + 1) : Nat) : Int) := by omega
    have hkl' : (kk : Int) ≤ l.length := by omega
    have hcl := fun B => clr_on (st := kk) (len := l.length - kk) (lim := false) hm (by simpa using hml) (z := .i .i64 0) rfl B
    have hfin := qk (.sl r l.length 1 0 kk false) (H2.set r (.cs 3 1 (onV ((iI m).take kk ++ List.replicate (l.length - kk) (.i .i64 0) ++ (iI m).drop (kk + (l.length - kk)))) l.length false)) (.inr ⟨r, (iI m).take kk ++ List.replicate (l.length - kk) (.i .i64 0) ++ (iI m).drop (kk + (l.length - kk)), l.length, false, hr, by
      have e1 : (iI (cmpct l)).length = kk := by rw [← hmt]; first | (simp; done) | (simp; omega)
      rw [e1]
      congr 1
      first | (simp; done) | (simp; omega), nl_set_eq (nl_lt hm), by first | (simp; done) | (simp; omega), by rw [← hmt]; first | (simp; done) | (simp; omega), by
      have e1 : (iI (cmpct l)).length = ((iI m).take kk).length := by rw [← hmt]; simp [iI]
      rw [e1, List.append_assoc, List.take_left]
      rw [← hmt]
      simp [iI]⟩) (by simp [hHl]) (fun q hq => by
      rw [nl_set_ne (show r ≠ q from fun e => hq (by rw [← e]; exact hr))]
      exact hH q hq)
    rw [List.append_assoc, show kk + (l.length - kk) = l.length from by omega] at hfin
    simp (maxSteps := 2000000) (disch := omega) [gd_in, gd_and, wr_i64, ht, ht', hkl, hkl', hcl, -Int.natCast_add]
    exact hfin
   | some y =>
    have hyl := (List.getElem?_eq_some_iff.1 hy).1
    obtain ⟨p, hp⟩ : ∃ p, l[j + 1 + i]? = some p := ⟨l[j + 1 + i], List.getElem?_eq_getElem (by omega)⟩
    have gm : ∀ d, m[j + 1 + i + d]? = l[j + 1 + i + d]? := fun d => by rw [← List.getElem?_drop, hmd, List.getElem?_drop]
    have hny : nth (onV (iI m)) (j + 1 + (i + 1)) = some [.m (.i .i64 y)] := onV_nth (iI_get (by rw [show j + 1 + (i + 1) = j + 1 + i + 1 from by omega, gm, show j + 1 + i + 1 = j + 1 + (i + 1) from by omega]; exact hy))
    have hnp : nth (onV (iI m)) (j + 1 + i) = some [.m (.i .i64 p)] := onV_nth (iI_get (by have := gm 0; rw [Nat.add_zero] at this; rw [this]; exact hp))
    have ht : i + 1 < l.length - (j + 1) := by omega
    have ht' : ((i + 1 : Nat) : Int) < ((l.length - (j + 1) : Nat) : Int) := by omega
    have hil : i < l.length - (j + 1) := by omega
    have wi1 : wr .i64 (((i + 1 : Nat) : Int) - 1) = (i : Int) := by rw [wr_i64 (by omega) (by omega)]; omega
    have wi2 : wr .i64 (((i + 1 : Nat) : Int) + 1) = ((i + 1 + 1 : Nat) : Int) := wr_i64 (by omega) (by omega)
    have wk : wr .i64 ((kk : Int) + 1) = ((kk + 1 : Nat) : Int) := wr_i64 (by omega) (by omega)
    have hct := cmpct_take (k := j + 1 + i) hp (by rw [show j + 1 + i + 1 = j + 1 + (i + 1) from by omega]; exact hy)
    rw [show j + 1 + i + 2 = j + 1 + (i + 1 + 1) from by omega, show j + 1 + i + 1 = j + 1 + (i + 1) from by omega, ← hmt] at hct
    have hmd2 : m.drop (j + 1 + (i + 1)) = l.drop (j + 1 + (i + 1)) := by
     have := congrArg (List.drop 1) hmd
     rwa [List.drop_drop, List.drop_drop] at this
    by_cases e : y = p
    ·subst e
     rw [if_pos rfl] at hct
     have kk2 := fun B => ih (i + 1) (by omega) kk m b B H2 (by omega) (by omega) hml hct.symm hmd2 hm hb hHl hH
     simp (maxSteps := 2000000) (disch := omega) [gd_in, gd_and, wr_i64, ht, ht', hil, wi1, wi2, hm, hb, hny, hnp, -Int.natCast_add]
     exact kk2 _
    ·have e' : ¬ p = y := fun h => e h.symm
     rw [if_neg e'] at hct
     have hkl : kk < l.length := by omega
     have hkl' : (kk : Int) < l.length := by omega
     have hst := fun B => st_on hm (i := kk) (n := l.length) (by simpa using hml) hkl (x := .i .i64 y) rfl B
     rw [iI_set] at hst
     have kk2 := fun B => ih (i + 1) (by omega) (kk + 1) (m.set kk y) l.length B (H2.set r (.cs 3 1 (onV (iI (m.set kk y))) l.length false)) (by omega) (by omega) (by simpa using hml) (by
      rw [hct, take_succ_get (List.getElem?_set_self (by omega)), List.take_set_of_le (Nat.le_refl _)]) (by
      rw [List.drop_set_of_lt (by omega)]
      exact hmd2) (nl_set_eq (nl_lt hm)) (Nat.le_refl _) (by simpa using hHl) (fun q hq => by
      rw [nl_set_ne (show r ≠ q from fun e => hq (by rw [← e]; exact hr))]
      exact hH q hq)
     simp (maxSteps := 2000000) (disch := omega) [gd_in, gd_and, wr_i64, ht, ht', hil, wi1, wi2, wk, hm, hb, hny, hnp, e, hkl, hkl', -loud_st, hst, -Int.natCast_add]
     exact kk2 _
  ·have e' : ¬ a = x := fun h => e h.symm
   rw [if_neg e', hc] at hct
   have kk := ih (j + 1 + 1) (by omega) B (by omega) (by omega) (by rw [hct, take_succ_get hx])
   simp (maxSteps := 2000000) (disch := omega) [gd_in, gd_and, wr_i64, h3, h4, hn, hna, hlt, hlt', hlj, wj, wi, e, -Int.natCast_add]
   exact kk
end Go.Mx.Tryz
