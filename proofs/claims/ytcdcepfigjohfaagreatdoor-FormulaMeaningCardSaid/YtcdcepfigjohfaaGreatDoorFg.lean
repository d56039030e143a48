/- Rows of numbers and of clauses: what appending, cloning and freezing do to them. -/
import Derived.Test.YtcdcepfigjohfaaGreatDoorFd
import Derived.Test.YtcdcepfigjohfaaGreatDoorLaw
import Derived.Test.YtcdcepfigjohfaaGreatDoorStr
set_option linter.unusedSimpArgs false
set_option linter.unusedVariables false
set_option linter.unusedSectionVars false
set_option maxRecDepth 100000
namespace Go.Mx.Tryz

theorem optI (k : Nat) (H : Hp) : ∀ m : List Int, optMap (fun e => optMap (view (k + 1) H) e) (rowsI m) = some (celI m)
 | [] => rfl
 | x :: r => by
  show Option.bind (some [I.i .i64 x]) _ = _
  simp only [Option.bind_some]
  have := optI k H r
  show Option.bind (optMap _ (rowsI r)) _ = _
  rw [this]
  rfl
theorem rowsI_sub (l : List Int) (a n : Nat) : ((rowsI l).drop a).take n = rowsI ((l.drop a).take n) := by
 unfold rowsI; rw [List.map_take, List.map_drop]
theorem celI_sub (l : List Int) (a n : Nat) : ((celI l).drop a).take n = celI ((l.drop a).take n) := by
 unfold celI; rw [List.map_take, List.map_drop]
theorem elemsI {H : Hp} {r ver st len base : Nat} {lim fz : Bool} {l : List Int} (h : nth H r = some (.cs 3 1 (rowsI l) base fz)) (hb : base ≤ ver) : elems H (.sl r ver 1 st len lim) = some (rowsI ((l.drop st).take len)) := by
 rw [elems_row, h]
 show gd (Nat.ble base ver && Nat.beq 1 1) (some (((rowsI l).drop st).take len)) = _
 rw [ble_dec, decide_eq_true hb, rowsI_sub]
 rfl
theorem viewI {H : Hp} {r ver st len base : Nat} {lim fz : Bool} {l : List Int} (h : nth H r = some (.cs 3 1 (rowsI l) base fz)) (hb : base ≤ ver) (k : Nat) : view (k + 2) H (.sl r ver 1 st len lim) = some (.sl (celI ((l.drop st).take len))) := by
 show Option.bind (elems H (.sl r ver 1 st len lim)) _ = _
 rw [elemsI h hb]
 show Option.bind (optMap _ (rowsI _)) _ = _
 rw [optI]
 rfl
theorem rowsI_isM (l : List Int) : ((rowsI l).all fun e => e.all isM) = true := by
 simp [rowsI, isM]
theorem rowsI_ok (l : List Int) : ((rowsI l).all fun e => Nat.beq e.length 1 && e.all oneV) = true := by
 simp [rowsI]

def NumO (acc : List Int) (o : V) (H : Hp) : Prop := (acc = [] ∧ o = .m (.nl 4) ∧ H = []) ∨ (acc ≠ [] ∧ o = .sl 0 acc.length 1 0 acc.length false ∧ H = [.cs 3 1 (rowsI acc) 0 false])
theorem numO_push {acc : List Int} {o : V} {H : Hp} (h : NumO acc o H) (hl : acc.length ≤ 1000000) (x : Int) : ∃ o1 H1, (∀ B, appX ⟨B, H⟩ 3 1 8 o [[.m (.i .i64 x)]] = some (o1, ⟨B, H1⟩)) ∧ noFaV o1 = true ∧ NumO (acc ++ [x]) o1 H1 := by
 rcases h with ⟨rfl, rfl, rfl⟩ | ⟨hne, rfl, rfl⟩
 ·exact ⟨_, _, fun B => rfl, rfl, .inr ⟨by simp, rfl, rfl⟩⟩
 ·have ha := fun B => app_row (M := ⟨B, [.cs 3 1 (rowsI acc) 0 false]⟩) (r := 0) (bytes := 8) (xs := [[.m (.i .i64 x)]]) rfl (by simp) (by simp [rowsI_len]; omega) rfl
  simp only [rowsI_len, List.length_cons, List.length_nil, Nat.zero_add, rowsI_snoc, List.set_cons_zero] at ha
  exact ⟨_, _, ha, rfl, .inr ⟨by simp, by simp, rfl⟩⟩

def ClO (c : List Int) (o : V) (H : Hp) (bad : List Nat) : Prop := (c = [] ∧ o = .ls []) ∨ (c ≠ [] ∧ ∃ r, r ∉ bad ∧ o = .sl r c.length 1 0 c.length false ∧ nth H r = some (.cs 3 1 (rowsI c) 0 false))
def OutC (cls : List (List Int)) (o : V) (H : Hp) (bad : List Nat) : Prop := (cls = [] ∧ o = .m (.nl 4)) ∨ (cls ≠ [] ∧ ∃ r, r ∉ bad ∧ o = .sl r cls.length 1 0 cls.length false ∧ nth H r = some (.cs 35 1 (clsR cls) 0 false))
theorem OutC.keep {cls : List (List Int)} {o : V} {H H' : Hp} {bad : List Nat} (h : OutC cls o H bad) (hk : ∀ i, i < H.length → nth H' i = nth H i) : OutC cls o H' bad := by
 rcases h with h | ⟨hne, r, hr, e, h3⟩
 ·exact .inl h
 ·exact .inr ⟨hne, r, hr, e, by rw [hk r (nl_lt h3)]; exact h3⟩
theorem OutC.nf {cls : List (List Int)} {o : V} {H : Hp} {bad : List Nat} (h : OutC cls o H bad) : noFaV o = true ∧ cellsV o = some [o] ∧ oneV o = true ∧ pureX (.len false) [o] = some (.m (.i .i64 cls.length)) := by
 rcases h with ⟨rfl, rfl⟩ | ⟨hne, r, hr, rfl, h3⟩
 ·exact ⟨rfl, rfl, rfl, rfl⟩
 ·exact ⟨rfl, rfl, rfl, rfl⟩
theorem ClO.nf {c : List Int} {o : V} {H : Hp} {bad : List Nat} (h : ClO c o H bad) : noFaV o = true ∧ cellsV o = some [o] ∧ oneV o = true := by
 rcases h with ⟨rfl, rfl⟩ | ⟨hne, r, hr, rfl, h3⟩
 ·exact ⟨rfl, rfl, rfl⟩
 ·exact ⟨rfl, rfl, rfl⟩
theorem clsR_snoc (cls : List (List Int)) (c : List Int) : clsR cls ++ [[.m (.sl (celI c))]] = clsR (cls ++ [c]) := by simp [clsR]
theorem outC_push {cls : List (List Int)} {o : V} {H : Hp} {bad : List Nat} (h : OutC cls o H bad) (hb : ∀ i, i ∈ bad → i < H.length) (hl : cls.length ≤ 1000000) (c : List Int) :
  ∃ o1 H1, (∀ B, appX ⟨B, H⟩ 35 1 24 o [[.m (.sl (celI c))]] = some (o1, ⟨B, H1⟩)) ∧ OutC (cls ++ [c]) o1 H1 bad ∧ H.length ≤ H1.length ∧ (∀ i, i ∈ bad → nth H1 i = nth H i) ∧ (∀ r l b fz, nth H r = some (.cs 3 1 l b fz) → nth H1 r = some (.cs 3 1 l b fz)) := by
 rcases h with ⟨rfl, rfl⟩ | ⟨hne, r, hr, rfl, h3⟩
 ·refine ⟨.sl H.length 1 1 0 1 false, H ++ [.cs 35 1 [[.m (.sl (celI c))]] 0 false], fun B => rfl, .inr ⟨by simp, H.length, fun hm => ?_, rfl, ?_⟩, by simp, fun i hi => ?_, fun r l b fz hr => ?_⟩
  ·have := hb _ hm; omega
  ·exact nl_end H _ 0
  ·exact nl_app _ _ _ (hb i hi)
  ·show nth (H ++ _) r = _
   rw [nl_app _ _ _ (nl_lt hr)]; exact hr
 ·have ha := fun B => app_row (M := ⟨B, H⟩) (bytes := 24) (xs := [[.m (.sl (celI c))]]) h3 (by simp) (by simp; omega) rfl
  simp only [clsR_len, List.length_cons, List.length_nil, Nat.zero_add, clsR_snoc] at ha
  refine ⟨_, _, ha, .inr ⟨by simp, r, hr, by simp, nl_set_eq (nl_lt h3)⟩, by simp, fun i hi => nl_set_ne fun e => hr (by rw [e]; exact hi), fun q l b fz hq => ?_⟩
  by_cases e : r = q
  ·subst e; rw [h3] at hq; cases hq
  ·show nth (H.set r _) q = _
   rw [nl_set_ne e]; exact hq
theorem viewC {cls : List (List Int)} {o : V} {H : Hp} {bad : List Nat} (h : OutC cls o H bad) (k : Nat) : view (k + 2) H o = some (zC cls) := by
 rcases h with ⟨rfl, rfl⟩ | ⟨hne, r, hr, rfl, h3⟩
 ·rfl
 ·have e : elems H (.sl r cls.length 1 0 cls.length false) = some (clsR cls) := by
   rw [elems_row, h3]
   show gd (Nat.ble 0 cls.length && Nat.beq 1 1) (some (((clsR cls).drop 0).take cls.length)) = _
   rw [ble_dec, decide_eq_true (Nat.zero_le _), List.drop_zero, List.take_of_length_le (by simp)]
   rfl
  show Option.bind (elems H (.sl r cls.length 1 0 cls.length false)) _ = _
  rw [e]
  show Option.bind (optMap (fun e => optMap (view (k + 1) H) e) (clsR cls)) _ = _
  have ho : ∀ m : List (List Int), optMap (fun e => optMap (view (k + 1) H) e) (clsR m) = some (ones (zcl m)) := by
   intro m
   induction m with
   | nil => rfl
   | cons x t ih =>
    show Option.bind (some [I.sl (celI x)]) _ = _
    simp only [Option.bind_some]
    show Option.bind (optMap _ (clsR t)) _ = _
    rw [ih]
    rfl
  rw [ho]
  unfold zC
  rw [if_neg hne]
  rfl
theorem freezeI {H : Hp} {r : Nat} {l : List Int} {b : Nat} {fz : Bool} (h : nth H r = some (.cs 3 1 (rowsI l) b fz)) : freeze [r] H = some (H.set r (.cs 3 1 (rowsI l) b true)) := by
 show Option.bind (nth H r) _ = _
 rw [h]
 show Option.bind (gd ((rowsI l).all fun e => e.all isM) (some (Row.cs 3 1 (rowsI l) b true))) _ = _
 rw [rowsI_isM]
 show Option.bind (setEl H r _) _ = _
 rw [setEl_put _ _ _ (nl_lt h)]
 rfl
theorem bsf_clo {c : List Int} {o : V} {H : Hp} {bad : List Nat} (h : ClO c o H bad) : ∃ H2, (∀ B, loudX (fun _ _ _ => none) ⟨B, H⟩ (.bsf 1 [.m (.nl 4)] 1 [0]) [o] = some (.ls [[.sl (celI c)]], ⟨B, H2⟩)) ∧ H2.length = H.length ∧ (∀ i, i ∈ bad → nth H2 i = nth H i) ∧ (∀ cls out bad', OutC cls out H bad' → OutC cls out H2 bad') := by
 rcases h with ⟨rfl, rfl⟩ | ⟨hne, r, hr, rfl, h3⟩
 ·exact ⟨H, fun B => rfl, rfl, fun _ _ => rfl, fun _ _ _ h => h⟩
 ·refine ⟨H.set r (.cs 3 1 (rowsI c) 0 true), fun B => ?_, by simp, fun i hi => nl_set_ne fun e => hr (by rw [e]; exact hi), fun cls out bad' ho => ?_⟩
  ·have e : loudX (fun _ _ _ => none) ⟨B, H⟩ (.bsf 1 [.m (.nl 4)] 1 [0]) [.sl r c.length 1 0 c.length false] = ((optMap (fun e => optMap (view 20 H) e) [[V.sl r c.length 1 0 c.length false]]).bind fun l => (freeze [r] H).bind fun H' => some (.ls l, ⟨B, H'⟩)) := rfl
   have hv := viewI (st := 0) (len := c.length) (ver := c.length) (lim := false) h3 (Nat.zero_le _) 18
   rw [List.drop_zero, List.take_of_length_le (Nat.le_refl _)] at hv
   rw [e, freezeI h3]
   simp only [optMap, hv, Option.bind_some]
  ·rcases ho with ho | ⟨hne', r', hr', e, h4⟩
   ·exact .inl ho
   ·refine .inr ⟨hne', r', hr', e, ?_⟩
    rw [nl_set_ne fun e => by subst e; rw [h3] at h4; cases h4]
    exact h4

theorem clone_row {H : Hp} {r ver st len base : Nat} {lim fz : Bool} {l : List Int} (h : nth H r = some (.cs 3 1 (rowsI l) base fz)) (hb : base ≤ ver) (hl : l.length ≤ 1000000) :
  ∃ o H1, Gives G 32 [.sl r ver 1 st len lim] H o H1 ∧ (∀ bad, (∀ i, i ∈ bad → i < H.length) → ClO ((l.drop st).take len) o H1 bad) ∧ H.length ≤ H1.length ∧ (∀ i, i < H.length → nth H1 i = nth H i) := by
 have he := fun (ver' : Nat) => elemsI (st := st) (len := len) (lim := lim) h hb
 have hle : ((l.drop st).take len).length ≤ l.length := by rw [List.length_take, List.length_drop]; omega
 have hnil : isNil 4 (.sl r ver 1 st len lim) = some false := rfl
 cases hc : (l.drop st).take len with
 | nil =>
  rw [hc] at he
  refine ⟨.ls [], H, .of_ret (ret_sh mono rfl rfl rfl rfl rfl ?_), fun bad _ => .inl ⟨rfl, rfl⟩, Nat.le_refl _, fun _ _ => rfl⟩
  have ha : ∀ B, loudX (fun _ _ _ => none) ⟨B, H⟩ (.app 3 1 8) [.ls [], .sl r ver 1 st len lim] = some (.ls [], ⟨B, H⟩) := fun B => by
   show Option.bind (elems H (.sl r ver 1 st len lim)) _ = _
   rw [he 0]
   rfl
  simp [hnil, -loud_app, ha]
 | cons x t =>
  rw [hc] at he hle
  refine ⟨.sl H.length (x :: t).length 1 0 (x :: t).length false, H ++ [.cs 3 1 (rowsI (x :: t)) 0 false], .of_ret (ret_sh mono rfl rfl rfl rfl rfl ?_), fun bad hbad => .inr ⟨by simp, H.length, fun hm => ?_, rfl, nl_end H _ 0⟩, by simp, fun i hi => nl_app _ _ _ hi⟩
  ·have ha : ∀ B, loudX (fun _ _ _ => none) ⟨B, H⟩ (.app 3 1 8) [.ls [], .sl r ver 1 st len lim] = some (.sl H.length (x :: t).length 1 0 (x :: t).length false, ⟨B, H ++ [.cs 3 1 (rowsI (x :: t)) 0 false]⟩) := fun B => by
    show Option.bind (elems H (.sl r ver 1 st len lim)) _ = _
    rw [he 0]
    show newRow ⟨B, H⟩ 3 1 8 (rowsI (x :: t)) = _
    rw [newRow_eq, rowsI_ok, rowsI_len]
    have : Nat.ble ((x :: t).length * 8) 140737488355328 = true := by rw [ble_dec]; exact decide_eq_true (by omega)
    rw [this]
    rfl
   simp [hnil, -loud_app, ha]
  ·have := hbad _ hm; omega
end Go.Mx.Tryz
