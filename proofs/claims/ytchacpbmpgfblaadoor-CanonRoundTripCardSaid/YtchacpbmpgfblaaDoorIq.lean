/- The image of a pattern: both texts give the same; when it is a pattern. -/
import Derived.Test.YtchacpbmpgfblaaDoorHm
set_option linter.unusedSimpArgs false
set_option linter.unusedVariables false
set_option linter.unusedSectionVars false
set_option maxRecDepth 100000
namespace Go.Mx.Tryd
open Go.Sort Go.Lib Go.Proofs

def OutI (f : List Ce) (o : V) (H : Hp) : Prop := (f = [] ∧ o = .m (.nl 4) ∧ H = []) ∨ (f ≠ [] ∧ o = .sl 1 f.length 3 0 f.length false ∧ nth H 1 = some (.cs 43 3 (rows3 f) 0 false))
theorem outI_nf {f : List Ce} {o : V} {H : Hp} (h : OutI f o H) : noFaV o = true := by
 rcases h with ⟨_, rfl, _⟩ | ⟨_, rfl, _⟩ <;> rfl
theorem outI_push {f : List Ce} {o : V} {H : Hp} (h : OutI f o H) (hl : f.length ≤ 1000000) (q : Row) (c : Ce) : ∃ o1 H1, (∀ B, appX ⟨B, H ++ [q]⟩ 43 3 24 o [[.m (.i .i64 c.x), .m (.i .i64 c.y), .m (.i .i64 c.s)]] = some (o1, ⟨B, H1⟩)) ∧ noFaV o1 = true ∧ OutI (f ++ [c]) o1 H1 := by
 rcases h with ⟨rfl, rfl, rfl⟩ | ⟨hne, rfl, h1⟩
 ·exact ⟨_, _, fun B => rfl, rfl, .inr ⟨by simp, rfl, rfl⟩⟩
 ·have h2 : nth (H ++ [q]) 1 = some (.cs 43 3 (rows3 f) 0 false) := by rw [nl_app _ _ _ (nl_lt h1)]; exact h1
  have ha := fun B => app_row (M := ⟨B, H ++ [q]⟩) (r := 1) (bytes := 24) (xs := [[.m (.i .i64 c.x), .m (.i .i64 c.y), .m (.i .i64 c.s)]]) h2 (by simp) (by simp; omega) rfl
  simp only [rows3_len, List.length_cons, List.length_nil, Nat.zero_add, rows3_snoc] at ha
  refine ⟨_, _, ha, rfl, .inr ⟨by simp, by simp, ?_⟩⟩
  exact nl_set_eq (nl_lt h2)
theorem setEl_lst {α : Type} (l : List α) (x y : α) : setEl (l ++ [x]) l.length y = some (l ++ [y]) := by
 rw [setEl_put _ _ _ (by simp)]
 simp
def lowK (g : Ce → Int) : List Ce → Int
 | [] => 0
 | c :: r => mnF (g c) ((c :: r).map g)
theorem lowK_snoc (g : Ce → Int) (p : List Ce) (c : Ce) (i : Nat) (hi : p.length = i) : lowK g (p ++ [c]) = if i = 0 ∨ g c < lowK g p then g c else lowK g p := by
 cases p with
 | nil => simp at hi; subst hi; simp [lowK, mnF]
 | cons d r =>
  have h0 : ¬ i = 0 := by simp at hi; omega
  have e : ((d :: r) ++ [c]).map g = (d :: r).map g ++ [g c] := by simp
  show mnF (g d) (((d :: r) ++ [c]).map g) = _
  rw [e, mnF_snoc]
  show min (lowK g (d :: r)) (g c) = _
  simp only [h0, false_or]
  rw [Int.min_def]
  split <;> split <;> omega
theorem w3_x {g : List Ce} {j : Nat} {c : Ce} (h : g[j]? = some c) (x : Int) : writeR 3 (rows3 g) j 0 [.m (.i .i64 x)] = some (rows3 (g.set j ⟨x, c.y, c.s⟩)) := by
 show (nth (rows3 g) j).bind _ = _
 rw [rows3_nth h]
 show setEl (rows3 g) j [.m (.i .i64 x), .m (.i .i64 c.y), .m (.i .i64 c.s)] = _
 rw [setEl_put _ _ _ (by simpa using (get_drop h).1)]
 simp [rows3, List.map_set, ceRw, Ce.i]
theorem w3_y {g : List Ce} {j : Nat} {c : Ce} (h : g[j]? = some c) (y : Int) : writeR 3 (rows3 g) j 1 [.m (.i .i64 y)] = some (rows3 (g.set j ⟨c.x, y, c.s⟩)) := by
 show (nth (rows3 g) j).bind _ = _
 rw [rows3_nth h]
 show setEl (rows3 g) j [.m (.i .i64 c.x), .m (.i .i64 y), .m (.i .i64 c.s)] = _
 rw [setEl_put _ _ _ (by simpa using (get_drop h).1)]
 simp [rows3, List.map_set, ceRw, Ce.i]
theorem r3_x {g : List Ce} {j : Nat} {c : Ce} (h : g[j]? = some c) : readR 3 (rows3 g) j 0 1 = some [.m (.i .i64 c.x)] := by
 show (nth (rows3 g) j).bind _ = _
 rw [rows3_nth h]
 rfl
theorem r3_y {g : List Ce} {j : Nat} {c : Ce} (h : g[j]? = some c) : readR 3 (rows3 g) j 1 1 = some [.m (.i .i64 c.y)] := by
 show (nth (rows3 g) j).bind _ = _
 rw [rows3_nth h]
 rfl
theorem lowK_x (f : List Ce) : lowK Ce.x f = lowX f := by cases f <;> rfl
theorem lowK_y (f : List Ce) : lowK Ce.y f = lowY f := by cases f <;> rfl
theorem low_bnd (g : Ce → Int) {f : List Ce} (h : ∀ c, c ∈ f → -1048576 ≤ g c ∧ g c ≤ 1048576) (hne : f ≠ []) : -1048576 ≤ lowK g f ∧ lowK g f ≤ 1048576 := by
 obtain ⟨c, r, rfl⟩ := List.exists_cons_of_ne_nil hne
 have hb := h c (List.mem_cons_self ..)
 have h1 : mnF (g c) ((c :: r).map g) ≤ g c := (mnF_ge _ _).1
 have h2 : -1048576 ≤ mnF (g c) ((c :: r).map g) := mnF_le _ _ _ ⟨by omega, fun y hy => by
  obtain ⟨d, hd, rfl⟩ := List.mem_map.1 hy
  have := h d hd
  omega⟩
 show -1048576 ≤ mnF (g c) ((c :: r).map g) ∧ mnF (g c) ((c :: r).map g) ≤ 1048576
 omega
theorem move_apart (a b : Int) {p : List Ce} (h : p.Pairwise apart) : (p.map (mvC a b)).Pairwise apart := by
 rw [List.pairwise_map]
 refine h.imp fun {c d} h h2 => h ?_
 obtain ⟨h3, h4⟩ := h2
 simp only [mvC] at h3 h4
 omega
set_option maxHeartbeats 2000000 in
theorem image_r {v : I} {p : List Ce} (hv : IsSl v (cells3 p)) (hp : right p = true) (k : Int) (hk : -9223372036854775808 ≤ k ∧ k ≤ 9223372036854775807) (H : Hp)
  (hb : ∀ c, c ∈ homeC (p.map (tnC (modS k))) → good c = true) : Gives G 17 [.m v, .m (.i .i64 k)] H (.m (zP (sortI (homeC (p.map (tnC (modS k))))))) H := by
 have hl : p.length ≤ 5000 := (right_pw hp).2.2
 have hr := hv.rules
 simp only [show (cells3 p).length = p.length from by simp [cells3]] at hr
 refine gives_pur rfl rfl rfl rfl rfl ?_
 simp (maxSteps := 2000000) (disch := omega) [gd_in, gd_and, wr_i64, hr]
 refine (?key : ∀ (i : Nat) (f : List Ce) (o : V) (x y : Int) (B : List (Nat × List V)) (H1 : Hp), i ≤ p.length → f = (p.take i).map (tnC (modS k)) → x = lowK Ce.x f → y = lowK Ce.y f → OutI f o H1 → Run G c17_B0 (S17_0 (.m v) (.m (.i .i64 k)) (.m (.i .i64 x)) (.m (.i .i64 y)) o (.m (.i .i64 (i : Int))) B H1) _) 0 [] _ 0 0 _ _ (Nat.zero_le _) rfl rfl rfl (.inl ⟨rfl, rfl, rfl⟩)
 refine indM (fun i : Nat => p.length - i) fun i ih f o x y B H1 hi hf hx0 hy0 ho => ?_
 unfold c17_B0
 have hfl : f.length = i := by rw [hf, List.length_map, List.length_take]; omega
 cases hx : p[i]? with
 | some c =>
  have hlt := (get_drop hx).1
  have hlt' : (i : Int) < p.length := by omega
  have hn := cells3_nth hx
  have wi : wr .i64 ((i : Int) + 1) = (i : Int) + 1 := wr_i64 (by omega) (by omega)
  have htk : p.take (i + 1) = p.take i ++ [c] := take_succ_get hx
  have hbd := right_bnd hp (List.mem_of_getElem? hx)
  have ga := fun H => apply_r k c.x c.y hk (by omega) (by omega) H
  have he : f ++ [tnC (modS k) c] = (p.take (i + 1)).map (tnC (modS k)) := by rw [htk, hf]; simp
  have hnf := outI_nf ho
  have sx := lowK_snoc Ce.x f (tnC (modS k) c) i hfl
  have sy := lowK_snoc Ce.y f (tnC (modS k) c) i hfl
  obtain ⟨o1, H2, ha, hn1, ho1⟩ := outI_push ho (by omega) (.cs 61 2 [[.m (.i .i64 (tnC (modS k) c).x), .m (.i .i64 (tnC (modS k) c).y)]] 1 false) (tnC (modS k) c)
  have e1 : (tnC (modS k) c).x = (appT (modS k) c.x c.y).1 := rfl
  have e2 : (tnC (modS k) c).y = (appT (modS k) c.x c.y).2 := rfl
  have e3 : (tnC (modS k) c).s = c.s := rfl
  simp only [e1, e2, e3] at ha sx sy
  generalize hq : tnC (modS k) c = q at *
  generalize (appT (modS k) c.x c.y).1 = tx at *
  generalize (appT (modS k) c.x c.y).2 = ty at *
  have hse := fun y => setEl_lst H1 (Row.cs 61 2 [[.m (.i .i64 0), .m (.i .i64 0)]] 0 false) y
  have hne := fun (y : Row) => nl_end H1 [y] 0
  simp only [Nat.add_zero] at hne
  have hn0 : ∀ y : Row, nth [y] 0 = some y := fun _ => rfl
  have hw : writeR 2 [[V.m (.i .i64 0), V.m (.i .i64 0)]] 0 0 [V.m (.i .i64 tx), V.m (.i .i64 ty)] = some [[V.m (.i .i64 tx), V.m (.i .i64 ty)]] := rfl
  have hr0 : readR 2 [[V.m (.i .i64 tx), V.m (.i .i64 ty)]] 0 0 1 = some [V.m (.i .i64 tx)] := rfl
  have hr1 : readR 2 [[V.m (.i .i64 tx), V.m (.i .i64 ty)]] 0 1 1 = some [V.m (.i .i64 ty)] := rfl
  by_cases h0 : i = 0
  ·have sx' : tx = lowK Ce.x (f ++ [q]) := by rw [sx, if_pos (.inl h0)]
   have sy' : ty = lowK Ce.y (f ++ [q]) := by rw [sy, if_pos (.inl h0)]
   have ih1 := ih (i + 1) (by omega) (f ++ [q]) o1 tx ty B H2 (by omega) he sx' sy' ho1
   clear ih sx sy sx' sy' he hf ho ho1 hx0 hy0 hi hfl hnf hx htk
   subst h0
   simp (maxSteps := 2000000) (disch := omega) [gd_in, gd_and, wr_i64, hr, hlt, hn, cl (ga _), hse, hne, hn0, hw, hr0, hr1, gcall_cx, ha, setC_v hn1]
   exact ih1
  ·have h0' : ¬ (i : Int) = 0 := by omega
   by_cases hx1 : tx < x
   ·by_cases hy1 : ty < y
    ·
     simp (maxSteps := 2000000) (disch := omega) [gd_in, gd_and, wr_i64, hr, hlt, hlt', hn, wi, cl (ga _), hse, hne, hn0, hw, hr0, hr1, h0, h0', hx1, hy1, ha, setC_v hn1]
     exact ih (i + 1) (by omega) _ _ _ _ _ _ (by omega) he (by rw [sx, if_pos (.inr (by rw [← hx0]; exact hx1))]) (by rw [sy, if_pos (.inr (by rw [← hy0]; exact hy1))]) ho1
    ·
     simp (maxSteps := 2000000) (disch := omega) [gd_in, gd_and, wr_i64, hr, hlt, hlt', hn, wi, cl (ga _), hse, hne, hn0, hw, hr0, hr1, h0, h0', hx1, hy1, ha, setC_v hn1]
     exact ih (i + 1) (by omega) _ _ _ _ _ _ (by omega) he (by rw [sx, if_pos (.inr (by rw [← hx0]; exact hx1))]) (by rw [sy, if_neg (not_or.2 ⟨h0, by rw [← hy0]; exact hy1⟩)]; exact hy0) ho1
   ·by_cases hy1 : ty < y
    ·
     simp (maxSteps := 2000000) (disch := omega) [gd_in, gd_and, wr_i64, hr, hlt, hlt', hn, wi, cl (ga _), hse, hne, hn0, hw, hr0, hr1, h0, h0', hx1, hy1, ha, setC_v hn1]
     exact ih (i + 1) (by omega) _ _ _ _ _ _ (by omega) he (by rw [sx, if_neg (not_or.2 ⟨h0, by rw [← hx0]; exact hx1⟩)]; exact hx0) (by rw [sy, if_pos (.inr (by rw [← hy0]; exact hy1))]) ho1
    ·
     simp (maxSteps := 2000000) (disch := omega) [gd_in, gd_and, wr_i64, hr, hlt, hlt', hn, wi, cl (ga _), hse, hne, hn0, hw, hr0, hr1, h0, h0', hx1, hy1, ha, setC_v hn1]
     exact ih (i + 1) (by omega) _ _ _ _ _ _ (by omega) he (by rw [sx, if_neg (not_or.2 ⟨h0, by rw [← hx0]; exact hx1⟩)]; exact hx0) (by rw [sy, if_neg (not_or.2 ⟨h0, by rw [← hy0]; exact hy1⟩)]; exact hy0) ho1
 | none =>
  have : i = p.length := by have := List.getElem?_eq_none_iff.1 hx; omega
  subst this
  clear ih hx hi
  rw [List.take_length] at hf
  rw [lowK_x] at hx0
  rw [lowK_y] at hy0
  simp (maxSteps := 2000000) (disch := omega) [gd_in, gd_and, wr_i64, hr]
  have hbnd : ∀ c, c ∈ f → (-1048576 ≤ c.x ∧ c.x ≤ 1048576) ∧ (-1048576 ≤ c.y ∧ c.y ≤ 1048576) := fun c hc => by
   rw [hf] at hc
   obtain ⟨d, hd, rfl⟩ := List.mem_map.1 hc
   have hb := right_bnd hp hd
   exact appT_bnd hb.1 hb.2.1
  rcases ho with ⟨h1, rfl, rfl⟩ | ⟨hne, rfl, hn1⟩
  ·have : p = [] := by cases p with | nil => rfl | cons a b => simp [h1] at hf
   subst this
   unfold c17_B1
   have gf := fun H => refFrom_r (p := []) isSl_nil (by simp) (by simp) List.Pairwise.nil H
   simp (maxSteps := 2000000) (disch := omega) [gd_in, gd_and, wr_i64, cl (gf _)]
   rfl
  ·have hxb : -1048576 ≤ x ∧ x ≤ 1048576 := by
    rw [hx0]
    rw [← lowK_x]
    exact low_bnd Ce.x (fun c hc => (hbnd c hc).1) hne
   have hyb : -1048576 ≤ y ∧ y ≤ 1048576 := by
    rw [hy0]
    rw [← lowK_y]
    exact low_bnd Ce.y (fun c hc => (hbnd c hc).2) hne
   refine (?key2 : ∀ (j b : Nat) (g : List Ce) (B : List (Nat × List V)) (H1 : Hp), j ≤ f.length → b ≤ f.length → g = (f.take j).map (mvC x y) ++ f.drop j → nth H1 1 = some (.cs 43 3 (rows3 g) b false) → Run G c17_B1 (S17_1 (.m (.i .i64 x)) (.m (.i .i64 y)) (.sl 1 f.length 3 0 f.length false) (.m (.i .i64 (j : Int))) B H1) _) 0 0 f _ _ (Nat.zero_le _) (Nat.zero_le _) (by simp) hn1
   clear hn1 H1 B
   refine indM (fun j : Nat => f.length - j) fun j ih b g B H1 hj hbl hg hn1 => ?_
   have hgl : g.length = f.length := by rw [hg, List.length_append, List.length_map, List.length_take, List.length_drop]; omega
   unfold c17_B1
   cases hx : f[j]? with
   | some c =>
    have hlt := (get_drop hx).1
    have hlt' : (j : Int) < f.length := by omega
    have wj : wr .i64 ((j : Int) + 1) = (j : Int) + 1 := wr_i64 (by omega) (by omega)
    have hbc := hbnd c (List.mem_of_getElem? hx)
    have w1 : wr .i64 (c.x - x) = c.x - x := wr_i64 (by omega) (by omega)
    have w2 : wr .i64 (c.y - y) = c.y - y := wr_i64 (by omega) (by omega)
    have htl : ((f.take j).map (mvC x y)).length = j := by rw [List.length_map, List.length_take]; omega
    have hgc : g[j]? = some c := by
     rw [hg, List.getElem?_append_right (by omega), htl, Nat.sub_self, (get_drop hx).2]
     rfl
    have hgc1 : (g.set j ⟨c.x - x, c.y, c.s⟩)[j]? = some ⟨c.x - x, c.y, c.s⟩ := by
     rw [List.getElem?_set_self (by omega)]
    have rx := r3_x hgc
    have ry := r3_y hgc1
    have wx := w3_x hgc (c.x - x)
    have wy := w3_y hgc1 (c.y - y)
    rw [List.set_set] at wy
    have hlH := nl_lt hn1
    have hs1 := fun r => setEl_put H1 1 r hlH
    have hs2 := fun a r => setEl_put (H1.set 1 a) 1 r (by simpa using hlH)
    have hn2 := fun (a : Row) => nl_set_eq (x := a) hlH
    have e : g.set j ⟨c.x - x, c.y - y, c.s⟩ = (f.take (j + 1)).map (mvC x y) ++ f.drop (j + 1) := by
     rw [hg, List.set_append_right _ _ (by omega), htl, Nat.sub_self, (get_drop hx).2, take_succ_get hx]
     simp [mvC]
    dsimp only at ry wy
    simp (maxSteps := 2000000) (disch := omega) [gd_in, gd_and, wr_i64, hlt, hlt', wj, w1, w2, hn1, hn2, rx, ry, wx, wy, hs1, hs2, hbl, hgl]
    refine ih (j + 1) (by omega) f.length _ _ _ (by omega) (Nat.le_refl _) e ?_
    simp [hs1, hs2, hlH, nl_set_eq]
   | none =>
    have : j = f.length := by have := List.getElem?_eq_none_iff.1 hx; omega
    subst this
    clear ih
    have hgh : g = homeC f := by
     rw [hg, List.take_length, List.drop_length, List.append_nil, hx0, hy0]
     rfl
    rw [← hf] at hb ⊢
    have hgn : sortI g ≠ [] := fun h => by
     have := sortI_len g
     rw [h] at this
     rw [hgl] at this
     exact hne (List.eq_nil_of_length_eq_zero this.symm)
    have hfa : f.Pairwise apart := by rw [hf]; exact turn_apart _ (pw_apart (right_pw hp).1)
    have hga : g.Pairwise apart := by
     rw [hgh]
     exact move_apart _ _ hfa
    have hzg : flatV (.tu [.m (zP (sortI g)), .m (.i .i64 0)]) = false := by
     unfold zP
     rw [if_neg hgn]
     rfl
    have gf := refFrom_r (isSl_sl (cells3 g)) (by omega) (by rw [hgh]; exact hb) hga []
    have hvv := viewPg hn1 (by omega) 18
    have hvs : optMap (view 20 H1) [V.sl 1 f.length 3 0 f.length false] = some [.sl (cells3 g)] := by
     rw [← hgl]
     simp only [optMap, hvv, Option.bind_some]
    have hfz : freeze ([V.sl 1 f.length 3 0 f.length false].flatMap refs) H1 = some (H1.set 1 (.cs 43 3 (rows3 g) b true)) := by
     show Option.bind (nth H1 1) _ = _
     rw [hn1]
     show Option.bind (gd ((rows3 g).all fun e => e.all isM) (some (Row.cs 43 3 (rows3 g) b true))) _ = _
     rw [rows3_isM]
     show Option.bind (setEl H1 1 _) _ = _
     rw [setEl_put _ _ _ (nl_lt hn1)]
     rfl
    have gF := gives_view_fr (is := [.sl (cells3 g)]) rfl rfl gf hvs (by simp [refs, ref1]) hzg rfl hfz
    rw [← hgh]
    generalize zP (sortI g) = zz at *
    simp (maxSteps := 2000000) (disch := omega) [gd_in, gd_and, wr_i64, cl gF]
end Go.Mx.Tryd
namespace Go.Mx.Tryd
open Go.Sort Go.Lib Go.Proofs

theorem low_glb (g : Ce → Int) {p : List Ce} (hne : p ≠ []) : (∀ c, c ∈ p → lowK g p ≤ g c) ∧ ∀ x, (∀ c, c ∈ p → x ≤ g c) → x ≤ lowK g p := by
 obtain ⟨c, r, rfl⟩ := List.exists_cons_of_ne_nil hne
 refine ⟨fun d hd => (mnF_ge ((c :: r).map g) (g c)).2 _ (List.mem_map_of_mem hd), fun x hx => mnF_le _ _ _ ⟨hx c (List.mem_cons_self ..), fun y hy => ?_⟩⟩
 obtain ⟨d, hd, rfl⟩ := List.mem_map.1 hy
 exact hx d hd
theorem less_mv (a b : Int) (c d : Ce) : less (mvC a b c) (mvC a b d) = less c d := by
 unfold less mvC
 rw [Bool.eq_iff_iff]
 simp only [decide_eq_true_eq]
 omega
theorem home_pw {p : List Ce} (h : p.Pairwise (fun a b => less a b = true)) : (homeC p).Pairwise (fun a b => less a b = true) := by
 unfold homeC
 rw [List.pairwise_map]
 exact h.imp fun {a b} h => by rw [less_mv]; exact h
def imgC (k : Nat) (p : List Ce) : List Ce := sortI (homeC (p.map (tnC k)))
def Span (p : List Ce) : Prop := ∀ c d, c ∈ p → d ∈ p → c.x - d.x ≤ 1048576 ∧ c.y - d.y ≤ 1048576
theorem span_tn (k : Nat) {p : List Ce} (h : Span p) : Span (p.map (tnC k)) := fun c d hc hd => by
 obtain ⟨a, ha, rfl⟩ := List.mem_map.1 hc
 obtain ⟨b, hb, rfl⟩ := List.mem_map.1 hd
 have h1 := h a b ha hb
 have h2 := h b a hb ha
 unfold tnC appT
 split <;> dsimp only <;> omega
theorem span_good {p : List Ce} (h : Span p) (hs : ∀ c, c ∈ p → 1 ≤ c.s ∧ c.s < 8) : ∀ c, c ∈ homeC p → good c = true := fun c hc => by
 obtain ⟨d, hd, rfl⟩ := List.mem_map.1 hc
 have hne : p ≠ [] := fun e => by subst e; cases hd
 obtain ⟨x1, x2⟩ := low_glb Ce.x hne
 obtain ⟨y1, y2⟩ := low_glb Ce.y hne
 have a1 := x1 d hd
 have b1 := y1 d hd
 have a2 := x2 (d.x - 1048576) fun e he => by have := (h d e hd he).1; omega
 have b2 := y2 (d.y - 1048576) fun e he => by have := (h d e hd he).2; omega
 rw [lowK_x] at a1 a2
 rw [lowK_y] at b1 b2
 have := hs d hd
 unfold good placed mvC
 simp only [Bool.and_eq_true, decide_eq_true_eq]
 omega
theorem tn_s {k : Nat} {p : List Ce} (hp : right p = true) : ∀ c, c ∈ p.map (tnC k) → 1 ≤ c.s ∧ c.s < 8 := fun c hc => by
 obtain ⟨d, hd, rfl⟩ := List.mem_map.1 hc
 exact (right_bnd hp hd).2.2
theorem img_good {k : Nat} {p : List Ce} (hp : right p = true) (h : Span p) : ∀ c, c ∈ homeC (p.map (tnC k)) → good c = true := span_good (span_tn k h) (tn_s hp)
theorem img_right {k : Nat} {p : List Ce} (hp : right p = true) (h : Span p) : right (imgC k p) = true := by
 have ha : (homeC (p.map (tnC k))).Pairwise apart := move_apart _ _ (turn_apart k (pw_apart (right_pw hp).1))
 refine right_of (sortI_pw ha) (fun c hc => img_good hp h c ((sortI_perm _).mem_iff.1 hc)) ?_
 unfold imgC
 rw [sortI_len]
 unfold homeC
 rw [List.length_map, List.length_map]
 exact (right_pw hp).2.2
theorem img_r {v : I} {p : List Ce} (hv : IsSl v (cells3 p)) (hp : right p = true) (hs : Span p) (k : Int) (hk : -9223372036854775808 ≤ k ∧ k ≤ 9223372036854775807) (H : Hp) : Gives G 17 [.m v, .m (.i .i64 k)] H (.m (zP (imgC (modS k) p))) H := image_r hv hp k hk H (img_good hp hs)
def largeC (p : List Ce) : Bool := match boxC p with
 | [_, _, w, h] => decide (1048577 < w ∨ 1048577 < h)
 | _ => false
theorem boxC_4 (p : List Ce) : ∃ x y w h, boxC p = [x, y, w, h] := by
 unfold boxC
 split
 ·exact ⟨_, _, _, _, rfl⟩
 ·split
  ·exact ⟨_, _, _, _, rfl⟩
  ·exact ⟨_, _, _, _, rfl⟩
theorem large_s {v : I} {p : List Ce} (hv : IsSl v (cells3 p)) (hl : (p.length : Int) ≤ 9223372036854775807) (H : Hp) : Gives G 25 [.m v] H (.m (.b (largeC p))) H := by
 have gb := fun H => box_s hv hl H
 obtain ⟨x, y, w, h, e⟩ := boxC_4 p
 have e2 : boxV p = .tu [.m (.ag [.i .i64 x, .i .i64 y, .i .i64 w, .i .i64 h]), .m (.b (!p.isEmpty && right p))] := by unfold boxV; rw [e]; rfl
 rw [e2] at gb
 have e3 : largeC p = decide (1048577 < max w h) := by
  unfold largeC
  rw [e]
  dsimp only
  congr 1
  rw [eq_iff_iff]
  omega
 rw [e3]
 refine gives_pur rfl rfl rfl rfl rfl ?_
 simp (maxSteps := 2000000) (disch := omega) [gd_in, gd_and, wr_i64, cl (gb _)]
theorem large_r {v : I} {p : List Ce} (hv : IsSl v (cells3 p)) (hl : (p.length : Int) ≤ 9223372036854775807) (H : Hp) : Gives G 20 [.m v] H (.m (.b (largeC p))) H := by
 have gb := fun H => box_r hv hl H
 obtain ⟨x, y, w, h, e⟩ := boxC_4 p
 have e2 : boxV p = .tu [.m (.ag [.i .i64 x, .i .i64 y, .i .i64 w, .i .i64 h]), .m (.b (!p.isEmpty && right p))] := by unfold boxV; rw [e]; rfl
 rw [e2] at gb
 refine gives_pur rfl rfl rfl rfl rfl ?_
 have e3 : largeC p = decide (1048577 < w ∨ 1048577 < h) := by
  unfold largeC
  rw [e]
 rw [e3]
 by_cases hw : 1048577 < w
 ·simp (maxSteps := 2000000) (disch := omega) [gd_in, gd_and, wr_i64, cl (gb _), hw]
 ·simp (maxSteps := 2000000) (disch := omega) [gd_in, gd_and, wr_i64, cl (gb _), hw]
theorem span_of {p : List Ce} (hp : right p = true) (h : largeC p = false) : Span p := by
 intro c d hc hd
 cases p with
 | nil => cases hc
 | cons a r =>
  obtain ⟨l, hl⟩ : ∃ d, (a :: r)[(a :: r).length - 1]? = some d := ⟨_, List.getElem?_eq_getElem (by simp)⟩
  obtain ⟨y1, y2⟩ := right_ys hp hl
  have hla : ∀ h, (a :: r).getLast h = l := fun h => by
   rw [List.getLast_eq_getElem, ← Option.some.injEq, ← hl, List.getElem?_eq_getElem]
  have mx := fun (e : Ce) (he : e ∈ a :: r) => (mxF_ge ((a :: r).map Ce.x) a.x).2 _ (List.mem_map_of_mem he)
  have mn := fun (e : Ce) (he : e ∈ a :: r) => (mnF_ge ((a :: r).map Ce.x) a.x).2 _ (List.mem_map_of_mem he)
  have my := fun (e : Ce) (he : e ∈ a :: r) => (mxF_ge ((a :: r).map Ce.y) a.y).2 _ (List.mem_map_of_mem he)
  have ny := fun (e : Ce) (he : e ∈ a :: r) => (mnF_ge ((a :: r).map Ce.y) a.y).2 _ (List.mem_map_of_mem he)
  have bx := lowX_bnd hp
  have bX : mxF a.x ((a :: r).map Ce.x) ≤ 1048576 := mxF_le _ _ _ ⟨(right_bnd hp (List.mem_cons_self ..)).1.2, fun y hy => by
   obtain ⟨e, he, rfl⟩ := List.mem_map.1 hy
   exact (right_bnd hp he).1.2⟩
  have hb1 := right_bnd hp (List.mem_cons_self (a := a) (l := r))
  have hb2 := right_bnd hp (List.mem_of_getElem? hl)
  have m1 := mx c hc
  have m2 := mn d hd
  have m3 := my c hc
  have m4 := ny d hd
  have m5 := mn a (List.mem_cons_self ..)
  have m6 := mx a (List.mem_cons_self ..)
  have bx' : -1048576 ≤ mnF a.x ((a :: r).map Ce.x) := bx.1
  unfold largeC boxC at h
  dsimp only at h
  rw [if_pos hp, hla] at h
  rw [y1] at m4
  rw [y2] at m3
  generalize mnF a.x ((a :: r).map Ce.x) = n at *
  generalize mxF a.x ((a :: r).map Ce.x) = m at *
  dsimp only at h
  rw [wr_i64 (x := m - n) (by omega) (by omega), wr_i64 (x := m - n + 1) (by omega) (by omega), wr_i64 (x := l.y - a.y) (by omega) (by omega), wr_i64 (x := l.y - a.y + 1) (by omega) (by omega)] at h
  simp only [decide_eq_false_iff_not] at h
  omega
end Go.Mx.Tryd
