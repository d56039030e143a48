/- Assume and Units: what they compute, without program. -/
import Derived.Test.YtcdcepfigjohfaaGreatDoorYh
import Derived.Test.YtcdcepfigjohfaaGreatDoorFp
set_option linter.unusedSimpArgs false
set_option linter.unusedVariables false
set_option linter.unusedSectionVars false
set_option maxRecDepth 100000
namespace Go.Mx.Tryz

theorem slOn {y : I} {es : List (List I)} (h : IsSl y es) : oneV (.m y) = true := by
 rcases h with rfl | ⟨rfl, _⟩ <;> rfl
theorem gives_immZ {F : Nat} {is : List I} {v : V} {H0 : Hp} (hp : G.prim F = none) (hs : G.sh F = false) (h : Gives G F (is.map .m) H0 v H0) (H : Hp) : Gives G F (is.map .m) H v H := by
 obtain ⟨r1, r2, r3, r4, r5⟩ := refs_imm (vs := is.map .m) (is := is) (allM_imm is)
 exact gives_view (is := is) hp hs h (r5 19 H) (.inl ⟨r1, r2⟩)
theorem gives_imm2 {F : Nat} {a b : I} {v : V} {H0 : Hp} (hp : G.prim F = none) (hs : G.sh F = false) (h : Gives G F [.m a, .m b] H0 v H0) (H : Hp) : Gives G F [.m a, .m b] H v H := gives_immZ (is := [a, b]) hp hs h H
theorem gives_imm1 {F : Nat} {a : I} {v : V} {H0 : Hp} (hp : G.prim F = none) (hs : G.sh F = false) (h : Gives G F [.m a] H0 v H0) (H : Hp) : Gives G F [.m a] H v H := gives_immZ (is := [a]) hp hs h H
def sat (l c : List Int) : Bool := c.any fun x => decide (x ∈ l)
def rst (l c : List Int) : List Int := c.filter fun x => !decide (-x ∈ l)
def asm (l : List Int) (cls : List (List Int)) : List (List Int) := (cls.filter fun c => !sat l c).map (rst l)
theorem asm_snoc (l : List Int) (cls : List (List Int)) (c : List Int) : asm l (cls ++ [c]) = if sat l c = true then asm l cls else asm l cls ++ [rst l c] := by
 unfold asm
 rw [List.filter_append, List.map_append]
 by_cases h : sat l c = true
 ·rw [if_pos h]
  simp [h]
 ·rw [if_neg h]
  simp [h]
theorem rst_snoc (l c : List Int) (x : Int) : rst l (c ++ [x]) = if -x ∈ l then rst l c else rst l c ++ [x] := by
 unfold rst
 rw [List.filter_append]
 by_cases h : -x ∈ l
 ·rw [if_pos h]
  simp [h]
 ·rw [if_neg h]
  simp [h]
theorem rst_len (l c : List Int) : (rst l c).length ≤ c.length := List.length_filter_le _ _
theorem asm_len (l : List Int) (cls : List (List Int)) : (asm l cls).length ≤ cls.length := by
 unfold asm
 rw [List.length_map]
 exact List.length_filter_le _ _
def AsmQ (n : Int) (l : List Int) (zs : List I) (v : V) : Prop := if (frm n zs && (lits n l && !opp l)) = true then FrmQ n (asm l (zs.map dI)) v else v = errV 2

def LZ (ty : Nat) (xs : List I) (o : V) (H : Hp) (ok : Nat → Prop) : Prop := (xs = [] ∧ o = .ls []) ∨ (xs ≠ [] ∧ ∃ r, ok r ∧ o = .sl r xs.length 1 0 xs.length false ∧ nth H r = some (.cs ty 1 (onV xs) 0 false))
theorem LZ.push {ty b n0 : Nat} {xs : List I} {o : V} {H : Hp} (h : LZ ty xs o H (n0 ≤ ·)) (hn : n0 ≤ H.length) (hb : b ≤ 1000) {y : I} (hl : xs.length + 1 ≤ 100000000) (ha : oneV (.m y) = true) : ∃ o1 H1, (∀ B, loudX (fun _ _ _ => none) ⟨B, H⟩ (.app ty 1 b) [o, .ls [[y]]] = some (o1, ⟨B, H1⟩)) ∧ noFaV o1 = true ∧ LZ ty (xs ++ [y]) o1 H1 (n0 ≤ ·) ∧ n0 ≤ H1.length ∧ ∀ r, r < n0 → nth H1 r = nth H r := by
 have aq : noAg [y] := fun u hu => by rw [List.mem_singleton] at hu; subst hu; exact ha
 have key : ∀ o', LR ty xs o' H (n0 ≤ ·) → (∀ B, appX ⟨B, H⟩ ty 1 b o (onV [y]) = appX ⟨B, H⟩ ty 1 b o' (onV [y])) → ∃ o1 H1, (∀ B, loudX (fun _ _ _ => none) ⟨B, H⟩ (.app ty 1 b) [o, .ls [[y]]] = some (o1, ⟨B, H1⟩)) ∧ noFaV o1 = true ∧ LZ ty (xs ++ [y]) o1 H1 (n0 ≤ ·) ∧ n0 ≤ H1.length ∧ ∀ r, r < n0 → nth H1 r = nth H r := fun o' h' he => by
  obtain ⟨o1, H1, a1, a2, a3, a4, a5, a6⟩ := h'.push (b := b) (ys := [y]) hn hb (by simpa using hl) aq
  refine ⟨o1, H1, fun B => (loud_elems rfl).trans ((he B).trans (a1 B)), a2, ?_, a4, a6⟩
  rcases a3 with ⟨e, _⟩ | e
  ·simp at e
  ·exact .inr e
 rcases h with ⟨rfl, rfl⟩ | h
 ·exact key (.m (.nl 4)) LR.nil fun B => rfl
 ·exact key o (.inr h) fun B => rfl
theorem LZ.nf {ty : Nat} {xs : List I} {o : V} {H : Hp} {ok : Nat → Prop} (h : LZ ty xs o H ok) : noFaV o = true ∧ cellsV o = some [o] ∧ oneV o = true := by
 rcases h with ⟨rfl, rfl⟩ | ⟨hne, r, hr, rfl, h3⟩
 ·exact ⟨rfl, rfl, rfl⟩
 ·exact ⟨rfl, rfl, rfl⟩
theorem LZ.view {ty : Nat} {xs : List I} {o : V} {H : Hp} {ok : Nat → Prop} (h : LZ ty xs o H ok) (k : Nat) : Mx.view (k + 2) H o = some (.sl (on1 xs)) := by
 rcases h with ⟨rfl, rfl⟩ | h
 ·rfl
 ·have : LR ty xs o H ok := .inr h
  rw [this.view k]
  unfold zL
  rw [if_neg h.1]

def fzB (m : List (Int × Bool)) : I := .mp (m.map fun e => [ekI e.1, .b e.2])
theorem pairs_fzB : ∀ m : List (Int × Bool), pairs (m.map fun e => [ekI e.1, I.b e.2]) = some (m.map fun p => (ekI p.1, evB p.2))
 | [] => rfl
 | a :: r => by
  show Option.bind (pairs (r.map fun e => [ekI e.1, I.b e.2])) _ = _
  rw [pairs_fzB r]
  rfl
theorem fzB_get (M : Mem) (m : List (Int × Bool)) (x : Int) : readX M (.lkp ⟨false, [1]⟩ [.m (.b false)] false false) [.m (fzB m), .m (.i .i64 x)] = some (.m (.b ((mfind m x).getD false))) := by
 have h1 := mIB_get m x false
 have h2 : readX M (.lkp ⟨false, [1]⟩ [.m (.b false)] false false) [.m (fzB m), .m (.i .i64 x)] = (pairs (m.map fun e => [ekI e.1, I.b e.2])).bind fun es => lkpRow ⟨false, [1]⟩ [.m (.b false)] false false (.mp es false) (.i .i64 x) := rfl
 rw [h2, pairs_fzB]
 exact h1
theorem view_fzB {H : Hp} {r : Nat} {m : List (Int × Bool)} (h : nth H r = some (mIB m)) (k : Nat) : view (k + 2) H (.mp r) = some (fzB m) := by
 show Option.bind (nth H r) _ = _
 rw [h]
 show Option.bind (optMap (fun (p : I × V) => (view (k + 1) H p.2).bind fun x => some [p.1, x]) (m.map fun p => (ekI p.1, evB p.2))) _ = _
 have e : optMap (fun (p : I × V) => (view (k + 1) H p.2).bind fun x => some [p.1, x]) (m.map fun p => (ekI p.1, evB p.2)) = some (m.map fun e => [ekI e.1, .b e.2]) := by
  clear h
  induction m with
  | nil => rfl
  | cons a r ih =>
   show Option.bind (some [ekI a.1, I.b a.2]) _ = _
   simp only [Option.bind_some, List.map_cons]
   show Option.bind (optMap _ (r.map fun p => (ekI p.1, evB p.2))) _ = _
   rw [ih]
   rfl
 rw [e]
 rfl
def MpL (m : List (Int × Bool)) (l : List Int) : Prop := ∀ x, (mfind m x).getD false = decide (x ∈ l)
theorem MpL.snoc {m : List (Int × Bool)} {l : List Int} (h : MpL m l) (x : Int) : MpL (mset m x true) (l ++ [x]) := fun y => by
 rw [mfind_mset]
 by_cases e : x = y
 ·subst e
  simp
 ·rw [if_neg e, h y]
  simp [Ne.symm e]
theorem fzB_one (m : List (Int × Bool)) : oneV (.m (fzB m)) = true := rfl

theorem literals_r {z y : I} {zs : List I} {c : List Int} {n : Int} (hz : IsSl z (ones zs)) (hy : IsSl y (celI c)) (hc : c.length ≤ 9223372036854775807) (h0 : 0 ≤ n) (h1 : n ≤ 65536) (H : Hp) : Gives G 46 [.m (.ag [.i .i64 n, z]), .m y] H (.m (.b (lits n c))) H := by
 refine gives_pur rfl rfl rfl rfl rfl ?_
 have hr := hy.rules
 simp only [celI_len] at hr
 simp (maxSteps := 2000000) (disch := omega) [gd_in, gd_and, wr_i64, hr, slCells hz, slOn hz]
 refine (?key : ∀ (i : Nat) (B : List (Nat × List V)), i ≤ c.length → getB B 2 = some [.m (.i .i64 n), .m z] → (lits n c = lits n (c.drop i)) → Run G c46_B0 (S46_0 (.m y) (.fa 2 0) (.m (.i .i64 i)) B []) _) 0 _ (Nat.zero_le _) rfl (by simp)
 refine indM (fun i : Nat => c.length - i) fun i ih B hi hB hq => ?_
 unfold c46_B0
 cases hx : c[i]? with
 | none =>
  have : i = c.length := by have := List.getElem?_eq_none_iff.1 hx; omega
  subst this
  have e : lits n c = true := by rw [hq]; simp [lits]
  simp (maxSteps := 2000000) (disch := omega) [gd_in, gd_and, wr_i64, hr, hB, e]
 | some x =>
  have hlt := (List.getElem?_eq_some_iff.1 hx).1
  have hlt' : (i : Int) < c.length := by omega
  have hn := celI_nth hx
  have wi : wr .i64 ((i : Int) + 1) = ((i + 1 : Nat) : Int) := wr_i64 (by omega) (by omega)
  have g := fun H => literal_r x n h0 h1 H
  have hq2 : lits n c = (lit n x && lits n (c.drop (i + 1))) := by
   rw [hq, (get_drop hx).2]
   rfl
  cases hl : lit n x with
  | false =>
   rw [hl] at g hq2
   have e : lits n c = false := by rw [hq2]; rfl
   simp (maxSteps := 2000000) (disch := omega) [gd_in, gd_and, wr_i64, hr, hB, hlt, hlt', hn, cl (g _), e]
  | true =>
   rw [hl] at g hq2
   have k := ih (i + 1) (by omega) B (by omega) hB (by rw [hq2]; rfl)
   simp (maxSteps := 2000000) (disch := omega) [gd_in, gd_and, wr_i64, hr, hB, hlt, hlt', hn, cl (g _), wi, -Int.natCast_add]
   exact k

def RestQ (l c : List Int) (v : V) (H : Hp) (n0 : Nat) : Prop := (sat l c = true ∧ v = .tu [.m (.nl 4), .m (.b true)]) ∨ (sat l c = false ∧ ∃ o, v = .tu [o, .m (.b false)] ∧ LZ 3 (iI (rst l c)) o H (n0 ≤ ·))
theorem LZ.toLW {ty : Nat} {xs : List I} {o : V} {H : Hp} {ok : Nat → Prop} (h : LZ ty xs o H ok) : LW ty xs o H ok := by
 rcases h with ⟨rfl, rfl⟩ | h
 ·exact .inl ⟨rfl, .inr rfl⟩
 ·exact LR.toLW (.inr h)
theorem LZ.callF {ty n0 : Nat} {xs : List I} {o : V} {H : Hp} (h : LZ ty xs o H (n0 ≤ ·)) {F : Nat} {v : V} {H0 : Hp} (hp : G.prim F = none) (hs : G.sh F = false) (hg : Gives G F [.m (.sl (on1 xs))] H0 v H0) : ∃ H2, Gives G F [o] H v H2 ∧ H2.length = H.length ∧ ∀ r, r < n0 → nth H2 r = nth H r := by
 have hv : optMap (Mx.view 20 H) [o] = some [.sl (on1 xs)] := by
  show (Mx.view 20 H o).bind _ = _
  rw [h.view 18]
  rfl
 rcases h with ⟨rfl, rfl⟩ | ⟨hne, r, hr, rfl, h3⟩
 ·exact ⟨H, gives_view (is := [.sl (on1 [])]) hp hs hg hv (.inl ⟨by simp [refs, ref1], by simp [shallow, shallow1]⟩), rfl, fun _ _ => rfl⟩
 ·cases hfl : flatV v with
  | true => exact ⟨H, gives_view (is := [.sl (on1 xs)]) hp hs hg hv (.inr ⟨by simp [refs, ref1], hfl⟩), rfl, fun _ _ => rfl⟩
  | false =>
   refine ⟨_, gives_view_fr (is := [.sl (on1 xs)]) hp hs hg hv (by simp [refs, ref1]) hfl rfl (freezeV h3), by simp, fun q hq => nl_set_ne fun e => ?_⟩
   subst e
   have : n0 ≤ r := hr
   omega
theorem sat_take {l c : List Int} {i : Nat} {x : Int} (hx : c[i]? = some x) (h : sat l (c.take i) = false) : sat l (c.take (i + 1)) = decide (x ∈ l) := by
 unfold sat at h ⊢
 rw [take_succ_get hx, List.any_append, h]
 simp
theorem sat_of {l c : List Int} {x : Int} (hx : x ∈ c) (h : x ∈ l) : sat l c = true := List.any_eq_true.2 ⟨x, hx, decide_eq_true h⟩
theorem rest_r {z : I} {c l : List Int} {ol : V} {HH : Hp} (hz : IsSl z (celI c)) (hc : c.length ≤ 100000) (hs : Sm c) (hol : noFaV ol = true) (hall : ∀ H', (∀ r, r < HH.length → nth H' r = nth HH r) → ∀ x : Int, Gives G 65 [ol, .m (.i .i64 x)] H' (.m (.b (decide (x ∈ l)))) H') :
  ∃ v H', Gives G 47 [.m z, ol] HH v H' ∧ (HH.length ≤ H'.length ∧ (∀ r, r < HH.length → nth H' r = nth HH r) ∧ RestQ l c v H' HH.length) := by
 refine gives_of_ret ?_
 refine ret_sh mono rfl rfl rfl (by simp only [List.all_cons, List.all_nil, hol]; rfl) rfl ?_
 generalize hQ : (fun (v : V) (H' : Hp) => HH.length ≤ H'.length ∧ (∀ r, r < HH.length → nth H' r = nth HH r) ∧ RestQ l c v H' HH.length) = Q
 have hr := hz.rules
 simp only [celI_len] at hr
 simp (maxSteps := 2000000) (disch := omega) [gd_in, gd_and, wr_i64, hr, setC_v hol]
 refine (?key : ∀ (i : Nat) (o : V) (B : List (Nat × List V)) (H : Hp), i ≤ c.length → sat l (c.take i) = false → HH.length ≤ H.length → (∀ r, r < HH.length → nth H r = nth HH r) → LZ 3 (iI (rst l (c.take i))) o H (HH.length ≤ ·) → Run G c47_B0 (S47_0 (.m z) ol o (.m (.i .i64 i)) B H) _) 0 _ _ _ (Nat.zero_le _) rfl (Nat.le_refl _) (fun _ _ => rfl) (.inl ⟨rfl, rfl⟩)
 refine indM (fun i : Nat => c.length - i) fun i ih o B H hi hsat hH hk ho => ?_
 unfold c47_B0
 obtain ⟨o1, o2, o3⟩ := ho.nf
 cases hx : c[i]? with
 | none =>
  have : i = c.length := by have := List.getElem?_eq_none_iff.1 hx; omega
  subst this
  rw [List.take_length] at hsat ho
  have k : Q (.tu [o, .m (.b false)]) H := by rw [← hQ]; exact ⟨hH, hk, .inr ⟨hsat, o, rfl, ho⟩⟩
  simp (maxSteps := 2000000) (disch := omega) [gd_in, gd_and, wr_i64, hr, setC_v o1, setC_v hol]
  exact ⟨o1, k⟩
 | some x =>
  have hlt := (List.getElem?_eq_some_iff.1 hx).1
  have hlt' : (i : Int) < c.length := by omega
  have hn := celI_nth hx
  have wi : wr .i64 ((i : Int) + 1) = ((i + 1 : Nat) : Int) := wr_i64 (by omega) (by omega)
  have wx := wr_neg (hs x (List.mem_of_getElem? hx))
  have g1 := hall H hk x
  have g2 := hall H hk (-x)
  have hs2 := sat_take hx hsat
  by_cases h : x ∈ l
  ·rw [decide_eq_true h] at g1
   have k : Q (.tu [.m (.nl 4), .m (.b true)]) H := by rw [← hQ]; exact ⟨hH, hk, .inl ⟨sat_of (List.mem_of_getElem? hx) h, rfl⟩⟩
   simp (maxSteps := 2000000) (disch := omega) [gd_in, gd_and, wr_i64, hr, hlt, hlt', hn, cl g1, setC_v o1, setC_v hol]
   exact k
  ·rw [decide_eq_false h] at g1 hs2
   have k := fun o B H => ih (i + 1) (by omega) o B H (by omega) hs2
   rw [take_succ_get hx, rst_snoc] at k
   by_cases h' : -x ∈ l
   ·rw [decide_eq_true h'] at g2
    rw [if_pos h'] at k
    simp (maxSteps := 2000000) (disch := omega) [gd_in, gd_and, wr_i64, hr, hlt, hlt', hn, wx, cl g1, cl g2, setC_v o1, setC_v hol, wi, -Int.natCast_add]
    exact k _ _ _ hH hk ho
   ·rw [decide_eq_false h'] at g2
    rw [if_neg h', show ∀ q : List Int, iI (q ++ [x]) = iI q ++ [.i .i64 x] from fun q => (iI_app q [x]).symm] at k
    obtain ⟨o2', H2, a1, a2, a3, a4, a5⟩ := ho.push (b := 8) hH (by omega) (y := .i .i64 x) (by
     have := rst_len l (c.take i)
     simp only [iI_len, List.length_take] at this ⊢
     omega) rfl
    simp (maxSteps := 2000000) (disch := omega) [gd_in, gd_and, wr_i64, hr, hlt, hlt', hn, wx, cl g1, cl g2, -loud_app, a1, setC_v o1, setC_v hol, setC_v a2, wi, -Int.natCast_add]
    exact k _ _ _ a4 (fun r hr => (a5 r hr).trans (hk r hr)) a3
end Go.Mx.Tryz
