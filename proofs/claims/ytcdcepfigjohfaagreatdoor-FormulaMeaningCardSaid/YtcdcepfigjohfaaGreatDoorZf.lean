/- Units, the reference's text. -/
import Derived.Test.YtcdcepfigjohfaaGreatDoorZa
import Derived.Test.YtcdcepfigjohfaaGreatDoorZb
set_option linter.unusedSimpArgs false
set_option linter.unusedVariables false
set_option linter.unusedSectionVars false
set_option maxRecDepth 100000
namespace Go.Mx.Tryz

inductive UC (C : List (List Int)) (l : List Int) : Int → Prop
 | base {x : Int} : x ∈ l → UC C l x
 | unit {c : List Int} {x : Int} : c ∈ C → x ∈ c → (∀ y, y ∈ c → y ≠ x → UC C l (-y)) → UC C l x
def Conf (C : List (List Int)) (l : List Int) : Prop := opp l = true ∨ ∃ c, c ∈ C ∧ ∀ y, y ∈ c → UC C l (-y)
structure UState (C : List (List Int)) (l a : List Int) : Prop where
 sub : ∀ x, x ∈ a → UC C l x
 base : ∀ x, x ∈ l → x ∈ a
 con : opp a = opp l
theorem UState.start {C : List (List Int)} {l : List Int} : UState C l l := ⟨fun _ h => .base h, fun _ h => h, rfl⟩
theorem mem_rst {a c : List Int} {x : Int} : x ∈ rst a c ↔ x ∈ c ∧ ¬ -x ∈ a := by simp [rst]
theorem sat_iff {a c : List Int} : sat a c = true ↔ ∃ x, x ∈ c ∧ x ∈ a := by simp [sat]
theorem opp_push {l : List Int} {x : Int} (hx : x ≠ 0) (h : ¬ -x ∈ l) : opp (l ++ [x]) = opp l := by
 cases ho : opp l with
 | true =>
  obtain ⟨a, h1, h2⟩ := opp_iff.1 ho
  exact opp_iff.2 ⟨a, List.mem_append_left _ h1, List.mem_append_left _ h2⟩
 | false =>
  cases h3 : opp (l ++ [x]) with
  | false => rfl
  | true =>
   obtain ⟨a, h4, h5⟩ := opp_iff.1 h3
   have h6 : ¬ ∃ a, a ∈ l ∧ -a ∈ l := fun k => by rw [opp_iff.2 k] at ho; cases ho
   simp only [List.mem_append, List.mem_singleton] at h4 h5
   rcases h4 with h4 | rfl
   ·rcases h5 with h5 | h5
    ·exact absurd ⟨a, h4, h5⟩ h6
    ·exact absurd (by rw [← h5, Int.neg_neg]; exact h4) h
   ·rcases h5 with h5 | h5
    ·exact absurd h5 h
    ·omega
theorem UState.step {C : List (List Int)} {l a c : List Int} {x : Int} (h : UState C l a) (hc : c ∈ C) (h0 : x ≠ 0) (hr : ∀ y, y ∈ rst a c ↔ y = x) : UState C l (a ++ [x]) := by
 have hx := mem_rst.1 ((hr x).2 rfl)
 refine ⟨fun y hy => ?_, fun y hy => List.mem_append_left _ (h.base y hy), (opp_push h0 hx.2).trans h.con⟩
 rcases List.mem_append.1 hy with h1 | h1
 ·exact h.sub y h1
 ·rw [List.mem_singleton] at h1
  subst h1
  refine .unit hc hx.1 fun u hu hne => ?_
  by_cases h2 : -u ∈ a
  ·exact h.sub _ h2
  ·exact absurd ((hr u).1 (mem_rst.2 ⟨hu, h2⟩)) hne
theorem UState.stuck {C : List (List Int)} {l a c : List Int} (h : UState C l a) (hc : c ∈ C) (hr : rst a c = []) : Conf C l := by
 refine .inr ⟨c, hc, fun y hy => ?_⟩
 by_cases h2 : -y ∈ a
 ·exact h.sub _ h2
 ·have := mem_rst.2 ⟨hy, h2⟩
  rw [hr] at this
  cases this
def Okc (a c : List Int) : Prop := sat a c = true ∨ ∃ x y, x ≠ y ∧ x ∈ rst a c ∧ y ∈ rst a c
theorem Okc.push {a c : List Int} (h : Okc a c) (x : Int) : Okc (a ++ [x]) c ∨ -x ∈ c := by
 rcases h with h | ⟨u, v, hne, hu, hv⟩
 ·obtain ⟨y, h1, h2⟩ := sat_iff.1 h
  exact .inl (.inl (sat_iff.2 ⟨y, h1, List.mem_append_left _ h2⟩))
 ·by_cases hx : -x ∈ c
  ·exact .inr hx
  ·have key : ∀ w, w ∈ rst a c → w ∈ rst (a ++ [x]) c := fun w hw => by
    obtain ⟨k1, k2⟩ := mem_rst.1 hw
    refine mem_rst.2 ⟨k1, fun k => ?_⟩
    rcases List.mem_append.1 k with k | k
    ·exact k2 k
    ·rw [List.mem_singleton] at k
     exact hx (by rw [← k, Int.neg_neg]; exact k1)
   exact .inl (.inr ⟨u, v, hne, key u hu, key v hv⟩)
theorem UState.closed {C : List (List Int)} {l a : List Int} (h : UState C l a) (ho : opp l = false) (hk : ∀ c, c ∈ C → Okc a c) : (∀ x, UC C l x ↔ x ∈ a) ∧ ¬ Conf C l := by
 have hcon : ∀ x, x ∈ a → ¬ -x ∈ a := fun x h1 h2 => by
  have := opp_iff.2 ⟨x, h1, h2⟩
  rw [h.con, ho] at this
  cases this
 have hu : ∀ x, UC C l x → x ∈ a := fun x hx => by
  induction hx with
  | base h1 => exact h.base _ h1
  | @unit c x hc hxc _ ih =>
   rcases hk c hc with h1 | ⟨u, v, hne, h1, h2⟩
   ·obtain ⟨y, k1, k2⟩ := sat_iff.1 h1
    by_cases e : y = x
    ·rw [← e]; exact k2
    ·exact absurd (ih y k1 e) (hcon y k2)
   ·obtain ⟨u1, u2⟩ := mem_rst.1 h1
    obtain ⟨v1, v2⟩ := mem_rst.1 h2
    by_cases e : u = x
    ·exact absurd (ih v v1 fun e2 => hne (e.trans e2.symm)) v2
    ·exact absurd (ih u u1 e) u2
 refine ⟨fun x => ⟨hu x, h.sub x⟩, fun hcf => ?_⟩
 rcases hcf with h1 | ⟨c, hc, h1⟩
 ·rw [ho] at h1
  cases h1
 ·rcases hk c hc with h2 | ⟨u, v, _, h2, _⟩
  ·obtain ⟨y, k1, k2⟩ := sat_iff.1 h2
   exact hcon y k2 (hu _ (h1 y k1))
  ·obtain ⟨u1, u2⟩ := mem_rst.1 h2
   exact u2 (hu _ (h1 u u1))
def UnQ (C : List (List Int)) (l q : List Int) : Prop := ¬ Conf C l ∧ Inc litLt q ∧ ∀ x, x ∈ q ↔ UC C l x ∧ ¬ x ∈ l
theorem UState.ans {C : List (List Int)} {l us : List Int} (h : UState C l (l ++ us)) (ho : opp l = false) (hk : ∀ c, c ∈ C → Okc (l ++ us) c) (hd : ∀ x, x ∈ us → ¬ x ∈ l) : UnQ C l (nrm us) := by
 obtain ⟨h1, h2⟩ := h.closed ho hk
 refine ⟨h2, srtU_inc sto_lit us, fun x => ?_⟩
 rw [mem_nrm, h1]
 constructor
 ·exact fun hx => ⟨List.mem_append_right _ hx, hd x hx⟩
 ·exact fun hx => (List.mem_append.1 hx.1).resolve_left hx.2
theorem UnQ.uniq {C : List (List Int)} {l q r : List Int} (h : UnQ C l q) (k : UnQ C l r) : q = r := inc_uniq sto_lit h.2.1 k.2.1 fun x => by rw [h.2.2, k.2.2]
def mu (C : List (List Int)) (a : List Int) : Nat := (C.flatten.filter fun x => !decide (x ∈ a)).length
theorem filt_lt {p q : Int → Bool} : ∀ {l : List Int}, (∀ y, q y = true → p y = true) → ∀ {x : Int}, x ∈ l → p x = true → q x = false → (l.filter q).length < (l.filter p).length
 | y :: r, hpq, x, hx, h1, h2 => by
  have hle : (r.filter q).length ≤ (r.filter p).length := by
   rw [← List.countP_eq_length_filter, ← List.countP_eq_length_filter]
   exact List.countP_mono_left fun y _ h => hpq y h
  by_cases e : x = y
  ·subst e
   rw [List.filter_cons, List.filter_cons, h1, h2]
   simp
   omega
  ·have ih := filt_lt hpq ((List.mem_cons.1 hx).resolve_left e) h1 h2
   rw [List.filter_cons, List.filter_cons]
   cases hq : q y with
   | true => rw [hpq y hq]; simpa using ih
   | false =>
    cases p y <;> simp <;> omega
theorem mu_lt {C : List (List Int)} {a c : List Int} {x : Int} (hc : c ∈ C) (hx : x ∈ c) (h : ¬ x ∈ a) : mu C (a ++ [x]) < mu C a := by
 refine filt_lt (fun y hy => ?_) (List.mem_flatten.2 ⟨c, hc, hx⟩) (by simp [h]) (by simp)
 simp only [List.mem_append, Bool.not_eq_true', decide_eq_false_iff_not, not_or] at hy ⊢
 exact hy.1
end Go.Mx.Tryz
namespace Go.Mx.Tryz

theorem onV_rows (l : List Int) : onV (iI l) = rowsI l := by simp [onV, iI, rowsI]
theorem fromF {a : List Int} {o : V} {H : Hp} {ok : Nat → Prop} (h : LR 3 (iI a) o H ok) {k : Nat} (hk : k ≤ a.length) : ∃ p, pureX (.slc 1 true false false) [o, .m (.i .i64 (k : Int))] = some p ∧ noFaV p = true ∧ ∀ (F : Nat) (v : V) (H0 : Hp), G.prim F = none → G.sh F = false → (∀ z, IsSl z (celI (a.drop k)) → Gives G F [.m z] H0 v H0) → ∃ H2, Gives G F [p] H v H2 := by
 rcases h with ⟨e, rfl⟩ | ⟨hne, r, hr, rfl, h3⟩
 ·have e' : a = [] := by simpa [iI] using e
  subst e'
  have : k = 0 := by simpa using hk
  subst this
  exact ⟨.m (.nl 4), rfl, rfl, fun F v H0 hp hs hg => ⟨H, gives_imm1 hp hs (hg (.nl 4) (.inr ⟨rfl, rfl⟩)) H⟩⟩
 ·rw [onV_rows] at h3
  simp only [iI_len]
  refine ⟨.sl r a.length 1 (0 + k) (a.length - k) (false || (false && Nat.beq a.length a.length)), ?_, rfl, fun F v H0 hp hs hg => ?_⟩
  ·simp (maxSteps := 2000000) (disch := omega) [gd_in, gd_and, wr_i64, show (k : Int) ≤ a.length from by omega, hk]
  ·have hv := viewI (st := 0 + k) (len := a.length - k) (ver := a.length) (lim := false || (false && Nat.beq a.length a.length)) h3 (Nat.zero_le _) 18
   have hd : (a.drop (0 + k)).take (a.length - k) = a.drop k := by rw [Nat.zero_add, List.take_of_length_le (by simp)]
   rw [hd] at hv
   have hv2 : optMap (Mx.view 20 H) [.sl r a.length 1 (0 + k) (a.length - k) (false || (false && Nat.beq a.length a.length))] = some [.sl (celI (a.drop k))] := by
    show (Mx.view 20 H _).bind _ = _
    rw [hv]
    rfl
   have hg := hg (.sl (celI (a.drop k))) (.inl rfl)
   cases hfl : flatV v with
   | true => exact ⟨H, gives_view (is := [.sl (celI (a.drop k))]) hp hs hg hv2 (.inr ⟨by simp [refs, ref1], hfl⟩)⟩
   | false => exact ⟨_, gives_view_fr (is := [.sl (celI (a.drop k))]) hp hs hg hv2 (by simp [refs, ref1]) hfl rfl (freezeI h3)⟩
theorem flat_len {C : List (List Int)} (h : ∀ c, c ∈ C → c.length ≤ 30) : C.flatten.length ≤ 30 * C.length := by
 induction C with
 | nil => simp
 | cons c r ih =>
  have h1 := h c (List.mem_cons_self ..)
  have h2 := ih fun d hd => h d (List.mem_cons_of_mem _ hd)
  simp only [List.flatten_cons, List.length_append, List.length_cons]
  omega
theorem UC.from {D : List (List Int)} {l : List Int} {x : Int} (h : UC D l x) : x ∈ l ∨ ∃ c, c ∈ D ∧ x ∈ c := by
 cases h with
 | base h => exact .inl h
 | unit hc hx _ => exact .inr ⟨_, hc, hx⟩
def UniR (n : Int) (zs : List I) (l : List Int) (v : V) : Prop := if (frm n zs && lits n l) = true then (Conf (zs.map dI) l ∧ v = .tu [.m (.nl 4), .m (.b false), .m (.i .i64 0)]) ∨ ∃ q, UnQ (zs.map dI) l q ∧ v = .tu [.m (zI q), .m (.b true), .m (.i .i64 0)] else v = .tu [.m (.nl 4), .m (.b false), .m (.i .i64 2)]

set_option maxHeartbeats 8000000 in
theorem units_r {z y : I} {zs : List I} {l : List Int} {n : Int} (hz : IsSl z (ones zs)) (hc : Cls zs) (hy : IsSl y (celI l)) (hl : l.length ≤ 30) (h60 : zs.length ≤ 60) (h30 : ∀ y, y ∈ zs → (dI y).length ≤ 30) (HH : Hp) : ∃ v, Gives G 21 [.m (.ag [.i .i64 n, z]), .m y] HH v HH ∧ UniR n zs l v := by
 have key : ∃ v H', Gives G 21 [.m (.ag [.i .i64 n, z]), .m y] HH v H' ∧ (H' = HH ∧ UniR n zs l v) := by
  refine gives_of_ret ?_
  refine ret_pur rfl rfl rfl rfl rfl ?_
  generalize hQ : (fun (v : V) (H' : Hp) => H' = HH ∧ UniR n zs l v) = Q
  have hr := hz.rules
  simp only [ones_len] at hr
  have hry := hy.rules
  simp only [celI_len] at hry
  have gR := fun H => right_r hz hc (by omega) n H
  cases hf : frm n zs with
  | false =>
   have k : Q (.tu [.m (.nl 4), .m (.b false), .m (.i .i64 2)]) HH := by rw [← hQ]; exact ⟨rfl, by unfold UniR; rw [hf]; rfl⟩
   rw [hf] at gR
   simp (maxSteps := 2000000) (disch := omega) [gd_in, gd_and, wr_i64, gcall_cx, slCells hz, slOn hz, cl (gR _)]
   exact k
  | true =>
   rw [hf] at gR
   obtain ⟨hn65, hlz⟩ := frm_lits hf
   have hn0 := frm_len hf
   have gL := fun H => literals_r hz hy (by omega) hn0 hn65 H
   cases hll : lits n l with
   | false =>
    have k : Q (.tu [.m (.nl 4), .m (.b false), .m (.i .i64 2)]) HH := by rw [← hQ]; exact ⟨rfl, by unfold UniR; rw [hf, hll]; rfl⟩
    rw [hll] at gL
    simp (maxSteps := 2000000) (disch := omega) [gd_in, gd_and, wr_i64, gcall_cx, slCells hz, slOn hz, cl (gR _), cl (gL _)]
    exact k
   | true =>
   rw [hll] at gL
   have qC : Conf (zs.map dI) l → Q (.tu [.m (.nl 4), .m (.b false), .m (.i .i64 0)]) HH := fun h => by
    rw [← hQ]
    refine ⟨rfl, ?_⟩
    unfold UniR
    rw [hf, hll]
    exact .inl ⟨h, rfl⟩
   have qA : ∀ q, UnQ (zs.map dI) l q → Q (.tu [.m (zI q), .m (.b true), .m (.i .i64 0)]) HH := fun q h => by
    rw [← hQ]
    refine ⟨rfl, ?_⟩
    unfold UniR
    rw [hf, hll]
    exact .inr ⟨q, h, rfl⟩
   clear hQ
   generalize hC : zs.map dI = C at *
   have hsm : ∀ c, c ∈ C → Sm c ∧ (∀ x, x ∈ c → x ≠ 0) := fun c hc' => by
    rw [← hC] at hc'
    obtain ⟨u, hu, rfl⟩ := List.mem_map.1 hc'
    exact ⟨lits_sm hn65 (hlz u hu), lits_0 (hlz u hu)⟩
   have hmu : mu C l ≤ 1800 := by
    have h1 := flat_len (C := C) fun c hc' => by
     rw [← hC] at hc'
     obtain ⟨u, hu, rfl⟩ := List.mem_map.1 hc'
     exact h30 u hu
    have h2 : mu C l ≤ C.flatten.length := List.length_filter_le _ _
    rw [← hC, List.length_map] at h1
    rw [hC] at h1
    omega
   have happ : ∃ o H1, (∀ B, loudX (fun _ _ _ => none) ⟨B, []⟩ (.app 3 1 8) [.m (.nl 4), .m y] = some (o, ⟨B, H1⟩)) ∧ noFaV o = true ∧ LR 3 (iI l) o H1 (fun _ => True) := by
    obtain ⟨o1, H1, a1, a2, a3, a4, a5, a6⟩ := (LR.nil (ty := 3) (H := []) (ok := (0 ≤ ·))).push (b := 8) (ys := iI l) (Nat.zero_le _) (by omega) (by simp; omega) (noAg_iI l)
    refine ⟨o1, H1, fun B => (loud_elems (e := onV (iI l)) ?_).trans (a1 B), a2, a3.keep (fun _ _ => rfl) (fun _ _ _ => trivial)⟩
    rw [hry.2.2, ← on1_iI, immS_on1]
   obtain ⟨o0, H0, a1, a2, a3⟩ := happ
   simp (maxSteps := 2000000) (disch := omega) [gd_in, gd_and, wr_i64, gcall_cx, slCells hz, slOn hz, cl (gR _), cl (gL _), -loud_app, a1, setC_v a2, hr]
   have sml := lits_sm hn65 hll
   refine (?key : ∀ (p : List Int × Bool) (o : V) (B : List (Nat × List V)) (H : Hp), getB B 2 = some [.m (.i .i64 n), .m z] → UState C l (l ++ p.1) → (∀ x, x ∈ p.1 → ¬ x ∈ l) → p.1.length + mu C (l ++ p.1) ≤ 1800 → (p.2 = false → ∀ c, c ∈ C → Okc (l ++ p.1) c) → LR 3 (iI (l ++ p.1)) o H (fun _ => True) →
    Run G c21_B1 (S21_1 (.m y) (.fa 2 0) o (.m (.b p.2)) B H) _) ([], true) _ _ _ rfl (by rw [List.append_nil]; exact .start) (fun x hx => by simp at hx) (by simpa using hmu) (fun h => by cases h) (by rw [List.append_nil]; exact a3)
   clear a1 a2 a3 o0 H0
   refine indM (fun p : List Int × Bool => 2 * mu C (l ++ p.1) + p.2.toNat) fun p ih o B H hB hst hnew hlen hok ho => ?_
   obtain ⟨us, again⟩ := p
   simp only at hst hnew hlen hok ho ih ⊢
   unfold c21_B1
   obtain ⟨o1, o2, o3, o4⟩ := ho.nf
   have sma : Sm (l ++ us) := fun x hx => by
    rcases (hst.sub x hx).from with h | ⟨c, h1, h2⟩
    ·exact sml x h
    ·exact (hsm c h1).1 x h2
   cases again with
   | false =>
    have gO := ho.call (F := 42) (ys := []) rfl rfl (opposed_r (zI_sl (l ++ us)) (by simp; omega) sma []) rfl
    simp only [List.map_nil] at gO
    cases hop : opp (l ++ us) with
    | true =>
     rw [hop] at gO
     have k := qC (.inl (hst.con.symm.trans hop))
     simp (maxSteps := 2000000) (disch := omega) [gd_in, gd_and, wr_i64, cl gO, setC_v o1]
     exact k
    | false =>
     rw [hop] at gO
     have k := qA _ (hst.ans (hst.con.symm.trans hop) (hok rfl) hnew)
     obtain ⟨p, e1, e2, e3⟩ := fromF ho (k := l.length) (by simp)
     rw [List.drop_left] at e3
     obtain ⟨H2, e4⟩ := e3 41 (.m (zI (nrm us))) [] rfl rfl fun z hz => sorted_r hz (by omega) (fun x hx => sma x (List.mem_append_right _ hx)) []
     simp (maxSteps := 2000000) (disch := omega) [gd_in, gd_and, wr_i64, cl gO, hry, e1, cl e4, setC_v o1, setC_v e2, zL_one]
     exact k
   | true =>
    simp (maxSteps := 2000000) (disch := omega) [gd_in, gd_and, wr_i64, setC_v o1]
    refine (?key2 : ∀ (i : Nat) (us' : List Int) (b' : Bool) (o : V) (B : List (Nat × List V)) (H : Hp), i ≤ zs.length → getB B 2 = some [.m (.i .i64 n), .m z] → UState C l (l ++ us') → (∀ x, x ∈ us' → ¬ x ∈ l) → us'.length + mu C (l ++ us') ≤ 1800 → mu C (l ++ us') ≤ mu C (l ++ us) → (b' = true → mu C (l ++ us') < mu C (l ++ us)) → (b' = false → ∀ j c, j < i → C[j]? = some c → Okc (l ++ us') c) → LR 3 (iI (l ++ us')) o H (fun _ => True) →
     Run G c21_B0 (S21_0 (.m y) (.fa 2 0) o (.m (.b b')) (.m (.i .i64 (i : Int))) B H) _) 0 us false _ _ _ (Nat.zero_le _) hB hst hnew hlen (Nat.le_refl _) (fun h => by cases h) (fun _ j c h => by omega) ho
    clear hB hst hnew hlen hok ho o1 o2 o3 o4 sma
    refine indM (fun i : Nat => zs.length - i) fun i ihi us' b' o B H hi hB hst hnew hlen hle hlt hok ho => ?_
    unfold c21_B0
    obtain ⟨o1, o2, o3, o4⟩ := ho.nf
    cases hx : zs[i]? with
    | none =>
     have : i = zs.length := by have := List.getElem?_eq_none_iff.1 hx; omega
     subst this
     have k := fun B => ih (us', b') (by
      cases b' with
      | false => simp; omega
      | true => have := hlt rfl; simp; omega) o B H
     simp only at k
     have k := fun B hB => k B hB hst hnew hlen (fun hb c hc' => by
      obtain ⟨j, hj, he⟩ := List.getElem_of_mem hc'
      refine hok hb j c ?_ (by rw [List.getElem?_eq_getElem hj, he])
      rw [← hC, List.length_map] at hj
      exact hj) ho
     simp (maxSteps := 2000000) (disch := omega) [gd_in, gd_and, wr_i64, hr, hB, setC_v o1]
     exact k _ hB
    | some w =>
     have hlti := (List.getElem?_eq_some_iff.1 hx).1
     have hlti' : (i : Int) < zs.length := by omega
     have hn := ones_nth hx
     have wi : wr .i64 ((i : Int) + 1) = ((i + 1 : Nat) : Int) := wr_i64 (by omega) (by omega)
     have hwm' := List.mem_of_getElem? hx
     have hw := (hc w hwm').1
     have hwl' := h30 w hwm'
     have hCi : C[i]? = some (dI w) := by rw [← hC, List.getElem?_map, hx]; rfl
     have hcC := List.mem_of_getElem? hCi
     obtain ⟨hws', hw0⟩ := hsm _ hcC
     have hok2 : b' = false → Okc (l ++ us') (dI w) → ∀ j c, j < i + 1 → C[j]? = some c → Okc (l ++ us') c := fun hb h j c hj hc' => by
      by_cases e : j < i
      ·exact hok hb j c e hc'
      ·have : j = i := by omega
       subst this
       rw [hCi] at hc'
       cases hc'
       exact h
     obtain ⟨v, H1, gv, hH1, hk1, hv⟩ := rest_r (l := l ++ us') (ol := o) (HH := H) hw (by omega) hws' o1 (fun H' hk x => by
      have ho' : LR 3 (iI (l ++ us')) o H' (fun _ => True) := (ho.keep (H' := H) (ok' := (· < H.length)) (fun _ _ => rfl) (fun r _ h => h)).keep (fun r hr => hk r hr) (fun _ _ _ => trivial)
      exact ho'.call (F := 65) (ys := [.i .i64 x]) rfl rfl (has_r (zI_sl (l ++ us')) (by simp; omega) x []) rfl)
     have ho1 : LR 3 (iI (l ++ us')) o H1 (· < H.length) := (ho.keep (H' := H) (ok' := (· < H.length)) (fun _ _ => rfl) (fun r _ h => h)).keep (fun r hr => hk1 r hr) (fun r hr _ => hr)
     rcases hv with ⟨h1, rfl⟩ | ⟨h1, o9, rfl, ho9⟩
     ·have g2 := fun H => sorted_r (z := .nl 4) (c := []) (.inr ⟨rfl, rfl⟩) (by simp) (fun x hx => by simp at hx) H
      have e0 : zI (nrm []) = .nl 4 := rfl
      rw [e0] at g2
      have k := fun B hB => ihi (i + 1) (by omega) us' b' o B H1 (by omega) hB hst hnew hlen hle hlt (fun hb => hok2 hb (.inl h1)) (ho1.keep (fun _ _ => rfl) (fun _ _ _ => trivial))
      simp (maxSteps := 2000000) (disch := omega) [gd_in, gd_and, wr_i64, hr, hB, hlti, hlti', hn, cl gv, cl (g2 _), setC_v o1, wi, -Int.natCast_add]
      exact k _ hB
     ·have hrl := rst_len (l ++ us') (dI w)
      have hrs : Sm (rst (l ++ us') (dI w)) := fun x hx => hws' x (rst_mem hx)
      obtain ⟨w1, w2, w3⟩ := ho9.nf
      obtain ⟨H2, g2, hH2, hk2⟩ := ho9.callF (F := 41) rfl rfl (by
       rw [on1_iI]
       exact sorted_r (.inl rfl) (by omega) hrs [])
      have ho2 : LR 3 (iI (l ++ us')) o H2 (fun _ => True) := ho1.keep (fun r hr => hk2 r hr) (fun _ _ _ => trivial)
      have hzr := (zI_sl (nrm (rst (l ++ us') (dI w)))).rules
      simp only [celI_len] at hzr
      have hz1 : noFaV (.m (zI (nrm (rst (l ++ us') (dI w))))) = true := rfl
      have hmem := fun x => mem_nrm (c := rst (l ++ us') (dI w)) (x := x)
      have hinc := srtU_inc sto_lit (rst (l ++ us') (dI w))
      change Inc litLt (nrm (rst (l ++ us') (dI w))) at hinc
      generalize nrm (rst (l ++ us') (dI w)) = q at *
      rcases q with _ | ⟨x, _ | ⟨x2, t⟩⟩
      ·have hq0 : rst (l ++ us') (dI w) = [] := List.eq_nil_iff_forall_not_mem.2 fun x hx => by simpa using (hmem x).2 hx
       have k := qC (hst.stuck hcC hq0)
       simp (maxSteps := 2000000) (disch := omega) [gd_in, gd_and, wr_i64, gcall_cx, hr, hB, hlti, hlti', hn, cl gv, cl g2, setC_v o1, setC_v w1, hzr, -Int.natCast_add]
       exact k
      ·have hx1 := (hmem x).1 (by simp)
       obtain ⟨hxc, hxn⟩ := mem_rst.1 hx1
       have hxa : ¬ x ∈ l ++ us' := fun h => by
        rw [sat_of hxc h] at h1
        cases h1
       have hst2 := hst.step hcC (hw0 x hxc) fun u => by rw [← hmem u]; simp
       have hmu2 := mu_lt hcC hxc hxa
       have hnx : nth (celI [x]) 0 = some [.i .i64 x] := rfl
       rw [List.append_assoc] at hst2 hmu2
       obtain ⟨o5, H5, c1, c2, c3, c4, c5, c6⟩ := (ho2.keep (H' := H2) (ok' := (0 ≤ ·)) (fun _ _ => rfl) (fun _ _ _ => Nat.zero_le _)).push (b := 8) (ys := [.i .i64 x]) (Nat.zero_le _) (by omega) (by simp; omega) (fun u hu => by rw [List.mem_singleton] at hu; subst hu; rfl)
       have c1' : ∀ B, loudX (fun _ _ _ => none) ⟨B, H2⟩ (.app 3 1 8) [o, .ls [[.i .i64 x]]] = some (o5, ⟨B, H5⟩) := fun B => (loud_elems rfl).trans (c1 B)
       rw [show iI (l ++ us') ++ [.i .i64 x] = iI (l ++ (us' ++ [x])) from by simp [iI]] at c3
       have k := fun B hB => ihi (i + 1) (by omega) (us' ++ [x]) true o5 B H5 (by omega) hB hst2 (fun u hu => by
        rcases List.mem_append.1 hu with h | h
        ·exact hnew u h
        ·rw [List.mem_singleton] at h
         subst h
         exact fun h => hxa (List.mem_append_left _ h)) (by simp; omega) (by omega) (fun _ => by omega) (fun h => by cases h) (c3.keep (fun _ _ => rfl) (fun _ _ _ => trivial))
       simp (maxSteps := 2000000) (disch := omega) [gd_in, gd_and, wr_i64, gcall_cx, hr, hB, hlti, hlti', hn, cl gv, cl g2, setC_v o1, setC_v w1, setC_v c2, hzr, hnx, -loud_app, c1', wi, -Int.natCast_add]
       exact k _ hB
      ·have hne : x ≠ x2 := fun e => by
        subst e
        have := (List.pairwise_cons.1 hinc).1 x (by simp)
        rw [sto_lit.irr] at this
        cases this
       have hk : Okc (l ++ us') (dI w) := .inr ⟨x, x2, hne, (hmem x).1 (by simp), (hmem x2).1 (by simp)⟩
       have k := fun B hB => ihi (i + 1) (by omega) us' b' o B H2 (by omega) hB hst hnew hlen hle hlt (fun hb => hok2 hb hk) ho2
       have l1 : ¬ (((t.length + 1 + 1 : Nat) : Int) = 0) := by omega
       have l2 : ¬ (((t.length + 1 + 1 : Nat) : Int) = 1) := by omega
       simp (maxSteps := 2000000) (disch := omega) [gd_in, gd_and, wr_i64, gcall_cx, hr, hB, hlti, hlti', hn, cl gv, cl g2, setC_v o1, setC_v w1, hzr, l1, l2, wi, -Int.natCast_add]
       exact k _ hB
 obtain ⟨v, H', h1, rfl, h2⟩ := key
 exact ⟨v, h1, h2⟩
end Go.Mx.Tryz
