/- A store of quadtrees in shared memory: its rows, the level of a number, a new store. -/
import Derived.Test.YtbpkmkgnkpeefaaGreatDoorQd
import Derived.Test.YtbpkmkgnkpeefaaGreatDoorQh
import Derived.Test.YtbpkmkgnkpeefaaGreatDoorWb
set_option linter.unusedSimpArgs false
set_option linter.unusedVariables false
set_option linter.unusedSectionVars false
set_option maxRecDepth 100000
namespace Go.Mx.Tryz
open Go.Lib Go.Proofs

def ekQ (x : Qd) : I := .ag [.i .i64 x.a, .i .i64 x.b, .i .i64 x.c, .i .i64 x.d]
theorem hkQ (a b : Qd) : eqKey ⟨true, [1, 1, 1, 1]⟩ (ekQ a) (ekQ b) = some (decide (a = b)) := by
 simp only [eqKey, ekQ, eqCs_cons, eqC_i, eqCs_nil, Option.bind_some, Option.some.injEq]
 obtain ⟨a1, a2, a3, a4⟩ := a
 obtain ⟨b1, b2, b3, b4⟩ := b
 rw [Bool.eq_iff_iff]
 simp
theorem mQ_up (m : List (Qd × Int)) (x : Qd) (s : Int) : mupR ⟨true, [1, 1, 1, 1]⟩ (mpR ekQ evI m) (.ag [.i .i64 x.a, .i .i64 x.b, .i .i64 x.c, .i .i64 x.d]) (.m (.i .i64 s)) = some (mpR ekQ evI (mset m x s)) := mupR_enc hkQ (fun _ => rfl) m x s
theorem mQ_get (m : List (Qd × Int)) (x : Qd) (ok : Bool) : lkpRow ⟨true, [1, 1, 1, 1]⟩ [.m (.i .i64 0)] false ok (mpR ekQ evI m) (.ag [.i .i64 x.a, .i .i64 x.b, .i .i64 x.c, .i .i64 x.d]) = some (okT ok (.m (.i .i64 ((mfind m x).getD 0))) (mfind m x).isSome) := lkpRow_enc (z0 := 0) hkQ rfl m x
def KnQ (s : Int) (q : List Qd) (m : List (Qd × Int)) : Prop := ∀ x, (∀ k, mfind m x = some k → x ∈ q ∧ k < s + (q.length : Int)) ∧ (mfind m x = none → ¬ x ∈ q)
theorem knQ_nil (s : Int) : KnQ s [] [] := fun x => ⟨fun k h => (by cases h), fun _ => (by simp)⟩
theorem knQ_set {s : Int} {q : List Qd} {m : List (Qd × Int)} (h : KnQ s q m) (x : Qd) : KnQ s (q ++ [x]) (mset m x (s + (q.length : Int))) := by
 intro y
 rw [mfind_mset]
 by_cases e : x = y
 ·rw [if_pos e]
  subst e
  refine ⟨fun k hk => ?_, fun h => (by cases h)⟩
  cases hk
  exact ⟨(by simp), (by simp; omega)⟩
 ·rw [if_neg e]
  refine ⟨fun k hk => ?_, fun hn => ?_⟩
  ·have := (h y).1 k hk
   exact ⟨by simp [this.1], by simp; omega⟩
  ·simp only [List.mem_append, List.mem_singleton]
   rintro (h' | h')
   ·exact (h y).2 hn h'
   ·exact e h'.symm
def RQ (s : Int) (q : List Qd) (nv wv : V) (b : Nat) (R : Hp) : Prop := (q = [] ∧ nv = .m (.nl 4) ∧ wv = .m (.nl 4) ∧ b = 0 ∧ R = []) ∨ (q ≠ [] ∧ nv = .sl 2 q.length 4 0 q.length false ∧ wv = .sl 3 q.length 1 0 q.length false ∧ b = 1 ∧ R = [.cs 49 4 (rowsQ q) 0 false, .cs 3 1 (rowsI (levs s q)) 0 false])
abbrev hpQ (s : Int) (m : List (Qd × Int)) (nv wv : V) (b : Nat) (R : Hp) : Hp := mpR ekQ evI m :: .cs 165 4 [[.m (.i .i64 s), nv, wv, .mp 0]] b false :: R
theorem rQ_nf {s : Int} {q : List Qd} {nv wv : V} {b : Nat} {R : Hp} (h : RQ s q nv wv b R) : oneV nv = true ∧ oneV wv = true ∧ noFaV nv = true ∧ noFaV wv = true ∧ pureX (.len false) [nv] = some (.m (.i .i64 (q.length : Int))) ∧ pureX (.len false) [wv] = some (.m (.i .i64 (q.length : Int))) ∧ Nat.ble b 1 = true := by
 rcases h with ⟨rfl, rfl, rfl, rfl, rfl⟩ | ⟨_, rfl, rfl, rfl, rfl⟩ <;> exact ⟨rfl, rfl, rfl, rfl, rfl, rfl, rfl⟩
theorem view_mQ (n : Nat) (m : List (Qd × Int)) (R : Hp) : ∃ kn, view (n + 2) (mpR ekQ evI m :: R) (.mp 0) = some kn := by
 have : ∀ l : List (Qd × Int), ∃ r, optMap (fun (p : I × V) => (view (n + 1) (mpR ekQ evI m :: R) p.2).bind fun x => some [p.1, x]) (l.map fun p => (ekQ p.1, evI p.2)) = some r := by
  intro l
  induction l with
  | nil => exact ⟨_, rfl⟩
  | cons p t ih =>
   obtain ⟨r, hr⟩ := ih
   refine ⟨[ekQ p.1, .i .i64 p.2] :: r, ?_⟩
   show Option.bind (some [ekQ p.1, .i .i64 p.2]) _ = _
   simp only [Option.bind_some]
   show Option.bind (optMap _ (t.map _)) _ = _
   rw [hr]
   rfl
 obtain ⟨r, hr⟩ := this m
 exact ⟨.mp r, by
  show Option.bind (optMap _ (m.map _)) _ = _
  rw [hr]
  rfl⟩
theorem viewQr {H : Hp} {r : Nat} {q : List Qd} (h : nth H r = some (.cs 49 4 (rowsQ q) 0 false)) (k : Nat) : view (k + 2) H (.sl r q.length 4 0 q.length false) = some (.sl (cellsQ q)) := by
 have e : elems H (.sl r q.length 4 0 q.length false) = some (rowsQ q) := by
  show Option.bind (nth H r) _ = _
  rw [h]
  show gd (Nat.ble 0 q.length && Nat.beq 4 4) (some (((rowsQ q).drop 0).take q.length)) = _
  rw [ble_dec, decide_eq_true (Nat.zero_le _), List.drop_zero, List.take_of_length_le (by simp)]
  rfl
 show Option.bind (elems H (.sl r q.length 4 0 q.length false)) _ = _
 rw [e]
 show Option.bind (optMap _ (rowsQ q)) _ = _
 rw [optQ]
 rfl
theorem view_nv {s : Int} {q : List Qd} {m : List (Qd × Int)} {nv wv : V} {b : Nat} {R : Hp} (h : RQ s q nv wv b R) (n : Nat) : ∃ v w, view (n + 2) (hpQ s m nv wv b R) nv = some v ∧ view (n + 2) (hpQ s m nv wv b R) wv = some w ∧ IsSl v (cellsQ q) ∧ IsSl w (celI (levs s q)) := by
 rcases h with ⟨rfl, rfl, rfl, rfl, rfl⟩ | ⟨_, rfl, rfl, rfl, rfl⟩
 ·exact ⟨_, _, rfl, rfl, isSl_nil, isSl_nil⟩
 ·refine ⟨_, _, ?_, ?_, isSl_sl (cellsQ q), isSl_sl (celI (levs s q))⟩
  ·exact viewQr rfl n
  ·have := viewN (H := hpQ s m (.sl 2 q.length 4 0 q.length false) (.sl 3 q.length 1 0 q.length false) 1 [.cs 49 4 (rowsQ q) 0 false, .cs 3 1 (rowsI (levs s q)) 0 false]) (r := 3) (ver := q.length) (st := 0) (len := q.length) (lim := false) (base := 0) (fz := false) (l := levs s q) rfl (Nat.zero_le _) n
   rw [List.drop_zero, List.take_of_length_le (by rw [levs_len]; omega)] at this
   exact this
theorem level_w {s : Int} {q : List Qd} {m : List (Qd × Int)} {nv wv : V} {b : Nat} {R : Hp} (h : RQ s q nv wv b R) (hs : 2 ≤ s ∧ s ≤ 8) (hl : q.length ≤ 100000) (k : Int) :
  Gives G 131 [.pt 1 1 0 0, .m (.i .i64 k)] (hpQ s m nv wv b R) (.m (.i .i64 (lvZ s (levs s q) k))) (hpQ s m nv wv b R) := by
 obtain ⟨v, w, h1, h2, h3, h4⟩ := view_nv (m := m) h 17
 obtain ⟨kn, h5⟩ := view_mQ 17 m (.cs 165 4 [[.m (.i .i64 s), nv, wv, .mp 0]] b false :: R)
 refine gives_view (is := [.pt [.i .i64 s, v, w, kn], .i .i64 k]) rfl rfl (level_st (k := k) h3 h4 (by rw [cellsQ_len, levs_len]) hs (by rw [levs_len]; exact hl) (hpQ s m nv wv b R)) ?_ (.inr ⟨by simp [refs, ref1], rfl⟩)
 show Option.bind (view 20 _ (.pt 1 1 0 0)) _ = _
 have e : view 20 (hpQ s m nv wv b R) (.pt 1 1 0 0) = some (.pt [.i .i64 s, v, w, kn]) := by
  have e0 : readA ⟨[], hpQ s m nv wv b R⟩ 4 (.pt 1 1 0 0) = some [.m (.i .i64 s), nv, wv, .mp 0] := by
   show gd (Nat.ble b 1 && _) _ = _
   rw [(rQ_nf h).2.2.2.2.2.2]
   rfl
  show (readA ⟨[], hpQ s m nv wv b R⟩ 4 (.pt 1 1 0 0)).bind (fun cs => (optMap (view 19 (hpQ s m nv wv b R)) cs).bind fun l => some (I.pt l)) = some (I.pt [.i .i64 s, v, w, kn])
  rw [e0]
  have h0 : view 19 (hpQ s m nv wv b R) (.m (.i .i64 s)) = some (.i .i64 s) := rfl
  simp only [Option.bind_some, optMap, h0, h1, h2, h5]
 rw [e]
 rfl
theorem appQ {s : Int} {q : List Qd} {m : List (Qd × Int)} {nv wv : V} {b : Nat} {R : Hp} (h : RQ s q nv wv b R) (hl : q.length < 100000) {x : Qd} (h0 : 0 ≤ lvQ s q x.a) : ∃ nv1 R1 wv1 R2,
  (∀ B, appX ⟨B, hpQ s m nv wv b R⟩ 49 4 32 nv [[.m (.i .i64 x.a), .m (.i .i64 x.b), .m (.i .i64 x.c), .m (.i .i64 x.d)]] = some (nv1, ⟨B, hpQ s m nv wv b R1⟩)) ∧ oneV nv1 = true ∧ noFaV nv1 = true ∧
  (∀ B, appX ⟨B, hpQ s m nv1 wv 1 R1⟩ 3 1 8 wv [[.m (.i .i64 (lvQ s q x.a + 1))]] = some (wv1, ⟨B, hpQ s m nv1 wv 1 R2⟩)) ∧ oneV wv1 = true ∧ noFaV wv1 = true ∧ RQ s (q ++ [x]) nv1 wv1 1 R2 := by
 have hlv : levs s (q ++ [x]) = levs s q ++ [lvQ s q x.a + 1] := by
  rw [levs_snoc]
  congr 2
  have := lvQ_nn.1 h0
  unfold lvQ
  rw [if_neg (by omega)]
 have e1 : rowsQ q ++ [[.m (.i .i64 x.a), .m (.i .i64 x.b), .m (.i .i64 x.c), .m (.i .i64 x.d)]] = rowsQ (q ++ [x]) := by simp [rowsQ]
 have e2 : rowsI (levs s q) ++ [[.m (.i .i64 (lvQ s q x.a + 1))]] = rowsI (levs s (q ++ [x])) := by rw [rowsI_snoc, hlv]
 rcases h with ⟨rfl, rfl, rfl, rfl, rfl⟩ | ⟨hne, rfl, rfl, rfl, rfl⟩
 ·refine ⟨_, _, _, _, fun B => rfl, rfl, rfl, fun B => rfl, rfl, rfl, .inr ⟨by simp, rfl, rfl, rfl, ?_⟩⟩
  rw [← e2]
  rfl
 ·have a1 := fun B => app_row (M := ⟨B, hpQ s m (.sl 2 q.length 4 0 q.length false) (.sl 3 q.length 1 0 q.length false) 1 [.cs 49 4 (rowsQ q) 0 false, .cs 3 1 (rowsI (levs s q)) 0 false]⟩) (r := 2) (bytes := 32) (xs := [[.m (.i .i64 x.a), .m (.i .i64 x.b), .m (.i .i64 x.c), .m (.i .i64 x.d)]]) rfl (by simp) (by simp; omega) rfl
  simp only [rowsQ_len, List.length_cons, List.length_nil, Nat.zero_add, List.set_cons_succ, List.set_cons_zero, e1] at a1
  have hL : (levs s q).length = q.length := levs_len s q
  have a2 := fun B => app_row (M := ⟨B, hpQ s m (.sl 2 (q.length + 1) 4 0 (q.length + 1) false) (.sl 3 q.length 1 0 q.length false) 1 [.cs 49 4 (rowsQ (q ++ [x])) 0 false, .cs 3 1 (rowsI (levs s q)) 0 false]⟩) (r := 3) (bytes := 8) (xs := [[.m (.i .i64 (lvQ s q x.a + 1))]]) rfl (by simp) (by simp [rowsI_len, hL]; omega) rfl
  simp only [rowsI_len, hL, List.length_cons, List.length_nil, Nat.zero_add, List.set_cons_succ, List.set_cons_zero, e2] at a2
  exact ⟨_, _, _, _, a1, rfl, rfl, a2, rfl, rfl, .inr ⟨by simp, by simp, by simp, rfl, rfl⟩⟩
theorem new_w {s : Int} (hs : 2 ≤ s ∧ s ≤ 8) : Gives G 99 [.m (.i .i64 s)] [] (.tu [.pt 1 1 0 0, .m (.i .i64 0)]) (hpQ s [] (.m (.nl 4)) (.m (.nl 4)) 0 []) := by
 refine .of_ret ?_
 refine ret_sh mono rfl rfl rfl rfl rfl ?_
 have h1 : ¬ s < 2 := by omega
 have h2 : ¬ 8 < s := by omega
 have em : mkAg [.m (.i .i64 s), .m (.nl 4), .m (.nl 4), .mp 0] = .ag [.m (.i .i64 s), .m (.nl 4), .m (.nl 4), .mp 0] := rfl
 simp (maxSteps := 2000000) (disch := omega) [gd_in, gd_and, wr_i64, h1, h2, em, -mkAg_eq]
 rfl
theorem new_b {s : Int} (hs : s < 2 ∨ 8 < s) : Gives G 99 [.m (.i .i64 s)] [] (.tu [.m (.nl 0), .m (.i .i64 2)]) [] := by
 refine .of_ret ?_
 refine ret_sh mono rfl rfl rfl rfl rfl ?_
 by_cases h1 : s < 2
 ·simp (maxSteps := 2000000) (disch := omega) [gd_in, gd_and, wr_i64, h1]
 ·have h2 : 8 < s := by omega
  simp (maxSteps := 2000000) (disch := omega) [gd_in, gd_and, wr_i64, h1, h2]
end Go.Mx.Tryz
