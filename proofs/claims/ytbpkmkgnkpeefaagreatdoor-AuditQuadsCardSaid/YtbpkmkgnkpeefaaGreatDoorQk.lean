/- A store of quadtrees: Load and Right of the program. -/
import Derived.Test.YtbpkmkgnkpeefaaGreatDoorQj
set_option linter.unusedSimpArgs false
set_option linter.unusedVariables false
set_option linter.unusedSectionVars false
set_option maxRecDepth 100000
namespace Go.Mx.Tryz
open Go.Lib Go.Proofs

def LoadQ (s : Int) (l : List Qd) (x : V) : Prop := (rightQ s l = true ∧ x = .tu [.pt 1 1 0 0, .m (.i .i64 0)]) ∨ (rightQ s l = false ∧ x = .tu [.m (.nl 0), .m (.i .i64 2)])
set_option maxHeartbeats 4000000 in
theorem load_w {v : I} {s : Int} {l : List Qd} (hv : IsSl v (cellsQ l)) (hl : l.length ≤ 100000) : Ret G 58 [.m (.ag [.i .i64 s, v])] [] (fun x _ => LoadQ s l x) := by
 have hrv := hv.rules
 simp only [cellsQ_len] at hrv
 have hv1 := isSl_q hv
 have hl2 : ¬ 100000 < (l.length : Int) := by omega
 refine ret_sh mono rfl rfl rfl rfl rfl ?_
 generalize hQ : (fun (x : V) (_ : Hp) => LoadQ s l x) = Q
 have qb : rightQ s l = false → ∀ H, Q (.tu [.m (.nl 0), .m (.i .i64 2)]) H := fun h H => by rw [← hQ]; exact .inr ⟨h, rfl⟩
 have qg : rightQ s l = true → ∀ H, Q (.tu [.pt 1 1 0 0, .m (.i .i64 0)]) H := fun h H => by rw [← hQ]; exact .inl ⟨h, rfl⟩
 clear hQ
 by_cases hs : s < 2 ∨ 8 < s
 ·have k := qb (by unfold rightQ; rw [decide_eq_true hs]; rfl)
  simp (maxSteps := 2000000) (disch := omega) [gd_in, gd_and, wr_i64, hv1, hrv, cl (new_b hs)]
  exact k _
 have hs2 : 2 ≤ s ∧ s ≤ 8 := by omega
 have eR : rightQ s l = okQ s l l.length := by unfold rightQ; rw [decide_eq_false hs, decide_eq_false (by omega : ¬ 100000 < l.length)]; rfl
 simp (maxSteps := 2000000) (disch := omega) [gd_in, gd_and, wr_i64, hv1, hrv, cl (new_w hs2), hl2]
 refine (?key : ∀ (i : Nat) (B : List (Nat × List V)) (m : List (Qd × Int)) (nv wv : V) (b : Nat) (R : Hp), i ≤ l.length → getB B 1 = some [.m (.i .i64 s), .m v] → okQ s l i = true → RQ s (l.take i) nv wv b R → KnQ s (l.take i) m → Run G c58_B0 (S58_0 (.fa 1 0) (.pt 1 1 0 0) (.m v) (.m (.i .i64 (l.length : Nat))) (.m (.i .i64 (i : Int))) B (hpQ s m nv wv b R)) _) 0 _ _ _ _ _ _ (Nat.zero_le _) rfl rfl (.inl ⟨rfl, rfl, rfl, rfl, rfl⟩) (knQ_nil s)
 refine indM (fun i : Nat => l.length - i) fun i ih B m nv wv b R hi hB hok hr hm => ?_
 unfold c58_B0
 cases hx : l[i]? with
 | none =>
  have : i = l.length := by have := List.getElem?_eq_none_iff.1 hx; omega
  subst this
  have k := qg (by rw [eR, hok])
  simp (maxSteps := 2000000) (disch := omega) [gd_in, gd_and, wr_i64, hrv, hB]
  exact k _
 | some x =>
  have hlt := (List.getElem?_eq_some_iff.1 hx).1
  have hlt' : (i : Int) < l.length := by omega
  have hn := cellsQ_nth hx
  have htl : (l.take i).length = i := by rw [List.length_take]; omega
  have htk : l.take i ++ [x] = l.take (i + 1) := by rw [List.take_add_one, hx]; rfl
  have hj := join_w hr hm hs2 (by omega) x
  have hsucc := okQ_succ (s := s) hx
  rw [hok, Bool.true_and] at hsucc
  have hgi := nxtQ_good (s := s) (x := x) hi
  have wi : wr .i64 ((i : Int) + 1) = ((i + 1 : Nat) : Int) := wr_i64 (by omega) (by omega)
  have ws : wr .i64 (s + (i : Int)) = s + (i : Int) := wr_i64 (by omega) (by omega)
  simp (maxSteps := 2000000) (disch := omega) [gd_in, gd_and, wr_i64, hrv, hB, hlt, hlt', hn]
  rw [callC_some]
  refine retm hj fun r H' hr' => ?_
  unfold JoinQ at hr'
  rw [htk, htl] at hr'
  rcases hr' with ⟨hg, rfl, m1, nv1, wv1, R1, rfl, h1, h2⟩ | ⟨hg, id, e, rfl, he⟩
  ·have k := fun B' => ih (i + 1) (by omega) B' m1 nv1 wv1 1 R1 (by omega)
   rw [decide_eq_true (hgi.2 hg)] at hsucc
   simp (maxSteps := 2000000) (disch := omega) [gd_in, gd_and, wr_i64, hB, ws, wi, -Int.natCast_add]
   exact k _ (by simpa using hB) hsucc h1 h2
  ·have k := qb (by
    rw [eR]
    cases hk : okQ s l l.length with
    | false => rfl
    | true => exact absurd (hgi.1 (okQ_get hk hlt hx)) hg)
   by_cases he0 : e = 0
   ·subst he0
    have hid : ¬ id = s + (i : Int) := by
     rcases he with he | he
     ·exact absurd rfl he
     ·exact he
    simp (maxSteps := 2000000) (disch := omega) [gd_in, gd_and, wr_i64, hB, ws, hid]
    exact k _
   ·simp (maxSteps := 2000000) (disch := omega) [gd_in, gd_and, wr_i64, hB, he0]
    exact k _
theorem right_q {v : I} {s : Int} {l : List Qd} (hv : IsSl v (cellsQ l)) (hl : l.length ≤ 100000) (H : Hp) : Gives G 23 [.m (.ag [.i .i64 s, v])] H (.m (.b (rightQ s l))) H := by
 have hv1 := isSl_q hv
 refine gives_pur rfl rfl rfl rfl rfl ?_
 simp (maxSteps := 2000000) (disch := omega) [gd_in, gd_and, wr_i64, hv1]
 rw [callC_some]
 refine retm (load_w hv hl) fun r H' hr => ?_
 rcases hr with ⟨hg, rfl⟩ | ⟨hg, rfl⟩
 ·simp (maxSteps := 2000000) (disch := omega) [gd_in, gd_and, wr_i64, hg]
 ·simp (maxSteps := 2000000) (disch := omega) [gd_in, gd_and, wr_i64, hg]
end Go.Mx.Tryz
