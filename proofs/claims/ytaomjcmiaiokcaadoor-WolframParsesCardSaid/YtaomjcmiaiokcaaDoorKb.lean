/- strings.Trim at the machine; lines. -/
import Derived.Test.YtaomjcmiaiokcaaDoorKa
import Derived.Test.YtaomjcmiaiokcaaDoorStr
set_option linter.unusedSimpArgs false
set_option linter.unusedVariables false
set_option linter.unusedSectionVars false
set_option maxRecDepth 100000
namespace Go.Mx.Tryd
open Go.Proofs

def zR : List (List V) := List.replicate 256 [.m (.b false)]
@[reducible] def zRow : Row := .cs 63 1 zR 0 false
theorem als_set (B : List (Nat × List V)) : loudX (fun _ _ _ => none) ⟨B, []⟩ (.als 63 1 256 [.m (.b false), .m (.b false), .m (.b false), .m (.b false), .m (.b false), .m (.b false), .m (.b false), .m (.b false), .m (.b false), .m (.b false), .m (.b false), .m (.b false), .m (.b false), .m (.b false), .m (.b false), .m (.b false), .m (.b false), .m (.b false), .m (.b false), .m (.b false), .m (.b false), .m (.b false), .m (.b false), .m (.b false), .m (.b false), .m (.b false), .m (.b false), .m (.b false), .m (.b false), .m (.b false), .m (.b false), .m (.b false), .m (.b false), .m (.b false), .m (.b false), .m (.b false), .m (.b false), .m (.b false), .m (.b false), .m (.b false), .m (.b false), .m (.b false), .m (.b false), .m (.b false), .m (.b false), .m (.b false), .m (.b false), .m (.b false), .m (.b false), .m (.b false), .m (.b false), .m (.b false), .m (.b false), .m (.b false), .m (.b false), .m (.b false), .m (.b false), .m (.b false), .m (.b false), .m (.b false), .m (.b false), .m (.b false), .m (.b false), .m (.b false), .m (.b false), .m (.b false), .m (.b false), .m (.b false), .m (.b false), .m (.b false), .m (.b false), .m (.b false), .m (.b false), .m (.b false), .m (.b false), .m (.b false), .m (.b false), .m (.b false), .m (.b false), .m (.b false), .m (.b false), .m (.b false), .m (.b false), .m (.b false), .m (.b false), .m (.b false), .m (.b false), .m (.b false), .m (.b false), .m (.b false), .m (.b false), .m (.b false), .m (.b false), .m (.b false), .m (.b false), .m (.b false), .m (.b false), .m (.b false), .m (.b false), .m (.b false), .m (.b false), .m (.b false), .m (.b false), .m (.b false), .m (.b false), .m (.b false), .m (.b false), .m (.b false), .m (.b false), .m (.b false), .m (.b false), .m (.b false), .m (.b false), .m (.b false), .m (.b false), .m (.b false), .m (.b false), .m (.b false), .m (.b false), .m (.b false), .m (.b false), .m (.b false), .m (.b false), .m (.b false), .m (.b false), .m (.b false), .m (.b false), .m (.b false), .m (.b false), .m (.b false), .m (.b false), .m (.b false), .m (.b false), .m (.b false), .m (.b false), .m (.b false), .m (.b false), .m (.b false), .m (.b false), .m (.b false), .m (.b false), .m (.b false), .m (.b false), .m (.b false), .m (.b false), .m (.b false), .m (.b false), .m (.b false), .m (.b false), .m (.b false), .m (.b false), .m (.b false), .m (.b false), .m (.b false), .m (.b false), .m (.b false), .m (.b false), .m (.b false), .m (.b false), .m (.b false), .m (.b false), .m (.b false), .m (.b false), .m (.b false), .m (.b false), .m (.b false), .m (.b false), .m (.b false), .m (.b false), .m (.b false), .m (.b false), .m (.b false), .m (.b false), .m (.b false), .m (.b false), .m (.b false), .m (.b false), .m (.b false), .m (.b false), .m (.b false), .m (.b false), .m (.b false), .m (.b false), .m (.b false), .m (.b false), .m (.b false), .m (.b false), .m (.b false), .m (.b false), .m (.b false), .m (.b false), .m (.b false), .m (.b false), .m (.b false), .m (.b false), .m (.b false), .m (.b false), .m (.b false), .m (.b false), .m (.b false), .m (.b false), .m (.b false), .m (.b false), .m (.b false), .m (.b false), .m (.b false), .m (.b false), .m (.b false), .m (.b false), .m (.b false), .m (.b false), .m (.b false), .m (.b false), .m (.b false), .m (.b false), .m (.b false), .m (.b false), .m (.b false), .m (.b false), .m (.b false), .m (.b false), .m (.b false), .m (.b false), .m (.b false), .m (.b false), .m (.b false), .m (.b false), .m (.b false), .m (.b false), .m (.b false), .m (.b false), .m (.b false), .m (.b false), .m (.b false), .m (.b false), .m (.b false), .m (.b false), .m (.b false), .m (.b false), .m (.b false), .m (.b false), .m (.b false), .m (.b false), .m (.b false), .m (.b false), .m (.b false), .m (.b false), .m (.b false), .m (.b false), .m (.b false), .m (.b false), .m (.b false), .m (.b false), .m (.b false), .m (.b false), .m (.b false)]) [] = some (.pt 0 256 0 0, ⟨B, [zRow]⟩) := by kernel_rfl
structure CutOk (cut : List Nat) : Prop where
  set : Gives G 43 [.m (.s cut)] [] (.tu [.m (.ag (setI cut)), .m (.b true)]) []
  st : ∀ B, loudX (fun _ _ _ => none) ⟨B, [zRow]⟩ (.st 256) [.pt 0 256 0 0, .m (.ag (setI cut))] = some (.un, ⟨B, [setRow cut]⟩)
  ne : cut ≠ []
  n1 : ¬ (cut.length : Int) = 1
theorem trim_c {cut : List Nat} (hC : CutOk cut) (s : List Nat) (hl : s.length ≤ 9223372036854775807) (hb : ∀ c, c ∈ s → c < 256) (H : Hp) : ∃ q, Gives G 37 [.m (.s s), .m (.s cut)] H (.m (.s q)) H ∧ (q = [] ↔ inS cut s = true) := by
  by_cases h0 : s = []
  · subst h0
    refine ⟨[], gives_pur rfl rfl rfl rfl rfl ?_, by simp [inS_nil]⟩
    simp
  · obtain ⟨q1, g1, e1, l1, m1⟩ := trimR_w cut [] s hl hb
    obtain ⟨q2, g2, e2⟩ := trimL_w cut [] q1 (by omega) fun c hc => hb c (m1 c hc)
    refine ⟨q2, gives_pur rfl rfl rfl rfl rfl ?_, by rw [e1]; exact e2⟩
    simp [h0, hC.ne, hC.n1, cl hC.set, -loud_als, -loud_st, als_set, hC.st, cl g1, cl g2]

/-- The lines of a text, with one that is being read. -/
def linesA : List Nat → List Nat → List (List Nat)
  | cur, [] => fl0 cur
  | cur, x :: r => if x = 10 then cur :: linesA [] r else linesA (cur ++ [x]) r
where fl0 (c : List Nat) : List (List Nat) := if c = [] then [] else [c]
theorem linesA_hd : ∀ (s cur : List Nat), s ≠ [] → linesA cur s = (cur ++ hdB 10 s) :: linesA [] ((tlB 10 s).getD [])
  | [], _, h => absurd rfl h
  | x :: r, cur, _ => by
    have e1 : tlB 10 (x :: r) = if x = 10 then some r else tlB 10 r := rfl
    have e2 : hdB 10 (x :: r) = if x = 10 then [] else x :: hdB 10 r := rfl
    have e3 : linesA cur (x :: r) = if x = 10 then cur :: linesA [] r else linesA (cur ++ [x]) r := rfl
    rw [e1, e2, e3]
    by_cases hx : x = 10
    · rw [if_pos hx, if_pos hx, if_pos hx]; simp
    · rw [if_neg hx, if_neg hx, if_neg hx]
      by_cases hr : r = []
      · subst hr
        show linesA.fl0 (cur ++ [x]) = (cur ++ x :: hdB 10 []) :: linesA [] ((tlB 10 []).getD [])
        unfold linesA.fl0
        rw [if_neg (by simp)]
        rfl
      · rw [linesA_hd r _ hr, List.append_assoc]; rfl
theorem lines_hd {s : List Nat} (h : s ≠ []) : linesA [] s = hdB 10 s :: linesA [] ((tlB 10 s).getD []) := by rw [linesA_hd s [] h]; rfl
theorem linesA_len : ∀ (s cur : List Nat), (linesA cur s).length ≤ s.length + 1
  | [], cur => by
    show (linesA.fl0 cur).length ≤ 1
    unfold linesA.fl0
    split <;> simp
  | x :: r, cur => by
    have e3 : linesA cur (x :: r) = if x = 10 then cur :: linesA [] r else linesA (cur ++ [x]) r := rfl
    have h1 := linesA_len r []
    have h2 := linesA_len r (cur ++ [x])
    rw [e3]
    split
    · simp only [List.length_cons]; omega
    · simp only [List.length_cons]; omega
theorem linesA_mem : ∀ (s cur : List Nat) (u : List Nat), u ∈ linesA cur s → u.length ≤ cur.length + s.length ∧ ∀ c, c ∈ u → c ∈ cur ∨ c ∈ s
  | [], cur, u, h => by
    have h : u ∈ linesA.fl0 cur := h
    unfold linesA.fl0 at h
    split at h
    · cases h
    · simp at h; subst h; exact ⟨by simp, fun c hc => .inl hc⟩
  | x :: r, cur, u, h => by
    have e3 : linesA cur (x :: r) = if x = 10 then cur :: linesA [] r else linesA (cur ++ [x]) r := rfl
    rw [e3] at h
    split at h
    · rcases List.mem_cons.1 h with h | h
      · subst h; exact ⟨by simp, fun c hc => .inl hc⟩
      · obtain ⟨h1, h2⟩ := linesA_mem r [] u h
        refine ⟨by simp only [List.length_cons, List.length_nil] at *; omega, fun c hc => .inr ?_⟩
        rcases h2 c hc with h | h
        · cases h
        · simp [h]
    · obtain ⟨h1, h2⟩ := linesA_mem r _ u h
      refine ⟨by simp only [List.length_append, List.length_cons, List.length_nil] at *; omega, fun c hc => ?_⟩
      rcases h2 c hc with h | h
      · rcases List.mem_append.1 h with h | h
        · exact .inl h
        · simp at h; exact .inr (by simp [h])
      · exact .inr (by simp [h])

end Go.Mx.Tryd
