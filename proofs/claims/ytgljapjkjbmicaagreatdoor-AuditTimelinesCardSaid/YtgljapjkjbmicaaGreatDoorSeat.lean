/- The seat's machine, for walks. -/
import Derived.Test.YtgljapjkjbmicaaGreatDoorWa
import Derived.Test.YtgljapjkjbmicaaGreatDoorCfg
set_option linter.unusedSimpArgs false
set_option linter.unusedVariables false
set_option linter.unusedSectionVars false
namespace Go.Mx.Tryz
@[simp] theorem w_seq (a b : C) (s : St) (k : K) : Run G (.seq a b) s k = Run G a s (.seq b k):=Sv mono a b s k
theorem An (dr : List Nat) (c : C) (s : St) (k : K) : Run G (.loop dr c) s k = Run G c { s with E:=Ar dr s.E } (.seq (.loop dr c) k):=Pt mono dr c s k
@[simp] theorem w_p (d : Dst) (o : OP) (xs : List Opnd) (s : St) (r : List Op) (k : K) : Cu G (some s) (⟨d,.p o,xs,none⟩ :: r) k = Cu G (KK s o xs d) r k:=Px mono d o xs s r k
@[simp] theorem w_r (d : Dst) (o : OR) (xs : List Opnd) (s : St) (r : List Op) (k : K) : Cu G (some s) (⟨d,.r o,xs,none⟩ :: r) k = Cu G (KJ s o xs d) r k:=Pw mono d o xs s r k
theorem QH (d : Dst) (o : OL) (xs : List Opnd) (s : St) (r : List Op) (k : K) (h1 : ∀ f,o ≠ .cal f) (h2 : o ≠ .cav) : Cu G (some s) (⟨d,.l o,xs,none⟩ :: r) k = Cu G (stepL s o xs d) r k:=GM mono d o xs s r k fun c vs=>It h1 h2 c _ vs
@[simp] theorem w_alp (d : Dst) (n : Nat) (z : List V) (xs : List Opnd) (s : St) (r : List Op) (k : K) : Cu G (some s) (⟨d,.l (.alp n z),xs,none⟩ :: r) k = Cu G (stepL s (.alp n z) xs d) r k:=QH _ _ _ _ _ _ (fun _ h=>by cases h) (fun h=>by cases h)
@[simp] theorem w_st (d : Dst) (n : Nat) (xs : List Opnd) (s : St) (r : List Op) (k : K) : Cu G (some s) (⟨d,.l (.st n),xs,none⟩ :: r) k = Cu G (stepL s (.st n) xs d) r k:=QH _ _ _ _ _ _ (fun _ h=>by cases h) (fun h=>by cases h)
@[simp] theorem w_app (d : Dst) (a b c : Nat) (xs : List Opnd) (s : St) (r : List Op) (k : K) : Cu G (some s) (⟨d,.l (.app a b c),xs,none⟩ :: r) k = Cu G (stepL s (.app a b c) xs d) r k:=QH _ _ _ _ _ _ (fun _ h=>by cases h) (fun h=>by cases h)
end Go.Mx.Tryz
