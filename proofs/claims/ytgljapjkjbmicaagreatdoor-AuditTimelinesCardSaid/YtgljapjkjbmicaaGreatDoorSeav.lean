/- The seat's machine, for walks with stacks. -/
import Derived.Test.YtgljapjkjbmicaaGreatDoorLoops
import Derived.Test.YtgljapjkjbmicaaGreatDoorWa
set_option linter.unusedSimpArgs false
set_option linter.unusedVariables false
set_option linter.unusedSectionVars false
namespace Go.Mx.Tryz
attribute [simp high] Sz
attribute [congr] Qj KY NI Lo Od JK Lf Pu Tr
@[simp] theorem v_p (d : Dst) (o : OP) (xs : List Opnd) (s : St) (r : List Op) (k : K) : Ax G (some s) (⟨d,.p o,xs,none⟩ :: r) k = Ax G (Gy s o xs d) r k:=VM mono d o xs s r k
@[simp] theorem v_r (d : Dst) (o : OR) (xs : List Opnd) (s : St) (r : List Op) (k : K) : Ax G (some s) (⟨d,.r o,xs,none⟩ :: r) k = Ax G (Gx s o xs d) r k:=VL mono d o xs s r k
@[simp] theorem v_gp (d : Dst) (o : OP) (xs : List Opnd) (g : Opnd) (want : Bool) (s : St) (r : List Op) (k : K) : Ax G (some s) (⟨d,.p o,xs,some (g,want)⟩ :: r) k = Ax G (Cd (Ay s (some (g,want))) (Gy s o xs d) (DE s d .un)) r k:=SE mono d o xs g want s r k
@[simp] theorem v_gr (d : Dst) (o : OR) (xs : List Opnd) (g : Opnd) (want : Bool) (s : St) (r : List Op) (k : K) : Ax G (some s) (⟨d,.r o,xs,some (g,want)⟩ :: r) k = Ax G (Cd (Ay s (some (g,want))) (Gx s o xs d) (DE s d .un)) r k:=SD mono d o xs g want s r k
@[simp] theorem v_call (d : Dst) (f : Nat) (xs : List Opnd) (s : St) (r : List Op) (k : K) : Ax G (some s) (⟨d,.l (.cal f),xs,none⟩ :: r) k = DZ G f (Ai (evA s) xs) s d r k:=NP mono d f xs s r k
@[simp] theorem v_gcall (d : Dst) (f : Nat) (xs : List Opnd) (g : Opnd) (want : Bool) (s : St) (r : List Op) (k : K) : Ax G (some s) (⟨d,.l (.cal f),xs,some (g,want)⟩ :: r) k = FZ G (Ay s (some (g,want))) f xs s d r k:=KX mono d f xs g want s r k
@[simp] theorem v_cav (d : Dst) (g : Opnd) (xs : List Opnd) (s : St) (r : List Op) (k : K) : Ax G (some s) (⟨d,.l .cav,g :: xs,none⟩ :: r) k = Ui G (evA s g) (Ai (evA s) xs) s d r k:=Ju mono d g xs s r k
@[simp] theorem v_gcav (d : Dst) (g : Opnd) (xs : List Opnd) (gg : Opnd) (want : Bool) (s : St) (r : List Op) (k : K) : Ax G (some s) (⟨d,.l .cav,g :: xs,some (gg,want)⟩ :: r) k = LC G (Ay s (some (gg,want))) g xs s d r k:=NO mono d g xs gg want s r k
@[simp] theorem v_alp (d : Dst) (n : Nat) (z : List V) (xs : List Opnd) (E L : Env) (M : Mem) (r : List Op) (k : K) : Ax G (some ⟨E,L,M⟩) (⟨d,.l (.alp n z),xs,none⟩ :: r) k = cnd (nf n L) (Ax G (BW ⟨E,L,M⟩ (.alp n z) xs d) r k) (Ax G (some ⟨E,L,M⟩) (⟨d,.l (.alp n z),xs,none⟩ :: r) k):=Ux fun h=>KW mono _ _ _ _ _ _ (fun _ h=>by cases h) (fun h=>by cases h) (Lb _ _ h)
@[simp] theorem v_bxp (d : Dst) (n z : Nat) (xs : List Opnd) (E L : Env) (M : Mem) (r : List Op) (k : K) : Ax G (some ⟨E,L,M⟩) (⟨d,.l (.bxp n z),xs,none⟩ :: r) k = cnd (nf n L) (Ax G (BW ⟨E,L,M⟩ (.bxp n z) xs d) r k) (Ax G (some ⟨E,L,M⟩) (⟨d,.l (.bxp n z),xs,none⟩ :: r) k):=Ux fun h=>KW mono _ _ _ _ _ _ (fun _ h=>by cases h) (fun h=>by cases h) (Lb _ _ h)
theorem Fk (d : Dst) (o : OL) (xs : List Opnd) (s : St) (r : List Op) (k : K) (h1 : ∀ f,o ≠ .cal f) (h2 : o ≠ .cav) (hf : AW s (.l o) = true) : Ax G (some s) (⟨d,.l o,xs,none⟩ :: r) k = Ax G (BW s o xs d) r k:=KW mono d o xs s r k h1 h2 hf
theorem WA (d : Dst) (o : OL) (xs : List Opnd) (g : Opnd) (want : Bool) (s : St) (r : List Op) (k : K) (h1 : ∀ f,o ≠ .cal f) (h2 : o ≠ .cav) (hf : AW s (.l o) = true) : Ax G (some s) (⟨d,.l o,xs,some (g,want)⟩ :: r) k = Ax G (Cd (Ay s (some (g,want))) (BW s o xs d) (DE s d .un)) r k:=SF mono d o xs g want s r k h1 h2 hf
@[simp] theorem v_als (d : Dst) (a b c : Nat) (z : List V) (xs : List Opnd) (s : St) (r : List Op) (k : K) : Ax G (some s) (⟨d,.l (.als a b c z),xs,none⟩ :: r) k = Ax G (BW s (.als a b c z) xs d) r k:=Fk _ _ _ _ _ _ (fun _ h=>by cases h) (fun h=>by cases h) rfl
@[simp] theorem v_st (d : Dst) (n : Nat) (xs : List Opnd) (s : St) (r : List Op) (k : K) : Ax G (some s) (⟨d,.l (.st n),xs,none⟩ :: r) k = Ax G (BW s (.st n) xs d) r k:=Fk _ _ _ _ _ _ (fun _ h=>by cases h) (fun h=>by cases h) rfl
@[simp] theorem v_mks (d : Dst) (a b c : Nat) (z : List V) (xs : List Opnd) (s : St) (r : List Op) (k : K) : Ax G (some s) (⟨d,.l (.mks a b z c),xs,none⟩ :: r) k = Ax G (BW s (.mks a b z c) xs d) r k:=Fk _ _ _ _ _ _ (fun _ h=>by cases h) (fun h=>by cases h) rfl
@[simp] theorem v_gmks (d : Dst) (a b c : Nat) (z : List V) (xs : List Opnd) (g : Opnd) (want : Bool) (s : St) (r : List Op) (k : K) : Ax G (some s) (⟨d,.l (.mks a b z c),xs,some (g,want)⟩ :: r) k = Ax G (Cd (Ay s (some (g,want))) (BW s (.mks a b z c) xs d) (DE s d .un)) r k:=WA _ _ _ _ _ _ _ _ (fun _ h=>by cases h) (fun h=>by cases h) rfl
@[simp] theorem v_app (d : Dst) (a b c : Nat) (xs : List Opnd) (s : St) (r : List Op) (k : K) : Ax G (some s) (⟨d,.l (.app a b c),xs,none⟩ :: r) k = Ax G (BW s (.app a b c) xs d) r k:=Fk _ _ _ _ _ _ (fun _ h=>by cases h) (fun h=>by cases h) rfl
@[simp] theorem v_mup (d : Dst) (q : KT) (xs : List Opnd) (s : St) (r : List Op) (k : K) : Ax G (some s) (⟨d,.l (.mup q),xs,none⟩ :: r) k = Ax G (BW s (.mup q) xs d) r k:=Fk _ _ _ _ _ _ (fun _ h=>by cases h) (fun h=>by cases h) rfl
@[simp] theorem v_mdl (d : Dst) (q : KT) (xs : List Opnd) (s : St) (r : List Op) (k : K) : Ax G (some s) (⟨d,.l (.mdl q),xs,none⟩ :: r) k = Ax G (BW s (.mdl q) xs d) r k:=Fk _ _ _ _ _ _ (fun _ h=>by cases h) (fun h=>by cases h) rfl
@[simp] theorem v_bxs (d : Dst) (a b c : Nat) (xs : List Opnd) (s : St) (r : List Op) (k : K) : Ax G (some s) (⟨d,.l (.bxs a b c),xs,none⟩ :: r) k = Ax G (BW s (.bxs a b c) xs d) r k:=Fk _ _ _ _ _ _ (fun _ h=>by cases h) (fun h=>by cases h) rfl
@[simp] theorem v_bsf (d : Dst) (b c : Nat) (z : List V) (p : List Nat) (xs : List Opnd) (s : St) (r : List Op) (k : K) : Ax G (some s) (⟨d,.l (.bsf b z c p),xs,none⟩ :: r) k = Ax G (BW s (.bsf b z c p) xs d) r k:=Fk _ _ _ _ _ _ (fun _ h=>by cases h) (fun h=>by cases h) rfl
@[simp] theorem v_mkm (d : Dst) (xs : List Opnd) (s : St) (r : List Op) (k : K) : Ax G (some s) (⟨d,.l .mkm,xs,none⟩ :: r) k = Ax G (BW s .mkm xs d) r k:=Fk _ _ _ _ _ _ (fun _ h=>by cases h) (fun h=>by cases h) rfl
theorem cl {f : Nat} {vs : List V} {E L : Env} {B : List (Nat × List V)} {H : Hp} {d : Dst} {r : List Op} {k : K} {v : V} {H' : Hp} (h : Gives G f vs H v H') : DZ G f (some vs) ⟨E,L,⟨B,H⟩⟩ d r k = Ax G (DE ⟨E,L,⟨B,H'⟩⟩ d v) r k:=Tm (s:=⟨E,L,⟨B,H⟩⟩) mono h
end Go.Mx.Tryz
