/- The seat's machine, for walks. -/
import Derived.Test.YtjjpbhhgeddgjaaGreatDoorWa
import Derived.Test.YtjjpbhhgeddgjaaGreatDoorCfg
set_option linter.unusedSimpArgs false
set_option linter.unusedVariables false
set_option linter.unusedSectionVars false
namespace Go.Mx.Tryz
@[simp] theorem w_seq (a b : C) (s : St) (k : K) : Run G (.seq a b) s k = Run G a s (.seq b k):=Sl mono a b s k
theorem AQ (dr : List Nat) (c : C) (s : St) (k : K) : Run G (.loop dr c) s k = Run G c { s with E:=AK dr s.E } (.seq (.loop dr c) k):=Pu mono dr c s k
@[simp] theorem w_rng (f : Opnd) (dr ps : List Nat) (ca cb : C) (s : St) (k : K) : Run G (.rng f dr ps ca cb) s k = RngG G (evA s f) dr ps ca cb s k:=Vs mono f dr ps ca cb s k
@[simp] theorem w_p (d : Dst) (o : OP) (xs : List Opnd) (s : St) (r : List Op) (k : K) : Bz G (some s) (⟨d,.p o,xs,none⟩ :: r) k = Bz G (Jp s o xs d) r k:=Pz mono d o xs s r k
@[simp] theorem w_r (d : Dst) (o : OR) (xs : List Opnd) (s : St) (r : List Op) (k : K) : Bz G (some s) (⟨d,.r o,xs,none⟩ :: r) k = Bz G (stepR s o xs d) r k:=Py mono d o xs s r k
@[simp] theorem w_gp (d : Dst) (o : OP) (xs : List Opnd) (g : Opnd) (want : Bool) (s : St) (r : List Op) (k : K) : Bz G (some s) (⟨d,.p o,xs,some (g,want)⟩ :: r) k = Bz G (Br (Ao s (some (g,want))) (Jp s o xs d) (Cu s d .un)) r k:=FL mono d o xs g want s r k
@[simp] theorem w_gr (d : Dst) (o : OR) (xs : List Opnd) (g : Opnd) (want : Bool) (s : St) (r : List Op) (k : K) : Bz G (some s) (⟨d,.r o,xs,some (g,want)⟩ :: r) k = Bz G (Br (Ao s (some (g,want))) (stepR s o xs d) (Cu s d .un)) r k:=FK mono d o xs g want s r k
@[simp] theorem w_call (d : Dst) (f : Nat) (xs : List Opnd) (s : St) (r : List Op) (k : K) : Bz G (some s) (⟨d,.l (.cal f),xs,none⟩ :: r) k = Hv G f (Ac (evA s) xs) s d r k:=GA mono d f xs s r k
@[simp] theorem w_gcall (d : Dst) (f : Nat) (xs : List Opnd) (g : Opnd) (want : Bool) (s : St) (r : List Op) (k : K) : Bz G (some s) (⟨d,.l (.cal f),xs,some (g,want)⟩ :: r) k = Jg G (Ao s (some (g,want))) f xs s d r k:=DH mono d f xs g want s r k
theorem DO (d : Dst) (o : OL) (xs : List Opnd) (s : St) (r : List Op) (k : K) (h1 : ∀ f,o ≠ .cal f) (h2 : o ≠ .cav) : Bz G (some s) (⟨d,.l o,xs,none⟩ :: r) k = Bz G (DF s o xs d) r k:=GJ mono d o xs s r k fun c vs=>It h1 h2 c _ vs
@[simp] theorem w_alp (d : Dst) (n : Nat) (z : List V) (xs : List Opnd) (s : St) (r : List Op) (k : K) : Bz G (some s) (⟨d,.l (.alp n z),xs,none⟩ :: r) k = Bz G (DF s (.alp n z) xs d) r k:=DO _ _ _ _ _ _ (fun _ h=>by cases h) (fun h=>by cases h)
@[simp] theorem w_bxp (d : Dst) (n z : Nat) (xs : List Opnd) (s : St) (r : List Op) (k : K) : Bz G (some s) (⟨d,.l (.bxp n z),xs,none⟩ :: r) k = Bz G (DF s (.bxp n z) xs d) r k:=DO _ _ _ _ _ _ (fun _ h=>by cases h) (fun h=>by cases h)
@[simp] theorem w_als (d : Dst) (a b c : Nat) (z : List V) (xs : List Opnd) (s : St) (r : List Op) (k : K) : Bz G (some s) (⟨d,.l (.als a b c z),xs,none⟩ :: r) k = Bz G (DF s (.als a b c z) xs d) r k:=DO _ _ _ _ _ _ (fun _ h=>by cases h) (fun h=>by cases h)
@[simp] theorem w_st (d : Dst) (n : Nat) (xs : List Opnd) (s : St) (r : List Op) (k : K) : Bz G (some s) (⟨d,.l (.st n),xs,none⟩ :: r) k = Bz G (DF s (.st n) xs d) r k:=DO _ _ _ _ _ _ (fun _ h=>by cases h) (fun h=>by cases h)
@[simp] theorem w_str (d : Dst) (n : Nat) (xs : List Opnd) (s : St) (r : List Op) (k : K) : Bz G (some s) (⟨d,.l (.str n),xs,none⟩ :: r) k = Bz G (DF s (.str n) xs d) r k:=DO _ _ _ _ _ _ (fun _ h=>by cases h) (fun h=>by cases h)
@[simp] theorem w_mkm (d : Dst) (xs : List Opnd) (s : St) (r : List Op) (k : K) : Bz G (some s) (⟨d,.l .mkm,xs,none⟩ :: r) k = Bz G (DF s .mkm xs d) r k:=DO _ _ _ _ _ _ (fun _ h=>by cases h) (fun h=>by cases h)
@[simp] theorem w_mks (d : Dst) (a b c : Nat) (z : List V) (xs : List Opnd) (s : St) (r : List Op) (k : K) : Bz G (some s) (⟨d,.l (.mks a b z c),xs,none⟩ :: r) k = Bz G (DF s (.mks a b z c) xs d) r k:=DO _ _ _ _ _ _ (fun _ h=>by cases h) (fun h=>by cases h)
@[simp] theorem w_app (d : Dst) (a b c : Nat) (xs : List Opnd) (s : St) (r : List Op) (k : K) : Bz G (some s) (⟨d,.l (.app a b c),xs,none⟩ :: r) k = Bz G (DF s (.app a b c) xs d) r k:=DO _ _ _ _ _ _ (fun _ h=>by cases h) (fun h=>by cases h)
@[simp] theorem w_mup (d : Dst) (q : KT) (xs : List Opnd) (s : St) (r : List Op) (k : K) : Bz G (some s) (⟨d,.l (.mup q),xs,none⟩ :: r) k = Bz G (DF s (.mup q) xs d) r k:=DO _ _ _ _ _ _ (fun _ h=>by cases h) (fun h=>by cases h)
@[simp] theorem w_mdl (d : Dst) (q : KT) (xs : List Opnd) (s : St) (r : List Op) (k : K) : Bz G (some s) (⟨d,.l (.mdl q),xs,none⟩ :: r) k = Bz G (DF s (.mdl q) xs d) r k:=DO _ _ _ _ _ _ (fun _ h=>by cases h) (fun h=>by cases h)
@[simp] theorem w_cav (d : Dst) (g : Opnd) (xs : List Opnd) (s : St) (r : List Op) (k : K) : Bz G (some s) (⟨d,.l .cav,g :: xs,none⟩ :: r) k = CavK G (evA s g) (Ac (evA s) xs) s d r k:=TW mono d g xs s r k
@[simp] theorem w_bxs (d : Dst) (a b c : Nat) (xs : List Opnd) (s : St) (r : List Op) (k : K) : Bz G (some s) (⟨d,.l (.bxs a b c),xs,none⟩ :: r) k = Bz G (DF s (.bxs a b c) xs d) r k:=DO _ _ _ _ _ _ (fun _ h=>by cases h) (fun h=>by cases h)
end Go.Mx.Tryz
