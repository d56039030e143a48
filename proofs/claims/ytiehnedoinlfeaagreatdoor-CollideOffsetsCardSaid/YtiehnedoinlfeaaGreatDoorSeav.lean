/- The seat's machine, for walks with stacks. -/
import Derived.Test.YtiehnedoinlfeaaGreatDoorLoops
import Derived.Test.YtiehnedoinlfeaaGreatDoorWa
set_option linter.unusedSimpArgs false
set_option linter.unusedVariables false
set_option linter.unusedSectionVars false
namespace Go.Mx.Tryz
attribute [simp high] WW
attribute [congr] TR NH Rl Oc RJ Mk NP Te XQ
@[simp] theorem v_p (d:Dst)(o:OP)(xs:List Opnd)(s:St)(r:List Op)(k:K):AI G (some s) (⟨d,.p o,xs,none⟩::r) k=AI G (HW s o xs d) r k:=Abk mono d o xs s r k
@[simp] theorem v_r (d:Dst)(o:OR)(xs:List Opnd)(s:St)(r:List Op)(k:K):AI G (some s) (⟨d,.r o,xs,none⟩::r) k=AI G (HV s o xs d) r k:=Abj mono d o xs s r k
@[simp] theorem v_gp (d:Dst)(o:OP)(xs:List Opnd)(g:Opnd)(u:Bool)(s:St)(r:List Op)(k:K):AI G (some s) (⟨d,.p o,xs,some (g,u)⟩::r) k=AI G (Cv (AH s (some (g,u))) (HW s o xs d) (ED s d .un)) r k:=Xb mono d o xs g u s r k
@[simp] theorem v_gr (d:Dst)(o:OR)(xs:List Opnd)(g:Opnd)(u:Bool)(s:St)(r:List Op)(k:K):AI G (some s) (⟨d,.r o,xs,some (g,u)⟩::r) k=AI G (Cv (AH s (some (g,u))) (HV s o xs d) (ED s d .un)) r k:=Xa mono d o xs g u s r k
@[simp] theorem v_call (d:Dst)(f:Nat)(xs:List Opnd)(s:St)(r:List Op)(k:K):AI G (some s) (⟨d,.l (.cal f),xs,none⟩::r) k=EA G f (Ah (evA s) xs) s d r k:=Rv mono d f xs s r k
@[simp] theorem v_gcall (d:Dst)(f:Nat)(xs:List Opnd)(g:Opnd)(u:Bool)(s:St)(r:List Op)(k:K):AI G (some s) (⟨d,.l (.cal f),xs,some (g,u)⟩::r) k=Ho G (AH s (some (g,u))) f xs s d r k:=NG mono d f xs g u s r k
@[simp] theorem v_cav (d:Dst)(g:Opnd)(xs:List Opnd)(s:St)(r:List Op)(k:K):AI G (some s) (⟨d,.l .cav,g::xs,none⟩::r) k=Wr G (evA s g) (Ah (evA s) xs) s d r k:=LB mono d g xs s r k
@[simp] theorem v_gcav (d:Dst)(g:Opnd)(xs:List Opnd)(z:Opnd)(u:Bool)(s:St)(r:List Op)(k:K):AI G (some s) (⟨d,.l .cav,g::xs,some (z,u)⟩::r) k=OM G (AH s (some (z,u))) g xs s d r k:=Ru mono d g xs z u s r k
@[simp] theorem v_alp (d:Dst)(n:Nat)(z:List V)(xs:List Opnd)(E L:Env)(M:Mem)(r:List Op)(k:K):AI G (some ⟨E,L,M⟩) (⟨d,.l (.alp n z),xs,none⟩::r) k=cnd (nf n L) (AI G (Cq ⟨E,L,M⟩ (.alp n z) xs d) r k) (AI G (some ⟨E,L,M⟩) (⟨d,.l (.alp n z),xs,none⟩::r) k):=ZH fun h=>NF mono _ _ _ _ _ _ (fun _ h=>by cases h) (fun h=>by cases h) (NK _ _ h)
@[simp] theorem v_bxp (d:Dst)(n z:Nat)(xs:List Opnd)(E L:Env)(M:Mem)(r:List Op)(k:K):AI G (some ⟨E,L,M⟩) (⟨d,.l (.bxp n z),xs,none⟩::r) k=cnd (nf n L) (AI G (Cq ⟨E,L,M⟩ (.bxp n z) xs d) r k) (AI G (some ⟨E,L,M⟩) (⟨d,.l (.bxp n z),xs,none⟩::r) k):=ZH fun h=>NF mono _ _ _ _ _ _ (fun _ h=>by cases h) (fun h=>by cases h) (NK _ _ h)
theorem Gg (d:Dst)(o:OL)(xs:List Opnd)(s:St)(r:List Op)(k:K)(E:∀f,o ≠ .cal f)(u:o ≠ .cav)(z:Bu s (.l o)=true):AI G (some s) (⟨d,.l o,xs,none⟩::r) k=AI G (Cq s o xs d) r k:=NF mono d o xs s r k E u z
theorem Acm (d:Dst)(o:OL)(xs:List Opnd)(g:Opnd)(u:Bool)(s:St)(r:List Op)(k:K)(z:∀f,o ≠ .cal f)(J:o ≠ .cav)(E:Bu s (.l o)=true):AI G (some s) (⟨d,.l o,xs,some (g,u)⟩::r) k=AI G (Cv (AH s (some (g,u))) (Cq s o xs d) (ED s d .un)) r k:=Xc mono d o xs g u s r k z J E
@[simp] theorem v_als (d:Dst)(a b c:Nat)(z:List V)(xs:List Opnd)(s:St)(r:List Op)(k:K):AI G (some s) (⟨d,.l (.als a b c z),xs,none⟩::r) k=AI G (Cq s (.als a b c z) xs d) r k:=Gg _ _ _ _ _ _ (fun _ h=>by cases h) (fun h=>by cases h) rfl
@[simp] theorem v_st (d:Dst)(n:Nat)(xs:List Opnd)(s:St)(r:List Op)(k:K):AI G (some s) (⟨d,.l (.st n),xs,none⟩::r) k=AI G (Cq s (.st n) xs d) r k:=Gg _ _ _ _ _ _ (fun _ h=>by cases h) (fun h=>by cases h) rfl
@[simp] theorem v_str (d:Dst)(n:Nat)(xs:List Opnd)(s:St)(r:List Op)(k:K):AI G (some s) (⟨d,.l (.str n),xs,none⟩::r) k=AI G (Cq s (.str n) xs d) r k:=Gg _ _ _ _ _ _ (fun _ h=>by cases h) (fun h=>by cases h) rfl
@[simp] theorem v_mks (d:Dst)(a b c:Nat)(z:List V)(xs:List Opnd)(s:St)(r:List Op)(k:K):AI G (some s) (⟨d,.l (.mks a b z c),xs,none⟩::r) k=AI G (Cq s (.mks a b z c) xs d) r k:=Gg _ _ _ _ _ _ (fun _ h=>by cases h) (fun h=>by cases h) rfl
@[simp] theorem v_gmks (d:Dst)(a b c:Nat)(z:List V)(xs:List Opnd)(g:Opnd)(u:Bool)(s:St)(r:List Op)(k:K):AI G (some s) (⟨d,.l (.mks a b z c),xs,some (g,u)⟩::r) k=AI G (Cv (AH s (some (g,u))) (Cq s (.mks a b z c) xs d) (ED s d .un)) r k:=Acm _ _ _ _ _ _ _ _ (fun _ h=>by cases h) (fun h=>by cases h) rfl
@[simp] theorem v_app (d:Dst)(a b c:Nat)(xs:List Opnd)(s:St)(r:List Op)(k:K):AI G (some s) (⟨d,.l (.app a b c),xs,none⟩::r) k=AI G (Cq s (.app a b c) xs d) r k:=Gg _ _ _ _ _ _ (fun _ h=>by cases h) (fun h=>by cases h) rfl
@[simp] theorem v_mup (d:Dst)(q:KT)(xs:List Opnd)(s:St)(r:List Op)(k:K):AI G (some s) (⟨d,.l (.mup q),xs,none⟩::r) k=AI G (Cq s (.mup q) xs d) r k:=Gg _ _ _ _ _ _ (fun _ h=>by cases h) (fun h=>by cases h) rfl
@[simp] theorem v_bxs (d:Dst)(a b c:Nat)(xs:List Opnd)(s:St)(r:List Op)(k:K):AI G (some s) (⟨d,.l (.bxs a b c),xs,none⟩::r) k=AI G (Cq s (.bxs a b c) xs d) r k:=Gg _ _ _ _ _ _ (fun _ h=>by cases h) (fun h=>by cases h) rfl
@[simp] theorem v_bsf (d:Dst)(b c:Nat)(z:List V)(p:List Nat)(xs:List Opnd)(s:St)(r:List Op)(k:K):AI G (some s) (⟨d,.l (.bsf b z c p),xs,none⟩::r) k=AI G (Cq s (.bsf b z c p) xs d) r k:=Gg _ _ _ _ _ _ (fun _ h=>by cases h) (fun h=>by cases h) rfl
@[simp] theorem v_mkm (d:Dst)(xs:List Opnd)(s:St)(r:List Op)(k:K):AI G (some s) (⟨d,.l .mkm,xs,none⟩::r) k=AI G (Cq s .mkm xs d) r k:=Gg _ _ _ _ _ _ (fun _ h=>by cases h) (fun h=>by cases h) rfl
theorem cl {f:Nat}{vs:List V}{E L:Env}{B:LE}{H:Hp}{d:Dst}{r:List Op}{k:K}{v:V}{H':Hp}(h:Gives G f vs H v H'):EA G f (some vs) ⟨E,L,⟨B,H⟩⟩ d r k=AI G (ED ⟨E,L,⟨B,H'⟩⟩ d v) r k:=XK (s:=⟨E,L,⟨B,H⟩⟩) mono h
end Go.Mx.Tryz
