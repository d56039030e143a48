/- The seat's machine, for walks with stacks. -/
import Derived.Test.YtlhjjcaifenlbaaGreatDoorLoops
import Derived.Test.YtlhjjcaifenlbaaGreatDoorWa
set_option linter.unusedSimpArgs false
set_option linter.unusedVariables false
set_option linter.unusedSectionVars false
namespace Go.Mx.Tryz
attribute [simp high] VN
attribute [congr] Tc Nf Qu Ny QQ LP Nl Sm WI
@[simp] theorem v_p (d:Dst)(o:OP)(xs:List Opnd)(s:St)(r:List Op)(k:K):Ay G (some s) (⟨d,.p o,xs,none⟩::r) k=Ay G (HJ s o xs d) r k:=ZR mono d o xs s r k
@[simp] theorem v_r (d:Dst)(o:OR)(xs:List Opnd)(s:St)(r:List Op)(k:K):Ay G (some s) (⟨d,.r o,xs,none⟩::r) k=Ay G (HI s o xs d) r k:=ZQ mono d o xs s r k
@[simp] theorem v_gp (d:Dst)(o:OP)(xs:List Opnd)(g:Opnd)(want:Bool)(s:St)(r:List Op)(k:K):Ay G (some s) (⟨d,.p o,xs,some (g,want)⟩::r) k=Ay G (BE (Ax s (some (g,want))) (HJ s o xs d) (Di s d .un)) r k:=VS mono d o xs g want s r k
@[simp] theorem v_gr (d:Dst)(o:OR)(xs:List Opnd)(g:Opnd)(want:Bool)(s:St)(r:List Op)(k:K):Ay G (some s) (⟨d,.r o,xs,some (g,want)⟩::r) k=Ay G (BE (Ax s (some (g,want))) (HI s o xs d) (Di s d .un)) r k:=VR mono d o xs g want s r k
@[simp] theorem v_call (d:Dst)(f:Nat)(xs:List Opnd)(s:St)(r:List Op)(k:K):Ay G (some s) (⟨d,.l (.cal f),xs,none⟩::r) k=Eo G f (Af (evA s) xs) s d r k:=QD mono d f xs s r k
@[simp] theorem v_gcall (d:Dst)(f:Nat)(xs:List Opnd)(g:Opnd)(want:Bool)(s:St)(r:List Op)(k:K):Ay G (some s) (⟨d,.l (.cal f),xs,some (g,want)⟩::r) k=GZ G (Ax s (some (g,want))) f xs s d r k:=Nc mono d f xs g want s r k
@[simp] theorem v_cav (d:Dst)(g:Opnd)(xs:List Opnd)(s:St)(r:List Op)(k:K):Ay G (some s) (⟨d,.l .cav,g::xs,none⟩::r) k=Vg G (evA s g) (Af (evA s) xs) s d r k:=Li mono d g xs s r k
@[simp] theorem v_gcav (d:Dst)(g:Opnd)(xs:List Opnd)(gg:Opnd)(want:Bool)(s:St)(r:List Op)(k:K):Ay G (some s) (⟨d,.l .cav,g::xs,some (gg,want)⟩::r) k=NT G (Ax s (some (gg,want))) g xs s d r k:=QC mono d g xs gg want s r k
@[simp] theorem v_alp (d:Dst)(n:Nat)(z:List V)(xs:List Opnd)(E L:Env)(M:Mem)(r:List Op)(k:K):Ay G (some ⟨E,L,M⟩) (⟨d,.l (.alp n z),xs,none⟩::r) k=cnd (nf n L) (Ay G (Bo ⟨E,L,M⟩ (.alp n z) xs d) r k) (Ay G (some ⟨E,L,M⟩) (⟨d,.l (.alp n z),xs,none⟩::r) k):=Yt fun h=>Nb mono _ _ _ _ _ _ (fun _ h=>by cases h) (fun h=>by cases h) (Ni _ _ h)
@[simp] theorem v_bxp (d:Dst)(n z:Nat)(xs:List Opnd)(E L:Env)(M:Mem)(r:List Op)(k:K):Ay G (some ⟨E,L,M⟩) (⟨d,.l (.bxp n z),xs,none⟩::r) k=cnd (nf n L) (Ay G (Bo ⟨E,L,M⟩ (.bxp n z) xs d) r k) (Ay G (some ⟨E,L,M⟩) (⟨d,.l (.bxp n z),xs,none⟩::r) k):=Yt fun h=>Nb mono _ _ _ _ _ _ (fun _ h=>by cases h) (fun h=>by cases h) (Ni _ _ h)
theorem EE (d:Dst)(o:OL)(xs:List Opnd)(s:St)(r:List Op)(k:K)(h1:∀f,o ≠ .cal f)(h2:o ≠ .cav)(hf:Bg s (.l o)=true):Ay G (some s) (⟨d,.l o,xs,none⟩::r) k=Ay G (Bo s o xs d) r k:=Nb mono d o xs s r k h1 h2 hf
theorem Dv (d:Dst)(o:OL)(xs:List Opnd)(g:Opnd)(want:Bool)(s:St)(r:List Op)(k:K)(h1:∀f,o ≠ .cal f)(h2:o ≠ .cav)(hf:Bg s (.l o)=true):Ay G (some s) (⟨d,.l o,xs,some (g,want)⟩::r) k=Ay G (BE (Ax s (some (g,want))) (Bo s o xs d) (Di s d .un)) r k:=VT mono d o xs g want s r k h1 h2 hf
@[simp] theorem v_als (d:Dst)(a b c:Nat)(z:List V)(xs:List Opnd)(s:St)(r:List Op)(k:K):Ay G (some s) (⟨d,.l (.als a b c z),xs,none⟩::r) k=Ay G (Bo s (.als a b c z) xs d) r k:=EE _ _ _ _ _ _ (fun _ h=>by cases h) (fun h=>by cases h) rfl
@[simp] theorem v_gals (d:Dst)(a b c:Nat)(z:List V)(xs:List Opnd)(g:Opnd)(want:Bool)(s:St)(r:List Op)(k:K):Ay G (some s) (⟨d,.l (.als a b c z),xs,some (g,want)⟩::r) k=Ay G (BE (Ax s (some (g,want))) (Bo s (.als a b c z) xs d) (Di s d .un)) r k:=Dv _ _ _ _ _ _ _ _ (fun _ h=>by cases h) (fun h=>by cases h) rfl
@[simp] theorem v_st (d:Dst)(n:Nat)(xs:List Opnd)(s:St)(r:List Op)(k:K):Ay G (some s) (⟨d,.l (.st n),xs,none⟩::r) k=Ay G (Bo s (.st n) xs d) r k:=EE _ _ _ _ _ _ (fun _ h=>by cases h) (fun h=>by cases h) rfl
@[simp] theorem v_str (d:Dst)(n:Nat)(xs:List Opnd)(s:St)(r:List Op)(k:K):Ay G (some s) (⟨d,.l (.str n),xs,none⟩::r) k=Ay G (Bo s (.str n) xs d) r k:=EE _ _ _ _ _ _ (fun _ h=>by cases h) (fun h=>by cases h) rfl
@[simp] theorem v_gst (d:Dst)(n:Nat)(xs:List Opnd)(g:Opnd)(want:Bool)(s:St)(r:List Op)(k:K):Ay G (some s) (⟨d,.l (.st n),xs,some (g,want)⟩::r) k=Ay G (BE (Ax s (some (g,want))) (Bo s (.st n) xs d) (Di s d .un)) r k:=Dv _ _ _ _ _ _ _ _ (fun _ h=>by cases h) (fun h=>by cases h) rfl
@[simp] theorem v_gstr (d:Dst)(n:Nat)(xs:List Opnd)(g:Opnd)(want:Bool)(s:St)(r:List Op)(k:K):Ay G (some s) (⟨d,.l (.str n),xs,some (g,want)⟩::r) k=Ay G (BE (Ax s (some (g,want))) (Bo s (.str n) xs d) (Di s d .un)) r k:=Dv _ _ _ _ _ _ _ _ (fun _ h=>by cases h) (fun h=>by cases h) rfl
@[simp] theorem v_mks (d:Dst)(a b c:Nat)(z:List V)(xs:List Opnd)(s:St)(r:List Op)(k:K):Ay G (some s) (⟨d,.l (.mks a b z c),xs,none⟩::r) k=Ay G (Bo s (.mks a b z c) xs d) r k:=EE _ _ _ _ _ _ (fun _ h=>by cases h) (fun h=>by cases h) rfl
@[simp] theorem v_gmks (d:Dst)(a b c:Nat)(z:List V)(xs:List Opnd)(g:Opnd)(want:Bool)(s:St)(r:List Op)(k:K):Ay G (some s) (⟨d,.l (.mks a b z c),xs,some (g,want)⟩::r) k=Ay G (BE (Ax s (some (g,want))) (Bo s (.mks a b z c) xs d) (Di s d .un)) r k:=Dv _ _ _ _ _ _ _ _ (fun _ h=>by cases h) (fun h=>by cases h) rfl
@[simp] theorem v_app (d:Dst)(a b c:Nat)(xs:List Opnd)(s:St)(r:List Op)(k:K):Ay G (some s) (⟨d,.l (.app a b c),xs,none⟩::r) k=Ay G (Bo s (.app a b c) xs d) r k:=EE _ _ _ _ _ _ (fun _ h=>by cases h) (fun h=>by cases h) rfl
@[simp] theorem v_gapp (d:Dst)(a b c:Nat)(xs:List Opnd)(g:Opnd)(want:Bool)(s:St)(r:List Op)(k:K):Ay G (some s) (⟨d,.l (.app a b c),xs,some (g,want)⟩::r) k=Ay G (BE (Ax s (some (g,want))) (Bo s (.app a b c) xs d) (Di s d .un)) r k:=Dv _ _ _ _ _ _ _ _ (fun _ h=>by cases h) (fun h=>by cases h) rfl
@[simp] theorem v_mup (d:Dst)(q:KT)(xs:List Opnd)(s:St)(r:List Op)(k:K):Ay G (some s) (⟨d,.l (.mup q),xs,none⟩::r) k=Ay G (Bo s (.mup q) xs d) r k:=EE _ _ _ _ _ _ (fun _ h=>by cases h) (fun h=>by cases h) rfl
@[simp] theorem v_gmup (d:Dst)(q:KT)(xs:List Opnd)(g:Opnd)(want:Bool)(s:St)(r:List Op)(k:K):Ay G (some s) (⟨d,.l (.mup q),xs,some (g,want)⟩::r) k=Ay G (BE (Ax s (some (g,want))) (Bo s (.mup q) xs d) (Di s d .un)) r k:=Dv _ _ _ _ _ _ _ _ (fun _ h=>by cases h) (fun h=>by cases h) rfl
@[simp] theorem v_mdl (d:Dst)(q:KT)(xs:List Opnd)(s:St)(r:List Op)(k:K):Ay G (some s) (⟨d,.l (.mdl q),xs,none⟩::r) k=Ay G (Bo s (.mdl q) xs d) r k:=EE _ _ _ _ _ _ (fun _ h=>by cases h) (fun h=>by cases h) rfl
@[simp] theorem v_gmdl (d:Dst)(q:KT)(xs:List Opnd)(g:Opnd)(want:Bool)(s:St)(r:List Op)(k:K):Ay G (some s) (⟨d,.l (.mdl q),xs,some (g,want)⟩::r) k=Ay G (BE (Ax s (some (g,want))) (Bo s (.mdl q) xs d) (Di s d .un)) r k:=Dv _ _ _ _ _ _ _ _ (fun _ h=>by cases h) (fun h=>by cases h) rfl
@[simp] theorem v_bxs (d:Dst)(a b c:Nat)(xs:List Opnd)(s:St)(r:List Op)(k:K):Ay G (some s) (⟨d,.l (.bxs a b c),xs,none⟩::r) k=Ay G (Bo s (.bxs a b c) xs d) r k:=EE _ _ _ _ _ _ (fun _ h=>by cases h) (fun h=>by cases h) rfl
@[simp] theorem v_gbxs (d:Dst)(a b c:Nat)(xs:List Opnd)(g:Opnd)(want:Bool)(s:St)(r:List Op)(k:K):Ay G (some s) (⟨d,.l (.bxs a b c),xs,some (g,want)⟩::r) k=Ay G (BE (Ax s (some (g,want))) (Bo s (.bxs a b c) xs d) (Di s d .un)) r k:=Dv _ _ _ _ _ _ _ _ (fun _ h=>by cases h) (fun h=>by cases h) rfl
@[simp] theorem v_ust (d:Dst)(a:Nat)(xs:List Opnd)(s:St)(r:List Op)(k:K):Ay G (some s) (⟨d,.l (.ust a),xs,none⟩::r) k=Ay G (Bo s (.ust a) xs d) r k:=EE _ _ _ _ _ _ (fun _ h=>by cases h) (fun h=>by cases h) rfl
@[simp] theorem v_gust (d:Dst)(a:Nat)(xs:List Opnd)(g:Opnd)(want:Bool)(s:St)(r:List Op)(k:K):Ay G (some s) (⟨d,.l (.ust a),xs,some (g,want)⟩::r) k=Ay G (BE (Ax s (some (g,want))) (Bo s (.ust a) xs d) (Di s d .un)) r k:=Dv _ _ _ _ _ _ _ _ (fun _ h=>by cases h) (fun h=>by cases h) rfl
@[simp] theorem v_bsf (d:Dst)(b c:Nat)(z:List V)(p:List Nat)(xs:List Opnd)(s:St)(r:List Op)(k:K):Ay G (some s) (⟨d,.l (.bsf b z c p),xs,none⟩::r) k=Ay G (Bo s (.bsf b z c p) xs d) r k:=EE _ _ _ _ _ _ (fun _ h=>by cases h) (fun h=>by cases h) rfl
@[simp] theorem v_gbsf (d:Dst)(b c:Nat)(z:List V)(p:List Nat)(xs:List Opnd)(g:Opnd)(want:Bool)(s:St)(r:List Op)(k:K):Ay G (some s) (⟨d,.l (.bsf b z c p),xs,some (g,want)⟩::r) k=Ay G (BE (Ax s (some (g,want))) (Bo s (.bsf b z c p) xs d) (Di s d .un)) r k:=Dv _ _ _ _ _ _ _ _ (fun _ h=>by cases h) (fun h=>by cases h) rfl
@[simp] theorem v_mkm (d:Dst)(xs:List Opnd)(s:St)(r:List Op)(k:K):Ay G (some s) (⟨d,.l .mkm,xs,none⟩::r) k=Ay G (Bo s .mkm xs d) r k:=EE _ _ _ _ _ _ (fun _ h=>by cases h) (fun h=>by cases h) rfl
theorem cl {f:Nat}{vs:List V}{E L:Env}{B:List (Nat×List V)}{H:Hp}{d:Dst}{r:List Op}{k:K}{v:V}{H':Hp}(h:Gives G f vs H v H'):Eo G f (some vs) ⟨E,L,⟨B,H⟩⟩ d r k=Ay G (Di ⟨E,L,⟨B,H'⟩⟩ d v) r k:=WF (s:=⟨E,L,⟨B,H⟩⟩) mono h
end Go.Mx.Tryz
