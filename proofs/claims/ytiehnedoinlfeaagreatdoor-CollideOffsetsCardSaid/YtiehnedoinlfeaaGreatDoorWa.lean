/- Walking the machine. Nothing here speaks of a program. -/
import Derived.Test.YtiehnedoinlfeaaGreatDoorMach
import Derived.Test.YtiehnedoinlfeaaGreatDoorBa
set_option linter.unusedSimpArgs false
set_option linter.unusedVariables false
set_option linter.unusedSectionVars false
namespace Go.Mx
def LeC (c d:Bt):Prop:=∀f vs H r,c f vs H=some r->d f vs H=some r
variable {α β:Type}
theorem AK {x y:Option α}{f g:α->Option β}{r:β}(E:∀a,x=some a->y=some a)(z:∀a r,f a=some r->g a=some r)(h:x.bind f=some r):y.bind g=some r:=by
  simp only[Ahn]at h ⊢
  obtain⟨a,J,u⟩:=h
  exact⟨a,E a J,z a r u⟩
variable {c d:Bt} {vs:List V}
theorem XC (h:LeC c d){M:Mem}{o:O}{r:V×Mem}(u:evO c M o vs=some r):evO d M o vs=some r:=by
  cases o with
  | p o=>exact u
  | r o=>exact u
  | l o =>
    simp only[evO]at u ⊢
    cases o with
    | cal f =>
      simp only[An]at u ⊢
      exact AK (fun a=>h f vs M.H a) (fun _ _ h=>h) u
    | cav =>
      match vs,u with
      | .fn f cap::xs,u=>simp only[An]at u ⊢;exact AK (fun a=>h f _ M.H a) (fun _ _ h=>h) u
      | .m (.fn f cap)::xs,u=>simp only[An]at u ⊢;exact AK (fun a=>h f _ M.H a) (fun _ _ h=>h) u
      | .yl r::xs,u=>simp only[An]at u ⊢;exact AK (fun a=>h yN _ M.H a) (fun _ _ h=>h) u
      | .m (.b _)::xs,u=>simp[An]at u
      | .m (.i _ _)::xs,u=>simp[An]at u
      | .m (.s _)::xs,u=>simp[An]at u
      | .m (.nl _)::xs,u=>simp[An]at u
      | .m .er::xs,u=>simp[An]at u
      | .m (.sl _)::xs,u=>simp[An]at u
      | .m (.pt _)::xs,u=>simp[An]at u
      | .m (.ag _)::xs,u=>simp[An]at u
      | .m (.mp _)::xs,u=>simp[An]at u
      | .un::xs,u=>simp[An]at u
      | .ls _::xs,u=>simp[An]at u
      | .sl .. :: xs,u=>simp[An]at u
      | .pt .. :: xs,u=>simp[An]at u
      | .fa .. :: xs,u=>simp[An]at u
      | .mp _::xs,u=>simp[An]at u
      | .ag _::xs,u=>simp[An]at u
      | .tu _::xs,u=>simp[An]at u
      | [],u=>simp[An]at u
    | _ =>
      match vs,u with
      | [],u=>exact u
      | [_],u=>exact u
      | [_,_],u=>exact u
      | [_,_,_],u=>exact u
      | _::_::_::_::_,u=>exact u
theorem Ms (h:LeC c d){s E:St}{o:Op}(u:Ek c s o=some E):Ek d s o=some E:=by
  simp only[Ek,Ahn]at u ⊢
  obtain⟨q,N,u⟩:=u
  refine⟨q,N,?_⟩
  cases q with
  | true =>
    simp only at u ⊢
    cases hf:Bu s o.op with
    | false=>rw[hf]at u;simp[gd]at u
    | true =>
      rw[hf]at u
      simp only[gd,Ahn]at u ⊢
      obtain⟨vs,z,p,U,J⟩:=u
      exact⟨vs,z,p,XC h U,J⟩
  | false=>exact u
theorem GM {c d:Bt}(h:LeC c d):∀ {u:List Op} {s z:St},BW c u s=some z->BW d u s=some z
  | [],_,_,he=>he
  | o::r,s,z,he=>by
    simp only[BW]at he ⊢
    exact AK (fun a=>Ms h) (fun a r=>GM h) he
theorem EY {f g:St->Option (Ex×St)}(h:∀s r,f s=some r->g s=some r):∀ {n m:Nat} {s:St} {r:Ex×St},n<=m->Fn f n s=some r->Fn g m s=some r
  | 0,m,s,r,_,he=>by simp[Fn]at he
  | n+1,0,s,r,hn,_=>by omega
  | n+1,m+1,s,r,hn,he=>by
    simp only[Fn]at he ⊢
    refine AK (fun a=>h s a) (fun a r u=>?_) he
    obtain⟨e,t⟩:=a
    cases e with
    | nm=>exact EY h (by omega) u
    | _=>exact u
variable {n m:Nat}
theorem Da (h:LeC c d)(U:n<=m):∀ {k:C} {s:St} {r:Ex×St},evC c n k s=some r->evC d m k s=some r:=by
  intro k
  induction k with
  | skip=>exact fun h=>h
  | reg W =>
    intro s r u
    simp only[evC]at u ⊢
    exact AK (fun a=>GM h) (fun _ _ h=>h) u
  | seq a b z E =>
    intro s r u
    simp only[evC]at u ⊢
    refine AK (fun x=>z) (fun x r J=>?_) u
    obtain⟨e,t⟩:=x
    cases e with
    | nm=>exact E J
    | _=>exact J
  | ite c a b z E =>
    intro s r u
    simp only[evC]at u ⊢
    refine AK (fun _ h=>h) (fun x r J=>?_) u
    split at J
    · exact z J
    · exact E J
    · cases J
  | blk Y c N =>
    intro s r u
    simp only[evC]at u ⊢
    exact AK (fun x=>N) (fun _ _ h=>h) u
  | loop dr c N =>
    intro s r u
    simp only[evC]at u ⊢
    exact EY (fun t r=>N) U u
  | rng f dr ps ca cb _ _ =>
    intro s r u
    simp only[evC]at u ⊢
    exact AK (fun _ h=>h) (fun _ _=>AK (fun _ h=>h) (fun Z _=>AK (fun a=>h Z.1 _ _ a) (fun _ _ h=>h))) u
  | ex Y=>exact fun h=>h
  | ret=>exact fun h=>h
variable {r:V×Hp} {H:Hp}
theorem Fb (h:LeC c d)(z:n<=m){f:F}(u:evF c n f vs H=some r):evF d m f vs H=some r:=by
  unfold evF at u ⊢
  cases hg:(vs.all Az&&Nat.beq vs.length f.np) with
  | false=>rw[hg]at u;simp[gd]at u
  | true =>
    rw[hg]at u
    exact AK (fun a=>Da h z) (fun _ _ h=>h) u
theorem RK (h:LeC c d)(z:n<=m){f:F}(u:Ey c n f vs H=some r):Ey d m f vs H=some r:=by
  unfold Ey at u ⊢
  exact AK (fun _ h=>h) (fun a r=>AK (fun b=>Fb h z) (fun _ _ h=>h)) u
theorem FB (h:LeC c d)(z:n<=m)(u:Er c n vs H=some r):Er d m vs H=some r:=by
  unfold Er at u ⊢
  split at u
  · refine AK (fun _ h=>h) (fun row r u=>?_) u
    split at u
    · simp only[Ag]at u ⊢
      refine⟨u.1,AK (fun a=>Da h z) (fun p r u=>?_) u.2⟩
      split at u
      · exact AK (fun _ h=>h) (fun _ _=>AK (fun a=>Da h z) (fun _ _ h=>h)) u
      · cases u
    · cases u
  · cases u
def BJ (G:Cfg):Prop:=∀f p,G.prim f=some p -> ∀c d,LeC c d -> ∀vs H r,p c vs H=some r->p d vs H=some r
theorem Bk {G:Cfg}(z:BJ G):∀ {n m:Nat},n<=m->LeC (BE G n) (BE G m)
  | 0,_,_,f,vs,H,r,h=>by simp[BE]at h
  | n+1,0,hn,_,_,_,_,_=>by omega
  | n+1,m+1,hn,f,vs,H,r,h=>by
    have u:=Bk z (n:=n) (m:=m) (by omega)
    unfold BE at h ⊢
    split at h
    · rename_i p E
      exact z f p E _ _ u vs H r h
    · split at h
      · split at h
        · exact Fb u (by omega) h
        · exact RK u (by omega) h
      · simp only[Ag]at h ⊢
        exact⟨h.1,FB u (by omega) h.2⟩
def Di {α:Type}(x:Option α)(p:α->Prop):Prop:=∃a,x=some a/\p a
theorem Bi (a:α)(p:α->Prop):Di (some a) p=p a:=by simp[Di]
theorem NI (b:Bool)(x:Option α)(p:α->Prop):Di (gd b x) p=(b=true/\Di x p):=by cases b <;> simp[Di,gd]
theorem DS (x:Option α)(f:α->Option β)(p:β->Prop):Di (x.bind f) p=Di x fun a=>Di (f a) p:=by
  apply propext
  simp only[Di,Ahn]
  constructor
  · rintro⟨b,⟨a,E,u⟩,z⟩
    exact⟨a,E,b,u,z⟩
  · rintro⟨a,E,b,u,z⟩
    exact⟨b,⟨a,E,u⟩,z⟩
def Runs (G:Cfg)(c:C)(s:St)(Q:Ex->St->Prop):Prop:=∃n e s',evC (BE G n) n c s=some (e,s')/\Q e s'
def Hn (G:Cfg)(ops:List Op)(s:St)(Q:St->Prop):Prop:=∃n s',BW (BE G n) ops s=some s'/\Q s'
def Hz (G:Cfg)(o:Op)(s:St)(Q:St->Prop):Prop:=∃n s',Ek (BE G n) s o=some s'/\Q s'
def Ret (G:Cfg)(f:Nat)(vs:List V)(H:Hp)(Q:V->Hp->Prop):Prop:=∃n v H',BE G n f vs H=some (v,H')/\Q v H'
def Gives (G:Cfg)(f:Nat)(vs:List V)(H:Hp)(v:V)(H':Hp):Prop:=∃n,BE G n f vs H=some (v,H')
def thn (A:St->Prop)(Q:Ex->St->Prop):Ex->St->Prop
  | .nm,s=>A s
  | e,s=>Q e s
def inB (id:Nat)(Q:Ex->St->Prop):Ex->St->Prop
  | .ex j,s=>(j=id->Q .nm s)/\(j≠id->Q (.ex j) s)
  | e,s=>Q e s
theorem Afa (u:Nat)(Q:Ex->St->Prop)(s:St)(j:Nat):inB u Q (.ex j) s=if j=u then Q .nm s else Q (.ex j) s:=by
  apply propext
  by_cases h:j=u <;> simp[inB,h]
section
variable {G:Cfg}
variable {c:C}
theorem Runs.mono {s:St}{Q u:Ex->St->Prop}(h:Runs G c s Q)(E:∀e s,Q e s->u e s):Runs G c s u:=by
  obtain⟨n,e,z,N,J⟩:=h
  exact⟨n,e,z,N,E e z J⟩
theorem Ta (s:St)(Q:Ex->St->Prop):Runs G .skip s Q=Q .nm s:=by
  apply propext
  simp only[Runs,evC,Aho,Ahp]
  constructor
  · rintro⟨_,_,_,⟨rfl,rfl⟩,h⟩
    exact h
  · exact fun h=>⟨0,_,_,⟨rfl,rfl⟩,h⟩
theorem Abg (u:Nat)(s:St)(Q:Ex->St->Prop):Runs G (.ex u) s Q=Q (.ex u) s:=by
  apply propext
  simp only[Runs,evC,Aho,Ahp]
  constructor
  · rintro⟨_,_,_,⟨rfl,rfl⟩,h⟩
    exact h
  · exact fun h=>⟨0,_,_,⟨rfl,rfl⟩,h⟩
theorem WO (s:St)(Q:Ex->St->Prop):Runs G .ret s Q=Q .ret s:=by
  apply propext
  simp only[Runs,evC,Aho,Ahp]
  constructor
  · rintro⟨_,_,_,⟨rfl,rfl⟩,h⟩
    exact h
  · exact fun h=>⟨0,_,_,⟨rfl,rfl⟩,h⟩
theorem WP (u:List Op)(s:St)(Q:Ex->St->Prop):Runs G (.reg u) s Q=Hn G u s fun z=>Q .nm { z with L:=[] }:=by
  apply propext
  simp only[Runs,Hn,evC,Ahn,Aho,Ahp]
  constructor
  · rintro⟨n,_,_,⟨z,h,rfl,rfl⟩,E⟩
    exact⟨n,z,h,E⟩
  · rintro⟨n,z,h,E⟩
    exact⟨n,_,_,⟨z,h,rfl,rfl⟩,E⟩
theorem WN (W:BJ G)(a b:C)(s:St)(Q:Ex->St->Prop):Runs G (.seq a b) s Q=Runs G a s (thn (fun z=>Runs G b z Q) Q):=by
  apply propext
  constructor
  · rintro⟨n,e,z,h,J⟩
    simp only[evC,Ahn]at h
    obtain⟨⟨U,N⟩,E,u⟩:=h
    refine⟨n,U,N,E,?_⟩
    cases U with
    | nm=>exact⟨n,e,z,u,J⟩
    | _ =>
      simp only[Aho,Ahp]at u
      obtain⟨rfl,rfl⟩:=u
      exact J
  · rintro⟨n,U,N,E,u⟩
    cases U with
    | nm =>
      obtain⟨m,e,z,Y,J⟩:=u
      refine⟨max n m,e,z,?_,J⟩
      simp only[evC,Ahn]
      exact⟨_,Da (Bk W (Nat.le_max_left n m)) (Nat.le_max_left n m) E,Da (Bk W (Nat.le_max_right n m)) (Nat.le_max_right n m) Y⟩
    | ex j=>exact⟨n,.ex j,N,by simp[evC,E],u⟩
    | ret=>exact⟨n,.ret,N,by simp[evC,E],u⟩
def asB:V->Option Bool
  | .m (.b t)=>some t
  | _=>none
theorem WQ (o:Opnd)(a b:C)(s:St)(Q:Ex->St->Prop):Runs G (.ite o a b) s Q=Di ((evA s o).bind asB) fun t=>if t then Runs G a s Q else Runs G b s Q:=by
  apply propext
  constructor
  · rintro⟨n,e,E,h,z⟩
    simp only[evC,Ahn]at h
    obtain⟨v,J,h⟩:=h
    split at h
    · exact⟨true,by simp[J,asB],n,e,E,h,z⟩
    · exact⟨false,by simp[J,asB],n,e,E,h,z⟩
    · cases h
  · rintro⟨t,u,h⟩
    simp only[Ahn]at u
    obtain⟨v,J,u⟩:=u
    have:v=.m (.b t):=by
      unfold asB at u
      split at u
      · rw[Aho]at u;rw[u]
      · cases u
    subst this
    cases t with
    | true =>
      obtain⟨n,e,E,h,z⟩:=h
      exact⟨n,e,E,by simp[evC,J,h],z⟩
    | false =>
      obtain⟨n,e,E,h,z⟩:=h
      exact⟨n,e,E,by simp[evC,J,h],z⟩
theorem WR (Y:Nat)(c:C)(s:St)(Q:Ex->St->Prop):Runs G (.blk Y c) s Q=Runs G c s (inB Y Q):=by
  apply propext
  constructor
  · rintro⟨n,e,Z,h,W⟩
    simp only[evC,Ahn]at h
    obtain⟨⟨N,E⟩,J,u⟩:=h
    refine⟨n,N,E,J,?_⟩
    cases N with
    | ex j =>
      simp only at u
      split at u
      · rename_i z
        have:=AhI z
        simp only[Aho,Ahp]at u
        obtain⟨rfl,rfl⟩:=u
        exact⟨fun _=>W,fun U=>absurd this U⟩
      · rename_i z
        simp only[Aho,Ahp]at u
        obtain⟨rfl,rfl⟩:=u
        exact⟨fun e=>(by subst e;simp at z),fun _=>W⟩
    | _ =>
      simp only[Aho,Ahp]at u
      obtain⟨rfl,rfl⟩:=u
      exact W
  · rintro⟨n,N,E,J,u⟩
    cases N with
    | ex j =>
      cases z:Nat.beq j Y with
      | true=>exact⟨n,.nm,E,by simp[evC,J,z],u.1 (AhI z)⟩
      | false=>exact⟨n,.ex j,E,by simp[evC,J,z],u.2 (fun e=>by subst e;simp at z)⟩
    | nm=>exact⟨n,.nm,E,by simp[evC,J],u⟩
    | ret=>exact⟨n,.ret,E,by simp[evC,J],u⟩
theorem Tb (N:BJ G)(Z:List Nat)(c:C)(s:St)(Q:Ex->St->Prop):Runs G (.loop Z c) s Q=Runs G c { s with E:=Aw Z s.E } (thn (fun z=>Runs G (.loop Z c) z Q) Q):=by
  apply propext
  constructor
  · rintro⟨n,e,z,h,U⟩
    simp only[evC]at h
    cases n with
    | zero=>simp[Fn]at h
    | succ n =>
      simp only[Fn,Ahn]at h
      obtain⟨⟨Y,W⟩,J,u⟩:=h
      refine⟨n+1,Y,W,J,?_⟩
      cases Y with
      | nm=>exact⟨n+1,e,z,by simp only[evC];exact EY (fun _ _ h=>h) (Nat.le_succ n) u,U⟩
      | _ =>
        simp only[Aho,Ahp]at u
        obtain⟨rfl,rfl⟩:=u
        exact U
  · rintro⟨n,Y,W,J,u⟩
    cases Y with
    | nm =>
      obtain⟨m,e,z,h3,U⟩:=u
      have hn:n<=max n m+1:=by omega
      have hm:m<=max n m+1:=by omega
      refine⟨max n m+1,e,z,?_,U⟩
      simp only[evC,Fn,Ahn]
      refine⟨_,Da (Bk N hn) hn J,?_⟩
      simp only[evC]at h3
      exact EY (fun t r=>Da (Bk N hm) hm) (by omega) h3
    | ex j=>exact⟨n+1,.ex j,W,by simp only[evC,Fn,Ahn];exact⟨_,Da (Bk N (Nat.le_succ n)) (Nat.le_succ n) J,rfl⟩,u⟩
    | ret=>exact⟨n+1,.ret,W,by simp only[evC,Fn,Ahn];exact⟨_,Da (Bk N (Nat.le_succ n)) (Nat.le_succ n) J,rfl⟩,u⟩
theorem Abq (s:St)(Q:St->Prop):Hn G [] s Q=Q s:=by
  apply propext
  simp only[Hn,BW,Aho]
  constructor
  · rintro⟨_,_,rfl,h⟩
    exact h
  · exact fun h=>⟨0,_,rfl,h⟩
theorem EW (U:BJ G)(o:Op)(r:List Op)(s:St)(Q:St->Prop):Hn G (o::r) s Q=Hz G o s fun u=>Hn G r u Q:=by
  apply propext
  simp only[Hn,Hz,BW,Ahn]
  constructor
  · rintro⟨n,u,⟨J,N,E⟩,z⟩
    exact⟨n,J,N,n,u,E,z⟩
  · rintro⟨n,J,N,m,u,E,z⟩
    exact⟨max n m,u,⟨J,Ms (Bk U (Nat.le_max_left n m)) N,GM (Bk U (Nat.le_max_right n m)) E⟩,z⟩
theorem Abu (d:Dst)(o:OP)(az:List Opnd)(s:St)(Q:St->Prop):Hz G ⟨d,.p o,az,none⟩ s Q=Di (Ah (evA s) az) fun vs=>Di (Ar o vs) fun v=>Di (FM s d v) Q:=by
  apply propext
  simp only[Hz,Ek,AH,Ahz,Bu,gd,evO,Ahn,Di]
  constructor
  · rintro⟨_,J,⟨vs,N,⟨v,M⟩,⟨W,E,U⟩,z⟩,u⟩
    simp only[Aho,Ahp]at U
    obtain⟨rfl,rfl⟩:=U
    exact⟨vs,N,_,E,J,z,u⟩
  · rintro⟨vs,N,v,E,J,z,u⟩
    exact⟨0,J,⟨vs,N,(v,s.M),⟨v,E,rfl⟩,z⟩,u⟩
theorem Abt (d:Dst)(o:OR)(az:List Opnd)(s:St)(Q:St->Prop):Hz G ⟨d,.r o,az,none⟩ s Q=Di (Ah (evA s) az) fun vs=>Di (readX s.M o vs) fun v=>Di (FM s d v) Q:=by
  apply propext
  simp only[Hz,Ek,AH,Ahz,Bu,gd,evO,Ahn,Di]
  constructor
  · rintro⟨_,J,⟨vs,N,⟨v,M⟩,⟨W,E,U⟩,z⟩,u⟩
    simp only[Aho,Ahp]at U
    obtain⟨rfl,rfl⟩:=U
    exact⟨vs,N,_,E,J,z,u⟩
  · rintro⟨vs,N,v,E,J,z,u⟩
    exact⟨0,J,⟨vs,N,(v,s.M),⟨v,E,rfl⟩,z⟩,u⟩
theorem Abv (d:Dst)(f:Nat)(az:List Opnd)(s:St)(Q:St->Prop):Hz G ⟨d,.l (.cal f),az,none⟩ s Q=Di (Ah (evA s) az) fun vs=>Ret G f vs s.M.H fun v H'=>Di (FM { s with M:={ s.M with H:=H' } } d v) Q:=by
  apply propext
  simp only[Hz,Ek,AH,Ahz,Bu,gd,evO,An,Ahn,Di,Ret]
  constructor
  · rintro⟨n,J,⟨vs,N,⟨v,M⟩,⟨⟨r,H'⟩,E,U⟩,z⟩,u⟩
    simp only[Aho,Ahp]at U
    obtain⟨rfl,rfl⟩:=U
    exact⟨vs,N,n,_,_,E,J,z,u⟩
  · rintro⟨vs,N,n,v,H',E,J,z,u⟩
    exact⟨n,J,⟨vs,N,_,⟨_,E,rfl⟩,z⟩,u⟩
theorem Xi (d:Dst)(o:O)(az:List Opnd)(g:Opnd)(u:Bool)(s:St)(Q:St->Prop):Hz G ⟨d,o,az,some (g,u)⟩ s Q=Di (AH s (some (g,u))) fun q=>if q then Hz G ⟨d,o,az,none⟩ s Q else Di (FM s d .un) Q:=by
  apply propext
  constructor
  · rintro⟨n,E,h,z⟩
    simp only[Ek,Ahn]at h
    obtain⟨b,J,h⟩:=h
    refine⟨b,J,?_⟩
    cases b with
    | true=>exact⟨n,E,by simpa[Ek,AH]using h,z⟩
    | false=>exact⟨E,h,z⟩
  · rintro⟨b,J,h⟩
    cases b with
    | true =>
      obtain⟨n,E,h,z⟩:=h
      exact⟨n,E,by simp only[Ek,J,Ahz];simpa[Ek,AH]using h,z⟩
    | false =>
      obtain⟨E,h,z⟩:=h
      exact⟨0,E,by simp only[Ek,J,Ahz];exact h,z⟩
variable {Q:V->Hp->Prop} {f:Nat} {vs:List V} {H:Hp}
theorem Aez {H':Hp}{v:V}(z:BJ G)(h:Gives G f vs H v H'):Ret G f vs H Q=Q v H':=by
  apply propext
  obtain⟨n,E⟩:=h
  constructor
  · rintro⟨m,Y,W,N,u⟩
    have U:=Bk z (Nat.le_max_left n m) _ _ _ _ E
    have J:=Bk z (Nat.le_max_right n m) _ _ _ _ N
    rw[U]at J
    cases J
    exact u
  · exact fun u=>⟨n,v,H',E,u⟩
theorem Gives.of_ret {H':Hp}{v:V}(h:Ret G f vs H fun z u=>z=v/\u=H'):Gives G f vs H v H':=by
  obtain⟨n,E,u,h,rfl,rfl⟩:=h
  exact⟨n,h⟩
def fin (rs:List Res)(Q:V->Hp->Prop):Ex->St->Prop
  | .ex _,_=>False
  | _,s=>Di (Ei s rs) fun v=>Q v s.M.H
variable {np:Nat} {rs:List Res}
theorem ZE (E:vs.all Az=true)(hl:vs.length=np)(h:Runs G c ⟨Dp 0 vs,[],⟨[],H⟩⟩ (fin rs Q)):
    ∃n v H',evF (BE G n) n ⟨np,rs,c⟩ vs H=some (v,H')/\Q v H':=by
  obtain⟨n,e,N,W,J⟩:=h
  have U:(vs.all Az&&Nat.beq vs.length np)=true:=by rw[E,hl,Nat.beq_refl];rfl
  have u:Di (Ei N rs) (fun v=>Q v N.M.H)->(∀z,e ≠ .ex z) -> ∃n v H',evF (BE G n) n ⟨np,rs,c⟩ vs H=some (v,H')/\Q v H':=by
    rintro⟨v,E,hq⟩ hne
    refine⟨n,v,N.M.H,?_,hq⟩
    simp only[evF,U,gd,W,Ahz]
    cases e with
    | ex z=>exact absurd rfl (hne z)
    | _=>simp[E]
  cases e with
  | ex z=>exact J.elim
  | nm=>exact u J (fun _ h=>by cases h)
  | ret=>exact u J (fun _ h=>by cases h)
theorem Rs (W:BJ G)(J:G.prim f=none)(U:G.fn f=some ⟨np,rs,c⟩)(hs:G.sh f=true)(E:vs.all Az=true)(hl:vs.length=np) 
    (h:Runs G c ⟨Dp 0 vs,[],⟨[],H⟩⟩ (fin rs Q)):Ret G f vs H Q:=by
  obtain⟨n,v,N,z,u⟩:=ZE E hl h
  refine⟨n+1,v,N,?_,u⟩
  simp[BE,J,U,hs,z]
theorem Pi:∀ {vs:List V} {is:List I},BF vs=some is->vs.flatMap Dv=[]/\vs.all BN=true/\vs.all Az=true/\vs=is.map .m /\ ∀(n:Nat) H,Ah (view (n+1) H) vs=some is
  | [],is,h=>by simp only[BF,Aho]at h;subst h;exact⟨rfl,rfl,rfl,rfl,fun _ _=>rfl⟩
  | .m x::r,is,h=>by
    simp only[BF,Ahn,Aho]at h
    obtain⟨l,hl,rfl⟩:=h
    obtain⟨N,z,E,u,J⟩:=Pi hl
    refine⟨by simp[Dv,Fs,N],by simp[BN,CY,z],by simp[Az,E],by simp[u],fun n H=>?_⟩
    simp only[Ah,J n H]
    rfl
  | .un::_,is,h=>by simp[BF]at h
  | .ls _::_,is,h=>by simp[BF]at h
  | .sl .. :: _,is,h=>by simp[BF]at h
  | .pt .. :: _,is,h=>by simp[BF]at h
  | .fa .. :: _,is,h=>by simp[BF]at h
  | .mp _::_,is,h=>by simp[BF]at h
  | .fn .. :: _,is,h=>by simp[BF]at h
  | .ag _::_,is,h=>by simp[BF]at h
  | .tu _::_,is,h=>by simp[BF]at h
theorem Pf {is:List I}(Z:G.prim f=none)(hf:G.fn f=some ⟨np,rs,c⟩)(hs:G.sh f=false)(Y:BF vs=some is)(hl:vs.length=np) 
    (h:Runs G c ⟨Dp 0 vs,[],⟨[],[]⟩⟩ (fin rs fun v H'=>Di (viewR H' v) fun r=>Q r H)):Ret G f vs H Q:=by
  obtain⟨U,E,J,z,N⟩:=Pi Y
  obtain⟨n,v,H',W,r,hr,u⟩:=ZE J hl h
  refine⟨n+1,r,H,?_,u⟩
  simp only[BE,Z,hf,hs,Ahz,Ey,N 19 H]
  rw[<-z,W]
  simp only[Ahz,hr,U,E,gd]
end
end Go.Mx
namespace Go.Mx
inductive K where
  | fin (rs:List Res) (Q:V->Hp->Prop)
  | pur (rs:List Res) (H:Hp) (Q:V->Hp->Prop)
  | st (Q:Ex->St->Prop)
  | seq (b:C) (k:K)
  | blk (id:Nat) (k:K)
def K.sem (G:Cfg):K->Ex->St->Prop
  | .fin rs Q=>Mx.fin rs Q
  | .pur rs H Q=>Mx.fin rs fun v H'=>Di (viewR H' v) fun r=>Q r H
  | .st Q=>Q
  | .seq b k=>thn (fun s=>Runs G b s (k.sem G)) (k.sem G)
  | .blk id k=>inB id (k.sem G)
def Run (G:Cfg)(c:C)(s:St)(k:K):Prop:=Runs G c s (k.sem G)
def At' (G:Cfg)(e:Ex)(s:St)(k:K):Prop:=k.sem G e s
def EB (G:Cfg)(s:Option St)(ops:List Op)(k:K):Prop:=Di s fun s=>Hn G ops s fun s'=>k.sem G .nm { s' with L:=[] }
def Aaq (G:Cfg)(t:Option Bool)(a b:C)(s:St)(k:K):Prop:=Di t fun t=>if t then Runs G a s (k.sem G) else Runs G b s (k.sem G)
def Jk (G:Cfg)(f:Nat)(vs:Option (List V))(s:St)(d:Dst)(r:List Op)(k:K):Prop :=
  Di vs fun vs=>Ret G f vs s.M.H fun v H'=>EB G (FM { s with M:={ s.M with H:=H' } } d v) r k
def SN (s:St)(o:OP)(az:List Opnd)(d:Dst):Option St:=(Ah (evA s) az).bind fun vs=>(Ar o vs).bind fun v=>FM s d v
def stepR (s:St)(o:OR)(az:List Opnd)(d:Dst):Option St:=(Ah (evA s) az).bind fun vs=>(readX s.M o vs).bind fun v=>FM s d v
def stepL (s:St)(o:OL)(az:List Opnd)(d:Dst):Option St:=gd (Bu s (.l o)) ((Ah (evA s) az).bind fun vs=>(An (fun _ _ _=>none) s.M o vs).bind fun p=>FM { s with M:=p.2 } d p.1)
def Cv (q:Option Bool)(a b:Option St):Option St:=q.bind fun q=>match q with
  | true=>a
  | false=>b
section
variable {G:Cfg}
theorem Uf (s:St)(b:C)(k:K):At' G .nm s (.seq b k)=Run G b s k:=rfl
theorem Ug (s:St)(b:C)(k:K)(j:Nat):At' G (.ex j) s (.seq b k)=At' G (.ex j) s k:=rfl
theorem RN (s:St)(b:C)(k:K):At' G .ret s (.seq b k)=At' G .ret s k:=rfl
theorem Uj (s:St)(u:Nat)(k:K):At' G .nm s (.blk u k)=At' G .nm s k:=rfl
theorem RQ (s:St)(u:Nat)(k:K):At' G .ret s (.blk u k)=At' G .ret s k:=rfl
theorem Uk (s:St)(u:Nat)(k:K)(j:Nat):At' G (.ex j) s (.blk u k)=if j=u then At' G .nm s k else At' G (.ex j) s k:=Afa u _ s j
theorem at_st (e:Ex)(s:St)(Q:Ex->St->Prop):At' G e s (.st Q)=Q e s:=rfl
theorem Ui (s:St)(rs:List Res)(Q:V->Hp->Prop):At' G .nm s (.fin rs Q)=Di (Ei s rs) fun v=>Q v s.M.H:=rfl
theorem RP (s:St)(rs:List Res)(Q:V->Hp->Prop):At' G .ret s (.fin rs Q)=Di (Ei s rs) fun v=>Q v s.M.H:=rfl
theorem Uh (s:St)(rs:List Res)(H:Hp)(Q:V->Hp->Prop):At' G .nm s (.pur rs H Q)=Di ((Ei s rs).bind (viewR s.M.H)) fun r=>Q r H:=by
  rw[DS];rfl
theorem RO (s:St)(rs:List Res)(H:Hp)(Q:V->Hp->Prop):At' G .ret s (.pur rs H Q)=Di ((Ei s rs).bind (viewR s.M.H)) fun r=>Q r H:=by
  rw[DS];rfl
theorem Tc (s:St)(k:K):Run G .skip s k=At' G .nm s k:=Ta s _
theorem Abh (u:Nat)(s:St)(k:K):Run G (.ex u) s k=At' G (.ex u) s k:=Abg u s _
theorem WT (s:St)(k:K):Run G .ret s k=At' G .ret s k:=WO s _
theorem WS (u:BJ G)(a b:C)(s:St)(k:K):Run G (.seq a b) s k=Run G a s (.seq b k):=WN u a b s _
theorem Pe (u:Nat)(c:C)(s:St)(k:K):Run G (.blk u c) s k=Run G c s (.blk u k):=WR u c s _
theorem Pd (u:List Op)(s:St)(k:K):Run G (.reg u) s k=EB G (some s) u k:=by
  unfold Run EB
  rw[Bi]
  exact WP u s _
theorem WV (o:Opnd)(a b:C)(s:St)(k:K):Run G (.ite o a b) s k=Aaq G ((evA s o).bind asB) a b s k:=WQ o a b s _
theorem Td (z:BJ G)(u:List Nat)(c:C)(s:St)(k:K):Run G (.loop u c) s k=Run G c { s with E:=Aw u s.E } (.seq (.loop u c) k):=Tb z u c s _
theorem SJ (a b:C)(s:St)(k:K):Aaq G (some true) a b s k=Run G a s k:=by simp[Aaq,Bi,Run]
theorem Rk (a b:C)(s:St)(k:K):Aaq G (some false) a b s k=Run G b s k:=by simp[Aaq,Bi,Run]
theorem Pg (s:St)(k:K):EB G (some s) [] k=At' G .nm { s with L:=[] } k:=by
  simp only[EB,Bi,Abq]
  rfl
theorem Lx (u:List Op)(k:K):EB G none u k=False:=by simp[EB,Di]
theorem Abi (b:Bool)(s:Option St)(u:List Op)(k:K):EB G (gd b s) u k=(b=true/\EB G s u k):=NI b s _
theorem Zr (u:BJ G)(d:Dst)(o:OP)(az:List Opnd)(s:St)(r:List Op)(k:K):EB G (some s) (⟨d,.p o,az,none⟩::r) k=EB G (SN s o az d) r k:=by
  simp only[EB,Bi,EW u,Abu,SN,DS]
theorem Zq (u:BJ G)(d:Dst)(o:OR)(az:List Opnd)(s:St)(r:List Op)(k:K):EB G (some s) (⟨d,.r o,az,none⟩::r) k=EB G (stepR s o az d) r k:=by
  simp only[EB,Bi,EW u,Abt,stepR,DS]
theorem LA (u:BJ G)(d:Dst)(f:Nat)(az:List Opnd)(s:St)(r:List Op)(k:K):EB G (some s) (⟨d,.l (.cal f),az,none⟩::r) k=Jk G f (Ah (evA s) az) s d r k:=by
  simp only[EB,Bi,EW u,Abv,Jk]
theorem DQ (z:BJ G)(d:Dst)(o:O)(az:List Opnd)(g:Opnd)(u:Bool)(s:St)(r:List Op)(k:K):
    EB G (some s) (⟨d,o,az,some (g,u)⟩::r) k=Di (AH s (some (g,u))) fun q=>if q then EB G (some s) (⟨d,o,az,none⟩::r) k else EB G (FM s d .un) r k:=by
  simp only[EB,Bi,EW z,Xi]
theorem Lz (z:BJ G)(d:Dst)(o:OP)(az:List Opnd)(g:Opnd)(u:Bool)(s:St)(r:List Op)(k:K):
    EB G (some s) (⟨d,.p o,az,some (g,u)⟩::r) k=EB G (Cv (AH s (some (g,u))) (SN s o az d) (FM s d .un)) r k:=by
  rw[DQ z]
  cases hq:AH s (some (g,u)) with
  | none=>simp[Di,Cv,EB]
  | some q=>cases q <;> simp[Bi,Cv,Zr z]
theorem Ly (z:BJ G)(d:Dst)(o:OR)(az:List Opnd)(g:Opnd)(u:Bool)(s:St)(r:List Op)(k:K):
    EB G (some s) (⟨d,.r o,az,some (g,u)⟩::r) k=EB G (Cv (AH s (some (g,u))) (stepR s o az d) (FM s d .un)) r k:=by
  rw[DQ z]
  cases hq:AH s (some (g,u)) with
  | none=>simp[Di,Cv,EB]
  | some q=>cases q <;> simp[Bi,Cv,Zq z]
def Ns (G:Cfg)(q:Option Bool)(f:Nat)(az:List Opnd)(s:St)(d:Dst)(r:List Op)(k:K):Prop:=Di q fun q=>if q then Jk G f (Ah (evA s) az) s d r k else EB G (FM s d .un) r k
theorem Ie (z:BJ G)(d:Dst)(f:Nat)(az:List Opnd)(g:Opnd)(u:Bool)(s:St)(r:List Op)(k:K):
    EB G (some s) (⟨d,.l (.cal f),az,some (g,u)⟩::r) k=Ns G (AH s (some (g,u))) f az s d r k:=by
  rw[DQ z]
  simp only[Ns,LA z]
theorem RC (f:Nat)(az:List Opnd)(s:St)(d:Dst)(r:List Op)(k:K):Ns G (some true) f az s d r k=Jk G f (Ah (evA s) az) s d r k:=by simp[Ns,Bi]
theorem NQ (f:Nat)(az:List Opnd)(s:St)(d:Dst)(r:List Op)(k:K):Ns G (some false) f az s d r k=EB G (FM s d .un) r k:=by simp[Ns,Bi]
theorem LV (W:BJ G)(d:Dst)(o:OL)(az:List Opnd)(s:St)(r:List Op)(k:K)(Y:∀call vs,An call s.M o vs=An (fun _ _ _=>none) s.M o vs):EB G (some s) (⟨d,.l o,az,none⟩::r) k=EB G (stepL s o az d) r k:=by
  simp only[EB,Bi,EW W,stepL,NI,DS]
  apply propext
  simp only[Hz,Ek,AH,Ahz,evO,Y,Di]
  constructor
  · rintro⟨n,J,h,u⟩
    rw[gd_eq]at h
    obtain⟨U,h⟩:=h
    simp only[Ahn]at h
    obtain⟨vs,N,p,z,E⟩:=h
    exact⟨U,vs,N,p,z,J,E,u⟩
  · rintro⟨U,vs,N,p,z,J,E,u⟩
    refine⟨0,J,?_,u⟩
    rw[gd_eq]
    simp only[Ahn]
    exact⟨U,vs,N,p,z,E⟩
where gd_eq {α:Type} {b:Bool} {x:Option α} {y:α}:(gd b x=some y)=(b=true/\x=some y):=by cases b <;> simp[gd]
theorem Pu {M:Mem}{o:OL}(z:∀f,o ≠ .cal f)(u:o ≠ .cav)(c d:Bt)(vs:List V):An c M o vs=An d M o vs:=by
  cases o with
  | cal f=>exact absurd rfl (z f)
  | cav=>exact absurd rfl u
  | _ =>
    match vs with
    | []=>rfl
    | [_]=>rfl
    | [_,_]=>rfl
    | [_,_,_]=>rfl
    | _::_::_::_::_=>rfl
variable {f np:Nat} {rs:List Res} {c:C} {vs:List V} {is:List I} {H:Hp} {Q:V->Hp->Prop}
theorem Cs (E:G.prim f=none)(u:G.fn f=some ⟨np,rs,c⟩)(hs:G.sh f=false)(z:BF vs=some is)(hl:vs.length=np) 
    (h:Run G c ⟨Dp 0 vs,[],⟨[],[]⟩⟩ (.pur rs H Q)):Ret G f vs H Q:=Pf E u hs z hl h
theorem Af {v:V}(W:G.prim f=none)(Y:G.fn f=some ⟨np,rs,c⟩)(hs:G.sh f=false)(U:BF vs=some is)(hl:vs.length=np) 
    (h:Run G c ⟨Dp 0 vs,[],⟨[],[]⟩⟩ (.pur rs H fun N _=>N=v)):Gives G f vs H v H:=by
  refine .of_ret (Pf W Y hs U hl (h.mono fun e s u=>?_))
  cases e with
  | ex j=>exact u
  | nm =>
    obtain⟨x,J,r,z,E⟩:=u
    exact⟨x,J,r,z,E,rfl⟩
  | ret =>
    obtain⟨x,J,r,z,E⟩:=u
    exact⟨x,J,r,z,E,rfl⟩
theorem Bh (u:BJ G)(J:G.prim f=none)(z:G.fn f=some ⟨np,rs,c⟩)(hs:G.sh f=true)(E:vs.all Az=true)(hl:vs.length=np) 
    (h:Run G c ⟨Dp 0 vs,[],⟨[],H⟩⟩ (.fin rs Q)):Ret G f vs H Q:=Rs u J z hs E hl h
end
end Go.Mx
namespace Go.Mx
attribute [simp] Bi NI DS Uf Ug RN Uj RQ Uk at_st Ui RP Uh RO Tc Abh WT Pe Pd WV SJ Rk Pg Lx Abi RC NQ
@[simp] theorem pickS_t (a b:Option St):Cv (some true) a b=a:=rfl
@[simp] theorem pickS_f (a b:Option St):Cv (some false) a b=b:=rfl
variable {α:Type}
@[simp] theorem AeJ (p:α->Prop):Di none p=False:=by simp[Di]
variable {β:Type}
@[simp] theorem AdX (f:α->Option β):Ah f []=some []:=rfl
@[simp] theorem Abp (f:α->Option β)(a:α)(r:List α):Ah f (a::r)=(f a).bind fun x=>(Ah f r).bind fun l=>some (x::l):=rfl
@[simp] theorem getE_nil (n:Nat):Cd [] n=none:=rfl
@[simp] theorem CL (k:Nat)(x:V)(r:Env)(n:Nat):Cd ((k,x)::r) n=if k=n then some x else Cd r n:=by
  simp only[Cd]
  by_cases h:k=n
  · subst h;simp
  · rw[Aht h]
    have:Nat.beq k n=false:=by
      cases hb:Nat.beq k n with
      | false=>rfl
      | true=>exact absurd (AhI hb) h
    rw[this]
@[simp] theorem setE_nil (n:Nat)(x:V):CR [] n x=[(n,x)]:=rfl
@[simp] theorem HY (k:Nat)(y:V)(r:Env)(n:Nat)(x:V):CR ((k,y)::r) n x=if n<k then (n,x)::(k,y)::r else if k=n then (n,x)::r else (k,y)::CR r n x:=by
  simp only[CR]
  by_cases h:n<k
  · rw[Ahv h]
    have:Nat.blt n k=true:=by rw[AiL];exact h
    rw[this]
  · rw[Aht h]
    have:Nat.blt n k=false:=by
      cases hb:Nat.blt n k with
      | false=>rfl
      | true=>rw[AiL]at hb;exact absurd hb h
    rw[this]
    by_cases e:k=n
    · subst e;simp
    · rw[Aht e]
      have:Nat.beq k n=false:=by
        cases hb:Nat.beq k n with
        | false=>rfl
        | true=>exact absurd (AhI hb) e
      rw[this]
@[simp] theorem rmE_nil (n:Nat):rmE [] n=[]:=rfl
@[simp] theorem rmE_cons (k:Nat)(x:V)(r:Env)(n:Nat):rmE ((k,x)::r) n=if k=n then rmE r n else (k,x)::rmE r n:=by
  simp only[rmE]
  by_cases h:k=n
  · subst h;simp
  · rw[Aht h]
    have:Nat.beq k n=false:=by
      cases hb:Nat.beq k n with
      | false=>rfl
      | true=>exact absurd (AhI hb) h
    rw[this]
@[simp] theorem Afi (e:Env):Aw [] e=e:=rfl
@[simp] theorem Aec (n:Nat)(r:List Nat)(e:Env):Aw (n::r) e=Aw r (rmE e n):=rfl
@[simp] theorem evA_v (s:St)(n:Nat):evA s (.v n)=Cd s.E n:=rfl
@[simp] theorem evA_l (s:St)(n:Nat):evA s (.l n)=Cd s.L n:=rfl
@[simp] theorem evA_k (s:St)(x:V):evA s (.k x)=some x:=rfl
@[simp] theorem HU (s:St)(a:Opnd)(w:Bool):AH s (some (a,w))=(evA s a).bind fun v=>match v with
    | .m (.b x)=>some (x==w)
    | .un=>some false
    | _=>none:=rfl
@[simp] theorem asB_b (x:Bool):asB (.m (.b x))=some x:=rfl
@[simp] theorem Afh (k:Nat):Dp k []=[]:=rfl
@[simp] theorem Aeb (k:Nat)(x:V)(r:List V):Dp k (x::r)=(k,x)::Dp (k+1) r:=rfl
@[simp] theorem resOf_eq (s:St)(rs:List Res):Ei s rs=(Ah (Rx s) rs).bind fun vs=>some (tup vs):=rfl
@[simp] theorem resV_t (s:St)(n:Nat):Rx s (.t n)=(Cd s.E n).bind fun v=>gd (Az v) (some v):=rfl
@[simp] theorem resV_c (s:St)(n u:Nat)(ag:Bool):Rx s (.c n u ag)=(Cd s.E n).bind fun a=>(readA s.M u a).bind fun cs=>DF ag cs:=rfl
@[simp] theorem noFaV_m (x:I):Az (.m x)=true:=rfl
@[simp] theorem noFaV_ls (x:LT):Az (.ls x)=true:=rfl
@[simp] theorem noFaV_sl (a b c d e:Nat)(f:Bool):Az (.sl a b c d e f)=true:=rfl
@[simp] theorem noFaV_mp (a:Nat):Az (.mp a)=true:=rfl
@[simp] theorem noFaV_pt (a b c d:Nat):Az (.pt a b c d)=true:=rfl
@[simp] theorem tup_1 (v:V):tup [v]=v:=rfl
@[simp] theorem tup_0:tup []=.tu []:=rfl
@[simp] theorem tup_2 (u v:V)(r:List V):tup (u::v::r)=.tu (u::v::r):=rfl
@[simp] theorem viewR_m (H:Hp)(x:I):viewR H (.m x)=some (.m x):=rfl
@[simp] theorem viewR_tu (H:Hp)(vs:List V):viewR H (.tu vs)=(Ah (view 20 H) vs).bind fun l=>some (.tu (l.map .m)):=rfl
@[simp] theorem view_m (n:Nat)(H:Hp)(x:I):view (n+1) H (.m x)=some x:=rfl
@[simp] theorem OO (H:Hp)(x:I):view 20 H (.m x)=some x:=rfl
@[simp] theorem Aep (H:Hp)(x:LT):view 20 H (.ls x)=some (.sl x):=rfl
@[simp] theorem allM_nil:BF []=some []:=rfl
@[simp] theorem Afw (x:I)(r:List V):BF (.m x::r)=(BF r).bind fun l=>some (x::l):=rfl
@[simp] theorem px_mv (x:V):Ar .mv [x]=some x:=rfl
@[simp] theorem px_pick (c:Bool)(a b:V):Ar .pick [.m (.b c),a,b]=some (if c then a else b):=by cases c <;> rfl
@[simp] theorem px_un (o:UnOp)(x:V):Ar (.un o) [x]=unX o x:=rfl
@[simp] theorem px_bin (o:BinOp)(x y:V):Ar (.bin o) [x,y]=Ez o x y:=rfl
@[simp] theorem px_eqb (n x y:Bool):Ar (.eqb n) [.m (.b x),.m (.b y)]=some (.m (.b (xor n (x==y)))):=rfl
@[simp] theorem px_eqs (n:Bool)(u:List Nat)(xs ys:List I):Ar (.eqs n u) [.m (.ag xs),.m (.ag ys)]=(Fv u xs ys).bind fun r=>some (.m (.b (xor n r))):=rfl
@[simp] theorem px_eqn (n:Bool)(k:Nat)(x:V):Ar (.eqn n k) [x]=(FF k x).bind fun r=>some (.m (.b (xor n r))):=rfl
@[simp] theorem px_build (z:List V)(p:List (Nat×Nat))(xs:List V):Ar (.build z p) xs=(TK z p xs).bind fun cs=>some (mkAg cs):=rfl
@[simp] theorem px_cv (k u:IntKind)(n:Int):Ar (.cv k) [.m (.i u n)]=some (.m (.i k (wr k n))):=rfl
@[simp] theorem AeG (o:Nat)(cs:List I):Ar (.fad o) [.m (.pt cs)]=some (.m (.pt (cs.drop o))):=rfl
@[simp] theorem AeH (o d u:Nat):Ar (.fad o) [.fa d u]=some (.fa d (u+o)):=rfl
@[simp] theorem AdW (o r v i u:Nat):Ar (.fad o) [.pt r v i u]=some (.pt r v i (u+o)):=rfl
@[simp] theorem px_ext (j:Nat)(vs:List V):Ar (.ext j) [.tu vs]=nth vs j:=rfl
@[simp] theorem px_mkf (f:Nat)(xs:List V):Ar (.mkf f) xs=gd (xs.all Az) (some (.fn f xs)):=rfl
@[simp] theorem AdR (r v i o:Nat):Ar .nck [.pt r v i o]=some (.pt r v i o):=rfl
@[simp] theorem AeC:Ar (.len false) [.m (.nl 4)]=some (.m (.i .i64 0)):=rfl
@[simp] theorem AeB (es:LT):Ar (.len false) [.m (.sl es)]=some (.m (.i .i64 es.length)):=rfl
@[simp] theorem AeD (es:LT):Ar (.len false) [.ls es]=some (.m (.i .i64 es.length)):=rfl
@[simp] theorem AdS (r v e st n:Nat)(l:Bool):Ar (.len false) [.sl r v e st n l]=some (.m (.i .i64 n)):=rfl
@[simp] theorem Kz (k:IntKind):eqK k k=true:=by cases k <;> rfl
@[simp] theorem GK (x:Option α):gd true x=x:=rfl
@[simp] theorem Xv (x:Option α):gd false x=none:=rfl
@[simp] theorem bx_add (k:IntKind)(x y:Int):Ez .add (.m (.i k x)) (.m (.i k y))=some (.m (.i k (wr k (x+y)))):=by simp[Ez,arX,vi]
@[simp] theorem bx_sub (k:IntKind)(x y:Int):Ez .sub (.m (.i k x)) (.m (.i k y))=some (.m (.i k (wr k (x-y)))):=by simp[Ez,arX,vi]
@[simp] theorem bx_mul (k:IntKind)(x y:Int):Ez .mul (.m (.i k x)) (.m (.i k y))=some (.m (.i k (wr k (x*y)))):=by simp[Ez,arX,vi]
theorem To (y:Int):(!eqI y 0)=decide (y≠0):=by rw[DY];by_cases h:y=0 <;> simp[h]
@[simp] theorem bx_quo (k:IntKind)(x y:Int):Ez .quo (.m (.i k x)) (.m (.i k y))=gd (decide (y≠0)) (some (.m (.i k (wr k (x.tdiv y))))):=by simp only[Ez,arX,vi,Kz,GK,To]
@[simp] theorem bx_rem (k:IntKind)(x y:Int):Ez .rem (.m (.i k x)) (.m (.i k y))=gd (decide (y≠0)) (some (.m (.i k (x.tmod y)))):=by simp only[Ez,arX,vi,Kz,GK,To]
@[simp] theorem bx_eql (k:IntKind)(x y:Int):Ez .eql (.m (.i k x)) (.m (.i k y))=some (.m (.b (decide (x=y)))):=by simp[Ez,arX,vb,DY];rfl
@[simp] theorem bx_neq (k:IntKind)(x y:Int):Ez .neq (.m (.i k x)) (.m (.i k y))=some (.m (.b (decide (x≠y)))):=by simp[Ez,arX,vb,DY];rfl
@[simp] theorem bx_lss (k:IntKind)(x y:Int):Ez .lss (.m (.i k x)) (.m (.i k y))=some (.m (.b (decide (x<y)))):=by simp[Ez,arX,vb,CX]
@[simp] theorem bx_leq (k:IntKind)(x y:Int):Ez .leq (.m (.i k x)) (.m (.i k y))=some (.m (.b (decide (x<=y)))):=by simp[Ez,arX,vb,Hf]
@[simp] theorem bx_gtr (k:IntKind)(x y:Int):Ez .gtr (.m (.i k x)) (.m (.i k y))=some (.m (.b (decide (y<x)))):=by simp[Ez,arX,vb,CX]
@[simp] theorem bx_geq (k:IntKind)(x y:Int):Ez .geq (.m (.i k x)) (.m (.i k y))=some (.m (.b (decide (y<=x)))):=by simp[Ez,arX,vb,Hf]
@[simp] theorem AbY (x y:List Nat):Ez .add (.m (.s x)) (.m (.s y))=gd (decide (x.length+y.length<=9223372036854775807)) (some (.m (.s (x++y)))):=by
  simp only[Ez,stX]
  congr 1
  rw[Aio];simp
@[simp] theorem ux_neg (k:IntKind)(x:Int):unX .neg (.m (.i k x))=some (.m (.i k (wr k (0-x)))):=rfl
@[simp] theorem ux_not (x:Bool):unX .not (.m (.b x))=some (.m (.b (!x))):=rfl
@[simp] theorem nth_zero (x:α)(r:List α):nth (x::r) 0=some x:=rfl
@[simp] theorem Xj (x:α)(r:List α)(n:Nat):nth (x::r) (n+1)=nth r n:=rfl
@[simp] theorem valOf_f (x:V):DF false [x]=some x:=rfl
@[simp] theorem Be (cs:List V):DF true cs=some (mkAg cs):=rfl
variable {x:Int}
theorem Aa (u:-9223372036854775808<=x)(z:x<=9223372036854775807):wr .i64 x=x:=by
  have:okK .i64 x=true:=(Ir _ _ _).2 ⟨by simpa using u,by simpa using z⟩
  unfold wr;rw[this]
theorem J2 (x:Int)(h:-9223372036854775808<=x/\x<=9223372036854775807):wr .i64 x=x:=Aa h.1 h.2
theorem J1 (i:Nat)(h:i<9223372036854775807):wr .i64 ((i:Int)+1)=((i+1:Nat):Int):=Aa (by omega) (by omega)
theorem Dj (u:0<=x)(z:x<=18446744073709551615):wr .u64 x=x:=by
  have:okK .u64 x=true:=(Ir _ _ _).2 ⟨by simpa using u,by simpa using z⟩
  unfold wr;rw[this]
theorem FO (u:0<=x)(z:x<=4294967295):wr .u32 x=x:=by
  have:okK .u32 x=true:=(Ir _ _ _).2 ⟨by simpa using u,by simpa using z⟩
  unfold wr;rw[this]
theorem Lo (u:0<=x)(z:x<=255):wr .u8 x=x:=by
  have:okK .u8 x=true:=(Ir _ _ _).2 ⟨by simpa using u,by simpa using z⟩
  unfold wr;rw[this]
theorem Gt (x:Int):wr .u64 x=x%18446744073709551616:=by
  rw[Gu]
  simp[IntKind.wrap,IntKind.signed,IntKind.bits]
end Go.Mx
namespace Go.Mx
theorem Bg (a b:Nat):Nat.ble a b=decide (a<=b):=by
  rw[Aio];simp
theorem Og (a b:Nat):Nat.blt a b=decide (a<b):=by
  rw[Aio];simp
theorem GQ (a b:Nat):Nat.beq a b=decide (a=b):=by
  rw[Aio];simp
@[simp] theorem stepL_eq (s:St)(o:OL)(az:List Opnd)(d:Dst):stepL s o az d=gd (Bu s (.l o)) ((Ah (evA s) az).bind fun vs=>(An (fun _ _ _=>none) s.M o vs).bind fun p=>FM { s with M:=p.2 } d p.1):=rfl
@[simp] theorem loud_alp (c:Bt)(M:Mem)(d:Nat)(z:List V):An c M (.alp d z) []=some (.fa d 0,{ M with B:=Ep M.B d z }):=rfl
@[simp] theorem loud_bxp (c:Bt)(M:Mem)(d u:Nat)(x:V):An c M (.bxp d u) [x]=(AA x).bind fun cs=>gd (Nat.beq cs.length u) (some (.fa d 0,{ M with B:=Ep M.B d cs })):=rfl
@[simp] theorem loud_st (c:Bt)(M:Mem)(u:Nat)(a x:V):An c M (.st u) [a,x]=(AA x).bind fun cs=>gd (Nat.beq cs.length u&&cs.all BL) ((Fp M cs a).bind fun M'=>some (.un,M')):=rfl
@[simp] theorem loud_str (c:Bt)(M:Mem)(u:Nat)(a x:V):An c M (.str u) [a,x]=gd (Az a) ((AA x).bind fun cs=>gd (Nat.beq cs.length u&&cs.all BL) ((Fp M cs a).bind fun M'=>some (.un,M'))):=rfl
@[simp] theorem Afq (cs:List I):AA (.m (.ag cs))=some (cs.map .m):=rfl
@[simp] theorem Afp (cs:List V):AA (.ag cs)=some cs:=rfl
@[simp] theorem cellsV_b (x:Bool):AA (.m (.b x))=some [.m (.b x)]:=rfl
@[simp] theorem cellsV_i (k:IntKind)(x:Int):AA (.m (.i k x))=some [.m (.i k x)]:=rfl
@[simp] theorem Afn (a b c d e:Nat)(f:Bool):AA (.sl a b c d e f)=some [.sl a b c d e f]:=rfl
@[simp] theorem Afo (a:Nat):AA (.mp a)=some [.mp a]:=rfl
@[simp] theorem oneV_b (x:Bool):BL (.m (.b x))=true:=rfl
@[simp] theorem oneV_i (k:IntKind)(x:Int):BL (.m (.i k x))=true:=rfl
@[simp] theorem oneV_nl (k:Nat):BL (.m (.nl k))=true:=rfl
@[simp] theorem oneV_sl (a b c d e:Nat)(f:Bool):BL (.sl a b c d e f)=true:=rfl
@[simp] theorem getB_nil (n:Nat):getB [] n=none:=rfl
@[simp] theorem DW (k:Nat)(x:List V)(r:LE)(n:Nat):getB ((k,x)::r) n=if k=n then some x else getB r n:=by
  simp only[getB,GQ]
  by_cases h:k=n <;> simp[h]
@[simp] theorem setB_nil (n:Nat)(x:List V):Ep [] n x=[(n,x)]:=rfl
@[simp] theorem EE (k:Nat)(y:List V)(r:LE)(n:Nat)(x:List V):Ep ((k,y)::r) n x=if k=n then (n,x)::r else if n<k then (n,x)::(k,y)::r else (k,y)::Ep r n x:=by
  simp only[Ep,GQ,Og]
  by_cases h:k=n
  · simp[h]
  · by_cases u:n<k <;> simp[h,u]
@[simp] theorem Aeo (M:Mem)(xs:List V)(d off:Nat):Fp M xs (.fa d off)=(getB M.B d).bind fun cs=>(FC cs off xs).bind fun u=>some { M with B:=Ep M.B d u }:=rfl
@[simp] theorem Xf (cs:List V)(off:Nat)(xs:List V):FC cs off xs=gd (decide (off+xs.length<=cs.length)) (some (cs.take off++xs++cs.drop (off+xs.length))):=by rw[<-Bg];rfl
theorem Wz (n:Nat)(l:List V):Dx n l=gd (decide ((l.take n).length=n)) (some (l.take n)):=by rw[<-GQ];rfl
@[simp] theorem readA_fa (M:Mem)(u d off:Nat):readA M u (.fa d off)=(getB M.B d).bind fun cs=>Dx u (cs.drop off):=rfl
@[simp] theorem readA_pt (M:Mem)(u:Nat)(cs:List I):readA M u (.m (.pt cs))=Dx u (cs.map .m):=rfl
@[simp] theorem rx_ld (M:Mem)(ag:Bool)(u:Nat)(a:V):readX M (.ld ag u) [a]=(readA M u a).bind fun cs=>DF ag cs:=rfl
@[simp] theorem Bf (cs:List V):mkAg cs=match BF cs with
  | some l=>.m (.ag l)
  | none=>.ag cs:=rfl
@[simp] theorem fill_nil (cs:List V):TK cs [] []=some cs:=rfl
@[simp] theorem Afe (cs:List V)(off z:Nat)(ps:List (Nat×Nat))(x:V)(xs:List V):TK cs ((off,z)::ps) (x::xs)=(AA x).bind fun l=>gd (Nat.beq l.length z) ((FC cs off l).bind fun u=>TK u ps xs):=rfl
@[simp] theorem Aea (u:Nat)(es:L0):BO u es [] []=some es:=rfl
@[simp] theorem AbP (u:Nat)(es:L0)(ix:Nat)(ps:List Nat)(x:V)(xs:List V):BO u es (ix::ps) (x::xs)=(AA x).bind fun l=>gd (Nat.beq l.length u) ((AN es ix l).bind fun es'=>BO u es' ps xs):=rfl
variable {α:Type}
@[simp] theorem AdQ (y:α)(r:List α)(x:α):AN (y::r) 0 x=some (x::r):=rfl
@[simp] theorem Rp (y:α)(r:List α)(n:Nat)(x:α):AN (y::r) (n+1) x=(AN r n x).bind fun l=>some (y::l):=rfl
@[simp] theorem px_bsl (u:Nat)(z:List V)(n:Nat)(p:List Nat)(xs:List V):Ar (.bsl u z n p) xs=(BO u (List.replicate n z) p xs).bind fun es=>(Ah BF es).bind fun l=>some (.ls l):=rfl
@[simp] theorem Afd (n:Nat)(k:IntKind)(x:Int):idx n (.m (.i k x))=gd (decide (0<=x/\x<n)) (some x.toNat):=by
  cases x with
  | ofNat j =>
    show gd (Nat.blt j n) (some j)=_
    rw[Og]
    congr 1
    simp
  | negSucc j =>
    have:¬(0<=Int.negSucc j/\Int.negSucc j<n):=by omega
    rw[AhB this];rfl
@[simp] theorem Aft (n:Nat)(k:IntKind)(x:Int):bnd n (.m (.i k x))=gd (decide (0<=x/\x<=n)) (some x.toNat):=by
  cases x with
  | ofNat j =>
    show gd (Nat.ble j n) (some j)=_
    rw[Bg]
    congr 1
    simp
  | negSucc j =>
    have:¬(0<=Int.negSucc j/\Int.negSucc j<=n):=by omega
    rw[AhB this];rfl
@[simp] theorem AeE (u:Nat)(es:LT)(i:V):Ar (.ixa u) [.m (.sl es),i]=(idx es.length i).bind fun j=>(nth es j).bind fun e=>gd (Nat.beq e.length u) (some (.m (.pt e))):=rfl
@[simp] theorem AeF (u:Nat)(es:LT)(i:V):Ar (.ixa u) [.ls es,i]=(idx es.length i).bind fun j=>(nth es j).bind fun e=>gd (Nat.beq e.length u) (some (.m (.pt e))):=rfl
@[simp] theorem AdT (u r ver e st len:Nat)(lim:Bool)(i:V):Ar (.ixa u) [.sl r ver e st len lim,i]=gd (Nat.beq u e) ((idx len i).bind fun j=>some (.pt r ver (st+j) 0)):=rfl
@[simp] theorem AdV (n u d o:Nat)(i:V):Ar (.ixaA n u) [.fa d o,i]=(idx n i).bind fun j=>some (.fa d (o+j*u)):=rfl
@[simp] theorem AdU (n u:Nat)(cs:List I)(i:V):Ar (.ixaA n u) [.m (.pt cs),i]=(idx n i).bind fun j=>some (.m (.pt (cs.drop (j*u)))):=rfl
@[simp] theorem px_ixs (l:List Nat)(i:V):Ar .ixs [.m (.s l),i]=(idx l.length i).bind fun j=>(nth l j).bind fun c=>some (.m (.i .u8 (c:Int))):=rfl
theorem AL {α:Type}:∀(l:List α) (j:Nat),nth l j=l[j]?
  | [],n=>by cases n <;> rfl
  | _::_,0=>rfl
  | _::r,n+1=>by rw[Xj,AL r n];simp
@[simp] theorem px_slc_s (u hi mx:Bool)(l:List Nat)(vs:List V):Ar (.slc 0 u hi mx) (.m (.s l)::vs)=gd (!mx) ((KH l.length u hi mx vs).bind fun p=>some (.m (.s ((l.drop p.1).take (p.2-p.1))))):=rfl
@[simp] theorem AbZ (n:Nat)(a:V):KH n true false false [a]=(bnd n a).bind fun l=>some (l,n):=rfl
@[simp] theorem bnds_ft (n:Nat)(b:V):KH n false true false [b]=(bnd n b).bind fun h=>some (0,h):=rfl
@[simp] theorem bnds_tt (n:Nat)(a b:V):KH n true true false [a,b]=(bnd n b).bind fun h=>(bnd h a).bind fun l=>some (l,h):=rfl
@[simp] theorem nat_beq (a b:Nat):Nat.beq a b=decide (a=b):=GQ a b
@[simp] theorem DB (c:Bt)(M:Mem)(ty u b:Nat)(s x:V):An c M (.app ty u b) [s,x]=match x with
    | .m (.s l)=>Et M ty u b s (l.map fun c:Nat=>[.m (.i .u8 (Int.ofNat c))])
    | x=>(elems M.H x).bind fun xs=>Et M ty u b s xs:=rfl
@[simp] theorem elems_ls (H:Hp)(es:LT):elems H (.ls es)=some (Bn es):=rfl
@[simp] theorem immS_nil:Bn []=[]:=rfl
@[simp] theorem Afb (e:List I)(r:LT):Bn (e::r)=e.map .m::Bn r:=rfl
@[simp] theorem XD:Fv [] [] []=some true:=rfl
@[simp] theorem TN (k:Nat)(u:List Nat)(x y:I)(xs ys:List I):Fv (k::u) (x::xs) (y::ys)=(eqC k x y).bind fun r=>(Fv u xs ys).bind fun rs=>some (r&&rs):=rfl
@[simp] theorem eqC_i (k:IntKind)(x y:Int):eqC 1 (.i k x) (.i k y)=some (decide (x=y)):=by
  simp only[eqC,Kz,DY]
  rfl
@[simp] theorem eqC_s (x y:List Nat):eqC 2 (.s x) (.s y)=some (decide (x=y)):=by
  simp only[eqC,Iz]
  rfl
def CavK (G:Cfg)(g:Option V)(vs:Option (List V))(s:St)(d:Dst)(r:List Op)(k:K):Prop:=Di g fun g=>match g with
  | .m (.fn f cap)=>Jk G f (vs.map fun l=>l++cap.map .m) s d r k
  | .fn f cap=>Jk G f (vs.map fun l=>l++cap) s d r k
  | .yl r0=>Jk G yN (vs.map fun l=>.yl r0::l) s d r k
  | _=>False
section
variable {G:Cfg}
theorem AeK (hG:BJ G)(d:Dst)(g:Opnd)(az:List Opnd)(s:St)(r:List Op)(k:K):EB G (some s) (⟨d,.l .cav,g::az,none⟩::r) k=CavK G (evA s g) (Ah (evA s) az) s d r k:=by
  simp only[EB,Bi,EW hG,CavK]
  apply propext
  simp only[Hz,Ek,AH,Ahz,Bu,gd,evO,Ah,Ahn,Di,Jk,Ret]
  constructor
  · rintro⟨n,W,⟨vs,⟨gv,hg,E,a0,u⟩,⟨v,M⟩,Y,z⟩,U⟩
    simp only[Aho]at u
    subst u
    refine⟨gv,hg,?_⟩
    simp only[An]at Y
    split at Y
    · rename_i f Z
      simp only[Ahn,Aho,Ahp]at Y
      obtain⟨⟨r0,N⟩,J,rfl,rfl⟩:=Y
      exact⟨_,by rw[a0];rfl,n,_,_,J,W,z,U⟩
    · rename_i f Z
      simp only[Ahn,Aho,Ahp]at Y
      obtain⟨⟨r0,N⟩,J,rfl,rfl⟩:=Y
      exact⟨_,by rw[a0];rfl,n,_,_,J,W,z,U⟩
    · rename_i r0
      simp only[Ahn,Aho,Ahp]at Y
      obtain⟨⟨u0,N⟩,J,rfl,rfl⟩:=Y
      exact⟨_,by rw[a0];rfl,n,_,_,J,W,z,U⟩
    · cases Y
  · rintro⟨gv,hg,h⟩
    split at h
    · rename_i f Z
      obtain⟨vs,u,n,v,N,J,W,z,U⟩:=h
      cases ha:Ah (evA s) az with
      | none=>rw[ha]at u;cases u
      | some E =>
        rw[ha]at u
        cases u
        refine⟨n,W,⟨_,⟨_,hg,E,rfl,rfl⟩,(v,{ s.M with H:=N }),?_,z⟩,U⟩
        simp only[An,Ahn]
        exact⟨(v,N),J,rfl⟩
    · rename_i f Z
      obtain⟨vs,u,n,v,N,J,W,z,U⟩:=h
      cases ha:Ah (evA s) az with
      | none=>rw[ha]at u;cases u
      | some E =>
        rw[ha]at u
        cases u
        refine⟨n,W,⟨_,⟨_,hg,E,rfl,rfl⟩,(v,{ s.M with H:=N }),?_,z⟩,U⟩
        simp only[An,Ahn]
        exact⟨(v,N),J,rfl⟩
    · rename_i r0
      obtain⟨vs,u,n,v,N,J,W,z,U⟩:=h
      cases ha:Ah (evA s) az with
      | none=>rw[ha]at u;cases u
      | some E =>
        rw[ha]at u
        cases u
        refine⟨n,W,⟨_,⟨_,hg,E,rfl,rfl⟩,(v,{ s.M with H:=N }),?_,z⟩,U⟩
        simp only[An,Ahn]
        exact⟨(v,N),J,rfl⟩
    · exact h.elim
theorem AQ {f:Nat}{is:List I}{vs:List V}{H H0:Hp}{v:V}(hp:G.prim f=none)(hs:G.sh f=false)(h:Gives G f (is.map .m) H0 v H0)(Z:Ah (view 20 H) vs=some is) 
    (hr:(vs.flatMap Dv=[]/\vs.all BN=true)\/(vs.flatMap Dv≠[]/\FG v=true)):Gives G f vs H v H:=by
  obtain⟨n,h⟩:=h
  cases n with
  | zero=>simp[BE]at h
  | succ n =>
    refine⟨n+1,?_⟩
    simp only[BE,hp,hs]at h ⊢
    cases hfn:G.fn f with
    | none =>
      rw[hfn]at h
      simp only[Ag]at h
      obtain⟨_,h⟩:=h
      cases is <;> simp[Er]at h
    | some fn =>
    rw[hfn]at h
    simp only at h ⊢
    have hm:∀(l:List I),Ah (view 20 H0) (l.map V.m)=some l:=by
      intro l
      induction l with
      | nil=>rfl
      | cons a r ih=>simp only[AhV,Ah,OO,ih];rfl
    have W:(is.map V.m).flatMap Dv=[]:=by
      induction is with
      | nil=>rfl
      | cons a r _=>simp[Dv,Fs]
    unfold Ey at h ⊢
    simp only[hm,W,Ahn]at h
    obtain⟨a0,Y,⟨v1,H1⟩,E,r,z,u⟩:=h
    cases Y
    have U:r=v:=by
      cases hsh:(is.map V.m).all BN with
      | false=>rw[hsh]at u;simp at u
      | true=>rw[hsh]at u;simp at u;exact u
    subst U
    simp only[Z,Ahz,E,z]
    rcases hr with ⟨N,J⟩|⟨N,J⟩
    · rw[N]
      simp[J]
    · cases hl:vs.flatMap Dv with
      | nil=>exact absurd hl N
      | cons a b=>simp[J]
end
@[simp] theorem Afv:Mz .u64=64:=rfl
@[simp] theorem bx_shr (k u:IntKind)(x y:Int):Ez .shr (.m (.i k x)) (.m (.i u y))=gd (decide (0<=y)) (some (.m (.i k (x / ((2 ^ min y.toNat (Mz k):Nat):Int))))):=by
  cases y with
  | ofNat n =>
    have:decide (0<=Int.ofNat n)=true:=by simp
    rw[this,GK,<-Int.fdiv_eq_ediv_of_nonneg _ (Int.natCast_nonneg _)]
    rfl
  | negSucc n=>rfl
@[simp] theorem bx_shl (k u:IntKind)(x y:Int):Ez .shl (.m (.i k x)) (.m (.i u y))=gd (decide (0<=y)) (some (.m (.i k (wr k (x*((2 ^ min y.toNat (Mz k):Nat):Int)))))):=by
  cases y with
  | ofNat n =>
    have:decide (0<=Int.ofNat n)=true:=by simp
    rw[this,GK]
    rfl
  | negSucc n=>rfl
theorem ZJ (k:IntKind)(x y:Int):Ez .and (.m (.i k x)) (.m (.i k y))=some (.m (.i k (wr k (Int.ofNat (Nat.land (Gr k x) (Gr k y)))))):=by simp[Ez,arX,vi]
@[simp] theorem loud_bxs (c:Bt)(M:Mem)(ty u n:Nat)(x:V):An c M (.bxs ty u n) [x]=(AA x).bind fun cs=>gd (Nat.beq cs.length (n*u)&&Nat.ble 1 u&&Nat.ble 1 n&&Nat.ble n 9223372036854775807) (some (.pt M.H.length n 0 0,{ M with H:=M.H++[.cs ty u (Ct u n cs) 0 false] })):=rfl
@[simp] theorem loud_als (c:Bt)(M:Mem)(ty u n:Nat)(z:List V):An c M (.als ty u n z) []=gd (Nat.beq z.length (n*u)&&Nat.ble 1 u&&Nat.ble 1 n&&Nat.ble n 9223372036854775807) (some (.pt M.H.length n 0 0,{ M with H:=M.H++[.cs ty u (Ct u n z) 0 false] })):=rfl
@[simp] theorem Abl (n u r ver ix o:Nat)(i:V):Ar (.ixaA n u) [.pt r ver ix o,i]=(idx n i).bind fun j=>some (.pt r ver ix (o+j*u)):=rfl
@[simp] theorem Abf (M:Mem)(n u r ver:Nat)(z hi mx:Bool)(vs:List V):readX M (.slcA n u z hi mx) (.pt r ver 0 0::vs)=(nth M.H r).bind fun row=>match row with
      | .cs _ esz' es _ _=>gd (Nat.beq u esz'&&Nat.beq es.length n&&Nat.beq ver n) ((KH n z hi mx vs).bind fun p=>some (.sl r ver u p.1 (p.2-p.1) (mx||Nat.beq p.2 n)))
      | _=>none:=rfl
@[simp] theorem AeA (M:Mem)(u r ver ix off:Nat):readA M u (.pt r ver ix off)=(nth M.H r).bind fun row=>match row with
    | .cs _ esz es base _=>gd (Nat.ble base ver&&(Nat.ble (off+u) esz||Nat.beq ver es.length)) (CZ esz es ix off u)
    | _=>none:=rfl
@[simp] theorem nat_ble (a b:Nat):Nat.ble a b=decide (a<=b):=Bg a b
@[simp] theorem chunk_0 (e:Nat)(l:List α):Ct e 0 l=[]:=rfl
@[simp] theorem chunk_s (e n:Nat)(l:List α):Ct e (n+1) l=l.take e::Ct e n (l.drop e):=rfl
@[simp] theorem Pz:∀(E:Env) (n:Nat) (x:V),Cd (CR E n x) n=some x
  | [],n,x=>by simp
  | (k,y)::r,n,x=>by
    rw[HY]
    by_cases z:n<k
    · rw[Ahv z];simp
    · rw[Aht z]
      by_cases u:k=n
      · rw[Ahv u];simp
      · rw[Aht u,CL,Aht u,Pz r n x]
@[simp] theorem Xu:∀(B:LE) (n:Nat) (x:List V),getB (Ep B n x) n=some x
  | [],n,x=>by simp
  | (k,y)::r,n,x=>by
    rw[EE]
    by_cases u:k=n
    · rw[Ahv u];simp
    · rw[Aht u]
      by_cases z:n<k
      · rw[Ahv z];simp
      · rw[Aht z,DW,Aht u,Xu r n x]
@[simp] theorem WK:∀(B:LE) (n:Nat) (x y:List V),Ep (Ep B n x) n y=Ep B n y
  | [],n,x,y=>by simp
  | (k,z)::r,n,x,y=>by
    rw[EE,EE]
    by_cases u:k=n
    · rw[Ahv u,Ahv u];simp
    · rw[Aht u,Aht u]
      by_cases E:n<k
      · rw[Ahv E,Ahv E];simp
      · rw[Aht E,Aht E,EE,Aht u,Aht E,WK r n x y]
@[simp] theorem Is:∀(E:Env) (m n:Nat) (x:V),m≠n->Cd (CR E m x) n=Cd E n
  | [],m,n,x,h=>by simp[h]
  | (k,y)::r,m,n,x,h=>by
    rw[HY]
    by_cases z:m<k
    · rw[Ahv z,CL,Aht h]
    · rw[Aht z]
      by_cases u:k=m
      · subst u
        rw[Ahv rfl,CL,CL,Aht h,Aht h]
      · rw[Aht u,CL,CL,Is r m n x h]
@[simp] theorem AdO (l:List V):Dx 0 l=some []:=rfl
@[simp] theorem AdP (n:Nat)(x:V)(r:List V):Dx (n+1) (x::r)=(Dx n r).bind fun l=>some (x::l):=by
  unfold Dx
  simp only[List.take_succ_cons,Aib,GQ]
  by_cases h:(r.take n).length=n
  · have:(r.take n).length+1=n+1:=by omega
    simp only[h,decide_true,GK,Ahz]
  · have:¬(r.take n).length+1=n+1:=by omega
    simp only[h,this,decide_false,Xv,Option.bind_none]
@[simp] theorem px_mm (mx:Bool)(k:IntKind)(x:Int)(r:List V):Ar (.mm mx) (.m (.i k x)::r)=mmX mx k x r:=rfl
@[simp] theorem mmX_nil (mx:Bool)(k:IntKind)(x:Int):mmX mx k x []=some (.m (.i k x)):=rfl
theorem AbA (x y:Int):AeQ x y=max x y:=by
  unfold AeQ
  rw[CX]
  by_cases h:x<y
  · simp only[h,decide_true];omega
  · simp only[h,decide_false];omega
theorem Abz (x y:Int):AeP x y=min x y:=by
  unfold AeP
  rw[CX]
  by_cases h:y<x
  · simp only[h,decide_true];omega
  · simp only[h,decide_false];omega
@[simp] theorem mmX_max (k u:IntKind)(x y:Int)(r:List V):mmX true k x (.m (.i u y)::r)=mmX true k (max x y) r:=by rw[<-AbA];rfl
@[simp] theorem mmX_min (k u:IntKind)(x y:Int)(r:List V):mmX false k x (.m (.i u y)::r)=mmX false k (min x y) r:=by rw[<-Abz];rfl
end Go.Mx
namespace Go.Mx
@[simp] theorem loud_mks (c:Bt)(M:Mem)(ty u:Nat)(z:List V)(b:Nat)(a:V)(n:Int):An c M (.mks ty u z b) [a,.m (.i .i64 n)]=(Aby n).bind fun c=>(bnd c a).bind fun n=>gd (Nat.ble (c*b) 281474976710656&&Nat.ble c 9223372036854775807&&Nat.ble 1 u&&Nat.beq z.length u)
      (some (.sl M.H.length n u 0 n (Nat.beq n c),{ M with H:=M.H++[.cs ty u (List.replicate n z) 0 false] })):=by
  cases n <;> rfl
@[simp] theorem AeO (n:Nat):Aby (n:Int)=some n:=rfl
@[simp] theorem readR_10 (es:L0)(ix:Nat):CZ 1 es ix 0 1=(nth es ix).bind fun e=>Dx 1 e:=rfl
@[simp] theorem AdN (M:Mem)(xs:List V)(r ver ix off:Nat):Fp M xs (.pt r ver ix off)=(nth M.H r).bind fun row=>match row with
    | .cs ty esz es _ fz=>gd (!fz&&Nat.beq ver es.length) ((BQ esz es ix off xs).bind fun es'=>(AN M.H r (.cs ty esz es' es.length false)).bind fun H'=>some { M with H:=H' })
    | _=>none:=rfl
@[simp] theorem Co (es:L0)(ix:Nat)(x:V):BQ 1 es ix 0 [x]=(nth es ix).bind fun e=>(FC e 0 [x]).bind fun u=>AN es ix u:=rfl
theorem AB {α:Type}:∀(l:List α) (n:Nat) (x:α),n<l.length->AN l n x=some (l.set n x)
  | [],n,x,h=>by simp at h
  | _::r,0,x,h=>rfl
  | y::r,n+1,x,h=>by
    simp only[Aib]at h
    rw[Rp,AB r n x (by omega)]
    rfl
@[simp] theorem NO:∀(B:LE) (m n:Nat) (x:List V),m≠n->getB (Ep B m x) n=getB B n
  | [],m,n,x,h=>by simp[h]
  | (k,y)::r,m,n,x,h=>by
    rw[EE]
    by_cases u:k=m
    · subst u
      rw[Ahv rfl,DW,DW,Aht h,Aht h]
    · rw[Aht u]
      by_cases z:m<k
      · rw[Ahv z,DW,Aht h]
      · rw[Aht z,DW,DW,NO r m n x h]
end Go.Mx
namespace Go.Mx
def Bz (l:List Int):L0:=l.map fun x=>[.m (.i .i64 x)]
def BR (l:List Int):LT:=l.map fun x=>[.i .i64 x]
theorem FX (l:List Int):(Bz l).length=l.length:=by simp[Bz]
theorem Bp (l:List Int):(BR l).length=l.length:=by simp[BR]
theorem Rq (l:List Int)(x:Int):Bz l++[[.m (.i .i64 x)]]=Bz (l++[x]):=by simp[Bz]
theorem Cf {l:List Int}{i:Nat}{x:Int}(h:l[i]? = some x):nth (BR l) i=some [.i .i64 x]:=by
  rw[AL];simp[BR,h]
@[simp] theorem CI (M:Mem)(ty u b:Nat)(es:L0):Bs M ty u b es=gd (Nat.ble (es.length*b) 140737488355328&&Nat.ble 1 u&&es.all fun e=>Nat.beq e.length u&&e.all BL)
    (some (.sl M.H.length es.length u 0 es.length false,{ M with H:=M.H++[.cs ty u es 0 false] })):=rfl
end Go.Mx
namespace Go.Mx
variable {α:Type}
theorem Bj (m:α->Nat){P:α->Prop}(h:∀a,(∀b,m b<m a->P b)->P a):∀a,P a:=fun a=>(measure m).wf.induction a h
def IsSl (y:I)(es:LT):Prop:=y=.sl es\/(y=.nl 4/\es=[])
theorem AX (es:LT):IsSl (.sl es) es:=.inl rfl
theorem AS:IsSl (.nl 4) []:=.inr ⟨rfl,rfl⟩
theorem idx_0 (v:V):idx 0 v=none:=by
  unfold idx
  split
  · rfl
  · rfl
variable {y:I} {es:LT}
theorem IsSl.len (h:IsSl y es):Ar (.len false) [.m y]=some (.m (.i .i64 es.length)):=by
  rcases h with rfl|⟨rfl,rfl⟩ <;> rfl
theorem IsSl.ixa (h:IsSl y es)(u:Nat)(i:V):Ar (.ixa u) [.m y,i]=(idx es.length i).bind fun j=>(nth es j).bind fun e=>gd (Nat.beq e.length u) (some (.m (.pt e))):=by
  rcases h with rfl|⟨rfl,rfl⟩
  · rfl
  · rw[Aic,idx_0];rfl
theorem IsSl.elems (h:IsSl y es)(H:Hp):Mx.elems H (.m y)=some (Bn es):=by
  rcases h with rfl|⟨rfl,rfl⟩ <;> rfl
theorem IsSl.rules (h:IsSl y es):(Ar (.len false) [.m y]=some (.m (.i .i64 es.length)))/\(∀(u:Nat) (i:V),Ar (.ixa u) [.m y,i]=(idx es.length i).bind fun j=>(nth es j).bind fun e=>gd (Nat.beq e.length u) (some (.m (.pt e))))/\(∀H,Mx.elems H (.m y)=some (Bn es)):=⟨h.len,h.ixa,h.elems⟩
def subI (y:I)(a b:Nat):I:=match y with
  | .sl es=>.sl ((es.drop a).take (b-a))
  | z=>z
theorem IsSl.sub (h:IsSl y es)(a b:Nat):IsSl (subI y a b) ((es.drop a).take (b-a)):=by
  rcases h with rfl|⟨rfl,rfl⟩
  · exact .inl rfl
  · exact .inr ⟨rfl,by simp⟩
theorem IsSl.slc (h:IsSl y es){u:Nat}(J:Ws u es=true)(E:Nat.beq u 0=false)(z hi:Bool)(vs:List V):Ar (.slc u z hi false) (.m y::vs)=(KH es.length z hi false vs).bind fun p=>some (.m (subI y p.1 p.2)):=by
  rcases h with rfl|⟨rfl,rfl⟩
  · show gd (eqB false (Nat.beq u 0)) (gd (Ws u es) _)=_
    rw[E,J]
    rfl
  · show gd (eqB false (Nat.beq u 0)) ((KH 0 z hi false vs).bind fun _=>some (V.m (.nl 4)))=_
    rw[E]
    rfl
def canon:Env->Env
  | []=>[]
  | (n,v)::r=>CR (canon r) n v
theorem JB:∀(L:Env) (n:Nat),Cd (canon L) n=Cd L n
  | [],n=>rfl
  | (k,x)::r,n=>by
    simp only[canon]
    by_cases h:k=n
    · subst h;rw[Pz,CL,Ahv rfl]
    · rw[Is _ _ _ _ h,CL,Aht h,JB r n]
theorem Tq (d n:Nat)(x:V)(r:Env)(h:DA d ((n,x)::r)=true):DA d [(n,x)]=true/\DA d r=true:=by
  cases x <;> simp_all [DA]
theorem Kh (d n:Nat)(x:V)(r:Env)(u:DA d [(n,x)]=true)(z:DA d r=true):DA d ((n,x)::r)=true:=by
  cases x <;> simp_all [DA]
theorem LO (d n:Nat)(x:V)(u:DA d [(n,x)]=true):∀(L:Env),DA d L=true->DA d (CR L n x)=true
  | [],_=>u
  | (k,y)::r,h=>by
    obtain⟨E,z⟩:=Tq d k y r h
    rw[HY]
    by_cases a:n<k
    · rw[Ahv a];exact Kh d n x _ u h
    · rw[Aht a]
      by_cases b:k=n
      · rw[Ahv b];exact Kh d n x _ u z
      · rw[Aht b];exact Kh d k y _ E (LO d n x u r z)
theorem GB (d:Nat):∀(L:Env),DA d L=true->DA d (canon L)=true
  | [],_=>rfl
  | (k,x)::r,h=>by
    obtain⟨z,u⟩:=Tq d k x r h
    exact LO d k x z _ (GB d r u)
def nf1 (d:Nat):V->Bool
  | .fa k _=>!Nat.beq k d
  | _=>true
def nf (d:Nat):Env->Bool
  | []=>true
  | (_,x)::r=>nf1 d x&&nf d r
theorem NK (d:Nat):∀(L:Env),nf d L=true->DA d L=true
  | [],_=>rfl
  | (k,x)::r,h=>by
    simp only[nf,Ahs]at h
    refine Kh d k x r ?_ (NK d r h.2)
    have u:=h.1
    cases x <;> simp_all [DA,nf1]
@[simp] theorem nf_nil (d:Nat):nf d []=true:=by simp only[nf]
@[simp] theorem nf_cons (d n:Nat)(x:V)(r:Env):nf d ((n,x)::r)=(nf1 d x&&nf d r):=by simp only[nf]
@[simp] theorem nf1_m (d:Nat)(x:I):nf1 d (.m x)=true:=by simp only[nf1]
@[simp] theorem nf1_fa (d k o:Nat):nf1 d (.fa k o)=decide (k≠d):=by simp only[nf1];rw[Aio];simp
@[simp] theorem nf1_pt (d a b c e:Nat):nf1 d (.pt a b c e)=true:=by simp only[nf1]
@[simp] theorem nf1_ag (d:Nat)(a:List V):nf1 d (.ag a)=true:=by simp only[nf1]
@[simp] theorem nf1_tu (d:Nat)(a:List V):nf1 d (.tu a)=true:=by simp only[nf1]
def cs (s:St):St:={ s with L:=canon s.L }
theorem Iy (s:St):evA (cs s)=evA s:=by
  funext o
  cases o with
  | v n=>rfl
  | l n=>exact JB s.L n
  | k x=>rfl
theorem EC (s:St)(g:Option (Opnd×Bool)):AH (cs s) g=AH s g:=by
  cases g with
  | none=>rfl
  | some g=>rw[HU,HU,Iy]
def ED (s:St)(d:Dst)(x:V):Option St:=match d with
  | .no=>some s
  | .v n=>gd (EG n x) (some { s with E:=CR s.E n x })
  | .l n=>some { s with L:=(n,x)::s.L }
theorem Eh (s:St)(d:Dst)(x:V):(ED s d x).map cs=FM (cs s) d x:=by
  cases d with
  | no=>rfl
  | v n =>
    simp only[ED,FM]
    cases EG n x <;> rfl
  | l n=>rfl
def AI (G:Cfg)(s:Option St)(ops:List Op)(k:K):Prop:=EB G (s.map cs) ops k
def EA (G:Cfg)(f:Nat)(vs:Option (List V))(s:St)(d:Dst)(r:List Op)(k:K):Prop :=
  Di vs fun vs=>Ret G f vs s.M.H fun v H'=>AI G (ED { s with M:={ s.M with H:=H' } } d v) r k
def Ho (G:Cfg)(q:Option Bool)(f:Nat)(az:List Opnd)(s:St)(d:Dst)(r:List Op)(k:K):Prop:=Di q fun q=>if q then EA G f (Ah (evA s) az) s d r k else AI G (ED s d .un) r k
def Wr (G:Cfg)(g:Option V)(vs:Option (List V))(s:St)(d:Dst)(r:List Op)(k:K):Prop:=Di g fun g=>match g with
  | .m (.fn f cap)=>EA G f (vs.map fun l=>l++cap.map .m) s d r k
  | .fn f cap=>EA G f (vs.map fun l=>l++cap) s d r k
  | .yl r0=>EA G yN (vs.map fun l=>.yl r0::l) s d r k
  | _=>False
def OM (G:Cfg)(q:Option Bool)(g:Opnd)(az:List Opnd)(s:St)(d:Dst)(r:List Op)(k:K):Prop:=Di q fun q=>if q then Wr G (evA s g) (Ah (evA s) az) s d r k else AI G (ED s d .un) r k
def HW (s:St)(o:OP)(az:List Opnd)(d:Dst):Option St:=(Ah (evA s) az).bind fun vs=>(Ar o vs).bind fun v=>ED s d v
def HV (s:St)(o:OR)(az:List Opnd)(d:Dst):Option St:=(Ah (evA s) az).bind fun vs=>(readX s.M o vs).bind fun v=>ED s d v
def Cq (s:St)(o:OL)(az:List Opnd)(d:Dst):Option St:=(Ah (evA s) az).bind fun vs=>(An (fun _ _ _=>none) s.M o vs).bind fun p=>ED { s with M:=p.2 } d p.1
theorem DT {β u:Type}(x:Option α)(f:α->Option β)(g:β->u):(x.bind f).map g=x.bind fun a=>(f a).map g:=by cases x <;> rfl
theorem OW (s:St)(o:OP)(az:List Opnd)(d:Dst):(HW s o az d).map cs=SN (cs s) o az d:=by
  simp only[HW,SN,DT,Eh,Iy]
theorem OV (s:St)(o:OR)(az:List Opnd)(d:Dst):(HV s o az d).map cs=stepR (cs s) o az d:=by
  simp only[HV,stepR,DT,Eh,Iy]
  rfl
theorem OX (s:St)(o:OL)(az:List Opnd)(d:Dst)(u:Bu s (.l o)=true):(Cq s o az d).map cs=stepL (cs s) o az d:=by
  have h:Bu (cs s) (.l o)=true:=by
    cases o with
    | alp d z=>exact GB d _ u
    | bxp d z=>exact GB d _ u
    | _=>rfl
  simp only[Cq,stepL,h,GK,DT,Iy]
  congr 1
  funext vs
  show (An _ s.M o vs).bind _=(An _ s.M o vs).bind _
  congr 1
  funext p
  exact Eh { s with M:=p.2 } d p.1
section
variable {G:Cfg}
theorem WW (u:List Op)(E:Env)(M:Mem)(k:K):Run G (.reg u) ⟨E,[],M⟩ k=AI G (some ⟨E,[],M⟩) u k:=Pd u _ k
theorem Tg (s:St)(k:K):AI G (some s) [] k=At' G .nm { s with L:=[] } k:=Pg (cs s) k
theorem Js (u:List Op)(k:K):AI G none u k=False:=Lx u k
theorem Xd (b:Bool)(s:Option St)(u:List Op)(k:K):AI G (gd b s) u k=(b=true/\AI G s u k):=by
  cases b with
  | true=>simp[gd]
  | false=>simp only[gd,Js];simp
theorem Abk (u:BJ G)(d:Dst)(o:OP)(az:List Opnd)(s:St)(r:List Op)(k:K):AI G (some s) (⟨d,.p o,az,none⟩::r) k=AI G (HW s o az d) r k:=by
  unfold AI
  rw[OW]
  exact Zr u d o az (cs s) r k
theorem Abj (u:BJ G)(d:Dst)(o:OR)(az:List Opnd)(s:St)(r:List Op)(k:K):AI G (some s) (⟨d,.r o,az,none⟩::r) k=AI G (HV s o az d) r k:=by
  unfold AI
  rw[OV]
  exact Zq u d o az (cs s) r k
theorem Xb (z:BJ G)(d:Dst)(o:OP)(az:List Opnd)(g:Opnd)(u:Bool)(s:St)(r:List Op)(k:K):
    AI G (some s) (⟨d,.p o,az,some (g,u)⟩::r) k=AI G (Cv (AH s (some (g,u))) (HW s o az d) (ED s d .un)) r k:=by
  unfold AI
  have:∀q a b,(Cv q a b).map cs=Cv q (a.map cs) (b.map cs):=fun q a b=>by
    unfold Cv
    rw[DT]
    congr 1
    funext q
    cases q <;> rfl
  rw[this,OW,Eh,<-EC]
  exact Lz z d o az g u (cs s) r k
theorem Xa (z:BJ G)(d:Dst)(o:OR)(az:List Opnd)(g:Opnd)(u:Bool)(s:St)(r:List Op)(k:K):
    AI G (some s) (⟨d,.r o,az,some (g,u)⟩::r) k=AI G (Cv (AH s (some (g,u))) (HV s o az d) (ED s d .un)) r k:=by
  unfold AI
  have:∀q a b,(Cv q a b).map cs=Cv q (a.map cs) (b.map cs):=fun q a b=>by
    unfold Cv
    rw[DT]
    congr 1
    funext q
    cases q <;> rfl
  rw[this,OV,Eh,<-EC]
  exact Ly z d o az g u (cs s) r k
theorem Ge (f:Nat)(vs:Option (List V))(s:St)(d:Dst)(r:List Op)(k:K):Jk G f vs (cs s) d r k=EA G f vs s d r k:=by
  unfold Jk EA AI
  congr 1
  funext vs
  congr 1
  funext v H'
  rw[Eh]
  rfl
theorem Rv (u:BJ G)(d:Dst)(f:Nat)(az:List Opnd)(s:St)(r:List Op)(k:K):AI G (some s) (⟨d,.l (.cal f),az,none⟩::r) k=EA G f (Ah (evA s) az) s d r k:=by
  rw[<-Ge,<-Iy]
  exact LA u d f az (cs s) r k
theorem NG (z:BJ G)(d:Dst)(f:Nat)(az:List Opnd)(g:Opnd)(u:Bool)(s:St)(r:List Op)(k:K):
    AI G (some s) (⟨d,.l (.cal f),az,some (g,u)⟩::r) k=Ho G (AH s (some (g,u))) f az s d r k:=by
  have h:=Ie z d f az g u (cs s) r k
  have e:Ns G (AH (cs s) (some (g,u))) f az (cs s) d r k=Ho G (AH s (some (g,u))) f az s d r k:=by
    unfold Ns Ho
    rw[EC,Iy]
    congr 1
    funext q
    cases q with
    | true=>simp[Ge]
    | false=>unfold AI;simp[Eh]
  exact h.trans e
theorem NF (u:BJ G)(d:Dst)(o:OL)(az:List Opnd)(s:St)(r:List Op)(k:K)(J:∀f,o ≠ .cal f)(z:o ≠ .cav)(E:Bu s (.l o)=true):AI G (some s) (⟨d,.l o,az,none⟩::r) k=AI G (Cq s o az d) r k:=by
  unfold AI
  rw[OX s o az d E]
  exact LV u d o az (cs s) r k fun c vs=>Pu J z c _ vs
theorem Xc (z:BJ G)(d:Dst)(o:OL)(az:List Opnd)(g:Opnd)(u:Bool)(s:St)(r:List Op)(k:K)(J:∀f,o ≠ .cal f)(E:o ≠ .cav)(N:Bu s (.l o)=true):
    AI G (some s) (⟨d,.l o,az,some (g,u)⟩::r) k=AI G (Cv (AH s (some (g,u))) (Cq s o az d) (ED s d .un)) r k:=by
  unfold AI
  have:∀q a b,(Cv q a b).map cs=Cv q (a.map cs) (b.map cs):=fun q a b=>by
    unfold Cv
    rw[DT]
    congr 1
    funext q
    cases q <;> rfl
  rw[this,OX s o az d N,Eh,<-EC]
  have h:=DQ z d (.l o) az g u (cs s) r k
  refine h.trans ?_
  cases hq:AH (cs s) (some (g,u)) with
  | none=>simp[Cv]
  | some q =>
    cases q with
    | true=>simp[Cv,LV z d o az (cs s) r k fun c vs=>Pu J E c _ vs]
    | false=>simp[Cv]
theorem LB (u:BJ G)(d:Dst)(g:Opnd)(az:List Opnd)(s:St)(r:List Op)(k:K):AI G (some s) (⟨d,.l .cav,g::az,none⟩::r) k=Wr G (evA s g) (Ah (evA s) az) s d r k:=by
  have h:=AeK u d g az (cs s) r k
  refine h.trans ?_
  rw[Iy]
  unfold CavK Wr
  congr 1
  funext gv
  cases gv with
  | m x=>cases x <;> simp[Ge]
  | fn f z=>simp[Ge]
  | yl E=>simp[Ge]
  | _=>rfl
theorem Ru (E:BJ G)(d:Dst)(g:Opnd)(az:List Opnd)(z:Opnd)(u:Bool)(s:St)(r:List Op)(k:K):AI G (some s) (⟨d,.l .cav,g::az,some (z,u)⟩::r) k=OM G (AH s (some (z,u))) g az s d r k:=by
  have h:=DQ E d (.l .cav) (g::az) z u (cs s) r k
  refine h.trans ?_
  unfold OM
  rw[EC]
  congr 1
  funext q
  cases q with
  | true =>
    rw[Ahv rfl,Ahv rfl]
    exact LB E d g az s r k
  | false=>unfold AI;simp[Eh]
theorem XK (u:BJ G){f:Nat}{vs:List V}{s:St}{d:Dst}{r:List Op}{k:K}{v:V}{H':Hp}(h:Gives G f vs s.M.H v H'):EA G f (some vs) s d r k=AI G (ED { s with M:={ s.M with H:=H' } } d v) r k:=by
  unfold EA
  rw[Bi,Aez u h]
theorem Ao (f:Nat)(vs:List V)(s:St)(d:Dst)(r:List Op)(k:K):EA G f (some vs) s d r k=Ret G f vs s.M.H fun v H'=>AI G (ED { s with M:={ s.M with H:=H' } } d v) r k:=by simp[EA,Bi]
@[simp] theorem cavC_m (f:Nat)(cap:List I)(vs:List V)(s:St)(d:Dst)(r:List Op)(k:K):Wr G (some (.m (.fn f cap))) (some vs) s d r k=EA G f (some (vs++cap.map .m)) s d r k:=by simp[Wr]
@[simp] theorem cavC_f (f:Nat)(cap vs:List V)(s:St)(d:Dst)(r:List Op)(k:K):Wr G (some (.fn f cap)) (some vs) s d r k=EA G f (some (vs++cap)) s d r k:=by simp[Wr]
end
attribute [simp] Tg Js Xd
@[simp] theorem Aes (s:St)(o:OP)(az:List Opnd)(d:Dst):HW s o az d=(Ah (evA s) az).bind fun vs=>(Ar o vs).bind fun v=>ED s d v:=rfl
@[simp] theorem Aer (s:St)(o:OR)(az:List Opnd)(d:Dst):HV s o az d=(Ah (evA s) az).bind fun vs=>(readX s.M o vs).bind fun v=>ED s d v:=rfl
@[simp] theorem Aet (s:St)(o:OL)(az:List Opnd)(d:Dst):Cq s o az d=(Ah (evA s) az).bind fun vs=>(An (fun _ _ _=>none) s.M o vs).bind fun p=>ED { s with M:=p.2 } d p.1:=rfl
@[simp] theorem setC_no (s:St)(x:V):ED s .no x=some s:=rfl
@[simp] theorem setC_l (s:St)(n:Nat)(x:V):ED s (.l n) x=some { s with L:=(n,x)::s.L }:=rfl
@[simp] theorem setC_vm (s:St)(n:Nat)(x:I):ED s (.v n) (.m x)=some { s with E:=CR s.E n (.m x) }:=rfl
@[simp] theorem setC_vun (s:St)(n:Nat):ED s (.v n) .un=some { s with E:=CR s.E n .un }:=rfl
@[simp] theorem setC_vls (s:St)(n:Nat)(x:LT):ED s (.v n) (.ls x)=some { s with E:=CR s.E n (.ls x) }:=rfl
@[simp] theorem setC_vsl (s:St)(n a b c d e:Nat)(f:Bool):ED s (.v n) (.sl a b c d e f)=some { s with E:=CR s.E n (.sl a b c d e f) }:=rfl
@[simp] theorem setC_vpt (s:St)(n a b c d:Nat):ED s (.v n) (.pt a b c d)=some { s with E:=CR s.E n (.pt a b c d) }:=rfl
@[simp] theorem setC_vmp (s:St)(n a:Nat):ED s (.v n) (.mp a)=some { s with E:=CR s.E n (.mp a) }:=rfl
@[simp] theorem setC_vag (s:St)(n:Nat)(a:List V):ED s (.v n) (.ag a)=some { s with E:=CR s.E n (.ag a) }:=rfl
@[simp] theorem setC_vfa (s:St)(n:Nat):ED s (.v n) (.fa n 0)=some { s with E:=CR s.E n (.fa n 0) }:=by simp[ED,EG,gd]
def cnd (b:Bool)(p q:Prop):Prop:=match b with
  | true=>p
  | false=>q
@[simp] theorem cnd_true (p q:Prop):cnd true p q=p:=rfl
variable {b:Bool} {p q:Prop}
theorem TR {c:Bool}(h:b=c):cnd b p q=cnd c p q:=by rw[h]
theorem ZH (h:b=true->q=p):q=cnd b p q:=by
  cases b with
  | true=>exact h rfl
  | false=>rfl
variable {r:List Op} {k:K}
theorem NH {G:Cfg}{s t:Option St}(h:s=t):AI G s r k=AI G t r k:=by rw[h]
variable {s:St} {x:Option Bool}
theorem Rl {G:Cfg}{y:Option Bool}{a b:C}(h:x=y):Aaq G x a b s k=Aaq G y a b s k:=by rw[h]
variable {d:Dst}
theorem Oc {G:Cfg}{f:Nat}{x y:Option (List V)}(h:x=y):EA G f x s d r k=EA G f y s d r k:=by rw[h]
theorem RJ {G:Cfg}{g u:Option V}{x y:Option (List V)}(z:g=u)(h:x=y):Wr G g x s d r k=Wr G u y s d r k:=by rw[z,h]
variable {az:List Opnd}
theorem Mk {G:Cfg}{y:Option Bool}{f:Nat}(h:x=y):Ho G x f az s d r k=Ho G y f az s d r k:=by rw[h]
theorem NP {G:Cfg}{y:Option Bool}{g:Opnd}(h:x=y):OM G x g az s d r k=OM G y g az s d r k:=by rw[h]
theorem Te {G:Cfg}{c:C}{t:St}(h:s=t):Run G c s k=Run G c t k:=by rw[h]
theorem XQ {G:Cfg}{e:Ex}{t:St}(h:s=t):At' G e s k=At' G e t k:=by rw[h]
theorem Afc {n:Nat}{k:IntKind}{x:Int}(u:0<=x)(z:x<n):idx n (.m (.i k x))=some x.toNat:=by rw[Afd];simp[u,z]
theorem Afs {n:Nat}{k:IntKind}{x:Int}(u:0<=x)(z:x<=n):bnd n (.m (.i k x))=some x.toNat:=by rw[Aft];simp[u,z]
theorem RL {x y:List Nat}(h:x.length+y.length<=9223372036854775807):Ez .add (.m (.s x)) (.m (.s y))=some (.m (.s (x++y))):=by rw[AbY];simp[h]
attribute [simp high] Afc Afs RL
theorem Ai (G:Cfg)(t:Bool)(a b:C)(s:St)(k:K):Aaq G (some t) a b s k=((t=true->Run G a s k)/\(t=false->Run G b s k)):=by cases t <;> simp
theorem Aj (G:Cfg)(c:Bool)(a b:Option St)(r:List Op)(k:K):AI G (Cv (some c) a b) r k=((c=true->AI G a r k)/\(c=false->AI G b r k)):=by cases c <;> simp
theorem Ad (G:Cfg)(c:Bool)(f:Nat)(az:List Opnd)(s:St)(d:Dst)(r:List Op)(k:K):Ho G (some c) f az s d r k=((c=true->EA G f (Ah (evA s) az) s d r k)/\(c=false->AI G (ED s d .un) r k)):=by cases c <;> simp[Ho]
theorem Ak (G:Cfg)(c:Bool)(g:Opnd)(az:List Opnd)(s:St)(d:Dst)(r:List Op)(k:K):OM G (some c) g az s d r k=((c=true->Wr G (evA s g) (Ah (evA s) az) s d r k)/\(c=false->AI G (ED s d .un) r k)):=by cases c <;> simp[OM]
theorem Aav (n:Nat)(h:n<=9223372036854775807):wr .i64 (n:Int)=n:=Aa (by omega) (by omega)
theorem Am {p:List α}{i:Nat}{c:α}(h:p[i]? = some c):i<p.length/\p.drop i=c::p.drop (i+1):=by
  have u:i<p.length:=(Ahq.1 h).1
  exact⟨u,by rw[AiM u,(Ahq.1 h).2]⟩
theorem As {p:List α}{i:Nat}{c:α}(h:p[i]? = some c):p.take (i+1)=p.take i++[c]:=by
  rw[List.take_add_one,h];rfl
end Go.Mx
namespace Go.Mx
variable {α:Type}
theorem Kg {β:Type}{x y:Option α}{f:α->Option β}(h:x=y):x.bind f=y.bind f:=by rw[h]
theorem Ac {p:Prop}[Decidable p](h:p)(x:Option α):gd (decide p) x=x:=by rw[AhA h];rfl
theorem Ab (a b:Bool)(x:Option α):gd (a&&b) x=gd a (gd b x):=by cases a <;> rfl
end Go.Mx
namespace Go.Mx
section
variable {G:Cfg}
@[simp] theorem cavF_fn (f:Nat)(cap:List V):Afr (.fn f cap)=some (f,cap):=rfl
end
end Go.Mx
