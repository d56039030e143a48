/- Walking the machine. Nothing here speaks of a program. -/
import Derived.Test.YtlhjjcaifenlbaaGreatDoorMach
import Derived.Test.YtlhjjcaifenlbaaGreatDoorBa
set_option linter.unusedSimpArgs false
set_option linter.unusedVariables false
set_option linter.unusedSectionVars false
namespace Go.Mx
def LeC (c d:Bt):Prop:=∀f vs H r,c f vs H=some r->d f vs H=some r
variable {α β:Type}
theorem AK {x y:Option α}{f g:α->Option β}{r:β}(z:∀a,x=some a->y=some a)(E:∀a r,f a=some r->g a=some r)(h:x.bind f=some r):y.bind g=some r:=by
  simp only[Ahd]at h ⊢
  obtain⟨a,J,u⟩:=h
  exact⟨a,z a J,E a r u⟩
variable {c d:Bt} {vs:List V}
theorem XF (h:LeC c d){M:Mem}{o:O}{r:V×Mem}(u:evO c M o vs=some r):evO d M o vs=some r:=by
  cases o with
  | p o=>exact u
  | r o=>exact u
  | l o =>
    simp only[evO]at u ⊢
    cases o with
    | cal f =>
      simp only[An]at u ⊢
      exact AK (fun a=>h f vs M.H a) (fun _ _ h=>h) u
    | cav =>
      match vs,u with
      | .fn f cap::xs,u=>simp only[An]at u ⊢;exact AK (fun a=>h f _ M.H a) (fun _ _ h=>h) u
      | .m (.fn f cap)::xs,u=>simp only[An]at u ⊢;exact AK (fun a=>h f _ M.H a) (fun _ _ h=>h) u
      | .yl r::xs,u=>simp only[An]at u ⊢;exact AK (fun a=>h yN _ M.H a) (fun _ _ h=>h) u
      | .m (.b _)::xs,u=>simp[An]at u
      | .m (.i _ _)::xs,u=>simp[An]at u
      | .m (.s _)::xs,u=>simp[An]at u
      | .m (.nl _)::xs,u=>simp[An]at u
      | .m .er::xs,u=>simp[An]at u
      | .m (.sl _)::xs,u=>simp[An]at u
      | .m (.pt _)::xs,u=>simp[An]at u
      | .m (.ag _)::xs,u=>simp[An]at u
      | .m (.mp _)::xs,u=>simp[An]at u
      | .un::xs,u=>simp[An]at u
      | .ls _::xs,u=>simp[An]at u
      | .sl .. :: xs,u=>simp[An]at u
      | .pt .. :: xs,u=>simp[An]at u
      | .fa .. :: xs,u=>simp[An]at u
      | .mp _::xs,u=>simp[An]at u
      | .ag _::xs,u=>simp[An]at u
      | .tu _::xs,u=>simp[An]at u
      | [],u=>simp[An]at u
    | _ =>
      match vs,u with
      | [],u=>exact u
      | [_],u=>exact u
      | [_,_],u=>exact u
      | [_,_,_],u=>exact u
      | _::_::_::_::_,u=>exact u
theorem MC (h:LeC c d){s E:St}{o:Op}(u:Ei c s o=some E):Ei d s o=some E:=by
  simp only[Ei,Ahd]at u ⊢
  obtain⟨q,U,u⟩:=u
  refine⟨q,U,?_⟩
  cases q with
  | true =>
    simp only at u ⊢
    cases hf:Bu s o.op with
    | false=>rw[hf]at u;simp[gd]at u
    | true =>
      rw[hf]at u
      simp only[gd,Ahd]at u ⊢
      obtain⟨vs,z,p,N,J⟩:=u
      exact⟨vs,z,p,XF h N,J⟩
  | false=>exact u
theorem GK {c d:Bt}(h:LeC c d):∀ {u:List Op} {s z:St},BX c u s=some z->BX d u s=some z
  | [],_,_,he=>he
  | o::r,s,z,he=>by
    simp only[BX]at he ⊢
    exact AK (fun a=>MC h) (fun a r=>GK h) he
theorem EU {f g:St->Option (Ex×St)}(h:∀s r,f s=some r->g s=some r):∀ {n m:Nat} {s:St} {r:Ex×St},n<=m->Fj f n s=some r->Fj g m s=some r
  | 0,m,s,r,_,he=>by simp[Fj]at he
  | n+1,0,s,r,hn,_=>by omega
  | n+1,m+1,s,r,hn,he=>by
    simp only[Fj]at he ⊢
    refine AK (fun a=>h s a) (fun a r u=>?_) he
    obtain⟨e,t⟩:=a
    cases e with
    | nm=>exact EU h (by omega) u
    | _=>exact u
variable {n m:Nat}
theorem CX (h:LeC c d)(Z:n<=m):∀ {k:C} {s:St} {r:Ex×St},evC c n k s=some r->evC d m k s=some r:=by
  intro k
  induction k with
  | skip=>exact fun h=>h
  | reg Y =>
    intro s r u
    simp only[evC]at u ⊢
    exact AK (fun a=>GK h) (fun _ _ h=>h) u
  | seq a b J E =>
    intro s r u
    simp only[evC]at u ⊢
    refine AK (fun x=>J) (fun x r z=>?_) u
    obtain⟨e,t⟩:=x
    cases e with
    | nm=>exact E z
    | _=>exact z
  | ite c a b J E =>
    intro s r u
    simp only[evC]at u ⊢
    refine AK (fun _ h=>h) (fun x r z=>?_) u
    split at z
    · exact J z
    · exact E z
    · cases z
  | blk U c N =>
    intro s r u
    simp only[evC]at u ⊢
    exact AK (fun x=>N) (fun _ _ h=>h) u
  | loop dr c N =>
    intro s r u
    simp only[evC]at u ⊢
    exact EU (fun t r=>N) Z u
  | rng f dr ps ca cb _ _ =>
    intro s r u
    simp only[evC]at u ⊢
    exact AK (fun _ h=>h) (fun _ _=>AK (fun _ h=>h) (fun W _=>AK (fun a=>h W.1 _ _ a) (fun _ _ h=>h))) u
  | ex U=>exact fun h=>h
  | ret=>exact fun h=>h
variable {r:V×Hp} {H:Hp}
theorem EX (h:LeC c d)(z:n<=m){f:F}(u:evF c n f vs H=some r):evF d m f vs H=some r:=by
  unfold evF at u ⊢
  cases hg:(vs.all AB&&Nat.beq vs.length f.np) with
  | false=>rw[hg]at u;simp[gd]at u
  | true =>
    rw[hg]at u
    exact AK (fun a=>CX h z) (fun _ _ h=>h) u
theorem RM (h:LeC c d)(z:n<=m){f:F}(u:Eu c n f vs H=some r):Eu d m f vs H=some r:=by
  unfold Eu at u ⊢
  exact AK (fun _ h=>h) (fun a r=>AK (fun b=>EX h z) (fun _ _ h=>h)) u
theorem Fy (h:LeC c d)(z:n<=m)(u:Ep c n vs H=some r):Ep d m vs H=some r:=by
  unfold Ep at u ⊢
  split at u
  · refine AK (fun _ h=>h) (fun row r u=>?_) u
    split at u
    · simp only[Ag]at u ⊢
      refine⟨u.1,AK (fun a=>CX h z) (fun p r u=>?_) u.2⟩
      split at u
      · exact AK (fun _ h=>h) (fun _ _=>AK (fun a=>CX h z) (fun _ _ h=>h)) u
      · cases u
    · cases u
  · cases u
def BJ (G:Cfg):Prop:=∀f p,G.prim f=some p -> ∀c d,LeC c d -> ∀vs H r,p c vs H=some r->p d vs H=some r
theorem Bj {G:Cfg}(z:BJ G):∀ {n m:Nat},n<=m->LeC (BE G n) (BE G m)
  | 0,_,_,f,vs,H,r,h=>by simp[BE]at h
  | n+1,0,hn,_,_,_,_,_=>by omega
  | n+1,m+1,hn,f,vs,H,r,h=>by
    have u:=Bj z (n:=n) (m:=m) (by omega)
    unfold BE at h ⊢
    split at h
    · rename_i p E
      exact z f p E _ _ u vs H r h
    · split at h
      · split at h
        · exact EX u (by omega) h
        · exact RM u (by omega) h
      · simp only[Ag]at h ⊢
        exact⟨h.1,Fy u (by omega) h.2⟩
def Df {α:Type}(x:Option α)(p:α->Prop):Prop:=∃a,x=some a/\p a
theorem Bi (a:α)(p:α->Prop):Df (some a) p=p a:=by simp[Df]
theorem NM (b:Bool)(x:Option α)(p:α->Prop):Df (gd b x) p=(b=true/\Df x p):=by cases b <;> simp[Df,gd]
theorem DQ (x:Option α)(f:α->Option β)(p:β->Prop):Df (x.bind f) p=Df x fun a=>Df (f a) p:=by
  apply propext
  simp only[Df,Ahd]
  constructor
  · rintro⟨b,⟨a,z,u⟩,E⟩
    exact⟨a,z,b,u,E⟩
  · rintro⟨a,z,b,u,E⟩
    exact⟨b,⟨a,z,u⟩,E⟩
def Runs (G:Cfg)(c:C)(s:St)(Q:Ex->St->Prop):Prop:=∃n e s',evC (BE G n) n c s=some (e,s')/\Q e s'
def Hk (G:Cfg)(ops:List Op)(s:St)(Q:St->Prop):Prop:=∃n s',BX (BE G n) ops s=some s'/\Q s'
def Hw (G:Cfg)(o:Op)(s:St)(Q:St->Prop):Prop:=∃n s',Ei (BE G n) s o=some s'/\Q s'
def Ret (G:Cfg)(f:Nat)(vs:List V)(H:Hp)(Q:V->Hp->Prop):Prop:=∃n v H',BE G n f vs H=some (v,H')/\Q v H'
def Gives (G:Cfg)(f:Nat)(vs:List V)(H:Hp)(v:V)(H':Hp):Prop:=∃n,BE G n f vs H=some (v,H')
def thn (A:St->Prop)(Q:Ex->St->Prop):Ex->St->Prop
  | .nm,s=>A s
  | e,s=>Q e s
def inB (id:Nat)(Q:Ex->St->Prop):Ex->St->Prop
  | .ex j,s=>(j=id->Q .nm s)/\(j≠id->Q (.ex j) s)
  | e,s=>Q e s
theorem AeU (u:Nat)(Q:Ex->St->Prop)(s:St)(j:Nat):inB u Q (.ex j) s=if j=u then Q .nm s else Q (.ex j) s:=by
  apply propext
  by_cases h:j=u <;> simp[inB,h]
section
variable {G:Cfg}
variable {c:C}
theorem Runs.mono {s:St}{Q z:Ex->St->Prop}(h:Runs G c s Q)(N:∀e s,Q e s->z e s):Runs G c s z:=by
  obtain⟨n,e,u,J,E⟩:=h
  exact⟨n,e,u,J,N e u E⟩
theorem SZ (s:St)(Q:Ex->St->Prop):Runs G .skip s Q=Q .nm s:=by
  apply propext
  simp only[Runs,evC,Ahe,Ahf]
  constructor
  · rintro⟨_,_,_,⟨rfl,rfl⟩,h⟩
    exact h
  · exact fun h=>⟨0,_,_,⟨rfl,rfl⟩,h⟩
theorem Abb (u:Nat)(s:St)(Q:Ex->St->Prop):Runs G (.ex u) s Q=Q (.ex u) s:=by
  apply propext
  simp only[Runs,evC,Ahe,Ahf]
  constructor
  · rintro⟨_,_,_,⟨rfl,rfl⟩,h⟩
    exact h
  · exact fun h=>⟨0,_,_,⟨rfl,rfl⟩,h⟩
theorem WS (s:St)(Q:Ex->St->Prop):Runs G .ret s Q=Q .ret s:=by
  apply propext
  simp only[Runs,evC,Ahe,Ahf]
  constructor
  · rintro⟨_,_,_,⟨rfl,rfl⟩,h⟩
    exact h
  · exact fun h=>⟨0,_,_,⟨rfl,rfl⟩,h⟩
theorem WT (z:List Op)(s:St)(Q:Ex->St->Prop):Runs G (.reg z) s Q=Hk G z s fun u=>Q .nm { u with L:=[] }:=by
  apply propext
  simp only[Runs,Hk,evC,Ahd,Ahe,Ahf]
  constructor
  · rintro⟨n,_,_,⟨u,h,rfl,rfl⟩,E⟩
    exact⟨n,u,h,E⟩
  · rintro⟨n,u,h,E⟩
    exact⟨n,_,_,⟨u,h,rfl,rfl⟩,E⟩
theorem WR (W:BJ G)(a b:C)(s:St)(Q:Ex->St->Prop):Runs G (.seq a b) s Q=Runs G a s (thn (fun z=>Runs G b z Q) Q):=by
  apply propext
  constructor
  · rintro⟨n,e,z,h,N⟩
    simp only[evC,Ahd]at h
    obtain⟨⟨J,U⟩,E,u⟩:=h
    refine⟨n,J,U,E,?_⟩
    cases J with
    | nm=>exact⟨n,e,z,u,N⟩
    | _ =>
      simp only[Ahe,Ahf]at u
      obtain⟨rfl,rfl⟩:=u
      exact N
  · rintro⟨n,J,U,E,u⟩
    cases J with
    | nm =>
      obtain⟨m,e,z,Y,N⟩:=u
      refine⟨max n m,e,z,?_,N⟩
      simp only[evC,Ahd]
      exact⟨_,CX (Bj W (Nat.le_max_left n m)) (Nat.le_max_left n m) E,CX (Bj W (Nat.le_max_right n m)) (Nat.le_max_right n m) Y⟩
    | ex j=>exact⟨n,.ex j,U,by simp[evC,E],u⟩
    | ret=>exact⟨n,.ret,U,by simp[evC,E],u⟩
def asB:V->Option Bool
  | .m (.b t)=>some t
  | _=>none
theorem WU (o:Opnd)(a b:C)(s:St)(Q:Ex->St->Prop):Runs G (.ite o a b) s Q=Df ((evA s o).bind asB) fun t=>if t then Runs G a s Q else Runs G b s Q:=by
  apply propext
  constructor
  · rintro⟨n,e,z,h,E⟩
    simp only[evC,Ahd]at h
    obtain⟨v,J,h⟩:=h
    split at h
    · exact⟨true,by simp[J,asB],n,e,z,h,E⟩
    · exact⟨false,by simp[J,asB],n,e,z,h,E⟩
    · cases h
  · rintro⟨t,u,h⟩
    simp only[Ahd]at u
    obtain⟨v,J,u⟩:=u
    have:v=.m (.b t):=by
      unfold asB at u
      split at u
      · rw[Ahe]at u;rw[u]
      · cases u
    subst this
    cases t with
    | true =>
      obtain⟨n,e,z,h,E⟩:=h
      exact⟨n,e,z,by simp[evC,J,h],E⟩
    | false =>
      obtain⟨n,e,z,h,E⟩:=h
      exact⟨n,e,z,by simp[evC,J,h],E⟩
theorem WV (U:Nat)(c:C)(s:St)(Q:Ex->St->Prop):Runs G (.blk U c) s Q=Runs G c s (inB U Q):=by
  apply propext
  constructor
  · rintro⟨n,e,Z,h,W⟩
    simp only[evC,Ahd]at h
    obtain⟨⟨N,J⟩,E,u⟩:=h
    refine⟨n,N,J,E,?_⟩
    cases N with
    | ex j =>
      simp only at u
      split at u
      · rename_i z
        have:=Ahy z
        simp only[Ahe,Ahf]at u
        obtain⟨rfl,rfl⟩:=u
        exact⟨fun _=>W,fun Y=>absurd this Y⟩
      · rename_i z
        simp only[Ahe,Ahf]at u
        obtain⟨rfl,rfl⟩:=u
        exact⟨fun e=>(by subst e;simp at z),fun _=>W⟩
    | _ =>
      simp only[Ahe,Ahf]at u
      obtain⟨rfl,rfl⟩:=u
      exact W
  · rintro⟨n,N,J,E,u⟩
    cases N with
    | ex j =>
      cases z:Nat.beq j U with
      | true=>exact⟨n,.nm,J,by simp[evC,E,z],u.1 (Ahy z)⟩
      | false=>exact⟨n,.ex j,J,by simp[evC,E,z],u.2 (fun e=>by subst e;simp at z)⟩
    | nm=>exact⟨n,.nm,J,by simp[evC,E],u⟩
    | ret=>exact⟨n,.ret,J,by simp[evC,E],u⟩
theorem Ta (U:BJ G)(Z:List Nat)(c:C)(s:St)(Q:Ex->St->Prop):Runs G (.loop Z c) s Q=Runs G c { s with E:=Av Z s.E } (thn (fun z=>Runs G (.loop Z c) z Q) Q):=by
  apply propext
  constructor
  · rintro⟨n,e,z,h,W⟩
    simp only[evC]at h
    cases n with
    | zero=>simp[Fj]at h
    | succ n =>
      simp only[Fj,Ahd]at h
      obtain⟨⟨N,Y⟩,J,u⟩:=h
      refine⟨n+1,N,Y,J,?_⟩
      cases N with
      | nm=>exact⟨n+1,e,z,by simp only[evC];exact EU (fun _ _ h=>h) (Nat.le_succ n) u,W⟩
      | _ =>
        simp only[Ahe,Ahf]at u
        obtain⟨rfl,rfl⟩:=u
        exact W
  · rintro⟨n,N,Y,J,u⟩
    cases N with
    | nm =>
      obtain⟨m,e,z,h3,W⟩:=u
      have hn:n<=max n m+1:=by omega
      have hm:m<=max n m+1:=by omega
      refine⟨max n m+1,e,z,?_,W⟩
      simp only[evC,Fj,Ahd]
      refine⟨_,CX (Bj U hn) hn J,?_⟩
      simp only[evC]at h3
      exact EU (fun t r=>CX (Bj U hm) hm) (by omega) h3
    | ex j=>exact⟨n+1,.ex j,Y,by simp only[evC,Fj,Ahd];exact⟨_,CX (Bj U (Nat.le_succ n)) (Nat.le_succ n) J,rfl⟩,u⟩
    | ret=>exact⟨n+1,.ret,Y,by simp only[evC,Fj,Ahd];exact⟨_,CX (Bj U (Nat.le_succ n)) (Nat.le_succ n) J,rfl⟩,u⟩
theorem Abl (s:St)(Q:St->Prop):Hk G [] s Q=Q s:=by
  apply propext
  simp only[Hk,BX,Ahe]
  constructor
  · rintro⟨_,_,rfl,h⟩
    exact h
  · exact fun h=>⟨0,_,rfl,h⟩
theorem ES (U:BJ G)(o:Op)(r:List Op)(s:St)(Q:St->Prop):Hk G (o::r) s Q=Hw G o s fun u=>Hk G r u Q:=by
  apply propext
  simp only[Hk,Hw,BX,Ahd]
  constructor
  · rintro⟨n,u,⟨z,J,E⟩,N⟩
    exact⟨n,z,J,n,u,E,N⟩
  · rintro⟨n,z,J,m,u,E,N⟩
    exact⟨max n m,u,⟨z,MC (Bj U (Nat.le_max_left n m)) J,GK (Bj U (Nat.le_max_right n m)) E⟩,N⟩
theorem Abo (d:Dst)(o:OP)(az:List Opnd)(s:St)(Q:St->Prop):Hw G ⟨d,.p o,az,none⟩ s Q=Df (Ah (evA s) az) fun vs=>Df (Aq o vs) fun v=>Df (FJ s d v) Q:=by
  apply propext
  simp only[Hw,Ei,AG,Ahp,Bu,gd,evO,Ahd,Df]
  constructor
  · rintro⟨_,u,⟨vs,E,⟨v,M⟩,⟨W,N,U⟩,z⟩,J⟩
    simp only[Ahe,Ahf]at U
    obtain⟨rfl,rfl⟩:=U
    exact⟨vs,E,_,N,u,z,J⟩
  · rintro⟨vs,E,v,N,u,z,J⟩
    exact⟨0,u,⟨vs,E,(v,s.M),⟨v,N,rfl⟩,z⟩,J⟩
theorem Abn (d:Dst)(o:OR)(az:List Opnd)(s:St)(Q:St->Prop):Hw G ⟨d,.r o,az,none⟩ s Q=Df (Ah (evA s) az) fun vs=>Df (readX s.M o vs) fun v=>Df (FJ s d v) Q:=by
  apply propext
  simp only[Hw,Ei,AG,Ahp,Bu,gd,evO,Ahd,Df]
  constructor
  · rintro⟨_,u,⟨vs,E,⟨v,M⟩,⟨W,N,U⟩,z⟩,J⟩
    simp only[Ahe,Ahf]at U
    obtain⟨rfl,rfl⟩:=U
    exact⟨vs,E,_,N,u,z,J⟩
  · rintro⟨vs,E,v,N,u,z,J⟩
    exact⟨0,u,⟨vs,E,(v,s.M),⟨v,N,rfl⟩,z⟩,J⟩
theorem Abp (d:Dst)(f:Nat)(az:List Opnd)(s:St)(Q:St->Prop):Hw G ⟨d,.l (.cal f),az,none⟩ s Q=Df (Ah (evA s) az) fun vs=>Ret G f vs s.M.H fun v H'=>Df (FJ { s with M:={ s.M with H:=H' } } d v) Q:=by
  apply propext
  simp only[Hw,Ei,AG,Ahp,Bu,gd,evO,An,Ahd,Df,Ret]
  constructor
  · rintro⟨n,u,⟨vs,E,⟨v,M⟩,⟨⟨r,H'⟩,N,U⟩,z⟩,J⟩
    simp only[Ahe,Ahf]at U
    obtain⟨rfl,rfl⟩:=U
    exact⟨vs,E,n,_,_,N,u,z,J⟩
  · rintro⟨vs,E,n,v,H',N,u,z,J⟩
    exact⟨n,u,⟨vs,E,_,⟨_,N,rfl⟩,z⟩,J⟩
theorem Xm (d:Dst)(o:O)(az:List Opnd)(g:Opnd)(u:Bool)(s:St)(Q:St->Prop):Hw G ⟨d,o,az,some (g,u)⟩ s Q=Df (AG s (some (g,u))) fun q=>if q then Hw G ⟨d,o,az,none⟩ s Q else Df (FJ s d .un) Q:=by
  apply propext
  constructor
  · rintro⟨n,z,h,E⟩
    simp only[Ei,Ahd]at h
    obtain⟨b,J,h⟩:=h
    refine⟨b,J,?_⟩
    cases b with
    | true=>exact⟨n,z,by simpa[Ei,AG]using h,E⟩
    | false=>exact⟨z,h,E⟩
  · rintro⟨b,J,h⟩
    cases b with
    | true =>
      obtain⟨n,z,h,E⟩:=h
      exact⟨n,z,by simp only[Ei,J,Ahp];simpa[Ei,AG]using h,E⟩
    | false =>
      obtain⟨z,h,E⟩:=h
      exact⟨0,z,by simp only[Ei,J,Ahp];exact h,E⟩
variable {Q:V->Hp->Prop} {f:Nat} {vs:List V} {H:Hp}
theorem Aet {H':Hp}{v:V}(E:BJ G)(h:Gives G f vs H v H'):Ret G f vs H Q=Q v H':=by
  apply propext
  obtain⟨n,J⟩:=h
  constructor
  · rintro⟨m,W,Y,N,u⟩
    have U:=Bj E (Nat.le_max_left n m) _ _ _ _ J
    have z:=Bj E (Nat.le_max_right n m) _ _ _ _ N
    rw[U]at z
    cases z
    exact u
  · exact fun u=>⟨n,v,H',J,u⟩
theorem Gives.of_ret {H':Hp}{v:V}(h:Ret G f vs H fun z u=>z=v/\u=H'):Gives G f vs H v H':=by
  obtain⟨n,E,u,h,rfl,rfl⟩:=h
  exact⟨n,h⟩
def fin (rs:List Res)(Q:V->Hp->Prop):Ex->St->Prop
  | .ex _,_=>False
  | _,s=>Df (Eg s rs) fun v=>Q v s.M.H
variable {np:Nat} {rs:List Res}
theorem ZF (N:vs.all AB=true)(hl:vs.length=np)(h:Runs G c ⟨Dn 0 vs,[],⟨[],H⟩⟩ (fin rs Q)):
    ∃n v H',evF (BE G n) n ⟨np,rs,c⟩ vs H=some (v,H')/\Q v H':=by
  obtain⟨n,e,E,U,J⟩:=h
  have W:(vs.all AB&&Nat.beq vs.length np)=true:=by rw[N,hl,Nat.beq_refl];rfl
  have u:Df (Eg E rs) (fun v=>Q v E.M.H)->(∀z,e ≠ .ex z) -> ∃n v H',evF (BE G n) n ⟨np,rs,c⟩ vs H=some (v,H')/\Q v H':=by
    rintro⟨v,N,hq⟩ hne
    refine⟨n,v,E.M.H,?_,hq⟩
    simp only[evF,W,gd,U,Ahp]
    cases e with
    | ex z=>exact absurd rfl (hne z)
    | _=>simp[N]
  cases e with
  | ex z=>exact J.elim
  | nm=>exact u J (fun _ h=>by cases h)
  | ret=>exact u J (fun _ h=>by cases h)
theorem Ru (W:BJ G)(z:G.prim f=none)(N:G.fn f=some ⟨np,rs,c⟩)(hs:G.sh f=true)(J:vs.all AB=true)(hl:vs.length=np) 
    (h:Runs G c ⟨Dn 0 vs,[],⟨[],H⟩⟩ (fin rs Q)):Ret G f vs H Q:=by
  obtain⟨n,v,E,u,U⟩:=ZF J hl h
  refine⟨n+1,v,E,?_,U⟩
  simp[BE,z,N,hs,u]
theorem Pi:∀ {vs:List V} {is:List I},BF vs=some is->vs.flatMap Du=[]/\vs.all BO=true/\vs.all AB=true/\vs=is.map .m /\ ∀(n:Nat) H,Ah (view (n+1) H) vs=some is
  | [],is,h=>by simp only[BF,Ahe]at h;subst h;exact⟨rfl,rfl,rfl,rfl,fun _ _=>rfl⟩
  | .m x::r,is,h=>by
    simp only[BF,Ahd,Ahe]at h
    obtain⟨l,hl,rfl⟩:=h
    obtain⟨J,u,N,z,E⟩:=Pi hl
    refine⟨by simp[Du,Fp,J],by simp[BO,CV,u],by simp[AB,N],by simp[z],fun n H=>?_⟩
    simp only[Ah,E n H]
    rfl
  | .un::_,is,h=>by simp[BF]at h
  | .ls _::_,is,h=>by simp[BF]at h
  | .sl .. :: _,is,h=>by simp[BF]at h
  | .pt .. :: _,is,h=>by simp[BF]at h
  | .fa .. :: _,is,h=>by simp[BF]at h
  | .mp _::_,is,h=>by simp[BF]at h
  | .fn .. :: _,is,h=>by simp[BF]at h
  | .ag _::_,is,h=>by simp[BF]at h
  | .tu _::_,is,h=>by simp[BF]at h
theorem Pf {is:List I}(Z:G.prim f=none)(z:G.fn f=some ⟨np,rs,c⟩)(hs:G.sh f=false)(hv:BF vs=some is)(hl:vs.length=np) 
    (h:Runs G c ⟨Dn 0 vs,[],⟨[],[]⟩⟩ (fin rs fun v H'=>Df (viewR H' v) fun r=>Q r H)):Ret G f vs H Q:=by
  obtain⟨E,N,h3,u,Y⟩:=Pi hv
  obtain⟨n,v,H',W,r,U,J⟩:=ZF h3 hl h
  refine⟨n+1,r,H,?_,J⟩
  simp only[BE,Z,z,hs,Ahp,Eu,Y 19 H]
  rw[<-u,W]
  simp only[Ahp,U,E,N,gd]
end
end Go.Mx
namespace Go.Mx
inductive K where
  | fin (rs:List Res) (Q:V->Hp->Prop)
  | pur (rs:List Res) (H:Hp) (Q:V->Hp->Prop)
  | st (Q:Ex->St->Prop)
  | seq (b:C) (k:K)
  | blk (id:Nat) (k:K)
def K.sem (G:Cfg):K->Ex->St->Prop
  | .fin rs Q=>Mx.fin rs Q
  | .pur rs H Q=>Mx.fin rs fun v H'=>Df (viewR H' v) fun r=>Q r H
  | .st Q=>Q
  | .seq b k=>thn (fun s=>Runs G b s (k.sem G)) (k.sem G)
  | .blk id k=>inB id (k.sem G)
def Run (G:Cfg)(c:C)(s:St)(k:K):Prop:=Runs G c s (k.sem G)
def At' (G:Cfg)(e:Ex)(s:St)(k:K):Prop:=k.sem G e s
def Ey (G:Cfg)(s:Option St)(ops:List Op)(k:K):Prop:=Df s fun s=>Hk G ops s fun s'=>k.sem G .nm { s' with L:=[] }
def Aal (G:Cfg)(t:Option Bool)(a b:C)(s:St)(k:K):Prop:=Df t fun t=>if t then Runs G a s (k.sem G) else Runs G b s (k.sem G)
def Jn (G:Cfg)(f:Nat)(vs:Option (List V))(s:St)(d:Dst)(r:List Op)(k:K):Prop :=
  Df vs fun vs=>Ret G f vs s.M.H fun v H'=>Ey G (FJ { s with M:={ s.M with H:=H' } } d v) r k
def SM (s:St)(o:OP)(az:List Opnd)(d:Dst):Option St:=(Ah (evA s) az).bind fun vs=>(Aq o vs).bind fun v=>FJ s d v
def stepR (s:St)(o:OR)(az:List Opnd)(d:Dst):Option St:=(Ah (evA s) az).bind fun vs=>(readX s.M o vs).bind fun v=>FJ s d v
def stepL (s:St)(o:OL)(az:List Opnd)(d:Dst):Option St:=gd (Bu s (.l o)) ((Ah (evA s) az).bind fun vs=>(An (fun _ _ _=>none) s.M o vs).bind fun p=>FJ { s with M:=p.2 } d p.1)
def Cu (q:Option Bool)(a b:Option St):Option St:=q.bind fun q=>match q with
  | true=>a
  | false=>b
section
variable {G:Cfg}
theorem Ue (s:St)(b:C)(k:K):At' G .nm s (.seq b k)=Run G b s k:=rfl
theorem Uf (s:St)(b:C)(k:K)(j:Nat):At' G (.ex j) s (.seq b k)=At' G (.ex j) s k:=rfl
theorem RP (s:St)(b:C)(k:K):At' G .ret s (.seq b k)=At' G .ret s k:=rfl
theorem Ui (s:St)(u:Nat)(k:K):At' G .nm s (.blk u k)=At' G .nm s k:=rfl
theorem RS (s:St)(u:Nat)(k:K):At' G .ret s (.blk u k)=At' G .ret s k:=rfl
theorem Uj (s:St)(u:Nat)(k:K)(j:Nat):At' G (.ex j) s (.blk u k)=if j=u then At' G .nm s k else At' G (.ex j) s k:=AeU u _ s j
theorem at_st (e:Ex)(s:St)(Q:Ex->St->Prop):At' G e s (.st Q)=Q e s:=rfl
theorem Uh (s:St)(rs:List Res)(Q:V->Hp->Prop):At' G .nm s (.fin rs Q)=Df (Eg s rs) fun v=>Q v s.M.H:=rfl
theorem RR (s:St)(rs:List Res)(Q:V->Hp->Prop):At' G .ret s (.fin rs Q)=Df (Eg s rs) fun v=>Q v s.M.H:=rfl
theorem Ug (s:St)(rs:List Res)(H:Hp)(Q:V->Hp->Prop):At' G .nm s (.pur rs H Q)=Df ((Eg s rs).bind (viewR s.M.H)) fun r=>Q r H:=by
  rw[DQ];rfl
theorem RQ (s:St)(rs:List Res)(H:Hp)(Q:V->Hp->Prop):At' G .ret s (.pur rs H Q)=Df ((Eg s rs).bind (viewR s.M.H)) fun r=>Q r H:=by
  rw[DQ];rfl
theorem Tb (s:St)(k:K):Run G .skip s k=At' G .nm s k:=SZ s _
theorem Abc (u:Nat)(s:St)(k:K):Run G (.ex u) s k=At' G (.ex u) s k:=Abb u s _
theorem WX (s:St)(k:K):Run G .ret s k=At' G .ret s k:=WS s _
theorem WW (u:BJ G)(a b:C)(s:St)(k:K):Run G (.seq a b) s k=Run G a s (.seq b k):=WR u a b s _
theorem Pe (u:Nat)(c:C)(s:St)(k:K):Run G (.blk u c) s k=Run G c s (.blk u k):=WV u c s _
theorem Pd (u:List Op)(s:St)(k:K):Run G (.reg u) s k=Ey G (some s) u k:=by
  unfold Run Ey
  rw[Bi]
  exact WT u s _
theorem WZ (o:Opnd)(a b:C)(s:St)(k:K):Run G (.ite o a b) s k=Aal G ((evA s o).bind asB) a b s k:=WU o a b s _
theorem Tc (z:BJ G)(u:List Nat)(c:C)(s:St)(k:K):Run G (.loop u c) s k=Run G c { s with E:=Av u s.E } (.seq (.loop u c) k):=Ta z u c s _
theorem SI (a b:C)(s:St)(k:K):Aal G (some true) a b s k=Run G a s k:=by simp[Aal,Bi,Run]
theorem Rm (a b:C)(s:St)(k:K):Aal G (some false) a b s k=Run G b s k:=by simp[Aal,Bi,Run]
theorem Pg (s:St)(k:K):Ey G (some s) [] k=At' G .nm { s with L:=[] } k:=by
  simp only[Ey,Bi,Abl]
  rfl
theorem LH (u:List Op)(k:K):Ey G none u k=False:=by simp[Ey,Df]
theorem Abd (b:Bool)(s:Option St)(u:List Op)(k:K):Ey G (gd b s) u k=(b=true/\Ey G s u k):=NM b s _
theorem Zs (u:BJ G)(d:Dst)(o:OP)(az:List Opnd)(s:St)(r:List Op)(k:K):Ey G (some s) (⟨d,.p o,az,none⟩::r) k=Ey G (SM s o az d) r k:=by
  simp only[Ey,Bi,ES u,Abo,SM,DQ]
theorem Zr (u:BJ G)(d:Dst)(o:OR)(az:List Opnd)(s:St)(r:List Op)(k:K):Ey G (some s) (⟨d,.r o,az,none⟩::r) k=Ey G (stepR s o az d) r k:=by
  simp only[Ey,Bi,ES u,Abn,stepR,DQ]
theorem LM (u:BJ G)(d:Dst)(f:Nat)(az:List Opnd)(s:St)(r:List Op)(k:K):Ey G (some s) (⟨d,.l (.cal f),az,none⟩::r) k=Jn G f (Ah (evA s) az) s d r k:=by
  simp only[Ey,Bi,ES u,Abp,Jn]
theorem DO (z:BJ G)(d:Dst)(o:O)(az:List Opnd)(g:Opnd)(u:Bool)(s:St)(r:List Op)(k:K):
    Ey G (some s) (⟨d,o,az,some (g,u)⟩::r) k=Df (AG s (some (g,u))) fun q=>if q then Ey G (some s) (⟨d,o,az,none⟩::r) k else Ey G (FJ s d .un) r k:=by
  simp only[Ey,Bi,ES z,Xm]
theorem LL (z:BJ G)(d:Dst)(o:OP)(az:List Opnd)(g:Opnd)(u:Bool)(s:St)(r:List Op)(k:K):
    Ey G (some s) (⟨d,.p o,az,some (g,u)⟩::r) k=Ey G (Cu (AG s (some (g,u))) (SM s o az d) (FJ s d .un)) r k:=by
  rw[DO z]
  cases hq:AG s (some (g,u)) with
  | none=>simp[Df,Cu,Ey]
  | some q=>cases q <;> simp[Bi,Cu,Zs z]
theorem LJ (z:BJ G)(d:Dst)(o:OR)(az:List Opnd)(g:Opnd)(u:Bool)(s:St)(r:List Op)(k:K):
    Ey G (some s) (⟨d,.r o,az,some (g,u)⟩::r) k=Ey G (Cu (AG s (some (g,u))) (stepR s o az d) (FJ s d .un)) r k:=by
  rw[DO z]
  cases hq:AG s (some (g,u)) with
  | none=>simp[Df,Cu,Ey]
  | some q=>cases q <;> simp[Bi,Cu,Zr z]
def Nv (G:Cfg)(q:Option Bool)(f:Nat)(az:List Opnd)(s:St)(d:Dst)(r:List Op)(k:K):Prop:=Df q fun q=>if q then Jn G f (Ah (evA s) az) s d r k else Ey G (FJ s d .un) r k
theorem Ia (z:BJ G)(d:Dst)(f:Nat)(az:List Opnd)(g:Opnd)(u:Bool)(s:St)(r:List Op)(k:K):
    Ey G (some s) (⟨d,.l (.cal f),az,some (g,u)⟩::r) k=Nv G (AG s (some (g,u))) f az s d r k:=by
  rw[DO z]
  simp only[Nv,LM z]
theorem RE (f:Nat)(az:List Opnd)(s:St)(d:Dst)(r:List Op)(k:K):Nv G (some true) f az s d r k=Jn G f (Ah (evA s) az) s d r k:=by simp[Nv,Bi]
theorem NT (f:Nat)(az:List Opnd)(s:St)(d:Dst)(r:List Op)(k:K):Nv G (some false) f az s d r k=Ey G (FJ s d .un) r k:=by simp[Nv,Bi]
theorem Me (W:BJ G)(d:Dst)(o:OL)(az:List Opnd)(s:St)(r:List Op)(k:K)(Y:∀call vs,An call s.M o vs=An (fun _ _ _=>none) s.M o vs):Ey G (some s) (⟨d,.l o,az,none⟩::r) k=Ey G (stepL s o az d) r k:=by
  simp only[Ey,Bi,ES W,stepL,NM,DQ]
  apply propext
  simp only[Hw,Ei,AG,Ahp,evO,Y,Df]
  constructor
  · rintro⟨n,u,h,J⟩
    rw[gd_eq]at h
    obtain⟨z,h⟩:=h
    simp only[Ahd]at h
    obtain⟨vs,E,p,N,U⟩:=h
    exact⟨z,vs,E,p,N,u,U,J⟩
  · rintro⟨z,vs,E,p,N,u,U,J⟩
    refine⟨0,u,?_,J⟩
    rw[gd_eq]
    simp only[Ahd]
    exact⟨z,vs,E,p,N,U⟩
where gd_eq {α:Type} {b:Bool} {x:Option α} {y:α}:(gd b x=some y)=(b=true/\x=some y):=by cases b <;> simp[gd]
theorem Pu {M:Mem}{o:OL}(z:∀f,o ≠ .cal f)(u:o ≠ .cav)(c d:Bt)(vs:List V):An c M o vs=An d M o vs:=by
  cases o with
  | cal f=>exact absurd rfl (z f)
  | cav=>exact absurd rfl u
  | _ =>
    match vs with
    | []=>rfl
    | [_]=>rfl
    | [_,_]=>rfl
    | [_,_,_]=>rfl
    | _::_::_::_::_=>rfl
variable {f np:Nat} {rs:List Res} {c:C} {vs:List V} {is:List I} {H:Hp} {Q:V->Hp->Prop}
theorem Cs (E:G.prim f=none)(z:G.fn f=some ⟨np,rs,c⟩)(hs:G.sh f=false)(u:BF vs=some is)(hl:vs.length=np) 
    (h:Run G c ⟨Dn 0 vs,[],⟨[],[]⟩⟩ (.pur rs H Q)):Ret G f vs H Q:=Pf E z hs u hl h
theorem Ae {v:V}(W:G.prim f=none)(U:G.fn f=some ⟨np,rs,c⟩)(hs:G.sh f=false)(Y:BF vs=some is)(hl:vs.length=np) 
    (h:Run G c ⟨Dn 0 vs,[],⟨[],[]⟩⟩ (.pur rs H fun N _=>N=v)):Gives G f vs H v H:=by
  refine .of_ret (Pf W U hs Y hl (h.mono fun e s z=>?_))
  cases e with
  | ex j=>exact z
  | nm =>
    obtain⟨x,u,r,E,J⟩:=z
    exact⟨x,u,r,E,J,rfl⟩
  | ret =>
    obtain⟨x,u,r,E,J⟩:=z
    exact⟨x,u,r,E,J,rfl⟩
theorem Bg (z:BJ G)(J:G.prim f=none)(E:G.fn f=some ⟨np,rs,c⟩)(hs:G.sh f=true)(u:vs.all AB=true)(hl:vs.length=np) 
    (h:Run G c ⟨Dn 0 vs,[],⟨[],H⟩⟩ (.fin rs Q)):Ret G f vs H Q:=Ru z J E hs u hl h
end
end Go.Mx
namespace Go.Mx
attribute [simp] Bi NM DQ Ue Uf RP Ui RS Uj at_st Uh RR Ug RQ Tb Abc WX Pe Pd WZ SI Rm Pg LH Abd RE NT
@[simp] theorem pickS_t (a b:Option St):Cu (some true) a b=a:=rfl
@[simp] theorem pickS_f (a b:Option St):Cu (some false) a b=b:=rfl
variable {α:Type}
@[simp] theorem AeD (p:α->Prop):Df none p=False:=by simp[Df]
variable {β:Type}
@[simp] theorem AdQ (f:α->Option β):Ah f []=some []:=rfl
@[simp] theorem Abk (f:α->Option β)(a:α)(r:List α):Ah f (a::r)=(f a).bind fun x=>(Ah f r).bind fun l=>some (x::l):=rfl
@[simp] theorem getE_nil (n:Nat):Cf [] n=none:=rfl
@[simp] theorem CI (k:Nat)(x:V)(r:Env)(n:Nat):Cf ((k,x)::r) n=if k=n then some x else Cf r n:=by
  simp only[Cf]
  by_cases h:k=n
  · subst h;simp
  · rw[Ahj h]
    have:Nat.beq k n=false:=by
      cases hb:Nat.beq k n with
      | false=>rfl
      | true=>exact absurd (Ahy hb) h
    rw[this]
@[simp] theorem setE_nil (n:Nat)(x:V):CO [] n x=[(n,x)]:=rfl
@[simp] theorem HV (k:Nat)(y:V)(r:Env)(n:Nat)(x:V):CO ((k,y)::r) n x=if n<k then (n,x)::(k,y)::r else if k=n then (n,x)::r else (k,y)::CO r n x:=by
  simp only[CO]
  by_cases h:n<k
  · rw[Ahl h]
    have:Nat.blt n k=true:=by rw[AiA];exact h
    rw[this]
  · rw[Ahj h]
    have:Nat.blt n k=false:=by
      cases hb:Nat.blt n k with
      | false=>rfl
      | true=>rw[AiA]at hb;exact absurd hb h
    rw[this]
    by_cases e:k=n
    · subst e;simp
    · rw[Ahj e]
      have:Nat.beq k n=false:=by
        cases hb:Nat.beq k n with
        | false=>rfl
        | true=>exact absurd (Ahy hb) e
      rw[this]
@[simp] theorem rmE_nil (n:Nat):rmE [] n=[]:=rfl
@[simp] theorem rmE_cons (k:Nat)(x:V)(r:Env)(n:Nat):rmE ((k,x)::r) n=if k=n then rmE r n else (k,x)::rmE r n:=by
  simp only[rmE]
  by_cases h:k=n
  · subst h;simp
  · rw[Ahj h]
    have:Nat.beq k n=false:=by
      cases hb:Nat.beq k n with
      | false=>rfl
      | true=>exact absurd (Ahy hb) h
    rw[this]
@[simp] theorem Afc (e:Env):Av [] e=e:=rfl
@[simp] theorem AdV (n:Nat)(r:List Nat)(e:Env):Av (n::r) e=Av r (rmE e n):=rfl
@[simp] theorem evA_v (s:St)(n:Nat):evA s (.v n)=Cf s.E n:=rfl
@[simp] theorem evA_l (s:St)(n:Nat):evA s (.l n)=Cf s.L n:=rfl
@[simp] theorem evA_k (s:St)(x:V):evA s (.k x)=some x:=rfl
@[simp] theorem HR (s:St)(a:Opnd)(w:Bool):AG s (some (a,w))=(evA s a).bind fun v=>match v with
    | .m (.b x)=>some (x==w)
    | .un=>some false
    | _=>none:=rfl
@[simp] theorem asB_b (x:Bool):asB (.m (.b x))=some x:=rfl
@[simp] theorem Afb (k:Nat):Dn k []=[]:=rfl
@[simp] theorem AdU (k:Nat)(x:V)(r:List V):Dn k (x::r)=(k,x)::Dn (k+1) r:=rfl
@[simp] theorem resOf_eq (s:St)(rs:List Res):Eg s rs=(Ah (Rz s) rs).bind fun vs=>some (tup vs):=rfl
@[simp] theorem resV_t (s:St)(n:Nat):Rz s (.t n)=(Cf s.E n).bind fun v=>gd (AB v) (some v):=rfl
@[simp] theorem resV_c (s:St)(n u:Nat)(ag:Bool):Rz s (.c n u ag)=(Cf s.E n).bind fun a=>(readA s.M u a).bind fun cs=>DD ag cs:=rfl
@[simp] theorem noFaV_m (x:I):AB (.m x)=true:=rfl
@[simp] theorem noFaV_ls (x:LT):AB (.ls x)=true:=rfl
@[simp] theorem noFaV_sl (a b c d e:Nat)(f:Bool):AB (.sl a b c d e f)=true:=rfl
@[simp] theorem noFaV_mp (a:Nat):AB (.mp a)=true:=rfl
@[simp] theorem noFaV_pt (a b c d:Nat):AB (.pt a b c d)=true:=rfl
@[simp] theorem tup_1 (v:V):tup [v]=v:=rfl
@[simp] theorem tup_0:tup []=.tu []:=rfl
@[simp] theorem tup_2 (u v:V)(r:List V):tup (u::v::r)=.tu (u::v::r):=rfl
@[simp] theorem viewR_m (H:Hp)(x:I):viewR H (.m x)=some (.m x):=rfl
@[simp] theorem viewR_tu (H:Hp)(vs:List V):viewR H (.tu vs)=(Ah (view 20 H) vs).bind fun l=>some (.tu (l.map .m)):=rfl
@[simp] theorem view_m (n:Nat)(H:Hp)(x:I):view (n+1) H (.m x)=some x:=rfl
@[simp] theorem OO (H:Hp)(x:I):view 20 H (.m x)=some x:=rfl
@[simp] theorem Aej (H:Hp)(x:LT):view 20 H (.ls x)=some (.sl x):=rfl
@[simp] theorem allM_nil:BF []=some []:=rfl
@[simp] theorem Afq (x:I)(r:List V):BF (.m x::r)=(BF r).bind fun l=>some (x::l):=rfl
@[simp] theorem px_mv (x:V):Aq .mv [x]=some x:=rfl
@[simp] theorem px_pick (c:Bool)(a b:V):Aq .pick [.m (.b c),a,b]=some (if c then a else b):=by cases c <;> rfl
@[simp] theorem px_un (o:UnOp)(x:V):Aq (.un o) [x]=unX o x:=rfl
@[simp] theorem px_bin (o:BinOp)(x y:V):Aq (.bin o) [x,y]=Ev o x y:=rfl
@[simp] theorem px_eqb (n x y:Bool):Aq (.eqb n) [.m (.b x),.m (.b y)]=some (.m (.b (xor n (x==y)))):=rfl
@[simp] theorem px_eqs (n:Bool)(u:List Nat)(xs ys:List I):Aq (.eqs n u) [.m (.ag xs),.m (.ag ys)]=(Fs u xs ys).bind fun r=>some (.m (.b (xor n r))):=rfl
@[simp] theorem px_eqn (n:Bool)(k:Nat)(x:V):Aq (.eqn n k) [x]=(FC k x).bind fun r=>some (.m (.b (xor n r))):=rfl
@[simp] theorem px_build (z:List V)(p:List (Nat×Nat))(xs:List V):Aq (.build z p) xs=(TJ z p xs).bind fun cs=>some (mkAg cs):=rfl
@[simp] theorem px_cv (k u:IntKind)(n:Int):Aq (.cv k) [.m (.i u n)]=some (.m (.i k (wr k n))):=rfl
@[simp] theorem AeA (o:Nat)(cs:List I):Aq (.fad o) [.m (.pt cs)]=some (.m (.pt (cs.drop o))):=rfl
@[simp] theorem AeB (o d u:Nat):Aq (.fad o) [.fa d u]=some (.fa d (u+o)):=rfl
@[simp] theorem AdP (o r v i u:Nat):Aq (.fad o) [.pt r v i u]=some (.pt r v i (u+o)):=rfl
@[simp] theorem px_ext (j:Nat)(vs:List V):Aq (.ext j) [.tu vs]=nth vs j:=rfl
@[simp] theorem px_mkf (f:Nat)(xs:List V):Aq (.mkf f) xs=gd (xs.all AB) (some (.fn f xs)):=rfl
@[simp] theorem AdK (r v i o:Nat):Aq .nck [.pt r v i o]=some (.pt r v i o):=rfl
@[simp] theorem Aew:Aq (.len false) [.m (.nl 4)]=some (.m (.i .i64 0)):=rfl
@[simp] theorem Aev (es:LT):Aq (.len false) [.m (.sl es)]=some (.m (.i .i64 es.length)):=rfl
@[simp] theorem Aex (es:LT):Aq (.len false) [.ls es]=some (.m (.i .i64 es.length)):=rfl
@[simp] theorem AdL (r v e st n:Nat)(l:Bool):Aq (.len false) [.sl r v e st n l]=some (.m (.i .i64 n)):=rfl
@[simp] theorem KD (k:IntKind):eqK k k=true:=by cases k <;> rfl
@[simp] theorem GI (x:Option α):gd true x=x:=rfl
@[simp] theorem Xy (x:Option α):gd false x=none:=rfl
@[simp] theorem bx_add (k:IntKind)(x y:Int):Ev .add (.m (.i k x)) (.m (.i k y))=some (.m (.i k (wr k (x+y)))):=by simp[Ev,arX,vi]
@[simp] theorem bx_sub (k:IntKind)(x y:Int):Ev .sub (.m (.i k x)) (.m (.i k y))=some (.m (.i k (wr k (x-y)))):=by simp[Ev,arX,vi]
@[simp] theorem bx_mul (k:IntKind)(x y:Int):Ev .mul (.m (.i k x)) (.m (.i k y))=some (.m (.i k (wr k (x*y)))):=by simp[Ev,arX,vi]
theorem Tn (y:Int):(!eqI y 0)=decide (y≠0):=by rw[DW];by_cases h:y=0 <;> simp[h]
@[simp] theorem bx_quo (k:IntKind)(x y:Int):Ev .quo (.m (.i k x)) (.m (.i k y))=gd (decide (y≠0)) (some (.m (.i k (wr k (x.tdiv y))))):=by simp only[Ev,arX,vi,KD,GI,Tn]
@[simp] theorem bx_rem (k:IntKind)(x y:Int):Ev .rem (.m (.i k x)) (.m (.i k y))=gd (decide (y≠0)) (some (.m (.i k (x.tmod y)))):=by simp only[Ev,arX,vi,KD,GI,Tn]
@[simp] theorem bx_eql (k:IntKind)(x y:Int):Ev .eql (.m (.i k x)) (.m (.i k y))=some (.m (.b (decide (x=y)))):=by simp[Ev,arX,vb,DW];rfl
@[simp] theorem bx_neq (k:IntKind)(x y:Int):Ev .neq (.m (.i k x)) (.m (.i k y))=some (.m (.b (decide (x≠y)))):=by simp[Ev,arX,vb,DW];rfl
@[simp] theorem bx_lss (k:IntKind)(x y:Int):Ev .lss (.m (.i k x)) (.m (.i k y))=some (.m (.b (decide (x<y)))):=by simp[Ev,arX,vb,CT]
@[simp] theorem bx_leq (k:IntKind)(x y:Int):Ev .leq (.m (.i k x)) (.m (.i k y))=some (.m (.b (decide (x<=y)))):=by simp[Ev,arX,vb,Hc]
@[simp] theorem bx_gtr (k:IntKind)(x y:Int):Ev .gtr (.m (.i k x)) (.m (.i k y))=some (.m (.b (decide (y<x)))):=by simp[Ev,arX,vb,CT]
@[simp] theorem bx_geq (k:IntKind)(x y:Int):Ev .geq (.m (.i k x)) (.m (.i k y))=some (.m (.b (decide (y<=x)))):=by simp[Ev,arX,vb,Hc]
@[simp] theorem AbT (x y:List Nat):Ev .add (.m (.s x)) (.m (.s y))=gd (decide (x.length+y.length<=9223372036854775807)) (some (.m (.s (x++y)))):=by
  simp only[Ev,stX]
  congr 1
  rw[Aie];simp
@[simp] theorem ux_neg (k:IntKind)(x:Int):unX .neg (.m (.i k x))=some (.m (.i k (wr k (0-x)))):=rfl
@[simp] theorem ux_not (x:Bool):unX .not (.m (.b x))=some (.m (.b (!x))):=rfl
@[simp] theorem nth_zero (x:α)(r:List α):nth (x::r) 0=some x:=rfl
@[simp] theorem Xn (x:α)(r:List α)(n:Nat):nth (x::r) (n+1)=nth r n:=rfl
@[simp] theorem valOf_f (x:V):DD false [x]=some x:=rfl
@[simp] theorem Bb (cs:List V):DD true cs=some (mkAg cs):=rfl
variable {x:Int}
theorem Aa (u:-9223372036854775808<=x)(z:x<=9223372036854775807):wr .i64 x=x:=by
  have:okK .i64 x=true:=(Io _ _ _).2 ⟨by simpa using u,by simpa using z⟩
  unfold wr;rw[this]
theorem J2 (x:Int)(h:-9223372036854775808<=x/\x<=9223372036854775807):wr .i64 x=x:=Aa h.1 h.2
theorem J1 (i:Nat)(h:i<9223372036854775807):wr .i64 ((i:Int)+1)=((i+1:Nat):Int):=Aa (by omega) (by omega)
theorem Dg (u:0<=x)(z:x<=18446744073709551615):wr .u64 x=x:=by
  have:okK .u64 x=true:=(Io _ _ _).2 ⟨by simpa using u,by simpa using z⟩
  unfold wr;rw[this]
theorem FM (u:0<=x)(z:x<=4294967295):wr .u32 x=x:=by
  have:okK .u32 x=true:=(Io _ _ _).2 ⟨by simpa using u,by simpa using z⟩
  unfold wr;rw[this]
theorem Lx (u:0<=x)(z:x<=255):wr .u8 x=x:=by
  have:okK .u8 x=true:=(Io _ _ _).2 ⟨by simpa using u,by simpa using z⟩
  unfold wr;rw[this]
theorem Gr (x:Int):wr .u64 x=x%18446744073709551616:=by
  rw[Gs]
  simp[IntKind.wrap,IntKind.signed,IntKind.bits]
end Go.Mx
namespace Go.Mx
theorem Bh (a b:Nat):Nat.ble a b=decide (a<=b):=by
  rw[Aie];simp
theorem Oj (a b:Nat):Nat.blt a b=decide (a<b):=by
  rw[Aie];simp
theorem GO (a b:Nat):Nat.beq a b=decide (a=b):=by
  rw[Aie];simp
@[simp] theorem stepL_eq (s:St)(o:OL)(az:List Opnd)(d:Dst):stepL s o az d=gd (Bu s (.l o)) ((Ah (evA s) az).bind fun vs=>(An (fun _ _ _=>none) s.M o vs).bind fun p=>FJ { s with M:=p.2 } d p.1):=rfl
@[simp] theorem loud_alp (c:Bt)(M:Mem)(d:Nat)(z:List V):An c M (.alp d z) []=some (.fa d 0,{ M with B:=Eo M.B d z }):=rfl
@[simp] theorem loud_bxp (c:Bt)(M:Mem)(d u:Nat)(x:V):An c M (.bxp d u) [x]=(Ay x).bind fun cs=>gd (Nat.beq cs.length u) (some (.fa d 0,{ M with B:=Eo M.B d cs })):=rfl
@[simp] theorem loud_st (c:Bt)(M:Mem)(u:Nat)(a x:V):An c M (.st u) [a,x]=(Ay x).bind fun cs=>gd (Nat.beq cs.length u&&cs.all BM) ((Fm M cs a).bind fun M'=>some (.un,M')):=rfl
@[simp] theorem loud_str (c:Bt)(M:Mem)(u:Nat)(a x:V):An c M (.str u) [a,x]=gd (AB a) ((Ay x).bind fun cs=>gd (Nat.beq cs.length u&&cs.all BM) ((Fm M cs a).bind fun M'=>some (.un,M'))):=rfl
@[simp] theorem Afk (cs:List I):Ay (.m (.ag cs))=some (cs.map .m):=rfl
@[simp] theorem Afj (cs:List V):Ay (.ag cs)=some cs:=rfl
@[simp] theorem cellsV_b (x:Bool):Ay (.m (.b x))=some [.m (.b x)]:=rfl
@[simp] theorem cellsV_i (k:IntKind)(x:Int):Ay (.m (.i k x))=some [.m (.i k x)]:=rfl
@[simp] theorem Afh (a b c d e:Nat)(f:Bool):Ay (.sl a b c d e f)=some [.sl a b c d e f]:=rfl
@[simp] theorem Afi (a:Nat):Ay (.mp a)=some [.mp a]:=rfl
@[simp] theorem oneV_b (x:Bool):BM (.m (.b x))=true:=rfl
@[simp] theorem oneV_i (k:IntKind)(x:Int):BM (.m (.i k x))=true:=rfl
@[simp] theorem oneV_nl (k:Nat):BM (.m (.nl k))=true:=rfl
@[simp] theorem oneV_sl (a b c d e:Nat)(f:Bool):BM (.sl a b c d e f)=true:=rfl
@[simp] theorem getB_nil (n:Nat):getB [] n=none:=rfl
@[simp] theorem DU (k:Nat)(x:List V)(r:LE)(n:Nat):getB ((k,x)::r) n=if k=n then some x else getB r n:=by
  simp only[getB,GO]
  by_cases h:k=n <;> simp[h]
@[simp] theorem setB_nil (n:Nat)(x:List V):Eo [] n x=[(n,x)]:=rfl
@[simp] theorem EB (k:Nat)(y:List V)(r:LE)(n:Nat)(x:List V):Eo ((k,y)::r) n x=if k=n then (n,x)::r else if n<k then (n,x)::(k,y)::r else (k,y)::Eo r n x:=by
  simp only[Eo,GO,Oj]
  by_cases h:k=n
  · simp[h]
  · by_cases u:n<k <;> simp[h,u]
@[simp] theorem Aei (M:Mem)(xs:List V)(d off:Nat):Fm M xs (.fa d off)=(getB M.B d).bind fun cs=>(Fz cs off xs).bind fun u=>some { M with B:=Eo M.B d u }:=rfl
@[simp] theorem Xj (cs:List V)(off:Nat)(xs:List V):Fz cs off xs=gd (decide (off+xs.length<=cs.length)) (some (cs.take off++xs++cs.drop (off+xs.length))):=by rw[<-Bh];rfl
theorem WD (n:Nat)(l:List V):Dw n l=gd (decide ((l.take n).length=n)) (some (l.take n)):=by rw[<-GO];rfl
@[simp] theorem readA_fa (M:Mem)(u d off:Nat):readA M u (.fa d off)=(getB M.B d).bind fun cs=>Dw u (cs.drop off):=rfl
@[simp] theorem readA_pt (M:Mem)(u:Nat)(cs:List I):readA M u (.m (.pt cs))=Dw u (cs.map .m):=rfl
@[simp] theorem rx_ld (M:Mem)(ag:Bool)(u:Nat)(a:V):readX M (.ld ag u) [a]=(readA M u a).bind fun cs=>DD ag cs:=rfl
@[simp] theorem Bc (cs:List V):mkAg cs=match BF cs with
  | some l=>.m (.ag l)
  | none=>.ag cs:=rfl
@[simp] theorem fill_nil (cs:List V):TJ cs [] []=some cs:=rfl
@[simp] theorem AeY (cs:List V)(off z:Nat)(ps:List (Nat×Nat))(x:V)(xs:List V):TJ cs ((off,z)::ps) (x::xs)=(Ay x).bind fun l=>gd (Nat.beq l.length z) ((Fz cs off l).bind fun u=>TJ u ps xs):=rfl
@[simp] theorem AdT (u:Nat)(es:L0):BP u es [] []=some es:=rfl
@[simp] theorem AbK (u:Nat)(es:L0)(ix:Nat)(ps:List Nat)(x:V)(xs:List V):BP u es (ix::ps) (x::xs)=(Ay x).bind fun l=>gd (Nat.beq l.length u) ((AO es ix l).bind fun es'=>BP u es' ps xs):=rfl
variable {α:Type}
@[simp] theorem AdJ (y:α)(r:List α)(x:α):AO (y::r) 0 x=some (x::r):=rfl
@[simp] theorem Rr (y:α)(r:List α)(n:Nat)(x:α):AO (y::r) (n+1) x=(AO r n x).bind fun l=>some (y::l):=rfl
@[simp] theorem px_bsl (u:Nat)(z:List V)(n:Nat)(p:List Nat)(xs:List V):Aq (.bsl u z n p) xs=(BP u (List.replicate n z) p xs).bind fun es=>(Ah BF es).bind fun l=>some (.ls l):=rfl
@[simp] theorem AeX (n:Nat)(k:IntKind)(x:Int):idx n (.m (.i k x))=gd (decide (0<=x/\x<n)) (some x.toNat):=by
  cases x with
  | ofNat j =>
    show gd (Nat.blt j n) (some j)=_
    rw[Oj]
    congr 1
    simp
  | negSucc j =>
    have:¬(0<=Int.negSucc j/\Int.negSucc j<n):=by omega
    rw[Ahs this];rfl
@[simp] theorem Afn (n:Nat)(k:IntKind)(x:Int):bnd n (.m (.i k x))=gd (decide (0<=x/\x<=n)) (some x.toNat):=by
  cases x with
  | ofNat j =>
    show gd (Nat.ble j n) (some j)=_
    rw[Bh]
    congr 1
    simp
  | negSucc j =>
    have:¬(0<=Int.negSucc j/\Int.negSucc j<=n):=by omega
    rw[Ahs this];rfl
@[simp] theorem Aey (u:Nat)(es:LT)(i:V):Aq (.ixa u) [.m (.sl es),i]=(idx es.length i).bind fun j=>(nth es j).bind fun e=>gd (Nat.beq e.length u) (some (.m (.pt e))):=rfl
@[simp] theorem Aez (u:Nat)(es:LT)(i:V):Aq (.ixa u) [.ls es,i]=(idx es.length i).bind fun j=>(nth es j).bind fun e=>gd (Nat.beq e.length u) (some (.m (.pt e))):=rfl
@[simp] theorem AdM (u r ver e st len:Nat)(lim:Bool)(i:V):Aq (.ixa u) [.sl r ver e st len lim,i]=gd (Nat.beq u e) ((idx len i).bind fun j=>some (.pt r ver (st+j) 0)):=rfl
@[simp] theorem AdO (n u d o:Nat)(i:V):Aq (.ixaA n u) [.fa d o,i]=(idx n i).bind fun j=>some (.fa d (o+j*u)):=rfl
@[simp] theorem AdN (n u:Nat)(cs:List I)(i:V):Aq (.ixaA n u) [.m (.pt cs),i]=(idx n i).bind fun j=>some (.m (.pt (cs.drop (j*u)))):=rfl
@[simp] theorem px_ixs (l:List Nat)(i:V):Aq .ixs [.m (.s l),i]=(idx l.length i).bind fun j=>(nth l j).bind fun c=>some (.m (.i .u8 (c:Int))):=rfl
theorem AL {α:Type}:∀(l:List α) (j:Nat),nth l j=l[j]?
  | [],n=>by cases n <;> rfl
  | _::_,0=>rfl
  | _::r,n+1=>by rw[Xn,AL r n];simp
@[simp] theorem px_slc_s (u hi mx:Bool)(l:List Nat)(vs:List V):Aq (.slc 0 u hi mx) (.m (.s l)::vs)=gd (!mx) ((KK l.length u hi mx vs).bind fun p=>some (.m (.s ((l.drop p.1).take (p.2-p.1))))):=rfl
@[simp] theorem AbU (n:Nat)(a:V):KK n true false false [a]=(bnd n a).bind fun l=>some (l,n):=rfl
@[simp] theorem bnds_ft (n:Nat)(b:V):KK n false true false [b]=(bnd n b).bind fun h=>some (0,h):=rfl
@[simp] theorem bnds_tt (n:Nat)(a b:V):KK n true true false [a,b]=(bnd n b).bind fun h=>(bnd h a).bind fun l=>some (l,h):=rfl
@[simp] theorem nat_beq (a b:Nat):Nat.beq a b=decide (a=b):=GO a b
@[simp] theorem Dz (c:Bt)(M:Mem)(ty u b:Nat)(s x:V):An c M (.app ty u b) [s,x]=match x with
    | .m (.s l)=>EK M ty u b s (l.map fun c:Nat=>[.m (.i .u8 (Int.ofNat c))])
    | x=>(elems M.H x).bind fun xs=>EK M ty u b s xs:=rfl
@[simp] theorem elems_ls (H:Hp)(es:LT):elems H (.ls es)=some (Bn es):=rfl
@[simp] theorem immS_nil:Bn []=[]:=rfl
@[simp] theorem AeV (e:List I)(r:LT):Bn (e::r)=e.map .m::Bn r:=rfl
@[simp] theorem XG:Fs [] [] []=some true:=rfl
@[simp] theorem TM (k:Nat)(u:List Nat)(x y:I)(xs ys:List I):Fs (k::u) (x::xs) (y::ys)=(eqC k x y).bind fun r=>(Fs u xs ys).bind fun rs=>some (r&&rs):=rfl
@[simp] theorem eqC_i (k:IntKind)(x y:Int):eqC 1 (.i k x) (.i k y)=some (decide (x=y)):=by
  simp only[eqC,KD,DW]
  rfl
@[simp] theorem eqC_s (x y:List Nat):eqC 2 (.s x) (.s y)=some (decide (x=y)):=by
  simp only[eqC,Iw]
  rfl
def CavK (G:Cfg)(g:Option V)(vs:Option (List V))(s:St)(d:Dst)(r:List Op)(k:K):Prop:=Df g fun g=>match g with
  | .m (.fn f cap)=>Jn G f (vs.map fun l=>l++cap.map .m) s d r k
  | .fn f cap=>Jn G f (vs.map fun l=>l++cap) s d r k
  | .yl r0=>Jn G yN (vs.map fun l=>.yl r0::l) s d r k
  | _=>False
section
variable {G:Cfg}
theorem AeE (hG:BJ G)(d:Dst)(g:Opnd)(az:List Opnd)(s:St)(r:List Op)(k:K):Ey G (some s) (⟨d,.l .cav,g::az,none⟩::r) k=CavK G (evA s g) (Ah (evA s) az) s d r k:=by
  simp only[Ey,Bi,ES hG,CavK]
  apply propext
  simp only[Hw,Ei,AG,Ahp,Bu,gd,evO,Ah,Ahd,Df,Jn,Ret]
  constructor
  · rintro⟨n,U,⟨vs,⟨gv,hg,E,a0,u⟩,⟨v,M⟩,Y,z⟩,W⟩
    simp only[Ahe]at u
    subst u
    refine⟨gv,hg,?_⟩
    simp only[An]at Y
    split at Y
    · rename_i f Z
      simp only[Ahd,Ahe,Ahf]at Y
      obtain⟨⟨r0,J⟩,N,rfl,rfl⟩:=Y
      exact⟨_,by rw[a0];rfl,n,_,_,N,U,z,W⟩
    · rename_i f Z
      simp only[Ahd,Ahe,Ahf]at Y
      obtain⟨⟨r0,J⟩,N,rfl,rfl⟩:=Y
      exact⟨_,by rw[a0];rfl,n,_,_,N,U,z,W⟩
    · rename_i r0
      simp only[Ahd,Ahe,Ahf]at Y
      obtain⟨⟨u0,J⟩,N,rfl,rfl⟩:=Y
      exact⟨_,by rw[a0];rfl,n,_,_,N,U,z,W⟩
    · cases Y
  · rintro⟨gv,hg,h⟩
    split at h
    · rename_i f Z
      obtain⟨vs,u,n,v,J,N,U,z,W⟩:=h
      cases ha:Ah (evA s) az with
      | none=>rw[ha]at u;cases u
      | some E =>
        rw[ha]at u
        cases u
        refine⟨n,U,⟨_,⟨_,hg,E,rfl,rfl⟩,(v,{ s.M with H:=J }),?_,z⟩,W⟩
        simp only[An,Ahd]
        exact⟨(v,J),N,rfl⟩
    · rename_i f Z
      obtain⟨vs,u,n,v,J,N,U,z,W⟩:=h
      cases ha:Ah (evA s) az with
      | none=>rw[ha]at u;cases u
      | some E =>
        rw[ha]at u
        cases u
        refine⟨n,U,⟨_,⟨_,hg,E,rfl,rfl⟩,(v,{ s.M with H:=J }),?_,z⟩,W⟩
        simp only[An,Ahd]
        exact⟨(v,J),N,rfl⟩
    · rename_i r0
      obtain⟨vs,u,n,v,J,N,U,z,W⟩:=h
      cases ha:Ah (evA s) az with
      | none=>rw[ha]at u;cases u
      | some E =>
        rw[ha]at u
        cases u
        refine⟨n,U,⟨_,⟨_,hg,E,rfl,rfl⟩,(v,{ s.M with H:=J }),?_,z⟩,W⟩
        simp only[An,Ahd]
        exact⟨(v,J),N,rfl⟩
    · exact h.elim
theorem AU {f:Nat}{is:List I}{vs:List V}{H H0:Hp}{v:V}(hp:G.prim f=none)(hs:G.sh f=false)(h:Gives G f (is.map .m) H0 v H0)(hv:Ah (view 20 H) vs=some is) 
    (Z:(vs.flatMap Du=[]/\vs.all BO=true)\/(vs.flatMap Du≠[]/\FD v=true)):Gives G f vs H v H:=by
  obtain⟨n,h⟩:=h
  cases n with
  | zero=>simp[BE]at h
  | succ n =>
    refine⟨n+1,?_⟩
    simp only[BE,hp,hs]at h ⊢
    cases hfn:G.fn f with
    | none =>
      rw[hfn]at h
      simp only[Ag]at h
      obtain⟨_,h⟩:=h
      cases is <;> simp[Ep]at h
    | some fn =>
    rw[hfn]at h
    simp only at h ⊢
    have hm:∀(l:List I),Ah (view 20 H0) (l.map V.m)=some l:=by
      intro l
      induction l with
      | nil=>rfl
      | cons a r Y=>simp only[AhL,Ah,OO,Y];rfl
    have hz:(is.map V.m).flatMap Du=[]:=by
      induction is with
      | nil=>rfl
      | cons a r _=>simp[Du,Fp]
    unfold Eu at h ⊢
    simp only[hm,hz,Ahd]at h
    obtain⟨W,he,⟨v1,H1⟩,E,r,J,u⟩:=h
    cases he
    have N:r=v:=by
      cases hsh:(is.map V.m).all BO with
      | false=>rw[hsh]at u;simp at u
      | true=>rw[hsh]at u;simp at u;exact u
    subst N
    simp only[hv,Ahp,E,J]
    rcases Z with ⟨z,U⟩|⟨z,U⟩
    · rw[z]
      simp[U]
    · cases hl:vs.flatMap Du with
      | nil=>exact absurd hl z
      | cons a b=>simp[U]
end
@[simp] theorem Afp:MI .u64=64:=rfl
@[simp] theorem bx_shr (k u:IntKind)(x y:Int):Ev .shr (.m (.i k x)) (.m (.i u y))=gd (decide (0<=y)) (some (.m (.i k (x / ((2 ^ min y.toNat (MI k):Nat):Int))))):=by
  cases y with
  | ofNat n =>
    have:decide (0<=Int.ofNat n)=true:=by simp
    rw[this,GI,<-Int.fdiv_eq_ediv_of_nonneg _ (Int.natCast_nonneg _)]
    rfl
  | negSucc n=>rfl
@[simp] theorem bx_shl (k u:IntKind)(x y:Int):Ev .shl (.m (.i k x)) (.m (.i u y))=gd (decide (0<=y)) (some (.m (.i k (wr k (x*((2 ^ min y.toNat (MI k):Nat):Int)))))):=by
  cases y with
  | ofNat n =>
    have:decide (0<=Int.ofNat n)=true:=by simp
    rw[this,GI]
    rfl
  | negSucc n=>rfl
theorem ZK (k:IntKind)(x y:Int):Ev .and (.m (.i k x)) (.m (.i k y))=some (.m (.i k (wr k (Int.ofNat (Nat.land (Gp k x) (Gp k y)))))):=by simp[Ev,arX,vi]
@[simp] theorem loud_bxs (c:Bt)(M:Mem)(ty u n:Nat)(x:V):An c M (.bxs ty u n) [x]=(Ay x).bind fun cs=>gd (Nat.beq cs.length (n*u)&&Nat.ble 1 u&&Nat.ble 1 n&&Nat.ble n 9223372036854775807) (some (.pt M.H.length n 0 0,{ M with H:=M.H++[.cs ty u (Ct u n cs) 0 false] })):=rfl
@[simp] theorem loud_als (c:Bt)(M:Mem)(ty u n:Nat)(z:List V):An c M (.als ty u n z) []=gd (Nat.beq z.length (n*u)&&Nat.ble 1 u&&Nat.ble 1 n&&Nat.ble n 9223372036854775807) (some (.pt M.H.length n 0 0,{ M with H:=M.H++[.cs ty u (Ct u n z) 0 false] })):=rfl
@[simp] theorem Abg (n u r ver ix o:Nat)(i:V):Aq (.ixaA n u) [.pt r ver ix o,i]=(idx n i).bind fun j=>some (.pt r ver ix (o+j*u)):=rfl
@[simp] theorem Aba (M:Mem)(n u r ver:Nat)(z hi mx:Bool)(vs:List V):readX M (.slcA n u z hi mx) (.pt r ver 0 0::vs)=(nth M.H r).bind fun row=>match row with
      | .cs _ esz' es _ _=>gd (Nat.beq u esz'&&Nat.beq es.length n&&Nat.beq ver n) ((KK n z hi mx vs).bind fun p=>some (.sl r ver u p.1 (p.2-p.1) (mx||Nat.beq p.2 n)))
      | _=>none:=rfl
@[simp] theorem Aeu (M:Mem)(u r ver ix off:Nat):readA M u (.pt r ver ix off)=(nth M.H r).bind fun row=>match row with
    | .cs _ esz es base _=>gd (Nat.ble base ver&&(Nat.ble (off+u) esz||Nat.beq ver es.length)) (CW esz es ix off u)
    | _=>none:=rfl
@[simp] theorem nat_ble (a b:Nat):Nat.ble a b=decide (a<=b):=Bh a b
@[simp] theorem chunk_0 (e:Nat)(l:List α):Ct e 0 l=[]:=rfl
@[simp] theorem chunk_s (e n:Nat)(l:List α):Ct e (n+1) l=l.take e::Ct e n (l.drop e):=rfl
@[simp] theorem Pz:∀(E:Env) (n:Nat) (x:V),Cf (CO E n x) n=some x
  | [],n,x=>by simp
  | (k,y)::r,n,x=>by
    rw[HV]
    by_cases z:n<k
    · rw[Ahl z];simp
    · rw[Ahj z]
      by_cases u:k=n
      · rw[Ahl u];simp
      · rw[Ahj u,CI,Ahj u,Pz r n x]
@[simp] theorem Xx:∀(B:LE) (n:Nat) (x:List V),getB (Eo B n x) n=some x
  | [],n,x=>by simp
  | (k,y)::r,n,x=>by
    rw[EB]
    by_cases u:k=n
    · rw[Ahl u];simp
    · rw[Ahj u]
      by_cases z:n<k
      · rw[Ahl z];simp
      · rw[Ahj z,DU,Ahj u,Xx r n x]
@[simp] theorem WO:∀(B:LE) (n:Nat) (x y:List V),Eo (Eo B n x) n y=Eo B n y
  | [],n,x,y=>by simp
  | (k,z)::r,n,x,y=>by
    rw[EB,EB]
    by_cases u:k=n
    · rw[Ahl u,Ahl u];simp
    · rw[Ahj u,Ahj u]
      by_cases E:n<k
      · rw[Ahl E,Ahl E];simp
      · rw[Ahj E,Ahj E,EB,Ahj u,Ahj E,WO r n x y]
@[simp] theorem Ip:∀(E:Env) (m n:Nat) (x:V),m≠n->Cf (CO E m x) n=Cf E n
  | [],m,n,x,h=>by simp[h]
  | (k,y)::r,m,n,x,h=>by
    rw[HV]
    by_cases z:m<k
    · rw[Ahl z,CI,Ahj h]
    · rw[Ahj z]
      by_cases u:k=m
      · subst u
        rw[Ahl rfl,CI,CI,Ahj h,Ahj h]
      · rw[Ahj u,CI,CI,Ip r m n x h]
@[simp] theorem AdH (l:List V):Dw 0 l=some []:=rfl
@[simp] theorem AdI (n:Nat)(x:V)(r:List V):Dw (n+1) (x::r)=(Dw n r).bind fun l=>some (x::l):=by
  unfold Dw
  simp only[List.take_succ_cons,AhR,GO]
  by_cases h:(r.take n).length=n
  · have:(r.take n).length+1=n+1:=by omega
    simp only[h,decide_true,GI,Ahp]
  · have:¬(r.take n).length+1=n+1:=by omega
    simp only[h,this,decide_false,Xy,Option.bind_none]
@[simp] theorem px_mm (mx:Bool)(k:IntKind)(x:Int)(r:List V):Aq (.mm mx) (.m (.i k x)::r)=mmX mx k x r:=rfl
@[simp] theorem mmX_nil (mx:Bool)(k:IntKind)(x:Int):mmX mx k x []=some (.m (.i k x)):=rfl
theorem Abv (x y:Int):AeK x y=max x y:=by
  unfold AeK
  rw[CT]
  by_cases h:x<y
  · simp only[h,decide_true];omega
  · simp only[h,decide_false];omega
theorem Abu (x y:Int):AeJ x y=min x y:=by
  unfold AeJ
  rw[CT]
  by_cases h:y<x
  · simp only[h,decide_true];omega
  · simp only[h,decide_false];omega
@[simp] theorem mmX_max (k u:IntKind)(x y:Int)(r:List V):mmX true k x (.m (.i u y)::r)=mmX true k (max x y) r:=by rw[<-Abv];rfl
@[simp] theorem mmX_min (k u:IntKind)(x y:Int)(r:List V):mmX false k x (.m (.i u y)::r)=mmX false k (min x y) r:=by rw[<-Abu];rfl
end Go.Mx
namespace Go.Mx
@[simp] theorem loud_mks (c:Bt)(M:Mem)(ty u:Nat)(z:List V)(b:Nat)(a:V)(n:Int):An c M (.mks ty u z b) [a,.m (.i .i64 n)]=(Abt n).bind fun c=>(bnd c a).bind fun n=>gd (Nat.ble (c*b) 281474976710656&&Nat.ble c 9223372036854775807&&Nat.ble 1 u&&Nat.beq z.length u)
      (some (.sl M.H.length n u 0 n (Nat.beq n c),{ M with H:=M.H++[.cs ty u (List.replicate n z) 0 false] })):=by
  cases n <;> rfl
@[simp] theorem AeI (n:Nat):Abt (n:Int)=some n:=rfl
@[simp] theorem readR_10 (es:L0)(ix:Nat):CW 1 es ix 0 1=(nth es ix).bind fun e=>Dw 1 e:=rfl
@[simp] theorem AdG (M:Mem)(xs:List V)(r ver ix off:Nat):Fm M xs (.pt r ver ix off)=(nth M.H r).bind fun row=>match row with
    | .cs ty esz es _ fz=>gd (!fz&&Nat.beq ver es.length) ((BS esz es ix off xs).bind fun es'=>(AO M.H r (.cs ty esz es' es.length false)).bind fun H'=>some { M with H:=H' })
    | _=>none:=rfl
@[simp] theorem Co (es:L0)(ix:Nat)(x:V):BS 1 es ix 0 [x]=(nth es ix).bind fun e=>(Fz e 0 [x]).bind fun u=>AO es ix u:=rfl
theorem AA {α:Type}:∀(l:List α) (n:Nat) (x:α),n<l.length->AO l n x=some (l.set n x)
  | [],n,x,h=>by simp at h
  | _::r,0,x,h=>rfl
  | y::r,n+1,x,h=>by
    simp only[AhR]at h
    rw[Rr,AA r n x (by omega)]
    rfl
@[simp] theorem NR:∀(B:LE) (m n:Nat) (x:List V),m≠n->getB (Eo B m x) n=getB B n
  | [],m,n,x,h=>by simp[h]
  | (k,y)::r,m,n,x,h=>by
    rw[EB]
    by_cases u:k=m
    · subst u
      rw[Ahl rfl,DU,DU,Ahj h,Ahj h]
    · rw[Ahj u]
      by_cases z:m<k
      · rw[Ahl z,DU,Ahj h]
      · rw[Ahj z,DU,DU,NR r m n x h]
end Go.Mx
namespace Go.Mx
def BA (l:List Int):L0:=l.map fun x=>[.m (.i .i64 x)]
def BT (l:List Int):LT:=l.map fun x=>[.i .i64 x]
theorem FU (l:List Int):(BA l).length=l.length:=by simp[BA]
theorem Bo (l:List Int):(BT l).length=l.length:=by simp[BT]
theorem Rs (l:List Int)(x:Int):BA l++[[.m (.i .i64 x)]]=BA (l++[x]):=by simp[BA]
theorem Cg {l:List Int}{i:Nat}{x:Int}(h:l[i]? = some x):nth (BT l) i=some [.i .i64 x]:=by
  rw[AL];simp[BT,h]
@[simp] theorem Dj (M:Mem)(ty u b:Nat)(es:L0):Bv M ty u b es=gd (Nat.ble (es.length*b) 140737488355328&&Nat.ble 1 u&&es.all fun e=>Nat.beq e.length u&&e.all BM)
    (some (.sl M.H.length es.length u 0 es.length false,{ M with H:=M.H++[.cs ty u es 0 false] })):=rfl
end Go.Mx
namespace Go.Mx
variable {α:Type}
theorem Bl (m:α->Nat){P:α->Prop}(h:∀a,(∀b,m b<m a->P b)->P a):∀a,P a:=fun a=>(measure m).wf.induction a h
def IsSl (y:I)(es:LT):Prop:=y=.sl es\/(y=.nl 4/\es=[])
theorem Bf (es:LT):IsSl (.sl es) es:=.inl rfl
theorem AM:IsSl (.nl 4) []:=.inr ⟨rfl,rfl⟩
theorem idx_0 (v:V):idx 0 v=none:=by
  unfold idx
  split
  · rfl
  · rfl
variable {y:I} {es:LT}
theorem IsSl.len (h:IsSl y es):Aq (.len false) [.m y]=some (.m (.i .i64 es.length)):=by
  rcases h with rfl|⟨rfl,rfl⟩ <;> rfl
theorem IsSl.ixa (h:IsSl y es)(u:Nat)(i:V):Aq (.ixa u) [.m y,i]=(idx es.length i).bind fun j=>(nth es j).bind fun e=>gd (Nat.beq e.length u) (some (.m (.pt e))):=by
  rcases h with rfl|⟨rfl,rfl⟩
  · rfl
  · rw[AhW,idx_0];rfl
theorem IsSl.elems (h:IsSl y es)(H:Hp):Mx.elems H (.m y)=some (Bn es):=by
  rcases h with rfl|⟨rfl,rfl⟩ <;> rfl
theorem IsSl.rules (h:IsSl y es):(Aq (.len false) [.m y]=some (.m (.i .i64 es.length)))/\(∀(u:Nat) (i:V),Aq (.ixa u) [.m y,i]=(idx es.length i).bind fun j=>(nth es j).bind fun e=>gd (Nat.beq e.length u) (some (.m (.pt e))))/\(∀H,Mx.elems H (.m y)=some (Bn es)):=⟨h.len,h.ixa,h.elems⟩
def subI (y:I)(a b:Nat):I:=match y with
  | .sl es=>.sl ((es.drop a).take (b-a))
  | z=>z
theorem IsSl.sub (h:IsSl y es)(a b:Nat):IsSl (subI y a b) ((es.drop a).take (b-a)):=by
  rcases h with rfl|⟨rfl,rfl⟩
  · exact .inl rfl
  · exact .inr ⟨rfl,by simp⟩
theorem IsSl.slc (h:IsSl y es){u:Nat}(J:Ww u es=true)(E:Nat.beq u 0=false)(z hi:Bool)(vs:List V):Aq (.slc u z hi false) (.m y::vs)=(KK es.length z hi false vs).bind fun p=>some (.m (subI y p.1 p.2)):=by
  rcases h with rfl|⟨rfl,rfl⟩
  · show gd (eqB false (Nat.beq u 0)) (gd (Ww u es) _)=_
    rw[E,J]
    rfl
  · show gd (eqB false (Nat.beq u 0)) ((KK 0 z hi false vs).bind fun _=>some (V.m (.nl 4)))=_
    rw[E]
    rfl
def canon:Env->Env
  | []=>[]
  | (n,v)::r=>CO (canon r) n v
theorem JE:∀(L:Env) (n:Nat),Cf (canon L) n=Cf L n
  | [],n=>rfl
  | (k,x)::r,n=>by
    simp only[canon]
    by_cases h:k=n
    · subst h;rw[Pz,CI,Ahl rfl]
    · rw[Ip _ _ _ _ h,CI,Ahj h,JE r n]
theorem Tp (d n:Nat)(x:V)(r:Env)(h:Dy d ((n,x)::r)=true):Dy d [(n,x)]=true/\Dy d r=true:=by
  cases x <;> simp_all [Dy]
theorem Kj (d n:Nat)(x:V)(r:Env)(z:Dy d [(n,x)]=true)(u:Dy d r=true):Dy d ((n,x)::r)=true:=by
  cases x <;> simp_all [Dy]
theorem LZ (d n:Nat)(x:V)(u:Dy d [(n,x)]=true):∀(L:Env),Dy d L=true->Dy d (CO L n x)=true
  | [],_=>u
  | (k,y)::r,h=>by
    obtain⟨E,z⟩:=Tp d k y r h
    rw[HV]
    by_cases a:n<k
    · rw[Ahl a];exact Kj d n x _ u h
    · rw[Ahj a]
      by_cases b:k=n
      · rw[Ahl b];exact Kj d n x _ u z
      · rw[Ahj b];exact Kj d k y _ E (LZ d n x u r z)
theorem Gz (d:Nat):∀(L:Env),Dy d L=true->Dy d (canon L)=true
  | [],_=>rfl
  | (k,x)::r,h=>by
    obtain⟨u,z⟩:=Tp d k x r h
    exact LZ d k x u _ (Gz d r z)
def nf1 (d:Nat):V->Bool
  | .fa k _=>!Nat.beq k d
  | _=>true
def nf (d:Nat):Env->Bool
  | []=>true
  | (_,x)::r=>nf1 d x&&nf d r
theorem NO (d:Nat):∀(L:Env),nf d L=true->Dy d L=true
  | [],_=>rfl
  | (k,x)::r,h=>by
    simp only[nf,Ahi]at h
    refine Kj d k x r ?_ (NO d r h.2)
    have u:=h.1
    cases x <;> simp_all [Dy,nf1]
@[simp] theorem nf_nil (d:Nat):nf d []=true:=by simp only[nf]
@[simp] theorem nf_cons (d n:Nat)(x:V)(r:Env):nf d ((n,x)::r)=(nf1 d x&&nf d r):=by simp only[nf]
@[simp] theorem nf1_m (d:Nat)(x:I):nf1 d (.m x)=true:=by simp only[nf1]
@[simp] theorem nf1_fa (d k o:Nat):nf1 d (.fa k o)=decide (k≠d):=by simp only[nf1];rw[Aie];simp
@[simp] theorem nf1_pt (d a b c e:Nat):nf1 d (.pt a b c e)=true:=by simp only[nf1]
@[simp] theorem nf1_ag (d:Nat)(a:List V):nf1 d (.ag a)=true:=by simp only[nf1]
@[simp] theorem nf1_tu (d:Nat)(a:List V):nf1 d (.tu a)=true:=by simp only[nf1]
def cs (s:St):St:={ s with L:=canon s.L }
theorem Iv (s:St):evA (cs s)=evA s:=by
  funext o
  cases o with
  | v n=>rfl
  | l n=>exact JE s.L n
  | k x=>rfl
theorem Ez (s:St)(g:Option (Opnd×Bool)):AG (cs s) g=AG s g:=by
  cases g with
  | none=>rfl
  | some g=>rw[HR,HR,Iv]
def EA (s:St)(d:Dst)(x:V):Option St:=match d with
  | .no=>some s
  | .v n=>gd (ED n x) (some { s with E:=CO s.E n x })
  | .l n=>some { s with L:=(n,x)::s.L }
theorem Ef (s:St)(d:Dst)(x:V):(EA s d x).map cs=FJ (cs s) d x:=by
  cases d with
  | no=>rfl
  | v n =>
    simp only[EA,FJ]
    cases ED n x <;> rfl
  | l n=>rfl
def AI (G:Cfg)(s:Option St)(ops:List Op)(k:K):Prop:=Ey G (s.map cs) ops k
def Ew (G:Cfg)(f:Nat)(vs:Option (List V))(s:St)(d:Dst)(r:List Op)(k:K):Prop :=
  Df vs fun vs=>Ret G f vs s.M.H fun v H'=>AI G (EA { s with M:={ s.M with H:=H' } } d v) r k
def Hl (G:Cfg)(q:Option Bool)(f:Nat)(az:List Opnd)(s:St)(d:Dst)(r:List Op)(k:K):Prop:=Df q fun q=>if q then Ew G f (Ah (evA s) az) s d r k else AI G (EA s d .un) r k
def Wv (G:Cfg)(g:Option V)(vs:Option (List V))(s:St)(d:Dst)(r:List Op)(k:K):Prop:=Df g fun g=>match g with
  | .m (.fn f cap)=>Ew G f (vs.map fun l=>l++cap.map .m) s d r k
  | .fn f cap=>Ew G f (vs.map fun l=>l++cap) s d r k
  | .yl r0=>Ew G yN (vs.map fun l=>.yl r0::l) s d r k
  | _=>False
def OM (G:Cfg)(q:Option Bool)(g:Opnd)(az:List Opnd)(s:St)(d:Dst)(r:List Op)(k:K):Prop:=Df q fun q=>if q then Wv G (evA s g) (Ah (evA s) az) s d r k else AI G (EA s d .un) r k
def HT (s:St)(o:OP)(az:List Opnd)(d:Dst):Option St:=(Ah (evA s) az).bind fun vs=>(Aq o vs).bind fun v=>EA s d v
def HS (s:St)(o:OR)(az:List Opnd)(d:Dst):Option St:=(Ah (evA s) az).bind fun vs=>(readX s.M o vs).bind fun v=>EA s d v
def Cq (s:St)(o:OL)(az:List Opnd)(d:Dst):Option St:=(Ah (evA s) az).bind fun vs=>(An (fun _ _ _=>none) s.M o vs).bind fun p=>EA { s with M:=p.2 } d p.1
theorem DR {β u:Type}(x:Option α)(f:α->Option β)(g:β->u):(x.bind f).map g=x.bind fun a=>(f a).map g:=by cases x <;> rfl
theorem OW (s:St)(o:OP)(az:List Opnd)(d:Dst):(HT s o az d).map cs=SM (cs s) o az d:=by
  simp only[HT,SM,DR,Ef,Iv]
theorem OV (s:St)(o:OR)(az:List Opnd)(d:Dst):(HS s o az d).map cs=stepR (cs s) o az d:=by
  simp only[HS,stepR,DR,Ef,Iv]
  rfl
theorem OX (s:St)(o:OL)(az:List Opnd)(d:Dst)(u:Bu s (.l o)=true):(Cq s o az d).map cs=stepL (cs s) o az d:=by
  have h:Bu (cs s) (.l o)=true:=by
    cases o with
    | alp d z=>exact Gz d _ u
    | bxp d z=>exact Gz d _ u
    | _=>rfl
  simp only[Cq,stepL,h,GI,DR,Iv]
  congr 1
  funext vs
  show (An _ s.M o vs).bind _=(An _ s.M o vs).bind _
  congr 1
  funext p
  exact Ef { s with M:=p.2 } d p.1
section
variable {G:Cfg}
theorem Xa (u:List Op)(E:Env)(M:Mem)(k:K):Run G (.reg u) ⟨E,[],M⟩ k=AI G (some ⟨E,[],M⟩) u k:=Pd u _ k
theorem Tf (s:St)(k:K):AI G (some s) [] k=At' G .nm { s with L:=[] } k:=Pg (cs s) k
theorem Jv (u:List Op)(k:K):AI G none u k=False:=LH u k
theorem Xh (b:Bool)(s:Option St)(u:List Op)(k:K):AI G (gd b s) u k=(b=true/\AI G s u k):=by
  cases b with
  | true=>simp[gd]
  | false=>simp only[gd,Jv];simp
theorem Abf (u:BJ G)(d:Dst)(o:OP)(az:List Opnd)(s:St)(r:List Op)(k:K):AI G (some s) (⟨d,.p o,az,none⟩::r) k=AI G (HT s o az d) r k:=by
  unfold AI
  rw[OW]
  exact Zs u d o az (cs s) r k
theorem Abe (u:BJ G)(d:Dst)(o:OR)(az:List Opnd)(s:St)(r:List Op)(k:K):AI G (some s) (⟨d,.r o,az,none⟩::r) k=AI G (HS s o az d) r k:=by
  unfold AI
  rw[OV]
  exact Zr u d o az (cs s) r k
theorem Xf (z:BJ G)(d:Dst)(o:OP)(az:List Opnd)(g:Opnd)(u:Bool)(s:St)(r:List Op)(k:K):
    AI G (some s) (⟨d,.p o,az,some (g,u)⟩::r) k=AI G (Cu (AG s (some (g,u))) (HT s o az d) (EA s d .un)) r k:=by
  unfold AI
  have:∀q a b,(Cu q a b).map cs=Cu q (a.map cs) (b.map cs):=fun q a b=>by
    unfold Cu
    rw[DR]
    congr 1
    funext q
    cases q <;> rfl
  rw[this,OW,Ef,<-Ez]
  exact LL z d o az g u (cs s) r k
theorem Xe (z:BJ G)(d:Dst)(o:OR)(az:List Opnd)(g:Opnd)(u:Bool)(s:St)(r:List Op)(k:K):
    AI G (some s) (⟨d,.r o,az,some (g,u)⟩::r) k=AI G (Cu (AG s (some (g,u))) (HS s o az d) (EA s d .un)) r k:=by
  unfold AI
  have:∀q a b,(Cu q a b).map cs=Cu q (a.map cs) (b.map cs):=fun q a b=>by
    unfold Cu
    rw[DR]
    congr 1
    funext q
    cases q <;> rfl
  rw[this,OV,Ef,<-Ez]
  exact LJ z d o az g u (cs s) r k
theorem Gc (f:Nat)(vs:Option (List V))(s:St)(d:Dst)(r:List Op)(k:K):Jn G f vs (cs s) d r k=Ew G f vs s d r k:=by
  unfold Jn Ew AI
  congr 1
  funext vs
  congr 1
  funext v H'
  rw[Ef]
  rfl
theorem Ry (u:BJ G)(d:Dst)(f:Nat)(az:List Opnd)(s:St)(r:List Op)(k:K):AI G (some s) (⟨d,.l (.cal f),az,none⟩::r) k=Ew G f (Ah (evA s) az) s d r k:=by
  rw[<-Gc,<-Iv]
  exact LM u d f az (cs s) r k
theorem NJ (z:BJ G)(d:Dst)(f:Nat)(az:List Opnd)(g:Opnd)(u:Bool)(s:St)(r:List Op)(k:K):
    AI G (some s) (⟨d,.l (.cal f),az,some (g,u)⟩::r) k=Hl G (AG s (some (g,u))) f az s d r k:=by
  have h:=Ia z d f az g u (cs s) r k
  have e:Nv G (AG (cs s) (some (g,u))) f az (cs s) d r k=Hl G (AG s (some (g,u))) f az s d r k:=by
    unfold Nv Hl
    rw[Ez,Iv]
    congr 1
    funext q
    cases q with
    | true=>simp[Gc]
    | false=>unfold AI;simp[Ef]
  exact h.trans e
theorem NI (z:BJ G)(d:Dst)(o:OL)(az:List Opnd)(s:St)(r:List Op)(k:K)(J:∀f,o ≠ .cal f)(u:o ≠ .cav)(E:Bu s (.l o)=true):AI G (some s) (⟨d,.l o,az,none⟩::r) k=AI G (Cq s o az d) r k:=by
  unfold AI
  rw[OX s o az d E]
  exact Me z d o az (cs s) r k fun c vs=>Pu J u c _ vs
theorem Xg (z:BJ G)(d:Dst)(o:OL)(az:List Opnd)(g:Opnd)(u:Bool)(s:St)(r:List Op)(k:K)(J:∀f,o ≠ .cal f)(N:o ≠ .cav)(E:Bu s (.l o)=true):
    AI G (some s) (⟨d,.l o,az,some (g,u)⟩::r) k=AI G (Cu (AG s (some (g,u))) (Cq s o az d) (EA s d .un)) r k:=by
  unfold AI
  have:∀q a b,(Cu q a b).map cs=Cu q (a.map cs) (b.map cs):=fun q a b=>by
    unfold Cu
    rw[DR]
    congr 1
    funext q
    cases q <;> rfl
  rw[this,OX s o az d E,Ef,<-Ez]
  have h:=DO z d (.l o) az g u (cs s) r k
  refine h.trans ?_
  cases hq:AG (cs s) (some (g,u)) with
  | none=>simp[Cu]
  | some q =>
    cases q with
    | true=>simp[Cu,Me z d o az (cs s) r k fun c vs=>Pu J N c _ vs]
    | false=>simp[Cu]
theorem LN (u:BJ G)(d:Dst)(g:Opnd)(az:List Opnd)(s:St)(r:List Op)(k:K):AI G (some s) (⟨d,.l .cav,g::az,none⟩::r) k=Wv G (evA s g) (Ah (evA s) az) s d r k:=by
  have h:=AeE u d g az (cs s) r k
  refine h.trans ?_
  rw[Iv]
  unfold CavK Wv
  congr 1
  funext gv
  cases gv with
  | m x=>cases x <;> simp[Gc]
  | fn f z=>simp[Gc]
  | yl E=>simp[Gc]
  | _=>rfl
theorem Rx (E:BJ G)(d:Dst)(g:Opnd)(az:List Opnd)(z:Opnd)(u:Bool)(s:St)(r:List Op)(k:K):AI G (some s) (⟨d,.l .cav,g::az,some (z,u)⟩::r) k=OM G (AG s (some (z,u))) g az s d r k:=by
  have h:=DO E d (.l .cav) (g::az) z u (cs s) r k
  refine h.trans ?_
  unfold OM
  rw[Ez]
  congr 1
  funext q
  cases q with
  | true =>
    rw[Ahl rfl,Ahl rfl]
    exact LN E d g az s r k
  | false=>unfold AI;simp[Ef]
theorem XN (u:BJ G){f:Nat}{vs:List V}{s:St}{d:Dst}{r:List Op}{k:K}{v:V}{H':Hp}(h:Gives G f vs s.M.H v H'):Ew G f (some vs) s d r k=AI G (EA { s with M:={ s.M with H:=H' } } d v) r k:=by
  unfold Ew
  rw[Bi,Aet u h]
theorem Ao (f:Nat)(vs:List V)(s:St)(d:Dst)(r:List Op)(k:K):Ew G f (some vs) s d r k=Ret G f vs s.M.H fun v H'=>AI G (EA { s with M:={ s.M with H:=H' } } d v) r k:=by simp[Ew,Bi]
@[simp] theorem cavC_m (f:Nat)(cap:List I)(vs:List V)(s:St)(d:Dst)(r:List Op)(k:K):Wv G (some (.m (.fn f cap))) (some vs) s d r k=Ew G f (some (vs++cap.map .m)) s d r k:=by simp[Wv]
@[simp] theorem cavC_f (f:Nat)(cap vs:List V)(s:St)(d:Dst)(r:List Op)(k:K):Wv G (some (.fn f cap)) (some vs) s d r k=Ew G f (some (vs++cap)) s d r k:=by simp[Wv]
end
attribute [simp] Tf Jv Xh
@[simp] theorem Aem (s:St)(o:OP)(az:List Opnd)(d:Dst):HT s o az d=(Ah (evA s) az).bind fun vs=>(Aq o vs).bind fun v=>EA s d v:=rfl
@[simp] theorem Ael (s:St)(o:OR)(az:List Opnd)(d:Dst):HS s o az d=(Ah (evA s) az).bind fun vs=>(readX s.M o vs).bind fun v=>EA s d v:=rfl
@[simp] theorem Aen (s:St)(o:OL)(az:List Opnd)(d:Dst):Cq s o az d=(Ah (evA s) az).bind fun vs=>(An (fun _ _ _=>none) s.M o vs).bind fun p=>EA { s with M:=p.2 } d p.1:=rfl
@[simp] theorem setC_no (s:St)(x:V):EA s .no x=some s:=rfl
@[simp] theorem setC_l (s:St)(n:Nat)(x:V):EA s (.l n) x=some { s with L:=(n,x)::s.L }:=rfl
@[simp] theorem setC_vm (s:St)(n:Nat)(x:I):EA s (.v n) (.m x)=some { s with E:=CO s.E n (.m x) }:=rfl
@[simp] theorem setC_vun (s:St)(n:Nat):EA s (.v n) .un=some { s with E:=CO s.E n .un }:=rfl
@[simp] theorem setC_vls (s:St)(n:Nat)(x:LT):EA s (.v n) (.ls x)=some { s with E:=CO s.E n (.ls x) }:=rfl
@[simp] theorem setC_vsl (s:St)(n a b c d e:Nat)(f:Bool):EA s (.v n) (.sl a b c d e f)=some { s with E:=CO s.E n (.sl a b c d e f) }:=rfl
@[simp] theorem setC_vpt (s:St)(n a b c d:Nat):EA s (.v n) (.pt a b c d)=some { s with E:=CO s.E n (.pt a b c d) }:=rfl
@[simp] theorem setC_vmp (s:St)(n a:Nat):EA s (.v n) (.mp a)=some { s with E:=CO s.E n (.mp a) }:=rfl
@[simp] theorem setC_vag (s:St)(n:Nat)(a:List V):EA s (.v n) (.ag a)=some { s with E:=CO s.E n (.ag a) }:=rfl
@[simp] theorem setC_vfa (s:St)(n:Nat):EA s (.v n) (.fa n 0)=some { s with E:=CO s.E n (.fa n 0) }:=by simp[EA,ED,gd]
def cnd (b:Bool)(p q:Prop):Prop:=match b with
  | true=>p
  | false=>q
@[simp] theorem cnd_true (p q:Prop):cnd true p q=p:=rfl
variable {b:Bool} {p q:Prop}
theorem TQ {c:Bool}(h:b=c):cnd b p q=cnd c p q:=by rw[h]
theorem ZI (h:b=true->q=p):q=cnd b p q:=by
  cases b with
  | true=>exact h rfl
  | false=>rfl
variable {r:List Op} {k:K}
theorem NK {G:Cfg}{s t:Option St}(h:s=t):AI G s r k=AI G t r k:=by rw[h]
variable {s:St} {x:Option Bool}
theorem Rn {G:Cfg}{y:Option Bool}{a b:C}(h:x=y):Aal G x a b s k=Aal G y a b s k:=by rw[h]
variable {d:Dst}
theorem Og {G:Cfg}{f:Nat}{x y:Option (List V)}(h:x=y):Ew G f x s d r k=Ew G f y s d r k:=by rw[h]
theorem RL {G:Cfg}{g u:Option V}{x y:Option (List V)}(z:g=u)(h:x=y):Wv G g x s d r k=Wv G u y s d r k:=by rw[z,h]
variable {az:List Opnd}
theorem Mt {G:Cfg}{y:Option Bool}{f:Nat}(h:x=y):Hl G x f az s d r k=Hl G y f az s d r k:=by rw[h]
theorem NS {G:Cfg}{y:Option Bool}{g:Opnd}(h:x=y):OM G x g az s d r k=OM G y g az s d r k:=by rw[h]
theorem Td {G:Cfg}{c:C}{t:St}(h:s=t):Run G c s k=Run G c t k:=by rw[h]
theorem XT {G:Cfg}{e:Ex}{t:St}(h:s=t):At' G e s k=At' G e t k:=by rw[h]
theorem AeW {n:Nat}{k:IntKind}{x:Int}(z:0<=x)(u:x<n):idx n (.m (.i k x))=some x.toNat:=by rw[AeX];simp[z,u]
theorem Afm {n:Nat}{k:IntKind}{x:Int}(z:0<=x)(u:x<=n):bnd n (.m (.i k x))=some x.toNat:=by rw[Afn];simp[z,u]
theorem RN {x y:List Nat}(h:x.length+y.length<=9223372036854775807):Ev .add (.m (.s x)) (.m (.s y))=some (.m (.s (x++y))):=by rw[AbT];simp[h]
attribute [simp high] AeW Afm RN
theorem Ai (G:Cfg)(t:Bool)(a b:C)(s:St)(k:K):Aal G (some t) a b s k=((t=true->Run G a s k)/\(t=false->Run G b s k)):=by cases t <;> simp
theorem Aj (G:Cfg)(c:Bool)(a b:Option St)(r:List Op)(k:K):AI G (Cu (some c) a b) r k=((c=true->AI G a r k)/\(c=false->AI G b r k)):=by cases c <;> simp
theorem Ad (G:Cfg)(c:Bool)(f:Nat)(az:List Opnd)(s:St)(d:Dst)(r:List Op)(k:K):Hl G (some c) f az s d r k=((c=true->Ew G f (Ah (evA s) az) s d r k)/\(c=false->AI G (EA s d .un) r k)):=by cases c <;> simp[Hl]
theorem Ak (G:Cfg)(c:Bool)(g:Opnd)(az:List Opnd)(s:St)(d:Dst)(r:List Op)(k:K):OM G (some c) g az s d r k=((c=true->Wv G (evA s g) (Ah (evA s) az) s d r k)/\(c=false->AI G (EA s d .un) r k)):=by cases c <;> simp[OM]
theorem Aaq (n:Nat)(h:n<=9223372036854775807):wr .i64 (n:Int)=n:=Aa (by omega) (by omega)
theorem Am {p:List α}{i:Nat}{c:α}(h:p[i]? = some c):i<p.length/\p.drop i=c::p.drop (i+1):=by
  have u:i<p.length:=(Ahg.1 h).1
  exact⟨u,by rw[AiC u,(Ahg.1 h).2]⟩
theorem As {p:List α}{i:Nat}{c:α}(h:p[i]? = some c):p.take (i+1)=p.take i++[c]:=by
  rw[List.take_add_one,h];rfl
end Go.Mx
namespace Go.Mx
variable {α:Type}
theorem Ki {β:Type}{x y:Option α}{f:α->Option β}(h:x=y):x.bind f=y.bind f:=by rw[h]
theorem Ac {p:Prop}[Decidable p](h:p)(x:Option α):gd (decide p) x=x:=by rw[Ahq h];rfl
theorem Ab (a b:Bool)(x:Option α):gd (a&&b) x=gd a (gd b x):=by cases a <;> rfl
end Go.Mx
namespace Go.Mx
section
variable {G:Cfg}
@[simp] theorem cavF_fn (f:Nat)(cap:List V):Afl (.fn f cap)=some (f,cap):=rfl
end
end Go.Mx
