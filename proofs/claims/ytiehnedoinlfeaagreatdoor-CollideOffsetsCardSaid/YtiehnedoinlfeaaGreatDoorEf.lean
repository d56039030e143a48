/- Evaluation in which every number is computed before it is stored. Nothing here speaks of a program. -/
import Derived.Test.YtiehnedoinlfeaaGreatDoorMem
import Derived.Test.YtiehnedoinlfeaaGreatDoorBc
set_option linter.unusedSimpArgs false
set_option linter.unusedVariables false
set_option linter.unusedSectionVars false
namespace Go.Mx
def fN {α:Type}(n:Nat)(k:Nat->α):α:=match Nat.add n 1 with
 | 0=>k 0
 | m+1=>k m
variable {α:Type}
theorem fN_eq (n:Nat)(k:Nat->α):fN n k=k n:=rfl
def fZ {α:Type}(x:Int)(k:Int->α):α:=match x with
 | .ofNat n=>fN n fun n=>k (.ofNat n)
 | .negSucc n=>fN n fun n=>k (.negSucc n)
theorem fZ_eq (x:Int)(k:Int->α):fZ x k=k x:=by cases x <;> rfl
def fB {α:Type}(b:Bool)(k:Bool->α):α:=match b with
 | true=>k true
 | false=>k false
theorem Afg (x:Bool)(k:Bool->α):fB x k=k x:=by cases x <;> rfl
def fI {α:Type}(x:I)(k:I->α):α:=match x with
 | .b b=>fB b fun b=>k (.b b)
 | .i j z=>fZ z fun z=>k (.i j z)
 | x=>k x
theorem fI_eq (x:I)(k:I->α):fI x k=k x:=by cases x <;> simp[fI,Afg,fZ_eq]
def fV {α:Type}(v:V)(k:V->α):α:=match v with
 | .m x=>fI x fun x=>k (.m x)
 | .sl r ver esz st len lim=>fN r fun r=>fN ver fun ver=>fN esz fun esz=>fN st fun st=>fN len fun len=>fB lim fun lim=>k (.sl r ver esz st len lim)
 | .pt r ver ix off=>fN r fun r=>fN ver fun ver=>fN ix fun ix=>fN off fun off=>k (.pt r ver ix off)
 | .fa d off=>fN d fun d=>fN off fun off=>k (.fa d off)
 | .mp r=>fN r fun r=>k (.mp r)
 | v=>k v
theorem Xz (v:V)(k:V->α):fV v k=k v:=by cases v <;> simp[fV,fI_eq,fN_eq,Afg]
def fS {α β:Type}:List α->(List α->β)->β
 | [],k=>k []
 | a::r,k=>fS r fun r'=>k (a::r')
theorem NU {α β:Type}:∀(l:List α) (k:List α->β),fS l k=k l
 | [],_=>rfl
 | a::r,k=>by
  show fS r _=_
  rw[NU r]
def fRow {α:Type}(w:Row)(k:Row->α):α:=match w with
 | .cs ty esz es base fz=>fS es fun es=>k (.cs ty esz es base fz)
 | w=>k w
theorem AbR (w:Row)(k:Row->α):fRow w k=k w:=by cases w <;> simp[fRow,NU]
def fHr {α:Type}:Hp->Nat->(Hp->α)->α
 | [],_,k=>k []
 | w::r,n,k=>match n with
  | 0=>fRow w fun w=>fS r fun r'=>k (w::r')
  | m+1=>fHr r m fun r'=>k (w::r')
theorem ZD {α:Type}:∀(l:Hp) (n:Nat) (k:Hp->α),fHr l n k=k l
 | [],_,_=>rfl
 | w::r,n,k=>by
  unfold fHr
  cases n with
  | zero=>simp only[AbR,NU]
  | succ m=>simp only[ZD r m]
def kE {α:Type}:Env->Nat->V->(Env->α)->α
 | [],n,x,k=>k [(n,x)]
 | e::r,n,x,k=>match e with
  | (j,y)=>match Nat.blt n j with
   | true=>k ((n,x)::(j,y)::r)
   | false=>match Nat.beq j n with
    | true=>k ((n,x)::r)
    | false=>kE r n x fun r'=>k ((j,y)::r')
theorem AbK {α:Type}:∀(l:Env) (n:Nat) (x:V) (k:Env->α),kE l n x k=k (CR l n x)
 | [],_,_,_=>rfl
 | (j,y)::r,n,x,k=>by
  unfold kE CR
  dsimp only
  cases Nat.blt n j with
  | true=>rfl
  | false =>
   dsimp only
   cases Nat.beq j n with
   | true=>rfl
   | false=>simp only[AbK r n x]
def isCl:OL->Bool
 | .cal _=>true
 | .cav=>true
 | _=>false
def fM {α:Type}(op:O)(x:V)(M:Mem)(k:Mem->α):α:=match op with
 | .l o=>match M with
  | ⟨B,H⟩=>match isCl o with
   | true=>k ⟨B,H⟩
   | false=>fS B fun B=>match x with
    | .sl r _ _ _ _ _=>fHr H r fun H=>k ⟨B,H⟩
    | .pt r _ _ _=>fHr H r fun H=>k ⟨B,H⟩
    | _=>k ⟨B,H⟩
 | _=>k M
theorem AbS (op:O)(x:V)(M:Mem)(k:Mem->α):fM op x M k=k M:=by
 cases op with
 | l o =>
  obtain⟨B,H⟩:=M
  show (match isCl o with
   | true=>k ⟨B,H⟩
   | false=>fS B fun B=>match x with
    | .sl r _ _ _ _ _=>fHr H r fun H=>k ⟨B,H⟩
    | .pt r _ _ _=>fHr H r fun H=>k ⟨B,H⟩
    | _=>k ⟨B,H⟩)=_
  cases isCl o with
  | true=>rfl
  | false =>
   rw[NU]
   cases x <;> first|rfl|exact ZD _ _ _
 | _=>rfl
structure Sub (P L:Env):Prop where
 get:∀n,Cd P n=Cd L n
 fa:∀d,DA d P=true->DA d L=true
theorem AaA (L:Env):Sub L L:=⟨fun _=>rfl,fun _ h=>h⟩
theorem Dg (d n:Nat)(x:V)(r:Env):DA d ((n,x)::r)=(DA d [(n,x)]&&DA d r):=by
 cases x <;> simp[DA]
theorem LP (d:Nat):∀(L:Env) (n:Nat) (x:V),DA d [(n,x)]=true->DA d L=true->DA d (CR L n x)=true
 | [],n,x,h,_=>h
 | (k,y)::r,n,x,h,hr=>by
  rw[Dg,Ahs]at hr
  unfold CR
  split
  ·rw[Dg,Dg d k,h,hr.1,hr.2];rfl
  ·split
   ·rw[Dg,h,hr.2];rfl
   ·rw[Dg,hr.1,LP d r n x h hr.2];rfl
variable {P L:Env}
theorem WD (h:Sub P L)(n:Nat)(x:V):Sub ((n,x)::P) (CR L n x):=by
 refine⟨fun m=>?_,fun d u=>?_⟩
 ·rw[Dn]
  show (match Nat.beq n m with
   | true=>some x
   | false=>Cd P m)=_
  by_cases e:m=n
  ·subst e
   rw[Ahv rfl,show Nat.beq m m=true from Nat.beq_refl m]
  ·rw[Aht e]
   cases hb:Nat.beq n m with
   | true=>exact absurd (AhI hb).symm e
   | false=>exact h.get m
 ·rw[Dg,Ahs]at u
  exact LP d L n x u.1 (h.fa d u.2)
variable {E:Env} {M:Mem}
theorem Zn (h:Sub P L)(o:Opnd):evA ⟨E,P,M⟩ o=evA ⟨E,L,M⟩ o:=by
 cases o with
 | l n=>exact h.get n
 | _=>rfl
theorem WC (h:Sub P L)(g:Option (Opnd×Bool)):AH ⟨E,P,M⟩ g=AH ⟨E,L,M⟩ g:=by
 cases g with
 | none=>rfl
 | some q =>
  obtain⟨a,w⟩:=q
  unfold AH
  simp only
  rw[Zn h]
theorem OU {E P L:Env}{M:Mem}(h:Sub P L):∀l:List Opnd,Ah (evA ⟨E,P,M⟩) l=Ah (evA ⟨E,L,M⟩) l
 | []=>rfl
 | o::r=>by
  unfold Ah
  rw[Zn h,OU h r]
theorem SM (h:Sub P L)(o:O)(u:Bu ⟨E,P,M⟩ o=true):Bu ⟨E,L,M⟩ o=true:=by
 cases o with
 | l o=>cases o <;> first|rfl|exact h.fa _ u
 | _=>rfl
def sK (E P:Env)(M:Mem)(d:Dst)(x:V):Option St:=match d with
 | .no=>some ⟨E,P,M⟩
 | .v n=>gd (EG n x) (kE E n x fun E'=>some ⟨E',P,M⟩)
 | .l n=>some ⟨E,(n,x)::P,M⟩
def Le2 (s s':St):Prop:=s.E=s'.E/\s.M=s'.M/\Sub s.L s'.L
theorem Aex {d:Dst}{x:V}(h:Sub P L){s:St}(hs:sK E P M d x=some s):∃u,FM ⟨E,L,M⟩ d x=some u/\Le2 s u:=by
 cases d with
 | no =>
  simp only[sK,Aho]at hs
  subst hs
  exact⟨_,rfl,rfl,rfl,h⟩
 | v n =>
  simp only[sK,AbK,Ag,Aho]at hs
  obtain⟨z,rfl⟩:=hs
  exact⟨⟨CR E n x,L,M⟩,by show gd _ _=_;rw[z];rfl,rfl,rfl,h⟩
 | l n =>
  simp only[sK,Aho]at hs
  subst hs
  exact⟨_,rfl,rfl,rfl,WD h n x⟩
def opK (call:Bt)(s:St)(o:Op):Option St:=match s with
 | ⟨E,L,M⟩=>(AH ⟨E,L,M⟩ o.guard).bind fun q=>match q with
  | true=>gd (Bu ⟨E,L,M⟩ o.op) ((Ah (evA ⟨E,L,M⟩) o.args).bind fun vs=>(evO call M o.op vs).bind fun p=>match p with
   | (v,M1)=>fV v fun x=>fM o.op x M1 fun M2=>sK E L M2 o.dst x)
  | false=>sK E L M o.dst .un
variable {call:Bt}
theorem AeL {s t:St}(h:Le2 s t){o:Op}{r:St}(u:opK call s o=some r):∃J,Ek call t o=some J/\Le2 r J:=by
 obtain⟨E,P,M⟩:=s
 obtain⟨E',L,M'⟩:=t
 obtain⟨U,Q,z⟩:=h
 simp only at U Q z
 subst U
 subst Q
 unfold opK at u
 simp only[Ahn]at u
 obtain⟨q,N,u⟩:=u
 rw[WC z]at N
 unfold Ek
 rw[N]
 cases q with
 | false=>exact Aex z u
 | true =>
  simp only[Ag,Ahn]at u
  obtain⟨hf,vs,W,p,hp,u⟩:=u
  obtain⟨v,M1⟩:=p
  simp only[Xz,AbS]at u
  rw[OU z]at W
  obtain⟨s',Z,Y⟩:=Aex z u
  exact⟨s',by simp only[Ahz,Ag,Ahn];exact⟨SM z _ hf,vs,W,(v,M1),hp,Z⟩,Y⟩
def Zu (call:Bt):List Op->St->Option St
 | [],s=>some s
 | o::r,s=>(opK call s o).bind fun s'=>Zu call r s'
theorem Tk {call:Bt}:∀(l:List Op) {s t:St},Le2 s t -> ∀ {r:St},Zu call l s=some r -> ∃u,BW call l t=some u/\Le2 r u
 | [],s,t,h,r,hr=>by
  simp only[Zu,Aho]at hr
  subst hr
  exact⟨t,rfl,h⟩
 | o::l,s,t,h,r,hr=>by
  unfold Zu at hr
  rw[Ahn]at hr
  obtain⟨Z,W,z⟩:=hr
  obtain⟨Y,Q,U⟩:=AeL h W
  obtain⟨u,N,J⟩:=Tk l U z
  exact⟨u,by unfold BW;rw[Q];exact N,J⟩
def lpK (dr:List Nat)(body:St->Option (Ex×St)):Nat->St->Option (Ex×St)
 | 0,_=>none
 | k+1,s=>match s with
  | ⟨E,L,M⟩=>fS (Aw dr E) fun E'=>(body ⟨E',L,M⟩).bind fun p=>match p with
   | (e,s')=>match e with
    | .nm=>lpK dr body k s'
    | e=>some (e,s')
theorem Zz (u:List Nat){f g:St->Option (Ex×St)}(h:∀s r,f s=some r->g s=some r):∀(n:Nat) (s:St) (r:Ex×St),lpK u f n s=some r->Fn (fun t=>g { t with E:=Aw u t.E }) n s=some r
 | 0,_,_,hr=>by cases hr
 | k+1,s,r,hr=>by
  obtain⟨E,L,M⟩:=s
  unfold lpK at hr
  simp only[NU,Ahn]at hr
  obtain⟨p,N,z⟩:=hr
  unfold Fn
  rw[h _ _ N]
  obtain⟨e,J⟩:=p
  cases e with
  | nm=>exact Zz u h k J r z
  | _=>exact z
def cK (call:Bt)(n:Nat):C->St->Option (Ex×St)
 | .skip,s=>some (.nm,s)
 | .reg ops,s=>(Zu call ops s).bind fun s'=>match s' with
  | ⟨E,_,M⟩=>some (.nm,⟨E,[],M⟩)
 | .seq a b,s=>(cK call n a s).bind fun p=>match p with
  | (e,s')=>match e with
   | .nm=>cK call n b s'
   | e=>some (e,s')
 | .ite c a b,s=>(evA s c).bind fun v=>match v with
  | .m (.b true)=>cK call n a s
  | .m (.b false)=>cK call n b s
  | _=>none
 | .blk id c,s=>(cK call n c s).bind fun p=>match p with
  | (e,s')=>match e with
   | .ex j=>match Nat.beq j id with
    | true=>some (.nm,s')
    | false=>some (.ex j,s')
   | e=>some (e,s')
 | .loop dr c,s=>lpK dr (fun t=>cK call n c t) n s
 | .rng f dr ps ca cb,s=>(evA s f).bind fun fv=>(Afr fv).bind fun gc =>
  (call gc.1 (.yl s.M.H.length::gc.2) (s.M.H++[.lp 0 none (Io (Aw dr s.E)) ps ca cb])).bind fun p =>
   (AbT s.M.H.length p.2).bind fun q=>some (q.1,{ s with M:={ s.M with H:=q.2 } })
 | .ex id,s=>some (.ex id,s)
 | .ret,s=>some (.ret,s)
theorem Oe {call:Bt}{n:Nat}:∀(c:C) (s:St) (r:Ex×St),cK call n c s=some r->evC call n c s=some r
 | .skip,_,_,h=>h
 | .reg ops,s,r,h=>by
  unfold cK at h
  rw[Ahn]at h
  obtain⟨N,z,u⟩:=h
  obtain⟨W,U,J,k3,_⟩:=Tk ops ⟨rfl,rfl,AaA _⟩ z
  unfold evC
  rw[U]
  obtain⟨E,L,M⟩:=N
  simp only at J k3 u
  subst J
  subst k3
  exact u
 | .seq a b,s,r,h=>by
  unfold cK at h
  rw[Ahn]at h
  obtain⟨p,z,u⟩:=h
  unfold evC
  rw[Oe a s p z]
  obtain⟨e,Q⟩:=p
  cases e with
  | nm=>exact Oe b Q r u
  | _=>exact u
 | .ite c a b,s,r,h=>by
  unfold cK at h
  rw[Ahn]at h
  obtain⟨v,z,u⟩:=h
  unfold evC
  rw[z]
  cases v <;> try cases u
  rename_i x
  cases x <;> try cases u
  rename_i q
  cases q
  ·exact Oe b s r u
  ·exact Oe a s r u
 | .blk id c,s,r,h=>by
  unfold cK at h
  rw[Ahn]at h
  obtain⟨p,z,u⟩:=h
  unfold evC
  rw[Oe c s p z]
  exact u
 | .loop dr c,s,r,h=>by
  unfold cK at h
  unfold evC
  exact Zz dr (Oe c) n s r h
 | .rng f dr ps ca cb,s,r,h=>h
 | .ex _,_,_,h=>h
 | .ret,_,_,h=>h
def AdZ (call:Bt)(n:Nat)(f:F)(vs:List V)(H:Hp):Option (V×Hp) :=
 gd (vs.all Az&&Nat.beq vs.length f.np) ((cK call n f.body ⟨Dp 0 vs,[],⟨[],H⟩⟩).bind fun p=>match p with
  | (e,s)=>match e with
   | .ex _=>none
   | _=>(Ei s f.res).bind fun v=>some (v,s.M.H))
variable {n:Nat} {vs:List V}
theorem TH {f:F}{H:Hp}{r:V×Hp}(h:AdZ call n f vs H=some r):evF call n f vs H=some r:=by
 unfold AdZ at h
 unfold evF
 rw[Ag]at h ⊢
 refine⟨h.1,?_⟩
 have h:=h.2
 rw[Ahn]at h
 obtain⟨p,u,z⟩:=h
 rw[Oe _ _ _ u]
 exact z
def Mc (call:Bt)(n:Nat)(fn:F)(is:List I):Option V->Option V
 | some r=>some r
 | none=>(AdZ call n fn (is.map .m) []).bind fun p=>match p with
  | (v,H)=>viewR H v
theorem TE {fn:F}{is:List I}{o:Option V}{r:V}(h:Mc call n fn is o=some r):Mb call n fn is o=some r:=by
 cases o with
 | some x=>exact h
 | none =>
  unfold Mc at h
  rw[Ahn]at h
  obtain⟨p,z,u⟩:=h
  unfold Mb
  rw[TH z]
  exact u
def AbX (T:List Ent)(f:Nat)(call:Bt)(n:Nat)(fn:F)(vs:List V)(H:Hp):Option (V×Hp) :=
 (Ah (view 20 H) vs).bind fun is=>(Mc call n fn is (GF T f is)).bind fun r=>match vs.flatMap Dv with
  | []=>gd (vs.all BN) (some (r,H))
  | rs=>match FG r with
   | true=>some (r,H)
   | false=>gd (vs.all BN) ((AY rs H).bind fun H2=>some (r,H2))
def Hw (G:Cfg)(T:List Ent):Nat->Bt
 | 0,_,_,_=>none
 | n+1,f,vs,H=>match G.prim f with
  | some p=>p (Hw G T n) vs H
  | none=>match G.fn f with
   | some fn=>match G.sh f with
    | true=>AdZ (Hw G T n) n fn vs H
    | false=>AbX T f (Hw G T n) n fn vs H
   | none=>gd (Nat.beq f yN) (Er (Hw G T n) n vs H)
theorem KE {G:Cfg}(J:BJ G)(T:List Ent):∀n:Nat,LeC (Hw G T n) (IF G T n)
 | 0,_,_,_,_,h=>h
 | n+1,f,vs,H,r,h=>by
  have z:=KE J T n
  unfold Hw at h
  unfold IF
  cases hp:G.prim f with
  | some p =>
   rw[hp]at h
   exact J f p hp _ _ z vs H r h
  | none =>
   rw[hp]at h
   dsimp only at h ⊢
   cases hf:G.fn f with
   | none =>
    rw[hf]at h
    dsimp only at h ⊢
    rw[Ag]at h ⊢
    exact⟨h.1,FB z (Ahu _) h.2⟩
   | some fn =>
    rw[hf]at h
    dsimp only at h ⊢
    cases hs:G.sh f with
    | true =>
     rw[hs]at h
     exact Fb z (Ahu _) (TH h)
    | false =>
     rw[hs]at h
     unfold AbX at h
     unfold AbW
     refine AK (fun _ h=>h) (fun is r h=>?_) h
     refine AK (fun Q u=>?_) (fun _ _ h=>h) h
     have u:=TE u
     cases hl:GF T f is with
     | some x =>
      rw[hl]at u
      exact u
     | none =>
      rw[hl]at u
      unfold Mb at u ⊢
      exact AK (fun b N=>Fb z (Ahu _) N) (fun _ _ h=>h) u
variable {T:List Ent}
theorem Aaz {G:Cfg}(u:BJ G)(z:BB G T){e:Ent}(h:Hw G T n e.f (e.is.map .m) []=some (e.r,[])):BB G (e::T):=WA u z (n:=n) (KE u T n _ _ _ _ h)
theorem AbM {G:Cfg}(u:BJ G)(z:BB G T){f:Nat}{H H':Hp}{v:V}(h:Hw G T n f vs H=some (v,H')):Gives G f vs H v H':=Mj u z (n:=n) (KE u T n _ _ _ _ h)
end Go.Mx
