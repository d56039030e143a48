/- The same evaluation written with recursors, for the kernel. Nothing here speaks of a program. -/
import Derived.Test.YtiehnedoinlfeaaGreatDoorEf
set_option linter.unusedSimpArgs false
set_option linter.unusedVariables false
set_option linter.unusedSectionVars false
namespace Go.Mx
noncomputable section
def gK {α:Type}(k:V->Option α)(n:Nat)(e:Env):Option α:=List.rec (motive:=fun _=>Option α) none (fun p _ ih=>Prod.rec (motive:=fun _=>Option α) (fun a b=>Bool.rec (motive:=fun _=>Option α) ih (k b) (Nat.beq a n)) p) e
theorem AbN {α:Type}(k:V->Option α)(n:Nat):∀e:Env,gK k n e=(Cd e n).bind k
 | []=>rfl
 | (a,b)::r=>by
  show Bool.rec (motive:=fun _=>Option α) (gK k n r) (k b) (Nat.beq a n)=(match Nat.beq a n with
   | true=>some b
   | false=>Cd r n).bind k
  cases Nat.beq a n with
  | true=>rfl
  | false=>exact AbN k n r
def aK {α:Type}(E P:Env)(o:Opnd)(k:V->Option α):Option α:=Opnd.rec (motive:=fun _=>Option α) (fun n=>gK k n E) (fun n=>gK k n P) (fun x=>k x) o
variable {α:Type}
theorem Acg (E P:Env)(M:Mem)(o:Opnd)(k:V->Option α):aK E P o k=(evA ⟨E,P,M⟩ o).bind k:=by
 cases o with
 | v n=>exact AbN k n E
 | l n=>exact AbN k n P
 | k x=>rfl
def aL {α:Type}(E P:Env)(l:List Opnd)(k:List V->Option α):Option α:=List.rec (motive:=fun _=>(List V->Option α)->Option α) (fun k=>k []) (fun o _ ih k=>aK E P o fun x=>ih fun xs=>k (x::xs)) l k
theorem XV {α:Type}(E P:Env)(M:Mem):∀(l:List Opnd) (k:List V->Option α),aL E P l k=(Ah (evA ⟨E,P,M⟩) l).bind k
 | [],k=>rfl
 | o::r,k=>by
  show aK E P o (fun x=>aL E P r fun xs=>k (x::xs))=((evA ⟨E,P,M⟩ o).bind fun x=>(Ah (evA ⟨E,P,M⟩) r).bind fun l=>some (x::l)).bind k
  rw[Acg E P M,AiC]
  congr 1
  funext x
  rw[XV E P M r,AiC]
  rfl
def vB {α:Type}(v:V)(k:Bool->Option α)(u:Option α):Option α:=V.casesOn (motive_1:=fun _=>Option α) v
 (fun x=>I.casesOn (motive_1:=fun _=>Option α) x (fun b=>k b) (fun _ _=>none) (fun _=>none) (fun _=>none) none (fun _=>none) (fun _=>none) (fun _=>none) (fun _=>none) (fun _ _=>none))
 u (fun _=>none) (fun _ _ _ _ _ _=>none) (fun _ _ _ _=>none) (fun _ _=>none) (fun _=>none) (fun _ _=>none) (fun _=>none) (fun _=>none) (fun _=>none)
def wK {α:Type}(E P:Env)(g:Option (Opnd×Bool))(k1 k0:Option α):Option α:=Option.rec (motive:=fun _=>Option α) k1
 (fun q=>Prod.rec (motive:=fun _=>Option α) (fun a w=>aK E P a fun v=>vB v (fun b=>Bool.rec (motive:=fun _=>Option α) (Bool.rec (motive:=fun _=>Option α) k1 k0 w) (Bool.rec (motive:=fun _=>Option α) k0 k1 w) b) k0) q) g
theorem wK_eq (E P:Env)(M:Mem)(g:Option (Opnd×Bool))(k:Bool->Option α):wK E P g (k true) (k false)=(AH ⟨E,P,M⟩ g).bind k:=by
 cases g with
 | none=>rfl
 | some q =>
  obtain⟨a,w⟩:=q
  show aK E P a _=((evA ⟨E,P,M⟩ a).bind fun v=>match v with
   | .m (.b x)=>some (x==w)
   | .un=>some false
   | _=>none).bind k
  rw[Acg E P M,AiC]
  congr 1
  funext v
  cases v <;> try rfl
  rename_i x
  cases x <;> try rfl
  rename_i b
  cases b <;> cases w <;> rfl
def one {α:Type}(vs:List V)(k:V->Option α):Option α:=List.rec (motive:=fun _=>Option α) none (fun x r _=>List.rec (motive:=fun _=>Option α) (k x) (fun _ _ _=>none) r) vs
def two {α:Type}(vs:List V)(k:V->V->Option α):Option α:=List.rec (motive:=fun _=>Option α) none (fun x r _=>List.rec (motive:=fun _=>Option α) none (fun y r _=>List.rec (motive:=fun _=>Option α) (k x y) (fun _ _ _=>none) r) r) vs
def pR (o:OP)(vs:List V):Option V:=OP.casesOn (motive:=fun _=>Option V) o (one vs some)
 (List.rec (motive:=fun _=>Option V) none (fun c r _=>two r fun a b=>vB c (fun q=>Bool.rec (motive:=fun _=>Option V) (some b) (some a) q) none) vs)
 (fun u=>one vs fun x=>unX u x) (fun b=>two vs fun x y=>Ez b x y)
 (fun n=>Ar (.eqb n) vs) (fun a b=>Ar (.eqs a b) vs) (fun a b=>Ar (.eqn a b) vs) (fun a b=>Ar (.build a b) vs) (fun a b c d=>Ar (.bsl a b c d) vs) (fun k=>Ar (.cv k) vs) (Ar .cvs vs) (Ar .s2b vs) (fun a=>Ar (.fad a) vs) (fun a b c=>Ar (.fld a b c) vs) (fun a=>Ar (.ixa a) vs) (fun a b=>Ar (.ixaA a b) vs) (fun a b c=>Ar (.ixv a b c) vs) (Ar .ixs vs) (fun a=>Ar (.ext a) vs) (fun a=>Ar (.mkf a) vs) (Ar .nck vs) (fun a=>Ar (.mm a) vs) (fun a=>Ar (.len a) vs) (Ar .usd vs) (fun a b c d=>Ar (.slc a b c d) vs)
theorem pR_eq (o:OP)(vs:List V):pR o vs=Ar o vs:=by
 cases o <;> first|rfl|skip
 ·match vs with
  | []=>rfl
  | [_]=>rfl
  | _::_::_=>rfl
 ·match vs with
  | []=>rfl
  | [_]=>rfl
  | [_,_]=>rfl
  | [c,a,b] =>
   cases c <;> try rfl
   rename_i x
   cases x <;> try rfl
   rename_i q
   cases q <;> rfl
  | _::_::_::_::_=>rfl
 ·match vs with
  | []=>rfl
  | [_]=>rfl
  | _::_::_=>rfl
 ·match vs with
  | []=>rfl
  | [_]=>rfl
  | [_,_]=>rfl
  | _::_::_::_=>rfl
def nR {α:Type}(n:Nat)(k:Nat->Option α):Option α:=Nat.rec (motive:=fun _=>Option α) (k 0) (fun m _=>k m) (Nat.add n 1)
def zR2 {α:Type}(z:Int)(k:Int->Option α):Option α:=Int.rec (motive:=fun _=>Option α) (fun n=>nR n fun n=>k (.ofNat n)) (fun n=>nR n fun n=>k (.negSucc n)) z
def vR {α:Type}(v:V)(k:V->Option α):Option α:=V.casesOn (motive_1:=fun _=>Option α) v
 (fun x=>I.casesOn (motive_1:=fun _=>Option α) x (fun b=>Bool.rec (motive:=fun _=>Option α) (k (.m (.b false))) (k (.m (.b true))) b) (fun j z=>zR2 z fun z=>k (.m (.i j z))) (fun s=>k (.m (.s s))) (fun j=>k (.m (.nl j))) (k (.m .er)) (fun x=>k (.m (.sl x))) (fun x=>k (.m (.pt x))) (fun x=>k (.m (.ag x))) (fun x=>k (.m (.mp x))) (fun f c=>k (.m (.fn f c))))
 (k .un) (fun x=>k (.ls x)) (fun r ver esz st len lim=>nR r fun r=>nR ver fun ver=>nR esz fun esz=>nR st fun st=>nR len fun len=>Bool.rec (motive:=fun _=>Option α) (k (.sl r ver esz st len false)) (k (.sl r ver esz st len true)) lim)
 (fun r ver ix off=>nR r fun r=>nR ver fun ver=>nR ix fun ix=>nR off fun off=>k (.pt r ver ix off)) (fun d off=>nR d fun d=>nR off fun off=>k (.fa d off)) (fun r=>nR r fun r=>k (.mp r)) (fun f c=>k (.fn f c)) (fun x=>k (.ag x)) (fun x=>k (.tu x)) (fun r=>k (.yl r))
theorem Aen (z:Int)(k:Int->Option α):zR2 z k=k z:=by cases z <;> rfl
theorem Aaw (v:V)(k:V->Option α):vR v k=k v:=by
 cases v with
 | m x =>
  cases x with
  | b q=>cases q <;> rfl
  | i j z=>exact Aen z fun z=>k (.m (.i j z))
  | _=>rfl
 | sl r J E st len u=>cases u <;> rfl
 | _=>rfl
def kR {α:Type}(n:Nat)(x:V)(e:Env)(k:Env->Option α):Option α:=List.rec (motive:=fun _=>(Env->Option α)->Option α) (fun k=>k [(n,x)]) (fun p r ih k=>Prod.rec (motive:=fun _=>Option α) (fun a b=>Bool.rec (motive:=fun _=>Option α) (Bool.rec (motive:=fun _=>Option α) (ih fun r'=>k ((a,b)::r')) (k ((n,x)::r)) (Nat.beq a n)) (k ((n,x)::(a,b)::r)) (Nat.blt n a)) p) e k
theorem AeZ {α:Type}(n:Nat)(x:V):∀(e:Env) (k:Env->Option α),kR n x e k=k (CR e n x)
 | [],_=>rfl
 | (a,b)::r,k=>by
  show Bool.rec (motive:=fun _=>Option α) (Bool.rec (motive:=fun _=>Option α) (kR n x r fun u=>k ((a,b)::u)) (k ((n,x)::r)) (Nat.beq a n)) (k ((n,x)::(a,b)::r)) (Nat.blt n a)=k (match Nat.blt n a with
   | true=>(n,x)::(a,b)::r
   | false=>match Nat.beq a n with
    | true=>(n,x)::r
    | false=>(a,b)::CR r n x)
  cases Nat.blt n a with
  | true=>rfl
  | false =>
   cases Nat.beq a n with
   | true=>rfl
   | false=>exact AeZ n x r _
def dR {α:Type}(E P:Env)(M:Mem)(d:Dst)(x:V)(k:Env->Env->Mem->Option α):Option α:=Dst.rec (motive:=fun _=>Option α) (k E P M) (fun n=>Bool.rec (motive:=fun _=>Option α) none (kR n x E fun E'=>k E' P M) (EG n x)) (fun n=>k E ((n,x)::P) M) d
theorem XF (E P:Env)(M:Mem)(d:Dst)(x:V)(k:Env->Env->Mem->Option α):dR E P M d x k=(sK E P M d x).bind fun s=>k s.E s.L s.M:=by
 cases d with
 | no=>rfl
 | l n=>rfl
 | v n =>
  show Bool.rec (motive:=fun _=>Option α) none (kR n x E fun u=>k u P M) (EG n x)=(gd (EG n x) (kE E n x fun u=>some (St.mk u P M))).bind fun s:St=>k s.E s.L s.M
  rw[AbK]
  cases EG n x with
  | false=>rfl
  | true=>exact AeZ n x E _
def oR {α:Type}(call:Bt)(E P:Env)(M:Mem)(o:Op)(k:Env->Env->Mem->Option α):Option α :=
 Op.rec (motive:=fun _=>Option α) (fun d op args g=>wK E P g
  (O.rec (motive:=fun _=>Option α)
   (fun p=>aL E P args fun vs=>Option.rec (motive:=fun _=>Option α) none (fun v=>vR v fun x=>dR E P M d x k) (pR p vs))
   (fun q=>aL E P args fun vs=>Option.rec (motive:=fun _=>Option α) none (fun v=>vR v fun x=>dR E P M d x k) (readX M q vs))
   (fun q=>Bool.rec (motive:=fun _=>Option α) none (aL E P args fun vs=>Option.rec (motive:=fun _=>Option α) none (fun p=>Prod.rec (motive:=fun _=>Option α) (fun v M1=>vR v fun x=>fM (.l q) x M1 fun M2=>dR E P M2 d x k) p) (An call M q vs)) (Bu ⟨E,P,M⟩ (.l q))) op)
  (dR E P M d .un k)) o
theorem oR_eq (call:Bt)(E P:Env)(M:Mem)(o:Op)(k:Env->Env->Mem->Option α):oR call E P M o k=(opK call ⟨E,P,M⟩ o).bind fun s=>k s.E s.L s.M:=by
 obtain⟨d,op,u,g⟩:=o
 unfold opK
 rw[AiC]
 refine Eq.trans ?_ (wK_eq E P M g _)
 show wK E P g _ _=wK E P g _ _
 congr 1
 ·cases op with
  | p p =>
   show (aL E P u fun z=>Option.rec (motive:=fun _=>Option α) none (fun v=>vR v fun x=>dR E P M d x k) (pR p z))=_
   rw[XV E P M]
   show _=(((Ah (evA ⟨E,P,M⟩) u).bind _)).bind _
   rw[AiC]
   congr 1
   funext z
   rw[pR_eq]
   show _=((((Ar p z).bind fun v=>some (v,M)).bind _)).bind _
   cases Ar p z with
   | none=>rfl
   | some v =>
    show vR v (fun x=>dR E P M d x k)=Option.bind (fV v fun x=>sK E P M d x) (fun s=>k s.E s.L s.M)
    rw[Aaw,Xz]
    exact XF E P M d v k
  | r q =>
   show (aL E P u fun z=>Option.rec (motive:=fun _=>Option α) none (fun v=>vR v fun x=>dR E P M d x k) (readX M q z))=_
   rw[XV E P M]
   show _=(((Ah (evA ⟨E,P,M⟩) u).bind _)).bind _
   rw[AiC]
   congr 1
   funext z
   show _=((((readX M q z).bind fun v=>some (v,M)).bind _)).bind _
   cases readX M q z with
   | none=>rfl
   | some v =>
    show vR v (fun x=>dR E P M d x k)=Option.bind (fV v fun x=>sK E P M d x) (fun s=>k s.E s.L s.M)
    rw[Aaw,Xz]
    exact XF E P M d v k
  | l q =>
   show Bool.rec (motive:=fun _=>Option α) none _ (Bu ⟨E,P,M⟩ (.l q))=(gd (Bu ⟨E,P,M⟩ (.l q)) _).bind _
   cases Bu ⟨E,P,M⟩ (.l q) with
   | false=>rfl
   | true =>
    show (aL E P u _)=(((Ah (evA ⟨E,P,M⟩) u).bind _)).bind _
    rw[XV E P M,AiC]
    congr 1
    funext z
    show _=((An call M q z).bind _).bind _
    cases An call M q z with
    | none=>rfl
    | some p =>
     obtain⟨v,N⟩:=p
     show vR v (fun x=>fM (.l q) x N fun J=>dR E P J d x k)=Option.bind (fV v fun x=>fM (.l q) x N fun J=>sK E P J d x) (fun s=>k s.E s.L s.M)
     rw[Aaw,Xz,AbS,AbS]
     exact XF E P N d v k
 ·exact XF E P M d .un k
def opsR {α:Type}(call:Bt)(l:List Op)(E P:Env)(M:Mem)(k:Env->Env->Mem->Option α):Option α:=List.rec (motive:=fun _=>Env->Env->Mem->Option α) k (fun o _ ih E P M=>oR call E P M o ih) l E P M
theorem Tj {α:Type}(call:Bt)(k:Env->Env->Mem->Option α):∀(l:List Op) (E P:Env) (M:Mem),opsR call l E P M k=(Zu call l ⟨E,P,M⟩).bind fun s=>k s.E s.L s.M
 | [],_,_,_=>rfl
 | o::r,E,P,M=>by
  show oR call E P M o (fun E P M=>opsR call r E P M k)=((opK call ⟨E,P,M⟩ o).bind fun u=>Zu call r u).bind _
  rw[oR_eq,AiC]
  congr 1
  funext s
  exact Tj call k r s.E s.L s.M
abbrev KC (α:Type):=Ex->Env->Env->Mem->Option α
def lpR {α:Type}(dr:List Nat)(body:Env->Env->Mem->KC α->Option α)(n:Nat)(E P:Env)(M:Mem)(k:KC α):Option α:=Nat.rec (motive:=fun _=>Env->Env->Mem->Option α) (fun _ _ _=>none)
 (fun _ ih E P M=>fS (Aw dr E) fun E'=>body E' P M fun e E P M=>Ex.rec (motive:=fun _=>Option α) (ih E P M) (fun j=>k (.ex j) E P M) (k .ret E P M) e) n E P M
theorem Zy {α:Type}(u:List Nat){f:Env->Env->Mem->KC α->Option α}{g:St->Option (Ex×St)}(h:∀E P M k,f E P M k=(g ⟨E,P,M⟩).bind fun p=>k p.1 p.2.E p.2.L p.2.M)(k:KC α):∀(n:Nat) (E P:Env) (M:Mem),lpR u f n E P M k=(lpK u g n ⟨E,P,M⟩).bind fun p=>k p.1 p.2.E p.2.L p.2.M
 | 0,_,_,_=>rfl
 | n+1,E,P,M=>by
  show (fS (Aw u E) fun z=>f z P M fun e E P M=>Ex.rec (motive:=fun _=>Option α) (lpR u f n E P M k) (fun j=>k (.ex j) E P M) (k .ret E P M) e)=Option.bind (fS (Aw u E) fun z=>(g ⟨z,P,M⟩).bind fun p=>match p with
   | (e,s')=>match e with
    | .nm=>lpK u g n s'
    | e=>some (e,s')) _
  rw[NU,NU,h,AiC]
  congr 1
  funext p
  obtain⟨e,s⟩:=p
  cases e with
  | nm=>exact Zy u h k n s.E s.L s.M
  | _=>rfl
def cR {α:Type}(call:Bt)(n:Nat)(c:C):Env->Env->Mem->KC α->Option α:=C.rec (motive:=fun _=>Env->Env->Mem->KC α->Option α)
 (fun E P M k=>k .nm E P M)
 (fun ops E P M k=>opsR call ops E P M fun E _ M=>k .nm E [] M)
 (fun _ _ iha ihb E P M k=>iha E P M fun e E P M=>Ex.rec (motive:=fun _=>Option α) (ihb E P M k) (fun j=>k (.ex j) E P M) (k .ret E P M) e)
 (fun o _ _ iha ihb E P M k=>aK E P o fun v=>vB v (fun b=>Bool.rec (motive:=fun _=>Option α) (ihb E P M k) (iha E P M k) b) none)
 (fun id _ ih E P M k=>ih E P M fun e E P M=>Ex.rec (motive:=fun _=>Option α) (k .nm E P M) (fun j=>Bool.rec (motive:=fun _=>Option α) (k (.ex j) E P M) (k .nm E P M) (Nat.beq j id)) (k .ret E P M) e)
 (fun dr _ ih E P M k=>lpR dr ih n E P M k)
 (fun f dr ps ca cb _ _ E P M k=>(cK call n (.rng f dr ps ca cb) ⟨E,P,M⟩).bind fun p=>k p.1 p.2.E p.2.L p.2.M)
 (fun id E P M k=>k (.ex id) E P M)
 (fun E P M k=>k .ret E P M) c
theorem Od {α:Type}(call:Bt)(n:Nat):∀(c:C) (E P:Env) (M:Mem) (k:KC α),cR call n c E P M k=(cK call n c ⟨E,P,M⟩).bind fun p=>k p.1 p.2.E p.2.L p.2.M
 | .skip,_,_,_,_=>rfl
 | .reg ops,E,P,M,k=>by
  show opsR call ops E P M (fun E _ M=>k .nm E [] M)=((Zu call ops ⟨E,P,M⟩).bind _).bind _
  rw[Tj,AiC]
  rfl
 | .seq a b,E,P,M,k=>by
  show cR call n a E P M (fun e E P M=>Ex.rec (motive:=fun _=>Option α) (cR call n b E P M k) (fun j=>k (.ex j) E P M) (k .ret E P M) e)=((cK call n a ⟨E,P,M⟩).bind _).bind _
  rw[Od call n a,AiC]
  congr 1
  funext p
  obtain⟨e,s⟩:=p
  cases e with
  | nm=>exact Od call n b s.E s.L s.M k
  | _=>rfl
 | .ite o a b,E,P,M,k=>by
  show aK E P o (fun v=>vB v (fun q=>Bool.rec (motive:=fun _=>Option α) (cR call n b E P M k) (cR call n a E P M k) q) none)=((evA ⟨E,P,M⟩ o).bind _).bind _
  rw[Acg E P M,AiC]
  congr 1
  funext v
  cases v <;> try rfl
  rename_i x
  cases x <;> try rfl
  rename_i q
  cases q
  ·exact Od call n b E P M k
  ·exact Od call n a E P M k
 | .blk id c,E,P,M,k=>by
  show cR call n c E P M (fun e E P M=>Ex.rec (motive:=fun _=>Option α) (k .nm E P M) (fun j=>Bool.rec (motive:=fun _=>Option α) (k (.ex j) E P M) (k .nm E P M) (Nat.beq j id)) (k .ret E P M) e)=((cK call n c ⟨E,P,M⟩).bind _).bind _
  rw[Od call n c,AiC]
  congr 1
  funext p
  obtain⟨e,s⟩:=p
  cases e with
  | ex j =>
   show Bool.rec (motive:=fun _=>Option α) (k (.ex j) s.E s.L s.M) (k .nm s.E s.L s.M) (Nat.beq j id)=(match Nat.beq j id with
    | true=>some (Ex.nm,s)
    | false=>some (Ex.ex j,s)).bind _
   cases Nat.beq j id <;> rfl
  | _=>rfl
 | .loop dr c,E,P,M,k=>Zy dr (fun E P M k=>Od call n c E P M k) k n E P M
 | .rng f dr ps ca cb,_,_,_,_=>rfl
 | .ex _,_,_,_,_=>rfl
 | .ret,_,_,_,_=>rfl
def funR (call:Bt)(n:Nat)(f:F)(vs:List V)(H:Hp):Option (V×Hp) :=
 gd (vs.all Az&&Nat.beq vs.length f.np) (cR call n f.body (Dp 0 vs) [] ⟨[],H⟩ fun e E P M=>Ex.rec (motive:=fun _=>Option (V×Hp)) ((Ei ⟨E,P,M⟩ f.res).bind fun v=>some (v,M.H)) (fun _=>none) ((Ei ⟨E,P,M⟩ f.res).bind fun v=>some (v,M.H)) e)
theorem TG (call:Bt)(n:Nat)(f:F)(vs:List V)(H:Hp):funR call n f vs H=AdZ call n f vs H:=by
 unfold funR AdZ
 rw[Od]
 congr 1
 congr 1
 funext p
 obtain⟨e,s⟩:=p
 cases e <;> rfl
def TD (call:Bt)(n:Nat)(fn:F)(is:List I):Option V->Option V
 | some r=>some r
 | none=>(funR call n fn (is.map .m) []).bind fun p=>match p with
  | (v,H)=>viewR H v
def ZI (T:List Ent)(f:Nat)(call:Bt)(n:Nat)(fn:F)(vs:List V)(H:Hp):Option (V×Hp) :=
 (Ah (view 20 H) vs).bind fun is=>(TD call n fn is (GF T f is)).bind fun r=>match vs.flatMap Dv with
  | []=>gd (vs.all BN) (some (r,H))
  | rs=>match FG r with
   | true=>some (r,H)
   | false=>gd (vs.all BN) ((AY rs H).bind fun H2=>some (r,H2))
def KG (G:Cfg)(T:List Ent):Nat->Bt
 | 0,_,_,_=>none
 | n+1,f,vs,H=>match G.prim f with
  | some p=>p (KG G T n) vs H
  | none=>match G.fn f with
   | some fn=>match G.sh f with
    | true=>funR (KG G T n) n fn vs H
    | false=>ZI T f (KG G T n) n fn vs H
   | none=>gd (Nat.beq f yN) (Er (KG G T n) n vs H)
theorem KF (G:Cfg)(T:List Ent):∀n:Nat,KG G T n=Hw G T n
 | 0=>rfl
 | n+1=>by
  funext f vs H
  unfold KG Hw
  rw[KF G T n]
  cases G.prim f with
  | some p=>rfl
  | none =>
   cases G.fn f with
   | none=>rfl
   | some fn =>
    dsimp only
    cases G.sh f with
    | true=>exact TG _ _ _ _ _
    | false =>
     dsimp only
     unfold ZI AbX
     congr 1
     funext is
     have:TD (Hw G T n) n fn is (GF T f is)=Mc (Hw G T n) n fn is (GF T f is):=by
      cases GF T f is with
      | some r=>rfl
      | none =>
       unfold TD Mc
       rw[TG]
     rw[this]
     rfl
variable {T:List Ent}
theorem Fz {G:Cfg}(u:BJ G)(z:BB G T){n:Nat}{e:Ent}(h:KG G T n e.f (e.is.map .m) []=some (e.r,[])):BB G (e::T):=Aaz u z (n:=n) (by rw[<-KF];exact h)
theorem Ko {G:Cfg}(u:BJ G)(z:BB G T){n f:Nat}{vs:List V}{H H':Hp}{v:V}(h:KG G T n f vs H=some (v,H')):Gives G f vs H v H':=AbM u z (n:=n) (by rw[<-KF];exact h)
end
end Go.Mx
