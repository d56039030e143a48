/- Shots that meet: Meet and Result of the program. -/
import Derived.Test.YtiehnedoinlfeaaGreatDoorRc
import Derived.Test.YtiehnedoinlfeaaGreatDoorLk
import Derived.Test.YtiehnedoinlfeaaGreatDoorNa
import Derived.Test.YtiehnedoinlfeaaGreatDoorItoa
import Derived.Test.YtiehnedoinlfeaaGreatDoorDec
set_option linter.unusedSimpArgs false
set_option linter.unusedVariables false
set_option linter.unusedSectionVars false
set_option maxRecDepth 100000
set_option maxHeartbeats 4000000
namespace Go.Mx.Tryz
open Go.Lib Go.Proofs
def PkI (has:Bool)(acc:List Ce)(H:Hp):Prop:=∃b,b<=1/\((acc=[]/\H=[.cs 4 1 [[.m (.b has)]] 0 false,.cs 40 1 [[.m (.nl 4)]] b false])\/(acc≠[]/\H=[.cs 4 1 [[.m (.b has)]] 0 false,.cs 40 1 [[.sl 2 acc.length 3 0 acc.length false]] b false,.cs 56 3 (AE acc) 0 false]))
variable {has:Bool} {acc:List Ce} {H:Hp}
theorem Yo (h:PkI has acc H)(hl:acc.length<=1000000)(c:Ce):∃o b u E N,b<=1/\nth H 1=some (.cs 40 1 [[o]] b false)/\Az o=true/\(∀B,Et ⟨B,H⟩ 56 3 24 o [[J0 c.x,J0 c.y,J0 c.s]]=some (u,⟨B,E⟩))/\Az u=true/\AA u=some [u]/\BL u=true/\nth E 1=some (.cs 40 1 [[o]] b false)/\AN E 1 (.cs 40 1 [[u]] 1 false)=some N/\PkI has (acc++[c]) N:=by
 obtain⟨b,J,⟨rfl,rfl⟩|⟨U,rfl⟩⟩:=h
 ·exact⟨_,b,.sl 2 1 3 0 1 false,_,_,J,rfl,rfl,fun B=>rfl,rfl,rfl,rfl,rfl,rfl,1,Ahu _,.inr ⟨by simp,rfl⟩⟩
 ·have Q:=fun B=>Cu (M:=⟨B,[.cs 4 1 [[.m (.b has)]] 0 false,.cs 40 1 [[.sl 2 acc.length 3 0 acc.length false]] b false,.cs 56 3 (AE acc) 0 false]⟩) (r:=2) (bytes:=24) (xs:=[[J0 c.x,J0 c.y,J0 c.s]]) rfl (by simp) (by simp;omega) rfl
  simp only[Dq,Aib,Aic,Air,List.set_cons_succ,List.set_cons_zero,GT]at Q
  refine⟨_,b,.sl 2 (acc.length+1) 3 0 (acc.length+1) false,_,_,J,rfl,rfl,Q,rfl,rfl,rfl,rfl,rfl,1,Ahu _,.inr ⟨by simp,?_⟩⟩
  simp
theorem AcV (h:PkI has acc H):nth H 0=some (.cs 4 1 [[.m (.b has)]] 0 false):=by
 obtain⟨b,E,⟨rfl,rfl⟩|⟨u,rfl⟩⟩:=h <;> rfl
theorem Ov (h:PkI has acc H)(hl:acc.length<=1000000)(c d:Ce)(a b:Bool){Q:V->Hp->Prop}(N:∀H',PkI has (acc++if a&&(b==has) then [c] else []) H'->Q (.tu []) H'):Ret G 144 (Vis 144 [.pt 0 1 0 0,.pt 1 1 0 0] c d a b) H Q:=by
 refine Bh mono rfl rfl rfl rfl rfl ?_
 have U:=AcV h
 cases a with
 | false =>
  have k:=N H (by simpa using h)
  simp (maxSteps:=2000000) (disch:=omega) [Ab,Vis,Ce.i]
  exact k
 | true =>
  by_cases u:b=has
  ·obtain⟨o,b1,o1,H1,H2,J,r1,r2,r3,r4,W,r6,r7,Y,Z⟩:=Yo h hl c
   have k:=N H2 (by simpa[u]using Z)
   have E:(b==has)=true:=by simp[u]
   simp (maxSteps:=2000000) (disch:=omega) [Ab,Vis,Ce.i,U,u,r1,J,r3,W,r6,r7,Y]
   exact k
  ·have k:=N H (by simpa[u]using h)
   have E:(b==has)=false:=by simpa using u
   simp (maxSteps:=2000000) (disch:=omega) [Ab,Vis,Ce.i,U,E]
   exact k
theorem AcW (h:PkI has acc H):∃o b,b<=1/\nth H 1=some (.cs 40 1 [[o]] b false)/\Az o=true/\viewR H o=some (.m (zP acc))/\view 20 H o=some (zP acc):=by
 obtain⟨b,E,⟨rfl,rfl⟩|⟨u,rfl⟩⟩:=h
 ·exact⟨_,b,E,rfl,rfl,rfl,rfl⟩
 ·have N:=Up (H:=[.cs 4 1 [[.m (.b has)]] 0 false,.cs 40 1 [[.sl 2 acc.length 3 0 acc.length false]] b false,.cs 56 3 (AE acc) 0 false]) (r:=2) (b:=0) (q:=acc) rfl (Ahy _) 18
  have J:zP acc=.sl (Ae acc):=by unfold zP;rw[Aht u]
  refine⟨_,b,E,rfl,rfl,?_,?_⟩
  ·show (view 20 _ _).bind _=_
   rw[N,J]
   rfl
  ·rw[J]
   exact N
variable {p q:List Ce}
theorem Agq {v w:I}(hv:IsSl v (Ae p))(hw:IsSl w (Ae q))(hp:right p=true)(hq:right q=true)(has:Bool)(H:Hp):Gives G 110 [.m v,.m w,.m (.b has)] H (.m (zP (pkF p q has))) H:=by
 obtain⟨wp,_,lp⟩:=Ay hp
 obtain⟨wq,_,lq⟩:=Ay hq
 have g1:=fun H=>En hv (by omega) H
 have g2:=fun H=>En hw (by omega) H
 rw[hp]at g1
 rw[hq]at g2
 refine Af rfl rfl rfl rfl rfl ?_
 simp (maxSteps:=2000000) (disch:=omega) [cl (g1 _),cl (g2 _),Ad]
 rw[Ao]
 refine Adp (Inv:=fun a b H=>∃acc,PkI has acc H/\acc++pkF a b has=pkF p q has) rfl (fun c r b H Q U J W=>?_) (fun d s a H Q U J W=>?_) (fun c r d s H Q U hx hy h1 Z W=>?_) hv hw wp wq (by omega) (by omega) ⟨[],⟨0,by omega,.inl ⟨rfl,rfl⟩⟩,rfl⟩ fun H' U=>?_
 ·obtain⟨acc,N,u⟩:=U
  have Y:acc.length<=1000000:=by
   have:=AiO List.length u
   rw[AhF]at this
   have Z:(pkF p q has).length<=p.length:=List.length_filter_le _ _
   omega
  refine Ov N Y c _ true false fun H' E=>W H' ⟨_,E,?_⟩
  rw[<-u,pk_a has J]
  cases has <;> simp
 ·obtain⟨acc,N,u⟩:=U
  have Y:acc.length<=1000000:=by
   have:=AiO List.length u
   rw[AhF]at this
   have Z:(pkF p q has).length<=p.length:=List.length_filter_le _ _
   omega
  refine Ov N Y _ d false true fun H' E=>W H' ⟨_,E,?_⟩
  rw[<-u,pk_b has J]
  simp
 ·obtain⟨acc,N,u⟩:=U
  have Y:acc.length<=1000000:=by
   have:=AiO List.length u
   rw[AhF]at this
   have Z:(pkF p q has).length<=p.length:=List.length_filter_le _ _
   omega
  refine Ov N Y c d true true fun H' E=>W H' ⟨_,E,?_⟩
  rw[<-u,pk_ab has hx hy h1]
  cases has <;> simp
 ·obtain⟨acc,N,u⟩:=U
  have u:acc=pkF p q has:=by rw[<-u,AcX,Ail]
  obtain⟨o,b,hb,r1,r2,r3,r4⟩:=AcW N
  rw[u]at r3 r4
  generalize zP (pkF p q has)=z at *
  simp (maxSteps:=2000000) (disch:=omega) [Ab,r1,hb,r3,Al r2,r2]
theorem Sj {v w:I}(hv:IsSl v (Ae p))(Z:IsSl w (Ae q))(W:right p=true)(Q:right q=true)(H:Hp):Gives G 38 [.m v,.m w] H (.m (.b (Ael p q))) H:=by
 obtain⟨wp,_,lp⟩:=Ay W
 obtain⟨wq,_,lq⟩:=Ay Q
 have g1:=fun H=>En hv (by omega) H
 have U:=fun H=>En Z (by omega) H
 rw[W]at g1
 rw[Q]at U
 have g3:=fun H=>Agq hv Z W Q true H
 have Y:∀H,Gives G 70 [.m v,.m w] H (.m (zP (pkF p q true))) H:=fun H=>by
  generalize zP (pkF p q true)=z at *
  refine Af rfl rfl rfl rfl rfl ?_
  simp (maxSteps:=2000000) (disch:=omega) [cl (g3 _)]
 have u:=(Ch (pkF p q true)).rules
 simp only[show (Ae (pkF p q true)).length=(pkF p q true).length from by simp[Ae]]at u
 have e:Ael p q=decide ((pkF p q true).length=0):=by
  by_cases h:dsj p q
  ·have N:=(HN p q).2 h
   have J:=ZY.2 h
   rw[N,J]
   rfl
  ·have N:¬Ael p q=true:=fun E=>h ((HN p q).1 E)
   have J:¬pkF p q true=[]:=fun E=>h (ZY.1 E)
   rw[Bool.not_eq_true]at N
   rw[N]
   symm
   refine AhB fun E=>J (AhT E)
 rw[e]
 have hll:((pkF p q true).length:Int)<=5000:=by
  have J:(pkF p q true).length<=p.length:=List.length_filter_le _ _
  omega
 generalize zP (pkF p q true)=z at *
 generalize (pkF p q true).length=m at *
 refine Af rfl rfl rfl rfl rfl ?_
 by_cases hm:m=0
 ·simp (maxSteps:=2000000) (disch:=omega) [cl (g1 _),cl (U _),cl (Y _),Ad,u,hm]
 ·simp (maxSteps:=2000000) (disch:=omega) [cl (g1 _),cl (U _),cl (Y _),Ad,u,hm]
end Go.Mx.Tryz
namespace Go.Mx.Tryz
def onV (xs:List I):L0:=xs.map fun x=>[.m x]
@[simp] theorem DM (xs:List I):(onV xs).length=xs.length:=by simp[onV]
theorem Ox (xs ys:List I):onV xs++onV ys=onV (xs++ys):=by simp[onV]
variable {xs:List I} {i:Nat} {x:I}
theorem Ci (h:xs[i]? = some x):nth (onV xs) i=some [.m x]:=by
 rw[AL]
 simp[onV,h]
theorem Ade (xs:List I)(a n:Nat):((onV xs).drop a).take n=onV ((xs.drop a).take n):=by
 unfold onV
 rw[List.map_take,List.map_drop]
def on1 (xs:List I):LT:=xs.map fun x=>[x]
@[simp] theorem Oy (xs:List I):(on1 xs).length=xs.length:=by simp[on1]
theorem Vi (h:xs[i]? = some x):nth (on1 xs) i=some [x]:=by
 rw[AL]
 simp[on1,h]
def Aej (xs:List I):Prop:=∀x,x∈xs->BL (.m x)=true
theorem IY (h:Aej xs):((onV xs).all fun e=>Nat.beq e.length 1&&e.all BL)=true:=by
 rw[AhE]
 intro e u
 obtain⟨x,E,rfl⟩:=AhP.1 u
 simp[h x E]
theorem Adf (xs:List I):((onV xs).all fun e=>e.all isM)=true:=by
 rw[AhE]
 intro e u
 obtain⟨x,E,rfl⟩:=AhP.1 u
 rfl
def LR (ty:Nat)(xs:List I)(o:V)(H:Hp)(ok:Nat->Prop):Prop:=(xs=[]/\o=.m (.nl 4))\/(xs≠[] /\ ∃r,ok r/\o=.sl r xs.length 1 0 xs.length false/\nth H r=some (.cs ty 1 (onV xs) 0 false))
variable {ty:Nat} {H:Hp} {ok:Nat->Prop}
theorem LR.nil:LR ty [] (.m (.nl 4)) H ok:=.inl ⟨rfl,rfl⟩
variable {o:V}
theorem LR.keep {H':Hp}{ok':Nat->Prop}(h:LR ty xs o H ok)(N:∀r,ok r->nth H' r=nth H r)(Q:∀r,ok r->r<H.length->ok' r):LR ty xs o H' ok':=by
 rcases h with h|⟨u,r,J,e,E⟩
 ·exact .inl h
 ·exact .inr ⟨u,r,Q r J (AO E),e,by rw[N r J];exact E⟩
theorem LR.nf (h:LR ty xs o H ok):Az o=true/\AA o=some [o]/\BL o=true/\Ar (.len false) [o]=some (J0 (xs.length:Nat)):=by
 rcases h with ⟨rfl,rfl⟩|⟨u,r,J,rfl,E⟩
 ·exact⟨rfl,rfl,rfl,rfl⟩
 ·exact⟨rfl,rfl,rfl,rfl⟩
theorem LR.rd (h:LR ty xs o H ok)(E:xs[i]? = some x):∃p,Ar (.ixa 1) [o,J0 (i:Int)]=some p/\Az p=true /\ ∀B,readX ⟨B,H⟩ (.ld false 1) [p]=some (.m x):=by
 have u:=(Ahq.1 E).1
 rcases h with ⟨rfl,rfl⟩|⟨J,r,Q,rfl,N⟩
 ·simp at u
 ·refine⟨.pt r xs.length i 0,?_,rfl,fun B=>?_⟩
  ·simp (maxSteps:=2000000) (disch:=omega) []
  ·simp (maxSteps:=2000000) (disch:=omega) [Ab,Ci E,N]
theorem LR.elems (h:LR ty xs o H ok):Mx.elems H o=some (onV xs):=by
 rcases h with ⟨rfl,rfl⟩|⟨E,r,J,rfl,u⟩
 ·rfl
 ·rw[DZ,u]
  show gd (Nat.ble 0 xs.length&&Nat.beq 1 1) (some (((onV xs).drop 0).take xs.length))=_
  rw[Bg,AhA (Ahy _),AiA,AhJ (by simp)]
  rfl
variable {b:Nat}
theorem LR.push {n0:Nat}(h:LR ty xs o H (n0 <= ·))(Y:n0<=H.length)(hb:b<=1000){ys:List I}(hl:xs.length+ys.length<=100000000)(Z:Aej ys):∃U J,(∀B,Et ⟨B,H⟩ ty 1 b o (onV ys)=some (U,⟨B,J⟩))/\Az U=true/\LR ty (xs++ys) U J (n0 <= ·)/\n0<=J.length/\H.length<=J.length /\ ∀r,r<n0->nth J r=nth H r:=by
 have E:(xs.length+ys.length)*b<=100000000*1000:=Nat.mul_le_mul hl hb
 cases ys with
 | nil =>
  refine⟨o,H,fun B=>?_,h.nf.1,by rw[Ail];exact h,Y,Ahu _,fun _ _=>rfl⟩
  rcases h with ⟨rfl,rfl⟩|⟨W,r,N,rfl,Q⟩ <;> rfl
 | cons y t =>
  rcases h with ⟨rfl,rfl⟩|⟨W,r,N,rfl,Q⟩
  ·refine⟨.sl H.length (y::t).length 1 0 (y::t).length false,H++[.cs ty 1 (onV (y::t)) 0 false],fun B=>?_,rfl,.inr ⟨by simp,H.length,Y,rfl,CQ H _ 0⟩,by simp;omega,by simp,fun r N=>BH _ _ _ (by omega)⟩
   show Bs ⟨B,H⟩ ty 1 b (onV (y::t))=_
   rw[CI,IY Z,DM]
   have:Nat.ble ((y::t).length*b) 140737488355328=true:=by
    rw[Bg]
    refine AhA ?_
    simp only[Aic,Air]at E
    omega
   rw[this]
   rfl
  ·have u:=fun B=>Cu (M:=⟨B,H⟩) (bytes:=b) (xs:=onV (y::t)) Q (by simp[onV]) (by simp only[DM];omega) (IY Z)
   simp only[DM,Ox]at u
   have el:xs.length+(y::t).length=(xs++y::t).length:=by simp
   rw[el]at u
   refine⟨_,_,u,rfl,.inr ⟨by simp,r,N,rfl,Bc (AO Q)⟩,by simp;omega,by simp,fun q hq=>AF fun e=>?_⟩
   subst e
   have:n0<=r:=N
   omega
def zL (xs:List I):I:=if xs=[] then .nl 4 else .sl (on1 xs)
theorem Oj (xs:List I):IsSl (zL xs) (on1 xs):=by
 unfold zL
 split
 ·rename_i h;subst h;exact AS
 ·exact AX _
theorem Afx (xs:List I):BL (.m (zL xs))=true:=by
 unfold zL
 split <;> rfl
theorem optV (k:Nat)(H:Hp):∀xs:List I,Ah (fun e=>Ah (view (k+1) H) e) (onV xs)=some (on1 xs)
 | []=>rfl
 | x::r=>by
  show Option.bind (some [x]) _=_
  simp only[Ahz]
  show Option.bind (Ah _ (onV r)) _=_
  rw[optV k H r]
  rfl
theorem LR.view (h:LR ty xs o H ok)(k:Nat):Mx.view (k+2) H o=some (zL xs):=by
 have E:=h.elems
 rcases h with ⟨rfl,rfl⟩|⟨u,r,N,rfl,J⟩
 ·rfl
 ·show Option.bind (Mx.elems H (.sl r xs.length 1 0 xs.length false)) _=_
  rw[E]
  show Option.bind (Ah (fun e=>Ah (Mx.view (k+1) H) e) (onV xs)) _=_
  rw[optV]
  unfold zL
  rw[Aht u]
  rfl
theorem OH {r:Nat}{fz:Bool}(h:nth H r=some (.cs ty 1 (onV xs) b fz)):AY [r] H=some (H.set r (.cs ty 1 (onV xs) b true)):=by
 show Option.bind (nth H r) _=_
 rw[h]
 show Option.bind (gd ((onV xs).all fun e=>e.all isM) (some (Row.cs ty 1 (onV xs) b true))) _=_
 rw[Adf]
 show Option.bind (AN H r _) _=_
 rw[AB _ _ _ (AO h)]
 rfl
theorem LR.viewR (h:LR ty xs o H ok):Mx.viewR H o=some (.m (zL xs)):=by
 have E:=h.view 18
 rcases h with ⟨rfl,rfl⟩|⟨u,r,N,rfl,J⟩
 ·rfl
 ·show (Mx.view 20 H (.sl r xs.length 1 0 xs.length false)).bind _=_
  rw[E]
  rfl
theorem Cn {call:Bt}{M:Mem}{u:Nat}{s x:V}{e:L0}(h:Mx.elems M.H x=some e):An call M (.app ty u b) [s,x]=Et M ty u b s e:=by
 cases x with
 | m x =>
  cases x with
  | s l=>simp[Mx.elems]at h
  | _=>simp only[An];rw[h];rfl
 | _=>simp only[An];rw[h];rfl
open Go.Lib Go.Proofs
variable {us:List I}
theorem YH (hi:i<=us.length):∃s,Ar (.slc 1 false true false) [.m (zL us),J0 (i:Int)]=some s/\Az s=true/\Ar (.len false) [s]=some (J0 (i:Nat)) /\ ∀(k:Nat) x,k<i->us[k]? = some x -> ∃p,Ar (.ixa 1) [s,J0 (k:Int)]=some p/\Az p=true /\ ∀B H,readX ⟨B,H⟩ (.ld false 1) [p]=some (.m x):=by
 unfold zL
 split
 ·rename_i h
  subst h
  have:i=0:=by simpa using hi
  subst this
  exact⟨_,rfl,rfl,rfl,fun k x J=>absurd J (by omega)⟩
 ·refine⟨.m (.sl ((on1 us).take i)),?_,rfl,?_,fun k x J U=>⟨.m (.pt [x]),?_,rfl,fun B H=>?_⟩⟩
  ·have u:(on1 us).length=us.length:=by simp[on1]
   have E:Ws 1 (on1 us)=true:=by cases us <;> rfl
   show gd (Ws 1 (on1 us)) (((bnd (on1 us).length (J0 (i:Int))).bind fun h=>some ((0:Nat),h)).bind fun p=>some (V.m (.sl (((on1 us).drop p.1).take (p.2-p.1)))))=_
   have N:bnd (on1 us).length (J0 (i:Int))=some i:=by
    show gd (Nat.ble i (on1 us).length) (some i)=_
    rw[u,Bg,AhA hi]
    rfl
   rw[E,N]
   rfl
  ·have u:(on1 us).length=us.length:=by simp[on1]
   show some (V.m (J4 (((on1 us).take i).length:Nat)))=_
   rw[AhH,u,Nat.min_eq_left hi]
  ·have Q:nth ((on1 us).take i) k=some [x]:=by rw[AL,AhX,Ahv J];simp[on1,U]
   have u:(on1 us).length=us.length:=by simp[on1]
   have W:=(AX ((on1 us).take i)).rules.2.1 1 (J0 (k:Int))
   rw[W,AhH,u,Nat.min_eq_left hi]
   simp (maxSteps:=2000000) (disch:=omega) [Q]
  ·rfl
theorem VW {ps:List (List Ce)}(hP:Gs us ps)(hpr:∀p,p∈ps->right p=true)(hl:us.length<=1000000)(H:Hp):∃b:Bool,(b=true↔Ev ps)/\Gives G 20 [.m (zL us)] H (.m (.b b)) H:=by
 have hr:=(Oj us).rules
 simp only[show (on1 us).length=us.length from by simp[on1]]at hr
 have key:∃x H',Gives G 20 [.m (zL us)] [] x H'/\(H'=[] /\ ∃b:Bool,(b=true↔Ev ps)/\x=.m (.b b)):=by
  refine AJ ?_
  refine Cs rfl rfl rfl rfl rfl ?_
  generalize hQ:(fun(x:V) (H':Hp)=>H'=[] /\ ∃b:Bool,(b=true↔Ev ps)/\x=.m (.b b))=Q
  have q1:Ev ps->Q (.m (.b true)) []:=fun h=>by rw[<-hQ];exact⟨rfl,true,⟨fun _=>h,fun _=>rfl⟩,rfl⟩
  have q0:¬Ev ps->Q (.m (.b false)) []:=fun h=>by rw[<-hQ];exact⟨rfl,false,⟨fun h2=>(by cases h2),fun h2=>absurd h2 h⟩,rfl⟩
  clear hQ
  simp (maxSteps:=2000000) (disch:=omega) [hr]
  refine(?key:∀(i:Nat) (B:LE),i<=us.length->Ev (ps.take i)->Run G c20_B1 (S20_1 (.m (zL us)) (.m (zL us)) (J0 (us.length:Int)) (J0 (i:Int)) B []) _) 0 _ (Ahy _) List.Pairwise.nil
  refine Bj (fun i:Nat=>us.length-i) fun i ih B hi hd=>?_
  unfold c20_B1
  by_cases a0:i<us.length
  ·have a1:(i:Int)<us.length:=by omega
   have wi:=J1 i (by omega)
   obtain⟨u,hu⟩:∃u,us[i]? = some u:=⟨_,Ahr a0⟩
   obtain⟨q,E⟩:∃q,ps[i]? = some q:=⟨_,Ahr (by have:=hP.1;omega)⟩
   obtain⟨sv,b1,b2,b3,b4⟩:=YH (us:=us) (Nat.le_of_lt a0)
   have hsq:=hP.2 i u q hu E
   have hrq:=hpr q (Ahw E)
   have hn:nth (on1 us) i=some [u]:=by rw[AL];simp[on1,hu]
   simp (maxSteps:=2000000) (disch:=omega) [hr,a1,hn,b1,b3,Al b2]
   refine(?key4:∀(k:Nat) (B:LE),k<=i->(∀(j:Nat) p,j<k->ps[j]? = some p->dsj p q)->Run G c20_B0 (S20_0 (.m (zL us)) (.m u) (.m (zL us)) (J0 (us.length:Int)) (J0 (i:Int)) sv (J0 (i:Int)) (J0 (k:Int)) B []) _) 0 _ (Ahy _) (fun j p hj=>by omega)
   clear B
   refine Bj (fun k:Nat=>i-k) fun k ihk B hk Z=>?_
   unfold c20_B0
   by_cases a2:k<i
   ·have U:(k:Int)<i:=by omega
    have wk:=J1 k (by omega)
    obtain⟨w,hw⟩:∃w,us[k]? = some w:=⟨_,Ahr (by omega)⟩
    obtain⟨p,N⟩:∃p,ps[k]? = some p:=⟨_,Ahr (by have:=hP.1;omega)⟩
    obtain⟨pk,c1,c2,c3⟩:=b4 k w a2 hw
    have hsp:=hP.2 k w p hw N
    have hrp:=hpr p (Ahw N)
    have gd:=fun H=>Sj hsq hsp hrq hrp H
    by_cases J:dsj p q
    ·rw[(HN q p).2 (QS J)]at gd
     have Y:=fun B'=>ihk (k+1) (by omega) B' (by omega) (fun j p' hj W=>by
      by_cases e:j<k
      ·exact Z j p' e W
      ·have:j=k:=by omega
       subst this
       rw[N]at W
       cases W
       exact J)
     simp (maxSteps:=2000000) (disch:=omega) [U,c1,c3,cl (gd _),wk,-Int.natCast_add]
     exact Y _
    ·have hb:Ael q p=false:=by rw[<-Bool.not_eq_true];exact fun hh=>J (QS ((HN q p).1 hh))
     rw[hb]at gd
     have Y:=q0 (Ady a2 N E J)
     simp (maxSteps:=2000000) (disch:=omega) [U,c1,c3,cl (gd _)]
     exact Y
   ·have:k=i:=by omega
    subst this
    have Y:=fun B'=>ih (k+1) (by omega) B' (by omega) ((VV E).2 ⟨hd,Z⟩)
    simp (maxSteps:=2000000) (disch:=omega) [wi,-Int.natCast_add]
    exact Y _
  ·have:i=us.length:=by omega
   subst this
   rw[AhJ (by have:=hP.1;omega)]at hd
   have Y:=q1 hd
   simp (maxSteps:=2000000) (disch:=omega) []
   exact Y
 obtain⟨x,H',g,rfl,b,hb,rfl⟩:=key
 exact⟨b,hb,AQ (H:=H) (is:=[zL us]) rfl rfl g rfl (.inl ⟨rfl,by unfold zL;split <;> rfl⟩)⟩
variable {t:TreeC} {l:List Sh}
theorem Ql {h n zs:I}{zx:V}{es fs:LT}{xs:List St5}(hT:TreeV t h n es)(hs:IsSl zs fs)(sv:ET fs l)(hnx:Az zx=true)(W:Ar (.len false) [zx]=some (J0 (xs.length:Int)) /\ ∀(esz:Nat) (i:V),Ar (.ixa esz) [zx,i]=(idx xs.length i).bind fun j=>(nth (DN xs) j).bind fun e=>gd (e.length.beq esz) (some (V.m (I.pt e))))(ll:l.length<=1000000)(lx:xs.length<=1000000)(H:Hp):∃v H',Gives G 15 [.m (.ag [J4 t.states,h,n]),.m zs,zx] H v H'/\(H.length<=H'.length/\(∀r,r<H.length->nth H' r=nth H r)/\((¬ptE t l xs=0/\v=.tu [.m (.nl 4),J0 (ptE t l xs)])\/(ptE t l xs=0 /\ ∃us o,v=.tu [o,J0 0]/\LR 40 us o H' (H.length <= ·)/\Gs us (plP t l xs)))):=by
 have hS:=CB hT
 have gq:=fun H=>KO hT H
 have Y:=hs.rules
 rw[sv.1]at Y
 generalize hE:ptE t l xs=E
 unfold ptE at hE
 refine AJ ?_
 refine Bh mono rfl rfl rfl (by simp[hnx]) rfl ?_
 generalize hQ:(fun(v:V) (H':Hp)=>H.length<=H'.length/\(∀r,r<H.length->nth H' r=nth H r)/\((¬E=0/\v=.tu [.m (.nl 4),J0 E])\/(E=0 /\ ∃us o,v=.tu [o,J0 0]/\LR 40 us o H' (H.length <= ·)/\Gs us (plP t l xs))))=Q
 have qe:∀e H',E=e -> ¬e=0->H.length<=H'.length->(∀r,r<H.length->nth H' r=nth H r)->Q (.tu [.m (.nl 4),J0 e]) H':=fun e H' h1 h2 h3 h4=>by rw[<-hQ];exact⟨h3,h4,.inl ⟨by rw[h1];exact h2,by rw[h1]⟩⟩
 have qk:∀us o H',E=0->H.length<=H'.length->(∀r,r<H.length->nth H' r=nth H r)->LR 40 us o H' (H.length <= ·)->Gs us (plP t l xs)->Q (.tu [o,J0 0]) H':=fun us o H' h1 h3 h4 h5 h6=>by rw[<-hQ];exact⟨h3,h4,.inr ⟨h1,us,o,rfl,h5,h6⟩⟩
 clear hQ
 by_cases hq:Bb t=true
 rotate_left
 ·rw[Aht hq]at hE
  have U:=qe 11 H hE.symm (by decide) (Ahu _) (fun _ _=>rfl)
  rw[Bool.not_eq_true]at hq
  rw[hq]at gq
  simp (maxSteps:=2000000) (disch:=omega) [cl (gq _)]
  exact U
 rw[Ahv hq]at hE
 rw[hq]at gq
 by_cases hsz:l.length<=8/\xs.length<=16
 rotate_left
 ·rw[Aht hsz]at hE
  have U:=qe 6 H hE.symm (by decide) (Ahu _) (fun _ _=>rfl)
  by_cases h1:8<l.length
  ·simp (maxSteps:=2000000) (disch:=omega) [cl (gq _),Y,show (8:Int)<l.length from by omega]
   exact U
  ·have h2:16<xs.length:=by omega
   simp (maxSteps:=2000000) (disch:=omega) [cl (gq _),Y,W,show ¬(8:Int)<l.length from by omega,show (16:Int)<xs.length from by omega]
   exact U
 rw[Ahv hsz]at hE
 have s1:¬8<l.length:=by omega
 have s2:¬(8:Int)<l.length:=by omega
 have s3:¬16<xs.length:=by omega
 have s4:¬(16:Int)<xs.length:=by omega
 simp (maxSteps:=2000000) (disch:=omega) [cl (gq _),Y,W,Al hnx,s2,s4]
 refine(?key2:∀(i:Nat) (us:List I) (o:V) (B:LE) (H1:Hp),i<=xs.length->plE t l xs=plE t l (xs.drop i)->Gs us (plP t l (xs.take i))->LR 40 us o H1 (H.length <= ·)->H.length<=H1.length->(∀r,r<H.length->nth H1 r=nth H r)->getB B 3=some [J0 t.states,.m h,.m n]->Run G c15_B0 (S15_0 (.m zs) (.fa 3 0) o zx (J0 (xs.length:Int)) (J0 (i:Int)) B H1) _) 0 [] _ _ H (Ahy _) rfl ⟨rfl,fun i u q hi=>by simp at hi⟩ (.inl ⟨rfl,rfl⟩) (Ahu _) (fun _ _=>rfl) rfl
 refine Bj (fun i:Nat=>xs.length-i) fun i ih us o B H1 hi hpe hP hL J N hB3=>?_
 unfold c15_B0
 obtain⟨hnf,hcel,hone,hlen⟩:=hL.nf
 cases hx2:xs[i]? with
 | some x =>
  have hlt:=(Ahq.1 hx2).1
  have hlt':(i:Int)<xs.length:=by omega
  have hn:=Je hx2
  obtain⟨u,hu,gp⟩:=AcR hT hs sv x
  have wi:=J1 i (by omega)
  have Z:=Qn (t:=t) (l:=l) hx2
  simp only[CV]at gp
  by_cases he:(plF t l x).2=0
  ·rw[Ahv he]at Z
   rw[he]at gp
   have hul:us.length=i:=by rw[hP.1];unfold plP;rw[AhD,AhH];omega
   obtain⟨o1,H2,ha,hn1,hL2,_,hlen2,hkp2⟩:=hL.push J (b:=24) (by omega) (ys:=[u]) (by simp;omega) (fun y hy=>by rw[AhQ.1 hy];exact Cx hu)
   have ha:∀B,Et ⟨B,H1⟩ 40 1 24 o [[.m u]]=some (o1,⟨B,H2⟩):=ha
   have hb1:=fun c B H=>Wj hu c B H
   have hP2:Gs (us++[u]) (plP t l (xs.take (i+1))):=by rw[Qm hx2];exact Gj hP hu
   have U:=fun B'=>ih (i+1) (by omega) (us++[u]) o1 B' H2 (by omega) (by rw[hpe,Z]) hP2 hL2 (by omega) (fun r hr=>by rw[hkp2 r hr];exact N r hr)
   simp (maxSteps:=2000000) (disch:=omega) [Ab,W,hlt',hn,hB3,cl (gp _),hb1,ha,wi,Al hn1,-Int.natCast_add]
   exact U _ (by simpa using hB3)
  ·rw[Aht he]at Z
   have U:=qe (plF t l x).2 H1 (by rw[<-hE,hpe,Z]) he J N
   generalize (plF t l x).2=e at *
   simp (maxSteps:=2000000) (disch:=omega) [Ab,W,hlt',hn,hB3,cl (gp _),he]
   exact U
 | none =>
  have:i=xs.length:=by have:=Ahx.1 hx2;omega
  subst this
  clear ih hx2 hi
  rw[AhS]at hP
  have hpe0:plE t l xs=0:=by rw[hpe,Aik];rfl
  have U:=qk us o H1 (by rw[<-hE,hpe0]) J N hL hP
  simp (maxSteps:=2000000) (disch:=omega) [Al hnf]
  exact⟨hnf,U⟩
theorem Yn {h n zs zx:I}{es E:LT}{xs:List St5}(Q:TreeV t h n es)(hs:IsSl zs E)(N:ET E l)(W:IsSl zx (DN xs))(J:l.length<=1000000)(U:xs.length<=1000000)(H:Hp):∃v H',Gives G 15 [.m (.ag [J4 t.states,h,n]),.m zs,.m zx] H v H'/\(H.length<=H'.length/\(∀r,r<H.length->nth H' r=nth H r)/\((¬ptE t l xs=0/\v=.tu [.m (.nl 4),J0 (ptE t l xs)])\/(ptE t l xs=0 /\ ∃us o,v=.tu [o,J0 0]/\LR 40 us o H' (H.length <= ·)/\Gs us (plP t l xs)))):=by
 have u:=W.rules
 rw[Gq]at u
 exact Ql Q hs N rfl ⟨u.1,u.2.1⟩ J U H
end Go.Mx.Tryz
namespace Go.Mx.Tryz
def iI (l:List Int):List I:=l.map (.i .i64)
@[simp] theorem Dr (l:List Int):(iI l).length=l.length:=by simp[iI]
theorem Dt {l:List Int}{i:Nat}{x:Int}(h:l[i]? = some x):(iI l)[i]? = some (J4 x):=by simp[iI,h]
theorem MQ (l:List Int):on1 (iI l)=BR l:=by
 unfold on1 iI BR
 rw[Aiy]
 rfl
theorem Vr (l:List Int):Aej (iI l):=fun x u=>by
 obtain⟨y,_,rfl⟩:=AhP.1 u
 rfl
theorem VJ (l m:List Int):iI l++iI m=iI (l++m):=by simp[iI]
def zI (l:List Int):I:=zL (iI l)
theorem zI_sl (l:List Int):IsSl (zI l) (BR l):=by
 have:=Oj (iI l)
 rwa[MQ]at this
def AG:V->Option Nat
 | .sl r _ _ _ _ _=>some r
 | _=>none
abbrev HT:Nat->Prop:=fun _=>True
variable {ty:Nat} {xs:List I} {o:V} {H:Hp}
theorem LR.push1 {b:Nat}(h:LR ty xs o H HT)(hb:b<=1000){y:I}(hl:xs.length+1<=100000000)(ha:BL (.m y)=true):∃U Q,(∀B,An (fun _ _ _=>none) ⟨B,H⟩ (.app ty 1 b) [o,.ls [[y]]]=some (U,⟨B,Q⟩))/\Az U=true/\LR ty (xs++[y]) U Q HT/\H.length<=Q.length/\(∀r,r<H.length->AG o≠some r->nth Q r=nth H r)/\(∀r,AG U=some r->AG o=some r\/(r=H.length/\Q.length=H.length+1)):=by
 have aq:Aej [y]:=fun u hu=>by rw[AhQ]at hu;subst hu;exact ha
 have N:(xs.length+1)*b<=100000000*1000:=Nat.mul_le_mul hl hb
 rcases h with ⟨rfl,rfl⟩|⟨hne,r,W,rfl,Z⟩
 ·refine⟨.sl H.length 1 1 0 1 false,H++[.cs ty 1 (onV [y]) 0 false],fun B=>(Cn rfl).trans ?_,rfl,.inr ⟨by simp,H.length,Aii,rfl,CQ H _ 0⟩,by simp,fun r W _=>BH _ _ _ W,fun r W=>.inr ⟨(Aiw W).symm,by simp⟩⟩
  show Bs ⟨B,H⟩ ty 1 b (onV [y])=_
  rw[CI,IY aq,DM]
  have:Nat.ble ([y].length*b) 140737488355328=true:=by
   rw[Bg]
   refine AhA ?_
   simp only[Aic,Aib,Air]at N ⊢
   omega
  rw[this]
  rfl
 ·have E:=fun B=>Cu (M:=⟨B,H⟩) (bytes:=b) (xs:=onV [y]) Z (by simp[onV]) (by simp only[DM,Aiu];omega) (IY aq)
  simp only[DM,Ox]at E
  have el:xs.length+[y].length=(xs++[y]).length:=by simp
  rw[el]at E
  refine⟨_,_,fun B=>(Cn rfl).trans (E B),rfl,.inr ⟨by simp,r,Aii,rfl,Bc (AO Z)⟩,by simp,fun q Y J=>AF fun e=>?_,fun q Y=>.inl Y⟩
  subst e
  exact J rfl
theorem LR.keepR {H':Hp}(h:LR ty xs o H HT)(J:∀r,AG o=some r->r<H.length->nth H' r=nth H r):LR ty xs o H' HT:=by
 rcases h with h|⟨u,r,N,e,E⟩
 ·exact .inl h
 ·subst e
  exact .inr ⟨u,r,Aii,rfl,by rw[J r rfl (AO E)];exact E⟩
variable {ok:Nat->Prop}
theorem LR.row_lt (h:LR ty xs o H ok){r:Nat}(e:AG o=some r):r<H.length:=by
 rcases h with ⟨_,rfl⟩|⟨u,q,J,rfl,E⟩
 ·cases e
 ·cases e
  exact AO E
theorem LR.row (h:LR ty xs o H ok){r:Nat}(e:AG o=some r):nth H r=some (.cs ty 1 (onV xs) 0 false):=by
 rcases h with ⟨_,rfl⟩|⟨u,q,J,rfl,E⟩
 ·cases e
 ·cases e
  exact E
open Go.Lib Go.Proofs
def okE (w:Nat)(es:LT):Prop:=∀e,e∈es->e.length=w /\ ∀x,x∈e->BL (.m x)=true
@[simp] theorem Fj (es:LT):(Bn es).length=es.length:=by simp[Bn]
theorem QK (xs ys:LT):Bn xs++Bn ys=Bn (xs++ys):=by simp[Bn]
variable {w:Nat} {es:LT}
theorem KZ (h:okE w es):((Bn es).all fun e=>Nat.beq e.length w&&e.all BL)=true:=by
 rw[AhE]
 intro e u
 obtain⟨x,Q,rfl⟩:=AhP.1 u
 obtain⟨U,N⟩:=h x Q
 rw[Ahs,AhD,U,AhE]
 refine⟨Nat.beq_refl _,fun v E=>?_⟩
 obtain⟨y,J,rfl⟩:=AhP.1 E
 exact N y J
theorem YJ (es:LT):((Bn es).all fun e=>e.all isM)=true:=by
 rw[AhE]
 intro e u
 obtain⟨x,N,rfl⟩:=AhP.1 u
 rw[AhE]
 intro v E
 obtain⟨y,J,rfl⟩:=AhP.1 E
 rfl
def LK (ty w:Nat)(es:LT)(o:V)(H:Hp):Prop:=(es=[]/\o=.m (.nl 4))\/(es≠[] /\ ∃r,o=.sl r es.length w 0 es.length false/\nth H r=some (.cs ty w (Bn es) 0 false))
theorem LK.nil:LK ty w [] (.m (.nl 4)) H:=.inl ⟨rfl,rfl⟩
theorem LK.nf (h:LK ty w es o H):Az o=true/\AA o=some [o]/\BL o=true/\Ar (.len false) [o]=some (J0 (es.length:Nat)):=by
 rcases h with ⟨rfl,rfl⟩|⟨u,r,rfl,E⟩
 ·exact⟨rfl,rfl,rfl,rfl⟩
 ·exact⟨rfl,rfl,rfl,rfl⟩
theorem LK.elems (h:LK ty w es o H):Mx.elems H o=some (Bn es):=by
 rcases h with ⟨rfl,rfl⟩|⟨E,r,rfl,u⟩
 ·rfl
 ·rw[DZ,u]
  show gd (Nat.ble 0 es.length&&Nat.beq w w) (some (((Bn es).drop 0).take es.length))=_
  rw[Bg,AhA (Ahy _),AiA,AhJ (by simp),Nat.beq_refl]
  rfl
theorem LK.push {b:Nat}{xs:LT}(h:LK ty w xs o H)(hw:1<=w)(Y:b<=1000){ys:LT}(hl:xs.length+ys.length<=100000000)(W:okE w ys):∃U J,(∀B,Et ⟨B,H⟩ ty w b o (Bn ys)=some (U,⟨B,J⟩))/\Az U=true/\LK ty w (xs++ys) U J/\H.length<=J.length /\ ∀r,¬AG o=some r->r<H.length->nth J r=nth H r:=by
 have E:(xs.length+ys.length)*b<=100000000*1000:=Nat.mul_le_mul hl Y
 cases ys with
 | nil =>
  refine⟨o,H,fun B=>?_,h.nf.1,by rw[Ail];exact h,Ahu _,fun _ _ _=>rfl⟩
  rcases h with ⟨rfl,rfl⟩|⟨N,r,rfl,Q⟩ <;> rfl
 | cons y t =>
  rcases h with ⟨rfl,rfl⟩|⟨N,r,rfl,Q⟩
  ·refine⟨.sl H.length (y::t).length w 0 (y::t).length false,H++[.cs ty w (Bn (y::t)) 0 false],fun B=>?_,rfl,.inr ⟨by simp,H.length,rfl,CQ H _ 0⟩,by simp,fun r _ hr=>BH _ _ _ hr⟩
   show Bs ⟨B,H⟩ ty w b (Bn (y::t))=_
   rw[CI,KZ W,Fj]
   have h1:Nat.ble ((y::t).length*b) 140737488355328=true:=by
    rw[Bg]
    refine AhA ?_
    simp only[Aic,Air]at E
    omega
   have h2:Nat.ble 1 w=true:=by rw[Bg];exact AhA hw
   rw[h1,h2]
   rfl
  ·have u:=fun B=>Cu (M:=⟨B,H⟩) (bytes:=b) (xs:=Bn (y::t)) Q (by simp[Bn]) (by simp only[Fj];omega) (KZ W)
   simp only[Fj,QK]at u
   have el:xs.length+(y::t).length=(xs++y::t).length:=by simp
   rw[el]at u
   refine⟨_,_,u,rfl,.inr ⟨by simp,r,rfl,Bc (AO Q)⟩,by simp,fun q Z _=>AF fun e=>Z ?_⟩
   rw[e]
   rfl
def zK (es:LT):I:=if es=[] then .nl 4 else .sl es
theorem Afy (es:LT):IsSl (zK es) es:=by
 unfold zK
 split
 ·rename_i h;subst h;exact AS
 ·exact AX _
theorem optE (k:Nat)(H:Hp):∀e:List I,Ah (view (k+1) H) (e.map V.m)=some e
 | []=>rfl
 | x::r=>by
  show Option.bind (some x) _=_
  simp only[Ahz]
  show Option.bind (Ah _ (r.map V.m)) _=_
  rw[optE k H r]
  rfl
theorem optK (k:Nat)(H:Hp):∀es:LT,Ah (fun e=>Ah (view (k+1) H) e) (Bn es)=some es
 | []=>rfl
 | e::r=>by
  show Option.bind (Ah (view (k+1) H) (e.map V.m)) _=_
  rw[optE,Ahz]
  show Option.bind (Ah _ (Bn r)) _=_
  rw[optK k H r]
  rfl
theorem LK.view (h:LK ty w es o H)(k:Nat):Mx.view (k+2) H o=some (zK es):=by
 have E:=h.elems
 rcases h with ⟨rfl,rfl⟩|⟨u,r,rfl,J⟩
 ·rfl
 ·show Option.bind (Mx.elems H (.sl r es.length w 0 es.length false)) _=_
  rw[E]
  show Option.bind (Ah (fun e=>Ah (Mx.view (k+1) H) e) (Bn es)) _=_
  rw[optK]
  unfold zK
  rw[Aht u]
  rfl
noncomputable def jnF (L:List Ce):List Ce×Int:=if 5000<L.length then ([],6) else (AT L,0)
theorem Adv {v:I}{L:List Ce}(Z:IsSl v (Ae L))(hl:L.length<=1000000)(N:∀c,c∈L->CC c=true)(W:L.Pairwise apart)(H:Hp):Gives G 39 [.m v] H (.tu [.m (zP (jnF L).1),J0 (jnF L).2]) H:=by
 rcases Aal Z hl H with ⟨e,Q,_⟩|⟨_,q,E,u,g⟩
 ·rw[HS N]at Q
  cases Q
 ·rw[QD N]at E
  have U:=Wl u (Fl E W)
  have e:q=AT L:=KQ (Dc W) U (E.trans (Bq L).symm)
  have et:tw q=false:=Acn U
  have Y:q.length=L.length:=E.length_eq
  unfold Aeh at g
  rw[et,Aht (by simp),Y,e]at g
  unfold jnF
  split at g
  ·rename_i J
   rw[Ahv J]
   exact g
  ·rename_i J
   rw[Aht J]
   exact g
variable {ps:List (List Ce)}
theorem Gp (h:∀p,p∈ps->p.length<=5000):ps.flatten.length<=5000*ps.length:=by
 induction ps with
 | nil=>simp
 | cons p r E =>
  have N:=h p (AhR ..)
  have J:=E fun q u=>h q (Aij _ u)
  simp only[Ain,AhF,Aib]
  omega
theorem Ni {i:Nat}{q:List Ce}(h:ps[i]? = some q):(ps.take (i+1)).flatten=(ps.take i).flatten++q:=by
 rw[As h]
 simp
theorem YE (h:Ev ps):MZ ps=jnF ps.flatten:=by
 unfold MZ jnF
 rw[Ahv h]
theorem US {t:TreeC}{l:List Sh}{x:St5}(h:(plF t l x).2=0):((-2097152<=x.x/\x.x<=2097152)/\(-2097152<=x.y/\x.y<=2097152))/\0<=x.i/\x.i<l.length:=by
 unfold plF at h
 by_cases E:Bb t=true
 rotate_left
 ·rw[Aht E]at h;cases h
 rw[Ahv E]at h
 by_cases u:0<=x.i
 rotate_left
 ·rw[Aht u]at h;cases h
 rw[Ahv u]at h
 cases hx:l[x.i.toNat]? with
 | none=>rw[hx]at h;cases h
 | some s =>
  rw[hx]at h
  dsimp only at h
  have Q:=(Ahq.1 hx).1
  by_cases J:(0<=x.k/\x.k<=7)/\((0<=x.n/\x.n<=10000)/\Cw t s=true)
  rotate_left
  ·rw[Aht J]at h;cases h
  rw[Ahv J]at h
  refine⟨Aiv fun N=>?_,u,by omega⟩
  rw[MI N]at h
  cases h
variable {l:List I} {B n:Nat}
theorem Sg (h:Fits Go.Proofs.Tryz.prog B (n+2) 42 l):∃m:Int×Int×Int,l=[J4 m.1,J4 m.2.1,J4 m.2.2]:=by
 unfold Fits at h
 rw[Go.Proofs.Tryz.underlying42]at h
 simp only[Hb]at h
 obtain⟨W,Y,rfl,E,J,Q,rfl,u,N,U,rfl,k3,rfl⟩:=h
 obtain⟨a,rfl,_⟩:=BA E
 obtain⟨b,rfl,_⟩:=BA u
 obtain⟨c,rfl,_⟩:=BA k3
 exact⟨(a,b,c),rfl⟩
theorem YT (h:Fits Go.Proofs.Tryz.prog B (n+4) 44 l):∃(s:Sh) (v:I),l=shI v s/\IsSl v (Ae s.c)/\s.c.length<=B:=by
 unfold Fits at h
 rw[Go.Proofs.Tryz.underlying44]at h
 simp only[Hb]at h
 obtain⟨W,Y,rfl,E,Q,U,rfl,u,rfl⟩:=h
 obtain⟨p,v,rfl,J,N⟩:=Adw E
 obtain⟨m,rfl⟩:=Sg u
 exact⟨⟨p,m⟩,v,rfl,J,N⟩
theorem YS (h:Fits Go.Proofs.Tryz.prog B (n+2) 36 l):∃x:St5,l=CV x:=by
 unfold Fits at h
 rw[Go.Proofs.Tryz.underlying36]at h
 simp only[Hb]at h
 obtain⟨x1,y1,rfl,E,J,Y,rfl,u,W,Z,rfl,k3,N,y4,rfl,k4,Q,U,rfl,k5,rfl⟩:=h
 obtain⟨a,rfl,_⟩:=BA E
 obtain⟨b,rfl,_⟩:=BA u
 obtain⟨c,rfl,_⟩:=BA k3
 obtain⟨d,rfl,_⟩:=BA k4
 obtain⟨e,rfl,_⟩:=BA k5
 exact⟨⟨a,b,c,d,e⟩,rfl⟩
theorem VP (h:∀x,x∈es -> ∃d:St5,x=CV d):∃p:List St5,es=DN p:=by
 induction es with
 | nil=>exact⟨[],rfl⟩
 | cons x r u =>
  obtain⟨d,rfl⟩:=h x (by simp)
  obtain⟨p,rfl⟩:=u fun x E=>h x (by simp[E])
  exact⟨d::p,rfl⟩
theorem VQ (h:∀x,x∈es -> ∃(s:Sh) (v:I),x=shI v s/\IsSl v (Ae s.c)/\s.c.length<=B):∃l:List Sh,es.length=l.length /\ ∀(i:Nat) (s:Sh),l[i]? = some s->s.c.length<=B /\ ∃v,nth es i=some (shI v s)/\IsSl v (Ae s.c):=by
 induction es with
 | nil=>exact⟨[],rfl,fun i s u=>by simp at u⟩
 | cons x r Q =>
  obtain⟨s,v,rfl,J,E⟩:=h x (by simp)
  obtain⟨l,Y,N⟩:=Q fun x W=>h x (by simp[W])
  refine⟨s::l,by simp[Y],fun i U u=>?_⟩
  cases i with
  | zero=>cases u;exact⟨E,v,rfl,J⟩
  | succ i=>exact N i U (by simpa using u)
end Go.Mx.Tryz
namespace Go.Mx.Tryz
open Go.Lib
def Kp (H:Hp)(o:V)(H1:Hp)(o1:V):Prop:=H.length<=H1.length/\(∀r,r<H.length->AG o≠some r->nth H1 r=nth H r) /\ ∀r,AG o1=some r->AG o=some r\/H.length<=r
theorem Kp.refl (H:Hp)(o:V):Kp H o H o:=⟨Ahu _,fun _ _ _=>rfl,fun _ h=>.inl h⟩
variable {H:Hp} {o:V}
theorem Kp.trans {Q U:Hp}{W N:V}(h:Kp H o Q W)(k:Kp Q W U N):Kp H o U N:=by
 obtain⟨a1,a2,J⟩:=h
 obtain⟨b1,Z,Y⟩:=k
 refine⟨by omega,fun r E u=>?_,fun r E=>?_⟩
 ·rw[Z r (by omega) fun e=>?_,a2 r E u]
  rcases J r e with h|h
  ·exact u h
  ·omega
 ·rcases Y r E with h|h
  ·exact J r h
  ·exact .inr (by omega)
theorem LR.pushN {ty b:Nat}{xs:List I}(h:LR ty xs o H HT)(hb:b<=1000){ys:List I}(hl:xs.length+ys.length<=100000000)(ha:Aej ys):∃Q Y,(∀B,Et ⟨B,H⟩ ty 1 b o (onV ys)=some (Q,⟨B,Y⟩))/\Az Q=true/\LR ty (xs++ys) Q Y HT/\Kp H o Y Q:=by
 have J:(xs.length+ys.length)*b<=100000000*1000:=Nat.mul_le_mul hl hb
 cases ys with
 | nil =>
  refine⟨o,H,fun B=>?_,h.nf.1,by rw[Ail];exact h,.refl _ _⟩
  rcases h with ⟨rfl,rfl⟩|⟨U,r,N,rfl,W⟩ <;> rfl
 | cons y t =>
  rcases h with ⟨rfl,rfl⟩|⟨U,r,N,rfl,W⟩
  ·refine⟨.sl H.length (y::t).length 1 0 (y::t).length false,H++[.cs ty 1 (onV (y::t)) 0 false],fun B=>?_,rfl,.inr ⟨by simp,H.length,Aii,rfl,CQ H _ 0⟩,by simp,fun r N _=>BH _ _ _ N,fun r N=>.inr (by cases N;exact Ahu _)⟩
   show Bs ⟨B,H⟩ ty 1 b (onV (y::t))=_
   rw[CI,IY ha,DM]
   have:Nat.ble ((y::t).length*b) 140737488355328=true:=by
    rw[Bg]
    refine AhA ?_
    simp only[Aic,Air]at J
    omega
   rw[this]
   rfl
  ·have u:=fun B=>Cu (M:=⟨B,H⟩) (bytes:=b) (xs:=onV (y::t)) W (by simp[onV]) (by simp only[DM];omega) (IY ha)
   simp only[DM,Ox]at u
   have el:xs.length+(y::t).length=(xs++y::t).length:=by simp
   rw[el]at u
   refine⟨_,_,u,rfl,.inr ⟨by simp,r,Aii,rfl,Bc (AO W)⟩,by simp,fun q Z E=>AF fun e=>?_,fun q Z=>.inl Z⟩
   subst e
   exact E rfl
def bI (s:List Nat):List I:=s.map fun c:Nat=>.i .u8 (c:Int)
@[simp] theorem Rb (s:List Nat):(bI s).length=s.length:=by simp[bI]
theorem Rc (s t:List Nat):bI s++bI t=bI (s++t):=by simp[bI]
theorem KU (s:List Nat):Aej (bI s):=fun x u=>by
 obtain⟨y,_,rfl⟩:=AhP.1 u
 rfl
theorem Agt (s:List Nat):(s.map fun c:Nat=>[V.m (.i .u8 (c:Int))])=onV (bI s):=by simp[onV,bI]
theorem Vh:∀(d:List UInt8),d.map RG=onV (bI (d.map UInt8.toNat))
 | []=>rfl
 | c::r=>by
  show RG c::r.map RG=_
  rw[Vh r]
  rfl
theorem QY:∀(s:List Nat),(∀c,c∈s->c<256)->Fw (onV (bI s))=some s
 | [],_=>rfl
 | c::r,h=>by
  show gd (Nat.blt c 256) ((Fw (onV (bI r))).bind fun l=>some (c::l))=_
  rw[Og,AhA (h c (by simp)),QY r fun x u=>h x (by simp[u])]
  rfl
theorem Agf (nd:Nat)(h:nd<=24):([[V.m (.i .u8 0)],[V.m (.i .u8 0)],[V.m (.i .u8 0)],[V.m (.i .u8 0)],[V.m (.i .u8 0)],[V.m (.i .u8 0)],[V.m (.i .u8 0)],[V.m (.i .u8 0)],[V.m (.i .u8 0)],[V.m (.i .u8 0)],[V.m (.i .u8 0)],[V.m (.i .u8 0)],[V.m (.i .u8 0)],[V.m (.i .u8 0)],[V.m (.i .u8 0)],[V.m (.i .u8 0)],[V.m (.i .u8 0)],[V.m (.i .u8 0)],[V.m (.i .u8 0)],[V.m (.i .u8 0)],[V.m (.i .u8 0)],[V.m (.i .u8 0)],[V.m (.i .u8 0)],[V.m (.i .u8 0)]]:L0)=Hu [] (Array.replicate nd 0) (List.replicate (24-nd) [.m (.i .u8 0)]):=by
 unfold Hu
 have:(Array.replicate nd (0:UInt8)).toList.map RG=List.replicate nd [.m (.i .u8 0)]:=by simp[RG]
 rw[this,List.replicate_append_replicate]
 rw[show nd+(24-nd)=24 by omega]
 rfl
variable {s:List Nat}
theorem Ahh (h:LR 5 (bI s) o H HT)(hl:s.length<=1000000)(u:Nat)(hu:u<18446744073709551616):
  ∃J N,Gives G 256 [o,.m (.i .u64 u),J0 10] H J N/\Az J=true/\LR 5 (bI (s++GN u)) J N HT/\Kp H o N J:=by
 have hd:=Zc u hu
 have W:=h.nf
 by_cases U:u<100
 ·have g:=Yf u U
  have E:(u:Int)<100:=by omega
  obtain⟨J,N,ha,n1,Z,k1⟩:=h.pushN (b:=1) (by omega) (ys:=bI (GN u)) (by simp only[Rb];omega) (KU _)
  rw[Rc]at Z
  refine⟨J,N,?_,n1,Z,k1⟩
  have w:wr .i64 (u:Int)=u:=Aav u (by omega)
  rw[<-Agt]at ha
  refine .of_ret (Bh mono rfl rfl rfl ?_ rfl ?_)
  ·simp[W.1]
  ·simp[E,w,cl (g _),ha,Al n1,n1]
 ·have E:¬(u:Int)<100:=by omega
  have hnd:=nDigits_le20 u (by omega)
  have hnp:=nDigits_pos u
  obtain⟨d',v',hi,g2⟩:=fmt10 [] (List.replicate (24-nDigits u) [.m (.i .u8 0)]) (Array.replicate (nDigits u) 0) u 24 270 0 false H [] (by simp;omega) (by simpa using lt_pow_nDigits u) (by omega) (by simpa using hnp) (by simp;omega) (by omega)
  simp only[Array.size_replicate,Aic]at hi g2
  have hf:=Xx hi
  have Q:=hi.size
  generalize hN:nDigits u=nd at *
  have g1:=fun H=>Agw u (by omega) hu H
  simp only[hN]at g1
  have Y:=Agf nd (by omega)
  have hb:(Hu [] d' (List.replicate (24-nd) [.m (.i .u8 0)])).take nd=onV (bI (GN u)):=by
   have:=Rr [] d' (List.replicate (24-nd) [V.m (.i .u8 0)])
   simp only[Aic,Q,AiA]at this
   rw[this,Vh,hf]
  have h2:LR 5 (bI s) o (H++[Row.cs 270 1 (Hu [] d' (List.replicate (24-nd) [.m (.i .u8 0)])) 24 false]) HT:=h.keepR fun r _ hr=>BH _ _ _ hr
  obtain⟨J,N,ha,n1,Z,k1⟩:=h2.pushN (b:=1) (by omega) (ys:=bI (GN u)) (by simp only[Rb];omega) (KU _)
  rw[Rc]at Z
  refine⟨J,N,?_,n1,Z,?_⟩
  ·have e1:¬nd=24:=by omega
   have e2:nd+(24-nd)=24:=by omega
   have e3:(nd:Int)<=24:=by omega
   refine .of_ret (Bh mono rfl rfl rfl ?_ rfl ?_)
   ·simp[W.1]
   ·simp[E,cl (g1 _),Y,e1,e2,e3,cl g2,Q,hb,ha,DZ,AC,Al n1,n1]
  ·obtain⟨a1,a2,a3⟩:=k1
   simp only[AhF,Aiu]at a1 a2 a3
   exact⟨by omega,fun r hr hne=>by rw[a2 r (by omega) hne];exact BH _ _ _ hr,fun r hr=>(a3 r hr).imp_right fun h=>by omega⟩
theorem Ahi (h:LR 5 (bI s) o H HT)(hl:s.length<=900000)(n:Int)(h0:-4611686018427387904<=n)(h1:n<=4611686018427387904):
  ∃u E,Gives G 242 [o,J0 n,J0 10] H u E/\Az u=true/\LR 5 (bI (s++CK n)) u E HT/\Kp H o E u:=by
 have N:=h.nf
 have Y:∃u E,Gives G 252 [o,J0 n,J0 10] H u E/\Az u=true/\LR 5 (bI (s++CK n)) u E HT/\Kp H o E u:=by
  by_cases Z:n<0
  ·have en:CK n=45::GN n.natAbs:=by
    have:=EJ n.natAbs (by omega)
    rwa[show -((n.natAbs:Nat):Int)=n by omega]at this
   have Q:wr .u64 (-wr .u64 n)=(n.natAbs:Int):=by rw[Gt,Gt];omega
   obtain⟨o2,H2,ha,n2,l2,k2⟩:=h.pushN (b:=1) (by omega) (ys:=bI [45]) (by simp only[Rb,Aiu];omega) (KU _)
   rw[Rc]at l2
   obtain⟨u,E,g,n1,J,W⟩:=Ahh l2 (by simp;omega) n.natAbs (by omega)
   rw[AiB,List.singleton_append,<-en]at J
   refine⟨u,E,?_,n1,J,k2.trans W⟩
   refine .of_ret (Bh mono rfl rfl rfl ?_ rfl ?_)
   ·simp[N.1]
   ·have hb:onV (bI [45])=[[V.m (.i .u8 45)]]:=rfl
    rw[hb]at ha
    simp[Z,Q,ha,cl g,Al n2,Al n1,n1]
  ·have ep:CK n=GN n.natAbs:=by
    have:=EI n.natAbs
    rwa[show ((n.natAbs:Nat):Int)=n by omega]at this
   have U:wr .u64 n=(n.natAbs:Int):=by rw[Gt];omega
   obtain⟨u,E,g,n1,J,W⟩:=Ahh h (by omega) n.natAbs (by omega)
   rw[<-ep]at J
   refine⟨u,E,?_,n1,J,W⟩
   refine .of_ret (Bh mono rfl rfl rfl ?_ rfl ?_)
   ·simp[N.1]
   ·simp[Z,U,cl g,Al n1,n1]
 obtain⟨u,E,g,n1,J,W⟩:=Y
 refine⟨u,E,?_,n1,J,W⟩
 refine .of_ret (Bh mono rfl rfl rfl ?_ rfl ?_)
 ·simp[N.1]
 ·simp[cl g,Al n1,n1]
open Go.Proofs
theorem Yi {z y:I}{c d:List Int}(hz:IsSl z (BR c))(hy:IsSl y (BR d))(hc:c.length<=9223372036854775807)(H:Hp):Gives G 142 [.m z,.m y] H (.m (.b (decide (c=d)))) H:=by
 have N:=hz.rules
 have U:=hy.rules
 simp only[Bp]at N U
 refine Af rfl rfl rfl rfl rfl ?_
 generalize hE:decide (c=d)=E
 have no:c≠d->E=false:=fun h=>by rw[<-hE];exact AhB h
 by_cases Q:c.length=d.length
 case neg =>
  have k:=no fun e=>Q (by rw[e])
  have W:¬(c.length:Int)=d.length:=by omega
  simp (maxSteps:=2000000) (disch:=omega) [N,U,W,k]
 simp (maxSteps:=2000000) (disch:=omega) [N,U,Q]
 refine(?key:∀(j:Nat) (B:LE),j<=d.length->c.take j=d.take j->Run G c142_B0 (S142_0 (.m z) (.m y) (J0 (j:Int)) B []) _) 0 _ (Ahy _) rfl
 refine Bj (fun j:Nat=>d.length-j) fun j ih B hj Y=>?_
 unfold c142_B0
 cases hv:d[j]? with
 | none =>
  have:j=d.length:=by have:=Ahx.1 hv;omega
  subst this
  rw[AhS,<-Q,AhS]at Y
  have k:E=true:=by rw[<-hE];exact AhA Y
  simp (maxSteps:=2000000) (disch:=omega) [N,Q,k]
 | some w =>
  have a0:=(Ahq.1 hv).1
  have u:(j:Int)<d.length:=by omega
  obtain⟨v,J⟩:∃v,c[j]? = some v:=⟨c[j],Ahr (by omega)⟩
  have Z:=Cf J
  have m2:=Cf hv
  have wj:=J1 j (by omega)
  by_cases e:v=w
  ·have k:=ih (j+1) (by omega) B (by omega) (PZ Y J hv e)
   subst e
   simp (maxSteps:=2000000) (disch:=omega) [N,U,Q,u,Z,m2,wj,-Int.natCast_add]
   exact k
  ·have k:=no fun h=>e (by have:=AiO (fun l=>l[j]?) h;simp only[J,hv]at this;exact Aiw this)
   simp (maxSteps:=2000000) (disch:=omega) [N,U,Q,u,Z,m2,e,k,-Int.natCast_add]
end Go.Mx.Tryz
namespace Go.Mx.Tryz
def LW (ty:Nat)(xs:List I)(o:V)(H:Hp)(ok:Nat->Prop):Prop:=(xs=[]/\(o=.m (.nl 4)\/o=.ls [])) \/
 ∃(r:Nat) (es:List I) (base:Nat) (lim:Bool),ok r/\o=.sl r es.length 1 0 xs.length lim/\nth H r=some (.cs ty 1 (onV es) base false)/\base<=es.length/\xs.length<=es.length/\es.take xs.length=xs
variable {ty:Nat} {xs:List I} {o:V} {H:Hp} {ok:Nat->Prop}
theorem LW.nf (h:LW ty xs o H ok):Az o=true/\AA o=some [o]/\BL o=true/\Ar (.len false) [o]=some (J0 (xs.length:Nat)):=by
 rcases h with ⟨rfl,rfl|rfl⟩|⟨r,es,u,E,Q,rfl,N,J⟩
 ·exact⟨rfl,rfl,rfl,rfl⟩
 ·exact⟨rfl,rfl,rfl,rfl⟩
 ·exact⟨rfl,rfl,rfl,rfl⟩
variable {i:Nat}
theorem XY {es:List I}(h:es.take xs.length=xs){x:I}(E:xs[i]? = some x):es[i]? = some x:=by
 have u:=(Ahq.1 E).1
 have e:(es.take xs.length)[i]? = some x:=by rw[h];exact E
 rwa[AhX,Ahv u]at e
theorem LW.rd (h:LW ty xs o H ok){x:I}(N:xs[i]? = some x):∃p,Ar (.ixa 1) [o,J0 (i:Int)]=some p/\Az p=true /\ ∀B,readX ⟨B,H⟩ (.ld false 1) [p]=some (.m x):=by
 have E:=(Ahq.1 N).1
 rcases h with ⟨rfl,_⟩|⟨r,es,J,Q,hr,rfl,W,U,Z,Y⟩
 ·simp at E
 ·have u:=XY Y N
  refine⟨.pt r es.length i 0,?_,rfl,fun B=>?_⟩
  ·simp (maxSteps:=2000000) (disch:=omega) []
  ·have e:readX ⟨B,H⟩ (.ld false 1) [V.pt r es.length i 0]=(readA ⟨B,H⟩ 1 (V.pt r es.length i 0)).bind fun cs=>DF false cs:=rfl
   simp (maxSteps:=2000000) (disch:=omega) [Ab,Ci u,W,U]
theorem LW.elems (h:LW ty xs o H ok):Mx.elems H o=some (onV xs):=by
 rcases h with ⟨rfl,rfl|rfl⟩|⟨r,es,u,E,W,rfl,Q,J,U,N⟩
 ·rfl
 ·rfl
 ·rw[DZ,Q]
  show gd (Nat.ble u es.length&&Nat.beq 1 1) (some (((onV es).drop 0).take xs.length))=_
  rw[Bg,AhA J,Ade,AiA,N]
  rfl
theorem LW.view (h:LW ty xs o H ok)(k:Nat):∃z,Mx.view (k+2) H o=some z/\IsSl z (on1 xs)/\BL (.m z)=true:=by
 have J:=h.elems
 rcases h with ⟨rfl,rfl|rfl⟩|⟨r,es,E,u,Y,rfl,U,N,W,Q⟩
 ·exact⟨_,rfl,AS,rfl⟩
 ·exact⟨_,rfl,AX _,rfl⟩
 ·refine⟨.sl (on1 xs),?_,AX _,rfl⟩
  show Option.bind (Mx.elems H (.sl r es.length 1 0 xs.length u)) _=_
  rw[J]
  show Option.bind (Ah (fun e=>Ah (Mx.view (k+1) H) e) (onV xs)) _=_
  rw[optV]
  rfl
theorem YI (xs:List I):Bn (on1 xs)=onV xs:=by
 unfold Bn on1 onV
 rw[Aiy]
 rfl
open Go.Lib Go.Proofs
theorem LK.push2 {w b:Nat}{xs:LT}(h:LK ty w xs o H)(hw:1<=w)(hb:b<=1000){ys:LT}(hl:xs.length+ys.length<=100000000)(Z:okE w ys):∃N Q,(∀B,Et ⟨B,H⟩ ty w b o (Bn ys)=some (N,⟨B,Q⟩))/\Az N=true/\LK ty w (xs++ys) N Q/\H.length<=Q.length/\(∀r,¬AG o=some r->r<H.length->nth Q r=nth H r) /\ ∀r,AG N=some r->AG o=some r\/H.length<=r:=by
 have E:(xs.length+ys.length)*b<=100000000*1000:=Nat.mul_le_mul hl hb
 cases ys with
 | nil =>
  refine⟨o,H,fun B=>?_,h.nf.1,by rw[Ail];exact h,Ahu _,fun _ _ _=>rfl,fun r J=>.inl J⟩
  rcases h with ⟨rfl,rfl⟩|⟨U,r,rfl,Y⟩ <;> rfl
 | cons y t =>
  rcases h with ⟨rfl,rfl⟩|⟨U,r,rfl,Y⟩
  ·refine⟨.sl H.length (y::t).length w 0 (y::t).length false,H++[.cs ty w (Bn (y::t)) 0 false],fun B=>?_,rfl,.inr ⟨by simp,H.length,rfl,CQ H _ 0⟩,by simp,fun r _ J=>BH _ _ _ J,fun r J=>.inr (by cases J;exact Ahu _)⟩
   show Bs ⟨B,H⟩ ty w b (Bn (y::t))=_
   rw[CI,KZ Z,Fj]
   have h1:Nat.ble ((y::t).length*b) 140737488355328=true:=by
    rw[Bg]
    refine AhA ?_
    simp only[Aic,Air]at E
    omega
   have h2:Nat.ble 1 w=true:=by rw[Bg];exact AhA hw
   rw[h1,h2]
   rfl
  ·have u:=fun B=>Cu (M:=⟨B,H⟩) (bytes:=b) (xs:=Bn (y::t)) Y (by simp[Bn]) (by simp only[Fj];omega) (KZ Z)
   simp only[Fj,QK]at u
   have el:xs.length+(y::t).length=(xs++y::t).length:=by simp
   rw[el]at u
   refine⟨_,_,u,rfl,.inr ⟨by simp,r,rfl,Bc (AO Y)⟩,by simp,fun q W _=>AF fun e=>W ?_,fun q W=>.inl W⟩
   rw[e]
   rfl
def LG (ty:Nat)(xs:List I)(o:V)(H:Hp):Prop:=(xs=[]/\o=.m (.nl 4)) \/ ∃(r:Nat) (base:Nat),o=.sl r xs.length 1 0 xs.length false/\nth H r=some (.cs ty 1 (onV xs) base false)/\base<=xs.length/\xs≠[]
theorem LG.toLW (h:LG ty xs o H):LW ty xs o H (fun _=>True):=by
 rcases h with ⟨Q,J⟩|⟨r,u,rfl,N,E,_⟩
 ·exact .inl ⟨Q,.inl J⟩
 ·exact .inr ⟨r,xs,u,false,Aii,rfl,N,E,Ahu _,AhS⟩
theorem LR.toLG (h:LR ty xs o H ok):LG ty xs o H:=by
 rcases h with ⟨rfl,rfl⟩|⟨u,r,J,rfl,E⟩
 ·exact .inl ⟨rfl,rfl⟩
 ·exact .inr ⟨r,0,rfl,E,Ahy _,u⟩
theorem LK.callP {w:Nat}{es:LT}(h:LK ty w es o H)(Z:Ws w es=true){F:Nat}{x:V}(U:G.prim F=none)(hs:G.sh F=false)(u:∀H,Gives G F [.m (zK es)] H x H):∃J,Gives G F [o] H x J/\J.length=H.length /\ ∀r,¬AG o=some r->nth J r=nth H r:=by
 have Q:Ah (Mx.view 20 H) [o]=some [zK es]:=by
  simp only[Ah,h.view 18,Ahz]
 rcases h with ⟨rfl,rfl⟩|⟨W,r,rfl,N⟩
 ·exact⟨H,u H,rfl,fun _ _=>rfl⟩
 ·cases hf:FG x with
  | true=>exact⟨_,AQ (is:=[zK es]) U hs (u []) Q (.inr ⟨by simp[Dv,Fs],hf⟩),rfl,fun _ _=>rfl⟩
  | false =>
   have E:AY ([V.sl r es.length w 0 es.length false].flatMap Dv) H=some (H.set r (.cs ty w (Bn es) 0 true)):=by
    show Option.bind (nth H r) _=_
    rw[N]
    show Option.bind (gd ((Bn es).all fun e=>e.all isM) (some (Row.cs ty w (Bn es) 0 true))) _=_
    rw[YJ]
    show Option.bind (AN H r _) _=_
    rw[AB _ _ _ (AO N)]
    rfl
   exact⟨_,BV (is:=[zK es]) U hs (u []) Q (by simp[Dv,Fs]) hf rfl E,by simp,fun q Y=>AF fun e=>Y (by rw[e];rfl)⟩
variable {us:List I} {ps:List (List Ce)}
set_option maxHeartbeats 4000000 in
theorem QH (hL:LG 40 us o H)(hP:Gs us ps)(E:∀p,p∈ps->right p=true)(hd:Ev ps)(hl:us.length<=16):∃v H',Gives G 21 [o] H v H'/\(H.length<=H'.length/\(∀r,r<H.length->nth H' r=nth H r)/\v=.tu [.m (zP (MZ ps).1),J0 (MZ ps).2]):=by
 have hpl:ps.length<=16:=by rw[<-hP.1];exact hl
 have hgd:=VO E
 have hap:=(Ha E).2 hd
 have a5:∀L:List Ce,(Ae L).length=L.length:=fun L=>by simp[Ae]
 have hW:=hL.toLW
 obtain⟨Y,hcel0,hone0,a0⟩:=hW.nf
 have hfl:=Gp (ps:=ps) fun p hp=>(Ay (E p hp)).2.2
 have hrlt:∀r,AG o=some r->r<H.length:=fun r N=>by
  rcases hL with ⟨_,rfl⟩|⟨q,U,rfl,h3,_,_⟩
  ·cases N
  ·cases N;exact AO h3
 rw[YE hd]
 refine AJ ?_
 refine Bh mono rfl rfl rfl (by simp[Y]) rfl ?_
 generalize hQ:(fun(v:V) (H':Hp)=>H.length<=H'.length/\(∀r,r<H.length->nth H' r=nth H r)/\v=.tu [.m (zP (jnF ps.flatten).1),J0 (jnF ps.flatten).2])=Q
 have qk:∀H',H.length<=H'.length->(∀r,r<H.length->nth H' r=nth H r)->Q (.tu [.m (zP (jnF ps.flatten).1),J0 (jnF ps.flatten).2]) H':=fun H' h1 h2=>by rw[<-hQ];exact⟨h1,h2,rfl⟩
 clear hQ
 simp (maxSteps:=2000000) (disch:=omega) [a0,Al Y]
 refine(?key:∀(i:Nat) (c:V) (B:LE) (W:Hp),i<=us.length->LK 56 3 (Ae (ps.take i).flatten) c W->(∀r,AG c=some r->H.length<=r)->H.length<=W.length->(∀r,r<H.length->nth W r=nth H r)->Run G c21_B0 (S21_0 c o (.m (.i .i64 (us.length:Int))) (.m (.i .i64 (i:Int))) B W) _) 0 _ _ H (Ahy _) LK.nil (fun r N=>by cases N) (Ahu _) (fun _ _=>rfl)
 refine Bj (fun i:Nat=>us.length-i) fun i ih c B W hi hc Z hlen1 J=>?_
 unfold c21_B0
 obtain⟨n1,n2,n3,n4⟩:=hc.nf
 have hW1:LW 40 us o W (fun _=>True):=by
  rcases hL with h|⟨q,U,h2,h3,h4,h5⟩
  ·exact LG.toLW (.inl h)
  ·exact LG.toLW (.inr ⟨q,U,h2,by rw[J q (AO h3)];exact h3,h4,h5⟩)
 by_cases hil:i<us.length
 ·have a4:(i:Int)<us.length:=by omega
  have wi:=J1 i (by omega)
  obtain⟨u,hu⟩:∃u,us[i]? = some u:=⟨_,Ahr hil⟩
  obtain⟨q,hq⟩:∃q,ps[i]? = some q:=⟨_,Ahr (by have:=hP.1;omega)⟩
  have hsq:=hP.2 i u q hu hq
  obtain⟨pp,a1,a2,a3⟩:=hW1.rd hu
  have hru:=hsq.rules
  have hfi:=Gp (ps:=ps.take i) fun p hp=>(Ay (E p (Aiz hp))).2.2
  rw[AhH]at hfi
  have hql:=(Ay (E q (Ahw hq))).2.2
  obtain⟨c1,H2,ha,hn1,a6,hlen2,a7,a8⟩:=hc.push2 (by omega) (b:=24) (by omega) (ys:=Ae q) (by rw[a5,a5];omega) (fun e he=>by
   unfold Ae at he
   obtain⟨x,_,rfl⟩:=AhP.1 he
   exact⟨rfl,fun y hy=>by unfold Ce.i at hy;simp only[AhO,List.not_mem_nil,or_false]at hy;rcases hy with rfl|rfl|rfl <;> rfl⟩)
  have e1:Ae (ps.take i).flatten++Ae q=Ae (ps.take (i+1)).flatten:=by rw[Ni hq];unfold Ae;rw[List.map_append]
  rw[e1]at a6
  have ha2:∀B,An (fun _ _ _=>none) ⟨B,W⟩ (.app 56 3 24) [c,.m u]=some (c1,⟨B,H2⟩):=fun B=>by
   rw[Cn (hru.2.2 W)]
   exact ha B
  have a9:∀r,AG c1=some r->H.length<=r:=fun r N=>by
   rcases a8 r N with h|h
   ·exact Z r h
   ·omega
  have k2:=fun B'=>ih (i+1) (by omega) c1 B' H2 (by omega) a6 a9 (by omega) (fun r N=>by rw[a7 r (fun h=>by have:=Z r h;omega) (by omega)];exact J r N)
  simp (maxSteps:=2000000) (disch:=omega) [a4,a1,a3,-DB,ha2,wi,Al hn1,-Int.natCast_add]
  exact k2 _
 ·have:i=us.length:=by omega
  subst this
  rw[AhJ (by have:=hP.1;omega)]at hc
  have gF:=fun H=>Adv (Afy (Ae ps.flatten)) (by omega) hgd hap H
  obtain⟨H2,gG,hl2,hk2⟩:=hc.callP (by cases ps.flatten <;> rfl) rfl rfl gF
  have k2:=qk H2 (by omega) (fun r N=>by rw[hk2 r (fun h=>by have:=Z r h;omega)];exact J r N)
  generalize jnF ps.flatten=r at *
  generalize zP r.1=zz at *
  simp (maxSteps:=2000000) (disch:=omega) [cl gG]
  exact k2
def SfC (L:List Ce)(o:V)(H:Hp):Prop:=(L=[]/\o=.m (.nl 4)) \/ ∃(r:Nat) (F:List Ce) (k:Nat),o=.sl r F.length 3 k L.length false/\nth H r=some (.cs 56 3 (AE F) 0 false)/\F.drop k=L
variable {L:List Ce}
theorem SfC.keep {H':Hp}(h:SfC L o H)(J:∀r,r<H.length->nth H' r=nth H r):SfC L o H':=by
 rcases h with h|⟨r,F,k,rfl,u,E⟩
 ·exact .inl h
 ·exact .inr ⟨r,F,k,rfl,by rw[J r (AO u)];exact u,E⟩
theorem LK.toSf (h:LK 56 3 (Ae L) o H):SfC L o H:=by
 rcases h with ⟨E,J⟩|⟨_,r,rfl,u⟩
 ·exact .inl ⟨by simpa[Ae]using E,J⟩
 ·refine .inr ⟨r,L,0,by simp[Ae],?_,rfl⟩
  rw[u,QJ]
theorem SfC.nf (h:SfC L o H):Az o=true/\Ar (.len false) [o]=some (J0 (L.length:Nat)):=by
 rcases h with ⟨rfl,rfl⟩|⟨r,F,k,rfl,_,_⟩ <;> exact⟨rfl,rfl⟩
theorem SfC.cons {c:Ce}{s:List Ce}(h:SfC (c::s) o H):∃(r:Nat) (F:List Ce) (k:Nat),o=.sl r F.length 3 k (s.length+1) false/\nth H r=some (.cs 56 3 (AE F) 0 false)/\CZ 3 (AE F) k 0 1=some [J0 c.x]/\CZ 3 (AE F) k 1 1=some [J0 c.y]/\CZ 3 (AE F) k 0 3=some [J0 c.x,J0 c.y,J0 c.s]/\Ar (.slc 3 true false false) [.sl r F.length 3 k (s.length+1) false,J0 1]=some (.sl r F.length 3 (k+1) s.length false)/\SfC s (.sl r F.length 3 (k+1) s.length false) H:=by
 rcases h with ⟨N,_⟩|⟨r,F,k,rfl,J,E⟩
 ·cases N
 ·have u:F[k]? = some c:=by
   have:=AiS (xs:=F) (i:=k) (j:=0)
   rw[E]at this
   simpa using this.symm
  have Q:F.drop (k+1)=s:=by
   have:=(Am u).2
   rw[E]at this
   exact(List.cons.inj this).2.symm
  refine⟨r,F,k,rfl,J,r3_x u,r3_y u,?_,?_,.inr ⟨r,F,k+1,rfl,J,Q⟩⟩
  ·rw[KN,CO u]
   rfl
  ·simp (maxSteps:=2000000) (disch:=omega) []
theorem zK_c3 (p:List Ce):zK (Ae p)=zP p:=by cases p <;> rfl
theorem UF {q:List Ce}(h:ps[i]? = some q)(E:∀p,p∈ps->right p=true)(u:Ev (ps.take (i+1))):AT (AT (ps.take i).flatten++q)=AT (ps.take (i+1)).flatten:=by
 refine IN ?_ ((Ha fun p J=>E p (Aiz J)).2 u)
 rw[Ni h]
 exact(Bq _).append_right q
set_option maxHeartbeats 8000000 in
theorem Us {v:I}(hv:IsSl v (on1 us))(hP:Gs us ps)(hpr:∀p,p∈ps->right p=true)(hl:us.length<=1000)(H:Hp):Gives G 31 [.m v] H (.tu [.m (zP (unF ps).1),.m (.b (unF ps).2)]) H:=by
 have hr:=hv.rules
 rw[Oy]at hr
 have hul:=hP.1
 refine Af rfl rfl rfl rfl rfl ?_
 generalize hR:unF ps=R
 unfold unF at hR
 generalize hQ:(fun(v':V) (x:Hp)=>v'=.tu [.m (zP R.1),.m (.b R.2)])=Q
 have q1:∀(a:List Ce) (b:Bool) H',R=(a,b)->Q (.tu [.m (zP a),.m (.b b)]) H':=fun a b H' e=>by rw[<-hQ,e]
 clear hQ
 simp (maxSteps:=2000000) (disch:=omega) []
 refine(?key:∀(i:Nat) (o:V) (B:LE) (H1:Hp),i<=us.length->LK 56 3 (Ae (AT (ps.take i).flatten)) o H1->Ev (ps.take i)->Run G c31_B1 (S31_1 (.m v) o (J0 (i:Int)) B H1) _) 0 _ _ _ (Ahy _) LK.nil List.Pairwise.nil
 refine Bj (fun i:Nat=>us.length-i) fun i ih o B H1 hi hL hd=>?_
 unfold c31_B1
 obtain⟨hnf,_,_,_⟩:=hL.nf
 by_cases hil:i<us.length
 ·have hil':(i:Int)<us.length:=by omega
  have wi:=J1 i (by omega)
  obtain⟨u,hu⟩:∃u,us[i]? = some u:=⟨_,Ahr hil⟩
  obtain⟨q,hq⟩:∃q,ps[i]? = some q:=⟨_,Ahr (by omega)⟩
  have hsq:=hP.2 i u q hu hq
  have hn:=Vi hu
  have hqr:=Ay (hpr q (Ahw hq))
  have hfi:=Gp (ps:=ps.take i) fun p hp=>(Ay (hpr p (Aiz hp))).2.2
  rw[AhH]at hfi
  have hap:=(Ha fun p hp=>hpr p (Aiz hp)).2 hd
  have hI:=UnI.init (Dc hap) hqr.1
  have hol:(AT (ps.take i).flatten).length<=5000000:=by rw[BS];omega
  simp (maxSteps:=2000000) (disch:=omega) [hr,hil',hn,Al hnf]
  refine(?key2:∀(k:Nat) (a b next:List Ce) (oa on:V) (w:I) (B:LE) (H2:Hp),a.length+b.length=k->UnI (AT (ps.take i).flatten) q a b next->SfC a oa H1->IsSl w (Ae b)->LK 56 3 (Ae next) on H2->(∀r,AG on=some r->H1.length<=r)->H1.length<=H2.length->(∀r,r<H1.length->nth H2 r=nth H1 r)->next.length+k<=5010000->Run G c31_B0 (S31_0 (.m v) (.m (.i .i64 (i:Int))) on oa (.m w) B H2) _) _ _ q [] o _ u _ H1 rfl hI hL.toSf hsq LK.nil (fun r hr=>by cases hr) (Ahu _) (fun _ _=>rfl) (by simp;omega)
  clear hI hol hap hfi hsq hn hu hnf hL B
  refine Bj (fun k:Nat=>k) fun k ihk a b next oa on w B H2 hk hI hA hw hN hrow hlen2 hkp hsz=>?_
  unfold c31_B0
  have E:=hw.rules
  simp only[J3]at E
  obtain⟨n1,_,_,_⟩:=hN.nf
  obtain⟨a1,a2⟩:=hA.nf
  have hA2:=hA.keep hkp
  have psh:∀c:Ce,∃o1 Z,(∀B,Et ⟨B,H2⟩ 56 3 24 on [[J0 c.x,J0 c.y,J0 c.s]]=some (o1,⟨B,Z⟩))/\Az o1=true/\LK 56 3 (Ae (next++[c])) o1 Z/\H1.length<=Z.length/\(∀r,AG o1=some r->H1.length<=r) /\ ∀r,r<H1.length->nth Z r=nth H1 r:=fun c=>by
   obtain⟨o1,Z,ha,hn1,hL1,hl3,hk3,hr3⟩:=hN.push2 (by omega) (b:=24) (by omega) (ys:=Ae [c]) (by simp[Ae];omega) (fun e he=>by
    unfold Ae at he
    obtain⟨x,_,rfl⟩:=AhP.1 he
    exact⟨rfl,fun y hy=>by unfold Ce.i at hy;simp only[AhO,List.not_mem_nil,or_false]at hy;rcases hy with rfl|rfl|rfl <;> rfl⟩)
   refine⟨o1,Z,ha,hn1,by have e:Ae next++Ae [c]=Ae (next++[c]):=by { simp[Ae] };rw[<-e];exact hL1,by omega,fun r hr=>?_,fun r hr=>?_⟩
   ·rcases hr3 r hr with h|h
    ·exact hrow r h
    ·omega
   ·rw[hk3 r (fun h=>by have:=hrow r h;omega) (by omega),hkp r hr]
  cases hae:a with
  | nil =>
   subst hae
   rcases hA2 with ⟨_,rfl⟩|⟨r0,F,k0,rfl,_,_⟩
   all_goals
    cases hbe:b with
    | nil =>
     subst hbe
     obtain⟨e1,rfl⟩:=hI.done
     have hd2:=(JZ hq).2 ⟨hd,e1⟩
     rw[UF hq hpr hd2]at hN
     have N:=fun B'=>ih (i+1) (by omega) on B' H2 (by omega) hN hd2
     simp (maxSteps:=2000000) (disch:=omega) [E,wi,Al n1,-Int.natCast_add]
     exact N _
    | cons d s =>
     have J:=Ap (show b[0]? = some d by rw[hbe];rfl)
     have lb:b.length=s.length+1:=by rw[hbe];rfl
     rw[hbe]at hw hI
     obtain⟨u2,hu2,ht2⟩:=IL hw
     obtain⟨o1,Z,p1,p2,p3,p4,p5,p6⟩:=psh d
     have N:=fun B'=>ihk s.length (by simp at hk;omega) [] s (next++[d]) _ o1 u2 B' Z (by simp) (hI.right fun c hc=>by cases hc) hA hu2 p3 p5 p4 p6 (by simp at hk ⊢;omega)
     simp (maxSteps:=2000000) (disch:=omega) [E,lb,J,show ¬((s.length:Int)+1=0) from by omega,show (0:Int)<(s.length:Int)+1 from by omega,Al p2,p1,ht2]
     exact N _
  | cons c W =>
   subst hae
   obtain⟨r,F,k0,rfl,h3a,rx,ry,rz,Y,hA4⟩:=hA.cons
   have h3:nth H2 r=some (.cs 56 3 (AE F) 0 false):=by rw[hkp r (AO h3a)];exact h3a
   cases hbe:b with
   | nil =>
    subst hbe
    obtain⟨o1,Z,p1,p2,p3,p4,p5,p6⟩:=psh c
    have N:=fun B'=>ihk W.length (by simp at hk;omega) W [] (next++[c]) _ o1 w B' Z (by simp) (hI.left fun c hc=>by cases hc) hA4 hw p3 p5 p4 p6 (by simp at hk ⊢;omega)
    simp (maxSteps:=2000000) (disch:=omega) [Ab,E,h3,rz,Y,show ¬((W.length:Int)+1=0) from by omega,show (0:Int)<(W.length:Int)+1 from by omega,Al p2,p1]
    exact N _
   | cons d s =>
    have J:=Ap (show b[0]? = some d by rw[hbe];rfl)
    have lb:b.length=s.length+1:=by rw[hbe];rfl
    rw[hbe]at hw hI
    obtain⟨u2,hu2,ht2⟩:=IL hw
    have hb2:=AhU.1 hI.pb
    have ha2:=AhU.1 hI.pa
    simp only[Aib]at hk
    by_cases hxy:c.x=d.x/\c.y=d.y
    ·have hnd:=hI.meet hxy.1 hxy.2
     have hnd2:¬Ev ps:=fun hh=>hnd ((JZ hq).1 (Zb _ hh)).2
     rw[Aht hnd2]at hR
     have N:=q1 _ _ H hR.symm
     simp (maxSteps:=2000000) (disch:=omega) [Ab,E,lb,J,h3,rx,ry,show ¬((s.length:Int)+1=0) from by omega,show (0:Int)<(s.length:Int)+1 from by omega,show (0:Int)<(W.length:Int)+1 from by omega,hxy.1,hxy.2]
     exact N
    ·by_cases U:Bd c d=true
     ·obtain⟨o1,Z,p1,p2,p3,p4,p5,p6⟩:=psh c
      have hlc:∀e,e∈d::s->Bd c e=true:=fun e he=>by
       rcases AhO.1 he with rfl|he
       ·exact U
       ·exact Dh U (hb2.1 e he)
      have N:=fun B'=>ihk (W.length+b.length) (by omega) W b (next++[c]) _ o1 w B' Z rfl (by rw[hbe];exact hI.left hlc) hA4 (by rw[hbe];exact hw) p3 p5 p4 p6 (by simp;omega)
      unfold Bd at U
      simp only[AhC]at U
      by_cases hy:c.y<d.y
      ·by_cases hx:c.x=d.x
       ·simp only[hx]at p1
        simp (maxSteps:=2000000) (disch:=omega) [Ab,E,lb,J,h3,rx,ry,rz,Y,show ¬((s.length:Int)+1=0) from by omega,show (0:Int)<(s.length:Int)+1 from by omega,show (0:Int)<(W.length:Int)+1 from by omega,hx,hy,show ¬c.y=d.y from by omega,Al p2,p1]
        exact N _
       ·simp (maxSteps:=2000000) (disch:=omega) [Ab,E,lb,J,h3,rx,ry,rz,Y,show ¬((s.length:Int)+1=0) from by omega,show (0:Int)<(s.length:Int)+1 from by omega,show (0:Int)<(W.length:Int)+1 from by omega,hx,hy,show ¬c.y=d.y from by omega,Al p2,p1]
        exact N _
      ·have hy2:c.y=d.y:=by omega
       have hx2:c.x<d.x:=by omega
       simp only[hy2]at p1
       simp (maxSteps:=2000000) (disch:=omega) [Ab,E,lb,J,h3,rx,ry,rz,Y,show ¬((s.length:Int)+1=0) from by omega,show (0:Int)<(s.length:Int)+1 from by omega,show (0:Int)<(W.length:Int)+1 from by omega,hy2,hx2,show ¬c.x=d.x from by omega,Al p2,p1]
       exact N _
     ·have hgt:Bd d c=true:=by
       unfold Bd at U ⊢
       simp only[AhC]at U ⊢
       omega
      obtain⟨o1,Z,p1,p2,p3,p4,p5,p6⟩:=psh d
      have hlc:∀e,e∈c::W->Bd d e=true:=fun e he=>by
       rcases AhO.1 he with rfl|he
       ·exact hgt
       ·exact Dh hgt (ha2.1 e he)
      have N:=fun B'=>ihk (W.length+1+s.length) (by omega) (c::W) s (next++[d]) _ o1 u2 B' Z rfl (hI.right hlc) hA hu2 p3 p5 p4 p6 (by simp;omega)
      unfold Bd at U hgt
      simp only[AhC]at U hgt
      by_cases hy:d.y<c.y
      ·by_cases hx:c.x=d.x
       ·simp (maxSteps:=2000000) (disch:=omega) [Ab,E,lb,J,h3,rx,ry,ht2,show ¬((s.length:Int)+1=0) from by omega,show (0:Int)<(s.length:Int)+1 from by omega,show (0:Int)<(W.length:Int)+1 from by omega,hx,show ¬c.y<d.y from by omega,show ¬c.y=d.y from by omega,Al p2,p1]
        exact N _
       ·simp (maxSteps:=2000000) (disch:=omega) [Ab,E,lb,J,h3,rx,ry,ht2,show ¬((s.length:Int)+1=0) from by omega,show (0:Int)<(s.length:Int)+1 from by omega,show (0:Int)<(W.length:Int)+1 from by omega,hx,show ¬c.y<d.y from by omega,show ¬c.y=d.y from by omega,Al p2,p1]
        exact N _
      ·have hy2:c.y=d.y:=by omega
       simp (maxSteps:=2000000) (disch:=omega) [Ab,E,lb,J,h3,rx,ry,ht2,show ¬((s.length:Int)+1=0) from by omega,show (0:Int)<(s.length:Int)+1 from by omega,show (0:Int)<(W.length:Int)+1 from by omega,hy2,show ¬c.x<d.x from by omega,show ¬c.x=d.x from by omega,Al p2,p1]
       exact N _
 ·have:i=us.length:=by omega
  subst this
  rw[AhJ (by omega)]at hL hd
  rw[Ahv hd]at hR
  have N:=q1 _ _ H hR.symm
  have hvw:=hL.view 18
  rw[zK_c3]at hvw
  generalize zP (AT ps.flatten)=z at *
  simp (maxSteps:=2000000) (disch:=omega) [hr,hvw,Al hnf]
  exact⟨hnf,N⟩
end Go.Mx.Tryz
namespace Go.Mx.Tryz
open Go.Lib
theorem Ld (u:Nat):∀c,c∈GN u->48<=c/\c<=57:=by
 refine Bj (P:=fun u=>∀c,c∈GN u->48<=c/\c<=57) (fun u:Nat=>u) (fun u N c E=>?_) u
 by_cases h:u<10
 ·rw[KD h]at E
  simp at E
  omega
 ·rw[PK h]at E
  rcases Aig.1 E with J|J
  ·exact N (u / 10) (by omega) c J
  ·simp at J
   omega
def valU (s:List Nat):Nat:=s.foldl (fun a c=>10*a+(c-48)) 0
theorem HP (u:Nat):valU (GN u)=u:=by
 refine Bj (P:=fun u=>valU (GN u)=u) (fun u:Nat=>u) (fun u E=>?_) u
 by_cases h:u<10
 ·rw[KD h]
  show 10*0+(48+u-48)=u
  omega
 ·rw[PK h]
  have:=E (u / 10) (by omega)
  unfold valU at this ⊢
  rw[List.foldl_append,this]
  show 10*(u / 10)+(48+u%10-48)=u
  omega
variable {x:Int}
theorem Na {y:Int}(h:CK x=CK y):x=y:=by
 have J:∀u v:Nat,1<=v->GN u≠45::GN v:=fun u v _ e=>by
  have:=Ld u 45 (by rw[e];simp)
  omega
 by_cases Q:0<=x
 ·obtain⟨u,rfl⟩:=AhK Q
  rw[EI]at h
  by_cases E:0<=y
  ·obtain⟨v,rfl⟩:=AhK E
   rw[EI]at h
   rw[<-HP u,h,HP]
  ·obtain⟨v,N⟩:=AhK (show 0 <= -y by omega)
   have:y=-(v:Int):=by omega
   subst this
   rw[EJ v (by omega)]at h
   exact absurd h (J u v (by omega))
 ·obtain⟨u,U⟩:=AhK (show 0 <= -x by omega)
  have:x=-(u:Int):=by omega
  subst this
  rw[EJ u (by omega)]at h
  by_cases E:0<=y
  ·obtain⟨v,rfl⟩:=AhK E
   rw[EI]at h
   exact absurd h.symm (J v u (by omega))
  ·obtain⟨v,N⟩:=AhK (show 0 <= -y by omega)
   have:y=-(v:Int):=by omega
   subst this
   rw[EJ v (by omega)]at h
   have h:=(List.cons.inj h).2
   rw[<-HP u,h,HP]
theorem Fi (x:Int):∀c,c∈CK x->c≠32/\c<256:=fun c E=>by
 by_cases h:0<=x
 ·obtain⟨u,rfl⟩:=AhK h
  rw[EI]at E
  have:=Ld u c E
  omega
 ·obtain⟨u,J⟩:=AhK (show 0 <= -x by omega)
  have:x=-(u:Int):=by omega
  subst this
  rw[EJ u (by omega)]at E
  rcases AhO.1 E with h|h
  ·omega
  ·have:=Ld u c h
   omega
def CA (c:List Int):List Nat:=c.flatMap fun k=>32::CK k
def Ji (x:Nd):List Nat:=CK x.1++CA x.2
theorem KI:∀ {a b s t:List Nat},(∀c,c∈a->c≠32)->(∀c,c∈b->c≠32)->s.take 1≠[]/\s.take 1=[32]\/s=[]->t.take 1≠[]/\t.take 1=[32]\/t=[]->a++s=b++t->a=b/\s=t
 | [],[],s,t,_,_,_,_,h=>⟨rfl,h⟩
 | x::a,y::b,s,t,ha,hb,hs,ht,h=>by
  simp only[Aiq,List.cons.injEq]at h
  obtain⟨E,N⟩:=KI (fun c u=>ha c (Aij _ u)) (fun c u=>hb c (Aij _ u)) hs ht h.2
  exact⟨by rw[h.1,E],N⟩
 | [],y::b,s,t,_,hb,hs,_,h=>by
  have J:=hb y (AhR ..)
  simp only[List.nil_append,Aiq]at h
  subst h
  rcases hs with ⟨_,h⟩|h
  ·simp at h
   exact absurd h J
  ·cases h
 | x::a,[],s,t,ha,_,_,ht,h=>by
  have Q:=ha x (AhR ..)
  simp only[List.nil_append,Aiq]at h
  subst h
  rcases ht with ⟨_,h⟩|h
  ·simp at h
   exact absurd h Q
  ·cases h
theorem HE (c:List Int):(CA c).take 1≠[]/\(CA c).take 1=[32]\/CA c=[]:=by
 cases c with
 | nil=>exact .inr rfl
 | cons k r=>exact .inl ⟨by simp[CA],by simp[CA]⟩
theorem ME:∀ {c d:List Int},CA c=CA d->c=d
 | [],[],_=>rfl
 | [],k::r,h=>by simp[CA]at h
 | k::r,[],h=>by simp[CA]at h
 | k::r,j::s,h=>by
  have h:CK k++CA r=CK j++CA s:=by
   have h:32::(CK k++CA r)=32::(CK j++CA s):=h
   exact(List.cons.inj h).2
  obtain⟨J,E⟩:=KI (fun c u=>(Fi _ c u).1) (fun c u=>(Fi _ c u).1) (HE r) (HE s) h
  rw[Na J,ME E]
theorem YC {x y:Nd}(h:Ji x=Ji y):x=y:=by
 obtain⟨J,E⟩:=KI (fun c u=>(Fi _ c u).1) (fun c u=>(Fi _ c u).1) (HE x.2) (HE y.2) h
 exact Prod.ext (Na J) (ME E)
theorem Uu (c:List Int):∀y,y∈CA c->y<256:=fun y u=>by
 obtain⟨k,_,h⟩:=List.mem_flatMap.1 u
 rcases AhO.1 h with h|h
 ·omega
 ·exact(Fi k y h).2
theorem YD (x:Nd):∀y,y∈Ji x->y<256:=fun y u=>by
 rcases Aig.1 u with h|h
 ·exact(Fi x.1 y h).2
 ·exact Uu x.2 y h
def knw:List Nd->Nat->List (List Nat×Int)
 | [],_=>[]
 | x::r,i=>(Ji x,(i:Int))::knw r (i+1)
theorem KY:∀(l:List Nd) (i:Nat) (x:Nd),CJ (knw l i) (Ji x)=((l.idxOf? x).map fun k=>((i+k:Nat):Int))
 | [],i,x=>rfl
 | y::r,i,x=>by
  have e:CJ (knw (y::r) i) (Ji x)=if Ji y=Ji x then some (i:Int) else CJ (knw r (i+1)) (Ji x):=rfl
  rw[e,List.idxOf?_cons]
  by_cases h:y=x
  ·subst h
   rw[Ahv rfl,Ahv (by simp)]
   rfl
  ·rw[Aht fun k=>h (YC k),Aht (by simpa using h),KY r (i+1) x]
   cases r.idxOf? x with
   | none=>rfl
   | some k =>
    show some _=some _
    congr 1
    simp only
    omega
theorem QF:∀(l:List Nd) (i:Nat) (x:Nd),knw (l++[x]) i=knw l i++[(Ji x,((i+l.length:Nat):Int))]
 | [],i,x=>rfl
 | y::r,i,x=>by
  show (Ji y,(i:Int))::knw (r++[x]) (i+1)=_
  rw[QF r (i+1) x]
  simp only[Aib,knw,Aiq]
  rw[show i+1+r.length=i+(r.length+1) by omega]
theorem Ads {l:List Nd}{x:Nd}(h:l.idxOf? x=none):NM (knw l 0) (Ji x) ((l.length:Nat):Int)=knw (l++[x]) 0:=by
 rw[QF,Kl,Air]
 rw[<-RB,KY,h]
 rfl
def ES (l:List Nd)(x:Nd):List Nd×Nat:=match l.idxOf? x with
 | some k=>(l,k)
 | none=>(l++[x],l.length)
theorem Re (l:List Nd)(x:Nd):l.length<=(ES l x).1.length/\(ES l x).1.length<=l.length+1:=by
 unfold ES
 split <;> simp
def L2 (es:LT)(o:V)(H:Hp):Prop:=(es=[]/\o=.m (.nl 4))\/(es≠[] /\ ∃r,o=.sl r es.length 2 0 es.length false/\nth H r=some (.cs 67 2 (Bn es) 0 false))
theorem immS_len (es:LT):(Bn es).length=es.length:=by simp[Bn]
variable {es:LT} {o:V} {H:Hp}
theorem L2.nf (h:L2 es o H):Az o=true/\AA o=some [o]/\BL o=true/\Ar (.len false) [o]=some (J0 (es.length:Nat)):=by
 rcases h with ⟨rfl,rfl⟩|⟨u,r,rfl,E⟩
 ·exact⟨rfl,rfl,rfl,rfl⟩
 ·exact⟨rfl,rfl,rfl,rfl⟩
variable {H':Hp}
theorem L2.keep (h:L2 es o H)(J:∀r,AG o=some r->r<H.length->nth H' r=nth H r):L2 es o H':=by
 rcases h with h|⟨u,r,rfl,E⟩
 ·exact .inl h
 ·exact .inr ⟨u,r,rfl,by rw[J r rfl (AO E)];exact E⟩
variable {r:Nat}
theorem L2.row_lt (h:L2 es o H)(e:AG o=some r):r<H.length:=by
 rcases h with ⟨_,rfl⟩|⟨E,q,rfl,u⟩
 ·cases e
 ·cases e
  exact AO u
theorem L2.row (h:L2 es o H)(e:AG o=some r):nth H r=some (.cs 67 2 (Bn es) 0 false):=by
 rcases h with ⟨_,rfl⟩|⟨E,q,rfl,u⟩
 ·cases e
 ·cases e
  exact u
variable {z:I}
theorem L2.push (h:L2 es o H){l:Int}(hz:BL (.m z)=true)(hl:es.length<=100000000):∃N Q,(∀B,An (fun _ _ _=>none) ⟨B,H⟩ (.app 67 2 32) [o,.ls [[J4 l,z]]]=some (N,⟨B,Q⟩))/\Az N=true/\L2 (es++[[J4 l,z]]) N Q/\Kp H o Q N:=by
 have E:((Bn [[J4 l,z]]).all fun e=>Nat.beq e.length 2&&e.all BL)=true:=by
  have h1:BL (J0 l)=true:=rfl
  simp[Bn,hz,h1]
 rcases h with ⟨rfl,rfl⟩|⟨a0,r,rfl,W⟩
 ·refine⟨.sl H.length 1 2 0 1 false,H++[.cs 67 2 (Bn [[.i .i64 l,z]]) 0 false],fun B=>(Cn rfl).trans ?_,rfl,.inr ⟨by simp,H.length,rfl,CQ H _ 0⟩,by simp,fun r U _=>BH _ _ _ U,fun r U=>.inr (by cases U;exact Ahu _)⟩
  show Bs ⟨B,H⟩ 67 2 32 (Bn [[J4 l,z]])=_
  rw[CI,E]
  rfl
 ·have u:=fun B=>Cu (M:=⟨B,H⟩) (bytes:=32) (xs:=Bn [[J4 l,z]]) W (by simp[Bn]) (by simp only[immS_len,Aiu];omega) E
  have e2:Bn es++Bn [[J4 l,z]]=Bn (es++[[J4 l,z]]):=by simp[Bn]
  simp only[immS_len,e2]at u
  have Z:es.length+[[I.i .i64 l,z]].length=(es++[[J4 l,z]]).length:=by simp
  rw[Z]at u
  refine⟨_,_,fun B=>(Cn rfl).trans (u B),rfl,.inr ⟨by simp,r,rfl,Bc (AO W)⟩,by simp,fun q Y J=>AF fun e=>?_,fun q Y=>.inl Y⟩
  subst e
  exact J rfl
theorem L2.elems (h:L2 es o H):Mx.elems H o=some (Bn es):=by
 rcases h with ⟨rfl,rfl⟩|⟨E,r,rfl,u⟩
 ·rfl
 ·rw[DZ,u]
  show gd (Nat.ble 0 es.length&&Nat.beq 2 2) (some (((Bn es).drop 0).take es.length))=_
  rw[Bg,AhA (Ahy _),AiA,AhJ (by rw[immS_len];exact Ahu _)]
  rfl
variable {i:Nat}
theorem rd2 {es:L0}{a b:V}(h:nth es i=some [a,b]):CZ 2 es i 0 2=some [a,b]/\CZ 2 es i 0 1=some [a]/\CZ 2 es i 1 1=some [b]:=by
 refine⟨?_,?_,?_⟩ <;>
 ·show Option.bind (nth es (i+0)) _=_
  rw[Nat.add_zero,h]
  rfl
theorem L2.rd (h:L2 es o H)(Q:es[i]? = some [J4 x,z]):∃p q,Ar (.ixa 2) [o,J0 (i:Int)]=some p/\Az p=true/\(∀B,readX ⟨B,H⟩ (.ld true 2) [p]=some (.m (.ag [J4 x,z])))/\(∃u,Ar (.fad 0) [p]=some u/\Az u=true /\ ∀B,readX ⟨B,H⟩ (.ld false 1) [u]=some (J0 x))/\Ar (.fad 1) [p]=some q/\Az q=true /\ ∀B,readX ⟨B,H⟩ (.ld false 1) [q]=some (.m z):=by
 have N:=(Ahq.1 Q).1
 have E:nth (Bn es) i=some [J0 x,.m z]:=by
  rw[AL]
  simp[Bn,Q]
 rcases h with ⟨rfl,rfl⟩|⟨U,r,rfl,J⟩
 ·simp at N
 ·refine⟨.pt r es.length i 0,.pt r es.length i 1,?_,rfl,fun B=>?_,⟨.pt r es.length i 0,rfl,rfl,fun B=>?_⟩,rfl,rfl,fun B=>?_⟩
  ·simp (maxSteps:=2000000) (disch:=omega) []
  ·simp (maxSteps:=2000000) (disch:=omega) [Ab,rd2 E,J,BF]
  ·simp (maxSteps:=2000000) (disch:=omega) [Ab,rd2 E,J]
  ·simp (maxSteps:=2000000) (disch:=omega) [Ab,rd2 E,J]
def IR (c:List Int)(o:V)(H:Hp):Prop:=∃r base lim,o=.sl r c.length 1 0 c.length lim/\nth H r=some (.cs 3 1 (onV (iI c)) base false)/\base<=c.length
variable {c:List Int}
theorem IR.toLW (h:IR c o H):LW 3 (iI c) o H HT:=by
 obtain⟨r,u,E,rfl,J,N⟩:=h
 exact .inr ⟨r,iI c,u,E,Aii,by rw[Dr],J,by rw[Dr];exact N,Ahu _,AhS⟩
theorem IR.keep (h:IR c o H)(Q:∀r,AG o=some r->r<H.length->nth H' r=nth H r):IR c o H':=by
 obtain⟨r,u,E,rfl,J,N⟩:=h
 exact⟨r,u,E,rfl,by rw[Q r rfl (AO J)];exact J,N⟩
theorem IR.bsf (h:IR c o H)(l:Int):∃z Q,(∀B,An (fun _ _ _=>none) ⟨B,H⟩ (.bsf 2 [J0 0,.m (.nl 4)] 1 [0]) [.ag [J0 l,o]]=some (.ls [[J4 l,z]],⟨B,Q⟩))/\IsSl z (BR c)/\BL (.m z)=true/\Q.length=H.length /\ ∀r,AG o≠some r->nth Q r=nth H r:=by
 obtain⟨z,Z,U,N⟩:=h.toLW.view 18
 obtain⟨r,E,u,rfl,Y,h4⟩:=h
 rw[MQ]at U
 refine⟨z,H.set r (.cs 3 1 (onV (iI c)) E true),fun B=>?_,U,N,by simp,fun q W=>AF fun e=>W (by rw[e];rfl)⟩
 have e:An (fun _ _ _=>none) ⟨B,H⟩ (.bsf 2 [J0 0,.m (.nl 4)] 1 [0]) [.ag [J0 l,.sl r c.length 1 0 c.length u]]=((Ah (fun e=>Ah (Mx.view 20 H) e) [[V.m (J4 l),V.sl r c.length 1 0 c.length u]]).bind fun l=>(AY [r] H).bind fun H'=>some (.ls l,⟨B,H'⟩)):=rfl
 have J:Mx.view 20 H (J0 l)=some (J4 l):=rfl
 rw[e,OH Y]
 simp only[Ah,Z,J,Ahz]
theorem IR.nf (h:IR c o H):Az o=true/\AA o=some [o]/\Ar (.len false) [o]=some (J0 (c.length:Nat)):=by
 obtain⟨r,u,E,rfl,J,N⟩:=h
 exact⟨rfl,rfl,rfl⟩
theorem IR.row (h:IR c o H)(e:AG o=some r):∃base,nth H r=some (.cs 3 1 (onV (iI c)) base false):=by
 obtain⟨q,base,u,rfl,E,J⟩:=h
 cases e
 exact⟨base,E⟩
def Li (es:LT):Prop:=∀e,e∈es -> ∃(x:Int) (z:I),e=[.i .i64 x,z]/\IsSl z (BR (dIn z))
structure BldQ (rb rm:Nat)(es:LT)(o:V)(H:Hp):Prop where
 hb:∃base,base<=1/\nth H rb=some (.cs 261 2 [[o,.mp rm]] base false)
 hm:nth H rm=some (mpR ekS evI (knw (es.map dNd) 0))
 hn:L2 es o H
 ok:Li es
def KpB (rb rm:Nat)(o:V)(H:Hp)(o':V)(H':Hp)(nx:V):Prop:=H.length<=H'.length/\(∀r,r<H.length->r≠rb->r≠rm->AG o≠some r->AG nx≠some r->nth H' r=nth H r) /\ ∀r,AG o'=some r->AG o=some r\/H.length<=r
variable {rb rm:Nat}
theorem BldQ.keep (h:BldQ rb rm es o H)(E:∀r,r<H.length->nth H' r=nth H r):BldQ rb rm es o H':=by
 obtain⟨⟨b,u,J⟩,N,Q,ok⟩:=h
 exact⟨⟨b,u,by rw[E _ (AO J)];exact J⟩,by rw[E _ (AO N)];exact N,Q.keep fun r _ U=>E r U,ok⟩
theorem MD:∀(c:List Int),(∀k,k∈c -> -1000000000<=k/\k<=1000000000)->(CA c).length<=22*c.length
 | [],_=>by simp[CA]
 | k::r,h=>by
  have N:=h k (AhR ..)
  have E:=MD r fun x u=>h x (Aij _ u)
  have J:=Nb k (by omega) (by omega)
  have e:CA (k::r)=(32::CK k)++CA r:=rfl
  rw[e,AhF,Aib,Aib]
  omega
theorem RT {k:Int}(h:c[i]? = some k):CA (c.take (i+1))=CA (c.take i)++(32::CK k):=by
 have:c.take (i+1)=c.take i++[k]:=by rw[List.take_add_one,h];rfl
 rw[this]
 unfold CA
 rw[List.flatMap_append]
 simp
theorem AcP (a b:V):CZ 2 [[a,b]] 0 0 1=some [a]:=rfl
theorem Agh (a b:V):CZ 2 [[a,b]] 0 1 1=some [b]:=rfl
theorem Wa (h:IsSl z (BR c)):dNd [J4 x,z]=(x,c):=by
 have:dIn z=c:=by
  rcases h with rfl|⟨rfl,u⟩
  ·show (BR c).map dEn=c
   unfold BR
   rw[Aiy]
   exact List.map_id'' (fun _=>rfl) c
  ·have:c=[]:=by simpa[BR]using u
   subst this
   rfl
 show (x,dIn z)=_
 rw[this]
set_option maxHeartbeats 4000000 in
theorem Vq (hB:BldQ rb rm es o H){l:Int}{nx:V}(hx:IR c nx H)(hl:-1000000000<=l/\l<=1000000000)(hc:∀k,k∈c -> -1000000000<=k/\k<=1000000000)(hcl:c.length<=100)(hel:es.length<=100000000) 
  (Q:V->Hp->Prop) (hQ:∀es' o' H',BldQ rb rm es' o' H'->es'.map dNd=(ES (es.map dNd) (l,c)).1->KpB rb rm o H o' H' nx->Q (J0 ((ES (es.map dNd) (l,c)).2:Nat)) H') :
  Ret G 220 [.pt rb 1 0 0,J0 l,nx] H Q:=by
 have hxn:=hx.nf
 refine Bh mono rfl rfl rfl (by simp[hxn.1]) rfl ?_
 obtain⟨o0,H0,g0,n0,l0,k0⟩:=Ahi (H:=H) (s:=[]) (o:=.m (.nl 4)) .nil (by simp) l (by omega) (by omega)
 rw[List.nil_append]at l0
 simp (maxSteps:=2000000) (disch:=omega) [cl g0,Al n0,Al hxn.1,hxn.2.2]
 refine(?key:∀(i:Nat) (oi:V) (B:LE) (Hi:Hp),i<=c.length->LR 5 (bI (CK l++CA (c.take i))) oi Hi HT->Kp H (.m (.nl 4)) Hi oi ->
  Run G c220_B0 (S220_0 (.pt rb 1 0 0) (J0 l) nx oi nx (J0 (c.length:Int)) (J0 (i:Int)) B Hi) _) 0 o0 [] H0 (Ahy _) (by simpa[CA]using l0) k0
 clear g0 n0 l0 k0 o0 H0
 refine Bj (fun i:Nat=>c.length-i) fun i ih oi B Hi hi li ki=>?_
 unfold c220_B0
 have U:IR c nx Hi:=hx.keep fun r _ E=>ki.2.1 r E (by simp[AG])
 have hil:=Nb l (by omega) (by omega)
 have htl:=MD (c.take i) fun k hk=>hc k (Aiz hk)
 have htk:(c.take i).length<=c.length:=by rw[AhH];omega
 have hoi:=li.nf
 cases hk:c[i]? with
 | some k =>
  have hlt:i<c.length:=(Ahq.1 hk).1
  have Y:(i:Int)<c.length:=by omega
  have hkb:=hc k (Ahw hk)
  obtain⟨p,p1,p2,p3⟩:=U.toLW.rd (Dt hk)
  obtain⟨o1,H1,ha,n1,l1,k1⟩:=li.pushN (b:=1) (by omega) (ys:=bI [32]) (by simp only[Rb,AhF,Aiu];omega) (KU _)
  rw[Rc]at l1
  obtain⟨o2,H2,g2,n2,l2,k2⟩:=Ahi l1 (by simp only[AhF,Aiu];omega) k (by omega) (by omega)
  have N:CK l++CA (c.take i)++[32]++CK k=CK l++CA (c.take (i+1)):=by rw[RT hk];simp
  rw[N]at l2
  have kk:=fun B=>ih (i+1) (by omega) o2 B H2 (by omega) l2 ((ki.trans k1).trans k2)
  have Z:onV (bI [32])=[[V.m (.i .u8 32)]]:=rfl
  rw[Z]at ha
  have wi:=J1 i (by omega)
  simp (maxSteps:=2000000) (disch:=omega) [Y,p1,p3,ha,cl g2,Al n2,wi]
  exact kk _
 | none =>
  have:i=c.length:=by have:=Ahx.1 hk;omega
  subst this
  have Y:¬(c.length:Int)<c.length:=by omega
  rw[AhS]at li
  have ek:CK l++CA c=Ji (l,c):=rfl
  rw[ek]at li
  have hB2:BldQ rb rm es o Hi:=hB.keep fun r E=>ki.2.1 r E (by simp[AG])
  have hb2:∀(H:Hp) B,LR 5 (bI (Ji (l,c))) oi H HT->readX ⟨B,H⟩ .b2s [oi]=some (.m (.s (Ji (l,c)))):=fun H B li=>by rw[Aga,li.elems];simp only[Ahz];rw[QY _ (YD _)];rfl
  have hb3:=fun B=>hb2 Hi B li
  obtain⟨⟨b,hb0,Z⟩,hm,hn,hok⟩:=id hB2
  have u:=KY (es.map dNd) 0 (l,c)
  cases hf:(es.map dNd).idxOf? (l,c) with
  | some k =>
   have ha:ES (es.map dNd) (l,c)=(es.map dNd,k):=by unfold ES;rw[hf]
   rw[hf]at u
   simp only[Aix,Air]at u
   have kk:=hQ es o Hi hB2 (by rw[ha]) ⟨ki.1,fun r E _ _ _ _=>ki.2.1 r E (by simp[AG]),fun r E=>.inl E⟩
   rw[ha]at kk
   simp (maxSteps:=2000000) (disch:=omega) [Ab,Y,Z,hb0,hm,Agh,hb3,u]
   exact kk
  | none =>
   have ha:ES (es.map dNd) (l,c)=(es.map dNd++[(l,c)],es.length):=by unfold ES;rw[hf];simp
   rw[hf]at u
   simp only[Option.map_none]at u
   have hon:=hn.nf
   have d1:∀r,AG nx=some r->AG o=some r->False:=fun r W N=>by
    obtain⟨_,q1⟩:=U.row W
    have q2:=hn.row N
    rw[q1]at q2
    simp at q2
   have d2:AG nx≠some rb:=fun W=>by
    obtain⟨_,q1⟩:=U.row W
    rw[q1]at Z
    simp at Z
   have d3:AG nx≠some rm:=fun W=>by
    obtain⟨_,q1⟩:=U.row W
    rw[q1]at hm
    simp[mpR]at hm
   have d4:AG o≠some rb:=fun W=>by
    have q2:=hn.row W
    rw[q2]at Z
    simp at Z
   have d5:AG o≠some rm:=fun W=>by
    have q2:=hn.row W
    rw[q2]at hm
    simp[mpR]at hm
   have d6:rb≠rm:=fun W=>by
    subst W
    rw[Z]at hm
    simp[mpR]at hm
   have d7:∀r,AG oi=some r->AG nx≠some r/\AG o≠some r/\r≠rb/\r≠rm:=fun r W=>by
    have q:=li.row W
    refine⟨fun N=>?_,fun N=>?_,fun N=>?_,fun N=>?_⟩
    ·obtain⟨_,q1⟩:=U.row N
     rw[q1]at q
     simp at q
    ·have q2:=hn.row N
     rw[q2]at q
     simp at q
    ·subst N
     rw[Z]at q
     simp at q
    ·subst N
     rw[hm]at q
     simp[mpR]at q
   obtain⟨z,H2,f1,f2,f3,f4,f5⟩:=U.bsf l
   have hn2:L2 es o H2:=hn.keep fun r E _=>f5 r fun e=>d1 r e E
   obtain⟨o1,H3,g1,g2,g3,g4⟩:=hn2.push (l:=l) f3 hel
   have hb4:nth H3 rb=some (.cs 261 2 [[o,.mp rm]] b false):=by
    rw[g4.2.1 rb (by rw[f4];exact AO Z) d4,f5 rb d2]
    exact Z
   have hm4:nth H3 rm=some (mpR ekS evI (knw (es.map dNd) 0)):=by
    rw[g4.2.1 rm (by rw[f4];exact AO hm) d5,f5 rm d3]
    exact hm
   have l4:LR 5 (bI (Ji (l,c))) oi H3 HT:=li.keepR fun r E hlt=>by
    obtain⟨q1,q2,_,_⟩:=d7 r E
    rw[g4.2.1 r (by rw[f4];exact hlt) q2,f5 r q1]
   generalize J:H3.set rb (.cs 261 2 [[o1,.mp rm]] 1 false)=H4
   have hb5:nth H4 rb=some (.cs 261 2 [[o1,.mp rm]] 1 false):=by rw[<-J];exact Bc (AO hb4)
   have hm5:nth H4 rm=some (mpR ekS evI (knw (es.map dNd) 0)):=by rw[<-J,AF d6];exact hm4
   have l5:LR 5 (bI (Ji (l,c))) oi H4 HT:=l4.keepR fun r E _=>by
    obtain⟨_,_,q3,_⟩:=d7 r E
    rw[<-J,AF (AiD q3)]
   have hb6:=fun B=>hb2 H4 B l5
   have l4len:H4.length=H3.length:=by rw[<-J];simp
   have hset4:AN H3 rb (.cs 261 2 [[o1,.mp rm]] 1 false)=some H4:=by rw[AB _ _ _ (AO hb4),J]
   have hset5:AN H4 rm (mpR ekS evI (NM (knw (es.map dNd) 0) (Ji (l,c)) ((es.length:Nat):Int)))=some (H4.set rm (mpR ekS evI (NM (knw (es.map dNd) 0) (Ji (l,c)) ((es.length:Nat):Int)))):=AB _ _ _ (AO hm5)
   have hwr:BQ 2 [[o,.mp rm]] 0 0 [o1]=some [[o1,.mp rm]]:=rfl
   have g3n:=g3.nf
   have W:(es++[[I.i .i64 l,z]]).length=es.length+1:=by simp
   rw[W]at g3n
   have wl:wr .i64 (((es.length+1:Nat):Int)-1)=((es.length:Nat):Int):=by rw[Aa (by omega) (by omega)];omega
   have hd5:∀r,AG o1=some r->r≠rb/\r≠rm:=fun r e=>by
    have q:=g3.row e
    refine⟨fun N=>?_,fun N=>?_⟩
    ·subst N
     rw[hb4]at q
     simp at q
    ·subst N
     rw[hm4]at q
     simp[mpR]at q
   have kk:=hQ (es++[[J4 l,z]]) o1 (H4.set rm (mpR ekS evI (NM (knw (es.map dNd) 0) (Ji (l,c)) ((es.length:Nat):Int)))) ⟨⟨1,Ahu _,by rw[AF (AiD d6)];exact hb5⟩,by
     rw[Bc (AO hm5),List.map_append]
     have:=Ads hf
     rw[AhD]at this
     rw[this]
     simp[Wa f2],g3.keep fun r E _=>by
     obtain⟨q1,q2⟩:=hd5 r E
     rw[AF (AiD q2),<-J,AF (AiD q1)],fun e he=>by
     rcases Aig.1 he with h|h
     ·exact hok e h
     ·rw[AhQ]at h
      subst h
      refine⟨l,z,rfl,?_⟩
      have:=Wa (x:=l) f2
      have:dIn z=c:=(Prod.mk.inj this).2
      rw[this]
      exact f2⟩ (by rw[ha,List.map_append];simp[Wa f2]) ⟨by rw[Aim,l4len];have:=g4.1;have:=ki.1;omega,fun r E n1 n2 n3 n4=>by
     rw[AF (AiD n2),<-J,AF (AiD n1),g4.2.1 r (by rw[f4];have:=ki.1;omega) n3,f5 r n4]
     exact ki.2.1 r E (by simp[AG]),fun r E=>(g4.2.2 r E).imp_right fun h=>by rw[f4]at h;have:=ki.1;omega⟩
   rw[ha]at kk
   have hb7:nth (H4.set rm (mpR ekS evI (NM (knw (es.map dNd) 0) (Ji (l,c)) ((es.length:Nat):Int)))) rb=some (.cs 261 2 [[o1,.mp rm]] 1 false):=by rw[AF (AiD d6)];exact hb5
   clear hB2 hQ ih d1 d2 d3 d4 d5 d6 d7 hd5
   obtain⟨rx,bx,limx,rfl,hrx,hbx⟩:=id U
   simp (maxSteps:=2000000) (disch:=omega) [Ab,Aa,Y,Z,hb0,hm,AcP,Agh,hb3,u,BF,f1,g1,hb4,hset4,hwr,g3n.2.1,g3n.2.2.1,hb5,hm5,hb6,hset5,g3n.2.2.2,hb7]
   exact kk
theorem We (J:IsSl z (BR c))(u:c≠[])(W:c.length<=1000000)(H:Hp):Gives G 240 [.m z] H (.sl H.length c.length 1 0 c.length false) (H++[.cs 3 1 (onV (iI c)) 0 false]):=by
 rcases J with rfl|⟨rfl,N⟩
 ·have Q:elems H (.m (.sl (BR c)))=some (onV (iI c)):=by
   show some (Bn (BR c))=_
   rw[<-MQ,YI]
  have E:FF 4 (.m (.sl (BR c)))=some false:=rfl
  obtain⟨x,t,rfl⟩:=AiV u
  refine .of_ret (Bh mono rfl rfl rfl rfl rfl ?_)
  have U:∀B,An (fun _ _ _=>none) ⟨B,H⟩ (.app 3 1 8) [.ls [],.m (.sl (BR (x::t)))]=some (.sl H.length (x::t).length 1 0 (x::t).length false,⟨B,H++[.cs 3 1 (onV (iI (x::t))) 0 false]⟩):=fun B=>by
   rw[Cn Q]
   show Bs ⟨B,H⟩ 3 1 8 (onV (iI (x::t)))=_
   rw[CI,IY (Vr _),DM,Dr]
   have:Nat.ble ((x::t).length*8) 140737488355328=true:=by rw[Bg];exact AhA (by omega)
   rw[this]
   rfl
  simp[E,-DB,U]
 ·exact absurd (by simpa[BR]using N) u
theorem Eo {xs:List I}{x:I}(h:i<xs.length):AN (onV xs) i [.m x]=some (onV (xs.set i x)):=by
 rw[AB _ _ _ (by simpa using h)]
 simp[onV,List.map_set]
theorem Hk (c:List Int)(i:Nat)(v:Int):(iI c).set i (J4 v)=iI (c.set i v):=by simp[iI,List.map_set]
structure RwS where
 r0:Nat
 r1:Nat
 r2:Nat
 r3:Nat
 r4:Nat
def fnW (R:RwS):V:=.fn 243 [.pt R.r2 1 0 0,.pt R.r0 1 0 0,.pt R.r4 1 0 0,.pt R.r3 1 0 0]
structure OrdQ (R:RwS)(es:LT)(o:V)(dn:List Int)(eo:LT)(oo:V)(H:Hp):Prop where
 h0:∃b,b<=1/\nth H R.r0=some (.cs 23 1 [[o]] b false)
 hn:L2 es o H
 h2:∃b,b<=1/\nth H R.r2=some (.cs 65 1 [[.sl R.r1 es.length 1 0 es.length true]] b false)
 h1:∃b,b<=es.length/\nth H R.r1=some (.cs 3 1 (onV (iI dn)) b false)
 h3:∃b,b<=1/\nth H R.r3=some (.cs 23 1 [[oo]] b false)
 ho:L2 eo oo H
 h4:∃b,b<=1/\nth H R.r4=some (.cs 180 1 [[fnW R]] b false)
 dl:dn.length=es.length
 d1:R.r0≠R.r3
 d2:∀r,AG o=some r->AG oo≠some r
 oe:Li eo
def KpW (R:RwS)(oo:V)(H:Hp)(oo':V)(H':Hp):Prop:=H.length<=H'.length/\(∀r,r<H.length->r≠R.r1->r≠R.r3->AG oo≠some r->nth H' r=nth H r) /\ ∀r,AG oo'=some r->AG oo=some r\/H.length<=r
theorem KpW.refl (R:RwS)(H:Hp)(o:V):KpW R o H o H:=⟨Ahu _,fun _ _ _ _ _=>rfl,fun _ h=>.inl h⟩
variable {R:RwS}
theorem KpW.trans {Y W:Hp}{Q J:V}(h:KpW R o H Q Y)(k:KpW R Q Y J W):KpW R o H J W:=by
 obtain⟨a1,Z,U⟩:=h
 obtain⟨b1,b2,b3⟩:=k
 refine⟨by omega,fun r E n1 N u=>?_,fun r E=>?_⟩
 ·rw[b2 r (by omega) n1 N fun e=>?_,Z r E n1 N u]
  rcases U r e with h|h
  ·exact u h
  ·omega
 ·rcases b3 r E with h|h
  ·exact U r h
  ·exact .inr (by omega)
variable {dn:List Int}
theorem OrdQ.keep {Q:LT}{E:V}(h:OrdQ R es o dn Q E H)(u:∀r,r<H.length->(r=R.r0\/r=R.r1\/r=R.r2\/r=R.r3\/r=R.r4\/AG o=some r\/AG E=some r)->nth H' r=nth H r):OrdQ R es o dn Q E H':=by
 obtain⟨⟨b0,x0,U⟩,hn,⟨b2,x2,W⟩,⟨b1,x1,N⟩,⟨b3,x3,Y⟩,ho,⟨b4,x4,Z⟩,dl,d1,d2,oe⟩:=h
 exact⟨⟨b0,x0,by rw[u _ (AO U) (by simp)];exact U⟩,hn.keep fun r e J=>u r J (by simp[e]),⟨b2,x2,by rw[u _ (AO W) (by simp)];exact W⟩,⟨b1,x1,by rw[u _ (AO N) (by simp)];exact N⟩,⟨b3,x3,by rw[u _ (AO Y) (by simp)];exact Y⟩,ho.keep fun r e J=>u r J (by simp[e]),⟨b4,x4,by rw[u _ (AO Z) (by simp)];exact Z⟩,dl,d1,d2,oe⟩
theorem OrdQ.lt {u:LT}{Q:V}(h:OrdQ R es o dn u Q H):R.r0<H.length/\R.r1<H.length/\R.r2<H.length/\R.r3<H.length/\R.r4<H.length:=by
 obtain⟨⟨b0,x0,E⟩,hn,⟨b2,Y,J⟩,⟨b1,x1,U⟩,⟨b3,x3,N⟩,ho,⟨b4,Z,W⟩,dl,d1,d2,oe⟩:=h
 exact⟨AO E,AO U,AO J,AO N,AO W⟩
theorem Qg:∀(d:List Int) (i:Nat) (v:Int),i<d.length->(d.set i v).take (i+1)=d.take i++[v]
 | [],_,_,h=>by simp at h
 | a::r,0,v,_=>by simp
 | a::r,i+1,v,h=>by
  have:=Qg r i v (by simpa using h)
  simp[this]
theorem Qh:∀(d:List Int) (i:Nat) (v:Int),(d.set i v).drop (i+1)=d.drop (i+1)
 | [],_,_=>by simp
 | a::r,0,v=>by simp
 | a::r,i+1,v=>by
  have:=Qh r i v
  simpa using this
theorem RY (a:V):CZ 1 [[a]] 0 0 1=some [a]:=rfl
set_option maxHeartbeats 4000000 in
theorem ZO {R:RwS}{es:LT}{o:V}(hv:Li es)(hk:OkN (es.map dNd))(hel:es.length<=10000000):∀(n k:Nat) (dn:List Int) (Z:LT) (oo:V) (H:Hp),OrdQ R es o dn Z oo H->InvW (es.map dNd) (dn,Z.map dNd)->k<es.length->(ndU (es.map dNd) k).1<=(n:Int) ->
  ∀Q:V->Hp->Prop,(∀dn' eo' oo' H',OrdQ R es o dn' eo' oo' H'->(HO (es.map dNd) n k (dn,Z.map dNd)).1=(dn',eo'.map dNd)->KpW R oo H oo' H'->Q (J0 (HO (es.map dNd) n k (dn,Z.map dNd)).2) H') ->
  Ret G 243 [J0 (k:Int),.pt R.r2 1 0 0,.pt R.r0 1 0 0,.pt R.r4 1 0 0,.pt R.r3 1 0 0] H Q
 | 0,k,dn,Z,oo,H,_,_,hlt,hn=>by
  have:=(hk k (by simpa using hlt)).1
  omega
 | n+1,k,dn,Z,oo,H,hO,hI,hlt,hn=>fun Q hQ=>by
  have hlm:(es.map dNd).length=es.length:=AhD ..
  obtain⟨q1,q2,q3,q4,q5,q6⟩:=hk k (by omega)
  have e0:HO (es.map dNd) (n+1) k (dn,Z.map dNd)=if 0<(dn[k]?).getD 0 then ((dn,Z.map dNd),(dn[k]?).getD 0-1)
   else Aek (ndU (es.map dNd) k) k (if 1<(ndU (es.map dNd) k).1 then Gm (HO (es.map dNd) n) (ndU (es.map dNd) k).2 (dn,Z.map dNd) [] else ((dn,Z.map dNd),(ndU (es.map dNd) k).2)):=rfl
  obtain⟨v,hv0⟩:∃v,dn[k]? = some v:=⟨dn[k]'(by rw[hO.dl];exact hlt),Ahr (by rw[hO.dl];exact hlt)⟩
  have hvb:=hI.val v (Ahw hv0)
  have hvo:=hI.out_le
  rw[e0,hv0]at hQ
  simp only[AiT]at hQ
  obtain⟨b0,hb0,h0⟩:=hO.h0
  obtain⟨b1,hb1,h1⟩:=hO.h1
  obtain⟨b2,hb2,h2⟩:=hO.h2
  obtain⟨b3,hb3,h3⟩:=hO.h3
  obtain⟨b4,hb4,h4⟩:=hO.h4
  have hlt':(k:Int)<es.length:=by omega
  have hn1:=Ci (Dt hv0)
  refine Bh mono rfl rfl rfl rfl rfl ?_
  by_cases hp:0<v
  ·rw[Ahv hp]at hQ
   have kk:=hQ dn Z oo H hO rfl (.refl ..)
   have wv:wr .i64 (v-1)=v-1:=by
    simp only[AhD]at hvo hvb
    exact Aa (by omega) (by omega)
   simp (maxSteps:=2000000) (disch:=omega) [Ab,h2,hb2,h1,hb1,hn1,hp,wv]
   exact kk
  ·rw[Aht hp]at hQ
   have hp':¬(0<v):=hp
   obtain⟨e,he⟩:∃e,es[k]? = some e:=⟨es[k],Ahr hlt⟩
   obtain⟨x,z,rfl,hz⟩:=hv e (Ahw he)
   have hnd:ndU (es.map dNd) k=(x,dIn z):=by
    unfold ndU
    rw[AhN,he]
    rfl
   rw[hnd]at hQ q1 q2 q3 q4 q5 q6 hn e0
   simp only at hQ q1 q2 q3 q4 q5 q6 hn
   generalize hc:dIn z=c at *
   obtain⟨p,pq,p1,p2,p3,⟨p0,p4,p5,p6⟩,p7,p8,p9⟩:=hO.hn.rd he
   have gc:=We hz q3 (by omega) H
   generalize hRES:(if 1<x then Gm (HO (es.map dNd) n) c (dn,Z.map dNd) [] else ((dn,Z.map dNd),c))=RES at hQ
   have hon:=hO.hn.nf
   simp (maxSteps:=2000000) (disch:=omega) [Ab,h2,hb2,h1,hb1,hn1,hp',h0,hb0,p1,p4,p6,p7,p9,cl gc,Al hon.1,Al p2]
   refine(?key:∀(i:Nat) (d:List Int) (E:List Int) (u:LT) (U:V) (B:LE) (Hi:Hp),i<=c.length->getB B 7=some [J0 x,.sl H.length c.length 1 0 c.length false]->OrdQ R es o E u U Hi->InvW (es.map dNd) (E,u.map dNd) ->
    KpW R oo H U Hi->(∃b,b<=c.length/\nth Hi H.length=some (.cs 3 1 (onV (iI d)) b false))->d.length=c.length->d.drop i=c.drop i->(if 1<x then Gm (HO (es.map dNd) n) (c.drop i) (E,u.map dNd) (d.take i) else ((E,u.map dNd),d))=RES ->
    Run G c243_B0 (S243_0 (J0 (k:Int)) (.pt R.r2 1 0 0) (.pt R.r4 1 0 0) (.pt R.r3 1 0 0) (.fa 7 0) (.sl H.length c.length 1 0 c.length false) (J0 (c.length:Int)) (J0 (i:Int)) B Hi) _) 0 c dn Z oo _ _ (Ahy _) rfl ?_ hI ⟨by simp,fun r Y _ _ _=>BH _ _ _ Y,fun r h=>.inl h⟩ ⟨0,Ahy _,CQ H _ 0⟩ rfl rfl (by simpa using hRES)
   case key =>
    refine Bj (fun i:Nat=>c.length-i) fun i ih d E u U B Hi hi hB J hI1 hK hX hdl hdd hR=>?_
    unfold c243_B0
    obtain⟨bx,hbx,hX⟩:=hX
    have hlts:=hO.lt
    have hi1:=J.lt
    have hgt:H.length<Hi.length:=AO hX
    have hon1:=J.ho.nf
    have hoc:∀r,AG U=some r->r≠H.length:=fun r e1 e2=>by
     subst e2
     have q:=J.ho.row e1
     rw[hX]at q
     simp at q
    have hoc0:∀r,AG o=some r->r≠H.length:=fun r e1 e2=>by
     subst e2
     have q:=J.hn.row e1
     rw[hX]at q
     simp at q
    obtain⟨a0,ha0,h0⟩:=J.h0
    obtain⟨a1,ha1,h1⟩:=J.h1
    obtain⟨a2,ha2,h2⟩:=J.h2
    obtain⟨a3,ha3,h3⟩:=J.h3
    obtain⟨a4,ha4,h4⟩:=J.h4
    by_cases hic:i<c.length
    ·have a5:(i:Int)<c.length:=by omega
     have hdi:d[i]? = c[i]?:=by
      have:=AiO (fun l=>l[0]?) hdd
      simpa using this
     obtain⟨kd,hkd⟩:∃kd,c[i]? = some kd:=⟨c[i],Ahr hic⟩
     rw[hkd]at hdi
     have hn2:=Ci (Dt hdi)
     have wi:=J1 i (by omega)
     have hcd:c.drop i=kd::c.drop (i+1):=by
      rw[AiM hic]
      have:=(Ahq.1 hkd).2
      rw[this]
     by_cases W:1<x
     ·obtain⟨s1,s2,s3⟩:=q6 W kd (Ahw hkd)
      obtain⟨kn,rfl⟩:=AhK s1
      rw[Ahv W,hcd]at hR
      have hR:Gm (HO (es.map dNd) n) (c.drop (i+1)) (HO (es.map dNd) n kn (E,u.map dNd)).1 (d.take i++[(HO (es.map dNd) n kn (E,u.map dNd)).2])=RES:=hR
      have hgr:=(VY hk n kn (E,u.map dNd) hI1 s2 (by simp only[Int.toNat_natCast]at s3;omega))
      simp (maxSteps:=2000000) (disch:=omega) [Ab,a5,hn2,hX,hbx,W,hB,h4,ha4,fnW]
      rw[Ao]
      refine ZO hv hk hel n kn E u U Hi J hI1 (by simpa using s2) (by simp only[Int.toNat_natCast]at s3;omega) _ fun dn2 eo2 oo2 H2 N hr2 hK2=>?_
      rw[hr2]at hR hgr
      generalize (HO (es.map dNd) n kn (E,u.map dNd)).2=v2 at hR hgr ⊢
      have hX2:nth H2 H.length=some (.cs 3 1 (onV (iI d)) bx false):=by
       rw[hK2.2.1 H.length hgt (by omega) (by omega) fun e=>hoc _ e rfl]
       exact hX
      have hst:AN (onV (iI d)) i [J0 v2]=some (onV (iI (d.set i v2))):=by rw[Eo (by simp;omega),Hk]
      have hlen2:H.length<H2.length:=AO hX2
      have hoc2:∀r,AG oo2=some r->r≠H.length:=fun r e1 e2=>by
       subst e2
       have q:=N.ho.row e1
       rw[hX2]at q
       simp at q
      have kk:=fun B hB=>ih (i+1) (by omega) (d.set i v2) dn2 eo2 oo2 B (H2.set H.length (.cs 3 1 (onV (iI (d.set i v2))) c.length false)) (by omega) hB (N.keep fun r Y h=>AF fun e=>by
        subst e
        rcases h with h|h|h|h|h|h|h
        ·omega
        ·omega
        ·omega
        ·omega
        ·omega
        ·exact hoc0 _ h rfl
        ·exact hoc2 _ h rfl) hgr.1.1 (by
        obtain⟨k1,k2,k3⟩:=hK.trans hK2
        exact⟨by simpa using k1,fun r Y n1 n2 n3=>by rw[AF (by omega)];exact k2 r Y n1 n2 n3,k3⟩) ⟨c.length,Ahu _,Bc hlen2⟩ (by simpa using hdl) (by rw[Qh,<-AiH,hdd,AiH]) (by rw[Ahv W,Qg _ _ _ (by omega)];exact hR)
      have hse:AN H2 H.length (.cs 3 1 (onV (iI (d.set i v2))) c.length false)=some (H2.set H.length (.cs 3 1 (onV (iI (d.set i v2))) c.length false)):=AB _ _ _ hlen2
      simp (maxSteps:=2000000) (disch:=omega) [Ab,hX2,hn2,hst,hse,hdl,wi]
      exact kk _ hB
     ·rw[Aht W]at hR
      have kk:=fun B hB=>ih (i+1) (by omega) d E u U B Hi (by omega) hB J hI1 hK ⟨bx,hbx,hX⟩ hdl (by rw[<-AiH,hdd,AiH]) (by rw[Aht W];exact hR)
      simp (maxSteps:=2000000) (disch:=omega) [Ab,a5,hn2,hX,hbx,W,hB,wi]
      exact kk _ hB
    ·have:i=c.length:=by omega
     subst this
     have a5:¬(c.length:Int)<c.length:=by omega
     have hdt:d.take c.length=d:=AhJ (by omega)
     have hRE:RES=((E,u.map dNd),d):=by
      rw[<-hR,Aik,hdt]
      by_cases W:1<x
      ·rw[Ahv W];rfl
      ·rw[Aht W]
     rw[hRE]at hQ
     have hIR:IR d (.sl H.length c.length 1 0 c.length false) Hi:=⟨H.length,bx,false,by rw[hdl],hX,by omega⟩
     obtain⟨z2,H2,f1,f2,f3,f4,f5⟩:=hIR.bsf x
     have f5:∀r,r≠H.length->nth H2 r=nth Hi r:=fun r Y=>f5 r fun e=>Y (by cases e;rfl)
     have N:OrdQ R es o E u U H2:=J.keep fun r Y h=>f5 r fun e=>by
      subst e
      rcases h with h|h|h|h|h|h|h
      ·omega
      ·omega
      ·omega
      ·omega
      ·omega
      ·exact hoc0 _ h rfl
      ·exact hoc _ h rfl
     have hout:=hI1.out_le
     simp only[AhD]at hout
     obtain⟨o3,H3,g1,g2,g3,g4⟩:=N.ho.push (l:=x) f3 (by omega)
     have l2:=N.lt
     have hoo2:L2 u U H2:=N.ho
     have hon2:L2 es o H2:=N.hn
     obtain⟨c0,hc0,i0⟩:=N.h0
     obtain⟨c1,hc1,i1⟩:=N.h1
     obtain⟨c2,hc2,i2⟩:=N.h2
     obtain⟨c3,hc3,i3⟩:=N.h3
     obtain⟨c4,hc4,i4⟩:=N.h4
     have a6:∀r (w:Row),nth H2 r=some w->(∀es b fz,w ≠ .cs 67 2 es b fz)->AG U≠some r:=fun r w h1 h2 e1=>by
      have q:=hoo2.row e1
      rw[h1]at q
      exact h2 _ _ _ (Aiw q)
     have u0:=a6 _ _ i0 (fun _ _ _ h=>by simp at h)
     have u1:=a6 _ _ i1 (fun _ _ _ h=>by simp at h)
     have u2:=a6 _ _ i2 (fun _ _ _ h=>by simp at h)
     have u3:=a6 _ _ i3 (fun _ _ _ h=>by simp at h)
     have u4:=a6 _ _ i4 (fun _ _ _ h=>by simp at h)
     have j0:=(g4.2.1 _ l2.1 u0).trans i0
     have j1:=(g4.2.1 _ l2.2.1 u1).trans i1
     have j2:=(g4.2.1 _ l2.2.2.1 u2).trans i2
     have j3:=(g4.2.1 _ l2.2.2.2.1 u3).trans i3
     have j4:=(g4.2.1 _ l2.2.2.2.2 u4).trans i4
     have m3:=g4.1
     have jn:L2 es o H3:=hon2.keep fun r e Y=>g4.2.1 r Y (N.d2 r e)
     have df:∀ {r q:Nat} {a b:Row},nth H3 r=some a->nth H3 q=some b->a≠b->r≠q:=fun h1 h2 hne e=>by
      subst e
      rw[h1]at h2
      exact hne (Aiw h2)
     have n31:R.r3≠R.r1:=df j3 j1 (fun h=>by simp at h)
     have n32:R.r3≠R.r2:=df j3 j2 (fun h=>by simp at h)
     have n34:R.r3≠R.r4:=df j3 j4 (fun h=>by simp at h)
     have n10:R.r1≠R.r0:=df j1 j0 (fun h=>by simp at h)
     have n12:R.r1≠R.r2:=df j1 j2 (fun h=>by simp at h)
     have n14:R.r1≠R.r4:=df j1 j4 (fun h=>by simp at h)
     have n30:R.r3≠R.r0:=AiD N.d1
     have v3:∀r,(AG o=some r\/AG o3=some r)->r≠R.r3/\r≠R.r1:=fun r h=>by
      have q:∃q,nth H3 r=some (.cs 67 2 q 0 false):=by
       rcases h with h|h
       ·exact⟨_,jn.row h⟩
       ·exact⟨_,g3.row h⟩
      obtain⟨q,hq⟩:=q
      exact⟨df hq j3 (fun h=>by simp at h),df hq j1 (fun h=>by simp at h)⟩
     generalize hH4:H3.set R.r3 (.cs 23 1 [[o3]] 1 false)=H4
     have t4:∀r,r≠R.r3->nth H4 r=nth H3 r:=fun r Y=>by rw[<-hH4,AF (AiD Y)]
     have t43:nth H4 R.r3=some (.cs 23 1 [[o3]] 1 false):=by rw[<-hH4];exact Bc (AO j3)
     have t4l:H4.length=H3.length:=by rw[<-hH4];simp
     have k1:=(t4 _ (AiD n31)).trans j1
     have k2:=(t4 _ (AiD n32)).trans j2
     generalize hH5:H4.set R.r1 (.cs 3 1 (onV (iI (E.set k ((u.length+1:Nat):Int)))) es.length false)=H5
     have t5:∀r,r≠R.r1->nth H5 r=nth H4 r:=fun r Y=>by rw[<-hH5,AF (AiD Y)]
     have t51:nth H5 R.r1=some (.cs 3 1 (onV (iI (E.set k ((u.length+1:Nat):Int)))) es.length false):=by rw[<-hH5];exact Bc (AO k1)
     have t5l:H5.length=H3.length:=by rw[<-hH5];simp[t4l]
     have t53:=(t5 _ n31).trans t43
     have s4:AN H3 R.r3 (.cs 23 1 [[o3]] 1 false)=some H4:=by rw[AB _ _ _ (AO j3),hH4]
     have s5:AN H4 R.r1 (.cs 3 1 (onV (iI (E.set k ((u.length+1:Nat):Int)))) es.length false)=some H5:=by rw[AB _ _ _ (AO k1),hH5]
     have hkl:k<(iI E).length:=by rw[Dr,J.dl];exact hlt
     obtain⟨v1,hv1⟩:∃v1,E[k]? = some v1:=⟨E[k]'(by rw[J.dl];exact hlt),Ahr (by rw[J.dl];exact hlt)⟩
     have hn3:=Ci (Dt hv1)
     have hs1:AN (onV (iI E)) k [J0 ((u.length+1:Nat):Int)]=some (onV (iI (E.set k ((u.length+1:Nat):Int)))):=by rw[Eo hkl,Hk]
     have g3n:=g3.nf
     have e1:(u++[[I.i .i64 x,z2]]).length=u.length+1:=by simp
     rw[e1]at g3n
     have wl:wr .i64 (((u.length+1:Nat):Int)-1)=((u.length:Nat):Int):=by rw[Aa (by omega) (by omega)];omega
     have hw1:BQ 1 [[U]] 0 0 [o3]=some [[o3]]:=rfl
     have kk:=hQ (E.set k ((u.length+1:Nat):Int)) (u++[[J4 x,z2]]) o3 H5 ⟨⟨c0,hc0,by rw[t5 _ (AiD n10),t4 _ (AiD n30)];exact j0⟩,jn.keep fun r e _=>by
       obtain⟨w1,w2⟩:=v3 r (.inl e)
       rw[t5 _ w2,t4 _ w1],⟨c2,hc2,by rw[t5 _ (AiD n12)];exact k2⟩,⟨es.length,Ahu _,t51⟩,⟨1,Ahu _,t53⟩,g3.keep fun r e _=>by
       obtain⟨w1,w2⟩:=v3 r (.inr e)
       rw[t5 _ w2,t4 _ w1],⟨c4,hc4,by rw[t5 _ (AiD n14),t4 _ (AiD n34)];exact j4⟩,by rw[Aim];exact J.dl,J.d1,fun r e1 e2=>by
       rcases g4.2.2 r e2 with h|h
       ·exact J.d2 r e1 h
       ·have:=hon2.row_lt e1
        omega,fun e he=>by
       rcases Aig.1 he with h|h
       ·exact J.oe e h
       ·rw[AhQ]at h
        subst h
        refine⟨x,z2,rfl,?_⟩
        have:=(Prod.mk.inj (Wa (x:=x) f2)).2
        rw[this]
        exact f2⟩ (by unfold Aek;simp[Wa f2]) ⟨by rw[t5l];omega,fun r Y n1 n3 n4=>by
       have hrH:r≠H.length:=by omega
       have hr1:AG U≠some r:=fun e=>by
        rcases hK.2.2 r e with h|h
        ·exact n4 h
        ·omega
       rw[t5 _ n1,t4 _ n3,g4.2.1 r (by omega) hr1,f5 r hrH]
       exact hK.2.1 r Y n1 n3 n4,fun r Y=>by
       rcases g4.2.2 r Y with h|h
       ·exact hK.2.2 r h
       ·exact .inr (by omega)⟩
     have hfin:(Aek (x,c) k ((E,u.map dNd),d)).2=((u.length:Nat):Int):=by unfold Aek;simp
     rw[hfin]at kk
     clear ih hQ df a6
     simp only[Int.natCast_add,Int.natCast_one]at hs1 s5
     simp (maxSteps:=2000000) (disch:=omega) [Ab,Aa,a5,J.dl,h3,ha3,hB,BF,f1,g1,j3,hw1,s4,k2,hc2,t43,g3n.2.1,g3n.2.2.1,g3n.2.2.2,k1,hn3,hs1,s5,t53]
     exact kk
   exact hO.keep fun r Y _=>BH _ _ _ Y
open Go.Proofs
variable {ty:Nat} {us:List I}
theorem LG.set (h:LG ty us o H)(hi:i<us.length){x:I}(Z:AA (.m x)=some [.m x])(J:BL (.m x)=true):∃p u,Ar (.ixa 1) [o,J0 (i:Int)]=some p/\Az p=true/\(∀B,An (fun _ _ _=>none) ⟨B,H⟩ (.st 1) [p,.m x]=some (.un,⟨B,u⟩))/\LG ty (us.set i x) o u/\u.length=H.length /\ ∀r,¬AG o=some r->nth u r=nth H r:=by
 rcases h with ⟨rfl,_⟩|⟨r,N,rfl,E,h4,W⟩
 ·simp at hi
 ·refine⟨.pt r us.length i 0,H.set r (.cs ty 1 (onV (us.set i x)) us.length false),?_,rfl,fun B=>?_,.inr ⟨r,us.length,by rw[Aim],Bc (AO E),by simp,fun e=>W (by have:=AiO List.length e;simpa using this)⟩,by simp,fun q Q=>AF fun e=>Q (by rw[e];rfl)⟩
  ·simp (maxSteps:=2000000) (disch:=omega) []
  ·have U:nth (onV us) i=some [.m (us[i]'hi)]:=Ci (Ahr hi)
   show Option.bind (AA (.m x)) _=_
   rw[Z,Ahz]
   show gd (Nat.beq 1 1&&[V.m x].all BL) _=_
   rw[show (Nat.beq 1 1&&[V.m x].all BL)=true from by simp[J]]
   show Option.bind (Option.bind (nth H r) _) _=_
   rw[E]
   show Option.bind (gd (!false&&Nat.beq us.length (onV us).length) (Option.bind (BQ 1 (onV us) i 0 [.m x]) _)) _=_
   have Y:BQ 1 (onV us) i 0 [.m x]=some (onV (us.set i x)):=by
    show Option.bind (nth (onV us) i) _=_
    rw[U]
    show AN (onV us) i [.m x]=_
    exact Eo hi
   rw[Y,show (onV us).length=us.length from by simp]
   rw[show (!false&&Nat.beq us.length us.length)=true from by simp]
   show Option.bind (Option.bind (AN H r _) _) _=_
   rw[AB _ _ _ (AO E)]
   rfl
theorem LG.keep (h:LG ty us o H)(N:∀r,AG o=some r->nth H' r=nth H r):LG ty us o H':=by
 rcases h with h|⟨r,u,rfl,J,E⟩
 ·exact .inl h
 ·exact .inr ⟨r,u,rfl,by rw[N r rfl];exact J,E⟩
theorem LG.lt (h:LG ty us o H)(e:AG o=some r):r<H.length:=by
 rcases h with ⟨_,rfl⟩|⟨q,u,rfl,E,J⟩
 ·cases e
 ·cases e;exact AO E
variable {ps:List (List Ce)}
theorem VX (hL:LG 40 us o H)(Q:Gs us ps)(E:∀p,p∈ps->right p=true)(hl:us.length<=1000000):∃b:Bool,(b=true↔Ev ps)/\Gives G 20 [o] H (.m (.b b)) H:=by
 obtain⟨b,hb,g⟩:=VW Q E hl []
 refine⟨b,hb,?_⟩
 rcases hL with ⟨rfl,rfl⟩|⟨r,u,rfl,W,U,Y⟩
 ·obtain⟨Z,hb2,g2⟩:=VW Q E hl H
  have:Z=b:=by
   cases b <;> cases Z <;> simp_all
  rw[<-this]
  exact g2
 ·have hz:zL us=.sl (on1 us):=by unfold zL;rw[Aht Y]
  refine AQ (is:=[zL us]) rfl rfl g ?_ (.inr ⟨?_,rfl⟩)
  ·simp only[Ah,Ahz,Ahn]
   refine⟨zL us,?_,rfl⟩
   have he:Mx.elems H (.sl r us.length 1 0 us.length false)=some (onV us):=LW.elems (ok:=fun _=>True) (.inr ⟨r,us,u,false,Aii,rfl,W,U,Ahu _,AhS⟩)
   obtain⟨z,J,N,_⟩:=LW.view (ok:=fun _=>True) (.inr ⟨r,us,u,false,Aii,rfl,W,U,Ahu _,AhS⟩:LW 40 us (.sl r us.length 1 0 us.length false) H _) 18
   rw[J]
   rcases N with rfl|⟨rfl,h0⟩
   ·rw[hz]
   ·exact absurd (by simpa[on1]using h0) Y
  ·simp[Dv,Fs]
theorem Yr (h:Gs us ps)(i:Nat){u:I}{q:List Ce}(N:IsSl u (Ae q)):Gs (us.set i u) (ps.set i q):=by
 refine⟨by rw[Aim,Aim];exact h.1,fun k v p E J=>?_⟩
 rw[List.getElem?_set]at E J
 by_cases e:i=k
 ·subst e
  rw[Ahv rfl]at E J
  split at E
  ·cases E
   split at J
   ·cases J;exact N
   ·cases J
  ·cases E
 ·rw[Aht e]at E J
  exact h.2 k v p E J
noncomputable def Wv (t:TreeC)(ps:List (List Ce))(i:Nat):List (List Ce):=(Dz t ps).take i++ps.drop i
theorem AgE (t:TreeC)(ps:List (List Ce)):Wv t ps 0=ps:=by simp[Wv]
theorem AgD (t:TreeC)(ps:List (List Ce)):Wv t ps ps.length=Dz t ps:=by
 unfold Wv Dz
 rw[AhJ (by simp),Aik,Ail]
variable {t:TreeC} {p:List Ce}
theorem Yx (h:ps[i]? = some p):(Wv t ps i)[i]? = some p:=by
 have u:=(Ahq.1 h).1
 have E:((Dz t ps).take i).length=i:=by unfold Dz;rw[AhH,AhD];omega
 unfold Wv
 rw[AhZ (by omega),E,Nat.sub_self,AiS]
 exact h
theorem Yw (h:ps[i]? = some p):(Wv t ps i).set i (BT t p).1=Wv t ps (i+1):=by
 have u:=(Ahq.1 h).1
 have E:((Dz t ps).take i).length=i:=by unfold Dz;rw[AhH,AhD];omega
 have J:(Dz t ps)[i]? = some (BT t p).1:=by unfold Dz;rw[AhN,h];rfl
 unfold Wv
 rw[AiP _ _ (by omega),E,Nat.sub_self,(Am h).2,List.set_cons_zero,As J,AiB]
 rfl
end Go.Mx.Tryz
