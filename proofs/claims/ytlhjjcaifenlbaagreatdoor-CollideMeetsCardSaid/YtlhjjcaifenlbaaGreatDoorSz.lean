/- Apply of the symmetries, of the program and of the reference. -/
import Derived.Test.YtlhjjcaifenlbaaGreatDoorSeav
import Derived.KernelRfl
set_option linter.unusedSimpArgs false
set_option linter.unusedVariables false
set_option linter.unusedSectionVars false
set_option maxRecDepth 100000
set_option maxHeartbeats 4000000
namespace Go.Mx.Tryz
open Go.Proofs
theorem EO (x:Int):Ev .and (J0 x) (J0 7)=some (J0 (x%8)):=by
 have E:Gp .i64 7=7:=rfl
 have u:Nat.land (Gp .i64 x) 7=Gp .i64 x%8:=Nat.and_two_pow_sub_one_eq_mod _ 3
 have J:((Gp .i64 x%8:Nat):Int)=x%8:=by
  cases x with
  | ofNat m=>simp only[Gp,Nw,Int.ofNat_eq_natCast];omega
  | negSucc m=>simp only[Gp,Nw];omega
 rw[ZK,E,u]
 have z:(Int.ofNat (Gp .i64 x%8))=x%8:=J
 rw[z,Aa (by omega) (by omega)]
def CD (k:Nat)(x y:Int):Int×Int:=match k with
 | 0=>(x,y)
 | 1=>(-y,x)
 | 2=>(-x,-y)
 | 3=>(y,-x)
 | 4=>(-x,y)
 | 5=>(-y,-x)
 | 6=>(x,-y)
 | _=>(y,x)
def CP (k:Int):Nat:=(k%8).toNat
theorem Vx (k:Int):CP k<8:=by unfold CP;omega
theorem Vy (k:Int):k%8=(CP k:Int):=by unfold CP;omega
theorem Wq (k x y:Int)(Y:-1000000000000<=x/\x<=1000000000000)(W:-1000000000000<=y/\y<=1000000000000)(H:Hp):Gives G 120 [J0 k,.m (.ag [J4 x,J4 y])] H (.m (.ag [J4 (CD (CP k) x y).1,J4 (CD (CP k) x y).2])) H:=by
 refine Ae rfl rfl rfl rfl rfl ?_
 have z:=Vy k
 have U:=Vx k
 have N:wr .i64 x=x:=Aa (by omega) (by omega)
 have E:wr .i64 y=y:=Aa (by omega) (by omega)
 have Q:=J2 (-x) (by omega)
 have J:=J2 (-y) (by omega)
 have u:wr .i64 0=0:=rfl
 generalize CP k=j at *
 match j,U with
 | 0,_=>simp[EO,z,g0,N,E,u,CD]
 | 1,_=>simp[EO,z,g0,N,J,u,CD]
 | 2,_=>simp[EO,z,g0,Q,J,u,CD]
 | 3,_=>simp[EO,z,g0,E,Q,u,CD]
 | 4,_=>simp[EO,z,g0,E,Q,u,CD]
 | 5,_=>simp[EO,z,g0,Q,J,u,CD]
 | 6,_=>simp[EO,z,g0,N,J,u,CD]
 | 7,_=>simp[EO,z,g0,N,E,u,CD]
theorem mod_r (k:Int)(N:-9223372036854775808<=k/\k<=9223372036854775807)(H:Hp):Gives G 178 [J0 k] H (J0 (CP k:Int)) H:=by
 refine Ae rfl rfl rfl rfl rfl ?_
 have e:((k.tmod 8)+8).tmod 8=(CP k:Int):=by
  rw[<-Vy]
  rcases Int.lt_or_le k 0 with h|h
  ·obtain⟨m,rfl⟩:∃m:Nat,k=-(m:Int):=⟨k.natAbs,by omega⟩
   rw[Int.neg_tmod]
   have u:((m:Int)).tmod 8=((m%8:Nat):Int):=rfl
   rw[u]
   have J:-(((m%8:Nat):Int))+8=((8-m%8:Nat):Int):=by omega
   rw[J]
   have z:((8-m%8:Nat):Int).tmod 8=(((8-m%8)%8:Nat):Int):=rfl
   rw[z]
   omega
  ·obtain⟨m,rfl⟩:=AhA h
   have u:((m:Int)).tmod 8=((m%8:Nat):Int):=rfl
   rw[u]
   have z:(((m%8:Nat):Int)+8).tmod 8=(((m%8+8)%8:Nat):Int):=rfl
   rw[z]
   omega
 have Q:-8<k.tmod 8/\k.tmod 8<8:=by
  rcases Int.lt_or_le k 0 with h|h
  ·obtain⟨m,rfl⟩:∃m:Nat,k=-(m:Int):=⟨k.natAbs,by omega⟩
   rw[Int.neg_tmod]
   have u:((m:Int)).tmod 8=((m%8:Nat):Int):=rfl
   rw[u]
   omega
  ·obtain⟨m,rfl⟩:=AhA h
   have u:((m:Int)).tmod 8=((m%8:Nat):Int):=rfl
   rw[u]
   omega
 have E:=J2 (k.tmod 8+8) (by omega)
 simp[E,e]
theorem Adz (k x y:Int)(Y:-9223372036854775808<=k/\k<=9223372036854775807)(hx:-1000000000000<=x/\x<=1000000000000)(hy:-1000000000000<=y/\y<=1000000000000)(H:Hp):Gives G 153 [J0 k,.m (.ag [J4 x,J4 y])] H (.m (.ag [J4 (CD (CP k) x y).1,J4 (CD (CP k) x y).2])) H:=by
 refine Ae rfl rfl rfl rfl rfl ?_
 have u:=fun H=>mod_r k Y H
 have hl:=Vx k
 have W:wr .i64 x=x:=Aa (by omega) (by omega)
 have U:wr .i64 y=y:=Aa (by omega) (by omega)
 have J:=J2 (-x) (by omega)
 have E:=J2 (-y) (by omega)
 have Z:wr .i64 0=0:=rfl
 have z:wr .i64 1=1:=rfl
 have N:wr .i64 2=2:=rfl
 have Q:wr .i64 3=3:=rfl
 generalize CP k=j at *
 match j,hl with
 | 0,_=>simp[cl (u _)];unfold c153_B0;simp[CD]
 | 1,_=>simp[cl (u _)];unfold c153_B0;simp[E,z,CD];unfold c153_B0;simp[]
 | 2,_=>simp[cl (u _)];unfold c153_B0;simp[E,z,CD];unfold c153_B0;simp[J,N];unfold c153_B0;simp[]
 | 3,_=>simp[cl (u _)];unfold c153_B0;simp[E,z,CD];unfold c153_B0;simp[J,N];unfold c153_B0;simp[U,Q];unfold c153_B0;simp[]
 | 4,_=>simp[cl (u _),J,Z];unfold c153_B0;simp[CD]
 | 5,_=>simp[cl (u _),J,z];unfold c153_B0;simp[E,z,CD];unfold c153_B0;simp[]
 | 6,_=>simp[cl (u _),J,N];unfold c153_B0;simp[E,z,CD];unfold c153_B0;simp[W,N];unfold c153_B0;simp[]
 | 7,_=>simp[cl (u _),J,Q];unfold c153_B0;simp[E,z,CD];unfold c153_B0;simp[W,N];unfold c153_B0;simp[U,Q];unfold c153_B0;simp[]
end Go.Mx.Tryz
