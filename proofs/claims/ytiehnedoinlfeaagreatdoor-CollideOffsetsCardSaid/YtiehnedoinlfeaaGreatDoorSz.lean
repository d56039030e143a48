/- Apply of the symmetries, of the program and of the reference. -/
import Derived.Test.YtiehnedoinlfeaaGreatDoorSeav
import Derived.KernelRfl
set_option linter.unusedSimpArgs false
set_option linter.unusedVariables false
set_option linter.unusedSectionVars false
set_option maxRecDepth 100000
set_option maxHeartbeats 4000000
namespace Go.Mx.Tryz
open Go.Proofs
theorem ER (x:Int):Ez .and (J0 x) (J0 7)=some (J0 (x%8)):=by
 have J:Gr .i64 7=7:=rfl
 have z:Nat.land (Gr .i64 x) 7=Gr .i64 x%8:=Nat.and_two_pow_sub_one_eq_mod _ 3
 have E:((Gr .i64 x%8:Nat):Int)=x%8:=by
  cases x with
  | ofNat m=>simp only[Gr,Nt,Int.ofNat_eq_natCast];omega
  | negSucc m=>simp only[Gr,Nt];omega
 rw[ZJ,J,z]
 have u:(Int.ofNat (Gr .i64 x%8))=x%8:=E
 rw[u,Aa (by omega) (by omega)]
def CF (k:Nat)(x y:Int):Int×Int:=match k with
 | 0=>(x,y)
 | 1=>(-y,x)
 | 2=>(-x,-y)
 | 3=>(y,-x)
 | 4=>(-x,y)
 | 5=>(-y,-x)
 | 6=>(x,-y)
 | _=>(y,x)
def CS (k:Int):Nat:=(k%8).toNat
theorem Vy (k:Int):CS k<8:=by unfold CS;omega
theorem Vz (k:Int):k%8=(CS k:Int):=by unfold CS;omega
theorem Wm (k x y:Int)(Y:-1000000000000<=x/\x<=1000000000000)(W:-1000000000000<=y/\y<=1000000000000)(H:Hp):Gives G 87 [J0 k,.m (.ag [J4 x,J4 y])] H (.m (.ag [J4 (CF (CS k) x y).1,J4 (CF (CS k) x y).2])) H:=by
 refine Af rfl rfl rfl rfl rfl ?_
 have z:=Vz k
 have U:=Vy k
 have E:wr .i64 x=x:=Aa (by omega) (by omega)
 have N:wr .i64 y=y:=Aa (by omega) (by omega)
 have J:=J2 (-x) (by omega)
 have Q:=J2 (-y) (by omega)
 have u:wr .i64 0=0:=rfl
 generalize CS k=j at *
 match j,U with
 | 0,_=>simp[ER,z,g0,E,N,u,CF]
 | 1,_=>simp[ER,z,g0,E,Q,u,CF]
 | 2,_=>simp[ER,z,g0,J,Q,u,CF]
 | 3,_=>simp[ER,z,g0,N,J,u,CF]
 | 4,_=>simp[ER,z,g0,N,J,u,CF]
 | 5,_=>simp[ER,z,g0,J,Q,u,CF]
 | 6,_=>simp[ER,z,g0,E,Q,u,CF]
 | 7,_=>simp[ER,z,g0,E,N,u,CF]
theorem mod_r (k:Int)(Q:-9223372036854775808<=k/\k<=9223372036854775807)(H:Hp):Gives G 176 [J0 k] H (J0 (CS k:Int)) H:=by
 refine Af rfl rfl rfl rfl rfl ?_
 have e:((k.tmod 8)+8).tmod 8=(CS k:Int):=by
  rw[<-Vz]
  rcases Int.lt_or_le k 0 with h|h
  ·obtain⟨m,rfl⟩:∃m:Nat,k=-(m:Int):=⟨k.natAbs,by omega⟩
   rw[Int.neg_tmod]
   have u:((m:Int)).tmod 8=((m%8:Nat):Int):=rfl
   rw[u]
   have E:-(((m%8:Nat):Int))+8=((8-m%8:Nat):Int):=by omega
   rw[E]
   have z:((8-m%8:Nat):Int).tmod 8=(((8-m%8)%8:Nat):Int):=rfl
   rw[z]
   omega
  ·obtain⟨m,rfl⟩:=AhK h
   have u:((m:Int)).tmod 8=((m%8:Nat):Int):=rfl
   rw[u]
   have z:(((m%8:Nat):Int)+8).tmod 8=(((m%8+8)%8:Nat):Int):=rfl
   rw[z]
   omega
 have N:-8<k.tmod 8/\k.tmod 8<8:=by
  rcases Int.lt_or_le k 0 with h|h
  ·obtain⟨m,rfl⟩:∃m:Nat,k=-(m:Int):=⟨k.natAbs,by omega⟩
   rw[Int.neg_tmod]
   have u:((m:Int)).tmod 8=((m%8:Nat):Int):=rfl
   rw[u]
   omega
  ·obtain⟨m,rfl⟩:=AhK h
   have u:((m:Int)).tmod 8=((m%8:Nat):Int):=rfl
   rw[u]
   omega
 have J:=J2 (k.tmod 8+8) (by omega)
 simp[J,e]
theorem AdG (k x y:Int)(hk:-9223372036854775808<=k/\k<=9223372036854775807)(hx:-1000000000000<=x/\x<=1000000000000)(hy:-1000000000000<=y/\y<=1000000000000)(H:Hp):Gives G 138 [J0 k,.m (.ag [J4 x,J4 y])] H (.m (.ag [J4 (CF (CS k) x y).1,J4 (CF (CS k) x y).2])) H:=by
 refine Af rfl rfl rfl rfl rfl ?_
 have u:=fun H=>mod_r k hk H
 have Z:=Vy k
 have U:wr .i64 x=x:=Aa (by omega) (by omega)
 have W:wr .i64 y=y:=Aa (by omega) (by omega)
 have E:=J2 (-x) (by omega)
 have J:=J2 (-y) (by omega)
 have Y:wr .i64 0=0:=rfl
 have z:wr .i64 1=1:=rfl
 have N:wr .i64 2=2:=rfl
 have Q:wr .i64 3=3:=rfl
 generalize CS k=j at *
 match j,Z with
 | 0,_=>simp[cl (u _)];unfold c138_B0;simp[CF]
 | 1,_=>simp[cl (u _)];unfold c138_B0;simp[J,z,CF];unfold c138_B0;simp[]
 | 2,_=>simp[cl (u _)];unfold c138_B0;simp[J,z,CF];unfold c138_B0;simp[E,N];unfold c138_B0;simp[]
 | 3,_=>simp[cl (u _)];unfold c138_B0;simp[J,z,CF];unfold c138_B0;simp[E,N];unfold c138_B0;simp[W,Q];unfold c138_B0;simp[]
 | 4,_=>simp[cl (u _),E,Y];unfold c138_B0;simp[CF]
 | 5,_=>simp[cl (u _),E,z];unfold c138_B0;simp[J,z,CF];unfold c138_B0;simp[]
 | 6,_=>simp[cl (u _),E,N];unfold c138_B0;simp[J,z,CF];unfold c138_B0;simp[U,N];unfold c138_B0;simp[]
 | 7,_=>simp[cl (u _),E,Q];unfold c138_B0;simp[J,z,CF];unfold c138_B0;simp[U,N];unfold c138_B0;simp[W,Q];unfold c138_B0;simp[]
end Go.Mx.Tryz
