/- Apply of the symmetries, of the program and of the reference. -/
import Derived.Test.YtlhjjcaifenlbaaGreatDoorSeav
import Derived.KernelRfl
set_option linter.unusedSimpArgs false
set_option linter.unusedVariables false
set_option linter.unusedSectionVars false
set_option maxRecDepth 100000
namespace Go.Mx.Tryz
open Go.Proofs
theorem EK (x:Int):Ek .and (.m (.i .i64 x)) (.m (.i .i64 7))=some (.m (.i .i64 (x%8))):=by
 have h1:Eu .i64 7=7:=rfl
 have h2:Nat.land (Eu .i64 x) 7=Eu .i64 x%8:=Nat.and_two_pow_sub_one_eq_mod _ 3
 have h3:((Eu .i64 x%8:Nat):Int)=x%8:=by
  cases x with
  | ofNat m=>simp only[Eu,KS,Int.ofNat_eq_natCast];omega
  | negSucc m=>simp only[Eu,KS];omega
 rw[Ti,h1,h2]
 have h4:(Int.ofNat (Eu .i64 x%8))=x%8:=h3
 rw[h4,Aa (by omega) (by omega)]
def Gl (k:Nat)(x y:Int):Int×Int:=match k with
 | 0=>(x,y)
 | 1=>(-y,x)
 | 2=>(-x,-y)
 | 3=>(y,-x)
 | 4=>(-x,y)
 | 5=>(-y,-x)
 | 6=>(x,-y)
 | _=>(y,x)
def Hv (k:Int):Nat:=(k%8).toNat
theorem Acx (k:Int):Hv k<8:=by unfold Hv;omega
theorem Acy (k:Int):k%8=(Hv k:Int):=by unfold Hv;omega
set_option maxHeartbeats 2000000 in
theorem Vc (k x y:Int)(hx:-1000000000000<=x/\x<=1000000000000)(hy:-1000000000000<=y/\y<=1000000000000)(H:Hp):Gives G 120 [.m (.i .i64 k),.m (.ag [.i .i64 x,.i .i64 y])] H (.m (.ag [.i .i64 (Gl (Hv k) x y).1,.i .i64 (Gl (Hv k) x y).2])) H:=by
 refine Al rfl rfl rfl rfl rfl ?_
 have hm:=Acy k
 have hl:=Acx k
 have wx:wr .i64 x=x:=Aa (by omega) (by omega)
 have wy:wr .i64 y=y:=Aa (by omega) (by omega)
 have nx:wr .i64 (-x)=-x:=Aa (by omega) (by omega)
 have ny:wr .i64 (-y)=-y:=Aa (by omega) (by omega)
 have w0:wr .i64 0=0:=rfl
 generalize Hv k=j at *
 match j,hl with
 | 0,_=>simp[EK,hm,g0,wx,wy,w0,Gl]
 | 1,_=>simp[EK,hm,g0,wx,ny,w0,Gl]
 | 2,_=>simp[EK,hm,g0,nx,ny,w0,Gl]
 | 3,_=>simp[EK,hm,g0,wy,nx,w0,Gl]
 | 4,_=>simp[EK,hm,g0,wy,nx,w0,Gl]
 | 5,_=>simp[EK,hm,g0,nx,ny,w0,Gl]
 | 6,_=>simp[EK,hm,g0,wx,ny,w0,Gl]
 | 7,_=>simp[EK,hm,g0,wx,wy,w0,Gl]
end Go.Mx.Tryz
