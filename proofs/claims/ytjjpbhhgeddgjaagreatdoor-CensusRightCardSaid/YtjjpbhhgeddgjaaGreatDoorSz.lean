/- Apply of the symmetries, of the program and of the reference. -/
import Derived.Test.YtjjpbhhgeddgjaaGreatDoorSeav
import Derived.KernelRfl
set_option linter.unusedSimpArgs false
set_option linter.unusedVariables false
set_option linter.unusedSectionVars false
set_option maxRecDepth 100000
namespace Go.Mx.Tryz
open Go.Proofs
theorem DU (x : Int) : Dj .and (.m (.i .i64 x)) (.m (.i .i64 7)) = some (.m (.i .i64 (x % 8))):=by
 have h1 : Fp .i64 7 = 7:=rfl
 have h2 : Nat.land (Fp .i64 x) 7 = Fp .i64 x % 8:=Nat.and_two_pow_sub_one_eq_mod _ 3
 have h3 : ((Fp .i64 x % 8 : Nat) : Int) = x % 8:=by
  cases x with
  | ofNat m=>simp only [Fp,Jh,Int.ofNat_eq_natCast]; omega
  | negSucc m=>simp only [Fp,Jh]; omega
 rw [Ul,h1,h2]
 have h4 : (Int.ofNat (Fp .i64 x % 8)) = x % 8:=h3
 rw [h4,Aa (by omega) (by omega)]
def LS (k : Nat) (x y : Int) : Int × Int:=match k with
 | 0=>(x,y)
 | 1=>(-y,x)
 | 2=>(-x,-y)
 | 3=>(y,-x)
 | 4=>(-x,y)
 | 5=>(-y,-x)
 | 6=>(x,-y)
 | _=>(y,x)
def OT (k : Int) : Nat:=(k % 8).toNat
theorem XQ (k : Int) : OT k < 8:=by unfold OT; omega
theorem XR (k : Int) : k % 8 = (OT k : Int):=by unfold OT; omega
set_option maxHeartbeats 2000000 in
theorem Yg (k x y : Int) (hx : -1000000000000 <= x /\ x <= 1000000000000) (hy : -1000000000000 <= y /\ y <= 1000000000000) (H : Hp) : Gives G 91 [.m (.i .i64 k),.m (.ag [.i .i64 x,.i .i64 y])] H (.m (.ag [.i .i64 (LS (OT k) x y).1,.i .i64 (LS (OT k) x y).2])) H:=by
 refine Ak rfl rfl rfl rfl rfl ?_
 have hm:=XR k
 have hl:=XQ k
 have wx : wr .i64 x = x:=Aa (by omega) (by omega)
 have wy : wr .i64 y = y:=Aa (by omega) (by omega)
 have nx : wr .i64 (-x) = -x:=Aa (by omega) (by omega)
 have ny : wr .i64 (-y) = -y:=Aa (by omega) (by omega)
 have w0 : wr .i64 0 = 0:=rfl
 generalize OT k = j at *
 match j,hl with
 | 0,_=>simp [DU,hm,g0,wx,wy,w0,LS]
 | 1,_=>simp [DU,hm,g0,wx,ny,w0,LS]
 | 2,_=>simp [DU,hm,g0,nx,ny,w0,LS]
 | 3,_=>simp [DU,hm,g0,wy,nx,w0,LS]
 | 4,_=>simp [DU,hm,g0,wy,nx,w0,LS]
 | 5,_=>simp [DU,hm,g0,nx,ny,w0,LS]
 | 6,_=>simp [DU,hm,g0,wx,ny,w0,LS]
 | 7,_=>simp [DU,hm,g0,wx,wy,w0,LS]
end Go.Mx.Tryz
