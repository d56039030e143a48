/- Apply of the symmetries, of the program and of the reference. -/
import Derived.Test.YtlhjjcaifenlbaaGreatDoorSeav
import Derived.KernelRfl
set_option linter.unusedSimpArgs false
set_option linter.unusedVariables false
set_option linter.unusedSectionVars false
set_option maxRecDepth 100000
set_option maxHeartbeats 4000000
namespace Go.Mx.Tryz
open Go.Proofs
theorem Ey (x : Int) : DW .and (.m (.i .i64 x)) (.m (.i .i64 7)) = some (.m (.i .i64 (x % 8))):=by
 have h1 : Ek .i64 7 = 7:=rfl
 have h2 : Nat.land (Ek .i64 x) 7 = Ek .i64 x % 8:=Nat.and_two_pow_sub_one_eq_mod _ 3
 have h3 : ((Ek .i64 x % 8 : Nat) : Int) = x % 8:=by
  cases x with
  | ofNat m=>simp only [Ek,Kb,Int.ofNat_eq_natCast]; omega
  | negSucc m=>simp only [Ek,Kb]; omega
 rw [RF,h1,h2]
 have h4 : (Int.ofNat (Ek .i64 x % 8)) = x % 8:=h3
 rw [h4,Aa (by omega) (by omega)]
def CT (k : Nat) (x y : Int) : Int × Int:=match k with
 | 0=>(x,y)
 | 1=>(-y,x)
 | 2=>(-x,-y)
 | 3=>(y,-x)
 | 4=>(-x,y)
 | 5=>(-y,-x)
 | 6=>(x,-y)
 | _=>(y,x)
def Db (k : Int) : Nat:=(k % 8).toNat
theorem SZ (k : Int) : Db k < 8:=by unfold Db; omega
theorem Ta (k : Int) : k % 8 = (Db k : Int):=by unfold Db; omega
theorem ZG (k x y : Int) (hx : -1000000000000 <= x /\ x <= 1000000000000) (hy : -1000000000000 <= y /\ y <= 1000000000000) (H : Hp) : Gives G 120 [.m (.i .i64 k),.m (.ag [.i .i64 x,.i .i64 y])] H (.m (.ag [.i .i64 (CT (Db k) x y).1,.i .i64 (CT (Db k) x y).2])) H:=by
 refine Ae rfl rfl rfl rfl rfl ?_
 have hm:=Ta k
 have hl:=SZ k
 have wx : wr .i64 x = x:=Aa (by omega) (by omega)
 have wy : wr .i64 y = y:=Aa (by omega) (by omega)
 have nx : wr .i64 (-x) = -x:=Aa (by omega) (by omega)
 have ny : wr .i64 (-y) = -y:=Aa (by omega) (by omega)
 have w0 : wr .i64 0 = 0:=rfl
 generalize Db k = j at *
 match j,hl with
 | 0,_=>simp [Ey,hm,g0,wx,wy,w0,CT]
 | 1,_=>simp [Ey,hm,g0,wx,ny,w0,CT]
 | 2,_=>simp [Ey,hm,g0,nx,ny,w0,CT]
 | 3,_=>simp [Ey,hm,g0,wy,nx,w0,CT]
 | 4,_=>simp [Ey,hm,g0,wy,nx,w0,CT]
 | 5,_=>simp [Ey,hm,g0,nx,ny,w0,CT]
 | 6,_=>simp [Ey,hm,g0,wx,ny,w0,CT]
 | 7,_=>simp [Ey,hm,g0,wx,wy,w0,CT]
theorem mod_r (k : Int) (hk : -9223372036854775808 <= k /\ k <= 9223372036854775807) (H : Hp) : Gives G 178 [.m (.i .i64 k)] H (.m (.i .i64 (Db k : Int))) H:=by
 refine Ae rfl rfl rfl rfl rfl ?_
 have e : ((k.tmod 8) + 8).tmod 8 = (Db k : Int):=by
  rw [<- Ta]
  rcases Int.lt_or_le k 0 with h | h
  ·obtain ⟨m,rfl⟩ : ∃ m : Nat,k = -(m : Int):=⟨k.natAbs,by omega⟩
   rw [Int.neg_tmod]
   have e1 : ((m : Int)).tmod 8 = ((m % 8 : Nat) : Int):=rfl
   rw [e1]
   have e2 : -(((m % 8 : Nat) : Int)) + 8 = ((8 - m % 8 : Nat) : Int):=by omega
   rw [e2]
   have e3 : ((8 - m % 8 : Nat) : Int).tmod 8 = (((8 - m % 8) % 8 : Nat) : Int):=rfl
   rw [e3]
   omega
  ·obtain ⟨m,rfl⟩:=AdM h
   have e1 : ((m : Int)).tmod 8 = ((m % 8 : Nat) : Int):=rfl
   rw [e1]
   have e3 : (((m % 8 : Nat) : Int) + 8).tmod 8 = (((m % 8 + 8) % 8 : Nat) : Int):=rfl
   rw [e3]
   omega
 have hb : -8 < k.tmod 8 /\ k.tmod 8 < 8:=by
  rcases Int.lt_or_le k 0 with h | h
  ·obtain ⟨m,rfl⟩ : ∃ m : Nat,k = -(m : Int):=⟨k.natAbs,by omega⟩
   rw [Int.neg_tmod]
   have e1 : ((m : Int)).tmod 8 = ((m % 8 : Nat) : Int):=rfl
   rw [e1]
   omega
  ·obtain ⟨m,rfl⟩:=AdM h
   have e1 : ((m : Int)).tmod 8 = ((m % 8 : Nat) : Int):=rfl
   rw [e1]
   omega
 have w1 : wr .i64 (k.tmod 8 + 8) = k.tmod 8 + 8:=Aa (by omega) (by omega)
 simp [w1,e]
theorem ZH (k x y : Int) (hk : -9223372036854775808 <= k /\ k <= 9223372036854775807) (hx : -1000000000000 <= x /\ x <= 1000000000000) (hy : -1000000000000 <= y /\ y <= 1000000000000) (H : Hp) : Gives G 153 [.m (.i .i64 k),.m (.ag [.i .i64 x,.i .i64 y])] H (.m (.ag [.i .i64 (CT (Db k) x y).1,.i .i64 (CT (Db k) x y).2])) H:=by
 refine Ae rfl rfl rfl rfl rfl ?_
 have gm:=fun H=>mod_r k hk H
 have hl:=SZ k
 have wx : wr .i64 x = x:=Aa (by omega) (by omega)
 have wy : wr .i64 y = y:=Aa (by omega) (by omega)
 have nx : wr .i64 (-x) = -x:=Aa (by omega) (by omega)
 have ny : wr .i64 (-y) = -y:=Aa (by omega) (by omega)
 have w0 : wr .i64 0 = 0:=rfl
 have w1 : wr .i64 1 = 1:=rfl
 have w2 : wr .i64 2 = 2:=rfl
 have w3 : wr .i64 3 = 3:=rfl
 generalize Db k = j at *
 match j,hl with
 | 0,_=>simp [cl (gm _)]; unfold c153_B0; simp [CT]
 | 1,_=>simp [cl (gm _)]; unfold c153_B0; simp [ny,w1,CT]; unfold c153_B0; simp []
 | 2,_=>simp [cl (gm _)]; unfold c153_B0; simp [ny,w1,CT]; unfold c153_B0; simp [nx,w2]; unfold c153_B0; simp []
 | 3,_=>simp [cl (gm _)]; unfold c153_B0; simp [ny,w1,CT]; unfold c153_B0; simp [nx,w2]; unfold c153_B0; simp [wy,w3]; unfold c153_B0; simp []
 | 4,_=>simp [cl (gm _),nx,w0]; unfold c153_B0; simp [CT]
 | 5,_=>simp [cl (gm _),nx,w1]; unfold c153_B0; simp [ny,w1,CT]; unfold c153_B0; simp []
 | 6,_=>simp [cl (gm _),nx,w2]; unfold c153_B0; simp [ny,w1,CT]; unfold c153_B0; simp [wx,w2]; unfold c153_B0; simp []
 | 7,_=>simp [cl (gm _),nx,w3]; unfold c153_B0; simp [ny,w1,CT]; unfold c153_B0; simp [wx,w2]; unfold c153_B0; simp [wy,w3]; unfold c153_B0; simp []
end Go.Mx.Tryz
