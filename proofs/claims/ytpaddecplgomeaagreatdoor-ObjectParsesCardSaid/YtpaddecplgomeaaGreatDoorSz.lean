/- Apply of the symmetries, of the program and of the reference. -/
import Derived.Test.YtpaddecplgomeaaGreatDoorSeav
import Derived.KernelRfl
set_option linter.unusedSimpArgs false
set_option linter.unusedVariables false
set_option linter.unusedSectionVars false
set_option maxRecDepth 100000
set_option maxHeartbeats 4000000
namespace Go.Mx.Tryz
open Go.Proofs
theorem Ep (x : Int) : Dk .and (.m (.i .i64 x)) (.m (.i .i64 7)) = some (.m (.i .i64 (x % 8))):=by
 have h1 : Ee .i64 7 = 7:=rfl
 have h2 : Nat.land (Ee .i64 x) 7 = Ee .i64 x % 8:=Nat.and_two_pow_sub_one_eq_mod _ 3
 have h3 : ((Ee .i64 x % 8 : Nat) : Int) = x % 8:=by
  cases x with
  | ofNat m=>simp only [Ee,KA,Int.ofNat_eq_natCast]; omega
  | negSucc m=>simp only [Ee,KA]; omega
 rw [Sm,h1,h2]
 have h4 : (Int.ofNat (Ee .i64 x % 8)) = x % 8:=h3
 rw [h4,wr_i64 (by omega) (by omega)]
def Co (k : Nat) (x y : Int) : Int × Int:=match k with
 | 0=>(x,y)
 | 1=>(-y,x)
 | 2=>(-x,-y)
 | 3=>(y,-x)
 | 4=>(-x,y)
 | 5=>(-y,-x)
 | 6=>(x,-y)
 | _=>(y,x)
def DS (k : Int) : Nat:=(k % 8).toNat
theorem Tn (k : Int) : DS k < 8:=by unfold DS; omega
theorem To (k : Int) : k % 8 = (DS k : Int):=by unfold DS; omega
theorem Aaz (k x y : Int) (hx : -1000000000000 <= x /\ x <= 1000000000000) (hy : -1000000000000 <= y /\ y <= 1000000000000) (H : Hp) : Gives G 33 [.m (.i .i64 k),.m (.ag [.i .i64 x,.i .i64 y])] H (.m (.ag [.i .i64 (Co (DS k) x y).1,.i .i64 (Co (DS k) x y).2])) H:=by
 refine Ah rfl rfl rfl rfl rfl ?_
 have hm:=To k
 have hl:=Tn k
 have wx : wr .i64 x = x:=wr_i64 (by omega) (by omega)
 have wy : wr .i64 y = y:=wr_i64 (by omega) (by omega)
 have nx : wr .i64 (-x) = -x:=wr_i64 (by omega) (by omega)
 have ny : wr .i64 (-y) = -y:=wr_i64 (by omega) (by omega)
 have w0 : wr .i64 0 = 0:=rfl
 generalize DS k = j at *
 match j,hl with
 | 0,_=>simp [Ep,hm,g0,wx,wy,w0,Co]
 | 1,_=>simp [Ep,hm,g0,wx,ny,w0,Co]
 | 2,_=>simp [Ep,hm,g0,nx,ny,w0,Co]
 | 3,_=>simp [Ep,hm,g0,wy,nx,w0,Co]
 | 4,_=>simp [Ep,hm,g0,wy,nx,w0,Co]
 | 5,_=>simp [Ep,hm,g0,nx,ny,w0,Co]
 | 6,_=>simp [Ep,hm,g0,wx,ny,w0,Co]
 | 7,_=>simp [Ep,hm,g0,wx,wy,w0,Co]
theorem mod_r (k : Int) (hk : -9223372036854775808 <= k /\ k <= 9223372036854775807) (H : Hp) : Gives G 91 [.m (.i .i64 k)] H (.m (.i .i64 (DS k : Int))) H:=by
 refine Ah rfl rfl rfl rfl rfl ?_
 have e : ((k.tmod 8) + 8).tmod 8 = (DS k : Int):=by
  rw [<- To]
  rcases Int.lt_or_le k 0 with h | h
  ·obtain ⟨m,rfl⟩ : ∃ m : Nat,k = -(m : Int):=⟨k.natAbs,by omega⟩
   rw [Int.neg_tmod]
   have e1 : ((m : Int)).tmod 8 = ((m % 8 : Nat) : Int):=rfl
   rw [e1]
   have e2 : -(((m % 8 : Nat) : Int)) + 8 = ((8 - m % 8 : Nat) : Int):=by omega
   rw [e2]
   have e3 : ((8 - m % 8 : Nat) : Int).tmod 8 = (((8 - m % 8) % 8 : Nat) : Int):=rfl
   rw [e3]
   omega
  ·obtain ⟨m,rfl⟩:=AeV h
   have e1 : ((m : Int)).tmod 8 = ((m % 8 : Nat) : Int):=rfl
   rw [e1]
   have e3 : (((m % 8 : Nat) : Int) + 8).tmod 8 = (((m % 8 + 8) % 8 : Nat) : Int):=rfl
   rw [e3]
   omega
 have hb : -8 < k.tmod 8 /\ k.tmod 8 < 8:=by
  rcases Int.lt_or_le k 0 with h | h
  ·obtain ⟨m,rfl⟩ : ∃ m : Nat,k = -(m : Int):=⟨k.natAbs,by omega⟩
   rw [Int.neg_tmod]
   have e1 : ((m : Int)).tmod 8 = ((m % 8 : Nat) : Int):=rfl
   rw [e1]
   omega
  ·obtain ⟨m,rfl⟩:=AeV h
   have e1 : ((m : Int)).tmod 8 = ((m % 8 : Nat) : Int):=rfl
   rw [e1]
   omega
 have w1 : wr .i64 (k.tmod 8 + 8) = k.tmod 8 + 8:=wr_i64 (by omega) (by omega)
 simp [w1,e]
theorem AaA (k x y : Int) (hk : -9223372036854775808 <= k /\ k <= 9223372036854775807) (hx : -1000000000000 <= x /\ x <= 1000000000000) (hy : -1000000000000 <= y /\ y <= 1000000000000) (H : Hp) : Gives G 44 [.m (.i .i64 k),.m (.ag [.i .i64 x,.i .i64 y])] H (.m (.ag [.i .i64 (Co (DS k) x y).1,.i .i64 (Co (DS k) x y).2])) H:=by
 refine Ah rfl rfl rfl rfl rfl ?_
 have gm:=fun H=>mod_r k hk H
 have hl:=Tn k
 have wx : wr .i64 x = x:=wr_i64 (by omega) (by omega)
 have wy : wr .i64 y = y:=wr_i64 (by omega) (by omega)
 have nx : wr .i64 (-x) = -x:=wr_i64 (by omega) (by omega)
 have ny : wr .i64 (-y) = -y:=wr_i64 (by omega) (by omega)
 have w0 : wr .i64 0 = 0:=rfl
 have w1 : wr .i64 1 = 1:=rfl
 have w2 : wr .i64 2 = 2:=rfl
 have w3 : wr .i64 3 = 3:=rfl
 generalize DS k = j at *
 match j,hl with
 | 0,_=>simp [cl (gm _)]; unfold c44_B0; simp [Co]
 | 1,_=>simp [cl (gm _)]; unfold c44_B0; simp [ny,w1,Co]; unfold c44_B0; simp []
 | 2,_=>simp [cl (gm _)]; unfold c44_B0; simp [ny,w1,Co]; unfold c44_B0; simp [nx,w2]; unfold c44_B0; simp []
 | 3,_=>simp [cl (gm _)]; unfold c44_B0; simp [ny,w1,Co]; unfold c44_B0; simp [nx,w2]; unfold c44_B0; simp [wy,w3]; unfold c44_B0; simp []
 | 4,_=>simp [cl (gm _),nx,w0]; unfold c44_B0; simp [Co]
 | 5,_=>simp [cl (gm _),nx,w1]; unfold c44_B0; simp [ny,w1,Co]; unfold c44_B0; simp []
 | 6,_=>simp [cl (gm _),nx,w2]; unfold c44_B0; simp [ny,w1,Co]; unfold c44_B0; simp [wx,w2]; unfold c44_B0; simp []
 | 7,_=>simp [cl (gm _),nx,w3]; unfold c44_B0; simp [ny,w1,Co]; unfold c44_B0; simp [wx,w2]; unfold c44_B0; simp [wy,w3]; unfold c44_B0; simp []
end Go.Mx.Tryz
