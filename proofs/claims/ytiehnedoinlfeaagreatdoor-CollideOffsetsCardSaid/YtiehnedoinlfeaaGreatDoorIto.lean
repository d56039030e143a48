/- strconv.Itoa at the machine: the decimal numeral. -/
import Derived.Test.YtiehnedoinlfeaaGreatDoorSeav
import Derived.Test.YtiehnedoinlfeaaGreatDoorWb
import Derived.Test.YtiehnedoinlfeaaGreatDoorWa
set_option linter.unusedSimpArgs false
set_option linter.unusedVariables false
set_option linter.unusedSectionVars false
set_option maxRecDepth 100000
namespace Go.Mx.Tryz
open Go.Lib
attribute [local congr] LN
theorem YB:∀j,j<256->nth (n0:List Nat) j=some (bitLenAux 8 j):=by
 have h:∀j:Fin 256,nth (n0:List Nat) j.val=some (bitLenAux 8 j.val):=by decide +kernel
 exact fun j u=>h ⟨j,u⟩
theorem AdD {u k:Nat}(z:k=0\/2 ^ k<=u)(E:u / 2 ^ k<256)(h:u<2 ^ 64):Lib.bitLen u=k+bitLenAux 8 (u / 2 ^ k):=by
 rcases z with rfl|z
 ·simp only[Nat.pow_zero,Nat.div_one]at E ⊢
  rw[bl_8 E];omega
 ·rw[Afu z h,bl_8 E]
theorem AgJ (u:Nat)(h:u<18446744073709551616)(H:Hp):Gives G 154 [.m (.i .u64 u)] H (J0 (Lib.bitLen u)) H:=by
 refine Af rfl rfl rfl rfl rfl ?_
 have E:=YB
 have J:(n0:List Nat).length=256:=rfl
 generalize (n0:List Nat)=tab at E J
 have z:∀j,j<256->bitLenAux 8 j<=8:=by
  have h:∀j:Fin 256,bitLenAux 8 j.val<=8:=by decide +kernel
  exact fun j N=>h ⟨j,N⟩
 have fin:∀(k j:Nat) (x:Int),(k=0\/2 ^ k<=u)->u / 2 ^ k<256->x.toNat=u / 2 ^ k->Lib.bitLen u=k+bitLenAux 8 x.toNat:=fun k _ x a b c=>by rw[c];exact AdD a b h
 simp (contextual:=true) (maxSteps:=2000000) (disch:=omega) [Ai,-Int.not_lt,-Int.not_le,-Nat.not_lt,-Nat.not_le,-List.map_take,Lo,Mz,E,J]
 repeat' first|with_reducible apply And.intro|intro _
 all_goals
  have q:=z
  first
   | (have e:=fin 56 0 (u / 4294967296 / 65536 / 256) (by omega) (by omega) (by omega);have:=z ((u:Int) / 4294967296 / 65536 / 256).toNat (by omega);simp (disch:=omega) only [Aa];omega)
   | (have e:=fin 48 0 (u / 4294967296 / 65536) (by omega) (by omega) (by omega);have:=z ((u:Int) / 4294967296 / 65536).toNat (by omega);simp (disch:=omega) only [Aa];omega)
   | (have e:=fin 40 0 (u / 4294967296 / 256) (by omega) (by omega) (by omega);have:=z ((u:Int) / 4294967296 / 256).toNat (by omega);simp (disch:=omega) only [Aa];omega)
   | (have e:=fin 32 0 (u / 4294967296) (by omega) (by omega) (by omega);have:=z ((u:Int) / 4294967296).toNat (by omega);simp (disch:=omega) only [Aa];omega)
   | (have e:=fin 24 0 (u / 65536 / 256) (by omega) (by omega) (by omega);have:=z ((u:Int) / 65536 / 256).toNat (by omega);simp (disch:=omega) only [Aa];omega)
   | (have e:=fin 16 0 (u / 65536) (by omega) (by omega) (by omega);have:=z ((u:Int) / 65536).toNat (by omega);simp (disch:=omega) only [Aa];omega)
   | (have e:=fin 8 0 (u / 256) (by omega) (by omega) (by omega);have:=z ((u:Int) / 256).toNat (by omega);simp (disch:=omega) only [Aa];omega)
   | (have e:=fin 0 0 u (by omega) (by omega) (by omega);have:=z u (by omega);simp only[Int.toNat_natCast]at e;simp (disch:=omega) only [Aa];omega)
   | trace_state
theorem log10 (x:Nat)(h:x<=64)(H:Hp):Gives G 246 [J0 x] H (J0 (l10 x)) H:=by
 refine Af rfl rfl rfl rfl rfl ?_
 simp (contextual:=true) (maxSteps:=2000000) (disch:=omega) [-Int.not_lt,-Int.not_le,-Nat.not_lt,-Nat.not_le,-List.map_take,Aa,Mz,l10]
theorem dmK (v:Nat):(∀a:Nat,(a:Int).tmod 10000=((a%10000:Nat):Int))/\(∀a:Nat,(a:Int).tdiv 10000=((a / 10000:Nat):Int))/\(∀a:Nat,(a:Int).tmod 100=((a%100:Nat):Int))/\(∀a:Nat,(a:Int).tdiv 100=((a / 100:Nat):Int))/\v%10000 / 100=v / 100%100/\v / 10000=v / 100 / 100/\(∀a:Nat,((a:Int)*2+1).toNat=a*2+1) /\ ∀a:Nat,((a:Int)*2).toNat=a*2:=⟨fun _=>rfl,fun _=>rfl,fun _=>rfl,fun _=>rfl,by omega,by omega,fun _=>by omega,fun _=>by omega⟩
theorem bool2 (b:Bool)(H:Hp):Gives G 247 [.m (.b b)] H (J0 (if b=true then 1 else 0)) H:=by
 refine Af rfl rfl rfl rfl rfl ?_
 cases b <;> simp
theorem Ym:∀j:Nat,j<20->Dx 1 ((g1.drop j).map V.m)=some [.m (.i .u64 ((10 ^ j:Nat):Int))]:=by
 intro j u
 match j,u with
 | 0,_=>rfl
 | 1,_=>rfl
 | 2,_=>rfl
 | 3,_=>rfl
 | 4,_=>rfl
 | 5,_=>rfl
 | 6,_=>rfl
 | 7,_=>rfl
 | 8,_=>rfl
 | 9,_=>rfl
 | 10,_=>rfl
 | 11,_=>rfl
 | 12,_=>rfl
 | 13,_=>rfl
 | 14,_=>rfl
 | 15,_=>rfl
 | 16,_=>rfl
 | 17,_=>rfl
 | 18,_=>rfl
 | 19,_=>rfl
 | n+20,h=>omega
theorem Agw (u:Nat)(W:1<=u)(h:u<18446744073709551616)(H:Hp):Gives G 230 [.m (.i .u64 u)] H (J0 (nDigits u)) H:=by
 refine Af rfl rfl rfl rfl rfl ?_
 obtain⟨J,e2⟩:=numDigits_eq u W h
 have Y:Lib.bitLen u<=64:=by
  obtain⟨Z,b2,b3⟩:=II u (by omega) h
  have U:2 ^ (Lib.bitLen u-1)<2 ^ 64:=by omega
  have:=(Nat.pow_lt_pow_iff_right (a:=2) (by decide)).1 U
  omega
 have N:=Ym (l10 (Lib.bitLen u)) (by omega)
 rw[List.map_drop]at N
 generalize Q:l10 (Lib.bitLen u)=L at *
 have E:(L:Int)<20:=by omega
 simp (contextual:=true) (maxSteps:=2000000) (disch:=omega) [-Int.not_lt,-Int.not_le,-Nat.not_lt,-Nat.not_le,-List.map_take,cl (AgJ u h []),cl (log10 _ Y []),cl (bool2 _ []),N,Q]
 have z:((10:Int) ^ L<=u)=(10 ^ L<=u):=propext ⟨fun h=>by exact_mod_cast h,fun h=>by exact_mod_cast h⟩
 by_cases q:10 ^ L<=u
 ·rw[Ahv q]at J
  rw[Ahv (z ▸ q),Aa] <;> omega
 ·rw[Aht q]at J
  rw[Aht (z ▸ q),Aa] <;> omega
theorem AfY:∀j,j<200->nth (n2:List Nat) j=some (sm j).toNat:=by
 have h:∀j:Fin 200,nth (n2:List Nat) j.val=some (sm j.val).toNat:=by decide +kernel
 exact fun j u=>h ⟨j,u⟩
set_option maxHeartbeats 4000000 in
theorem fmt10 (E z:L0)(d:Array UInt8)(u n ty b:Nat)(lim:Bool)(H1 H2:Hp)(hn:n=E.length+(d.size+z.length))(h10:u<10 ^ d.size)(h64:u<18446744073709551616)(hd:1<=d.size)(hd2:d.size<=24)(hb:b<=n):
  ∃d' v',FmtInv d.size u 0 v' d'/\Gives G 231 [.sl H1.length n 1 E.length d.size lim,.m (.i .u64 u)] (H1 ++ .cs ty 1 (Hu E d z) b false::H2) (.tu []) (H1 ++ .cs ty 1 (Hu E d' z) n false::H2):=by
 suffices h:∀Q:V->Hp->Prop,(∀d' v',FmtInv d.size u 0 v' d'->Q (.tu []) (H1 ++ .cs ty 1 (Hu E d' z) n false::H2))->Ret G 231 [.sl H1.length n 1 E.length d.size lim,.m (.i .u64 u)] (H1 ++ .cs ty 1 (Hu E d z) b false::H2) Q by
  obtain⟨v,H',h1,d',v',h2,rfl,rfl⟩:=AJ (h (fun v H'=>∃d' v',FmtInv d.size u 0 v' d'/\v=.tu []/\H'=H1 ++ .cs ty 1 (Hu E d' z) n false::H2) fun d' v' h=>⟨d',v',h,rfl,rfl⟩)
  exact⟨d',v',h2,h1⟩
 intro Q hQ
 refine Bh mono rfl rfl rfl rfl rfl ?_
 have ht:=AfY
 have hl:(n2:List Nat).length=200:=rfl
 subst hn
 simp (contextual:=true) (maxSteps:=2000000) (disch:=omega) [-Int.not_lt,-Int.not_le,-Nat.not_lt,-Nat.not_le,-List.map_take]
 refine(?key:∀(nd v:Nat) (U:Array UInt8) (b0:Nat),FmtInv d.size u nd v U->v<18446744073709551616->b0<=E.length+(d.size+z.length)->(nd<d.size->b0=E.length+(d.size+z.length))->Run G c231_B0 (S231_0 (.sl H1.length (E.length+(d.size+z.length)) 1 E.length d.size lim) (.m (.i .u64 v)) (J0 nd) [] (H1 ++ .cs ty 1 (Hu E U z) b0 false::H2)) _) d.size u d b (FmtInv.start d u h10) h64 hb (fun h=>absurd h (Nat.lt_irrefl _))
 refine Bj (fun nd:Nat=>nd) fun nd ih v U b0 W hv hb0 Y=>?_
 by_cases h8:8<=nd
 ·obtain⟨k,rfl⟩:∃k,nd=k+8:=⟨nd-8,by omega⟩
  have N:=W.size
  have hle:=W.le
  unfold c231_B0
  generalize (n2:List Nat)=tab at ht hl ih ⊢
  simp (contextual:=true) (maxSteps:=2000000) (disch:=omega) [Ai,-Int.not_lt,-Int.not_le,-Nat.not_lt,-Nat.not_le,-List.map_take,
   Dj,
   FO,
   Aa,
   (show ∀a:Nat,(a:Int).tmod 100000000=((a%100000000:Nat):Int) from fun a=>rfl),
   (show ∀a:Nat,(a:Int).tdiv 100000000=((a / 100000000:Nat):Int) from fun a=>rfl),
   (show ∀a:Nat,(a:Int).tmod 10000=((a%10000:Nat):Int) from fun a=>rfl),
   (show ∀a:Nat,(a:Int).tdiv 10000=((a / 10000:Nat):Int) from fun a=>rfl),
   (show ∀a:Nat,(a:Int).tmod 100=((a%100:Nat):Int) from fun a=>rfl),
   (show ∀a:Nat,(a:Int).tdiv 100=((a / 100:Nat):Int) from fun a=>rfl),
   ht,
   hl,
   -Int.natCast_ediv,
   -Int.natCast_emod,


   (show v%100000000 / 10000%100=v / 100 / 100%100 from by omega),
   (show v%100000000 / 10000 / 100=v / 100 / 100 / 100%100 from by omega),
   (show v%10000 / 100=v / 100%100 from by omega),
   AC,
   Av,
   (show (8:Int)<=(k:Int)+8 from by omega),
   (show ∀a:Nat,((a:Int)*2+1).toNat=a*2+1 from fun a=>by omega),
   (show ∀a:Nat,((a:Int)*2).toNat=a*2 from fun a=>by omega),
   N,
   (show ((k:Int)+8-1).toNat=k+7 from by omega),
   (show ((k:Int)+8-2).toNat=k+6 from by omega),
   (show ((k:Int)+8-3).toNat=k+5 from by omega),
   (show ((k:Int)+8-4).toNat=k+4 from by omega),
   (show ((k:Int)+8-5).toNat=k+3 from by omega),
   (show ((k:Int)+8-6).toNat=k+2 from by omega),
   (show ((k:Int)+8-7).toNat=k+1 from by omega),


   (Ax E (U) z (i:=k+7) (sm (v%100*2+1)) (by simp only[N];omega)),
   (Ax E ((U.setIfInBounds (k+7) (sm (v%100*2+1)))) z (i:=k+6) (sm (v%100*2)) (by simp only[AhG,N];omega)),
   (Ax E (((U.setIfInBounds (k+7) (sm (v%100*2+1))).setIfInBounds (k+6) (sm (v%100*2)))) z (i:=k+5) (sm (v / 100%100*2+1)) (by simp only[AhG,N];omega)),
   (Ax E ((((U.setIfInBounds (k+7) (sm (v%100*2+1))).setIfInBounds (k+6) (sm (v%100*2))).setIfInBounds (k+5) (sm (v / 100%100*2+1)))) z (i:=k+4) (sm (v / 100%100*2)) (by simp only[AhG,N];omega)),
   (Ax E (((((U.setIfInBounds (k+7) (sm (v%100*2+1))).setIfInBounds (k+6) (sm (v%100*2))).setIfInBounds (k+5) (sm (v / 100%100*2+1))).setIfInBounds (k+4) (sm (v / 100%100*2)))) z (i:=k+3) (sm (v / 100 / 100%100*2+1)) (by simp only[AhG,N];omega)),
   (Ax E ((((((U.setIfInBounds (k+7) (sm (v%100*2+1))).setIfInBounds (k+6) (sm (v%100*2))).setIfInBounds (k+5) (sm (v / 100%100*2+1))).setIfInBounds (k+4) (sm (v / 100%100*2))).setIfInBounds (k+3) (sm (v / 100 / 100%100*2+1)))) z (i:=k+2) (sm (v / 100 / 100%100*2)) (by simp only[AhG,N];omega)),
   (Ax E (((((((U.setIfInBounds (k+7) (sm (v%100*2+1))).setIfInBounds (k+6) (sm (v%100*2))).setIfInBounds (k+5) (sm (v / 100%100*2+1))).setIfInBounds (k+4) (sm (v / 100%100*2))).setIfInBounds (k+3) (sm (v / 100 / 100%100*2+1))).setIfInBounds (k+2) (sm (v / 100 / 100%100*2)))) z (i:=k+1) (sm (v / 100 / 100 / 100%100*2+1)) (by simp only[AhG,N];omega)),
   (Ax E ((((((((U.setIfInBounds (k+7) (sm (v%100*2+1))).setIfInBounds (k+6) (sm (v%100*2))).setIfInBounds (k+5) (sm (v / 100%100*2+1))).setIfInBounds (k+4) (sm (v / 100%100*2))).setIfInBounds (k+3) (sm (v / 100 / 100%100*2+1))).setIfInBounds (k+2) (sm (v / 100 / 100%100*2))).setIfInBounds (k+1) (sm (v / 100 / 100 / 100%100*2+1)))) z (i:=k) (sm (v / 100 / 100 / 100%100*2)) (by simp only[AhG,N];omega)),
   -Co]
  have Z:=W.step2'
  have i2:=Z.step2'
  have i3:=i2.step2'
  have i4:=i3.step2'
  have h8':v / 100000000=v / 100 / 100 / 100 / 100:=by omega
  simp only[h8']
  have e7:k+6+1=k+7:=rfl
  have e5:k+4+1=k+5:=rfl
  have e3:k+2+1=k+3:=rfl
  simp only[e7,e5,e3]at i4
  exact ih k (by omega) _ _ _ i4 (by omega) (Ahu _) (fun _=>rfl)
 ·have N:=W.size
  have hle:=W.le
  have h7:v<10000000:=W.lt7 (by omega)
  unfold c231_B0
  generalize (n2:List Nat)=tab at ht hl ⊢
  have hcase:nd=0\/nd=1\/nd=2\/nd=3\/nd=4\/nd=5\/nd=6\/nd=7:=by omega
  clear ih h10 h64 hb
  rcases hcase with rfl|rfl|rfl|rfl|rfl|rfl|rfl|rfl
  ·have:=Y (by omega)
   subst this
   simp (contextual:=true) (maxSteps:=2000000) (disch:=omega) [Ai,-Int.not_lt,-Int.not_le,-Nat.not_lt,-Nat.not_le,-List.map_take,FO,Aa]
   exact hQ U v W
  ·have J:=W.small
   have hsm:v<10:=by simpa using J
   clear Y J
   simp (contextual:=true) (maxSteps:=2000000) (disch:=omega) [Ai,-Int.not_lt,-Int.not_le,-Nat.not_lt,-Nat.not_le,-List.map_take,FO,Lo,Aa,dmK v,ht,hl,-Int.natCast_ediv,-Int.natCast_emod,AC,Av,N,-Co,-UInt8.ofNat_add,
    (FY E (U) z (v) (by simp only[N];omega) (by omega))]
   have i0:=W
   have Z:=i0.step1
   exact hQ _ _ Z
  ·have J:=W.small
   have hsm:v<100:=by simpa using J
   clear Y J
   simp (contextual:=true) (maxSteps:=2000000) (disch:=omega) [Ai,-Int.not_lt,-Int.not_le,-Nat.not_lt,-Nat.not_le,-List.map_take,FO,Lo,Aa,dmK v,ht,hl,-Int.natCast_ediv,-Int.natCast_emod,AC,Av,N,-Co,-UInt8.ofNat_add,
    (Ax E (U) z (i:=1) (sm (v%100*2+1)) (by simp only[N];omega)),
    (FA E ((U.setIfInBounds 1 (sm (v%100*2+1)))) z (sm (v%100*2)) (by simp only[AhG,N];omega))]
   have i0:=W
   have Z:=i0.step2'
   exact hQ _ _ Z
  ·have J:=W.small
   have hsm:v<1000:=by simpa using J
   clear Y J
   simp (contextual:=true) (maxSteps:=2000000) (disch:=omega) [Ai,-Int.not_lt,-Int.not_le,-Nat.not_lt,-Nat.not_le,-List.map_take,FO,Lo,Aa,dmK v,ht,hl,-Int.natCast_ediv,-Int.natCast_emod,AC,Av,N,-Co,-UInt8.ofNat_add,
    (Ax E (U) z (i:=2) (sm (v%100*2+1)) (by simp only[N];omega)),
    (Ax E ((U.setIfInBounds 2 (sm (v%100*2+1)))) z (i:=1) (sm (v%100*2)) (by simp only[AhG,N];omega)),
    (FY E (((U.setIfInBounds 2 (sm (v%100*2+1))).setIfInBounds 1 (sm (v%100*2)))) z (v / 100) (by simp only[AhG,N];omega) (by omega))]
   have i0:=W
   have Z:=i0.step2'
   have i2:=Z.step1
   exact hQ _ _ i2
  ·have J:=W.small
   have hsm:v<10000:=by simpa using J
   clear Y J
   simp (contextual:=true) (maxSteps:=2000000) (disch:=omega) [Ai,-Int.not_lt,-Int.not_le,-Nat.not_lt,-Nat.not_le,-List.map_take,FO,Lo,Aa,dmK v,ht,hl,-Int.natCast_ediv,-Int.natCast_emod,AC,Av,N,-Co,-UInt8.ofNat_add,
    (Ax E (U) z (i:=3) (sm (v%100*2+1)) (by simp only[N];omega)),
    (Ax E ((U.setIfInBounds 3 (sm (v%100*2+1)))) z (i:=2) (sm (v%100*2)) (by simp only[AhG,N];omega)),
    (Ax E (((U.setIfInBounds 3 (sm (v%100*2+1))).setIfInBounds 2 (sm (v%100*2)))) z (i:=1) (sm (v / 100%100*2+1)) (by simp only[AhG,N];omega)),
    (FA E ((((U.setIfInBounds 3 (sm (v%100*2+1))).setIfInBounds 2 (sm (v%100*2))).setIfInBounds 1 (sm (v / 100%100*2+1)))) z (sm (v / 100%100*2)) (by simp only[AhG,N];omega))]
   have i0:=W
   have Z:=i0.step2'
   have i2:=Z.step2'
   exact hQ _ _ i2
  ·have J:=W.small
   have hsm:v<100000:=by simpa using J
   clear Y J
   simp (contextual:=true) (maxSteps:=2000000) (disch:=omega) [Ai,-Int.not_lt,-Int.not_le,-Nat.not_lt,-Nat.not_le,-List.map_take,FO,Lo,Aa,dmK v,ht,hl,-Int.natCast_ediv,-Int.natCast_emod,AC,Av,N,-Co,-UInt8.ofNat_add,
    (Ax E (U) z (i:=4) (sm (v%100*2+1)) (by simp only[N];omega)),
    (Ax E ((U.setIfInBounds 4 (sm (v%100*2+1)))) z (i:=3) (sm (v%100*2)) (by simp only[AhG,N];omega)),
    (Ax E (((U.setIfInBounds 4 (sm (v%100*2+1))).setIfInBounds 3 (sm (v%100*2)))) z (i:=2) (sm (v / 100%100*2+1)) (by simp only[AhG,N];omega)),
    (Ax E ((((U.setIfInBounds 4 (sm (v%100*2+1))).setIfInBounds 3 (sm (v%100*2))).setIfInBounds 2 (sm (v / 100%100*2+1)))) z (i:=1) (sm (v / 100%100*2)) (by simp only[AhG,N];omega)),
    (FY E (((((U.setIfInBounds 4 (sm (v%100*2+1))).setIfInBounds 3 (sm (v%100*2))).setIfInBounds 2 (sm (v / 100%100*2+1))).setIfInBounds 1 (sm (v / 100%100*2)))) z (v / 100 / 100) (by simp only[AhG,N];omega) (by omega))]
   have i0:=W
   have Z:=i0.step2'
   have i2:=Z.step2'
   have i3:=i2.step1
   exact hQ _ _ i3
  ·have J:=W.small
   have hsm:v<1000000:=by simpa using J
   clear Y J
   simp (contextual:=true) (maxSteps:=2000000) (disch:=omega) [Ai,-Int.not_lt,-Int.not_le,-Nat.not_lt,-Nat.not_le,-List.map_take,FO,Lo,Aa,dmK v,ht,hl,-Int.natCast_ediv,-Int.natCast_emod,AC,Av,N,-Co,-UInt8.ofNat_add,
    (Ax E (U) z (i:=5) (sm (v%100*2+1)) (by simp only[N];omega)),
    (Ax E ((U.setIfInBounds 5 (sm (v%100*2+1)))) z (i:=4) (sm (v%100*2)) (by simp only[AhG,N];omega)),
    (Ax E (((U.setIfInBounds 5 (sm (v%100*2+1))).setIfInBounds 4 (sm (v%100*2)))) z (i:=3) (sm (v / 100%100*2+1)) (by simp only[AhG,N];omega)),
    (Ax E ((((U.setIfInBounds 5 (sm (v%100*2+1))).setIfInBounds 4 (sm (v%100*2))).setIfInBounds 3 (sm (v / 100%100*2+1)))) z (i:=2) (sm (v / 100%100*2)) (by simp only[AhG,N];omega)),
    (Ax E (((((U.setIfInBounds 5 (sm (v%100*2+1))).setIfInBounds 4 (sm (v%100*2))).setIfInBounds 3 (sm (v / 100%100*2+1))).setIfInBounds 2 (sm (v / 100%100*2)))) z (i:=1) (sm (v / 100 / 100%100*2+1)) (by simp only[AhG,N];omega)),
    (FA E ((((((U.setIfInBounds 5 (sm (v%100*2+1))).setIfInBounds 4 (sm (v%100*2))).setIfInBounds 3 (sm (v / 100%100*2+1))).setIfInBounds 2 (sm (v / 100%100*2))).setIfInBounds 1 (sm (v / 100 / 100%100*2+1)))) z (sm (v / 100 / 100%100*2)) (by simp only[AhG,N];omega))]
   have i0:=W
   have Z:=i0.step2'
   have i2:=Z.step2'
   have i3:=i2.step2'
   exact hQ _ _ i3
  ·have J:=W.small
   have hsm:v<10000000:=by simpa using J
   clear Y J
   simp (contextual:=true) (maxSteps:=2000000) (disch:=omega) [Ai,-Int.not_lt,-Int.not_le,-Nat.not_lt,-Nat.not_le,-List.map_take,FO,Lo,Aa,dmK v,ht,hl,-Int.natCast_ediv,-Int.natCast_emod,AC,Av,N,-Co,-UInt8.ofNat_add,
    (Ax E (U) z (i:=6) (sm (v%100*2+1)) (by simp only[N];omega)),
    (Ax E ((U.setIfInBounds 6 (sm (v%100*2+1)))) z (i:=5) (sm (v%100*2)) (by simp only[AhG,N];omega)),
    (Ax E (((U.setIfInBounds 6 (sm (v%100*2+1))).setIfInBounds 5 (sm (v%100*2)))) z (i:=4) (sm (v / 100%100*2+1)) (by simp only[AhG,N];omega)),
    (Ax E ((((U.setIfInBounds 6 (sm (v%100*2+1))).setIfInBounds 5 (sm (v%100*2))).setIfInBounds 4 (sm (v / 100%100*2+1)))) z (i:=3) (sm (v / 100%100*2)) (by simp only[AhG,N];omega)),
    (Ax E (((((U.setIfInBounds 6 (sm (v%100*2+1))).setIfInBounds 5 (sm (v%100*2))).setIfInBounds 4 (sm (v / 100%100*2+1))).setIfInBounds 3 (sm (v / 100%100*2)))) z (i:=2) (sm (v / 100 / 100%100*2+1)) (by simp only[AhG,N];omega)),
    (Ax E ((((((U.setIfInBounds 6 (sm (v%100*2+1))).setIfInBounds 5 (sm (v%100*2))).setIfInBounds 4 (sm (v / 100%100*2+1))).setIfInBounds 3 (sm (v / 100%100*2))).setIfInBounds 2 (sm (v / 100 / 100%100*2+1)))) z (i:=1) (sm (v / 100 / 100%100*2)) (by simp only[AhG,N];omega)),
    (FY E (((((((U.setIfInBounds 6 (sm (v%100*2+1))).setIfInBounds 5 (sm (v%100*2))).setIfInBounds 4 (sm (v / 100%100*2+1))).setIfInBounds 3 (sm (v / 100%100*2))).setIfInBounds 2 (sm (v / 100 / 100%100*2+1))).setIfInBounds 1 (sm (v / 100 / 100%100*2)))) z (v / 100 / 100 / 100) (by simp only[AhG,N];omega) (by omega))]
   have i0:=W
   have Z:=i0.step2'
   have i2:=Z.step2'
   have i3:=i2.step2'
   have i4:=i3.step1
   exact hQ _ _ i4
end Go.Mx.Tryz
