/- strconv.Itoa at the machine: the decimal numeral. -/
import Derived.Test.YtjjpbhhgeddgjaaGreatDoorSeav
import Derived.Test.YtjjpbhhgeddgjaaGreatDoorWb
import Derived.Test.YtjjpbhhgeddgjaaGreatDoorWa
set_option linter.unusedSimpArgs false
set_option linter.unusedVariables false
set_option linter.unusedSectionVars false
set_option maxRecDepth 100000
namespace Go.Mx.Tryz
open Go.Lib
attribute [local congr] JD
theorem TA : ∀ j,j < 256 -> nth (n2 : List Nat) j = some (bitLenAux 8 j):=by
 have h : ∀ j : Fin 256,nth (n2 : List Nat) j.val = some (bitLenAux 8 j.val):=by decide +kernel
 exact fun j hj=>h ⟨j,hj⟩
theorem Ye {u k : Nat} (h1 : k = 0 \/ 2 ^ k <= u) (h2 : u / 2 ^ k < 256) (h : u < 2 ^ 64) : Lib.bitLen u = k + bitLenAux 8 (u / 2 ^ k):=by
 rcases h1 with rfl | h1
 ·simp only [Nat.pow_zero,Nat.div_one] at h2 ⊢
  rw [bl_8 h2]; omega
 ·rw [Aaq h1 h,bl_8 h2]
theorem len64 (u : Nat) (h : u < 18446744073709551616) (H : Hp) : Gives G 136 [.m (.i .u64 u)] H (.m (.i .i64 (Lib.bitLen u))) H:=by
 refine Ak rfl rfl rfl rfl rfl ?_
 have ht:=TA
 have hl : (n2 : List Nat).length = 256:=rfl
 generalize (n2 : List Nat) = tab at ht hl
 have b8 : ∀ j,j < 256 -> bitLenAux 8 j <= 8:=by
  have h : ∀ j : Fin 256,bitLenAux 8 j.val <= 8:=by decide +kernel
  exact fun j hj=>h ⟨j,hj⟩
 have fin : ∀ (k j : Nat) (x : Int),(k = 0 \/ 2 ^ k <= u) -> u / 2 ^ k < 256 -> x.toNat = u / 2 ^ k -> Lib.bitLen u = k + bitLenAux 8 x.toNat:=fun k _ x a b c=>by rw [c]; exact Ye a b h
 simp (contextual:=true) (maxSteps:=2000000) (disch:=omega) [AT,-Int.not_lt,-Int.not_le,-Nat.not_lt,-Nat.not_le,-List.map_take,Jm,Ko,ht,hl]
 repeat' first | with_reducible apply And.intro | intro _
 all_goals
  have q:=b8
  first
   | (have e:=fin 56 0 (u / 4294967296 / 65536 / 256) (by omega) (by omega) (by omega); have:=b8 ((u : Int) / 4294967296 / 65536 / 256).toNat (by omega); simp (disch:=omega) only [Aa]; omega)
   | (have e:=fin 48 0 (u / 4294967296 / 65536) (by omega) (by omega) (by omega); have:=b8 ((u : Int) / 4294967296 / 65536).toNat (by omega); simp (disch:=omega) only [Aa]; omega)
   | (have e:=fin 40 0 (u / 4294967296 / 256) (by omega) (by omega) (by omega); have:=b8 ((u : Int) / 4294967296 / 256).toNat (by omega); simp (disch:=omega) only [Aa]; omega)
   | (have e:=fin 32 0 (u / 4294967296) (by omega) (by omega) (by omega); have:=b8 ((u : Int) / 4294967296).toNat (by omega); simp (disch:=omega) only [Aa]; omega)
   | (have e:=fin 24 0 (u / 65536 / 256) (by omega) (by omega) (by omega); have:=b8 ((u : Int) / 65536 / 256).toNat (by omega); simp (disch:=omega) only [Aa]; omega)
   | (have e:=fin 16 0 (u / 65536) (by omega) (by omega) (by omega); have:=b8 ((u : Int) / 65536).toNat (by omega); simp (disch:=omega) only [Aa]; omega)
   | (have e:=fin 8 0 (u / 256) (by omega) (by omega) (by omega); have:=b8 ((u : Int) / 256).toNat (by omega); simp (disch:=omega) only [Aa]; omega)
   | (have e:=fin 0 0 u (by omega) (by omega) (by omega); have:=b8 u (by omega); simp only [Int.toNat_natCast] at e; simp (disch:=omega) only [Aa]; omega)
   | trace_state
theorem log10 (x : Nat) (h : x <= 64) (H : Hp) : Gives G 150 [.m (.i .i64 x)] H (.m (.i .i64 (l10 x))) H:=by
 refine Ak rfl rfl rfl rfl rfl ?_
 simp (contextual:=true) (maxSteps:=2000000) (disch:=omega) [-Int.not_lt,-Int.not_le,-Nat.not_lt,-Nat.not_le,-List.map_take,Aa,Ko,l10]
theorem bool2 (b : Bool) (H : Hp) : Gives G 151 [.m (.b b)] H (.m (.i .i64 (if b = true then 1 else 0))) H:=by
 refine Ak rfl rfl rfl rfl rfl ?_
 cases b <;> simp
theorem Tx : ∀ j : Nat,j < 20 -> CM 1 ((g1.drop j).map V.m) = some [.m (.i .u64 ((10 ^ j : Nat) : Int))]:=by
 intro j hj
 match j,hj with
 | 0,_=>rfl
 | 1,_=>rfl
 | 2,_=>rfl
 | 3,_=>rfl
 | 4,_=>rfl
 | 5,_=>rfl
 | 6,_=>rfl
 | 7,_=>rfl
 | 8,_=>rfl
 | 9,_=>rfl
 | 10,_=>rfl
 | 11,_=>rfl
 | 12,_=>rfl
 | 13,_=>rfl
 | 14,_=>rfl
 | 15,_=>rfl
 | 16,_=>rfl
 | 17,_=>rfl
 | 18,_=>rfl
 | 19,_=>rfl
 | n + 20,h=>omega
theorem Uq (u : Nat) (h1 : 1 <= u) (h : u < 18446744073709551616) (H : Hp) : Gives G 102 [.m (.i .u64 u)] H (.m (.i .i64 (nDigits u))) H:=by
 refine Ak rfl rfl rfl rfl rfl ?_
 obtain ⟨e1,e2⟩:=numDigits_eq u h1 h
 have e3 : Lib.bitLen u <= 64:=by
  obtain ⟨b1,b2,b3⟩:=Hf u (by omega) h
  have c2 : 2 ^ (Lib.bitLen u - 1) < 2 ^ 64:=by omega
  have:=(Nat.pow_lt_pow_iff_right (a:=2) (by decide)).1 c2
  omega
 have hp:=Tx (l10 (Lib.bitLen u)) (by omega)
 rw [List.map_drop] at hp
 generalize hL : l10 (Lib.bitLen u) = L at *
 have hL20 : (L : Int) < 20:=by omega
 simp (contextual:=true) (maxSteps:=2000000) (disch:=omega) [-Int.not_lt,-Int.not_le,-Nat.not_lt,-Nat.not_le,-List.map_take,cl (len64 u h []),cl (log10 _ e3 []),cl (bool2 _ []),hp,hL]
 have e4 : ((10 : Int) ^ L <= u) = (10 ^ L <= u):=propext ⟨fun h=>by exact_mod_cast h,fun h=>by exact_mod_cast h⟩
 by_cases q : 10 ^ L <= u
 ·rw [AcY q] at e1
  rw [AcY (e4 ▸ q),Aa] <;> omega
 ·rw [AcQ q] at e1
  rw [AcQ (e4 ▸ q),Aa] <;> omega
theorem Ach : ∀ j,j < 200 -> nth (n1 : List Nat) j = some (sm j).toNat:=by
 have h : ∀ j : Fin 200,nth (n1 : List Nat) j.val = some (sm j.val).toNat:=by decide +kernel
 exact fun j hj=>h ⟨j,hj⟩
set_option maxHeartbeats 4000000 in
theorem AcC (pre post : List (List V)) (d : Array UInt8) (u n ty b : Nat) (lim : Bool) (H1 H2 : Hp) (hn : n = pre.length + (d.size + post.length)) (h10 : u < 10 ^ d.size) (h64 : u < 18446744073709551616) (hd : 1 <= d.size) (hd2 : d.size <= 24) (hb : b <= n) :
  ∃ d' v',FmtInv d.size u 0 v' d' /\ Gives G 103 [.sl H1.length n 1 pre.length d.size lim,.m (.i .u64 u)] (H1 ++ .cs ty 1 (DY pre d post) b false :: H2) (.tu []) (H1 ++ .cs ty 1 (DY pre d' post) n false :: H2):=by
 suffices h : ∀ Q : V -> Hp -> Prop,(∀ d' v',FmtInv d.size u 0 v' d' -> Q (.tu []) (H1 ++ .cs ty 1 (DY pre d' post) n false :: H2)) -> Ret G 103 [.sl H1.length n 1 pre.length d.size lim,.m (.i .u64 u)] (H1 ++ .cs ty 1 (DY pre d post) b false :: H2) Q by
  obtain ⟨v,H',h1,d',v',h2,rfl,rfl⟩:=CI (h (fun v H'=>∃ d' v',FmtInv d.size u 0 v' d' /\ v = .tu [] /\ H' = H1 ++ .cs ty 1 (DY pre d' post) n false :: H2) fun d' v' h=>⟨d',v',h,rfl,rfl⟩)
  exact ⟨d',v',h2,h1⟩
 intro Q hQ
 refine BH mono rfl rfl rfl rfl rfl ?_
 have ht:=Ach
 have hl : (n1 : List Nat).length = 200:=rfl
 subst hn
 simp (contextual:=true) (maxSteps:=2000000) (disch:=omega) [-Int.not_lt,-Int.not_le,-Nat.not_lt,-Nat.not_le,-List.map_take]
 refine (?key : ∀ (nd v : Nat) (d0 : Array UInt8) (b0 : Nat),FmtInv d.size u nd v d0 -> v < 18446744073709551616 -> b0 <= pre.length + (d.size + post.length) -> (nd < d.size -> b0 = pre.length + (d.size + post.length)) -> Run G c103_B0 (S103_0 (.sl H1.length (pre.length + (d.size + post.length)) 1 pre.length d.size lim) (.m (.i .u64 v)) (.m (.i .i64 nd)) [] (H1 ++ .cs ty 1 (DY pre d0 post) b0 false :: H2)) _) d.size u d b (FmtInv.start d u h10) h64 hb (fun h=>absurd h (Nat.lt_irrefl _))
 refine Ef (fun nd : Nat=>nd) fun nd ih v d0 b0 hi hv hb0 hb1=>?_
 by_cases h8 : 8 <= nd
 ·obtain ⟨k,rfl⟩ : ∃ k,nd = k + 8:=⟨nd - 8,by omega⟩
  have hs:=hi.size
  have hle:=hi.le
  unfold c103_B0
  generalize (n1 : List Nat) = tab at ht hl ih ⊢
  simp (contextual:=true) (maxSteps:=2000000) (disch:=omega) [AT,-Int.not_lt,-Int.not_le,-Nat.not_lt,-Nat.not_le,-List.map_take,
   EL,
   EM,
   Aa,
   (show ∀ a : Nat,(a : Int).tmod 100000000 = ((a % 100000000 : Nat) : Int) from fun a=>rfl),
   (show ∀ a : Nat,(a : Int).tdiv 100000000 = ((a / 100000000 : Nat) : Int) from fun a=>rfl),
   (show ∀ a : Nat,(a : Int).tmod 10000 = ((a % 10000 : Nat) : Int) from fun a=>rfl),
   (show ∀ a : Nat,(a : Int).tdiv 10000 = ((a / 10000 : Nat) : Int) from fun a=>rfl),
   (show ∀ a : Nat,(a : Int).tmod 100 = ((a % 100 : Nat) : Int) from fun a=>rfl),
   (show ∀ a : Nat,(a : Int).tdiv 100 = ((a / 100 : Nat) : Int) from fun a=>rfl),
   ht,
   hl,
   -Int.natCast_ediv,
   -Int.natCast_emod,
   
   
   (show v % 100000000 / 10000 % 100 = v / 100 / 100 % 100 from by omega),
   (show v % 100000000 / 10000 / 100 = v / 100 / 100 / 100 % 100 from by omega),
   (show v % 10000 / 100 = v / 100 % 100 from by omega),
   Bj,
   Bd,
   (show (8 : Int) <= (k : Int) + 8 from by omega),
   (show ∀ a : Nat,((a : Int) * 2 + 1).toNat = a * 2 + 1 from fun a=>by omega),
   (show ∀ a : Nat,((a : Int) * 2).toNat = a * 2 from fun a=>by omega),
   hs,
   (show ((k : Int) + 8 - 1).toNat = k + 7 from by omega),
   (show ((k : Int) + 8 - 2).toNat = k + 6 from by omega),
   (show ((k : Int) + 8 - 3).toNat = k + 5 from by omega),
   (show ((k : Int) + 8 - 4).toNat = k + 4 from by omega),
   (show ((k : Int) + 8 - 5).toNat = k + 3 from by omega),
   (show ((k : Int) + 8 - 6).toNat = k + 2 from by omega),
   (show ((k : Int) + 8 - 7).toNat = k + 1 from by omega),
   
   
   (Al pre (d0) post (i:=k + 7) (sm (v % 100 * 2 + 1)) (by simp only [hs]; omega)),
   (Al pre ((d0.setIfInBounds (k + 7) (sm (v % 100 * 2 + 1)))) post (i:=k + 6) (sm (v % 100 * 2)) (by simp only [AcU,hs]; omega)),
   (Al pre (((d0.setIfInBounds (k + 7) (sm (v % 100 * 2 + 1))).setIfInBounds (k + 6) (sm (v % 100 * 2)))) post (i:=k + 5) (sm (v / 100 % 100 * 2 + 1)) (by simp only [AcU,hs]; omega)),
   (Al pre ((((d0.setIfInBounds (k + 7) (sm (v % 100 * 2 + 1))).setIfInBounds (k + 6) (sm (v % 100 * 2))).setIfInBounds (k + 5) (sm (v / 100 % 100 * 2 + 1)))) post (i:=k + 4) (sm (v / 100 % 100 * 2)) (by simp only [AcU,hs]; omega)),
   (Al pre (((((d0.setIfInBounds (k + 7) (sm (v % 100 * 2 + 1))).setIfInBounds (k + 6) (sm (v % 100 * 2))).setIfInBounds (k + 5) (sm (v / 100 % 100 * 2 + 1))).setIfInBounds (k + 4) (sm (v / 100 % 100 * 2)))) post (i:=k + 3) (sm (v / 100 / 100 % 100 * 2 + 1)) (by simp only [AcU,hs]; omega)),
   (Al pre ((((((d0.setIfInBounds (k + 7) (sm (v % 100 * 2 + 1))).setIfInBounds (k + 6) (sm (v % 100 * 2))).setIfInBounds (k + 5) (sm (v / 100 % 100 * 2 + 1))).setIfInBounds (k + 4) (sm (v / 100 % 100 * 2))).setIfInBounds (k + 3) (sm (v / 100 / 100 % 100 * 2 + 1)))) post (i:=k + 2) (sm (v / 100 / 100 % 100 * 2)) (by simp only [AcU,hs]; omega)),
   (Al pre (((((((d0.setIfInBounds (k + 7) (sm (v % 100 * 2 + 1))).setIfInBounds (k + 6) (sm (v % 100 * 2))).setIfInBounds (k + 5) (sm (v / 100 % 100 * 2 + 1))).setIfInBounds (k + 4) (sm (v / 100 % 100 * 2))).setIfInBounds (k + 3) (sm (v / 100 / 100 % 100 * 2 + 1))).setIfInBounds (k + 2) (sm (v / 100 / 100 % 100 * 2)))) post (i:=k + 1) (sm (v / 100 / 100 / 100 % 100 * 2 + 1)) (by simp only [AcU,hs]; omega)),
   (Al pre ((((((((d0.setIfInBounds (k + 7) (sm (v % 100 * 2 + 1))).setIfInBounds (k + 6) (sm (v % 100 * 2))).setIfInBounds (k + 5) (sm (v / 100 % 100 * 2 + 1))).setIfInBounds (k + 4) (sm (v / 100 % 100 * 2))).setIfInBounds (k + 3) (sm (v / 100 / 100 % 100 * 2 + 1))).setIfInBounds (k + 2) (sm (v / 100 / 100 % 100 * 2))).setIfInBounds (k + 1) (sm (v / 100 / 100 / 100 % 100 * 2 + 1)))) post (i:=k) (sm (v / 100 / 100 / 100 % 100 * 2)) (by simp only [AcU,hs]; omega)),
   -BM]
  have i1:=hi.step2'
  have i2:=i1.step2'
  have i3:=i2.step2'
  have i4:=i3.step2'
  have h8' : v / 100000000 = v / 100 / 100 / 100 / 100:=by omega
  simp only [h8']
  have e7 : k + 6 + 1 = k + 7:=rfl
  have e5 : k + 4 + 1 = k + 5:=rfl
  have e3 : k + 2 + 1 = k + 3:=rfl
  simp only [e7,e5,e3] at i4
  exact ih k (by omega) _ _ _ i4 (by omega) (AcR _) (fun _=>rfl)
 ·have hs:=hi.size
  have hle:=hi.le
  have h7 : v < 10000000:=hi.lt7 (by omega)
  unfold c103_B0
  generalize (n1 : List Nat) = tab at ht hl ⊢
  have hcase : nd = 0 \/ nd = 1 \/ nd = 2 \/ nd = 3 \/ nd = 4 \/ nd = 5 \/ nd = 6 \/ nd = 7:=by omega
  clear ih h10 h64 hb
  rcases hcase with rfl | rfl | rfl | rfl | rfl | rfl | rfl | rfl
  ·have:=hb1 (by omega)
   subst this
   simp (contextual:=true) (maxSteps:=2000000) (disch:=omega) [AT,-Int.not_lt,-Int.not_le,-Nat.not_lt,-Nat.not_le,-List.map_take,EM,Aa]
   exact hQ d0 v hi
  ·have hv10:=hi.small
   have hsm : v < 10:=by simpa using hv10
   clear hb1 hv10
   simp (contextual:=true) (maxSteps:=2000000) (disch:=omega) [AT,-Int.not_lt,-Int.not_le,-Nat.not_lt,-Nat.not_le,-List.map_take,EM,Jm,Aa,(show ∀ a : Nat,(a : Int).tmod 10000 = ((a % 10000 : Nat) : Int) from fun a=>rfl),(show ∀ a : Nat,(a : Int).tdiv 10000 = ((a / 10000 : Nat) : Int) from fun a=>rfl),(show ∀ a : Nat,(a : Int).tmod 100 = ((a % 100 : Nat) : Int) from fun a=>rfl),(show ∀ a : Nat,(a : Int).tdiv 100 = ((a / 100 : Nat) : Int) from fun a=>rfl),ht,hl,-Int.natCast_ediv,-Int.natCast_emod,(show v % 10000 / 100 = v / 100 % 100 from by omega),Bj,Bd,(show ∀ a : Nat,((a : Int) * 2 + 1).toNat = a * 2 + 1 from fun a=>by omega),(show ∀ a : Nat,((a : Int) * 2).toNat = a * 2 from fun a=>by omega),hs,-BM,-UInt8.ofNat_add,
    (ET pre (d0) post (v) (by simp only [hs]; omega) (by omega))]
   have i0:=hi
   have i1:=i0.step1
   exact hQ _ _ i1
  ·have hv10:=hi.small
   have hsm : v < 100:=by simpa using hv10
   clear hb1 hv10
   simp (contextual:=true) (maxSteps:=2000000) (disch:=omega) [AT,-Int.not_lt,-Int.not_le,-Nat.not_lt,-Nat.not_le,-List.map_take,EM,Jm,Aa,(show ∀ a : Nat,(a : Int).tmod 10000 = ((a % 10000 : Nat) : Int) from fun a=>rfl),(show ∀ a : Nat,(a : Int).tdiv 10000 = ((a / 10000 : Nat) : Int) from fun a=>rfl),(show ∀ a : Nat,(a : Int).tmod 100 = ((a % 100 : Nat) : Int) from fun a=>rfl),(show ∀ a : Nat,(a : Int).tdiv 100 = ((a / 100 : Nat) : Int) from fun a=>rfl),ht,hl,-Int.natCast_ediv,-Int.natCast_emod,(show v % 10000 / 100 = v / 100 % 100 from by omega),Bj,Bd,(show ∀ a : Nat,((a : Int) * 2 + 1).toNat = a * 2 + 1 from fun a=>by omega),(show ∀ a : Nat,((a : Int) * 2).toNat = a * 2 from fun a=>by omega),hs,-BM,-UInt8.ofNat_add,
    (Al pre (d0) post (i:=1) (sm (v % 100 * 2 + 1)) (by simp only [hs]; omega)),
    (EA pre ((d0.setIfInBounds 1 (sm (v % 100 * 2 + 1)))) post (sm (v % 100 * 2)) (by simp only [AcU,hs]; omega))]
   have i0:=hi
   have i1:=i0.step2'
   exact hQ _ _ i1
  ·have hv10:=hi.small
   have hsm : v < 1000:=by simpa using hv10
   clear hb1 hv10
   simp (contextual:=true) (maxSteps:=2000000) (disch:=omega) [AT,-Int.not_lt,-Int.not_le,-Nat.not_lt,-Nat.not_le,-List.map_take,EM,Jm,Aa,(show ∀ a : Nat,(a : Int).tmod 10000 = ((a % 10000 : Nat) : Int) from fun a=>rfl),(show ∀ a : Nat,(a : Int).tdiv 10000 = ((a / 10000 : Nat) : Int) from fun a=>rfl),(show ∀ a : Nat,(a : Int).tmod 100 = ((a % 100 : Nat) : Int) from fun a=>rfl),(show ∀ a : Nat,(a : Int).tdiv 100 = ((a / 100 : Nat) : Int) from fun a=>rfl),ht,hl,-Int.natCast_ediv,-Int.natCast_emod,(show v % 10000 / 100 = v / 100 % 100 from by omega),Bj,Bd,(show ∀ a : Nat,((a : Int) * 2 + 1).toNat = a * 2 + 1 from fun a=>by omega),(show ∀ a : Nat,((a : Int) * 2).toNat = a * 2 from fun a=>by omega),hs,-BM,-UInt8.ofNat_add,
    (Al pre (d0) post (i:=2) (sm (v % 100 * 2 + 1)) (by simp only [hs]; omega)),
    (Al pre ((d0.setIfInBounds 2 (sm (v % 100 * 2 + 1)))) post (i:=1) (sm (v % 100 * 2)) (by simp only [AcU,hs]; omega)),
    (ET pre (((d0.setIfInBounds 2 (sm (v % 100 * 2 + 1))).setIfInBounds 1 (sm (v % 100 * 2)))) post (v / 100) (by simp only [AcU,hs]; omega) (by omega))]
   have i0:=hi
   have i1:=i0.step2'
   have i2:=i1.step1
   exact hQ _ _ i2
  ·have hv10:=hi.small
   have hsm : v < 10000:=by simpa using hv10
   clear hb1 hv10
   simp (contextual:=true) (maxSteps:=2000000) (disch:=omega) [AT,-Int.not_lt,-Int.not_le,-Nat.not_lt,-Nat.not_le,-List.map_take,EM,Jm,Aa,(show ∀ a : Nat,(a : Int).tmod 10000 = ((a % 10000 : Nat) : Int) from fun a=>rfl),(show ∀ a : Nat,(a : Int).tdiv 10000 = ((a / 10000 : Nat) : Int) from fun a=>rfl),(show ∀ a : Nat,(a : Int).tmod 100 = ((a % 100 : Nat) : Int) from fun a=>rfl),(show ∀ a : Nat,(a : Int).tdiv 100 = ((a / 100 : Nat) : Int) from fun a=>rfl),ht,hl,-Int.natCast_ediv,-Int.natCast_emod,(show v % 10000 / 100 = v / 100 % 100 from by omega),(show v / 10000 = v / 100 / 100 from by omega),Bj,Bd,(show ∀ a : Nat,((a : Int) * 2 + 1).toNat = a * 2 + 1 from fun a=>by omega),(show ∀ a : Nat,((a : Int) * 2).toNat = a * 2 from fun a=>by omega),hs,-BM,-UInt8.ofNat_add,
    (Al pre (d0) post (i:=3) (sm (v % 100 * 2 + 1)) (by simp only [hs]; omega)),
    (Al pre ((d0.setIfInBounds 3 (sm (v % 100 * 2 + 1)))) post (i:=2) (sm (v % 100 * 2)) (by simp only [AcU,hs]; omega)),
    (Al pre (((d0.setIfInBounds 3 (sm (v % 100 * 2 + 1))).setIfInBounds 2 (sm (v % 100 * 2)))) post (i:=1) (sm (v / 100 % 100 * 2 + 1)) (by simp only [AcU,hs]; omega)),
    (EA pre ((((d0.setIfInBounds 3 (sm (v % 100 * 2 + 1))).setIfInBounds 2 (sm (v % 100 * 2))).setIfInBounds 1 (sm (v / 100 % 100 * 2 + 1)))) post (sm (v / 100 % 100 * 2)) (by simp only [AcU,hs]; omega))]
   have i0:=hi
   have i1:=i0.step2'
   have i2:=i1.step2'
   exact hQ _ _ i2
  ·have hv10:=hi.small
   have hsm : v < 100000:=by simpa using hv10
   clear hb1 hv10
   simp (contextual:=true) (maxSteps:=2000000) (disch:=omega) [AT,-Int.not_lt,-Int.not_le,-Nat.not_lt,-Nat.not_le,-List.map_take,EM,Jm,Aa,(show ∀ a : Nat,(a : Int).tmod 10000 = ((a % 10000 : Nat) : Int) from fun a=>rfl),(show ∀ a : Nat,(a : Int).tdiv 10000 = ((a / 10000 : Nat) : Int) from fun a=>rfl),(show ∀ a : Nat,(a : Int).tmod 100 = ((a % 100 : Nat) : Int) from fun a=>rfl),(show ∀ a : Nat,(a : Int).tdiv 100 = ((a / 100 : Nat) : Int) from fun a=>rfl),ht,hl,-Int.natCast_ediv,-Int.natCast_emod,(show v % 10000 / 100 = v / 100 % 100 from by omega),(show v / 10000 = v / 100 / 100 from by omega),Bj,Bd,(show ∀ a : Nat,((a : Int) * 2 + 1).toNat = a * 2 + 1 from fun a=>by omega),(show ∀ a : Nat,((a : Int) * 2).toNat = a * 2 from fun a=>by omega),hs,-BM,-UInt8.ofNat_add,
    (Al pre (d0) post (i:=4) (sm (v % 100 * 2 + 1)) (by simp only [hs]; omega)),
    (Al pre ((d0.setIfInBounds 4 (sm (v % 100 * 2 + 1)))) post (i:=3) (sm (v % 100 * 2)) (by simp only [AcU,hs]; omega)),
    (Al pre (((d0.setIfInBounds 4 (sm (v % 100 * 2 + 1))).setIfInBounds 3 (sm (v % 100 * 2)))) post (i:=2) (sm (v / 100 % 100 * 2 + 1)) (by simp only [AcU,hs]; omega)),
    (Al pre ((((d0.setIfInBounds 4 (sm (v % 100 * 2 + 1))).setIfInBounds 3 (sm (v % 100 * 2))).setIfInBounds 2 (sm (v / 100 % 100 * 2 + 1)))) post (i:=1) (sm (v / 100 % 100 * 2)) (by simp only [AcU,hs]; omega)),
    (ET pre (((((d0.setIfInBounds 4 (sm (v % 100 * 2 + 1))).setIfInBounds 3 (sm (v % 100 * 2))).setIfInBounds 2 (sm (v / 100 % 100 * 2 + 1))).setIfInBounds 1 (sm (v / 100 % 100 * 2)))) post (v / 100 / 100) (by simp only [AcU,hs]; omega) (by omega))]
   have i0:=hi
   have i1:=i0.step2'
   have i2:=i1.step2'
   have i3:=i2.step1
   exact hQ _ _ i3
  ·have hv10:=hi.small
   have hsm : v < 1000000:=by simpa using hv10
   clear hb1 hv10
   simp (contextual:=true) (maxSteps:=2000000) (disch:=omega) [AT,-Int.not_lt,-Int.not_le,-Nat.not_lt,-Nat.not_le,-List.map_take,EM,Jm,Aa,(show ∀ a : Nat,(a : Int).tmod 10000 = ((a % 10000 : Nat) : Int) from fun a=>rfl),(show ∀ a : Nat,(a : Int).tdiv 10000 = ((a / 10000 : Nat) : Int) from fun a=>rfl),(show ∀ a : Nat,(a : Int).tmod 100 = ((a % 100 : Nat) : Int) from fun a=>rfl),(show ∀ a : Nat,(a : Int).tdiv 100 = ((a / 100 : Nat) : Int) from fun a=>rfl),ht,hl,-Int.natCast_ediv,-Int.natCast_emod,(show v % 10000 / 100 = v / 100 % 100 from by omega),(show v / 10000 = v / 100 / 100 from by omega),Bj,Bd,(show ∀ a : Nat,((a : Int) * 2 + 1).toNat = a * 2 + 1 from fun a=>by omega),(show ∀ a : Nat,((a : Int) * 2).toNat = a * 2 from fun a=>by omega),hs,-BM,-UInt8.ofNat_add,
    (Al pre (d0) post (i:=5) (sm (v % 100 * 2 + 1)) (by simp only [hs]; omega)),
    (Al pre ((d0.setIfInBounds 5 (sm (v % 100 * 2 + 1)))) post (i:=4) (sm (v % 100 * 2)) (by simp only [AcU,hs]; omega)),
    (Al pre (((d0.setIfInBounds 5 (sm (v % 100 * 2 + 1))).setIfInBounds 4 (sm (v % 100 * 2)))) post (i:=3) (sm (v / 100 % 100 * 2 + 1)) (by simp only [AcU,hs]; omega)),
    (Al pre ((((d0.setIfInBounds 5 (sm (v % 100 * 2 + 1))).setIfInBounds 4 (sm (v % 100 * 2))).setIfInBounds 3 (sm (v / 100 % 100 * 2 + 1)))) post (i:=2) (sm (v / 100 % 100 * 2)) (by simp only [AcU,hs]; omega)),
    (Al pre (((((d0.setIfInBounds 5 (sm (v % 100 * 2 + 1))).setIfInBounds 4 (sm (v % 100 * 2))).setIfInBounds 3 (sm (v / 100 % 100 * 2 + 1))).setIfInBounds 2 (sm (v / 100 % 100 * 2)))) post (i:=1) (sm (v / 100 / 100 % 100 * 2 + 1)) (by simp only [AcU,hs]; omega)),
    (EA pre ((((((d0.setIfInBounds 5 (sm (v % 100 * 2 + 1))).setIfInBounds 4 (sm (v % 100 * 2))).setIfInBounds 3 (sm (v / 100 % 100 * 2 + 1))).setIfInBounds 2 (sm (v / 100 % 100 * 2))).setIfInBounds 1 (sm (v / 100 / 100 % 100 * 2 + 1)))) post (sm (v / 100 / 100 % 100 * 2)) (by simp only [AcU,hs]; omega))]
   have i0:=hi
   have i1:=i0.step2'
   have i2:=i1.step2'
   have i3:=i2.step2'
   exact hQ _ _ i3
  ·have hv10:=hi.small
   have hsm : v < 10000000:=by simpa using hv10
   clear hb1 hv10
   simp (contextual:=true) (maxSteps:=2000000) (disch:=omega) [AT,-Int.not_lt,-Int.not_le,-Nat.not_lt,-Nat.not_le,-List.map_take,EM,Jm,Aa,(show ∀ a : Nat,(a : Int).tmod 10000 = ((a % 10000 : Nat) : Int) from fun a=>rfl),(show ∀ a : Nat,(a : Int).tdiv 10000 = ((a / 10000 : Nat) : Int) from fun a=>rfl),(show ∀ a : Nat,(a : Int).tmod 100 = ((a % 100 : Nat) : Int) from fun a=>rfl),(show ∀ a : Nat,(a : Int).tdiv 100 = ((a / 100 : Nat) : Int) from fun a=>rfl),ht,hl,-Int.natCast_ediv,-Int.natCast_emod,(show v % 10000 / 100 = v / 100 % 100 from by omega),(show v / 10000 = v / 100 / 100 from by omega),Bj,Bd,(show ∀ a : Nat,((a : Int) * 2 + 1).toNat = a * 2 + 1 from fun a=>by omega),(show ∀ a : Nat,((a : Int) * 2).toNat = a * 2 from fun a=>by omega),hs,-BM,-UInt8.ofNat_add,
    (Al pre (d0) post (i:=6) (sm (v % 100 * 2 + 1)) (by simp only [hs]; omega)),
    (Al pre ((d0.setIfInBounds 6 (sm (v % 100 * 2 + 1)))) post (i:=5) (sm (v % 100 * 2)) (by simp only [AcU,hs]; omega)),
    (Al pre (((d0.setIfInBounds 6 (sm (v % 100 * 2 + 1))).setIfInBounds 5 (sm (v % 100 * 2)))) post (i:=4) (sm (v / 100 % 100 * 2 + 1)) (by simp only [AcU,hs]; omega)),
    (Al pre ((((d0.setIfInBounds 6 (sm (v % 100 * 2 + 1))).setIfInBounds 5 (sm (v % 100 * 2))).setIfInBounds 4 (sm (v / 100 % 100 * 2 + 1)))) post (i:=3) (sm (v / 100 % 100 * 2)) (by simp only [AcU,hs]; omega)),
    (Al pre (((((d0.setIfInBounds 6 (sm (v % 100 * 2 + 1))).setIfInBounds 5 (sm (v % 100 * 2))).setIfInBounds 4 (sm (v / 100 % 100 * 2 + 1))).setIfInBounds 3 (sm (v / 100 % 100 * 2)))) post (i:=2) (sm (v / 100 / 100 % 100 * 2 + 1)) (by simp only [AcU,hs]; omega)),
    (Al pre ((((((d0.setIfInBounds 6 (sm (v % 100 * 2 + 1))).setIfInBounds 5 (sm (v % 100 * 2))).setIfInBounds 4 (sm (v / 100 % 100 * 2 + 1))).setIfInBounds 3 (sm (v / 100 % 100 * 2))).setIfInBounds 2 (sm (v / 100 / 100 % 100 * 2 + 1)))) post (i:=1) (sm (v / 100 / 100 % 100 * 2)) (by simp only [AcU,hs]; omega)),
    (ET pre (((((((d0.setIfInBounds 6 (sm (v % 100 * 2 + 1))).setIfInBounds 5 (sm (v % 100 * 2))).setIfInBounds 4 (sm (v / 100 % 100 * 2 + 1))).setIfInBounds 3 (sm (v / 100 % 100 * 2))).setIfInBounds 2 (sm (v / 100 / 100 % 100 * 2 + 1))).setIfInBounds 1 (sm (v / 100 / 100 % 100 * 2)))) post (v / 100 / 100 / 100) (by simp only [AcU,hs]; omega) (by omega))]
   have i0:=hi
   have i1:=i0.step2'
   have i2:=i1.step2'
   have i3:=i2.step2'
   have i4:=i3.step1
   exact hQ _ _ i4
end Go.Mx.Tryz
