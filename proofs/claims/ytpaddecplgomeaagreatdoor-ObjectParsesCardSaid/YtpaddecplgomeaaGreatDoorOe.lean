/- Names of objects: Parse of the reference. -/
import Derived.Test.YtpaddecplgomeaaGreatDoorStr
import Derived.Test.YtpaddecplgomeaaGreatDoorIto
import Derived.Test.YtpaddecplgomeaaGreatDoorAp
import Derived.Test.YtpaddecplgomeaaGreatDoorEa
import Derived.Test.YtpaddecplgomeaaGreatDoorItoa
set_option linter.unusedSimpArgs false
set_option linter.unusedVariables false
set_option linter.unusedSectionVars false
set_option maxRecDepth 100000
namespace Go.Mx.Tryz
theorem ct_s (s : List Nat) (c : Nat) (H : Hp) : Gives G 147 [.m (.s s),.m (.s [c])] H (.m (.i .i64 (s.count c : Nat))) H:=⟨1,rfl⟩
theorem QF {c : Nat} {s : List Nat} (h : tlB c s = none) : s.count c = 0:=by
 rw [List.count_eq_zero]
 intro hm
 rw [<- JR c s h] at hm
 exact TF c s c hm rfl
theorem QE {c : Nat} {s t : List Nat} (h : tlB c s = some t) : s.count c = t.count c + 1:=by
 have e:=EI c s t h
 have h0 : (hdB c s).count c = 0:=by
  rw [List.count_eq_zero]
  intro hm
  exact TF c s c hm rfl
 have e2:=congrArg (List.count c) e
 rw [List.count_append,List.count_cons_self,h0,AfL] at e2
 exact e2
theorem Nk (c : Nat) : ∀ s : List Nat,(spl c s).length = s.count c + 1
 | []=>rfl
 | x :: r=>by
  have ih:=Nk c r
  have e : spl c (x :: r) = if x = c then [] :: spl c r else match spl c r with | []=>[[x]] | h :: t=>(x :: h) :: t:=rfl
  rw [e,List.count_cons]
  by_cases hx : x = c
  ·rw [AeJ hx,Afj,ih]
   simp [hx]
  ·rw [AeF hx]
   obtain ⟨h,t,hs⟩:=Jc c r
   rw [hs] at ih ⊢
   simp only [Afj] at ih ⊢
   simp [hx]
   omega
theorem LU (l : List (List Nat)) (i : Nat) (w : List Nat) : (BS l).set i [.m (.s w)] = BS (l.set i w):=by
 unfold BS
 rw [List.map_set]
theorem LV {l : List (List Nat)} {i : Nat} (h : i < l.length) : ∃ w,nth (BS l) i = some [.m (.s w)]:=by
 refine ⟨l[i],?_⟩
 rw [AA]
 simp [BS,h]
theorem SM (n : Nat) : List.replicate n [V.m (.s [])] = BS (List.replicate n []):=by simp [BS]
theorem SJ (ws : List (List Nat)) (m : Nat) (w : List Nat) : (ws ++ List.replicate (m + 1) []).set ws.length w = (ws ++ [w]) ++ List.replicate m []:=by
 rw [Aga _ _ (AeI _),Nat.sub_self,List.replicate_succ,List.set_cons_zero,AeS]
 rfl
set_option maxHeartbeats 1000000 in
theorem Wp (s : List Nat) (hl : s.length <= 1000000) (c : Nat) (hc : c < 256) (H : Hp) : Gives G 96 [.m (.s s),.m (.s [c]),.m (.i .i64 0),.m (.i .i64 (-1))] H (.m (.sl (Mr (spl c s)))) H:=by
 refine Ah rfl rfl rfl rfl rfl ?_
 have g0:=fun H=>ct_s s c H
 have hcl : s.count c <= s.length:=List.count_le_length
 generalize hN : s.count c = N at *
 have hmin : min ((N : Int) + 1) ((s.length : Int) + 1) = ((N + 1 : Nat) : Int):=by omega
 have w1 : wr .i64 ((N : Int) + 1) = ((N + 1 : Nat) : Int):=by rw [wr_i64 (by omega) (by omega)]; rfl
 have w2 : wr .i64 ((s.length : Int) + 1) = (s.length : Int) + 1:=wr_i64 (by omega) (by omega)
 have w3 : wr .i64 (((N + 1 : Nat) : Int) - 1) = (N : Int):=by rw [wr_i64 (by omega) (by omega)]; omega
 have hmin2 : min (((N + 1 : Nat)) : Int) ((s.length : Int) + 1) = ((N + 1 : Nat) : Int):=by omega
 have hmk : ∀ B,Ai (fun _ _ _=>none) ⟨B,[]⟩ (.mks 9 1 [.m (.s [])] 16) [.m (.i .i64 ((N + 1 : Nat) : Int)),.m (.i .i64 ((N + 1 : Nat) : Int))] = some (.sl 0 (N + 1) 1 0 (N + 1) true,⟨B,[.cs 9 1 (BS (List.replicate (N + 1) [])) 0 false]⟩):=fun B=>by
  rw [Ot,RF,AeM,Xb (by omega) (by omega),AeM,SM]
  have e1 : Nat.ble ((N + 1) * 16) 281474976710656 = true:=by rw [Bd]; exact Afc (by omega)
  have e2 : Nat.ble (N + 1) 9223372036854775807 = true:=by rw [Bd]; exact Afc (by omega)
  have e3 : ((N + 1 : Nat) : Int).toNat = N + 1:=by omega
  rw [e1,e2,e3,Nat.beq_refl]
  rfl
 simp only [Int.natCast_add,Int.cast_ofNat_Int] at w1 w3 hmk hmin hmin2
 have w4 : wr .i64 (N : Int) = N:=wr_i64 (by omega) (by omega)
 simp [cl (g0 _),w1,w2,w4,hmin,hmk,-Ot]
 clear hmk g0 w1 w2 w3 hmin hmin2
 refine (?key : ∀ (i : Nat) (ws : List (List Nat)) (t : List Nat) (b : Nat) (B : List (Nat × List V)),ws.length = i -> i + t.count c = N -> b <= N + 1 -> t.length <= s.length -> spl c s = ws ++ spl c t -> Run G c96_B0 (S96_0 (.m (.s t)) (.m (.s [c])) (.m (.i .i64 0)) (.m (.i .i64 (N : Int))) (.sl 0 (N + 1) 1 0 (N + 1) true) (.m (.i .i64 (i : Int))) B [.cs 9 1 (BS (ws ++ List.replicate (N + 1 - i) [])) b false]) _) 0 [] s 0 [] rfl (by omega) (by omega) (AeI _) rfl
 refine BO (fun i : Nat=>N - i) fun i ih ws t b B hws hcnt hb ht hq=>?_
 unfold c96_B0
 have gi:=fun H=>VK t (by omega) c hc H
 have wi : wr .i64 ((i : Int) + 1) = (i : Int) + 1:=wr_i64 (by omega) (by omega)
 have hrl : (BS (ws ++ List.replicate (N + 1 - i) [])).length = N + 1:=by simp; omega
 cases hs : tlB c t with
 | none =>
  have h0:=QF hs
  have hiN : i = N:=by omega
  have hlt : ¬ (i : Int) < N:=by omega
  obtain ⟨w0,hw0⟩:=LV (l:=ws ++ List.replicate (N + 1 - i) []) (i:=i) (by simp; omega)
  have hse : AF (BS (ws ++ List.replicate (N + 1 - i) [])) i [.m (.s t)] = some (BS (ws ++ [t])):=by
   rw [Am _ _ _ (by omega),LU]
   have : N + 1 - i = 0 + 1:=by omega
   rw [this,<- hws,SJ]
   simp
  have hfin : BS (ws ++ [t]) = BS (spl c s):=by rw [hq,DN c t hs]
  have hlen : (spl c s).length = N + 1:=by rw [hq,DN c t hs]; simp; omega
  rw [hfin] at hse
  have hN1 : (i : Int) < (N : Int) + 1:=by omega
  have hN2 : (i : Int) + 1 <= (N : Int) + 1:=by omega
  have hN3 : i + 1 = N + 1:=by omega
  have hv:=AcX (H:=[.cs 9 1 (BS (spl c s)) (N + 1) false]) (ro:=0) (base:=N + 1) rfl (by omega)
  rw [hlen] at hv
  have hv2 : ∀ b : Bool,viewR [.cs 9 1 (BS (spl c s)) (N + 1) false] (.sl 0 (N + 1) 1 0 (N + 1) b) = some (.m (.sl (Mr (spl c s)))):=fun b=>by
   cases b
   ·exact hv
   ·exact hv
  have hl2 : i < N + 1:=by omega
  simp (disch:=omega) [gd_and,hlt,hN3,hrl,hw0,hse,wi,hv2]
  try simp (disch:=omega) [gd_in,gd_and,wr_i64,hv2,hlen]
 | some u =>
  have h0:=QE hs
  have hlt : (i : Int) < N:=by omega
  have e : ixB t c 0 = (hdB c t).length:=by rw [Xp,hs]; simp
  rw [e] at gi
  have hlen:=SE hs
  have hth:=VG hs
  have n0 : ¬ ((hdB c t).length : Int) < 0:=by omega
  have wh : wr .i64 ((hdB c t).length : Int) = (hdB c t).length:=wr_i64 (by omega) (by omega)
  have wh1 : wr .i64 (((hdB c t).length : Int) + 1) = (hdB c t).length + 1:=wr_i64 (by omega) (by omega)
  have n4 : u.take (t.length - ((hdB c t).length + 1)) = u:=AeY (by omega)
  obtain ⟨w0,hw0⟩:=LV (l:=ws ++ List.replicate (N + 1 - i) []) (i:=i) (by simp; omega)
  have hse : AF (BS (ws ++ List.replicate (N + 1 - i) [])) i [.m (.s (hdB c t))] = some (BS ((ws ++ [hdB c t]) ++ List.replicate (N + 1 - (i + 1)) [])):=by
   rw [Am _ _ _ (by omega),LU]
   have : N + 1 - i = (N + 1 - (i + 1)) + 1:=by omega
   rw [this,<- hws,SJ]
  generalize hL : (ws ++ [hdB c t]) ++ List.replicate (N + 1 - (i + 1)) [] = L at hse
  have hN1 : (i : Int) < (N : Int) + 1:=by omega
  have hl2 : i < N + 1:=by omega
  have hrl2 : (BS ((ws ++ [hdB c t]) ++ List.replicate (N + 1 - (i + 1)) [])).length = N + 1:=by simp; omega
  simp (disch:=omega) [gd_and,hlt,cl (gi _),n0,wh,wh1,hth.1,hth.2,n4,hrl,hw0,hse,wi]
  rw [<- hL]
  refine ih (i + 1) (by omega) (ws ++ [hdB c t]) u (N + 1) _ (by simp; omega) (by omega) (by omega) (by omega) ?_
  rw [hq,DM c t u hs,AeS]
  rfl
theorem Zt (s : List Nat) (hl : s.length <= 1000000) (c : Nat) (hc : c < 256) (H : Hp) : Gives G 53 [.m (.s s),.m (.s [c])] H (.m (.sl (Mr (spl c s)))) H:=by
 refine Ah rfl rfl rfl rfl rfl ?_
 simp [cl (Wp s hl c hc _)]
open Go.Lib Go.Proofs
def tpr : List Nat -> List Nat
 | 45 :: r=>r
 | s=>s
theorem FO (u : Nat) : ∀ c,c ∈ BR u -> 48 <= c /\ c <= 57:=by
 refine BO (P:=fun u=>∀ c,c ∈ BR u -> 48 <= c /\ c <= 57) (fun u : Nat=>u) (fun u ih c hc=>?_) u
 by_cases h : u < 10
 ·rw [Bc h] at hc
  simp at hc
  omega
 ·rw [BL h] at hc
  rcases AfQ.1 hc with h1 | h1
  ·exact ih (u / 10) (by omega) c h1
  ·simp at h1
   omega
theorem Mm (u : Nat) : DC 0 (BR u) = u:=by
 refine BO (P:=fun u=>DC 0 (BR u) = u) (fun u : Nat=>u) (fun u ih=>?_) u
 by_cases h : u < 10
 ·rw [Bc h]
  show 10 * 0 + (48 + u - 48) = u
  omega
 ·rw [BL h,Kr,ih (u / 10) (by omega)]
  omega
theorem Kt (u : Nat) : BR u ≠ []:=by
 by_cases h : u < 10
 ·rw [Bc h]; simp
 ·rw [BL h]; simp
theorem Eo : ∀ (k u : Nat),u < 10 ^ (k + 1) -> (BR u).length <= k + 1
 | 0,u,h=>by rw [Bc (by simpa using h)]; simp
 | k + 1,u,h=>by
  by_cases h1 : u < 10
  ·rw [Bc h1]; simp
  ·rw [BL h1,AeL]
   have : u / 10 < 10 ^ (k + 1):=by
    rw [Nat.pow_succ] at h
    exact Nat.div_lt_of_lt_mul (by rw [Nat.mul_comm]; exact h)
   have:=Eo k (u / 10) this
   simp
   omega
theorem TM (u : Nat) : 1 <= u -> (BR u).take 1 ≠ [48]:=by
 refine BO (P:=fun u=>1 <= u -> (BR u).take 1 ≠ [48]) (fun u : Nat=>u) (fun u ih hu=>?_) u
 by_cases h : u < 10
 ·rw [Bc h]
  simp
  omega
 ·rw [BL h]
  have:=ih (u / 10) (by omega) (by omega)
  obtain ⟨a,t,e⟩:=Afq (Kt (u / 10))
  rw [e] at this ⊢
  simpa using this
theorem Tu (x : Int) : ∀ c,c ∈ AN x -> c = 45 \/ (48 <= c /\ c <= 57):=fun c hc=>by
 by_cases h : 0 <= x
 ·obtain ⟨u,rfl⟩:=AeV h
  rw [Bg] at hc
  exact .inr (FO u c hc)
 ·obtain ⟨u,hu⟩:=AeV (show 0 <= -x by omega)
  have : x = -(u : Int):=by omega
  subst this
  rw [BQ u (by omega)] at hc
  rcases Aff.1 hc with h | h
  ·exact .inl h
  ·exact .inr (FO u c h)
theorem Zq {d : List Nat} (h : ∀ c,c ∈ d -> 48 <= c /\ c <= 57) : tpr d = d:=by
 unfold tpr
 split
 ·rename_i r; have:=h 45 (by simp); omega
 ·rfl
theorem Aay (d : List Nat) (hne : d ≠ []) (hd : d.all okD = true) : (DC 0 d <= 9223372036854775808 -> atG (45 :: d) = (.i .i64 (-((DC 0 d : Nat) : Int)),.nl 3)) /\ (¬ DC 0 d <= 9223372036854775808 -> (atG (45 :: d)).2 = .er /\ ∃ x,(atG (45 :: d)).1 = .i .i64 x):=by
 have h1:=SD (c:=45) (by omega)
 have hp:=pu10 d 0 hd (by omega)
 have hA : ∀ z,parseUint10 0 (d.map UInt8.ofNat) = z -> atoiAll ((45 :: d).map UInt8.ofNat) = match z with
   | .ok u=>if 9223372036854775808 < u then .range else .ok (-(u : Int))
   | .range=>.range
   | _=>atoiAll []:=fun z hz=>by
  have e : (45 :: d).map UInt8.ofNat = UInt8.ofNat 45 :: d.map UInt8.ofNat:=rfl
  rw [e]
  unfold atoiAll
  simp only [h1,or_true,if_true,not_true_eq_false,false_and,if_false,true_and]
  unfold parseMag
  rw [AeF (by simpa using hne),hz]
  cases z <;> rfl
 constructor
 ·intro h
  rw [AeJ (by omega)] at hp
  have hA:=hA _ hp
  simp only at hA
  rw [AeF (by omega)] at hA
  unfold atG
  rw [hA]
 ·intro h
  unfold atG
  by_cases h2 : DC 0 d < 18446744073709551616
  ·rw [AeJ h2] at hp
   have hA:=hA _ hp
   simp only at hA
   rw [AeJ (by omega)] at hA
   rw [hA]
   exact ⟨rfl,_,rfl⟩
  ·rw [AeF h2] at hp
   have hA:=hA _ hp
   simp only at hA
   rw [hA]
   exact ⟨rfl,_,rfl⟩
def Gp (s : List Nat) : Bool:=!decide (tpr s = []) && (!decide ((tpr s).take 1 = [48]) || (decide ((tpr s).length = 1) && decide (tpr s = s))) && inS Hc (tpr s)
def Th (s : List Nat) : Int:=if s.take 1 = [45] then -((DC 0 (tpr s) : Nat) : Int) else (DC 0 (tpr s) : Nat)
def Xk (s : List Nat) : Int:=if -9223372036854775808 <= Th s /\ Th s <= 9223372036854775807 then Th s else 9223372036854775807
theorem LN (s : List Nat) : (s.take 1 = [45] /\ s = 45 :: tpr s) \/ (s.take 1 ≠ [45] /\ tpr s = s):=by
 cases s with
 | nil=>exact .inr ⟨by simp,rfl⟩
 | cons a r =>
  by_cases h : a = 45
  ·subst h
   exact .inl ⟨rfl,rfl⟩
  ·refine .inr ⟨by simpa using h,?_⟩
   unfold tpr
   split
   ·rename_i e; cases e; exact absurd rfl h
   ·rfl
theorem Aax {s : List Nat} (h : Gp s = true) : ((atG s).2 = .nl 3 /\ (atG s).1 = .i .i64 (Xk s)) \/ ((atG s).2 = .er /\ Xk s = 9223372036854775807 /\ ∃ x,(atG s).1 = .i .i64 x):=by
 unfold Gp at h
 simp only [AeH,Afm,decide_eq_false_iff_not] at h
 obtain ⟨⟨hne,_⟩,hi⟩:=h
 have hd:=Tx hi
 rcases LN s with ⟨h1,h2⟩ | ⟨h1,h2⟩
 ·obtain ⟨k1,k2⟩:=Aay (tpr s) hne hd
  rw [<- h2] at k1 k2
  have hv : Th s = -((DC 0 (tpr s) : Nat) : Int):=by unfold Th; rw [AeJ h1]
  by_cases h : DC 0 (tpr s) <= 9223372036854775808
  ·left
   rw [k1 h]
   unfold Xk
   rw [AeJ (by omega),hv]
   exact ⟨rfl,rfl⟩
  ·right
   unfold Xk
   rw [AeF (by omega)]
   exact ⟨(k2 h).1,rfl,(k2 h).2⟩
 ·rw [h2] at hne hd
  obtain ⟨k1,k2⟩:=Aaw s hne hd
  have hv : Th s = ((DC 0 s : Nat) : Int):=by unfold Th; rw [AeF h1,h2]
  by_cases h : DC 0 s < 9223372036854775808
  ·left
   rw [k1 h]
   unfold Xk
   rw [AeJ (by omega),hv]
   exact ⟨rfl,rfl⟩
  ·right
   unfold Xk
   rw [AeF (by omega)]
   exact ⟨(k2 h).1,rfl,(k2 h).2⟩
theorem Mb (x : Int) (h1 : -1000000000000 < x) (h2 : x < 1000000000000) : Th (AN x) = x /\ Gp (AN x) = true:=by
 have core : ∀ u : Nat,inS Hc (BR u) = true:=fun u=>Tw (FO u)
 by_cases h0 : 0 <= x
 ·obtain ⟨u,rfl⟩:=AeV h0
  rw [Bg]
  have ht:=Zq (FO u)
  obtain ⟨a,r,hd⟩:=Afq (Kt u)
  have ha:=FO u a (by rw [hd]; simp)
  refine ⟨?_,?_⟩
  ·unfold Th
   rw [ht,Mm,AeF (by rw [hd]; simp; omega)]
  ·unfold Gp
   rw [ht,core u,Bool.and_true,AeH]
   refine ⟨by simp [Kt u],?_⟩
   by_cases hu : 1 <= u
   ·have:=TM u hu
    simp [this]
   ·have : u = 0:=by omega
    subst this
    have hd0 : BR 0 = [48]:=Bc (by omega)
    rw [hd0]
    simp
 ·obtain ⟨u,hu⟩:=AeV (show 0 <= -x by omega)
  have : x = -(u : Int):=by omega
  subst this
  rw [BQ u (by omega)]
  have ht : tpr (45 :: BR u) = BR u:=rfl
  refine ⟨?_,?_⟩
  ·unfold Th
   rw [ht,Mm,AeJ (show List.take 1 (45 :: BR u) = [45] from rfl)]
  ·unfold Gp
   rw [ht,core u,Bool.and_true,AeH]
   refine ⟨by simp [Kt u],?_⟩
   have:=TM u (by omega)
   simp [this]
theorem BZ (x : Int) (h1 : -1000000000 < x) (h2 : x < 1000000000) : (AN x).length <= 10:=by
 by_cases h0 : 0 <= x
 ·obtain ⟨u,rfl⟩:=AeV h0
  rw [Bg]
  have:=Eo 8 u (by omega)
  omega
 ·obtain ⟨u,hu⟩:=AeV (show 0 <= -x by omega)
  have : x = -(u : Int):=by omega
  subst this
  rw [BQ u (by omega)]
  have:=Eo 8 u (by omega)
  simp
  omega
end Go.Mx.Tryz
set_option maxHeartbeats 4000000
namespace Go.Mx.Tryz
open Go.Lib
def QN : List Nat -> List Nat -> List (List Nat)
 | a,[]=>[a]
 | a,x :: t=>if x = 32 then a :: QN [] t else QN (a ++ [x]) t
theorem Nl : ∀ (s a : List Nat),∃ h r,spl 32 s = h :: r /\ QN a s = (a ++ h) :: r
 | [],a=>⟨[],[],rfl,by simp [QN]⟩
 | x :: t,a=>by
  obtain ⟨h,r,h1,h2⟩:=Nl t (a ++ [x])
  obtain ⟨h',r',h1',h2'⟩:=Nl t []
  have e : QN a (x :: t) = if x = 32 then a :: QN [] t else QN (a ++ [x]) t:=rfl
  rw [e]
  by_cases hx : x = 32
  ·subst hx
   have e2 : tlB 32 (32 :: t) = if (32 : Nat) = 32 then some t else tlB 32 t:=rfl
   have e3 : hdB 32 (32 :: t) = if (32 : Nat) = 32 then [] else 32 :: hdB 32 t:=rfl
   rw [AeJ rfl] at e2 e3
   refine ⟨[],spl 32 t,?_,?_⟩
   ·rw [DM 32 _ _ e2,e3]
   ·rw [AeJ rfl,h2',h1']
    simp
  ·rw [AeF hx]
   refine ⟨x :: h,r,?_,by rw [h2]; simp⟩
   have e2 : tlB 32 (x :: t) = if x = 32 then some t else tlB 32 t:=rfl
   have e3 : hdB 32 (x :: t) = if x = 32 then [] else x :: hdB 32 t:=rfl
   rw [AeF hx] at e2 e3
   cases ht : tlB 32 t with
   | none =>
    rw [DN 32 t ht] at h1
    rw [DN 32 (x :: t) (by rw [e2,ht])]
    cases h1
    rfl
   | some u =>
    rw [DM 32 t u ht] at h1
    rw [DM 32 (x :: t) u (by rw [e2,ht]),e3]
    cases h1
    rfl
theorem VM (s : List Nat) : QN [] s = spl 32 s:=by
 obtain ⟨h,r,h1,h2⟩:=Nl s []
 rw [h1,h2,Afi]
theorem Zn (s : List Nat) (hl : s.length <= 1000000) (H : Hp) : Gives G 55 [.m (.s s)] H (.m (.sl (Mr (spl 32 s)))) H:=by
 refine Ah rfl rfl rfl rfl rfl ?_
 have hz : zS (spl 32 s) = .sl (Mr (spl 32 s)):=by
  obtain ⟨h,t,e⟩:=Jc 32 s
  unfold zS
  rw [AeF (by rw [e]; simp)]
 simp
 refine (?key : ∀ (i fr : Nat) (ws : List (List Nat)) (o : V) (B : List (Nat × List V)) (H : Hp),i <= s.length -> fr <= i -> ws.length <= i -> OutR ws o H -> spl 32 s = ws ++ QN ((s.drop fr).take (i - fr)) (s.drop i) -> Run G c55_B0 (S55_0 (.m (.s s)) o (.m (.i .i64 (fr : Int))) (.m (.i .i64 (i : Int))) B H) _) 0 0 [] (.m (.nl 4)) [] [] (AeR _) (AeI _) (AeI _) (.inl ⟨rfl,rfl,rfl⟩) (by simp [VM])
 refine BO (fun i : Nat=>s.length - i) fun i ih fr ws o B H hi hfr hwi ho hq=>?_
 have hnf : Ax o = true:=by
  rcases ho with ⟨_,rfl,_⟩ | ⟨_,rfl,_⟩ <;> rfl
 have wi : wr .i64 ((i : Int) + 1) = (i : Int) + 1:=wr_i64 (by omega) (by omega)
 unfold c55_B0
 cases hx : s[i]? with
 | none =>
  have : i = s.length:=by have:=AeU.1 hx; omega
  subst this
  rw [AfR] at hq
  have htk : (s.drop fr).take (s.length - fr) = s.drop fr:=AeY (by rw [Afu]; omega)
  rw [htk] at hq
  have hq2 : spl 32 s = ws ++ [s.drop fr]:=hq
  obtain ⟨o1,H1,ha,hn1,ho1⟩:=LY ho (by omega) (s.drop fr)
  rw [<- hq2] at ho1
  have hv:=SY ho1
  rw [hz] at hv
  have p1 : (fr : Int) <= s.length:=by omega
  simp (disch:=omega) [htk,ha,Ag hn1,hv,hn1]
 | some x =>
  have hlt:=(Av hx).1
  have hlt' : (i : Int) < s.length:=by omega
  have hnx : nth s i = some x:=by rw [AA]; exact hx
  rw [(Av hx).2] at hq
  have e3 : QN ((s.drop fr).take (i - fr)) (x :: s.drop (i + 1)) = if x = 32 then (s.drop fr).take (i - fr) :: QN [] (s.drop (i + 1)) else QN ((s.drop fr).take (i - fr) ++ [x]) (s.drop (i + 1)):=rfl
  rw [e3] at hq
  by_cases h10 : x = 32
  ·subst h10
   rw [AeJ rfl] at hq
   obtain ⟨o1,H1,ha,hn1,ho1⟩:=LY ho (by omega) ((s.drop fr).take (i - fr))
   simp (disch:=omega) [gd_in,hlt',hnx,ha,Ag hn1,wi]
   exact ih (i + 1) (by omega) (i + 1) _ _ _ _ (by omega) (AeI _) (by simp; omega) ho1 (by rw [hq]; simp)
  ·have h10' : ¬ (x : Int) = 32:=by omega
   rw [AeF h10] at hq
   simp (disch:=omega) [hlt',hnx,h10',wi]
   refine ih (i + 1) (by omega) fr _ _ _ _ (by omega) (by omega) (by omega) ho ?_
   have hg : (s.drop fr)[i - fr]? = some x:=by rw [List.getElem?_drop,show fr + (i - fr) = i by omega]; exact hx
   rw [hq,show i + 1 - fr = (i - fr) + 1 by omega,AQ hg]
def Wb (s : List Nat) : Int:=if s.take 1 = [45] then -((min (DC 0 (tpr s)) 1000000000 : Nat) : Int) else (min (DC 0 (tpr s)) 1000000000 : Nat)
def Gz (s : List Nat) : Int × Bool:=if Gp s = true then (Wb s,true) else (0,false)
theorem Ty (c : Nat) (r : List Nat) : inS Hc (c :: r) = (okD c && inS Hc r):=by
 rw [Wn]
 congr 1
 unfold Hc okD
 rw [Afs]
 simp
 omega
theorem Aad {d : List Nat} (h : inS Hc d = true) {i c : Nat} (hc : d[i]? = some c) : 48 <= c /\ c <= 57:=Ik.1 (AeQ.1 (Tx h) c (AeO hc))
theorem Xq : ∀ {d : List Nat},inS Hc d = false -> ∃ (i c : Nat),d[i]? = some c /\ okD c = false /\ ∀ (j x : Nat),j < i -> d[j]? = some x -> okD x = true
 | [],h=>by cases h
 | c :: r,h=>by
  rw [Ty] at h
  cases hc : okD c with
  | false=>exact ⟨0,c,rfl,hc,fun j x hj=>by omega⟩
  | true =>
   rw [hc,Bool.true_and] at h
   obtain ⟨i,x,h1,h2,h3⟩:=Xq h
   refine ⟨i + 1,x,by simpa using h1,h2,fun j y hj hy=>?_⟩
   cases j with
   | zero=>simp at hy; subst hy; exact hc
   | succ j=>exact h3 j y (by omega) (by simpa using hy)
theorem Kd (d : List Nat) (hl : d.length <= 1000000) (hb : ∀ c,c ∈ d -> c < 256) (ng : Bool) (K : K)
  (hfail : inS Hc d = false -> ∀ (E : Env) (B : List (Nat × List V)) (H : Hp),BP E 2 = some (.m (.i .i64 0)) -> BP E 3 = some (.m (.b false)) -> At' G .ret ⟨E,[],⟨B,H⟩⟩ K)
  (hend : inS Hc d = true -> ∀ (B : List (Nat × List V)) (H : Hp),At' G (.ex 0) ⟨[(0,.m (.s d)),(4,.m (.b ng)),(5,.m (.i .i64 ((min (DC 0 d) 1000000000 : Nat) : Int))),(6,.m (.i .i64 (d.length : Int))),(37,.m (.b false))],[],⟨B,H⟩⟩ K) (B : List (Nat × List V)) (H : Hp) :
  Run G c99_B0 (S99_0 (.m (.s d)) (.m (.b ng)) (.m (.i .i64 0)) (.m (.i .i64 0)) B H) (.seq c99_L0 K):=by
 refine (?key : ∀ (i n : Nat) (B : List (Nat × List V)) (H : Hp),i <= d.length -> n = min (DC 0 (d.take i)) 1000000000 -> (∀ j x,j < i -> d[j]? = some x -> okD x = true) -> Run G c99_B0 (S99_0 (.m (.s d)) (.m (.b ng)) (.m (.i .i64 (n : Int))) (.m (.i .i64 (i : Int))) B H) (.seq c99_L0 K)) 0 0 B H (AeR _) rfl (fun j x hj=>by omega)
 refine BO (fun i : Nat=>d.length - i) fun i ih n B H hi hn hok=>?_
 unfold c99_B0
 cases hx : d[i]? with
 | none =>
  have : i = d.length:=by have:=AeU.1 hx; omega
  subst this
  have hin : inS Hc d = true:=by
   cases h : inS Hc d with
   | true=>rfl
   | false =>
    obtain ⟨k,c,h1,h2,_⟩:=Xq h
    have:=hok k c (by have:=(Av h1).1; omega) h1
    rw [this] at h2
    cases h2
  rw [AfM] at hn
  subst hn
  have:=hend hin B H
  simp (disch:=omega) []
  exact this
 | some x =>
  have hlt:=(Av hx).1
  have hlt' : (i : Int) < d.length:=by omega
  have hnx : nth d i = some x:=by rw [AA]; exact hx
  have wi : wr .i64 ((i : Int) + 1) = (i : Int) + 1:=wr_i64 (by omega) (by omega)
  by_cases hc : 48 <= x /\ x <= 57
  ·have c1 : ¬ (x : Int) < 48:=by omega
   have c2 : ¬ (57 : Int) < x:=by omega
   have w8 : wr .u8 ((x : Int) - 48) = (x : Int) - 48:=GJ (by omega) (by omega)
   have w64 : wr .i64 ((x : Int) - 48) = (x : Int) - 48:=wr_i64 (by omega) (by omega)
   have hn9 : n <= 1000000000:=by omega
   have w10 : wr .i64 (10 * (n : Int)) = 10 * (n : Int):=wr_i64 (by omega) (by omega)
   have w11 : wr .i64 (10 * (n : Int) + ((x : Int) - 48)) = 10 * (n : Int) + ((x : Int) - 48):=wr_i64 (by omega) (by omega)
   have hm : min (10 * (n : Int) + ((x : Int) - 48)) 1000000000 = ((min (DC 0 (d.take (i + 1))) 1000000000 : Nat) : Int):=by
    rw [AQ hx,Kr]
    omega
   have k:=ih (i + 1) (by omega) (min (DC 0 (d.take (i + 1))) 1000000000) B H (by omega) rfl (fun j y hj hy=>by
    by_cases h : j = i
    ·subst h
     rw [hx] at hy
     cases hy
     exact Ik.2 hc
    ·exact hok j y (by omega) hy)
   generalize min (DC 0 (d.take (i + 1))) 1000000000 = n2 at *
   simp [hlt',hnx,c1,c2,w8,w64,w10,w11,hm,wi]
   exact k
  ·have hF : inS Hc d = false:=by
    cases h : inS Hc d with
    | false=>rfl
    | true=>exact absurd (Aad h hx) hc
   have k:=hfail hF
   by_cases c1 : (x : Int) < 48
   ·simp [hlt',hnx,c1]
    exact k _ _ _ rfl rfl
   ·have c2 : (57 : Int) < x:=by omega
    simp [hlt',hnx,c1,c2]
    exact k _ _ _ rfl rfl
theorem Wa (s : List Nat) (hl : s.length <= 1000000) (hb : ∀ c,c ∈ s -> c < 256) (H : Hp) : Gives G 99 [.m (.s s)] H (.tu [.m (.i .i64 (Gz s).1),.m (.b (Gz s).2)]) H:=by
 refine Ah rfl rfl rfl rfl rfl ?_
 rcases LN s with ⟨h1,h2⟩ | ⟨h1,h2⟩
 ·-- with a sign
  have hC : Wb s = -((min (DC 0 (tpr s)) 1000000000 : Nat) : Int):=by unfold Wb; rw [AeJ h1]
  have hss : ¬ tpr s = s:=fun e=>by rw [e] at h2; have:=congrArg List.length h2; simp at this
  have hO : Gp s = (!decide (tpr s = []) && !decide ((tpr s).take 1 = [48]) && inS Hc (tpr s)):=by
   unfold Gp
   simp [hss]
  have hR : Gz s = if Gp s = true then (Wb s,true) else (0,false):=rfl
  rw [hC,hO] at hR
  generalize tpr s = d at *
  subst h2
  rw [hR]
  cases d with
  | nil=>simp (disch:=omega) []
  | cons a r =>
   have p1 : (0 : Int) < (r.length : Int) + 1:=by omega
   have p2 : (1 : Int) <= (r.length : Int) + 1 + 1:=by omega
   have p4 : (0 : Int) < (r.length : Int) + 1 + 1:=by omega
   have p5 : ¬ (r.length : Int) + 1 = 0:=by omega
   by_cases h48 : a = 48
   ·subst h48
    by_cases hr : r = []
    ·subst hr
     simp (disch:=omega) []
    ·have p3 : (1 : Int) < (r.length : Int) + 1:=by have:=AfA.2 hr; omega
     simp (disch:=omega) [p3,p4,p5]
   ·have h48' : ¬ (a : Int) = 48:=by omega
    have e : (!decide (a :: r = []) && !decide ((a :: r).take 1 = [48]) && inS Hc (a :: r)) = inS Hc (a :: r):=by simp [h48]
    rw [e]
    generalize hres : (if inS Hc (a :: r) = true then (-((min (DC 0 (a :: r)) 1000000000 : Nat) : Int),true) else ((0 : Int),false)) = res
    simp (disch:=omega) [p4,p5,h48']
    refine Kd (a :: r) (by simp at hl ⊢; omega) (fun c hc=>hb c (AfI _ hc)) true _ (fun hF E B H k1 k2=>?_) (fun hT B H=>?_) _ _
    ·rw [hF] at hres
     subst hres
     simp [k1,k2]
    ·rw [hT,AeJ rfl] at hres
     subst hres
     generalize hmn : min (DC 0 (a :: r)) 1000000000 = m
     have hm9 : m <= 1000000000:=by omega
     have wn : wr .i64 (-(m : Int)) = -(m : Int):=wr_i64 (by omega) (by omega)
     simp [wn]
 ·have hC : Wb s = ((min (DC 0 (tpr s)) 1000000000 : Nat) : Int):=by unfold Wb; rw [AeF h1]
  have hO : Gp s = (!decide (tpr s = []) && (!decide ((tpr s).take 1 = [48]) || decide ((tpr s).length = 1)) && inS Hc (tpr s)):=by
   unfold Gp
   simp [h2]
  have hR : Gz s = if Gp s = true then (Wb s,true) else (0,false):=rfl
  rw [hC,hO,h2] at hR
  rw [hR]
  cases s with
  | nil=>simp (disch:=omega) []
  | cons a r =>
   have p1 : (0 : Int) < (r.length : Int) + 1:=by omega
   have p5 : ¬ (r.length : Int) + 1 = 0:=by omega
   have h45 : ¬ (a : Int) = 45:=by
    have : ¬ a = 45:=by simpa using h1
    omega
   by_cases hbad : a = 48 /\ r ≠ []
   ·obtain ⟨rfl,hr⟩:=hbad
    have p3 : (1 : Int) < (r.length : Int) + 1:=by have:=AfA.2 hr; omega
    have e : (!decide (48 :: r = []) && (!decide ((48 :: r).take 1 = [48]) || decide ((48 :: r).length = 1)) && inS Hc (48 :: r)) = false:=by simp [hr]
    rw [e]
    simp (disch:=omega) [p1,p3,p5]
   ·have e : (!decide (a :: r = []) && (!decide ((a :: r).take 1 = [48]) || decide ((a :: r).length = 1)) && inS Hc (a :: r)) = inS Hc (a :: r):=by
     by_cases h48 : a = 48
     ·have hr : r = []:=Classical.byContradiction fun h=>hbad ⟨h48,h⟩
      simp [hr]
     ·simp [h48]
    rw [e]
    generalize hres : (if inS Hc (a :: r) = true then (((min (DC 0 (a :: r)) 1000000000 : Nat) : Int),true) else ((0 : Int),false)) = res
    by_cases h48 : a = 48
    ·have hr : r = []:=Classical.byContradiction fun h=>hbad ⟨h48,h⟩
     subst hr
     subst h48
     simp (disch:=omega) []
     refine Kd [48] (by simp) hb false _ (fun hF E B H k1 k2=>?_) (fun hT B H=>?_) _ _
     ·rw [hF] at hres
      subst hres
      simp [k1,k2]
     ·rw [hT,AeJ rfl] at hres
      subst hres
      simp
    ·have h48' : ¬ (a : Int) = 48:=by omega
     simp (disch:=omega) [p1,p5,h45,h48']
     refine Kd (a :: r) hl hb false _ (fun hF E B H k1 k2=>?_) (fun hT B H=>?_) _ _
     ·rw [hF] at hres
      subst hres
      simp [k1,k2]
     ·rw [hT,AeJ rfl] at hres
      subst hres
      simp
theorem Aen (u : Nat) (h : u < 10) : (([48,49,50,51,52,53,54,55,56,57] : List Nat).drop u).take 1 = [48 + u]:=by
 match u,h with
 | 0,_=>rfl
 | 1,_=>rfl
 | 2,_=>rfl
 | 3,_=>rfl
 | 4,_=>rfl
 | 5,_=>rfl
 | 6,_=>rfl
 | 7,_=>rfl
 | 8,_=>rfl
 | 9,_=>rfl
theorem Xs (u : Nat) : u <= 1000000000000 -> ∀ H,Gives G 51 [.m (.i .i64 (u : Int))] H (.m (.s (BR u))) H:=by
 refine BO (P:=fun u=>u <= 1000000000000 -> ∀ H,Gives G 51 [.m (.i .i64 (u : Int))] H (.m (.s (BR u))) H) (fun u : Nat=>u) (fun u ih hu H=>?_) u
 refine Ah rfl rfl rfl rfl rfl ?_
 have h0 : ¬ (u : Int) < 0:=by omega
 by_cases h : u < 10
 ·have h' : (u : Int) < 10:=by omega
  have w : wr .i64 ((u : Int) + 1) = (u : Int) + 1:=wr_i64 (by omega) (by omega)
  have p1 : (u : Int) + 1 <= 10:=by omega
  have p2 : u <= u + 1:=by omega
  have p3 : (0 : Int) <= (u : Int) + 1:=by omega
  simp [h0,h',w,p1,p3,Aen u h,Bc h]
 ·have h' : ¬ (u : Int) < 10:=by omega
  have g1:=ih (u / 10) (by omega) (by omega)
  have g2:=ih (u % 10) (by omega) (by omega)
  have w : wr .i64 ((u / 10 : Nat) : Int) = ((u / 10 : Nat) : Int):=wr_i64 (by omega) (by omega)
  have t1 : (u : Int).tdiv 10 = ((u / 10 : Nat) : Int):=rfl
  have t2 : (u : Int).tmod 10 = ((u % 10 : Nat) : Int):=rfl
  have e1 : BR (u % 10) = [48 + u % 10]:=Bc (by omega)
  have hl : (BR (u / 10)).length <= 20:=by have:=Eo 12 (u / 10) (by omega); omega
  rw [BL h,<- e1]
  have hl1 : (BR (u % 10)).length = 1:=by rw [e1]; rfl
  have hs : (BR (u / 10)).length + (BR (u % 10)).length <= 9223372036854775807:=by omega
  simp [h0,h',t1,t2,w,-Int.natCast_ediv,-Int.natCast_emod,cl (g1 _),cl (g2 _),hs]
theorem decm (x : Int) (h1 : -1000000000 < x) (h2 : x < 1000000000) (H : Hp) : Gives G 51 [.m (.i .i64 x)] H (.m (.s (AN x))) H:=by
 by_cases h : 0 <= x
 ·obtain ⟨u,rfl⟩:=AeV h
  rw [Bg]
  exact Xs u (by omega) H
 ·obtain ⟨u,hu⟩:=AeV (show 0 <= -x by omega)
  have : x = -(u : Int):=by omega
  subst this
  rw [BQ u (by omega)]
  refine Ah rfl rfl rfl rfl rfl ?_
  have h0 : -(u : Int) < 0:=by omega
  have w : wr .i64 (u : Int) = u:=wr_i64 (by omega) (by omega)
  have g:=Xs u (by omega)
  have hl : (BR u).length <= 20:=by have:=Eo 8 u (by omega); omega
  have hl' : 1 + (BR u).length <= 9223372036854775807:=by omega
  have hu1 : 1 <= u:=by omega
  have hu2 : 0 < u:=by omega
  simp [w,cl (g _),hu2,hl']
theorem Km (x : Int) : ∀ c,c ∈ AN x -> c ≠ 32:=fun c hc=>by have:=Tu x c hc; omega
theorem Xg (c : Nat) : ∀ (a r : List Nat),(∀ y,y ∈ a -> y ≠ c) -> hdB c (a ++ c :: r) = a /\ tlB c (a ++ c :: r) = some r
 | [],r,_=>by
  have e1 : tlB c (c :: r) = if c = c then some r else tlB c r:=rfl
  have e2 : hdB c (c :: r) = if c = c then [] else c :: hdB c r:=rfl
  rw [AeJ rfl] at e1 e2
  exact ⟨e2,e1⟩
 | x :: t,r,h=>by
  have hx:=h x (by simp)
  obtain ⟨i1,i2⟩:=Xg c t r fun y hy=>h y (by simp [hy])
  have e1 : tlB c (x :: (t ++ c :: r)) = if x = c then some (t ++ c :: r) else tlB c (t ++ c :: r):=rfl
  have e2 : hdB c (x :: (t ++ c :: r)) = if x = c then [] else x :: hdB c (t ++ c :: r):=rfl
  rw [AeF hx] at e1 e2
  exact ⟨by rw [Afo,e2,i1],by rw [Afo,e1,i2]⟩
theorem AdS (c : Nat) : ∀ (a : List Nat),(∀ y,y ∈ a -> y ≠ c) -> tlB c a = none
 | [],_=>rfl
 | x :: t,h=>by
  have e1 : tlB c (x :: t) = if x = c then some t else tlB c t:=rfl
  rw [e1,AeF (h x (by simp)),AdS c t fun y hy=>h y (by simp [hy])]
theorem Ib (c : Nat) (a r : List Nat) (h : ∀ y,y ∈ a -> y ≠ c) : spl c (a ++ c :: r) = a :: spl c r:=by
 obtain ⟨h1,h2⟩:=Xg c a r h
 rw [DM c _ _ h2,h1]
theorem JT (c : Nat) (a : List Nat) (h : ∀ y,y ∈ a -> y ≠ c) : spl c a = [a]:=DN c a (AdS c a h)
theorem Mc (x : Int) (h : -1048576 <= x /\ x <= 1048576) : Xk (AN x) = x /\ Gp (AN x) = true:=by
 obtain ⟨k1,k2⟩:=Mb x (by omega) (by omega)
 refine ⟨?_,k2⟩
 unfold Xk
 rw [k1,AeJ (by omega)]
theorem WC (x : Int) (h : -1048576 <= x /\ x <= 1048576) : (atG (AN x)).1 = .i .i64 x:=by
 obtain ⟨h1,h2⟩:=Mc x h
 rcases Aax h2 with ⟨_,k⟩ | ⟨_,k,_⟩
 ·rw [k,h1]
 ·rw [h1] at k; omega
open Go.Sort Go.Proofs
def okM (P X Y : Int) : Prop:=1 <= P /\ P <= 64 /\ -1048576 <= X /\ X <= 1048576 /\ -1048576 <= Y /\ Y <= 1048576
instance (P X Y : Int) : Decidable (okM P X Y):=inferInstanceAs (Decidable (_ /\ _))
structure DecO (s : List Nat) (w : I) (h : List Ce) (e : Int) : Prop where
 sl : IsSl w (Ao h)
 len : h.length <= 5000
 cas : (e = 0 /\ s = [45] /\ h = []) \/ (e = 0 /\ IsCode s h) \/ (e = 15 /\ h = [])
 gs : ∀ H,Gives G 94 [.m (.s s)] H (.tu [.m w,.m (.i .i64 e)]) H
 gr : ∀ H,Gives G 52 [.m (.s s)] H (.tu [.m w,.m (.i .i64 e)]) H
theorem decO (s : List Nat) (hb : ∀ c,c ∈ s -> c < 256) (hl : s.length <= 65536) : ∃ w h e,DecO s w h e:=by
 obtain ⟨x,hx,g⟩:=NC s hb hl
 obtain ⟨w,h,e,h1,h2,rfl,h3⟩:=Wu hx
 exact ⟨w,h,e,h1,h2,h3,fun H=>(g H).1,fun H=>(g H).2⟩
def fmO (P X Y : Int) (h : List Ce) (e : Int) : Prop:=okM P X Y /\ e = 0 /\ h ≠ []
instance (P X Y : Int) (h : List Ce) (e : Int) : Decidable (fmO P X Y h e):=inferInstanceAs (Decidable (_ /\ _ /\ _))
def CQ (P X Y : Int) (s : List Nat) : List Nat :=
 if X ≠ 0 \/ Y ≠ 0 then 118 :: (AN P ++ 32 :: (AN X ++ 32 :: (AN Y ++ 32 :: s))) else if 1 < P then 112 :: (AN P ++ 32 :: s) else 115 :: 32 :: s
theorem Nr : ∀ (s : List Nat) (st : PS) (n : Nat) (h : List Ce),Gn st n s = some h -> ∀ c,c ∈ s -> c ≠ 32
  | [],_,_,_,_,c,hc=>by cases hc
  | a :: r,st,n,h,hp,c,hc=>by
    by_cases hd : GP a
    · have e : Gn st n (a :: r) = if 2097152 < 10 * n + (a - 48) then none else Gn st (10 * n + (a - 48)) r:=by
        show (if GP a then _ else _) = _
        rw [AeJ hd]
      rw [e] at hp
      split at hp
      · cases hp
      · rcases Aff.1 hc with rfl | h1
        · have:=hd.1
          omega
        · exact Nr r _ _ _ hp c h1
    · rw [SW hd] at hp
      cases hl : lix a with
      | none=>rw [hl] at hp; cases hp
      | some k =>
        rw [hl] at hp
        simp only at hp
        split at hp
        · cases hp
        · split at hp
          · cases hp
          · rcases Aff.1 hc with rfl | h1
            · intro e
              subst e
              rw [Pn (by decide) (by decide) (by omega)] at hl
              cases hl
            · exact Nr r _ _ _ hp c h1
theorem Aam {s : List Nat} {h : List Ce} (hc : IsCode s h) : ∀ c,c ∈ s -> c ≠ 32:=Nr _ _ _ _ (GZ hc)
theorem VL {P X Y : Int} {s : List Nat} (h : ∀ c,c ∈ s -> c ≠ 32) : spl 32 (CQ P X Y s) = if X ≠ 0 \/ Y ≠ 0 then [118 :: AN P,AN X,AN Y,s] else if 1 < P then [112 :: AN P,s] else [[115],s]:=by
  have hk : ∀ k : Nat,k ≠ 32 -> ∀ y,y ∈ k :: AN P -> y ≠ 32:=fun k hk y hy=>by
    rcases Aff.1 hy with rfl | h1
    · exact hk
    · exact Km P y h1
  unfold CQ
  split
  · rw [show (118 :: (AN P ++ 32 :: (AN X ++ 32 :: (AN Y ++ 32 :: s)))) = (118 :: AN P) ++ 32 :: (AN X ++ 32 :: (AN Y ++ 32 :: s)) from rfl,
      Ib 32 _ _ (hk 118 (by decide)),Ib 32 _ _ (Km X),Ib 32 _ _ (Km Y),JT 32 _ h]
  · split
    · rw [show (112 :: (AN P ++ 32 :: s)) = (112 :: AN P) ++ 32 :: s from rfl,Ib 32 _ _ (hk 112 (by decide)),JT 32 _ h]
    · rw [show (115 :: 32 :: s) = [115] ++ 32 :: s from rfl,Ib 32 _ _ (by decide),JT 32 _ h]
def atV (s : List Nat) : Int:=match (atG s).1 with
  | .i _ x=>x
  | _=>0
theorem Kx (x : Int) (h : -1048576 <= x /\ x <= 1048576) : atV (AN x) = x:=by
  unfold atV
  rw [WC x h]
theorem Il (x : Int) (h : -1048576 <= x /\ x <= 1048576) : (Gz (AN x)).1 = x:=by
  obtain ⟨h1,h2⟩:=Mc x h
  obtain ⟨k1,_⟩:=Mb x (by omega) (by omega)
  unfold Gz
  rw [AeJ h2]
  show Wb (AN x) = x
  unfold Wb
  unfold Th at k1
  split
  · rename_i e
    rw [AeJ e] at k1
    omega
  · rename_i e
    rw [AeF e] at k1
    omega
def KF (ws : List (List Nat)) : Int × Int × Int :=
  (if ws.length = 2 \/ ws.length = 4 then (if ws.getD 0 [] ≠ [115] /\ ws.getD 0 [] ≠ [] then atV ((ws.getD 0 []).drop 1) else 1) else 0,
   if ws.length = 4 then atV (ws.getD 1 []) else 0,if ws.length = 4 then atV (ws.getD 2 []) else 0)
def Ms (ws : List (List Nat)) : Int × Int × Int :=
  (if ws.getD 0 [] ≠ [115] then (Gz ((ws.getD 0 []).drop 1)).1 else 1,
   if ws.length = 4 then (Gz (ws.getD 1 [])).1 else 0,if ws.length = 4 then (Gz (ws.getD 2 [])).1 else 0)
def GF (ws : List (List Nat)) : List Nat:=ws.getD (ws.length - 1) []
theorem Wx {P X Y : Int} {s : List Nat} (hm : okM P X Y) (h : ∀ c,c ∈ s -> c ≠ 32) : KF (spl 32 (CQ P X Y s)) = (P,X,Y) /\ Ms (spl 32 (CQ P X Y s)) = (P,X,Y) /\ GF (spl 32 (CQ P X Y s)) = s /\ (spl 32 (CQ P X Y s)).getD 0 [] ≠ []:=by
  obtain ⟨h1,h2,h3,h4,h5,h6⟩:=hm
  rw [VL h]
  have eP:=Kx P (by omega)
  have eX:=Kx X (by omega)
  have eY:=Kx Y (by omega)
  have rP:=Il P (by omega)
  have rX:=Il X (by omega)
  have rY:=Il Y (by omega)
  split
  · refine ⟨?_,?_,rfl,by simp⟩
    · simp [KF,eP,eX,eY]
    · simp [Ms,rP,rX,rY]
  · rename_i hXY
    have hX : X = 0:=by omega
    have hY : Y = 0:=by omega
    subst hX
    subst hY
    split
    · refine ⟨?_,?_,rfl,by simp⟩
      · simp [KF,eP]
      · simp [Ms,rP]
    · have hP : P = 1:=by omega
      subst hP
      refine ⟨?_,?_,rfl,by simp⟩
      · simp [KF]
      · simp [Ms]
abbrev obV (P X Y : Int) (s : List Nat) : V:=.m (.ag [.i .i64 P,.i .i64 X,.i .i64 Y,.s s])
def fmV (P X Y : Int) (w : I) (h : List Ce) (e : Int) : V:=if okM P X Y then .tu [.m w,.m (.b (decide (e = 0 /\ h ≠ [])))] else .tu [.m (.nl 4),.m (.b false)]
theorem Wr {s : List Nat} {w : I} {h : List Ce} {e : Int} (d : DecO s w h e) (P X Y : Int) (H : Hp) : Gives G 48 [obV P X Y s] H (fmV P X Y w h e) H:=by
 have rw:=d.sl.rules
 simp only [Jm] at rw
 have gd:=d.gs
 have hl:=d.len
 refine Ah rfl rfl rfl rfl rfl ?_
 by_cases hm : okM P X Y
 ·obtain ⟨h1,h2,h3,h4,h5,h6⟩:=hm
  have eV : fmV P X Y w h e = .tu [.m w,.m (.b (decide (e = 0 /\ h ≠ [])))]:=AeJ ⟨h1,h2,h3,h4,h5,h6⟩
  rw [eV]
  have k1 : ¬ P < 1:=by omega
  have k2 : ¬ 64 < P:=by omega
  have k3 : ¬ 1048576 < max X Y:=by omega
  have k4 : ¬ min X Y < -1048576:=by omega
  have e1 : decide (e = 0 /\ h ≠ []) = (decide (e = 0) && decide (0 < (h.length : Int))):=by
   rw [<- Bool.decide_and]
   congr 1
   rw [<- AfA (l:=h)]
   have : (0 < (h.length : Int)) = (0 < h.length):=by simp
   rw [this]
  rw [e1]
  by_cases he : e = 0
  ·simp (maxSteps:=2000000) (disch:=omega) [gd_and,k1,k2,k3,k4,cl (gd _),rw,he]
  ·simp (maxSteps:=2000000) (disch:=omega) [gd_and,k1,k2,k3,k4,cl (gd _),he]
 ·have eV : fmV P X Y w h e = .tu [.m (.nl 4),.m (.b false)]:=AeF hm
  rw [eV]
  by_cases k1 : P < 1
  ·simp (maxSteps:=2000000) (disch:=omega) [gd_and,k1]
  by_cases k2 : 64 < P
  ·simp (maxSteps:=2000000) (disch:=omega) [gd_and,k1,k2]
  by_cases k3 : 1048576 < max X Y
  ·simp (maxSteps:=2000000) (disch:=omega) [gd_and,k1,k2,k3]
  by_cases k4 : min X Y < -1048576
  ·simp (maxSteps:=2000000) (disch:=omega) [gd_and,k1,k2,k3,k4]
  ·exact absurd (show okM P X Y from ⟨by omega,by omega,by omega,by omega,by omega,by omega⟩) hm
theorem Ws {s : List Nat} {w : I} {h : List Ce} {e : Int} (d : DecO s w h e) (P X Y : Int) (H : Hp) : Gives G 50 [obV P X Y s] H (.m (.b (decide (fmO P X Y h e)))) H:=by
 have rw:=d.sl.rules
 simp only [Jm] at rw
 have gd:=d.gr
 have hl:=d.len
 refine Ah rfl rfl rfl rfl rfl ?_
 by_cases hm : okM P X Y
 ·obtain ⟨h1,h2,h3,h4,h5,h6⟩:=hm
  have e1 : decide (fmO P X Y h e) = (decide (e = 0) && decide (0 < (h.length : Int))):=by
   rw [<- Bool.decide_and]
   congr 1
   have k : (0 < (h.length : Int)) = (h ≠ []):=by
    rw [<- AfA (l:=h)]
    simp
   rw [k]
   unfold fmO
   exact propext ⟨fun q=>q.2,fun q=>⟨⟨h1,h2,h3,h4,h5,h6⟩,q⟩⟩
  rw [e1]
  have k1 : ¬ P < 1:=by omega
  have k2 : ¬ 64 < P:=by omega
  have k3 : ¬ X < -1048576:=by omega
  have k4 : ¬ 1048576 < X:=by omega
  have k5 : ¬ Y < -1048576:=by omega
  have k6 : ¬ 1048576 < Y:=by omega
  by_cases he : e = 0
  ·simp (maxSteps:=2000000) (disch:=omega) [gd_and,k1,k2,k3,k4,k5,k6,cl (gd _),rw,he]
  ·simp (maxSteps:=2000000) (disch:=omega) [gd_and,k1,k2,k3,k4,k5,k6,cl (gd _),he]
 ·have eV : decide (fmO P X Y h e) = false:=Afz fun q=>hm q.1
  rw [eV]
  by_cases k1 : P < 1
  ·simp (maxSteps:=2000000) (disch:=omega) [gd_and,k1]
  by_cases k2 : 64 < P
  ·simp (maxSteps:=2000000) (disch:=omega) [gd_and,k1,k2]
  by_cases k3 : X < -1048576
  ·simp (maxSteps:=2000000) (disch:=omega) [gd_and,k1,k2,k3]
  by_cases k4 : 1048576 < X
  ·simp (maxSteps:=2000000) (disch:=omega) [gd_and,k1,k2,k3,k4]
  by_cases k5 : Y < -1048576
  ·simp (maxSteps:=2000000) (disch:=omega) [gd_and,k1,k2,k3,k4,k5]
  by_cases k6 : 1048576 < Y
  ·simp (maxSteps:=2000000) (disch:=omega) [gd_and,k1,k2,k3,k4,k5,k6]
  ·exact absurd (show okM P X Y from ⟨by omega,by omega,by omega,by omega,by omega,by omega⟩) hm
def Ud (P X Y : Int) (s : List Nat) (h : List Ce) (e : Int) : V:=if fmO P X Y h e then .tu [.m (.s (CQ P X Y s)),.m (.i .i64 0)] else .tu [.m (.s []),.m (.i .i64 2)]
theorem Aek {P X Y : Int} {w : I} {h : List Ce} {e : Int} (hn : ¬ fmO P X Y h e) : ∃ z,fmV P X Y w h e = .tu [.m z,.m (.b false)]:=by
 unfold fmV
 split
 ·rename_i hm
  exact ⟨w,by rw [Afz fun q=>hn ⟨hm,q⟩]⟩
 ·exact ⟨_,rfl⟩
theorem Aak {P X Y : Int} {w : I} {h : List Ce} {e : Int} (hf : fmO P X Y h e) : fmV P X Y w h e = .tu [.m w,.m (.b true)]:=by
 unfold fmV
 rw [AeJ hf.1,Afc hf.2]
theorem SF {s : List Nat} {w : I} {h : List Ce} {e : Int} (d : DecO s w h e) (hs : s.length <= 65536) (P X Y : Int) (H : Hp) : Gives G 16 [obV P X Y s] H (Ud P X Y s h e) H:=by
 have g:=fun H=>Wr d P X Y H
 refine Ah rfl rfl rfl rfl rfl ?_
 by_cases hf : fmO P X Y h e
 ·have eP : Ud P X Y s h e = .tu [.m (.s (CQ P X Y s)),.m (.i .i64 0)]:=AeJ hf
  rw [Aak hf] at g
  rw [eP]
  obtain ⟨h1,h2,h3,h4,h5,h6⟩:=hf.1
  have lP:=BZ P (by omega) (by omega)
  have lX:=BZ X (by omega) (by omega)
  have lY:=BZ Y (by omega) (by omega)
  have iP:=fun H=>Pr P (by omega) (by omega) H
  have iX:=fun H=>Pr X (by omega) (by omega) H
  have iY:=fun H=>Pr Y (by omega) (by omega) H
  by_cases hX : X = 0
  ·subst hX
   by_cases hY : Y = 0
   ·subst hY
    by_cases hP : 1 < P
    ·simp (maxSteps:=2000000) (disch:=omega) [gd_in,gd_and,cl (g _),cl (iP _),hP,CQ,AeS]
    ·simp (maxSteps:=2000000) (disch:=omega) [gd_in,gd_and,cl (g _),hP,CQ]
   ·simp (maxSteps:=2000000) (disch:=omega) [gd_in,gd_and,cl (g _),cl (iP _),cl (iX _),cl (iY _),hY,CQ,AeS]
  ·simp (maxSteps:=2000000) (disch:=omega) [gd_in,gd_and,cl (g _),cl (iP _),cl (iX _),cl (iY _),hX,CQ,AeS]
 ·have eP : Ud P X Y s h e = .tu [.m (.s []),.m (.i .i64 2)]:=AeF hf
  obtain ⟨z,hz⟩:=Aek (w:=w) hf
  rw [hz] at g
  simp (maxSteps:=2000000) (disch:=omega) [cl (g _),eP]
theorem Zs {s : List Nat} {w : I} {h : List Ce} {e : Int} (d : DecO s w h e) (hs : s.length <= 65536) (P X Y : Int) (H : Hp) : Gives G 17 [obV P X Y s] H (Ud P X Y s h e) H:=by
 have g:=fun H=>Ws d P X Y H
 refine Ah rfl rfl rfl rfl rfl ?_
 by_cases hf : fmO P X Y h e
 ·have eP : Ud P X Y s h e = .tu [.m (.s (CQ P X Y s)),.m (.i .i64 0)]:=AeJ hf
  rw [Afc hf] at g
  rw [eP]
  obtain ⟨h1,h2,h3,h4,h5,h6⟩:=hf.1
  have lP:=BZ P (by omega) (by omega)
  have lX:=BZ X (by omega) (by omega)
  have lY:=BZ Y (by omega) (by omega)
  have iP:=fun H=>decm P (by omega) (by omega) H
  have iX:=fun H=>decm X (by omega) (by omega) H
  have iY:=fun H=>decm Y (by omega) (by omega) H
  by_cases hX : X = 0
  ·subst hX
   by_cases hY : Y = 0
   ·subst hY
    by_cases hP : 1 < P
    ·simp (maxSteps:=2000000) (disch:=omega) [gd_in,gd_and,cl (g _),cl (iP _),hP,CQ,AeS]
    ·simp (maxSteps:=2000000) (disch:=omega) [gd_in,gd_and,cl (g _),hP,CQ]
   ·simp (maxSteps:=2000000) (disch:=omega) [gd_in,gd_and,cl (g _),cl (iP _),cl (iX _),cl (iY _),hY,CQ,AeS]
  ·simp (maxSteps:=2000000) (disch:=omega) [gd_in,gd_and,cl (g _),cl (iP _),cl (iX _),cl (iY _),hX,CQ,AeS]
 ·have eP : Ud P X Y s h e = .tu [.m (.s []),.m (.i .i64 2)]:=AeF hf
  rw [Afz hf] at g
  simp (maxSteps:=2000000) (disch:=omega) [cl (g _),eP]
theorem Kv {ws : List (List Nat)} {i : Nat} {w : List Nat} (h : ws[i]? = some w) : nth (Mr ws) i = some [.s w]:=by
 rw [AA]
 simp [Mr,h]
theorem PG (s : List Nat) (hl : s.length <= 65536) (H : Hp) : Gives G 54 [.m (.s s)] H (.tu [.m (.i .i64 (atV s)),.m (atG s).2]) H:=by
 have g:=Aeu s (by omega) H
 have e : (atG s).1 = .i .i64 (atV s):=by
  unfold atV
  unfold atG
  split <;> rfl
 rw [e] at g
 exact g
def VW (o : Int × Int × Int) (c : List Nat) (h : List Ce) (e : Int) (s : List Nat) : V:=if fmO o.1 o.2.1 o.2.2 h e /\ CQ o.1 o.2.1 o.2.2 c = s then .tu [.m (.ag [.i .i64 o.1,.i .i64 o.2.1,.i .i64 o.2.2,.s c]),.m (.i .i64 0)] else .tu [.m (.ag [.i .i64 0,.i .i64 0,.i .i64 0,.s []]),.m (.i .i64 15)]
theorem En {ws : List (List Nat)} {i : Nat} (h : i < ws.length) : ws[i]? = some (ws.getD i []):=by
 rw [List.getD_eq_getElem?_getD,AeK h]
 rfl
theorem Bv (P X Y : Int) (c : List Nat) (h : List Ce) (e : Int) (s : List Nat) :
  (Ud P X Y c h e = .tu [.m (.s s),.m (.i .i64 0)] /\ VW (P,X,Y) c h e s = .tu [.m (.ag [.i .i64 P,.i .i64 X,.i .i64 Y,.s c]),.m (.i .i64 0)]) \/
  (∃ n,¬ n = s /\ Ud P X Y c h e = .tu [.m (.s n),.m (.i .i64 0)] /\ VW (P,X,Y) c h e s = .tu [.m (.ag [.i .i64 0,.i .i64 0,.i .i64 0,.s []]),.m (.i .i64 15)]) \/
  (Ud P X Y c h e = .tu [.m (.s []),.m (.i .i64 2)] /\ VW (P,X,Y) c h e s = .tu [.m (.ag [.i .i64 0,.i .i64 0,.i .i64 0,.s []]),.m (.i .i64 15)]):=by
 unfold Ud VW
 by_cases hF : fmO P X Y h e
 ·by_cases hN : CQ P X Y c = s
  ·exact .inl ⟨by rw [AeJ hF,hN],AeJ ⟨hF,hN⟩⟩
  ·exact .inr (.inl ⟨_,hN,AeJ hF,AeF fun q=>hN q.2⟩)
 ·exact .inr (.inr ⟨AeF hF,AeF fun q=>hF q.1⟩)
theorem len_2 {ws : List (List Nat)} (h : ws.length = 2) : ∃ a b,ws = [a,b]:=by
 match ws,h with
 | [a,b],_=>exact ⟨a,b,rfl⟩
theorem AdY {ws : List (List Nat)} (h : ws.length = 4) : ∃ a b c d,ws = [a,b,c,d]:=by
 match ws,h with
 | [a,b,c,d],_=>exact ⟨a,b,c,d,rfl⟩
theorem Aeq (a b : List Nat) : Mr [a,b] = [[.s a],[.s b]]:=rfl
theorem Xt (a b c d : List Nat) : Mr [a,b,c,d] = [[.s a],[.s b],[.s c],[.s d]]:=rfl
set_option maxHeartbeats 2000000 in
theorem ZH (s : List Nat) (hl : s.length <= 65536) {w : I} {h : List Ce} {e : Int} (d : DecO (GF (spl 32 s)) w h e) (H : Hp) : Gives G 21 [.m (.s s)] H (VW (KF (spl 32 s)) (GF (spl 32 s)) h e s) H:=by
 have gsp:=fun H=>Zt s (by omega) 32 (by decide) H
 obtain ⟨w0,t,hws⟩:=Jc 32 s
 have hmem:=JS 32 s.length s (AeI _)
 have hle : (spl 32 s).length <= 65537:=by
  rw [Nk]
  have:=List.count_le_length (a:=32) (l:=s)
  omega
 generalize spl 32 s = ws at *
 have hlen : 1 <= ws.length:=by rw [hws]; simp
 have hmm : ∀ w,w ∈ ws -> w.length <= 65536:=fun w hw=>by
  have:=(hmem _ hw).1
  omega
 have hcl : (GF ws).length <= 65536:=hmm _ (AeO (En (by omega)))
 have gt:=fun P X Y H=>SF d hcl P X Y H
 clear hws hmem
 by_cases n2 : ws.length = 2
 ·obtain ⟨a,b,rfl⟩:=len_2 n2
  rw [Aeq] at gsp
  have ha:=hmm a (by simp)
  have hd : a.tail.length <= 65536:=by rw [List.length_tail]; omega
  have g0:=fun H=>PG a.tail hd H
  have htk : List.take (a.length - 1) a.tail = a.tail:=AeY (by simp)
  have eW : GF [a,b] = b:=rfl
  rw [eW] at gt ⊢
  have eC : KF [a,b] = (if a ≠ [115] /\ a ≠ [] then atV a.tail else 1,0,0):=by rw [<- List.drop_one]; rfl
  rw [eC]
  clear eC eW d hmm hlen hle n2 hcl
  refine Ah rfl rfl rfl rfl rfl ?_
  by_cases c : a ≠ [115] /\ a ≠ []
  ·rw [AeJ c]
   obtain ⟨c1,c2⟩:=c
   have c3 : (1 : Int) <= a.length:=by have:=AfA.2 c2; omega
   have c4 : 1 <= a.length:=by omega
   have gt:=gt (atV a.tail) 0 0
   rcases Bv (atV a.tail) 0 0 b h e s with ⟨e1,e2⟩ | ⟨n,hne,e1,e2⟩ | ⟨e1,e2⟩ <;> rw [e2] <;> rw [e1] at gt
   ·simp (maxSteps:=2000000) (disch:=omega) [gd_and,wr_i64,cl (gsp _),c1,c2,htk,cl (g0 _),cl (gt _)]
   ·simp (maxSteps:=2000000) (disch:=omega) [gd_and,wr_i64,cl (gsp _),c1,c2,htk,cl (g0 _),cl (gt _),hne]
   ·simp (maxSteps:=2000000) (disch:=omega) [gd_and,wr_i64,cl (gsp _),c1,c2,htk,cl (g0 _),cl (gt _)]
  ·rw [AeF c]
   have gt:=gt 1 0 0
   by_cases c1 : a = [115]
   ·subst c1
    rcases Bv 1 0 0 b h e s with ⟨e1,e2⟩ | ⟨n,hne,e1,e2⟩ | ⟨e1,e2⟩ <;> rw [e2] <;> rw [e1] at gt
    ·simp (maxSteps:=2000000) (disch:=omega) [gd_and,wr_i64,cl (gsp _),cl (gt _)]
    ·simp (maxSteps:=2000000) (disch:=omega) [gd_and,wr_i64,cl (gsp _),cl (gt _),hne]
    ·simp (maxSteps:=2000000) (disch:=omega) [gd_and,wr_i64,cl (gsp _),cl (gt _)]
   ·have c2 : a = []:=by
     by_cases q : a = []
     ·exact q
     ·exact absurd ⟨c1,q⟩ c
    subst c2
    rcases Bv 1 0 0 b h e s with ⟨e1,e2⟩ | ⟨n,hne,e1,e2⟩ | ⟨e1,e2⟩ <;> rw [e2] <;> rw [e1] at gt
    ·simp (maxSteps:=2000000) (disch:=omega) [gd_and,wr_i64,cl (gsp _),cl (gt _)]
    ·simp (maxSteps:=2000000) (disch:=omega) [gd_and,wr_i64,cl (gsp _),cl (gt _),hne]
    ·simp (maxSteps:=2000000) (disch:=omega) [gd_and,wr_i64,cl (gsp _),cl (gt _)]
 ·by_cases n4 : ws.length = 4
  ·obtain ⟨a,u,v,b,rfl⟩:=AdY n4
   rw [Xt] at gsp
   have ha:=hmm a (by simp)
   have hd : a.tail.length <= 65536:=by rw [List.length_tail]; omega
   have g0:=fun H=>PG a.tail hd H
   have g1:=fun H=>PG u (hmm u (by simp)) H
   have g2:=fun H=>PG v (hmm v (by simp)) H
   have htk : List.take (a.length - 1) a.tail = a.tail:=AeY (by simp)
   have eW : GF [a,u,v,b] = b:=rfl
   rw [eW] at gt ⊢
   have eC : KF [a,u,v,b] = (if a ≠ [115] /\ a ≠ [] then atV a.tail else 1,atV u,atV v):=by rw [<- List.drop_one]; rfl
   rw [eC]
   clear eC eW d hmm hlen hle n2 n4 hcl
   refine Ah rfl rfl rfl rfl rfl ?_
   by_cases c : a ≠ [115] /\ a ≠ []
   ·rw [AeJ c]
    obtain ⟨c1,c2⟩:=c
    have c3 : (1 : Int) <= a.length:=by have:=AfA.2 c2; omega
    have c4 : 1 <= a.length:=by omega
    have gt:=gt (atV a.tail) (atV u) (atV v)
    rcases Bv (atV a.tail) (atV u) (atV v) b h e s with ⟨e1,e2⟩ | ⟨n,hne,e1,e2⟩ | ⟨e1,e2⟩ <;> rw [e2] <;> rw [e1] at gt
    ·simp (maxSteps:=2000000) (disch:=omega) [gd_and,wr_i64,cl (gsp _),c1,c2,htk,cl (g0 _),cl (g1 _),cl (g2 _),cl (gt _)]
    ·simp (maxSteps:=2000000) (disch:=omega) [gd_and,wr_i64,cl (gsp _),c1,c2,htk,cl (g0 _),cl (g1 _),cl (g2 _),cl (gt _),hne]
    ·simp (maxSteps:=2000000) (disch:=omega) [gd_and,wr_i64,cl (gsp _),c1,c2,htk,cl (g0 _),cl (g1 _),cl (g2 _),cl (gt _)]
   ·rw [AeF c]
    have gt:=gt 1 (atV u) (atV v)
    by_cases c1 : a = [115]
    ·subst c1
     rcases Bv 1 (atV u) (atV v) b h e s with ⟨e1,e2⟩ | ⟨n,hne,e1,e2⟩ | ⟨e1,e2⟩ <;> rw [e2] <;> rw [e1] at gt
     ·simp (maxSteps:=2000000) (disch:=omega) [gd_and,wr_i64,cl (gsp _),cl (g1 _),cl (g2 _),cl (gt _)]
     ·simp (maxSteps:=2000000) (disch:=omega) [gd_and,wr_i64,cl (gsp _),cl (g1 _),cl (g2 _),cl (gt _),hne]
     ·simp (maxSteps:=2000000) (disch:=omega) [gd_and,wr_i64,cl (gsp _),cl (g1 _),cl (g2 _),cl (gt _)]
    ·have c2 : a = []:=by
      by_cases q : a = []
      ·exact q
      ·exact absurd ⟨c1,q⟩ c
     subst c2
     rcases Bv 1 (atV u) (atV v) b h e s with ⟨e1,e2⟩ | ⟨n,hne,e1,e2⟩ | ⟨e1,e2⟩ <;> rw [e2] <;> rw [e1] at gt
     ·simp (maxSteps:=2000000) (disch:=omega) [gd_and,wr_i64,cl (gsp _),cl (g1 _),cl (g2 _),cl (gt _)]
     ·simp (maxSteps:=2000000) (disch:=omega) [gd_and,wr_i64,cl (gsp _),cl (g1 _),cl (g2 _),cl (gt _),hne]
     ·simp (maxSteps:=2000000) (disch:=omega) [gd_and,wr_i64,cl (gsp _),cl (g1 _),cl (g2 _),cl (gt _)]
  ·have hn:=Kv (En (ws:=ws) (i:=ws.length - 1) (by omega))
   have hn : nth (Mr ws) (ws.length - 1) = some [.s (GF ws)]:=hn
   have h0:=Kv (En (ws:=ws) (i:=0) (by omega))
   have w1 : wr .i64 ((ws.length : Int) - 1) = ((ws.length - 1 : Nat) : Int):=by rw [wr_i64 (by omega) (by omega)]; omega
   have q1 : ws.length - 1 < ws.length:=by omega
   have q2 : ((ws.length - 1 : Nat) : Int) < ws.length:=by omega
   have q3 : (0 : Int) < ws.length:=by omega
   have m2 : ¬ (ws.length : Int) = 2:=by omega
   have m4 : ¬ (ws.length : Int) = 4:=by omega
   have eC : KF ws = (0,0,0):=by
    unfold KF
    rw [AeF (by omega),AeF n4,AeF n4]
   rw [eC]
   have gt:=gt 0 0 0
   clear eC d hmm hle
   refine Ah rfl rfl rfl rfl rfl ?_
   rcases Bv 0 0 0 (GF ws) h e s with ⟨e1,e2⟩ | ⟨n,hne,e1,e2⟩ | ⟨e1,e2⟩ <;> rw [e2] <;> rw [e1] at gt
   ·simp (maxSteps:=2000000) (disch:=omega) [gd_and,cl (gsp _),hn,h0,w1,m2,m4,cl (gt _)]
   ·simp (maxSteps:=2000000) (disch:=omega) [gd_and,cl (gsp _),hn,h0,w1,m2,m4,cl (gt _),hne]
   ·simp (maxSteps:=2000000) (disch:=omega) [gd_and,cl (gsp _),hn,h0,w1,m2,m4,cl (gt _)]
theorem ZO (s : List Nat) (hl : s.length <= 65536) (hb : ∀ c,c ∈ s -> c < 256) (H : Hp) : Gives G 56 [.m (.s s)] H (.m (.i .i64 (Gz s).1)) H:=by
 have g:=fun H=>Wa s (by omega) hb H
 refine Ah rfl rfl rfl rfl rfl ?_
 simp (maxSteps:=2000000) (disch:=omega) [cl (g _)]
abbrev badV : V:=.tu [.m (.ag [.i .i64 0,.i .i64 0,.i .i64 0,.s []]),.m (.i .i64 15)]
set_option maxHeartbeats 2000000 in
theorem ZI (s : List Nat) (hl : s.length <= 65536) (hb : ∀ c,c ∈ s -> c < 256) {w : I} {h : List Ce} {e : Int} (d : DecO (GF (spl 32 s)) w h e) (H : Hp) : Gives G 22 [.m (.s s)] H (if (spl 32 s).getD 0 [] = [] then badV else VW (Ms (spl 32 s)) (GF (spl 32 s)) h e s) H:=by
 have gsp:=fun H=>Zn s (by omega) H
 obtain ⟨w0,t,hws⟩:=Jc 32 s
 have hmem:=JS 32 s.length s (AeI _)
 have hle : (spl 32 s).length <= 65537:=by
  rw [Nk]
  have:=List.count_le_length (a:=32) (l:=s)
  omega
 generalize spl 32 s = ws at *
 have hlen : 1 <= ws.length:=by rw [hws]; simp
 have hmm : ∀ w,w ∈ ws -> w.length <= 65536 /\ ∀ c,c ∈ w -> c < 256:=fun w hw=>by
  obtain ⟨k1,k2⟩:=hmem _ hw
  exact ⟨by omega,fun c hc=>hb c (k2 c hc)⟩
 have hcl : (GF ws).length <= 65536:=(hmm _ (AeO (En (by omega)))).1
 have gt:=fun P X Y H=>Zs d hcl P X Y H
 have h0:=Kv (En (ws:=ws) (i:=0) (by omega))
 obtain ⟨ha,hab⟩:=hmm _ (AeO (En (ws:=ws) (i:=0) (by omega)))
 clear hws hmem
 have hd : (ws.getD 0 []).tail.length <= 65536:=by rw [List.length_tail]; omega
 have g0:=fun H=>ZO (ws.getD 0 []).tail hd (fun c hc=>hab c (List.mem_of_mem_tail hc)) H
 have htk : List.take ((ws.getD 0 []).length - 1) (ws.getD 0 []).tail = (ws.getD 0 []).tail:=AeY (by simp)
 by_cases n4 : ws.length = 4
 ·obtain ⟨a,u,v,b,rfl⟩:=AdY n4
  rw [Xt] at gsp
  have g1:=fun H=>ZO u (hmm u (by simp)).1 (hmm u (by simp)).2 H
  have g2:=fun H=>ZO v (hmm v (by simp)).1 (hmm v (by simp)).2 H
  have eA : [a,u,v,b].getD 0 [] = a:=rfl
  rw [eA] at g0 htk ha ⊢
  have eW : GF [a,u,v,b] = b:=rfl
  rw [eW] at gt ⊢
  have eC : Ms [a,u,v,b] = (if a ≠ [115] then (Gz a.tail).1 else 1,(Gz u).1,(Gz v).1):=by rw [<- List.drop_one]; rfl
  rw [eC]
  clear eC eW eA d hmm hlen hle n4 hcl h0 hd
  refine Ah rfl rfl rfl rfl rfl ?_
  by_cases c2 : a = []
  ·subst c2
   rw [AeJ rfl]
   simp (maxSteps:=2000000) (disch:=omega) [gd_and,cl (gsp _)]
  ·rw [AeF c2]
   have c3 : (1 : Int) <= a.length:=by have:=AfA.2 c2; omega
   have c4 : 1 <= a.length:=by omega
   by_cases c1 : a = [115]
   ·subst c1
    rw [AeF (by simp)]
    have gt:=gt 1 (Gz u).1 (Gz v).1
    rcases Bv 1 (Gz u).1 (Gz v).1 b h e s with ⟨e1,e2⟩ | ⟨n,hne,e1,e2⟩ | ⟨e1,e2⟩ <;> rw [e2] <;> rw [e1] at gt
    ·simp (maxSteps:=2000000) (disch:=omega) [gd_and,wr_i64,cl (gsp _),cl (g1 _),cl (g2 _),cl (gt _)]
    ·simp (maxSteps:=2000000) (disch:=omega) [gd_and,wr_i64,cl (gsp _),cl (g1 _),cl (g2 _),cl (gt _),hne]
    ·simp (maxSteps:=2000000) (disch:=omega) [gd_and,wr_i64,cl (gsp _),cl (g1 _),cl (g2 _),cl (gt _)]
   ·rw [AeJ c1]
    have gt:=gt (Gz a.tail).1 (Gz u).1 (Gz v).1
    rcases Bv (Gz a.tail).1 (Gz u).1 (Gz v).1 b h e s with ⟨e1,e2⟩ | ⟨n,hne,e1,e2⟩ | ⟨e1,e2⟩ <;> rw [e2] <;> rw [e1] at gt
    ·simp (maxSteps:=2000000) (disch:=omega) [gd_and,wr_i64,cl (gsp _),c1,c2,htk,cl (g0 _),cl (g1 _),cl (g2 _),cl (gt _)]
    ·simp (maxSteps:=2000000) (disch:=omega) [gd_and,wr_i64,cl (gsp _),c1,c2,htk,cl (g0 _),cl (g1 _),cl (g2 _),cl (gt _),hne]
    ·simp (maxSteps:=2000000) (disch:=omega) [gd_and,wr_i64,cl (gsp _),c1,c2,htk,cl (g0 _),cl (g1 _),cl (g2 _),cl (gt _)]
 ·have hn:=Kv (En (ws:=ws) (i:=ws.length - 1) (by omega))
  have hn : nth (Mr ws) (ws.length - 1) = some [.s (GF ws)]:=hn
  have w1 : wr .i64 ((ws.length : Int) - 1) = ((ws.length - 1 : Nat) : Int):=by rw [wr_i64 (by omega) (by omega)]; omega
  have q1 : ws.length - 1 < ws.length:=by omega
  have q2 : ((ws.length - 1 : Nat) : Int) < ws.length:=by omega
  have q3 : (0 : Int) < ws.length:=by omega
  have m4 : ¬ (ws.length : Int) = 4:=by omega
  have eC : Ms ws = (if ws.getD 0 [] ≠ [115] then (Gz (ws.getD 0 []).tail).1 else 1,0,0):=by
   unfold Ms
   rw [AeF n4,AeF n4,List.drop_one]
  rw [eC]
  clear eC d hmm hle
  generalize ws.getD 0 [] = a at *
  refine Ah rfl rfl rfl rfl rfl ?_
  by_cases c2 : a = []
  ·subst c2
   rw [AeJ rfl]
   simp (maxSteps:=2000000) (disch:=omega) [gd_and,cl (gsp _),h0]
  ·rw [AeF c2]
   have c3 : (1 : Int) <= a.length:=by have:=AfA.2 c2; omega
   have c4 : 1 <= a.length:=by omega
   by_cases c1 : a = [115]
   ·subst c1
    rw [AeF (by simp)]
    have gt:=gt 1 0 0
    rcases Bv 1 0 0 (GF ws) h e s with ⟨e1,e2⟩ | ⟨n,hne,e1,e2⟩ | ⟨e1,e2⟩ <;> rw [e2] <;> rw [e1] at gt
    ·simp (maxSteps:=2000000) (disch:=omega) [gd_and,cl (gsp _),h0,hn,w1,m4,cl (gt _)]
    ·simp (maxSteps:=2000000) (disch:=omega) [gd_and,cl (gsp _),h0,hn,w1,m4,cl (gt _),hne]
    ·simp (maxSteps:=2000000) (disch:=omega) [gd_and,cl (gsp _),h0,hn,w1,m4,cl (gt _)]
   ·rw [AeJ c1]
    have gt:=gt (Gz a.tail).1 0 0
    rcases Bv (Gz a.tail).1 0 0 (GF ws) h e s with ⟨e1,e2⟩ | ⟨n,hne,e1,e2⟩ | ⟨e1,e2⟩ <;> rw [e2] <;> rw [e1] at gt
    ·simp (maxSteps:=2000000) (disch:=omega) [gd_and,cl (gsp _),h0,hn,w1,m4,c1,c2,htk,cl (g0 _),cl (gt _)]
    ·simp (maxSteps:=2000000) (disch:=omega) [gd_and,cl (gsp _),h0,hn,w1,m4,c1,c2,htk,cl (g0 _),cl (gt _),hne]
    ·simp (maxSteps:=2000000) (disch:=omega) [gd_and,cl (gsp _),h0,hn,w1,m4,c1,c2,htk,cl (g0 _),cl (gt _)]
end Go.Mx.Tryz
