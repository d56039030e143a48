/- Lists of numbers in rows. -/
import Derived.Test.YtpaddecplgomeaaGreatDoorStr
import Derived.Test.YtpaddecplgomeaaGreatDoorIto
import Derived.Test.YtpaddecplgomeaaGreatDoorAp
import Derived.Test.YtpaddecplgomeaaGreatDoorEa
import Derived.Test.YtpaddecplgomeaaGreatDoorItoa
set_option linter.unusedSimpArgs false
set_option linter.unusedVariables false
set_option linter.unusedSectionVars false
set_option maxRecDepth 100000
namespace Go.Mx.Tryz
theorem ct_s (s : List Nat) (c : Nat) (H : Hp) : Gives G 147 [.m (.s s),.m (.s [c])] H (.m (.i .i64 (s.count c : Nat))) H:=⟨1,rfl⟩
theorem Qz {c : Nat} {s : List Nat} (h : tlB c s = none) : s.count c = 0:=by
 rw [List.count_eq_zero]
 intro hm
 rw [<- JL c s h] at hm
 exact TD c s c hm rfl
theorem Qy {c : Nat} {s t : List Nat} (h : tlB c s = some t) : s.count c = t.count c + 1:=by
 have e:=ED c s t h
 have h0 : (hdB c s).count c = 0:=by
  rw [List.count_eq_zero]
  intro hm
  exact TD c s c hm rfl
 have e2:=congrArg (List.count c) e
 rw [List.count_append,List.count_cons_self,h0,AfC] at e2
 exact e2
theorem SG (c : Nat) : ∀ s : List Nat,(spl c s).length = s.count c + 1
 | []=>rfl
 | x :: r=>by
  have ih:=SG c r
  have e : spl c (x :: r) = if x = c then [] :: spl c r else match spl c r with | []=>[[x]] | h :: t=>(x :: h) :: t:=rfl
  rw [e,List.count_cons]
  by_cases hx : x = c
  ·rw [AeB hx,AeZ,ih]
   simp [hx]
  ·rw [Aex hx]
   obtain ⟨h,t,hs⟩:=SE c r
   rw [hs] at ih ⊢
   simp only [AeZ] at ih ⊢
   simp [hx]
   omega
theorem LF (l : List (List Nat)) (i : Nat) (w : List Nat) : (Cj l).set i [.m (.s w)] = Cj (l.set i w):=by
 unfold Cj
 rw [List.map_set]
theorem LG {l : List (List Nat)} {i : Nat} (h : i < l.length) : ∃ w,nth (Cj l) i = some [.m (.s w)]:=by
 refine ⟨l[i],?_⟩
 rw [AB]
 simp [Cj,h]
theorem SL (n : Nat) : List.replicate n [V.m (.s [])] = Cj (List.replicate n []):=by simp [Cj]
theorem SI (ws : List (List Nat)) (m : Nat) (w : List Nat) : (ws ++ List.replicate (m + 1) []).set ws.length w = (ws ++ [w]) ++ List.replicate m []:=by
 rw [AfS _ _ (AeA _),Nat.sub_self,List.replicate_succ,List.set_cons_zero,AeJ]
 rfl
set_option maxHeartbeats 1000000 in
theorem Wh (s : List Nat) (hl : s.length <= 1000000) (c : Nat) (hc : c < 256) (H : Hp) : Gives G 96 [.m (.s s),.m (.s [c]),.m (.i .i64 0),.m (.i .i64 (-1))] H (.m (.sl (QK (spl c s)))) H:=by
 refine Ah rfl rfl rfl rfl rfl ?_
 have g0:=fun H=>ct_s s c H
 have hcl : s.count c <= s.length:=List.count_le_length
 generalize hN : s.count c = N at *
 have hmin : min ((N : Int) + 1) ((s.length : Int) + 1) = ((N + 1 : Nat) : Int):=by omega
 have w1 : wr .i64 ((N : Int) + 1) = ((N + 1 : Nat) : Int):=by rw [wr_i64 (by omega) (by omega)]; rfl
 have w2 : wr .i64 ((s.length : Int) + 1) = (s.length : Int) + 1:=wr_i64 (by omega) (by omega)
 have w3 : wr .i64 (((N + 1 : Nat) : Int) - 1) = (N : Int):=by rw [wr_i64 (by omega) (by omega)]; omega
 have hmin2 : min (((N + 1 : Nat)) : Int) ((s.length : Int) + 1) = ((N + 1 : Nat) : Int):=by omega
 have hmk : ∀ B,Ai (fun _ _ _=>none) ⟨B,[]⟩ (.mks 9 1 [.m (.s [])] 16) [.m (.i .i64 ((N + 1 : Nat) : Int)),.m (.i .i64 ((N + 1 : Nat) : Int))] = some (.sl 0 (N + 1) 1 0 (N + 1) true,⟨B,[.cs 9 1 (Cj (List.replicate (N + 1) [])) 0 false]⟩):=fun B=>by
  rw [Oc,RA,AeE,WR (by omega) (by omega),AeE,SL]
  have e1 : Nat.ble ((N + 1) * 16) 281474976710656 = true:=by rw [Bd]; exact AeS (by omega)
  have e2 : Nat.ble (N + 1) 9223372036854775807 = true:=by rw [Bd]; exact AeS (by omega)
  have e3 : ((N + 1 : Nat) : Int).toNat = N + 1:=by omega
  rw [e1,e2,e3,Nat.beq_refl]
  rfl
 simp only [Int.natCast_add,Int.cast_ofNat_Int] at w1 w3 hmk hmin hmin2
 have w4 : wr .i64 (N : Int) = N:=wr_i64 (by omega) (by omega)
 simp [cl (g0 _),w1,w2,w4,hmin,hmk,-Oc]
 clear hmk g0 w1 w2 w3 hmin hmin2
 refine (?key : ∀ (i : Nat) (ws : List (List Nat)) (t : List Nat) (b : Nat) (B : List (Nat × List V)),ws.length = i -> i + t.count c = N -> b <= N + 1 -> t.length <= s.length -> spl c s = ws ++ spl c t -> Run G c96_B0 (S96_0 (.m (.s t)) (.m (.s [c])) (.m (.i .i64 0)) (.m (.i .i64 (N : Int))) (.sl 0 (N + 1) 1 0 (N + 1) true) (.m (.i .i64 (i : Int))) B [.cs 9 1 (Cj (ws ++ List.replicate (N + 1 - i) [])) b false]) _) 0 [] s 0 [] rfl (by omega) (by omega) (AeA _) rfl
 refine BP (fun i : Nat=>N - i) fun i ih ws t b B hws hcnt hb ht hq=>?_
 unfold c96_B0
 have gi:=fun H=>VI t (by omega) c hc H
 have wi : wr .i64 ((i : Int) + 1) = (i : Int) + 1:=wr_i64 (by omega) (by omega)
 have hrl : (Cj (ws ++ List.replicate (N + 1 - i) [])).length = N + 1:=by simp; omega
 cases hs : tlB c t with
 | none =>
  have h0:=Qz hs
  have hiN : i = N:=by omega
  have hlt : ¬ (i : Int) < N:=by omega
  obtain ⟨w0,hw0⟩:=LG (l:=ws ++ List.replicate (N + 1 - i) []) (i:=i) (by simp; omega)
  have hse : AG (Cj (ws ++ List.replicate (N + 1 - i) [])) i [.m (.s t)] = some (Cj (ws ++ [t])):=by
   rw [Am _ _ _ (by omega),LF]
   have : N + 1 - i = 0 + 1:=by omega
   rw [this,<- hws,SI]
   simp
  have hfin : Cj (ws ++ [t]) = Cj (spl c s):=by rw [hq,FE c t hs]
  have hlen : (spl c s).length = N + 1:=by rw [hq,FE c t hs]; simp; omega
  rw [hfin] at hse
  have hN1 : (i : Int) < (N : Int) + 1:=by omega
  have hN2 : (i : Int) + 1 <= (N : Int) + 1:=by omega
  have hN3 : i + 1 = N + 1:=by omega
  have hv:=viewS (H:=[.cs 9 1 (Cj (spl c s)) (N + 1) false]) (ro:=0) (base:=N + 1) rfl (by omega)
  rw [hlen] at hv
  have hv2 : ∀ b : Bool,viewR [.cs 9 1 (Cj (spl c s)) (N + 1) false] (.sl 0 (N + 1) 1 0 (N + 1) b) = some (.m (.sl (QK (spl c s)))):=fun b=>by
   cases b
   ·exact hv
   ·exact hv
  have hl2 : i < N + 1:=by omega
  simp (disch:=omega) [gd_and,hlt,hN3,hrl,hw0,hse,wi,hv2]
  try simp (disch:=omega) [gd_in,gd_and,wr_i64,hv2,hlen]
 | some u =>
  have h0:=Qy hs
  have hlt : (i : Int) < N:=by omega
  have e : ixB t c 0 = (hdB c t).length:=by rw [Xg,hs]; simp
  rw [e] at gi
  have hlen:=SA hs
  have hth:=VE hs
  have n0 : ¬ ((hdB c t).length : Int) < 0:=by omega
  have wh : wr .i64 ((hdB c t).length : Int) = (hdB c t).length:=wr_i64 (by omega) (by omega)
  have wh1 : wr .i64 (((hdB c t).length : Int) + 1) = (hdB c t).length + 1:=wr_i64 (by omega) (by omega)
  have n4 : u.take (t.length - ((hdB c t).length + 1)) = u:=AeR (by omega)
  obtain ⟨w0,hw0⟩:=LG (l:=ws ++ List.replicate (N + 1 - i) []) (i:=i) (by simp; omega)
  have hse : AG (Cj (ws ++ List.replicate (N + 1 - i) [])) i [.m (.s (hdB c t))] = some (Cj ((ws ++ [hdB c t]) ++ List.replicate (N + 1 - (i + 1)) [])):=by
   rw [Am _ _ _ (by omega),LF]
   have : N + 1 - i = (N + 1 - (i + 1)) + 1:=by omega
   rw [this,<- hws,SI]
  generalize hL : (ws ++ [hdB c t]) ++ List.replicate (N + 1 - (i + 1)) [] = L at hse
  have hN1 : (i : Int) < (N : Int) + 1:=by omega
  have hl2 : i < N + 1:=by omega
  have hrl2 : (Cj ((ws ++ [hdB c t]) ++ List.replicate (N + 1 - (i + 1)) [])).length = N + 1:=by simp; omega
  simp (disch:=omega) [gd_and,hlt,cl (gi _),n0,wh,wh1,hth.1,hth.2,n4,hrl,hw0,hse,wi]
  rw [<- hL]
  refine ih (i + 1) (by omega) (ws ++ [hdB c t]) u (N + 1) _ (by simp; omega) (by omega) (by omega) (by omega) ?_
  rw [hq,GR c t u hs,AeJ]
  rfl
theorem Zm (s : List Nat) (hl : s.length <= 1000000) (c : Nat) (hc : c < 256) (H : Hp) : Gives G 53 [.m (.s s),.m (.s [c])] H (.m (.sl (QK (spl c s)))) H:=by
 refine Ah rfl rfl rfl rfl rfl ?_
 simp [cl (Wh s hl c hc _)]
open Go.Lib Go.Proofs
def tpr : List Nat -> List Nat
 | 45 :: r=>r
 | s=>s
theorem FM (u : Nat) : ∀ c,c ∈ BQ u -> 48 <= c /\ c <= 57:=by
 refine BP (P:=fun u=>∀ c,c ∈ BQ u -> 48 <= c /\ c <= 57) (fun u : Nat=>u) (fun u ih c hc=>?_) u
 by_cases h : u < 10
 ·rw [Bc h] at hc
  simp at hc
  omega
 ·rw [BL h] at hc
  rcases AfH.1 hc with h1 | h1
  ·exact ih (u / 10) (by omega) c h1
  ·simp at h1
   omega
theorem Ma (u : Nat) : Fm 0 (BQ u) = u:=by
 refine BP (P:=fun u=>Fm 0 (BQ u) = u) (fun u : Nat=>u) (fun u ih=>?_) u
 by_cases h : u < 10
 ·rw [Bc h]
  show 10 * 0 + (48 + u - 48) = u
  omega
 ·rw [BL h,Pl,ih (u / 10) (by omega)]
  omega
theorem Ki (u : Nat) : BQ u ≠ []:=by
 by_cases h : u < 10
 ·rw [Bc h]; simp
 ·rw [BL h]; simp
theorem El : ∀ (k u : Nat),u < 10 ^ (k + 1) -> (BQ u).length <= k + 1
 | 0,u,h=>by rw [Bc (by simpa using h)]; simp
 | k + 1,u,h=>by
  by_cases h1 : u < 10
  ·rw [Bc h1]; simp
  ·rw [BL h1,AeD]
   have : u / 10 < 10 ^ (k + 1):=by
    rw [Nat.pow_succ] at h
    exact Nat.div_lt_of_lt_mul (by rw [Nat.mul_comm]; exact h)
   have:=El k (u / 10) this
   simp
   omega
theorem TL (u : Nat) : 1 <= u -> (BQ u).take 1 ≠ [48]:=by
 refine BP (P:=fun u=>1 <= u -> (BQ u).take 1 ≠ [48]) (fun u : Nat=>u) (fun u ih hu=>?_) u
 by_cases h : u < 10
 ·rw [Bc h]
  simp
  omega
 ·rw [BL h]
  have:=ih (u / 10) (by omega) (by omega)
  obtain ⟨a,t,e⟩:=Afj (Ki (u / 10))
  rw [e] at this ⊢
  simpa using this
theorem Tu (x : Int) : ∀ c,c ∈ AN x -> c = 45 \/ (48 <= c /\ c <= 57):=fun c hc=>by
 by_cases h : 0 <= x
 ·obtain ⟨u,rfl⟩:=AeN h
  rw [Bg] at hc
  exact .inr (FM u c hc)
 ·obtain ⟨u,hu⟩:=AeN (show 0 <= -x by omega)
  have : x = -(u : Int):=by omega
  subst this
  rw [BO u (by omega)] at hc
  rcases AeX.1 hc with h | h
  ·exact .inl h
  ·exact .inr (FM u c h)
theorem Zj {d : List Nat} (h : ∀ c,c ∈ d -> 48 <= c /\ c <= 57) : tpr d = d:=by
 unfold tpr
 split
 ·rename_i r; have:=h 45 (by simp); omega
 ·rfl
theorem Aao (d : List Nat) (hne : d ≠ []) (hd : d.all okD = true) : (Fm 0 d <= 9223372036854775808 -> atG (45 :: d) = (.i .i64 (-((Fm 0 d : Nat) : Int)),.nl 3)) /\ (¬ Fm 0 d <= 9223372036854775808 -> (atG (45 :: d)).2 = .er /\ ∃ x,(atG (45 :: d)).1 = .i .i64 x):=by
 have h1:=Sy (c:=45) (by omega)
 have hp:=pu10 d 0 hd (by omega)
 have hA : ∀ z,parseUint10 0 (d.map UInt8.ofNat) = z -> atoiAll ((45 :: d).map UInt8.ofNat) = match z with
   | .ok u=>if 9223372036854775808 < u then .range else .ok (-(u : Int))
   | .range=>.range
   | _=>atoiAll []:=fun z hz=>by
  have e : (45 :: d).map UInt8.ofNat = UInt8.ofNat 45 :: d.map UInt8.ofNat:=rfl
  rw [e]
  unfold atoiAll
  simp only [h1,or_true,if_true,not_true_eq_false,false_and,if_false,true_and]
  unfold parseMag
  rw [Aex (by simpa using hne),hz]
  cases z <;> rfl
 constructor
 ·intro h
  rw [AeB (by omega)] at hp
  have hA:=hA _ hp
  simp only at hA
  rw [Aex (by omega)] at hA
  unfold atG
  rw [hA]
 ·intro h
  unfold atG
  by_cases h2 : Fm 0 d < 18446744073709551616
  ·rw [AeB h2] at hp
   have hA:=hA _ hp
   simp only at hA
   rw [AeB (by omega)] at hA
   rw [hA]
   exact ⟨rfl,_,rfl⟩
  ·rw [Aex h2] at hp
   have hA:=hA _ hp
   simp only at hA
   rw [hA]
   exact ⟨rfl,_,rfl⟩
def Nf (s : List Nat) : Bool:=!decide (tpr s = []) && (!decide ((tpr s).take 1 = [48]) || (decide ((tpr s).length = 1) && decide (tpr s = s))) && inS digS (tpr s)
def Tg (s : List Nat) : Int:=if s.take 1 = [45] then -((Fm 0 (tpr s) : Nat) : Int) else (Fm 0 (tpr s) : Nat)
def Xb (s : List Nat) : Int:=if -9223372036854775808 <= Tg s /\ Tg s <= 9223372036854775807 then Tg s else 9223372036854775807
theorem Sz (s : List Nat) : (s.take 1 = [45] /\ s = 45 :: tpr s) \/ (s.take 1 ≠ [45] /\ tpr s = s):=by
 cases s with
 | nil=>exact .inr ⟨by simp,rfl⟩
 | cons a r =>
  by_cases h : a = 45
  ·subst h
   exact .inl ⟨rfl,rfl⟩
  ·refine .inr ⟨by simpa using h,?_⟩
   unfold tpr
   split
   ·rename_i e; cases e; exact absurd rfl h
   ·rfl
theorem Aan {s : List Nat} (h : Nf s = true) : ((atG s).2 = .nl 3 /\ (atG s).1 = .i .i64 (Xb s)) \/ ((atG s).2 = .er /\ Xb s = 9223372036854775807 /\ ∃ x,(atG s).1 = .i .i64 x):=by
 unfold Nf at h
 simp only [Aez,Aff,decide_eq_false_iff_not] at h
 obtain ⟨⟨hne,_⟩,hi⟩:=h
 have hd:=ZU hi
 rcases Sz s with ⟨h1,h2⟩ | ⟨h1,h2⟩
 ·obtain ⟨k1,k2⟩:=Aao (tpr s) hne hd
  rw [<- h2] at k1 k2
  have hv : Tg s = -((Fm 0 (tpr s) : Nat) : Int):=by unfold Tg; rw [AeB h1]
  by_cases h : Fm 0 (tpr s) <= 9223372036854775808
  ·left
   rw [k1 h]
   unfold Xb
   rw [AeB (by omega),hv]
   exact ⟨rfl,rfl⟩
  ·right
   unfold Xb
   rw [Aex (by omega)]
   exact ⟨(k2 h).1,rfl,(k2 h).2⟩
 ·rw [h2] at hne hd
  obtain ⟨k1,k2⟩:=Aam s hne hd
  have hv : Tg s = ((Fm 0 s : Nat) : Int):=by unfold Tg; rw [Aex h1,h2]
  by_cases h : Fm 0 s < 9223372036854775808
  ·left
   rw [k1 h]
   unfold Xb
   rw [AeB (by omega),hv]
   exact ⟨rfl,rfl⟩
  ·right
   unfold Xb
   rw [Aex (by omega)]
   exact ⟨(k2 h).1,rfl,(k2 h).2⟩
theorem LM (x : Int) (h1 : -1000000000000 < x) (h2 : x < 1000000000000) : Tg (AN x) = x /\ Nf (AN x) = true:=by
 have core : ∀ u : Nat,inS digS (BQ u) = true:=fun u=>Tw (FM u)
 by_cases h0 : 0 <= x
 ·obtain ⟨u,rfl⟩:=AeN h0
  rw [Bg]
  have ht:=Zj (FM u)
  obtain ⟨a,r,hd⟩:=Afj (Ki u)
  have ha:=FM u a (by rw [hd]; simp)
  refine ⟨?_,?_⟩
  ·unfold Tg
   rw [ht,Ma,Aex (by rw [hd]; simp; omega)]
  ·unfold Nf
   rw [ht,core u,Bool.and_true,Aez]
   refine ⟨by simp [Ki u],?_⟩
   by_cases hu : 1 <= u
   ·have:=TL u hu
    simp [this]
   ·have : u = 0:=by omega
    subst this
    have hd0 : BQ 0 = [48]:=Bc (by omega)
    rw [hd0]
    simp
 ·obtain ⟨u,hu⟩:=AeN (show 0 <= -x by omega)
  have : x = -(u : Int):=by omega
  subst this
  rw [BO u (by omega)]
  have ht : tpr (45 :: BQ u) = BQ u:=rfl
  refine ⟨?_,?_⟩
  ·unfold Tg
   rw [ht,Ma,AeB (show List.take 1 (45 :: BQ u) = [45] from rfl)]
  ·unfold Nf
   rw [ht,core u,Bool.and_true,Aez]
   refine ⟨by simp [Ki u],?_⟩
   have:=TL u (by omega)
   simp [this]
theorem Bi (x : Int) (h1 : -1000000000 < x) (h2 : x < 1000000000) : (AN x).length <= 10:=by
 by_cases h0 : 0 <= x
 ·obtain ⟨u,rfl⟩:=AeN h0
  rw [Bg]
  have:=El 8 u (by omega)
  omega
 ·obtain ⟨u,hu⟩:=AeN (show 0 <= -x by omega)
  have : x = -(u : Int):=by omega
  subst this
  rw [BO u (by omega)]
  have:=El 8 u (by omega)
  simp
  omega
end Go.Mx.Tryz
namespace Go.Mx.Tryz
open Go.Lib
def numC (s : List Nat) : Int:=if s.take 1 = [45] then -((min (Fm 0 (tpr s)) 1000000000 : Nat) : Int) else (min (Fm 0 (tpr s)) 1000000000 : Nat)
def AdJ (s : List Nat) : Int × Bool:=if Nf s = true then (numC s,true) else (0,false)
theorem Aed (u : Nat) (h : u < 10) : (([48,49,50,51,52,53,54,55,56,57] : List Nat).drop u).take 1 = [48 + u]:=by
 match u,h with
 | 0,_=>rfl
 | 1,_=>rfl
 | 2,_=>rfl
 | 3,_=>rfl
 | 4,_=>rfl
 | 5,_=>rfl
 | 6,_=>rfl
 | 7,_=>rfl
 | 8,_=>rfl
 | 9,_=>rfl
theorem Xj (u : Nat) : u <= 1000000000000 -> ∀ H,Gives G 51 [.m (.i .i64 (u : Int))] H (.m (.s (BQ u))) H:=by
 refine BP (P:=fun u=>u <= 1000000000000 -> ∀ H,Gives G 51 [.m (.i .i64 (u : Int))] H (.m (.s (BQ u))) H) (fun u : Nat=>u) (fun u ih hu H=>?_) u
 refine Ah rfl rfl rfl rfl rfl ?_
 have h0 : ¬ (u : Int) < 0:=by omega
 by_cases h : u < 10
 ·have h' : (u : Int) < 10:=by omega
  have w : wr .i64 ((u : Int) + 1) = (u : Int) + 1:=wr_i64 (by omega) (by omega)
  have p1 : (u : Int) + 1 <= 10:=by omega
  have p2 : u <= u + 1:=by omega
  have p3 : (0 : Int) <= (u : Int) + 1:=by omega
  simp [h0,h',w,p1,p3,Aed u h,Bc h]
 ·have h' : ¬ (u : Int) < 10:=by omega
  have g1:=ih (u / 10) (by omega) (by omega)
  have g2:=ih (u % 10) (by omega) (by omega)
  have w : wr .i64 ((u / 10 : Nat) : Int) = ((u / 10 : Nat) : Int):=wr_i64 (by omega) (by omega)
  have t1 : (u : Int).tdiv 10 = ((u / 10 : Nat) : Int):=rfl
  have t2 : (u : Int).tmod 10 = ((u % 10 : Nat) : Int):=rfl
  have e1 : BQ (u % 10) = [48 + u % 10]:=Bc (by omega)
  have hl : (BQ (u / 10)).length <= 20:=by have:=El 12 (u / 10) (by omega); omega
  rw [BL h,<- e1]
  have hl1 : (BQ (u % 10)).length = 1:=by rw [e1]; rfl
  have hs : (BQ (u / 10)).length + (BQ (u % 10)).length <= 9223372036854775807:=by omega
  simp [h0,h',t1,t2,w,-Int.natCast_ediv,-Int.natCast_emod,cl (g1 _),cl (g2 _),hs]
theorem decm (x : Int) (h1 : -1000000000 < x) (h2 : x < 1000000000) (H : Hp) : Gives G 51 [.m (.i .i64 x)] H (.m (.s (AN x))) H:=by
 by_cases h : 0 <= x
 ·obtain ⟨u,rfl⟩:=AeN h
  rw [Bg]
  exact Xj u (by omega) H
 ·obtain ⟨u,hu⟩:=AeN (show 0 <= -x by omega)
  have : x = -(u : Int):=by omega
  subst this
  rw [BO u (by omega)]
  refine Ah rfl rfl rfl rfl rfl ?_
  have h0 : -(u : Int) < 0:=by omega
  have w : wr .i64 (u : Int) = u:=wr_i64 (by omega) (by omega)
  have g:=Xj u (by omega)
  have hl : (BQ u).length <= 20:=by have:=El 8 u (by omega); omega
  have hl' : 1 + (BQ u).length <= 9223372036854775807:=by omega
  have hu1 : 1 <= u:=by omega
  have hu2 : 0 < u:=by omega
  simp [w,cl (g _),hu2,hl']
theorem Kd (x : Int) : ∀ c,c ∈ AN x -> c ≠ 32:=fun c hc=>by have:=Tu x c hc; omega
theorem WW (c : Nat) : ∀ (a r : List Nat),(∀ y,y ∈ a -> y ≠ c) -> hdB c (a ++ c :: r) = a /\ tlB c (a ++ c :: r) = some r
 | [],r,_=>by
  have e1 : tlB c (c :: r) = if c = c then some r else tlB c r:=rfl
  have e2 : hdB c (c :: r) = if c = c then [] else c :: hdB c r:=rfl
  rw [AeB rfl] at e1 e2
  exact ⟨e2,e1⟩
 | x :: t,r,h=>by
  have hx:=h x (by simp)
  obtain ⟨i1,i2⟩:=WW c t r fun y hy=>h y (by simp [hy])
  have e1 : tlB c (x :: (t ++ c :: r)) = if x = c then some (t ++ c :: r) else tlB c (t ++ c :: r):=rfl
  have e2 : hdB c (x :: (t ++ c :: r)) = if x = c then [] else x :: hdB c (t ++ c :: r):=rfl
  rw [Aex hx] at e1 e2
  exact ⟨by rw [Afh,e2,i1],by rw [Afh,e1,i2]⟩
theorem AdK (c : Nat) : ∀ (a : List Nat),(∀ y,y ∈ a -> y ≠ c) -> tlB c a = none
 | [],_=>rfl
 | x :: t,h=>by
  have e1 : tlB c (x :: t) = if x = c then some t else tlB c t:=rfl
  rw [e1,Aex (h x (by simp)),AdK c t fun y hy=>h y (by simp [hy])]
theorem HW (c : Nat) (a r : List Nat) (h : ∀ y,y ∈ a -> y ≠ c) : spl c (a ++ c :: r) = a :: spl c r:=by
 obtain ⟨h1,h2⟩:=WW c a r h
 rw [GR c _ _ h2,h1]
theorem JM (c : Nat) (a : List Nat) (h : ∀ y,y ∈ a -> y ≠ c) : spl c a = [a]:=FE c a (AdK c a h)
theorem LN (x : Int) (h : -1048576 <= x /\ x <= 1048576) : Xb (AN x) = x /\ Nf (AN x) = true:=by
 obtain ⟨k1,k2⟩:=LM x (by omega) (by omega)
 refine ⟨?_,k2⟩
 unfold Xb
 rw [k1,AeB (by omega)]
theorem Wt (x : Int) (h : -1048576 <= x /\ x <= 1048576) : (atG (AN x)).1 = .i .i64 x:=by
 obtain ⟨h1,h2⟩:=LN x h
 rcases Aan h2 with ⟨_,k⟩ | ⟨_,k,_⟩
 ·rw [k,h1]
 ·rw [h1] at k; omega
open Go.Sort Go.Proofs
def okM (P X Y : Int) : Prop:=1 <= P /\ P <= 64 /\ -1048576 <= X /\ X <= 1048576 /\ -1048576 <= Y /\ Y <= 1048576
instance (P X Y : Int) : Decidable (okM P X Y):=inferInstanceAs (Decidable (_ /\ _))
structure DecO (s : List Nat) (w : I) (h : List Ce) (e : Int) : Prop where
 sl : IsSl w (An h)
 len : h.length <= 5000
 cas : (e = 0 /\ s = [45] /\ h = []) \/ (e = 0 /\ IsCode s h) \/ (e = 15 /\ h = [])
 gs : ∀ H,Gives G 94 [.m (.s s)] H (.tu [.m w,.m (.i .i64 e)]) H
 gr : ∀ H,Gives G 52 [.m (.s s)] H (.tu [.m w,.m (.i .i64 e)]) H
theorem decO (s : List Nat) (hb : ∀ c,c ∈ s -> c < 256) (hl : s.length <= 65536) : ∃ w h e,DecO s w h e:=by
 obtain ⟨x,hx,g⟩:=Nq s hb hl
 obtain ⟨w,h,e,h1,h2,rfl,h3⟩:=Wk hx
 exact ⟨w,h,e,h1,h2,h3,fun H=>(g H).1,fun H=>(g H).2⟩
def fmO (P X Y : Int) (h : List Ce) (e : Int) : Prop:=okM P X Y /\ e = 0 /\ h ≠ []
instance (P X Y : Int) (h : List Ce) (e : Int) : Decidable (fmO P X Y h e):=inferInstanceAs (Decidable (_ /\ _ /\ _))
def Cv (P X Y : Int) (s : List Nat) : List Nat :=
 if X ≠ 0 \/ Y ≠ 0 then 118 :: (AN P ++ 32 :: (AN X ++ 32 :: (AN Y ++ 32 :: s))) else if 1 < P then 112 :: (AN P ++ 32 :: s) else 115 :: 32 :: s
theorem MZ : ∀ (s : List Nat) (st : PS) (n : Nat) (h : List Ce),Gl st n s = some h -> ∀ c,c ∈ s -> c ≠ 32
  | [],_,_,_,_,c,hc=>by cases hc
  | a :: r,st,n,h,hp,c,hc=>by
    by_cases hd : GJ a
    · have e : Gl st n (a :: r) = if 2097152 < 10 * n + (a - 48) then none else Gl st (10 * n + (a - 48)) r:=by
        show (if GJ a then _ else _) = _
        rw [AeB hd]
      rw [e] at hp
      split at hp
      · cases hp
      · rcases AeX.1 hc with rfl | h1
        · have:=hd.1
          omega
        · exact MZ r _ _ _ hp c h1
    · rw [SV hd] at hp
      cases hl : lix a with
      | none=>rw [hl] at hp; cases hp
      | some k =>
        rw [hl] at hp
        simp only at hp
        split at hp
        · cases hp
        · split at hp
          · cases hp
          · rcases AeX.1 hc with rfl | h1
            · intro e
              subst e
              rw [Pb (by decide) (by decide) (by omega)] at hl
              cases hl
            · exact MZ r _ _ _ hp c h1
theorem Aac {s : List Nat} {h : List Ce} (hc : IsCode s h) : ∀ c,c ∈ s -> c ≠ 32:=MZ _ _ _ _ (GU hc)
theorem VJ {P X Y : Int} {s : List Nat} (h : ∀ c,c ∈ s -> c ≠ 32) : spl 32 (Cv P X Y s) = if X ≠ 0 \/ Y ≠ 0 then [118 :: AN P,AN X,AN Y,s] else if 1 < P then [112 :: AN P,s] else [[115],s]:=by
  have hk : ∀ k : Nat,k ≠ 32 -> ∀ y,y ∈ k :: AN P -> y ≠ 32:=fun k hk y hy=>by
    rcases AeX.1 hy with rfl | h1
    · exact hk
    · exact Kd P y h1
  unfold Cv
  split
  · rw [show (118 :: (AN P ++ 32 :: (AN X ++ 32 :: (AN Y ++ 32 :: s)))) = (118 :: AN P) ++ 32 :: (AN X ++ 32 :: (AN Y ++ 32 :: s)) from rfl,
      HW 32 _ _ (hk 118 (by decide)),HW 32 _ _ (Kd X),HW 32 _ _ (Kd Y),JM 32 _ h]
  · split
    · rw [show (112 :: (AN P ++ 32 :: s)) = (112 :: AN P) ++ 32 :: s from rfl,HW 32 _ _ (hk 112 (by decide)),JM 32 _ h]
    · rw [show (115 :: 32 :: s) = [115] ++ 32 :: s from rfl,HW 32 _ _ (by decide),JM 32 _ h]
def atV (s : List Nat) : Int:=match (atG s).1 with
  | .i _ x=>x
  | _=>0
theorem Kl (x : Int) (h : -1048576 <= x /\ x <= 1048576) : atV (AN x) = x:=by
  unfold atV
  rw [Wt x h]
theorem If (x : Int) (h : -1048576 <= x /\ x <= 1048576) : (AdJ (AN x)).1 = x:=by
  obtain ⟨h1,h2⟩:=LN x h
  obtain ⟨k1,_⟩:=LM x (by omega) (by omega)
  unfold AdJ
  rw [AeB h2]
  show numC (AN x) = x
  unfold numC
  unfold Tg at k1
  split
  · rename_i e
    rw [AeB e] at k1
    omega
  · rename_i e
    rw [Aex e] at k1
    omega
def Wo (ws : List (List Nat)) : Int × Int × Int :=
  (if ws.length = 2 \/ ws.length = 4 then (if ws.getD 0 [] ≠ [115] /\ ws.getD 0 [] ≠ [] then atV ((ws.getD 0 []).drop 1) else 1) else 0,
   if ws.length = 4 then atV (ws.getD 1 []) else 0,if ws.length = 4 then atV (ws.getD 2 []) else 0)
def canR (ws : List (List Nat)) : Int × Int × Int :=
  (if ws.getD 0 [] ≠ [115] then (AdJ ((ws.getD 0 []).drop 1)).1 else 1,
   if ws.length = 4 then (AdJ (ws.getD 1 [])).1 else 0,if ws.length = 4 then (AdJ (ws.getD 2 [])).1 else 0)
def Xk (ws : List (List Nat)) : List Nat:=ws.getD (ws.length - 1) []
theorem Wn {P X Y : Int} {s : List Nat} (hm : okM P X Y) (h : ∀ c,c ∈ s -> c ≠ 32) : Wo (spl 32 (Cv P X Y s)) = (P,X,Y) /\ canR (spl 32 (Cv P X Y s)) = (P,X,Y) /\ Xk (spl 32 (Cv P X Y s)) = s /\ (spl 32 (Cv P X Y s)).getD 0 [] ≠ []:=by
  obtain ⟨h1,h2,h3,h4,h5,h6⟩:=hm
  rw [VJ h]
  have eP:=Kl P (by omega)
  have eX:=Kl X (by omega)
  have eY:=Kl Y (by omega)
  have rP:=If P (by omega)
  have rX:=If X (by omega)
  have rY:=If Y (by omega)
  split
  · refine ⟨?_,?_,rfl,by simp⟩
    · simp [Wo,eP,eX,eY]
    · simp [canR,rP,rX,rY]
  · rename_i hXY
    have hX : X = 0:=by omega
    have hY : Y = 0:=by omega
    subst hX
    subst hY
    split
    · refine ⟨?_,?_,rfl,by simp⟩
      · simp [Wo,eP]
      · simp [canR,rP]
    · have hP : P = 1:=by omega
      subst hP
      refine ⟨?_,?_,rfl,by simp⟩
      · simp [Wo]
      · simp [canR]
abbrev obV (P X Y : Int) (s : List Nat) : V:=.m (.ag [.i .i64 P,.i .i64 X,.i .i64 Y,.s s])
def fmV (P X Y : Int) (w : I) (h : List Ce) (e : Int) : V:=if okM P X Y then .tu [.m w,.m (.b (decide (e = 0 /\ h ≠ [])))] else .tu [.m (.nl 4),.m (.b false)]
theorem Pi {s : List Nat} {w : I} {h : List Ce} {e : Int} (d : DecO s w h e) (P X Y : Int) (H : Hp) : Gives G 48 [obV P X Y s] H (fmV P X Y w h e) H:=by
 have rw:=d.sl.rules
 simp only [Jg] at rw
 have gd:=d.gs
 have hl:=d.len
 refine Ah rfl rfl rfl rfl rfl ?_
 by_cases hm : okM P X Y
 ·obtain ⟨h1,h2,h3,h4,h5,h6⟩:=hm
  have eV : fmV P X Y w h e = .tu [.m w,.m (.b (decide (e = 0 /\ h ≠ [])))]:=AeB ⟨h1,h2,h3,h4,h5,h6⟩
  rw [eV]
  have k1 : ¬ P < 1:=by omega
  have k2 : ¬ 64 < P:=by omega
  have k3 : ¬ 1048576 < max X Y:=by omega
  have k4 : ¬ min X Y < -1048576:=by omega
  have e1 : decide (e = 0 /\ h ≠ []) = (decide (e = 0) && decide (0 < (h.length : Int))):=by
   rw [<- Bool.decide_and]
   congr 1
   rw [<- AfI (l:=h)]
   have : (0 < (h.length : Int)) = (0 < h.length):=by simp
   rw [this]
  rw [e1]
  by_cases he : e = 0
  ·simp (maxSteps:=2000000) (disch:=omega) [gd_and,k1,k2,k3,k4,cl (gd _),rw,he]
  ·simp (maxSteps:=2000000) (disch:=omega) [gd_and,k1,k2,k3,k4,cl (gd _),he]
 ·have eV : fmV P X Y w h e = .tu [.m (.nl 4),.m (.b false)]:=Aex hm
  rw [eV]
  by_cases k1 : P < 1
  ·simp (maxSteps:=2000000) (disch:=omega) [gd_and,k1]
  by_cases k2 : 64 < P
  ·simp (maxSteps:=2000000) (disch:=omega) [gd_and,k1,k2]
  by_cases k3 : 1048576 < max X Y
  ·simp (maxSteps:=2000000) (disch:=omega) [gd_and,k1,k2,k3]
  by_cases k4 : min X Y < -1048576
  ·simp (maxSteps:=2000000) (disch:=omega) [gd_and,k1,k2,k3,k4]
  ·exact absurd (show okM P X Y from ⟨by omega,by omega,by omega,by omega,by omega,by omega⟩) hm
theorem Pj {s : List Nat} {w : I} {h : List Ce} {e : Int} (d : DecO s w h e) (P X Y : Int) (H : Hp) : Gives G 50 [obV P X Y s] H (.m (.b (decide (fmO P X Y h e)))) H:=by
 have rw:=d.sl.rules
 simp only [Jg] at rw
 have gd:=d.gr
 have hl:=d.len
 refine Ah rfl rfl rfl rfl rfl ?_
 by_cases hm : okM P X Y
 ·obtain ⟨h1,h2,h3,h4,h5,h6⟩:=hm
  have e1 : decide (fmO P X Y h e) = (decide (e = 0) && decide (0 < (h.length : Int))):=by
   rw [<- Bool.decide_and]
   congr 1
   have k : (0 < (h.length : Int)) = (h ≠ []):=by
    rw [<- AfI (l:=h)]
    simp
   rw [k]
   unfold fmO
   exact propext ⟨fun q=>q.2,fun q=>⟨⟨h1,h2,h3,h4,h5,h6⟩,q⟩⟩
  rw [e1]
  have k1 : ¬ P < 1:=by omega
  have k2 : ¬ 64 < P:=by omega
  have k3 : ¬ X < -1048576:=by omega
  have k4 : ¬ 1048576 < X:=by omega
  have k5 : ¬ Y < -1048576:=by omega
  have k6 : ¬ 1048576 < Y:=by omega
  by_cases he : e = 0
  ·simp (maxSteps:=2000000) (disch:=omega) [gd_and,k1,k2,k3,k4,k5,k6,cl (gd _),rw,he]
  ·simp (maxSteps:=2000000) (disch:=omega) [gd_and,k1,k2,k3,k4,k5,k6,cl (gd _),he]
 ·have eV : decide (fmO P X Y h e) = false:=Afn fun q=>hm q.1
  rw [eV]
  by_cases k1 : P < 1
  ·simp (maxSteps:=2000000) (disch:=omega) [gd_and,k1]
  by_cases k2 : 64 < P
  ·simp (maxSteps:=2000000) (disch:=omega) [gd_and,k1,k2]
  by_cases k3 : X < -1048576
  ·simp (maxSteps:=2000000) (disch:=omega) [gd_and,k1,k2,k3]
  by_cases k4 : 1048576 < X
  ·simp (maxSteps:=2000000) (disch:=omega) [gd_and,k1,k2,k3,k4]
  by_cases k5 : Y < -1048576
  ·simp (maxSteps:=2000000) (disch:=omega) [gd_and,k1,k2,k3,k4,k5]
  by_cases k6 : 1048576 < Y
  ·simp (maxSteps:=2000000) (disch:=omega) [gd_and,k1,k2,k3,k4,k5,k6]
  ·exact absurd (show okM P X Y from ⟨by omega,by omega,by omega,by omega,by omega,by omega⟩) hm
def QH (P X Y : Int) (s : List Nat) (h : List Ce) (e : Int) : V:=if fmO P X Y h e then .tu [.m (.s (Cv P X Y s)),.m (.i .i64 0)] else .tu [.m (.s []),.m (.i .i64 2)]
def WZ (P X Y : Int) (w : I) (h : List Ce) (e : Int) : V:=if fmO P X Y h e then .tu [.m w,.m (.i .i64 0)] else .tu [.m (.nl 4),.m (.i .i64 2)]
theorem Xh {P X Y : Int} {w : I} {h : List Ce} {e : Int} (hn : ¬ fmO P X Y h e) : ∃ z,fmV P X Y w h e = .tu [.m z,.m (.b false)]:=by
 unfold fmV
 split
 ·rename_i hm
  exact ⟨w,by rw [Afn fun q=>hn ⟨hm,q⟩]⟩
 ·exact ⟨_,rfl⟩
theorem TH {P X Y : Int} {w : I} {h : List Ce} {e : Int} (hf : fmO P X Y h e) : fmV P X Y w h e = .tu [.m w,.m (.b true)]:=by
 unfold fmV
 rw [AeB hf.1,AeS hf.2]
theorem Qr {s : List Nat} {w : I} {h : List Ce} {e : Int} (d : DecO s w h e) (P X Y : Int) (H : Hp) : Gives G 18 [obV P X Y s] H (WZ P X Y w h e) H:=by
 have g:=fun H=>Pi d P X Y H
 refine Ah rfl rfl rfl rfl rfl ?_
 by_cases hf : fmO P X Y h e
 ·have eP : WZ P X Y w h e = .tu [.m w,.m (.i .i64 0)]:=AeB hf
  rw [TH hf] at g
  simp (maxSteps:=2000000) (disch:=omega) [cl (g _),eP]
 ·have eP : WZ P X Y w h e = .tu [.m (.nl 4),.m (.i .i64 2)]:=Aex hf
  obtain ⟨z,hz⟩:=Xh (w:=w) hf
  rw [hz] at g
  simp (maxSteps:=2000000) (disch:=omega) [cl (g _),eP]
theorem Qs {s : List Nat} {w : I} {h : List Ce} {e : Int} (d : DecO s w h e) (P X Y : Int) (H : Hp) : Gives G 19 [obV P X Y s] H (WZ P X Y w h e) H:=by
 have g:=fun H=>Pj d P X Y H
 have gd:=d.gr
 refine Ah rfl rfl rfl rfl rfl ?_
 by_cases hf : fmO P X Y h e
 ·have eP : WZ P X Y w h e = .tu [.m w,.m (.i .i64 0)]:=AeB hf
  rw [AeS hf] at g
  rw [eP]
  have he:=hf.2.1
  simp (maxSteps:=2000000) (disch:=omega) [cl (g _),cl (gd _),he]
 ·have eP : WZ P X Y w h e = .tu [.m (.nl 4),.m (.i .i64 2)]:=Aex hf
  rw [Afn hf] at g
  simp (maxSteps:=2000000) (disch:=omega) [cl (g _),eP]
theorem SB {s : List Nat} {w : I} {h : List Ce} {e : Int} (d : DecO s w h e) (hs : s.length <= 65536) (P X Y : Int) (H : Hp) : Gives G 16 [obV P X Y s] H (QH P X Y s h e) H:=by
 have g:=fun H=>Pi d P X Y H
 refine Ah rfl rfl rfl rfl rfl ?_
 by_cases hf : fmO P X Y h e
 ·have eP : QH P X Y s h e = .tu [.m (.s (Cv P X Y s)),.m (.i .i64 0)]:=AeB hf
  rw [TH hf] at g
  rw [eP]
  obtain ⟨h1,h2,h3,h4,h5,h6⟩:=hf.1
  have lP:=Bi P (by omega) (by omega)
  have lX:=Bi X (by omega) (by omega)
  have lY:=Bi Y (by omega) (by omega)
  have iP:=fun H=>Pf P (by omega) (by omega) H
  have iX:=fun H=>Pf X (by omega) (by omega) H
  have iY:=fun H=>Pf Y (by omega) (by omega) H
  by_cases hX : X = 0
  ·subst hX
   by_cases hY : Y = 0
   ·subst hY
    by_cases hP : 1 < P
    ·simp (maxSteps:=2000000) (disch:=omega) [gd_in,gd_and,cl (g _),cl (iP _),hP,Cv,AeJ]
    ·simp (maxSteps:=2000000) (disch:=omega) [gd_in,gd_and,cl (g _),hP,Cv]
   ·simp (maxSteps:=2000000) (disch:=omega) [gd_in,gd_and,cl (g _),cl (iP _),cl (iX _),cl (iY _),hY,Cv,AeJ]
  ·simp (maxSteps:=2000000) (disch:=omega) [gd_in,gd_and,cl (g _),cl (iP _),cl (iX _),cl (iY _),hX,Cv,AeJ]
 ·have eP : QH P X Y s h e = .tu [.m (.s []),.m (.i .i64 2)]:=Aex hf
  obtain ⟨z,hz⟩:=Xh (w:=w) hf
  rw [hz] at g
  simp (maxSteps:=2000000) (disch:=omega) [cl (g _),eP]
theorem Zl {s : List Nat} {w : I} {h : List Ce} {e : Int} (d : DecO s w h e) (hs : s.length <= 65536) (P X Y : Int) (H : Hp) : Gives G 17 [obV P X Y s] H (QH P X Y s h e) H:=by
 have g:=fun H=>Pj d P X Y H
 refine Ah rfl rfl rfl rfl rfl ?_
 by_cases hf : fmO P X Y h e
 ·have eP : QH P X Y s h e = .tu [.m (.s (Cv P X Y s)),.m (.i .i64 0)]:=AeB hf
  rw [AeS hf] at g
  rw [eP]
  obtain ⟨h1,h2,h3,h4,h5,h6⟩:=hf.1
  have lP:=Bi P (by omega) (by omega)
  have lX:=Bi X (by omega) (by omega)
  have lY:=Bi Y (by omega) (by omega)
  have iP:=fun H=>decm P (by omega) (by omega) H
  have iX:=fun H=>decm X (by omega) (by omega) H
  have iY:=fun H=>decm Y (by omega) (by omega) H
  by_cases hX : X = 0
  ·subst hX
   by_cases hY : Y = 0
   ·subst hY
    by_cases hP : 1 < P
    ·simp (maxSteps:=2000000) (disch:=omega) [gd_in,gd_and,cl (g _),cl (iP _),hP,Cv,AeJ]
    ·simp (maxSteps:=2000000) (disch:=omega) [gd_in,gd_and,cl (g _),hP,Cv]
   ·simp (maxSteps:=2000000) (disch:=omega) [gd_in,gd_and,cl (g _),cl (iP _),cl (iX _),cl (iY _),hY,Cv,AeJ]
  ·simp (maxSteps:=2000000) (disch:=omega) [gd_in,gd_and,cl (g _),cl (iP _),cl (iX _),cl (iY _),hX,Cv,AeJ]
 ·have eP : QH P X Y s h e = .tu [.m (.s []),.m (.i .i64 2)]:=Aex hf
  rw [Afn hf] at g
  simp (maxSteps:=2000000) (disch:=omega) [cl (g _),eP]
theorem TV {ws : List (List Nat)} {i : Nat} {w : List Nat} (h : ws[i]? = some w) : nth (QK ws) i = some [.s w]:=by
 rw [AB]
 simp [QK,h]
theorem PA (s : List Nat) (hl : s.length <= 65536) (H : Hp) : Gives G 54 [.m (.s s)] H (.tu [.m (.i .i64 (atV s)),.m (atG s).2]) H:=by
 have g:=Ael s (by omega) H
 have e : (atG s).1 = .i .i64 (atV s):=by
  unfold atV
  unfold atG
  split <;> rfl
 rw [e] at g
 exact g
def AaX (o : Int × Int × Int) (c : List Nat) (h : List Ce) (e : Int) (s : List Nat) : V:=if fmO o.1 o.2.1 o.2.2 h e /\ Cv o.1 o.2.1 o.2.2 c = s then .tu [.m (.ag [.i .i64 o.1,.i .i64 o.2.1,.i .i64 o.2.2,.s c]),.m (.i .i64 0)] else .tu [.m (.ag [.i .i64 0,.i .i64 0,.i .i64 0,.s []]),.m (.i .i64 15)]
theorem No {ws : List (List Nat)} {i : Nat} (h : i < ws.length) : ws[i]? = some (ws.getD i []):=by
 rw [List.getD_eq_getElem?_getD,AeC h]
 rfl
theorem CQ (P X Y : Int) (c : List Nat) (h : List Ce) (e : Int) (s : List Nat) :
  (QH P X Y c h e = .tu [.m (.s s),.m (.i .i64 0)] /\ AaX (P,X,Y) c h e s = .tu [.m (.ag [.i .i64 P,.i .i64 X,.i .i64 Y,.s c]),.m (.i .i64 0)]) \/
  (∃ n,¬ n = s /\ QH P X Y c h e = .tu [.m (.s n),.m (.i .i64 0)] /\ AaX (P,X,Y) c h e s = .tu [.m (.ag [.i .i64 0,.i .i64 0,.i .i64 0,.s []]),.m (.i .i64 15)]) \/
  (QH P X Y c h e = .tu [.m (.s []),.m (.i .i64 2)] /\ AaX (P,X,Y) c h e s = .tu [.m (.ag [.i .i64 0,.i .i64 0,.i .i64 0,.s []]),.m (.i .i64 15)]):=by
 unfold QH AaX
 by_cases hF : fmO P X Y h e
 ·by_cases hN : Cv P X Y c = s
  ·exact .inl ⟨by rw [AeB hF,hN],AeB ⟨hF,hN⟩⟩
  ·exact .inr (.inl ⟨_,hN,AeB hF,Aex fun q=>hN q.2⟩)
 ·exact .inr (.inr ⟨Aex hF,Aex fun q=>hF q.1⟩)
theorem len_2 {ws : List (List Nat)} (h : ws.length = 2) : ∃ a b,ws = [a,b]:=by
 match ws,h with
 | [a,b],_=>exact ⟨a,b,rfl⟩
theorem len_4 {ws : List (List Nat)} (h : ws.length = 4) : ∃ a b c d,ws = [a,b,c,d]:=by
 match ws,h with
 | [a,b,c,d],_=>exact ⟨a,b,c,d,rfl⟩
theorem Aeh (a b : List Nat) : QK [a,b] = [[.s a],[.s b]]:=rfl
theorem Aeg (a b c d : List Nat) : QK [a,b,c,d] = [[.s a],[.s b],[.s c],[.s d]]:=rfl
set_option maxHeartbeats 2000000 in
theorem ZA (s : List Nat) (hl : s.length <= 65536) {w : I} {h : List Ce} {e : Int} (d : DecO (Xk (spl 32 s)) w h e) (H : Hp) : Gives G 21 [.m (.s s)] H (AaX (Wo (spl 32 s)) (Xk (spl 32 s)) h e s) H:=by
 have gsp:=fun H=>Zm s (by omega) 32 (by decide) H
 obtain ⟨w0,t,hws⟩:=SE 32 s
 have hmem:=SF 32 s.length s (AeA _)
 have hle : (spl 32 s).length <= 65537:=by
  rw [SG]
  have:=List.count_le_length (a:=32) (l:=s)
  omega
 generalize spl 32 s = ws at *
 have hlen : 1 <= ws.length:=by rw [hws]; simp
 have hmm : ∀ w,w ∈ ws -> w.length <= 65536:=fun w hw=>by
  have:=(hmem _ hw).1
  omega
 have hcl : (Xk ws).length <= 65536:=hmm _ (AeI (No (by omega)))
 have gt:=fun P X Y H=>SB d hcl P X Y H
 clear hws hmem
 by_cases n2 : ws.length = 2
 ·obtain ⟨a,b,rfl⟩:=len_2 n2
  rw [Aeh] at gsp
  have ha:=hmm a (by simp)
  have hd : a.tail.length <= 65536:=by rw [List.length_tail]; omega
  have g0:=fun H=>PA a.tail hd H
  have htk : List.take (a.length - 1) a.tail = a.tail:=AeR (by simp)
  have eW : Xk [a,b] = b:=rfl
  rw [eW] at gt ⊢
  have eC : Wo [a,b] = (if a ≠ [115] /\ a ≠ [] then atV a.tail else 1,0,0):=by rw [<- List.drop_one]; rfl
  rw [eC]
  clear eC eW d hmm hlen hle n2 hcl
  refine Ah rfl rfl rfl rfl rfl ?_
  by_cases c : a ≠ [115] /\ a ≠ []
  ·rw [AeB c]
   obtain ⟨c1,c2⟩:=c
   have c3 : (1 : Int) <= a.length:=by have:=AfI.2 c2; omega
   have c4 : 1 <= a.length:=by omega
   have gt:=gt (atV a.tail) 0 0
   rcases CQ (atV a.tail) 0 0 b h e s with ⟨e1,e2⟩ | ⟨n,hne,e1,e2⟩ | ⟨e1,e2⟩ <;> rw [e2] <;> rw [e1] at gt
   ·simp (maxSteps:=2000000) (disch:=omega) [gd_and,wr_i64,cl (gsp _),c1,c2,htk,cl (g0 _),cl (gt _)]
   ·simp (maxSteps:=2000000) (disch:=omega) [gd_and,wr_i64,cl (gsp _),c1,c2,htk,cl (g0 _),cl (gt _),hne]
   ·simp (maxSteps:=2000000) (disch:=omega) [gd_and,wr_i64,cl (gsp _),c1,c2,htk,cl (g0 _),cl (gt _)]
  ·rw [Aex c]
   have gt:=gt 1 0 0
   by_cases c1 : a = [115]
   ·subst c1
    rcases CQ 1 0 0 b h e s with ⟨e1,e2⟩ | ⟨n,hne,e1,e2⟩ | ⟨e1,e2⟩ <;> rw [e2] <;> rw [e1] at gt
    ·simp (maxSteps:=2000000) (disch:=omega) [gd_and,wr_i64,cl (gsp _),cl (gt _)]
    ·simp (maxSteps:=2000000) (disch:=omega) [gd_and,wr_i64,cl (gsp _),cl (gt _),hne]
    ·simp (maxSteps:=2000000) (disch:=omega) [gd_and,wr_i64,cl (gsp _),cl (gt _)]
   ·have c2 : a = []:=by
     by_cases q : a = []
     ·exact q
     ·exact absurd ⟨c1,q⟩ c
    subst c2
    rcases CQ 1 0 0 b h e s with ⟨e1,e2⟩ | ⟨n,hne,e1,e2⟩ | ⟨e1,e2⟩ <;> rw [e2] <;> rw [e1] at gt
    ·simp (maxSteps:=2000000) (disch:=omega) [gd_and,wr_i64,cl (gsp _),cl (gt _)]
    ·simp (maxSteps:=2000000) (disch:=omega) [gd_and,wr_i64,cl (gsp _),cl (gt _),hne]
    ·simp (maxSteps:=2000000) (disch:=omega) [gd_and,wr_i64,cl (gsp _),cl (gt _)]
 ·by_cases n4 : ws.length = 4
  ·obtain ⟨a,u,v,b,rfl⟩:=len_4 n4
   rw [Aeg] at gsp
   have ha:=hmm a (by simp)
   have hd : a.tail.length <= 65536:=by rw [List.length_tail]; omega
   have g0:=fun H=>PA a.tail hd H
   have g1:=fun H=>PA u (hmm u (by simp)) H
   have g2:=fun H=>PA v (hmm v (by simp)) H
   have htk : List.take (a.length - 1) a.tail = a.tail:=AeR (by simp)
   have eW : Xk [a,u,v,b] = b:=rfl
   rw [eW] at gt ⊢
   have eC : Wo [a,u,v,b] = (if a ≠ [115] /\ a ≠ [] then atV a.tail else 1,atV u,atV v):=by rw [<- List.drop_one]; rfl
   rw [eC]
   clear eC eW d hmm hlen hle n2 n4 hcl
   refine Ah rfl rfl rfl rfl rfl ?_
   by_cases c : a ≠ [115] /\ a ≠ []
   ·rw [AeB c]
    obtain ⟨c1,c2⟩:=c
    have c3 : (1 : Int) <= a.length:=by have:=AfI.2 c2; omega
    have c4 : 1 <= a.length:=by omega
    have gt:=gt (atV a.tail) (atV u) (atV v)
    rcases CQ (atV a.tail) (atV u) (atV v) b h e s with ⟨e1,e2⟩ | ⟨n,hne,e1,e2⟩ | ⟨e1,e2⟩ <;> rw [e2] <;> rw [e1] at gt
    ·simp (maxSteps:=2000000) (disch:=omega) [gd_and,wr_i64,cl (gsp _),c1,c2,htk,cl (g0 _),cl (g1 _),cl (g2 _),cl (gt _)]
    ·simp (maxSteps:=2000000) (disch:=omega) [gd_and,wr_i64,cl (gsp _),c1,c2,htk,cl (g0 _),cl (g1 _),cl (g2 _),cl (gt _),hne]
    ·simp (maxSteps:=2000000) (disch:=omega) [gd_and,wr_i64,cl (gsp _),c1,c2,htk,cl (g0 _),cl (g1 _),cl (g2 _),cl (gt _)]
   ·rw [Aex c]
    have gt:=gt 1 (atV u) (atV v)
    by_cases c1 : a = [115]
    ·subst c1
     rcases CQ 1 (atV u) (atV v) b h e s with ⟨e1,e2⟩ | ⟨n,hne,e1,e2⟩ | ⟨e1,e2⟩ <;> rw [e2] <;> rw [e1] at gt
     ·simp (maxSteps:=2000000) (disch:=omega) [gd_and,wr_i64,cl (gsp _),cl (g1 _),cl (g2 _),cl (gt _)]
     ·simp (maxSteps:=2000000) (disch:=omega) [gd_and,wr_i64,cl (gsp _),cl (g1 _),cl (g2 _),cl (gt _),hne]
     ·simp (maxSteps:=2000000) (disch:=omega) [gd_and,wr_i64,cl (gsp _),cl (g1 _),cl (g2 _),cl (gt _)]
    ·have c2 : a = []:=by
      by_cases q : a = []
      ·exact q
      ·exact absurd ⟨c1,q⟩ c
     subst c2
     rcases CQ 1 (atV u) (atV v) b h e s with ⟨e1,e2⟩ | ⟨n,hne,e1,e2⟩ | ⟨e1,e2⟩ <;> rw [e2] <;> rw [e1] at gt
     ·simp (maxSteps:=2000000) (disch:=omega) [gd_and,wr_i64,cl (gsp _),cl (g1 _),cl (g2 _),cl (gt _)]
     ·simp (maxSteps:=2000000) (disch:=omega) [gd_and,wr_i64,cl (gsp _),cl (g1 _),cl (g2 _),cl (gt _),hne]
     ·simp (maxSteps:=2000000) (disch:=omega) [gd_and,wr_i64,cl (gsp _),cl (g1 _),cl (g2 _),cl (gt _)]
  ·have hn:=TV (No (ws:=ws) (i:=ws.length - 1) (by omega))
   have hn : nth (QK ws) (ws.length - 1) = some [.s (Xk ws)]:=hn
   have h0:=TV (No (ws:=ws) (i:=0) (by omega))
   have w1 : wr .i64 ((ws.length : Int) - 1) = ((ws.length - 1 : Nat) : Int):=by rw [wr_i64 (by omega) (by omega)]; omega
   have q1 : ws.length - 1 < ws.length:=by omega
   have q2 : ((ws.length - 1 : Nat) : Int) < ws.length:=by omega
   have q3 : (0 : Int) < ws.length:=by omega
   have m2 : ¬ (ws.length : Int) = 2:=by omega
   have m4 : ¬ (ws.length : Int) = 4:=by omega
   have eC : Wo ws = (0,0,0):=by
    unfold Wo
    rw [Aex (by omega),Aex n4,Aex n4]
   rw [eC]
   have gt:=gt 0 0 0
   clear eC d hmm hle
   refine Ah rfl rfl rfl rfl rfl ?_
   rcases CQ 0 0 0 (Xk ws) h e s with ⟨e1,e2⟩ | ⟨n,hne,e1,e2⟩ | ⟨e1,e2⟩ <;> rw [e2] <;> rw [e1] at gt
   ·simp (maxSteps:=2000000) (disch:=omega) [gd_and,cl (gsp _),hn,h0,w1,m2,m4,cl (gt _)]
   ·simp (maxSteps:=2000000) (disch:=omega) [gd_and,cl (gsp _),hn,h0,w1,m2,m4,cl (gt _),hne]
   ·simp (maxSteps:=2000000) (disch:=omega) [gd_and,cl (gsp _),hn,h0,w1,m2,m4,cl (gt _)]
theorem Aaa {P X Y : Int} {s : List Nat} {w : I} {h : List Ce} {e : Int} (d : DecO s w h e) (hf : fmO P X Y h e) : ∀ c,c ∈ s -> c ≠ 32:=by
 rcases d.cas with ⟨_,_,h3⟩ | ⟨_,h2⟩ | ⟨h1,_⟩
 ·exact absurd h3 hf.2.2
 ·exact Aac h2
 ·have:=hf.2.1
  omega
theorem Tt (gw : Gives G 9 [] [] (.m (.b true)) []) (P X Y : Int) {s : List Nat} (hb : ∀ c,c ∈ s -> c < 256) : Gives G 5 [obV P X Y s] [] (.m (.b true)) []:=by
 refine Ah rfl rfl rfl rfl rfl ?_
 by_cases h3 : 300 < (s.length : Int)
 ·simp (maxSteps:=2000000) (disch:=omega) [h3,cl gw]
 ·obtain ⟨w,h,e,d⟩:=decO s hb (by omega)
  have gt:=fun H=>SB d (by omega) P X Y H
  have gu:=fun H=>Zl d (by omega) P X Y H
  have gp:=fun H=>Qr d P X Y H
  have gq:=fun H=>Qs d P X Y H
  by_cases hF : fmO P X Y h e
  ·have eT : QH P X Y s h e = .tu [.m (.s (Cv P X Y s)),.m (.i .i64 0)]:=AeB hF
   have eP : WZ P X Y w h e = .tu [.m w,.m (.i .i64 0)]:=AeB hF
   rw [eT] at gt gu
   rw [eP] at gp gq
   have gs:=fun H=>LD d.sl d.sl (by have:=d.len; omega) H
   obtain ⟨k1,_,k3,_⟩:=Wn hF.1 (Aaa d hF)
   obtain ⟨h1,h2,h3',h4,h5,h6⟩:=hF.1
   have lP:=Bi P (by omega) (by omega)
   have lX:=Bi X (by omega) (by omega)
   have lY:=Bi Y (by omega) (by omega)
   have hn : (Cv P X Y s).length <= 65536:=by
    unfold Cv
    split
    ·simp only [AeZ,AeD]; omega
    ·split
     ·simp only [AeZ,AeD]; omega
     ·simp only [AeZ]; omega
   have gx:=fun H=>ZA (Cv P X Y s) hn (w:=w) (h:=h) (e:=e) (by rw [k3]; exact d) H
   rw [k1,k3] at gx
   have eV : AaX (P,X,Y) s h e (Cv P X Y s) = .tu [.m (.ag [.i .i64 P,.i .i64 X,.i .i64 Y,.s s]),.m (.i .i64 0)]:=AeB ⟨hF,rfl⟩
   rw [eV] at gx
   generalize Cv P X Y s = n at *
   simp (maxSteps:=2000000) (disch:=omega) [gd_and,Aa,h3,cl (gt _),cl (gu _),cl (gp _),cl (gq _),cl (gs _),cl (gx _),cl gw]
  ·have eT : QH P X Y s h e = .tu [.m (.s []),.m (.i .i64 2)]:=Aex hF
   have eP : WZ P X Y w h e = .tu [.m (.nl 4),.m (.i .i64 2)]:=Aex hF
   rw [eT] at gt gu
   rw [eP] at gp gq
   have gs:=fun H=>LD (l:=[]) (v:=.nl 4) (w:=.nl 4) Da Da (by simp) H
   simp (maxSteps:=2000000) (disch:=omega) [Aa,h3,cl (gt _),cl (gu _),cl (gp _),cl (gq _),cl (gs _),cl gw]
theorem Aer : Cc Go.Proofs.Tryz.prog 33 = some true:=by unfold Cc; rw [Go.Proofs.Tryz.underlying33]; rfl
theorem Aap {B n : Nat} {ts : List TypeId} {us : List V} (h : EX Go.Proofs.Tryz.prog B (n + 3) (33 :: ts) us) :
  ∃ (P X Y : Int) (s : List Nat) (r : List V),us = obV P X Y s :: r /\ (∀ c,c ∈ s -> c < 256) /\ EX Go.Proofs.Tryz.prog B (n + 3) ts r:=by
 obtain ⟨l,r,rfl,hl,h'⟩:=MQ h
 unfold Fits at hl
 rw [Go.Proofs.Tryz.underlying33] at hl
 simp only [FitsF] at hl
 obtain ⟨x1,y1,rfl,k1,x2,y2,rfl,k2,rfl⟩:=hl
 unfold Fits at k1
 rw [Go.Proofs.Tryz.underlying31] at k1
 simp only [FitsF] at k1
 obtain ⟨z1,t1,rfl,j1,z2,t2,rfl,j2,z3,t3,rfl,j3,rfl⟩:=k1
 obtain ⟨P,rfl,_⟩:=Np j1
 obtain ⟨X,rfl,_⟩:=Np j2
 obtain ⟨Y,rfl,_⟩:=Np j3
 unfold Fits at k2
 rw [Go.Proofs.Tryz.underlying9] at k2
 obtain ⟨s,rfl,h1,h2⟩:=k2
 rw [Zb Aer]
 exact ⟨P,X,Y,s,r,rfl,h2,h'⟩
theorem LL (gw : Gives G 9 [] [] (.m (.b true)) []) (us : List V) (h : EX Go.Proofs.Tryz.prog maxLen 8 Go.Proofs.Tryz.f5.params.toList us) : Gives G 5 us [] (.m (.b true)) []:=by
 have e : Go.Proofs.Tryz.f5.params.toList = [33]:=by rw [Go.Proofs.Tryz.params5]
 have h:=e ▸ h
 obtain ⟨P,X,Y,s,_,rfl,hb,h1⟩:=Aap h
 have:=Qk h1
 subst this
 exact Tt gw P X Y hb
end Go.Mx.Tryz
namespace Go.Mx.Tryz
open Go.Lib Go.Proofs
end Go.Mx.Tryz
namespace Go.Mx.Tryz
def onV (xs : List I) : List (List V):=xs.map fun x=>[.m x]
@[simp] theorem Dj (xs : List I) : (onV xs).length = xs.length:=by simp [onV]
theorem Na (xs ys : List I) : onV xs ++ onV ys = onV (xs ++ ys):=by simp [onV]
theorem Ck {xs : List I} {i : Nat} {x : I} (h : xs[i]? = some x) : nth (onV xs) i = some [.m x]:=by
 rw [AB]
 simp [onV,h]
theorem ZC (xs : List I) (a n : Nat) : ((onV xs).drop a).take n = onV ((xs.drop a).take n):=by
 unfold onV
 rw [List.map_take,List.map_drop]
def on1 (xs : List I) : List (List I):=xs.map fun x=>[x]
def AaZ (xs : List I) : Prop:=∀ x,x ∈ xs -> BH (.m x) = true
theorem Ie {xs : List I} (h : AaZ xs) : ((onV xs).all fun e=>Nat.beq e.length 1 && e.all BH) = true:=by
 rw [AeH]
 intro e he
 obtain ⟨x,hx,rfl⟩:=AeU.1 he
 simp [h x hx]
theorem ZD (xs : List I) : ((onV xs).all fun e=>e.all isM) = true:=by
 rw [AeH]
 intro e he
 obtain ⟨x,hx,rfl⟩:=AeU.1 he
 rfl
def LR (ty : Nat) (xs : List I) (o : V) (H : Hp) (ok : Nat -> Prop) : Prop:=(xs = [] /\ o = .m (.nl 4)) \/ (xs ≠ [] /\ ∃ r,ok r /\ o = .sl r xs.length 1 0 xs.length false /\ nth H r = some (.cs ty 1 (onV xs) 0 false))
theorem LR.nil {ty : Nat} {H : Hp} {ok : Nat -> Prop} : LR ty [] (.m (.nl 4)) H ok:=.inl ⟨rfl,rfl⟩
theorem LR.keep {ty : Nat} {xs : List I} {o : V} {H H' : Hp} {ok ok' : Nat -> Prop} (h : LR ty xs o H ok) (hk : ∀ r,ok r -> nth H' r = nth H r) (ho : ∀ r,ok r -> r < H.length -> ok' r) : LR ty xs o H' ok':=by
 rcases h with h | ⟨hne,r,hr,e,h3⟩
 ·exact .inl h
 ·exact .inr ⟨hne,r,ho r hr (AJ h3),e,by rw [hk r hr]; exact h3⟩
theorem LR.nf {ty : Nat} {xs : List I} {o : V} {H : Hp} {ok : Nat -> Prop} (h : LR ty xs o H ok) : Ay o = true /\ Ap o = some [o] /\ BH o = true /\ Aj (.len false) [o] = some (.m (.i .i64 (xs.length : Nat))):=by
 rcases h with ⟨rfl,rfl⟩ | ⟨hne,r,hr,rfl,h3⟩
 ·exact ⟨rfl,rfl,rfl,rfl⟩
 ·exact ⟨rfl,rfl,rfl,rfl⟩
theorem LR.rd {ty : Nat} {xs : List I} {o : V} {H : Hp} {ok : Nat -> Prop} (h : LR ty xs o H ok) {i : Nat} {x : I} (hx : xs[i]? = some x) : ∃ p,Aj (.ixa 1) [o,.m (.i .i64 (i : Int))] = some p /\ Ay p = true /\ ∀ B,readX ⟨B,H⟩ (.ld false 1) [p] = some (.m x):=by
 have hlt:=(Aey.1 hx).1
 rcases h with ⟨rfl,rfl⟩ | ⟨hne,r,hr,rfl,h3⟩
 ·simp at hlt
 ·refine ⟨.pt r xs.length i 0,?_,rfl,fun B=>?_⟩
  ·simp (disch:=omega) []
  ·simp (disch:=omega) [gd_and,Ck hx,h3]
theorem LR.elems {ty : Nat} {xs : List I} {o : V} {H : Hp} {ok : Nat -> Prop} (h : LR ty xs o H ok) : Mx.elems H o = some (onV xs):=by
 rcases h with ⟨rfl,rfl⟩ | ⟨hne,r,hr,rfl,h3⟩
 ·rfl
 ·rw [CO,h3]
  show gd (Nat.ble 0 xs.length && Nat.beq 1 1) (some (((onV xs).drop 0).take xs.length)) = _
  rw [Bd,AeS (AeK _),List.drop_zero,AeR (by simp)]
  rfl
theorem LR.push {ty b n0 : Nat} {xs : List I} {o : V} {H : Hp} (h : LR ty xs o H (n0 <= ·)) (hn : n0 <= H.length) (hb : b <= 1000) {ys : List I} (hl : xs.length + ys.length <= 100000000) (ha : AaZ ys) : ∃ o1 H1,(∀ B,Gi ⟨B,H⟩ ty 1 b o (onV ys) = some (o1,⟨B,H1⟩)) /\ Ay o1 = true /\ LR ty (xs ++ ys) o1 H1 (n0 <= ·) /\ n0 <= H1.length /\ H.length <= H1.length /\ ∀ r,r < n0 -> nth H1 r = nth H r:=by
 have hmul : (xs.length + ys.length) * b <= 100000000 * 1000:=Nat.mul_le_mul hl hb
 cases ys with
 | nil =>
  refine ⟨o,H,fun B=>?_,h.nf.1,by rw [AeV]; exact h,hn,AeA _,fun _ _=>rfl⟩
  rcases h with ⟨rfl,rfl⟩ | ⟨hne,r,hr,rfl,h3⟩ <;> rfl
 | cons y t =>
  rcases h with ⟨rfl,rfl⟩ | ⟨hne,r,hr,rfl,h3⟩
  ·refine ⟨.sl H.length (y :: t).length 1 0 (y :: t).length false,H ++ [.cs ty 1 (onV (y :: t)) 0 false],fun B=>?_,rfl,.inr ⟨by simp,H.length,hn,rfl,Dd H _ 0⟩,by simp; omega,by simp,fun r hr=>BF _ _ _ (by omega)⟩
   show BA ⟨B,H⟩ ty 1 b (onV (y :: t)) = _
   rw [CJ,Ie ha,Dj]
   have : Nat.ble ((y :: t).length * b) 140737488355328 = true:=by
    rw [Bd]
    refine AeS ?_
    simp only [Afo,AfC] at hmul
    omega
   rw [this]
   rfl
  ·have ha2:=fun B=>Fk (M:=⟨B,H⟩) (bytes:=b) (xs:=onV (y :: t)) h3 (by simp [onV]) (by simp only [Dj]; omega) (Ie ha)
   simp only [Dj,Na] at ha2
   have el : xs.length + (y :: t).length = (xs ++ y :: t).length:=by simp
   rw [el] at ha2
   refine ⟨_,_,ha2,rfl,.inr ⟨by simp,r,hr,rfl,AO (AJ h3)⟩,by simp; omega,by simp,fun q hq=>Ar fun e=>?_⟩
   subst e
   have : n0 <= r:=hr
   omega
def zL (xs : List I) : I:=if xs = [] then .nl 4 else .sl (on1 xs)
theorem AcL (xs : List I) : IsSl (zL xs) (on1 xs):=by
 unfold zL
 split
 ·rename_i h; subst h; exact Da
 ·exact Cg _
theorem AcM (xs : List I) : BH (.m (zL xs)) = true:=by
 unfold zL
 split <;> rfl
theorem optV (k : Nat) (H : Hp) : ∀ xs : List I,Af (fun e=>Af (view (k + 1) H) e) (onV xs) = some (on1 xs)
 | []=>rfl
 | x :: r=>by
  show Option.bind (some [x]) _ = _
  simp only [AeE]
  show Option.bind (Af _ (onV r)) _ = _
  rw [optV k H r]
  rfl
theorem LR.view {ty : Nat} {xs : List I} {o : V} {H : Hp} {ok : Nat -> Prop} (h : LR ty xs o H ok) (k : Nat) : Mx.view (k + 2) H o = some (zL xs):=by
 have he:=h.elems
 rcases h with ⟨rfl,rfl⟩ | ⟨hne,r,hr,rfl,h3⟩
 ·rfl
 ·show Option.bind (Mx.elems H (.sl r xs.length 1 0 xs.length false)) _ = _
  rw [he]
  show Option.bind (Af (fun e=>Af (Mx.view (k + 1) H) e) (onV xs)) _ = _
  rw [optV]
  unfold zL
  rw [Aex hne]
  rfl
theorem TG {H : Hp} {r ty : Nat} {xs : List I} {b : Nat} {fz : Bool} (h : nth H r = some (.cs ty 1 (onV xs) b fz)) : AS [r] H = some (H.set r (.cs ty 1 (onV xs) b true)):=by
 show Option.bind (nth H r) _ = _
 rw [h]
 show Option.bind (gd ((onV xs).all fun e=>e.all isM) (some (Row.cs ty 1 (onV xs) b true))) _ = _
 rw [ZD]
 show Option.bind (AG H r _) _ = _
 rw [Am _ _ _ (AJ h)]
 rfl
theorem LR.viewR {ty : Nat} {xs : List I} {o : V} {H : Hp} {ok : Nat -> Prop} (h : LR ty xs o H ok) : Mx.viewR H o = some (.m (zL xs)):=by
 have hv:=h.view 18
 rcases h with ⟨rfl,rfl⟩ | ⟨hne,r,hr,rfl,h3⟩
 ·rfl
 ·show (Mx.view 20 H (.sl r xs.length 1 0 xs.length false)).bind _ = _
  rw [hv]
  rfl
theorem Cl {call : Bk} {M : Mem} {ty esz b : Nat} {s x : V} {e : List (List V)} (h : Mx.elems M.H x = some e) : Ai call M (.app ty esz b) [s,x] = Gi M ty esz b s e:=by
 cases x with
 | m x =>
  cases x with
  | s l=>simp [Mx.elems] at h
  | _=>simp only [Ai]; rw [h]; rfl
 | _=>simp only [Ai]; rw [h]; rfl
def iI (l : List Int) : List I:=l.map (.i .i64)
@[simp] theorem CR (l : List Int) : (iI l).length = l.length:=by simp [iI]
theorem CS {l : List Int} {i : Nat} {x : Int} (h : l[i]? = some x) : (iI l)[i]? = some (.i .i64 x):=by simp [iI,h]
theorem LK (l : List Int) : on1 (iI l) = Dk l:=by
 unfold on1 iI Dk
 rw [AfN]
 rfl
theorem Tk (l : List Int) : AaZ (iI l):=fun x hx=>by
 obtain ⟨y,_,rfl⟩:=AeU.1 hx
 rfl
theorem TA (l m : List Int) : iI l ++ iI m = iI (l ++ m):=by simp [iI]
def zI (l : List Int) : I:=zL (iI l)
theorem zI_sl (l : List Int) : IsSl (zI l) (Dk l):=by
 have:=AcL (iI l)
 rwa [LK] at this
def AH : V -> Option Nat
 | .sl r _ _ _ _ _=>some r
 | _=>none
abbrev Hc : Nat -> Prop:=fun _=>True
theorem LR.push1 {ty b : Nat} {xs : List I} {o : V} {H : Hp} (h : LR ty xs o H Hc) (hb : b <= 1000) {y : I} (hl : xs.length + 1 <= 100000000) (ha : BH (.m y) = true) : ∃ o1 H1,(∀ B,Ai (fun _ _ _=>none) ⟨B,H⟩ (.app ty 1 b) [o,.ls [[y]]] = some (o1,⟨B,H1⟩)) /\ Ay o1 = true /\ LR ty (xs ++ [y]) o1 H1 Hc /\ H.length <= H1.length /\ (∀ r,r < H.length -> AH o ≠ some r -> nth H1 r = nth H r) /\ (∀ r,AH o1 = some r -> AH o = some r \/ (r = H.length /\ H1.length = H.length + 1)):=by
 have aq : AaZ [y]:=fun u hu=>by rw [List.mem_singleton] at hu; subst hu; exact ha
 have hmul : (xs.length + 1) * b <= 100000000 * 1000:=Nat.mul_le_mul hl hb
 rcases h with ⟨rfl,rfl⟩ | ⟨hne,r,hr,rfl,h3⟩
 ·refine ⟨.sl H.length 1 1 0 1 false,H ++ [.cs ty 1 (onV [y]) 0 false],fun B=>(Cl rfl).trans ?_,rfl,.inr ⟨by simp,H.length,Afv,rfl,Dd H _ 0⟩,by simp,fun r hr _=>BF _ _ _ hr,fun r hr=>.inr ⟨(Afu hr).symm,by simp⟩⟩
  show BA ⟨B,H⟩ ty 1 b (onV [y]) = _
  rw [CJ,Ie aq,Dj]
  have : Nat.ble ([y].length * b) 140737488355328 = true:=by
   rw [Bd]
   refine AeS ?_
   simp only [Afo,AeZ,AfC] at hmul ⊢
   omega
  rw [this]
  rfl
 ·have ha2:=fun B=>Fk (M:=⟨B,H⟩) (bytes:=b) (xs:=onV [y]) h3 (by simp [onV]) (by simp only [Dj,AfE]; omega) (Ie aq)
  simp only [Dj,Na] at ha2
  have el : xs.length + [y].length = (xs ++ [y]).length:=by simp
  rw [el] at ha2
  refine ⟨_,_,fun B=>(Cl rfl).trans (ha2 B),rfl,.inr ⟨by simp,r,Afv,rfl,AO (AJ h3)⟩,by simp,fun q hq hne2=>Ar fun e=>?_,fun q hq=>.inl hq⟩
  subst e
  exact hne2 rfl
theorem LR.keepR {ty : Nat} {xs : List I} {o : V} {H H' : Hp} (h : LR ty xs o H Hc) (hk : ∀ r,AH o = some r -> r < H.length -> nth H' r = nth H r) : LR ty xs o H' Hc:=by
 rcases h with h | ⟨hne,r,hr,e,h3⟩
 ·exact .inl h
 ·subst e
  exact .inr ⟨hne,r,Afv,rfl,by rw [hk r rfl (AJ h3)]; exact h3⟩
theorem LR.row_lt {ty : Nat} {xs : List I} {o : V} {H : Hp} {ok : Nat -> Prop} (h : LR ty xs o H ok) {r : Nat} (e : AH o = some r) : r < H.length:=by
 rcases h with ⟨_,rfl⟩ | ⟨hne,q,hr,rfl,h3⟩
 ·cases e
 ·cases e
  exact AJ h3
theorem LR.row {ty : Nat} {xs : List I} {o : V} {H : Hp} {ok : Nat -> Prop} (h : LR ty xs o H ok) {r : Nat} (e : AH o = some r) : nth H r = some (.cs ty 1 (onV xs) 0 false):=by
 rcases h with ⟨_,rfl⟩ | ⟨hne,q,hr,rfl,h3⟩
 ·cases e
 ·cases e
  exact h3
end Go.Mx.Tryz
