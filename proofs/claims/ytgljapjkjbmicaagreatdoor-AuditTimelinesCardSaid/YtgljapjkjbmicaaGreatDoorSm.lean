/- Timelines as arguments; AuditTimelines. -/
import Derived.Test.YtgljapjkjbmicaaGreatDoorTw
import Derived.Test.YtgljapjkjbmicaaGreatDoorNa
set_option linter.unusedSimpArgs false
set_option linter.unusedVariables false
set_option linter.unusedSectionVars false
set_option maxRecDepth 100000
set_option maxHeartbeats 4000000
namespace Go.Mx.Tryz
open Go.Lib Go.Proofs
theorem fi1_s {f : Frm} (hf : FrmOk f) (H : Hp) : Gives G 17 [.m (.ag [.i .i64 f.g,.b f.b,f.cv,f.hv])] H (.m (.b (!Hw f))) H:=by
 have g1:=fun H=>Ua hf H
 have g1 : ∀ H,Gives G 18 [.m (.ag [.i .i64 f.g,.b f.b,f.cv,f.hv])] H (.m (.b (Hw f))) H:=g1
 have o1:=Ao hf.c
 have o2:=Ao hf.h
 refine Ak rfl rfl rfl rfl rfl ?_
 simp (maxSteps:=2000000) (disch:=omega) [Ad,Ab,Aa,o1,o2,cl (g1 _)]
def fiF : Nat -> List Frm -> Int
 | _,[]=>-1
 | i,f :: r=>if Hw f = false then (i : Int) else fiF (i + 1) r
theorem RN : ∀ (r : List Frm) (i : Nat),decide (0 <= fiF i r) = !(r.all Hw)
 | [],i=>rfl
 | e :: r,i=>by
  have ih:=RN r (i + 1)
  unfold fiF
  rw [List.all_cons]
  cases h : Hw e with
  | false=>simp
  | true=>simpa using ih
theorem WZ {v : I} {x : List Frm} (hv : IsSl v (BP x)) (hle : x.length <= 1000) (hok : ∀ f,f ∈ x -> FrmOk f) (HH : Hp) :
  Gives G 47 [.m v,.m (.fn 17 [])] HH (.m (.i .i64 (fiF 0 x))) HH:=by
 have rn:=hv.rules
 rw [BD] at rn
 refine Ak rfl rfl rfl rfl rfl ?_
 generalize hE : fiF 0 x = E
 simp (maxSteps:=2000000) (disch:=omega) [Ad,Ab,Aa,rn]
 refine (?key : ∀ (i : Nat) (B : List (Nat × List V)) (H : Hp),i <= x.length -> fiF i (x.drop i) = E -> Run G c47_B0 (S47_0 (.m v) (.m (.fn 17 [])) (.m (.i .i64 x.length)) (.m (.i .i64 (i : Int))) B H) _) 0 _ _ (AaT _) hE
 refine Bd (fun i : Nat=>x.length - i) fun i ih B H hi hI=>?_
 unfold c47_B0
 cases hx : x[i]? with
 | none =>
  have : i = x.length:=by have:=AaM.1 hx; omega
  subst this
  rw [Abj] at hI
  have hI : -1 = E:=hI
  subst hI
  simp (maxSteps:=2000000) (disch:=omega) [Ad,Ab,Aa,rn]
 | some f =>
  have hF:=BG hok hx
  have o1:=Ao hF.c
  have o2:=Ao hF.h
  have hlt:=(Aj hx).1
  have hlt2 : (i : Int) < x.length:=by omega
  have hnx:=AF hx
  have wi : wr .i64 ((i : Int) + 1) = ((i + 1 : Nat) : Int):=Aa (by omega) (by omega)
  rw [(Aj hx).2] at hI
  have hI : (if Hw f = false then (i : Int) else fiF (i + 1) (x.drop (i + 1))) = E:=hI
  have hg:=fun H=>fi1_s hF H
  cases hp : Hw f with
  | false =>
   rw [hp] at hg hI
   rw [AaN rfl] at hI
   subst hI
   simp only [Bool.not_false] at hg
   simp (maxSteps:=2000000) (disch:=omega) [Ad,Ab,Aa,rn,hlt,hlt2,hnx,o1,o2,Cc,cl (hg _)]
  | true =>
   rw [hp] at hg hI
   rw [AaL (by simp)] at hI
   simp only [Bool.not_true] at hg
   have kk:=fun B H=>ih (i + 1) (by omega) B H (by omega) hI
   simp (maxSteps:=2000000) (disch:=omega) [Ad,Ab,Aa,rn,hlt,hlt2,hnx,o1,o2,Cc,cl (hg _),wi,-Int.natCast_add]
   exact kk _ _
theorem OC {v : I} {x : List Frm} (hv : IsSl v (BP x)) (hle : x.length <= 1000) (hok : ∀ f,f ∈ x -> FrmOk f) (H : Hp) :
  Gives G 16 [.m v,.m (.fn 17 [])] H (.m (.b (!(x.all Hw)))) H:=by
 refine Ak rfl rfl rfl rfl rfl ?_
 have he:=RN x 0
 simp (maxSteps:=2000000) (disch:=omega) [Ad,Ab,Aa,cl (WZ hv hle hok _),he]
theorem RU {fv : I} {x : List Frm} (hv : IsSl fv (BP x)) (hok : ∀ f,f ∈ x -> FrmOk f) (hxl : (x.length : Int) <= 9223372036854775806) (key : Int) (H : Hp) : Gives G 19 [.m (.ag [.i .i64 key,fv])] H (.m (.b (If [] x))) H:=by
 have hr:=hv.rules
 rw [BD] at hr
 have ho:=Ao hv
 refine Ak rfl rfl rfl rfl rfl ?_
 generalize hE : If [] x = E
 simp (maxSteps:=2000000) (disch:=omega) [Ad,Ab,Aa,hr,ho]
 refine (?key : ∀ (i : Nat) (q : List Ce) (u : I) (B : List (Nat × List V)),i <= x.length -> IsSl u (Al q) -> (q.length : Int) <= 9223372036854775806 -> If q (x.drop i) = E -> Run G c19_B0 (S19_0 (.m u) (.m fv) (.m (.i .i64 x.length)) (.m (.i .i64 (i : Int))) B []) _) 0 [] _ _ (AaT _) AR (by simp) hE
 refine Bd (fun i : Nat=>x.length - i) fun i ih q u B hi hu hul hI=>?_
 unfold c19_B0
 have ou:=Ao hu
 cases hx : x[i]? with
 | none =>
  have : i = x.length:=by have:=AaM.1 hx; omega
  subst this
  rw [Abj] at hI
  have hI : true = E:=hI
  subst hI
  simp (maxSteps:=2000000) (disch:=omega) [Ad,Ab,Aa,hr]
 | some f =>
  have hF:=BG hok hx
  have hlt:=(Aj hx).1
  have hlt' : (i : Int) < x.length:=by omega
  have hn:=AF hx
  have wi : wr .i64 ((i : Int) + 1) = ((i + 1 : Nat) : Int):=Aa (by omega) (by omega)
  rw [(Aj hx).2] at hI
  obtain ⟨g,b,cv,p,lv,l⟩:=f
  obtain ⟨c1,c2,c3,c4,_⟩:=hF
  dsimp only at *
  have o1:=Ao c1
  have o2:=Ao c2
  cases b with
  | true =>
   have hI : If p (x.drop (i + 1)) = E:=hI
   have kk:=fun B=>ih (i + 1) (by omega) p cv B (by omega) c1 c3 hI
   simp (maxSteps:=2000000) (disch:=omega) [Ad,Ab,Aa,hr,hlt,hlt',hn,o1,o2,wi,-Int.natCast_add]
   exact kk _
  | false =>
   have hI : (decide ((appF q l).2 = 0) && If (appF q l).1 (x.drop (i + 1))) = E:=hI
   have g2:=fun H=>UQ hu c2 hul c4 H
   unfold apV at g2
   by_cases h1 : (appF q l).2 = 0
   ·rw [AaP h1,Abl] at hI
    have hz:=Eo (appF q l).1
    have hzl:=Ft q l
    have kk:=fun B=>ih (i + 1) (by omega) (appF q l).1 (zP (appF q l).1) B (by omega) hz (by omega) hI
    simp (maxSteps:=2000000) (disch:=omega) [Ad,Ab,Aa,hr,hlt,hlt',hn,o1,o2,ou,cl (g2 _),h1,wi,-Int.natCast_add]
    exact kk _
   ·rw [AaO h1,Abo] at hI
    subst hI
    simp (maxSteps:=2000000) (disch:=omega) [Ad,Ab,Aa,hr,hlt,hlt',hn,o1,o2,ou,cl (g2 _),h1]
theorem ZB {t : TreeC} {key : Int} {x : List Frm} (hq : AS t = true) (hk : 1 <= key /\ key <= 100) (hl : x.length <= 1000) :
  (Ia (-1) x = false -> timF t key x = 4) /\ (Ia (-1) x = true -> (Fv key 0 x = false -> timF t key x = 5) /\ (Fv key 0 x = true -> (x.all Hw = false -> timF t key x = 6) /\ (x.all Hw = true -> (If [] x = false -> timF t key x = 7) /\ (If [] x = true -> timF t key x = if folF t key x = (-1,0) then 0 else 8)))):=by
 unfold timF
 rw [AaN hq,AaN hk,AaN hl]
 refine ⟨fun h=>by rw [AaL (by simp [h])],fun h=>?_⟩
 rw [AaN h]
 refine ⟨fun h=>by rw [AaL (by simp [h])],fun h=>?_⟩
 rw [AaN h]
 refine ⟨fun h=>by rw [AaL (by simp [h])],fun h=>?_⟩
 rw [AaN h]
 refine ⟨fun h=>by rw [AaL (by simp [h])],fun h=>?_⟩
 rw [AaN h]
set_option maxHeartbeats 8000000 in
theorem Oo {t : TreeC} {h n fv : I} {es : List (List I)} {x : List Frm} (hT : TreeV t h n es) (hv : IsSl fv (BP x)) (hok : ∀ f,f ∈ x -> FrmOk f) (hxl : (x.length : Int) <= 9223372036854775806) (key : Int) (H : Hp) : Gives G 7 [.m (.ag [.i .i64 t.states,h,n]),.m (.ag [.i .i64 key,fv])] H (.m (.i .i64 (timF t key x))) H:=by
 have gq:=fun H=>Lu hT H
 have hr:=hv.rules
 rw [BD] at hr
 have ho:=Ao hv
 have t1:=Ao hT.hd
 have t2:=Ao hT.nd
 refine Ak rfl rfl rfl rfl rfl ?_
 cases hq : AS t with
 | false =>
  rw [hq] at gq
  have e : timF t key x = 1:=by unfold timF; rw [AaL (by simp [hq])]
  rw [e]
  simp (maxSteps:=2000000) (disch:=omega) [Ad,Ab,Aa,t1,t2,cl (gq _),ho]
 | true =>
 rw [hq] at gq
 by_cases k1 : key < 1
 ·have e : timF t key x = 2:=by unfold timF; rw [AaN hq,AaL (by omega)]
  rw [e]
  simp (maxSteps:=2000000) (disch:=omega) [Ad,Ab,Aa,t1,t2,cl (gq _),ho,k1]
 by_cases k2 : 100 < key
 ·have e : timF t key x = 2:=by unfold timF; rw [AaN hq,AaL (by omega)]
  rw [e]
  simp (maxSteps:=2000000) (disch:=omega) [Ad,Ab,Aa,t1,t2,cl (gq _),ho,k1,k2]
 by_cases k3 : 1000 < x.length
 ·have e : timF t key x = 3:=by unfold timF; rw [AaN hq,AaN (by omega),AaL (by omega)]
  rw [e]
  simp (maxSteps:=2000000) (disch:=omega) [Ad,Ab,Aa,t1,t2,cl (gq _),ho,k1,k2,hr,k3,show (1000 : Int) < x.length from by omega]
 have k3' : ¬ (1000 : Int) < x.length:=by omega
 have hkz : ¬ key = 0:=by omega
 obtain ⟨n4,nn⟩:=ZB (x:=x) hq (show 1 <= key /\ key <= 100 from by omega) (show x.length <= 1000 from by omega)
 generalize hE : timF t key x = E at n4 nn ⊢
 clear hE
 simp (maxSteps:=2000000) (disch:=omega) [Ad,Ab,Aa,t1,t2,cl (gq _),ho,k1,k2,hr,k3,k3']
 refine (?key : ∀ (i : Nat) (last : Int) (B : List (Nat × List V)),i <= x.length -> Ia (-1) x = Ia last (x.drop i) -> getB B 2 = some [.m (.i .i64 t.states),.m h,.m n] -> getB B 3 = some [.m (.i .i64 key),.m fv] -> Run G c7_B0 (S7_0 (.fa 2 0) (.fa 3 0) (.m (.i .i64 last)) (.m fv) (.m (.i .i64 x.length)) (.m (.i .i64 (i : Int))) B []) _) 0 (-1) _ (AaT _) rfl rfl rfl
 refine Bd (fun i : Nat=>x.length - i) fun i ih last B hi hI hB2 hB=>?_
 unfold c7_B0
 cases hx : x[i]? with
 | some f =>
  have hF:=BG hok hx
  have o1:=Ao hF.c
  have o2:=Ao hF.h
  have hlt:=(Aj hx).1
  have hlt' : (i : Int) < x.length:=by omega
  have hn:=AF hx
  have wi : wr .i64 ((i : Int) + 1) = ((i + 1 : Nat) : Int):=Aa (by omega) (by omega)
  rw [(Aj hx).2] at hI
  have hI : Ia (-1) x = (decide (last < f.g /\ f.g <= 2147483647) && Ia f.g (x.drop (i + 1))):=hI
  by_cases q1 : f.g <= last
  ·rw [AaO (by omega),Abo] at hI
   rw [n4 hI]
   simp (maxSteps:=2000000) (disch:=omega) [Ad,Ab,Aa,hr,hlt,hlt',hn,o1,o2,q1]
  by_cases q2 : 2147483647 < f.g
  ·rw [AaO (by omega),Abo] at hI
   rw [n4 hI]
   simp (maxSteps:=2000000) (disch:=omega) [Ad,Ab,Aa,hr,hlt,hlt',hn,o1,o2,q1,q2]
  rw [AaP (by omega),Abl] at hI
  have kk:=fun B'=>ih (i + 1) (by omega) f.g B' (by omega) hI
  simp (maxSteps:=2000000) (disch:=omega) [Ad,Ab,Aa,hr,hlt,hlt',hn,o1,o2,q1,q2,wi,-Int.natCast_add]
  exact kk _ (by simp [hB2]) (by simp [hB])
 | none =>
 have : i = x.length:=by have:=AaM.1 hx; omega
 subst this
 rw [Abj] at hI
 have hI : Ia (-1) x = true:=hI
 obtain ⟨n5,nn⟩:=nn hI
 clear ih hx hi hI n4
 simp (maxSteps:=2000000) (disch:=omega) [Ad,Ab,Aa,hr,hB]
 refine (?key2 : ∀ (i : Nat) (B : List (Nat × List V)),i <= x.length -> Fv key 0 x = Fv key i (x.drop i) -> getB B 2 = some [.m (.i .i64 t.states),.m h,.m n] -> getB B 3 = some [.m (.i .i64 key),.m fv] -> Run G c7_B1 (S7_1 (.fa 2 0) (.fa 3 0) (.m fv) (.m (.i .i64 x.length)) (.m (.i .i64 (i : Int))) B []) _) 0 _ (AaT _) rfl hB2 hB
 clear hB hB2
 refine Bd (fun i : Nat=>x.length - i) fun i ih B hi hI hB2 hB=>?_
 unfold c7_B1
 cases hx : x[i]? with
 | some f =>
  have hF:=BG hok hx
  have o1:=Ao hF.c
  have o2:=Ao hF.h
  have hlt:=(Aj hx).1
  have hlt' : (i : Int) < x.length:=by omega
  have hn:=AF hx
  have wi : wr .i64 ((i : Int) + 1) = ((i + 1 : Nat) : Int):=Aa (by omega) (by omega)
  rw [(Aj hx).2] at hI
  have hI : Fv key 0 x = (decide (f.b = CL key i) && Fv key (i + 1) (x.drop (i + 1))):=hI
  have hf : CL key i = decide (Int.tmod (i : Int) key = 0):=rfl
  rw [hf] at hI
  obtain ⟨g,b,cv,p,lv,l⟩:=f
  dsimp only at *
  by_cases q4 : Int.tmod (i : Int) key = 0
  ·rw [AaP q4] at hI
   cases b with
   | true =>
    have hI : Fv key 0 x = Fv key (i + 1) (x.drop (i + 1)):=by rw [hI]; simp
    have kk:=fun B'=>ih (i + 1) (by omega) B' (by omega) hI
    simp (maxSteps:=2000000) (disch:=omega) [Ad,Ab,Aa,hr,hlt,hlt',hn,o1,o2,hB,ho,hkz,q4,wi,-Int.natCast_add]
    exact kk _ (by simp [hB2]) (by simp [hB])
   | false =>
    have hI : Fv key 0 x = false:=by rw [hI]; simp
    rw [n5 hI]
    simp (maxSteps:=2000000) (disch:=omega) [Ad,Ab,Aa,hr,hlt,hlt',hn,o1,o2,hB,ho,hkz,q4]
  ·rw [AaO q4] at hI
   cases b with
   | false =>
    have hI : Fv key 0 x = Fv key (i + 1) (x.drop (i + 1)):=by rw [hI]; simp
    have kk:=fun B'=>ih (i + 1) (by omega) B' (by omega) hI
    simp (maxSteps:=2000000) (disch:=omega) [Ad,Ab,Aa,hr,hlt,hlt',hn,o1,o2,hB,ho,hkz,q4,wi,-Int.natCast_add]
    exact kk _ (by simp [hB2]) (by simp [hB])
   | true =>
    have hI : Fv key 0 x = false:=by rw [hI]; simp
    rw [n5 hI]
    simp (maxSteps:=2000000) (disch:=omega) [Ad,Ab,Aa,hr,hlt,hlt',hn,o1,o2,hB,ho,hkz,q4]
 | none =>
 have : i = x.length:=by have:=AaM.1 hx; omega
 subst this
 rw [Abj] at hI
 have hI : Fv key 0 x = true:=hI
 obtain ⟨n6,nn⟩:=nn hI
 clear ih hx hi hI n5
 have g6:=fun H=>OC hv (by omega) hok H
 have g7:=fun H=>RU hv hok hxl key H
 have g8:=fun H=>RI hT hv hok hxl key H
 cases h6 : x.all Hw with
 | false =>
  rw [n6 h6]
  rw [h6] at g6
  simp only [Bool.not_false] at g6
  simp (maxSteps:=2000000) (disch:=omega) [Ad,Ab,Aa,hr,hB,hB2,ho,t1,t2,cl (g6 _)]
 | true =>
 rw [h6] at g6
 obtain ⟨n7,n8⟩:=nn h6
 simp only [Bool.not_true] at g6
 cases h7 : If [] x with
 | false =>
  rw [n7 h7]
  rw [h7] at g7
  simp (maxSteps:=2000000) (disch:=omega) [Ad,Ab,Aa,hr,hB,hB2,ho,t1,t2,cl (g6 _),cl (g7 _)]
 | true =>
 rw [h7] at g7
 have n8:=n8 h7
 unfold Xb at g8
 generalize folF t key x = e at n8 g8
 obtain ⟨e1,e2⟩:=e
 dsimp only at n8 g8
 subst n8
 by_cases q1 : e1 = -1
 rotate_left
 ·rw [AaL (fun h=>q1 (congrArg Prod.fst h))]
  simp (maxSteps:=2000000) (disch:=omega) [Ad,Ab,Aa,hr,hB,hB2,ho,t1,t2,cl (g6 _),cl (g7 _),cl (g8 _),q1]
 by_cases q2 : e2 = 0
 rotate_left
 ·rw [AaL (fun h=>q2 (congrArg Prod.snd h))]
  simp (maxSteps:=2000000) (disch:=omega) [Ad,Ab,Aa,hr,hB,hB2,ho,t1,t2,cl (g6 _),cl (g7 _),cl (g8 _),q1,q2]
 rw [AaN (by rw [q1,q2])]
 simp (maxSteps:=2000000) (disch:=omega) [Ad,Ab,Aa,hr,hB,hB2,ho,t1,t2,cl (g6 _),cl (g7 _),cl (g8 _),q1,q2]
set_option maxHeartbeats 8000000 in
theorem Lr {t : TreeC} {h n fv : I} {es : List (List I)} {x : List Frm} (hT : TreeV t h n es) (hv : IsSl fv (BP x)) (hok : ∀ f,f ∈ x -> FrmOk f) (hxl : (x.length : Int) <= 9223372036854775806) (key : Int) (H : Hp) : Gives G 8 [.m (.ag [.i .i64 t.states,h,n]),.m (.ag [.i .i64 key,fv])] H (.m (.i .i64 (timF t key x))) H:=by
 have gq:=fun H=>IP hT H
 have hr:=hv.rules
 rw [BD] at hr
 have ho:=Ao hv
 have t1:=Ao hT.hd
 have t2:=Ao hT.nd
 refine Ak rfl rfl rfl rfl rfl ?_
 cases hq : AS t with
 | false =>
  rw [hq] at gq
  have e : timF t key x = 1:=by unfold timF; rw [AaL (by simp [hq])]
  rw [e]
  simp (maxSteps:=2000000) (disch:=omega) [Ad,Ab,Aa,t1,t2,cl (gq _),ho]
 | true =>
 rw [hq] at gq
 by_cases k1 : key < 1
 ·have e : timF t key x = 2:=by unfold timF; rw [AaN hq,AaL (by omega)]
  rw [e]
  simp (maxSteps:=2000000) (disch:=omega) [Ad,Ab,Aa,t1,t2,cl (gq _),ho,k1]
 by_cases k2 : 100 < key
 ·have e : timF t key x = 2:=by unfold timF; rw [AaN hq,AaL (by omega)]
  rw [e]
  simp (maxSteps:=2000000) (disch:=omega) [Ad,Ab,Aa,t1,t2,cl (gq _),ho,k1,k2]
 by_cases k3 : 1000 < x.length
 ·have e : timF t key x = 3:=by unfold timF; rw [AaN hq,AaN (by omega),AaL (by omega)]
  rw [e]
  simp (maxSteps:=2000000) (disch:=omega) [Ad,Ab,Aa,t1,t2,cl (gq _),ho,k1,k2,hr,k3,show (1000 : Int) < x.length from by omega]
 have k3' : ¬ (1000 : Int) < x.length:=by omega
 have hkz : ¬ key = 0:=by omega
 obtain ⟨n4,nn⟩:=ZB (x:=x) hq (show 1 <= key /\ key <= 100 from by omega) (show x.length <= 1000 from by omega)
 generalize hE : timF t key x = E at n4 nn ⊢
 clear hE
 simp (maxSteps:=2000000) (disch:=omega) [Ad,Ab,Aa,t1,t2,cl (gq _),ho,k1,k2,hr,k3,k3']
 refine (?key : ∀ (i : Nat) (last : Int) (B : List (Nat × List V)),i <= x.length -> Ia (-1) x = Ia last (x.drop i) -> (i = 0 -> last = -1) -> (∀ j,i = j + 1 -> ∃ f,x[j]? = some f /\ f.g = last) -> getB B 2 = some [.m (.i .i64 t.states),.m h,.m n] -> getB B 3 = some [.m (.i .i64 key),.m fv] -> Run G c8_B0 (S8_0 (.fa 2 0) (.fa 3 0) (.m (.i .i64 (i : Int))) B []) _) 0 (-1) _ (AaT _) rfl (fun _=>rfl) (fun j hj=>by omega) rfl rfl
 refine Bd (fun i : Nat=>x.length - i) fun i ih last B hi hI hl0 hl1 hB2 hB=>?_
 unfold c8_B0
 cases hx : x[i]? with
 | some f =>
  have hF:=BG hok hx
  have o1:=Ao hF.c
  have o2:=Ao hF.h
  have hlt:=(Aj hx).1
  have hlt' : (i : Int) < x.length:=by omega
  have hn:=AF hx
  have wi : wr .i64 ((i : Int) + 1) = ((i + 1 : Nat) : Int):=Aa (by omega) (by omega)
  rw [(Aj hx).2] at hI
  have hI : Ia (-1) x = (decide (last < f.g /\ f.g <= 2147483647) && Ia f.g (x.drop (i + 1))):=hI
  by_cases q2 : 2147483647 < f.g
  ·rw [AaO (by omega),Abo] at hI
   rw [n4 hI]
   by_cases q0 : f.g < 0
   ·omega
   ·simp (maxSteps:=2000000) (disch:=omega) [Ad,Ab,Aa,hr,hlt,hlt',hn,hB,ho,o1,o2,q0,q2]
  rcases Nat.eq_zero_or_pos i with hi0 | hi0
  ·have hl:=hl0 hi0
   by_cases q0 : f.g < 0
   ·rw [AaO (by omega),Abo] at hI
    rw [n4 hI]
    simp (maxSteps:=2000000) (disch:=omega) [Ad,Ab,Aa,hr,hlt,hlt',hn,hB,ho,o1,o2,q0]
   rw [AaP (by omega),Abl] at hI
   have kk:=fun B'=>ih (i + 1) (by omega) f.g B' (by omega) hI (fun h=>by omega) (fun j hj=>⟨f,by rw [show j = i from by omega]; exact hx,rfl⟩)
   have hi0' : ¬ 0 < i:=by omega
   simp (maxSteps:=2000000) (disch:=omega) [Ad,Ab,Aa,hr,hlt,hlt',hn,hB,ho,o1,o2,q0,q2,hi0',wi,-Int.natCast_add]
   exact kk _ (by simp [hB2]) (by simp [hB])
  ·obtain ⟨j,hj⟩ : ∃ j,i = j + 1:=⟨i - 1,by omega⟩
   obtain ⟨f',hf',hfl⟩:=hl1 j hj
   have hF':=BG hok hf'
   have p1:=Ao hF'.c
   have p2:=Ao hF'.h
   have hn':=AF hf'
   rw [hfl] at hn'
   have hj1 : j < x.length:=by omega
   have hj2 : (j : Int) < x.length:=by omega
   have w1 : wr .i64 ((i : Int) - 1) = (j : Int):=by rw [Aa (by omega) (by omega)]; omega
   by_cases q0 : f.g < 0
   ·have hI : Ia (-1) x = false:=by
     cases h : Ia (-1) x with
     | false=>rfl
     | true =>
      have:=IS (by omega) h f (AaS hx)
      omega
    rw [n4 hI]
    simp (maxSteps:=2000000) (disch:=omega) [Ad,Ab,Aa,hr,hlt,hlt',hn,hB,ho,o1,o2,q0]
   by_cases q1 : f.g <= last
   ·rw [AaO (by omega),Abo] at hI
    rw [n4 hI]
    simp (maxSteps:=2000000) (disch:=omega) [Ad,Ab,Aa,hr,hlt,hlt',hn,hn',hB,ho,o1,o2,p1,p2,hj1,hj2,w1,q0,q2,hi0,q1]
   rw [AaP (by omega),Abl] at hI
   have kk:=fun B'=>ih (i + 1) (by omega) f.g B' (by omega) hI (fun h=>by omega) (fun j hj=>⟨f,by rw [show j = i from by omega]; exact hx,rfl⟩)
   simp (maxSteps:=2000000) (disch:=omega) [Ad,Ab,Aa,hr,hlt,hlt',hn,hn',hB,ho,o1,o2,p1,p2,hj1,hj2,w1,q0,q2,hi0,q1,wi,-Int.natCast_add]
   exact kk _ (by simp [hB2]) (by simp [hB])
 | none =>
 have : i = x.length:=by have:=AaM.1 hx; omega
 subst this
 rw [Abj] at hI
 have hI : Ia (-1) x = true:=hI
 obtain ⟨n5,nn⟩:=nn hI
 clear ih hx hi hI n4 hl0 hl1
 simp (maxSteps:=2000000) (disch:=omega) [Ad,Ab,Aa,hr,hB,ho]
 refine (?key2 : ∀ (i : Nat) (B : List (Nat × List V)),i <= x.length -> Fv key 0 x = Fv key i (x.drop i) -> getB B 2 = some [.m (.i .i64 t.states),.m h,.m n] -> getB B 3 = some [.m (.i .i64 key),.m fv] -> Run G c8_B1 (S8_1 (.fa 2 0) (.fa 3 0) (.m (.i .i64 (i : Int))) B []) _) 0 _ (AaT _) rfl hB2 hB
 clear hB hB2
 refine Bd (fun i : Nat=>x.length - i) fun i ih B hi hI hB2 hB=>?_
 unfold c8_B1
 cases hx : x[i]? with
 | some f =>
  have hF:=BG hok hx
  have o1:=Ao hF.c
  have o2:=Ao hF.h
  have hlt:=(Aj hx).1
  have hlt' : (i : Int) < x.length:=by omega
  have hn:=AF hx
  have wi : wr .i64 ((i : Int) + 1) = ((i + 1 : Nat) : Int):=Aa (by omega) (by omega)
  rw [(Aj hx).2] at hI
  have hI : Fv key 0 x = (decide (f.b = CL key i) && Fv key (i + 1) (x.drop (i + 1))):=hI
  have hf : CL key i = decide (Int.tmod (i : Int) key = 0):=rfl
  rw [hf] at hI
  obtain ⟨g,b,cv,p,lv,l⟩:=f
  dsimp only at *
  by_cases q4 : Int.tmod (i : Int) key = 0
  ·rw [AaP q4] at hI
   cases b with
   | true =>
    have hI : Fv key 0 x = Fv key (i + 1) (x.drop (i + 1)):=by rw [hI]; simp
    have kk:=fun B'=>ih (i + 1) (by omega) B' (by omega) hI
    simp (maxSteps:=2000000) (disch:=omega) [Ad,Ab,Aa,hr,hlt,hlt',hn,o1,o2,hB,ho,hkz,q4,wi,-Int.natCast_add]
    exact kk _ (by simp [hB2]) (by simp [hB])
   | false =>
    have hI : Fv key 0 x = false:=by rw [hI]; simp
    rw [n5 hI]
    simp (maxSteps:=2000000) (disch:=omega) [Ad,Ab,Aa,hr,hlt,hlt',hn,o1,o2,hB,ho,hkz,q4]
  ·rw [AaO q4] at hI
   cases b with
   | false =>
    have hI : Fv key 0 x = Fv key (i + 1) (x.drop (i + 1)):=by rw [hI]; simp
    have kk:=fun B'=>ih (i + 1) (by omega) B' (by omega) hI
    simp (maxSteps:=2000000) (disch:=omega) [Ad,Ab,Aa,hr,hlt,hlt',hn,o1,o2,hB,ho,hkz,q4,wi,-Int.natCast_add]
    exact kk _ (by simp [hB2]) (by simp [hB])
   | true =>
    have hI : Fv key 0 x = false:=by rw [hI]; simp
    rw [n5 hI]
    simp (maxSteps:=2000000) (disch:=omega) [Ad,Ab,Aa,hr,hlt,hlt',hn,o1,o2,hB,ho,hkz,q4]
 | none =>
 have : i = x.length:=by have:=AaM.1 hx; omega
 subst this
 rw [Abj] at hI
 have hI : Fv key 0 x = true:=hI
 obtain ⟨n6,nn⟩:=nn hI
 clear ih hx hi hI n5
 have g8:=fun H=>Ie hT hv hok hxl key H
 simp (maxSteps:=2000000) (disch:=omega) [Ad,Ab,Aa,hr,hB,ho]
 refine (?key3 : ∀ (i : Nat) (B : List (Nat × List V)),i <= x.length -> x.all Hw = (x.drop i).all Hw -> getB B 2 = some [.m (.i .i64 t.states),.m h,.m n] -> getB B 3 = some [.m (.i .i64 key),.m fv] -> Run G c8_B2 (S8_2 (.fa 2 0) (.fa 3 0) (.m (.i .i64 (i : Int))) B []) _) 0 _ (AaT _) rfl hB2 hB
 clear hB hB2
 refine Bd (fun i : Nat=>x.length - i) fun i ih B hi hI hB2 hB=>?_
 unfold c8_B2
 cases hx : x[i]? with
 | some f =>
  have hF:=BG hok hx
  have hlt:=(Aj hx).1
  have hlt' : (i : Int) < x.length:=by omega
  have hn:=AF hx
  have wi : wr .i64 ((i : Int) + 1) = ((i + 1 : Nat) : Int):=Aa (by omega) (by omega)
  rw [(Aj hx).2,List.all_cons] at hI
  have g1:=fun H=>Hl hF.c (by have:=hF.cl; omega) H
  have g2:=fun H=>Ny hF.h hF.hl H
  have kk:=fun B' h=>ih (i + 1) (by omega) B' (by omega) h
  obtain ⟨g,b,cv,p,lv,l⟩:=f
  obtain ⟨c1,c2,c3,c4,_⟩:=hF
  dsimp only at *
  have r1:=c1.rules
  have r2:=c2.rules
  simp only [show (AU l).length = l.length from by simp [AU]] at r2
  simp only [show (Al p).length = p.length from by simp [Al]] at r1
  have o1:=Ao c1
  have o2:=Ao c2
  have hf : Hw ⟨g,b,cv,p,lv,l⟩ = if b = true then Bo p && decide (l.length = 0) else decide (p.length = 0) && Bv l:=rfl
  rw [hf] at hI
  cases b with
  | true =>
   rw [AaN rfl] at hI
   cases h1 : Bo p with
   | false =>
    rw [h1] at hI g1
    rw [n6 (by rw [hI]; rfl)]
    simp (maxSteps:=2000000) (disch:=omega) [Ad,Ab,Aa,Ae,Af,Ac,Ag,-Int.not_lt,-Int.not_le,-Nat.not_lt,-Nat.not_le,-List.map_take,hr,hlt,hlt',hn,o1,o2,hB,ho,cl (g1 _)]
   | true =>
   rw [h1] at hI g1
   by_cases h2 : 0 < l.length
   ·rw [AaO (by omega)] at hI
    rw [n6 (by rw [hI]; rfl)]
    simp (maxSteps:=2000000) (disch:=omega) [Ad,Ab,Aa,Ae,Af,Ac,Ag,-Int.not_lt,-Int.not_le,-Nat.not_lt,-Nat.not_le,-List.map_take,hr,hlt,hlt',hn,o1,o2,r2,hB,ho,cl (g1 _),h2,show (0 : Int) < l.length from by omega]
   ·rw [AaP (by omega)] at hI
    have kk:=fun B'=>kk B' (by simpa using hI)
    have h2' : l.length = 0:=by omega
    simp (maxSteps:=2000000) (disch:=omega) [Ad,Ab,Aa,Ae,Af,Ac,Ag,-Int.not_lt,-Int.not_le,-Nat.not_lt,-Nat.not_le,-List.map_take,hr,hlt,hlt',hn,o1,o2,r2,hB,ho,cl (g1 _),h2',wi,-Int.natCast_add]
    exact kk _ (by simp [hB2]) (by simp [hB])
  | false =>
   rw [AaL (by simp)] at hI
   by_cases h2 : 0 < p.length
   ·rw [AaO (by omega)] at hI
    rw [n6 (by rw [hI]; rfl)]
    simp (maxSteps:=2000000) (disch:=omega) [Ad,Ab,Aa,Ae,Af,Ac,Ag,-Int.not_lt,-Int.not_le,-Nat.not_lt,-Nat.not_le,-List.map_take,hr,hlt,hlt',hn,o1,o2,r1,hB,ho,h2,show (0 : Int) < p.length from by omega]
   have h2' : p.length = 0:=by omega
   rw [AaP h2'] at hI
   cases h1 : Bv l with
   | false =>
    rw [h1] at hI g2
    rw [n6 (by rw [hI]; rfl)]
    simp (maxSteps:=2000000) (disch:=omega) [Ad,Ab,Aa,Ae,Af,Ac,Ag,-Int.not_lt,-Int.not_le,-Nat.not_lt,-Nat.not_le,-List.map_take,hr,hlt,hlt',hn,o1,o2,r1,hB,ho,cl (g2 _),h2']
   | true =>
    rw [h1] at hI g2
    have kk:=fun B'=>kk B' (by simpa using hI)
    simp (maxSteps:=2000000) (disch:=omega) [Ad,Ab,Aa,Ae,Af,Ac,Ag,-Int.not_lt,-Int.not_le,-Nat.not_lt,-Nat.not_le,-List.map_take,hr,hlt,hlt',hn,o1,o2,r1,hB,ho,cl (g2 _),h2',wi,-Int.natCast_add]
    exact kk _ (by simp [hB2]) (by simp [hB])
 | none =>
 have : i = x.length:=by have:=AaM.1 hx; omega
 subst this
 rw [Abj] at hI
 have h6 : x.all Hw = true:=hI
 obtain ⟨n7,n8⟩:=nn h6
 clear ih hx hi hI n6
 simp (maxSteps:=2000000) (disch:=omega) [Ad,Ab,Aa,hr,hB,ho]
 refine (?key4 : ∀ (i : Nat) (q : List Ce) (u : I) (B : List (Nat × List V)),i <= x.length -> IsSl u (Al q) -> (q.length : Int) <= 9223372036854775806 -> If [] x = If q (x.drop i) -> getB B 2 = some [.m (.i .i64 t.states),.m h,.m n] -> getB B 3 = some [.m (.i .i64 key),.m fv] -> Run G c8_B3 (S8_3 (.fa 2 0) (.fa 3 0) (.m u) (.m (.i .i64 (i : Int))) B []) _) 0 [] _ _ (AaT _) AR (by simp) rfl hB2 hB
 clear hB hB2
 refine Bd (fun i : Nat=>x.length - i) fun i ih q u B hi hu hul hI hB2 hB=>?_
 unfold c8_B3
 have ou:=Ao hu
 cases hx : x[i]? with
 | some f =>
  have hF:=BG hok hx
  have hlt:=(Aj hx).1
  have hlt' : (i : Int) < x.length:=by omega
  have hn:=AF hx
  have wi : wr .i64 ((i : Int) + 1) = ((i + 1 : Nat) : Int):=Aa (by omega) (by omega)
  rw [(Aj hx).2] at hI
  obtain ⟨g,b,cv,p,lv,l⟩:=f
  obtain ⟨c1,c2,c3,c4,_⟩:=hF
  dsimp only at c1 c2 c3 c4 hn
  have o1:=Ao c1
  have o2:=Ao c2
  cases b with
  | true =>
   have hI : If [] x = If p (x.drop (i + 1)):=hI
   have kk:=fun B=>ih (i + 1) (by omega) p cv B (by omega) c1 c3 hI
   simp (maxSteps:=2000000) (disch:=omega) [Ad,Ab,Aa,hr,hB,ho,hlt,hlt',hn,o1,o2,wi,-Int.natCast_add]
   exact kk _ (by simp [hB2]) (by simp [hB])
  | false =>
   have hI : If [] x = (decide ((appF q l).2 = 0) && If (appF q l).1 (x.drop (i + 1))):=hI
   have g2:=fun H=>ND hu c2 hul c4 H
   unfold apW at g2
   by_cases h1 : (appF q l).2 = 0
   ·rw [AaP h1,Abl] at hI
    have hz:=Eo (appF q l).1
    have hzl:=Ft q l
    have kk:=fun B=>ih (i + 1) (by omega) (appF q l).1 (zP (appF q l).1) B (by omega) hz (by omega) hI
    simp (maxSteps:=2000000) (disch:=omega) [Ad,Ab,Aa,hr,hB,ho,hlt,hlt',hn,o1,o2,ou,cl (g2 _),h1,wi,-Int.natCast_add]
    exact kk _ (by simp [hB2]) (by simp [hB])
   ·rw [AaO h1,Abo] at hI
    rw [n7 hI]
    simp (maxSteps:=2000000) (disch:=omega) [Ad,Ab,Aa,hr,hB,ho,hlt,hlt',hn,o1,o2,ou,cl (g2 _),h1]
 | none =>
 have : i = x.length:=by have:=AaM.1 hx; omega
 subst this
 rw [Abj] at hI
 have h7 : If [] x = true:=hI
 clear ih hx hi hI n7
 have n8:=n8 h7
 unfold Xb at g8
 generalize folF t key x = e at n8 g8
 obtain ⟨e1,e2⟩:=e
 dsimp only at n8 g8
 subst n8
 by_cases q2 : e2 = 0
 rotate_left
 ·rw [AaL (fun h=>q2 (congrArg Prod.snd h))]
  simp (maxSteps:=2000000) (disch:=omega) [Ad,Ab,Aa,hr,hB,hB2,ho,t1,t2,cl (g8 _),q2]
 by_cases q1 : e1 = -1
 rotate_left
 ·rw [AaL (fun h=>q1 (congrArg Prod.fst h))]
  simp (maxSteps:=2000000) (disch:=omega) [Ad,Ab,Aa,hr,hB,hB2,ho,t1,t2,cl (g8 _),q1,q2]
 rw [AaN (by rw [q1,q2])]
 simp (maxSteps:=2000000) (disch:=omega) [Ad,Ab,Aa,hr,hB,hB2,ho,t1,t2,cl (g8 _),q1,q2]
structure FrmW (f : Frm) : Prop where
 c : IsSl f.cv (Al f.p)
 h : IsSl f.hv (AU f.l)
 gr : -9223372036854775808 <= f.g /\ f.g <= 9223372036854775807
def ssC : Option Int -> Int -> Bool
 | none,_=>true
 | some a,g=>!(decide (0 <= g) && (decide (0 <= a) && decide (6 < g - a)))
def ssL : Option Int -> List Frm -> Bool
 | _,[]=>true
 | o,f :: r=>decide (f.p.length <= 60) && (decide (f.l.length <= 60) && (ssC o f.g && ssL (some f.g) r))
def ssF (x : List Frm) : Bool:=decide (x.length <= 20) && ssL none x
theorem WJ {fv : I} {x : List Frm} (hv : IsSl fv (BP x)) (hok : ∀ f,f ∈ x -> FrmW f) (key : Int) (H : Hp) : Gives G 5 [.m (.ag [.i .i64 key,fv])] H (.m (.b (ssF x))) H:=by
 have hr:=hv.rules
 rw [BD] at hr
 have ho:=Ao hv
 refine Ak rfl rfl rfl rfl rfl ?_
 have hE : ssF x = (decide (x.length <= 20) && ssL none x):=rfl
 by_cases k1 : 20 < x.length
 ·rw [hE,AaO (by omega),Abo]
  simp (maxSteps:=2000000) (disch:=omega) [Ad,Ab,Aa,hr,ho,k1,show (20 : Int) < x.length from by omega]
 rw [hE,AaP (by omega),Abl]
 clear hE
 have k1' : ¬ (20 : Int) < x.length:=by omega
 generalize hE : ssL none x = E
 simp (maxSteps:=2000000) (disch:=omega) [Ad,Ab,Aa,hr,ho,k1,k1']
 refine (?key : ∀ (i : Nat) (o : Option Int) (B : List (Nat × List V)),i <= x.length -> ssL o (x.drop i) = E -> (i = 0 -> o = none) -> (∀ j,i = j + 1 -> ∃ f,x[j]? = some f /\ o = some f.g) -> getB B 1 = some [.m (.i .i64 key),.m fv] -> Run G c5_B0 (S5_0 (.fa 1 0) (.m (.i .i64 x.length)) (.m (.i .i64 (i : Int))) B []) _) 0 none _ (AaT _) hE (fun _=>rfl) (fun j hj=>by omega) rfl
 clear hE
 refine Bd (fun i : Nat=>x.length - i) fun i ih o B hi hI hl0 hl1 hB=>?_
 unfold c5_B0
 cases hx : x[i]? with
 | none =>
  have : i = x.length:=by have:=AaM.1 hx; omega
  subst this
  rw [Abj] at hI
  have hI : true = E:=by
   rw [<- hI]
   cases o <;> rfl
  subst hI
  simp (maxSteps:=2000000) (disch:=omega) [Ad,Ab,Aa,hr]
 | some f =>
  have hF:=hok f (AaS hx)
  have o1:=Ao hF.c
  have o2:=Ao hF.h
  have r1:=hF.c.rules
  have r2:=hF.h.rules
  simp only [show (AU f.l).length = f.l.length from by simp [AU]] at r2
  simp only [show (Al f.p).length = f.p.length from by simp [Al]] at r1
  have hgr:=hF.gr
  have hlt:=(Aj hx).1
  have hlt' : (i : Int) < x.length:=by omega
  have hn:=AF hx
  have wi : wr .i64 ((i : Int) + 1) = ((i + 1 : Nat) : Int):=Aa (by omega) (by omega)
  rw [(Aj hx).2] at hI
  have hI : (decide (f.p.length <= 60) && (decide (f.l.length <= 60) && (ssC o f.g && ssL (some f.g) (x.drop (i + 1))))) = E:=hI
  by_cases q1 : 60 < f.p.length
  ·rw [AaO (by omega),Abo] at hI
   subst hI
   simp (maxSteps:=2000000) (disch:=omega) [Ad,Ab,Aa,hr,hB,ho,hlt,hlt',hn,o1,o2,r1,r2,q1,show (60 : Int) < f.p.length from by omega]
  have q1' : ¬ (60 : Int) < f.p.length:=by omega
  rw [AaP (show f.p.length <= 60 by omega),Abl] at hI
  by_cases q2 : 60 < f.l.length
  ·rw [AaO (by omega),Abo] at hI
   subst hI
   simp (maxSteps:=2000000) (disch:=omega) [Ad,Ab,Aa,hr,hB,ho,hlt,hlt',hn,o1,o2,r1,r2,q1,q1',q2,show (60 : Int) < f.l.length from by omega]
  have q2' : ¬ (60 : Int) < f.l.length:=by omega
  rw [AaP (show f.l.length <= 60 by omega),Abl] at hI
  have kk:=fun B' h=>ih (i + 1) (by omega) (some f.g) B' (by omega) h (fun h=>by omega) (fun j hj=>⟨f,by rw [show j = i from by omega]; exact hx,rfl⟩)
  rcases Nat.eq_zero_or_pos i with hi0 | hi0
  ·rw [hl0 hi0] at hI
   have kk:=fun B'=>kk B' hI
   have hi0' : ¬ 0 < i:=by omega
   simp (maxSteps:=2000000) (disch:=omega) [Ad,Ab,Aa,hr,hB,ho,hlt,hlt',hn,o1,o2,r1,r2,q1,q1',q2,q2',hi0',wi,-Int.natCast_add]
   exact kk _ hB
  ·obtain ⟨j,hj⟩ : ∃ j,i = j + 1:=⟨i - 1,by omega⟩
   obtain ⟨f',hf',hfl⟩:=hl1 j hj
   rw [hfl] at hI
   have hI : ((!(decide (0 <= f.g) && (decide (0 <= f'.g) && decide (6 < f.g - f'.g)))) && ssL (some f.g) (x.drop (i + 1))) = E:=hI
   have hF':=hok f' (AaS hf')
   have p1:=Ao hF'.c
   have p2:=Ao hF'.h
   have hn':=AF hf'
   have hgr':=hF'.gr
   have hj1 : j < x.length:=by omega
   have hj2 : (j : Int) < x.length:=by omega
   have w1 : wr .i64 ((i : Int) - 1) = (j : Int):=by rw [Aa (by omega) (by omega)]; omega
   by_cases q3 : 0 <= f.g
   rotate_left
   ·rw [AaO q3,Abo] at hI
    have kk:=fun B'=>kk B' hI
    simp (maxSteps:=2000000) (disch:=omega) [Ad,Ab,Aa,Ae,Af,Ac,Ag,-Int.not_lt,-Int.not_le,-Nat.not_lt,-Nat.not_le,-List.map_take,hr,hB,ho,hlt,hlt',hn,o1,o2,r1,r2,q1,q1',q2,q2',hi0,q3,wi,-Int.natCast_add]
    exact kk _ hB
   by_cases q4 : 0 <= f'.g
   rotate_left
   ·rw [AaO q4,Abo,Bool.and_false] at hI
    have kk:=fun B'=>kk B' hI
    simp (maxSteps:=2000000) (disch:=omega) [Ad,Ab,Aa,Ae,Af,Ac,Ag,-Int.not_lt,-Int.not_le,-Nat.not_lt,-Nat.not_le,-List.map_take,hr,hB,ho,hlt,hlt',hn,hn',hj1,hj2,w1,p1,p2,o1,o2,r1,r2,q1,q1',q2,q2',hi0,q3,q4,wi,-Int.natCast_add]
    exact kk _ hB
   have wd : wr .i64 (f.g - f'.g) = f.g - f'.g:=Aa (by omega) (by omega)
   rw [AaP q3,AaP q4,Abl,Abl] at hI
   by_cases q5 : 6 < f.g - f'.g
   ·rw [AaP q5] at hI
    have hI : false = E:=hI
    subst hI
    simp (maxSteps:=2000000) (disch:=omega) [Ad,Ab,Aa,Ae,Af,Ac,Ag,-Int.not_lt,-Int.not_le,-Nat.not_lt,-Nat.not_le,-List.map_take,hr,hB,ho,hlt,hlt',hn,hn',hj1,hj2,w1,p1,p2,o1,o2,r1,r2,q1,q1',q2,q2',hi0,q3,q4,wd,q5]
   ·rw [AaO q5] at hI
    have hI : ssL (some f.g) (x.drop (i + 1)) = E:=hI
    have kk:=fun B'=>kk B' hI
    simp (maxSteps:=2000000) (disch:=omega) [Ad,Ab,Aa,Ae,Af,Ac,Ag,-Int.not_lt,-Int.not_le,-Nat.not_lt,-Nat.not_le,-List.map_take,hr,hB,ho,hlt,hlt',hn,hn',hj1,hj2,w1,p1,p2,o1,o2,r1,r2,q1,q1',q2,q2',hi0,q3,q4,wd,q5,wi,-Int.natCast_add]
    exact kk _ hB
theorem QP : ∀ {x : List Frm} {o : Option Int},ssL o x = true -> ∀ f,f ∈ x -> f.p.length <= 60 /\ f.l.length <= 60
 | [],_,_,f,h=>by cases h
 | a :: r,o,h,f,hf=>by
  unfold ssL at h
  simp only [AaJ,AaU] at h
  rcases Abd.1 hf with rfl | hf
  ·exact ⟨h.1,h.2.1⟩
  ·exact QP h.2.2.2 f hf
theorem ZE {x : List Frm} (hw : ∀ f,f ∈ x -> FrmW f) (h : ssF x = true) : (∀ f,f ∈ x -> FrmOk f) /\ (x.length : Int) <= 9223372036854775806:=by
 unfold ssF at h
 simp only [AaJ,AaU] at h
 refine ⟨fun f hf=>?_,by omega⟩
 have h1:=QP h.2 f hf
 have h2:=hw f hf
 exact ⟨h2.c,h2.h,by omega,by omega,h2.gr⟩
theorem TN (gw : Gives G 6 [] [] (.m (.b true)) []) {t : TreeC} {h n fv : I} {es : List (List I)} {x : List Frm} (hT : TreeV t h n es) (hv : IsSl fv (BP x)) (hwk : ∀ f,f ∈ x -> FrmW f) (key : Int) : Gives G 3 [.m (.ag [.i .i64 t.states,h,n]),.m (.ag [.i .i64 key,fv])] [] (.m (.b true)) []:=by
 have g1:=fun H=>Aaq hT H
 have g2:=fun H=>WJ hv hwk key H
 have ho:=Ao hv
 have t1:=Ao hT.hd
 have t2:=Ao hT.nd
 refine Ak rfl rfl rfl rfl rfl ?_
 cases hf : XS t with
 | false =>
  rw [hf] at g1
  simp (maxSteps:=2000000) (disch:=omega) [Ad,Ab,Aa,cl (g1 _),Ac,cl gw,ho,t1,t2]
 | true =>
 rw [hf] at g1
 cases hf2 : ssF x with
 | false =>
  rw [hf2] at g2
  simp (maxSteps:=2000000) (disch:=omega) [Ad,Ab,Aa,cl (g1 _),cl (g2 _),Ac,cl gw,ho,t1,t2]
 | true =>
 rw [hf2] at g2
 obtain ⟨hok,hxl⟩:=ZE hwk hf2
 have g3:=fun H=>Oo hT hv hok hxl key H
 have g4:=fun H=>Lr hT hv hok hxl key H
 have g5:=fun H=>IP hT H
 have g6:=fun H=>QU hv hok hxl key H
 have g7:=fun H=>Ie hT hv hok hxl key H
 have tl:=WC t key x
 unfold Xb at g7
 generalize AS t = b1 at g5 tl
 generalize (patF key x).isSome = b2 at g6 tl
 generalize folF t key x = e at g7 tl
 obtain ⟨e1,e2⟩:=e
 dsimp only at g7 tl
 generalize timF t key x = m at g3 g4 tl
 cases b1 with
 | false =>
  have hm : ¬ m = 0:=by simpa using tl
  simp (maxSteps:=2000000) (disch:=omega) [Ad,Ab,Aa,cl (g1 _),cl (g2 _),cl (g3 _),cl (g4 _),cl (g5 _),Ac,cl gw,ho,t1,t2,hm]
 | true =>
 cases b2 with
 | false =>
  have hm : ¬ m = 0:=by simpa using tl
  simp (maxSteps:=2000000) (disch:=omega) [Ad,Ab,Aa,cl (g1 _),cl (g2 _),cl (g3 _),cl (g4 _),cl (g5 _),cl (g6 _),Ac,cl gw,ho,t1,t2,hm]
 | true =>
 by_cases q1 : e1 = -1
 rotate_left
 ·have hm : ¬ m = 0:=by simpa [q1] using tl
  simp (maxSteps:=2000000) (disch:=omega) [Ad,Ab,Aa,cl (g1 _),cl (g2 _),cl (g3 _),cl (g4 _),cl (g5 _),cl (g6 _),cl (g7 _),Ac,cl gw,ho,t1,t2,hm,q1]
 by_cases q2 : e2 = 0
 rotate_left
 ·have hm : ¬ m = 0:=by simpa [q2] using tl
  simp (maxSteps:=2000000) (disch:=omega) [Ad,Ab,Aa,cl (g1 _),cl (g2 _),cl (g3 _),cl (g4 _),cl (g5 _),cl (g6 _),cl (g7 _),Ac,cl gw,ho,t1,t2,hm,q1,q2]
 have hm : m = 0:=by simpa [q1,q2] using tl
 simp (maxSteps:=2000000) (disch:=omega) [Ad,Ab,Aa,cl (g1 _),cl (g2 _),cl (g3 _),cl (g4 _),cl (g5 _),cl (g6 _),cl (g7 _),Ac,cl gw,ho,t1,t2,hm,q1,q2]
theorem Xf {B n : Nat} {l : List I} (h : Fits Go.Proofs.Tryz.prog B (n + 1) 4 l) : ∃ b : Bool,l = [.b b]:=by
 unfold Fits at h
 rw [Go.Proofs.Tryz.underlying4] at h
 exact h
theorem Xe {B n : Nat} {l : List I} (h : Fits Go.Proofs.Tryz.prog B (n + 2) 93 l) : ∃ d : Chg,l = d.i:=by
 unfold Fits at h
 rw [Go.Proofs.Tryz.underlying93] at h
 simp only [Gg] at h
 obtain ⟨x1,y1,rfl,k1,x2,y2,rfl,k2,x3,y3,rfl,k3,x4,y4,rfl,k4,rfl⟩:=h
 obtain ⟨a,rfl,_⟩:=BL k1
 obtain ⟨b,rfl,_⟩:=BL k2
 obtain ⟨c,rfl,_⟩:=BL k3
 obtain ⟨d,rfl,_⟩:=BL k4
 exact ⟨⟨a,b,c,d⟩,rfl⟩
theorem TX {es : List (List I)} (h : ∀ x,x ∈ es -> ∃ d : Chg,x = d.i) : ∃ p : List Chg,es = AU p:=by
 induction es with
 | nil=>exact ⟨[],rfl⟩
 | cons x r ih =>
  obtain ⟨d,rfl⟩:=h x (by simp)
  obtain ⟨p,rfl⟩:=ih fun x hx=>h x (by simp [hx])
  exact ⟨d :: p,rfl⟩
theorem Xd {B n : Nat} {l : List I} (h : Fits Go.Proofs.Tryz.prog B (n + 4) 44 l) : ∃ f : Frm,l = f.i /\ FrmW f:=by
 unfold Fits at h
 rw [Go.Proofs.Tryz.underlying44] at h
 simp only [Gg] at h
 obtain ⟨x1,y1,rfl,k1,x2,y2,rfl,k2,x3,y3,rfl,k3,x4,y4,rfl,k4,rfl⟩:=h
 obtain ⟨g,rfl,hg⟩:=BL k1
 obtain ⟨b,rfl⟩:=Xf k2
 obtain ⟨p,cv,rfl,hp,hpl⟩:=Xc k3
 unfold Fits at k4
 rw [Go.Proofs.Tryz.underlying42] at k4
 simp only at k4
 rcases k4 with rfl | ⟨es,rfl,hle,hes⟩
 ·exact ⟨⟨g,b,cv,p,.nl 4,[]⟩,rfl,hp,AR,hg⟩
 ·obtain ⟨q,rfl⟩:=TX fun x hx=>Xe (hes x hx)
  exact ⟨⟨g,b,cv,p,.sl (AU q),q⟩,rfl,hp,BF _,hg⟩
theorem TW {es : List (List I)} (h : ∀ x,x ∈ es -> ∃ f : Frm,x = f.i /\ FrmW f) : ∃ x : List Frm,es = BP x /\ ∀ f,f ∈ x -> FrmW f:=by
 induction es with
 | nil=>exact ⟨[],rfl,by simp⟩
 | cons x r ih =>
  obtain ⟨f,rfl,hf⟩:=h x (by simp)
  obtain ⟨p,rfl,hp⟩:=ih fun x hx=>h x (by simp [hx])
  refine ⟨f :: p,rfl,fun g hg=>?_⟩
  rcases Abd.1 hg with rfl | hg
  ·exact hf
  ·exact hp g hg
theorem UU : BZ Go.Proofs.Tryz.prog 28 = some true:=by unfold BZ; rw [Go.Proofs.Tryz.underlying28]; rfl
theorem Ug {B n : Nat} {ts : List TypeId} {us : List V} (h : Ea Go.Proofs.Tryz.prog B (n + 6) (28 :: ts) us) :
  ∃ (key : Int) (fv : I) (x : List Frm) (r : List V),us = .m (.ag [.i .i64 key,fv]) :: r /\ IsSl fv (BP x) /\ (∀ f,f ∈ x -> FrmW f) /\ x.length <= B /\ Ea Go.Proofs.Tryz.prog B (n + 6) ts r:=by
 obtain ⟨l,r,rfl,hl,h'⟩:=Hf h
 unfold Fits at hl
 rw [Go.Proofs.Tryz.underlying28] at hl
 simp only [Gg] at hl
 obtain ⟨x1,y1,rfl,k1,x2,y2,rfl,k2,rfl⟩:=hl
 obtain ⟨key,rfl,_⟩:=BL k1
 unfold Fits at k2
 rw [Go.Proofs.Tryz.underlying26] at k2
 simp only at k2
 rcases k2 with rfl | ⟨es,rfl,hle,hes⟩
 ·refine ⟨key,_,[],r,?_,AR,by simp,by simp,h'⟩
  rw [Lp UU]
  rfl
 ·obtain ⟨x,rfl,hx⟩:=TW fun x hx=>Xd (hes x hx)
  refine ⟨key,_,x,r,?_,BF _,hx,by simpa [BP] using hle,h'⟩
  rw [Lp UU]
  rfl
theorem LB (us : List V) (h : Ea Go.Proofs.Tryz.prog maxLen 8 Go.Proofs.Tryz.f3.params.toList us) : Gives G 3 us [] (.m (.b true)) []:=by
 have e : Go.Proofs.Tryz.f3.params.toList = [25,28]:=by rw [Go.Proofs.Tryz.params3]
 have h:=e ▸ h
 obtain ⟨t,hh,nn,es,r,rfl,hT,h1⟩:=Uf (n:=3) (by decide) h
 obtain ⟨key,fv,x,r2,rfl,hv,hok,hl,h2⟩:=Ug (n:=2) h1
 have:=On h2
 subst this
 exact TN Lz hT hv hok key
end Go.Mx.Tryz
