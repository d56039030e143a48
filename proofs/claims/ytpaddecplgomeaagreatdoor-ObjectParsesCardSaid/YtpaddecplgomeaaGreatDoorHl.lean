/- ObjectTexts and ObjectParses at every argument. -/
import Derived.Test.YtpaddecplgomeaaGreatDoorUc
import Derived.Test.YtpaddecplgomeaaGreatDoorStr
import Derived.Test.YtpaddecplgomeaaGreatDoorUn
set_option linter.unusedSimpArgs false
set_option linter.unusedVariables false
set_option linter.unusedSectionVars false
set_option maxRecDepth 100000
namespace Go.Mx.Tryz
open Go.Lib Go.Proofs
def GO (cl : List Int) (x : Nd) : List Int:=if 1 < x.1 then x.2.map (fun k=>(cl[k.toNat]?).getD 0) else x.2
def TH (l : List Nd) (nx : List (List Int)) (a : Int) (c : List Int) (i k : Nat) : Nat:=((List.range' k (i - k)).find? fun j=>decide (((l[j]?).getD (0,[])).1 = a /\ (nx[j]?).getD [] = c)).getD i
def Iq (l : List Nd) : Nat -> List Int × List (List Int)
 | 0=>([],[])
 | i + 1=>((Iq l i).1 ++ [(TH l (Iq l i).2 ((l[i]?).getD (0,[])).1 (GO (Iq l i).1 ((l[i]?).getD (0,[]))) i 0 : Int)],(Iq l i).2 ++ [GO (Iq l i).1 ((l[i]?).getD (0,[]))])
theorem Ku (l : List Nd) : ∀ i,(Iq l i).1.length = i /\ (Iq l i).2.length = i
 | 0=>⟨rfl,rfl⟩
 | i + 1=>by
  obtain ⟨h1,h2⟩:=Ku l i
  simp [Iq,h1,h2]
theorem Wq (l : List Nd) (nx : List (List Int)) (a : Int) (c : List Int) (i : Nat) : TH l nx a c i i = i:=by simp [TH]
theorem TG (l : List Nd) (nx : List (List Int)) (a : Int) (c : List Int) {i k : Nat} (h : k < i) : TH l nx a c i k = if ((l[k]?).getD (0,[])).1 = a /\ (nx[k]?).getD [] = c then k else TH l nx a c i (k + 1):=by
 unfold TH
 obtain ⟨m,hm⟩ : ∃ m,i - k = m + 1:=⟨i - k - 1,by omega⟩
 rw [hm,List.range'_succ,List.find?_cons,show i - (k + 1) = m from by omega]
 by_cases e : ((l[k]?).getD (0,[])).1 = a /\ (nx[k]?).getD [] = c
 ·rw [AeJ e,Afc e]
  rfl
 ·rw [AeF e,Afz e]
theorem LR.call2 {ty : Nat} {xs : List I} {o : V} {H : Hp} {ok : Nat -> Prop} (h : LR ty xs o H ok) {F : Nat} {w : I} {v : V} {H0 : Hp} (hp : G.prim F = none) (hs : G.sh F = false) (hg : Gives G F [.m w,.m (zL xs)] H0 v H0) (hf : Gg v = true) : Gives G F [.m w,o] H v H:=by
 have hv : Af (Mx.view 20 H) [.m w,o] = some [w,zL xs]:=by
  show (Mx.view 20 H (.m w)).bind _ = _
  rw [show Mx.view 20 H (.m w) = some w from rfl,AeM]
  show ((Mx.view 20 H o).bind _).bind _ = _
  rw [h.view 18]
  rfl
 refine Du (is:=[w,zL xs]) hp hs hg hv ?_
 rcases h with ⟨rfl,rfl⟩ | ⟨hne,r,hr,rfl,h3⟩
 ·exact .inl ⟨by simp [DT,GS],by simp [Bz,Cz]⟩
 ·exact .inr ⟨by simp [DT,GS],hf⟩
theorem LR.keepO {ty : Nat} {xs : List I} {o : V} {H H' : Hp} {ok : Nat -> Prop} (h : LR ty xs o H ok) (hk : ∀ r,AG o = some r -> r < H.length -> nth H' r = nth H r) : LR ty xs o H' ok:=by
 rcases h with h | ⟨hne,r,hr,e,h3⟩
 ·exact .inl h
 ·subst e
  exact .inr ⟨hne,r,hr,rfl,by rw [hk r rfl (AI h3)]; exact h3⟩
theorem LR.okr {ty : Nat} {xs : List I} {o : V} {H : Hp} {ok : Nat -> Prop} (h : LR ty xs o H ok) {r : Nat} (e : AG o = some r) : ok r:=by
 rcases h with ⟨_,rfl⟩ | ⟨hne,q,hr,rfl,h3⟩
 ·cases e
 ·cases e
  exact hr
theorem LR.bsf1 {ty : Nat} {xs : List I} {o : V} {H : Hp} {ok : Nat -> Prop} (h : LR ty xs o H ok) : ∃ z H2,(∀ B,Ai (fun _ _ _=>none) ⟨B,H⟩ (.bsf 1 [.m (.nl 4)] 1 [0]) [o] = some (.ls [[z]],⟨B,H2⟩)) /\ IsSl z (on1 xs) /\ BH (.m z) = true /\ H2.length = H.length /\ ∀ r,AG o ≠ some r -> nth H2 r = nth H r:=by
 have hv:=h.view 18
 rcases h with ⟨rfl,rfl⟩ | ⟨hne,r,hr,rfl,h3⟩
 ·exact ⟨.nl 4,H,fun B=>rfl,.inr ⟨rfl,rfl⟩,rfl,rfl,fun _ _=>rfl⟩
 ·refine ⟨zL xs,H.set r (.cs ty 1 (onV xs) 0 true),fun B=>?_,AcU xs,AcV xs,by simp,fun q hq=>Ar fun e=>hq (by rw [<- e]; rfl)⟩
  have e : Ai (fun _ _ _=>none) ⟨B,H⟩ (.bsf 1 [.m (.nl 4)] 1 [0]) [.sl r xs.length 1 0 xs.length false] = ((Af (fun e=>Af (Mx.view 20 H) e) [[V.sl r xs.length 1 0 xs.length false]]).bind fun l=>(AT [r] H).bind fun H'=>some (.ls l,⟨B,H'⟩)):=rfl
  rw [e,TI h3]
  simp only [Af,hv,AeM]
theorem VZ (cl : List Int) (x : Nd) : (GO cl x).length = x.2.length:=by unfold GO; split <;> simp
theorem Pw {l : List Nd} : ∀ (i j : Nat) (c : List Int),(Iq l i).2[j]? = some c -> ∃ cl,c = GO cl ((l[j]?).getD (0,[]))
 | 0,j,c,h=>by simp [Iq] at h
 | i + 1,j,c,h=>by
  obtain ⟨_,h2⟩:=Ku l i
  by_cases e : j < i
  ·refine Pw i j c ?_
   simp only [Iq] at h
   rwa [AeW (by omega)] at h
  ·simp only [Iq] at h
   rw [Afp (by omega),h2] at h
   cases hk : j - i with
   | zero =>
    rw [hk] at h
    have : j = i:=by omega
    subst this
    simp at h
    exact ⟨_,h.symm⟩
   | succ k =>
    rw [hk] at h
    simp at h
def WsOk (ws : List I) (nx : List (List Int)) : Prop:=ws.length = nx.length /\ ∀ (j : Nat) (c : List Int),nx[j]? = some c -> ∃ w,ws[j]? = some w /\ IsSl w (Dj c)
theorem WsOk.snoc {ws : List I} {nx : List (List Int)} {c : List Int} {w : I} (h : WsOk ws nx) (hw : IsSl w (Dj c)) : WsOk (ws ++ [w]) (nx ++ [c]):=by
 refine ⟨by simp [h.1],fun j d hj=>?_⟩
 by_cases e : j < nx.length
 ·rw [AeW e] at hj
  rw [AeW (by rw [h.1]; exact e)]
  exact h.2 j d hj
 ·rw [Afp (by omega)] at hj
  rw [Afp (by rw [h.1]; omega),h.1]
  cases hk : j - nx.length with
  | zero =>
   rw [hk] at hj
   simp at hj
   subst hj
   exact ⟨w,by simp,hw⟩
  | succ k =>
   rw [hk] at hj
   simp at hj
set_option maxHeartbeats 8000000 in
theorem cls_r {t : TreeC} {h n : I} {es : List (List I)} (hT : TreeV t h n es) (hle : es.length <= 4096) (h20 : ∀ x,x ∈ t.nodes -> x.2.length <= 100) (hv : ∀ (i : Nat) (x : Nd),t.nodes[i]? = some x -> 1 < x.1 -> ∀ k,k ∈ x.2 -> 0 <= k /\ k < (i : Int)) (HH : Hp) : Gives G 139 [.m n] HH (.m (zI (Iq t.nodes es.length).1)) HH:=by
 have rn:=hT.nd.rules
 have hln:=LM hT
 refine Ah rfl rfl rfl rfl rfl ?_
 simp (disch:=omega) []
 refine (?key2 : ∀ (i : Nat) (o3 o4 : V) (ws : List I) (B : List (Nat × List V)) (H : Hp),i <= es.length -> LR 3 (iI (Iq t.nodes i).1) o3 H Hk -> LR 41 ws o4 H Hk -> WsOk ws (Iq t.nodes i).2 ->
  Run G c139_B2 (S139_2 (.m n) o3 o4 (.m (.i .i64 (i : Int))) B H) _) 0 _ _ [] _ _ (AeR _) (.inl ⟨rfl,rfl⟩) (.inl ⟨rfl,rfl⟩) ⟨rfl,fun j c h=>by simp [Iq] at h⟩
 refine BO (fun i : Nat=>es.length - i) fun i ih o3 o4 ws B H hi h3 h4 hw=>?_
 unfold c139_B2
 obtain ⟨a1,a2,a3,a4⟩:=h3.nf
 obtain ⟨b1,b2,b3,b4⟩:=h4.nf
 obtain ⟨l1,l2⟩:=Ku t.nodes i
 cases hx : t.nodes[i]? with
 | none =>
  have : i = es.length:=by have:=AeU.1 hx; omega
  subst this
  have v1:=h3.viewR
  rcases h3 with ⟨e,rfl⟩ | ⟨hne,r,hr9,rfl,h5⟩
  ·have e' : (Iq t.nodes es.length).1 = []:=by simpa [iI] using e
   simp (disch:=omega) [rn,e']
   rfl
  ·simp only [CR] at v1
   simp (disch:=omega) [rn,v1]
   rfl
 | some x =>
  have hlt : i < es.length:=by rw [<- hln]; exact (AeG.1 hx).1
  have hlt' : (i : Int) < es.length:=by omega
  obtain ⟨zx,x1,x2,x3,_⟩:=OX hT hx
  have rx:=x2.rules
  simp only [Da] at rx
  have wi : wr .i64 ((i : Int) + 1) = ((i + 1 : Nat) : Int):=wr_i64 (by omega) (by omega)
  simp (disch:=omega) [rn,hlt']
  have h3' : LR 3 (iI (Iq t.nodes i).1) o3 H (· < H.length):=h3.keep (fun _ _=>rfl) (fun r _ h=>h)
  have h4' : LR 41 ws o4 H (· < H.length):=h4.keep (fun _ _=>rfl) (fun r _ h=>h)
  generalize hn0 : H.length = n0 at h3' h4'
  have hx20:=h20 x (AeO hx)
  generalize hcl : (Iq t.nodes i).1 = ks at *
  generalize hnx : (Iq t.nodes i).2 = nx at *
  have hnl : (GO ks x).length = x.2.length:=by unfold GO; split <;> simp
  have ih:=fun o3 o4 ws B H=>ih (i + 1) (by omega) o3 o4 ws B H (by omega)
  have hxi : (t.nodes[i]?).getD (0,[]) = x:=by rw [hx]; rfl
  simp only [Iq,hcl,hnx,hxi] at ih
  refine (?key0 : ∀ (s : Nat) (o6 : V) (B : List (Nat × List V)) (H : Hp),s <= x.2.length -> n0 <= H.length -> LR 3 (iI ks) o3 H (· < n0) -> LR 41 ws o4 H (· < n0) -> LR 3 (iI ((GO ks x).take s)) o6 H (n0 <= ·) ->
   Run G c139_B0 (S139_0 (.m n) o3 o4 (.m (.i .i64 (i : Int))) o6 (.m (.i .i64 (s : Int))) B H) _) 0 _ _ _ (AeR _) (by omega) h3' h4' (.inl ⟨rfl,rfl⟩)
  clear h3 h4 h3' h4' hn0 H B
  refine BO (fun s : Nat=>x.2.length - s) fun s ihs o6 B H hs hn h3 h4 h6=>?_
  unfold c139_B0
  obtain ⟨c1,c2,c3,c4⟩:=h6.nf
  cases hk : x.2[s]? with
  | some k =>
   have hlts:=(AeG.1 hk).1
   have hlts' : (s : Int) < x.2.length:=by omega
   have m1:=JM hk
   have ws1 : wr .i64 ((s : Int) + 1) = ((s + 1 : Nat) : Int):=wr_i64 (by omega) (by omega)
   have push : ∀ w : Int,(GO ks x)[s]? = some w -> ∃ o6' H2,(∀ B,Ai (fun _ _ _=>none) ⟨B,H⟩ (.app 3 1 8) [o6,.ls [[.i .i64 w]]] = some (o6',⟨B,H2⟩)) /\ Ax o6' = true /\ n0 <= H2.length /\ LR 3 (iI ks) o3 H2 (· < n0) /\ LR 41 ws o4 H2 (· < n0) /\ LR 3 (iI ((GO ks x).take (s + 1))) o6' H2 (n0 <= ·):=fun w hw=>by
    obtain ⟨o6',H2,p1,p2,p3,p4,p5,p6⟩:=h6.push (b:=8) (ys:=[.i .i64 w]) hn (by omega) (by simp; omega) (fun u hu=>by rw [List.mem_singleton] at hu; subst hu; rfl)
    refine ⟨o6',H2,fun B=>(Cm rfl).trans (p1 B),p2,p4,h3.keep (fun r hr=>p6 r hr) (fun r hr _=>hr),h4.keep (fun r hr=>p6 r hr) (fun r hr _=>hr),?_⟩
    rw [AQ hw,show iI ((GO ks x).take s ++ [w]) = iI ((GO ks x).take s) ++ [.i .i64 w] from (TC _ [w]).symm]
    exact p3
   by_cases hl1 : 1 < x.1
   ·obtain ⟨k0,k1⟩:=hv i x hx hl1 k (AeO hk)
    obtain ⟨m,rfl⟩ : ∃ m : Nat,k = (m : Int):=⟨k.toNat,by omega⟩
    have hml : m < ks.length:=by omega
    have hml' : (m : Int) < ks.length:=by omega
    obtain ⟨cw,hcw⟩ : ∃ cw,ks[m]? = some cw:=⟨ks[m],AeK hml⟩
    obtain ⟨q,e1,e2,e3⟩:=h3.rd (CS hcw)
    have hw : (GO ks x)[s]? = some cw:=by
     unfold GO
     rw [AeJ hl1,Afg,hk]
     simp [hcw]
    obtain ⟨o6',H2,p1,p2,p3,p4,p5,p6⟩:=push cw hw
    have k:=fun B=>ihs (s + 1) (by omega) o6' B H2 (by omega) p3 p4 p5 p6
    simp (disch:=omega) [rn,x1,rx,hlts',m1,hl1,e1,e3,-Ez,p1,Ag p2,ws1,-Int.natCast_add]
    exact k _
   ·have hw : (GO ks x)[s]? = some k:=by
     unfold GO
     rw [AeF hl1]
     exact hk
    obtain ⟨o6',H2,p1,p2,p3,p4,p5,p6⟩:=push k hw
    have kk:=fun B=>ihs (s + 1) (by omega) o6' B H2 (by omega) p3 p4 p5 p6
    simp (disch:=omega) [rn,x1,rx,hlts',m1,hl1,-Ez,p1,Ag p2,ws1,-Int.natCast_add]
    exact kk _
  | none =>
  have : s = x.2.length:=by have:=AeU.1 hk; omega
  subst this
  rw [<- hnl,AfM] at h6
  have w1 : wr .i64 ((i : Int) - 1) = (i : Int) - 1:=wr_i64 (by omega) (by omega)
  simp (disch:=omega) [rn,x1,rx,w1]
  have e0 : (i : Int) = (TH t.nodes nx x.1 (GO ks x) i i : Int):=by rw [Wq]
  refine (?key1 : ∀ (k : Nat) (f : Int) (B : List (Nat × List V)),k <= i -> f = (TH t.nodes nx x.1 (GO ks x) i k : Int) ->
   Run G c139_B1 (S139_1 (.m n) o3 o4 (.m (.i .i64 (i : Int))) o6 (.m (.i .i64 f)) (.m (.i .i64 ((k : Int) - 1))) B H) _) i i _ (AeI _) e0
  clear ihs e0 B
  refine BO (fun k : Nat=>k) fun k ihk f B hk hf=>?_
  unfold c139_B1
  cases k with
  | zero =>
   subst hf
   have hl3 : AG o3 = none \/ ∃ r,AG o3 = some r:=by cases AG o3 <;> simp
   obtain ⟨o3',H2,p1,p2,p3,p4,p5,p6⟩:=(h3.keep (H':=H) (ok':=Hk) (fun _ _=>rfl) (fun _ _ _=>AfE)).push1 (b:=8) (by omega) (y:=.i .i64 (TH t.nodes nx x.1 (GO ks x) i 0 : Int)) (by simp; omega) rfl
   have d34 : ∀ r,AG o4 = some r -> AG o3 ≠ some r:=fun r hr e=>by
    have:=(h4.row hr).symm.trans (h3.row e)
    cases this
   have d36 : ∀ r,AG o6 = some r -> AG o3 ≠ some r:=fun r hr e=>by
    have a : n0 <= r:=h6.okr hr
    have b : r < n0:=h3.okr e
    omega
   have h4b:=h4.keepO (H':=H2) fun r hr hl=>p5 r hl (d34 r hr)
   have h6b:=h6.keepO (H':=H2) fun r hr hl=>p5 r hl (d36 r hr)
   obtain ⟨zz,H3,q1,q2,q3,q4,q5⟩:=h6b.bsf1
   rw [Ma] at q2
   have d46 : ∀ r,AG o4 = some r -> AG o6 ≠ some r:=fun r hr e=>by
    have:=(h4.row hr).symm.trans (h6.row e)
    cases this
   have d3'6 : ∀ r,AG o3' = some r -> AG o6 ≠ some r:=fun r hr e=>by
    rcases p6 r hr with h | ⟨h,_⟩
    ·exact d36 r e h
    ·have:=h6.row_lt e
     omega
   have h4c:=h4b.keepO (H':=H3) fun r hr _=>q5 r (d46 r hr)
   have h3c:=p3.keepO (H':=H3) fun r hr _=>q5 r (d3'6 r hr)
   obtain ⟨o4',H5,s1,s2,s3,s4,s5,s6⟩:=(h4c.keep (H':=H3) (ok':=Hk) (fun _ _=>rfl) (fun _ _ _=>AfE)).push1 (b:=24) (by omega) (y:=zz) (by have:=hw.1; omega) q3
   have h3d:=h3c.keepO (H':=H5) fun r hr hl=>s5 r hl fun e=>by
    have:=(h3c.row hr).symm.trans (h4c.row e)
    cases this
   have kk:=fun B=>ih o3' o4' (ws ++ [zz]) B H5 (by rw [show iI (ks ++ [(TH t.nodes nx x.1 (GO ks x) i 0 : Int)]) = iI ks ++ [.i .i64 (TH t.nodes nx x.1 (GO ks x) i 0 : Int)] from (TC _ _).symm]; exact h3d) s3 (hw.snoc q2)
   have hm : ¬ (0 : Int) <= ((0 : Nat) : Int) - 1:=by omega
   simp (disch:=omega) [-Ez,p1,q1,s1,Ag p2,Ag s2,wi,-Int.natCast_add]
   exact kk _
  | succ k =>
   have hki : k < i:=by omega
   have hkl : k < es.length:=by omega
   have hkl' : (k : Int) < es.length:=by omega
   have wk : ((k + 1 : Nat) : Int) - 1 = (k : Int):=by omega
   have wk2 : wr .i64 ((k : Int) - 1) = (k : Int) - 1:=wr_i64 (by omega) (by omega)
   obtain ⟨y,hy⟩ : ∃ y,t.nodes[k]? = some y:=⟨t.nodes[k],AeK (by omega)⟩
   obtain ⟨zy,y1,y2,y3,_⟩:=OX hT hy
   obtain ⟨d,hd⟩ : ∃ d,nx[k]? = some d:=⟨nx[k],AeK (by omega)⟩
   obtain ⟨w,hw1,hw2⟩:=hw.2 k d hd
   obtain ⟨q,e1,e2,e3⟩:=h4.rd hw1
   have hst:=TG t.nodes nx x.1 (GO ks x) hki
   rw [hy,hd] at hst
   have hdl : d.length <= 9223372036854775807:=by
    obtain ⟨cl',e⟩:=Pw (l:=t.nodes) i k d (by rw [hnx]; exact hd)
    rw [e,VZ,hy]
    have:=h20 y (AeO hy)
    simp only [Option.getD_some]
    omega
   simp only [Option.getD_some] at hst
   rw [wk]
   by_cases u1 : y.1 = x.1
   ·have gs:=h6.call2 (F:=175) (w:=w) (v:=.m (.b (decide (d = GO ks x)))) (H0:=[]) rfl rfl (VO hw2 (zI_sl (GO ks x)) hdl []) rfl
    by_cases u2 : d = GO ks x
    ·rw [Afc u2] at gs
     rw [AeJ ⟨u1,u2⟩] at hst
     have kk:=fun B=>ihk k (by omega) k B (by omega) (by rw [hst])
     simp (disch:=omega) [Aa,rn,x1,y1,u1,e1,e3,cl gs,wk2,-Int.natCast_add]
     exact kk _
    ·rw [Afz u2] at gs
     rw [AeF fun e=>u2 e.2] at hst
     have kk:=fun B=>ihk k (by omega) f B (by omega) (by rw [hf,hst])
     simp (disch:=omega) [Aa,rn,x1,y1,u1,e1,e3,cl gs,wk2,-Int.natCast_add]
     exact kk _
   ·rw [AeF fun e=>u1 e.1] at hst
    have kk:=fun B=>ihk k (by omega) f B (by omega) (by rw [hf,hst])
    simp (disch:=omega) [Aa,rn,x1,y1,u1,wk2,-Int.natCast_add]
    exact kk _
end Go.Mx.Tryz
set_option maxRecDepth 1000000
namespace Go.Mx.Tryz
open Go.Proofs
def ndI (x : Nd) : List I:=[.i .i64 x.1,.sl (Dj x.2)]
theorem TN (x : Nd) : dNd (ndI x) = x:=by
 obtain ⟨a,l⟩:=x
 show (a,(Dj l).map dEn) = (a,l)
 rw [show (Dj l).map dEn = l from by unfold Dj; rw [AfW]; exact List.map_id'' (fun _=>rfl) l]
theorem dNds (l : List Nd) : (l.map ndI).map dNd = l:=by rw [AfW]; exact List.map_id'' (fun x=>TN x) l
theorem OW {S : Int} {hd : Hd} {ns : List Nd} (hb : bdN ns = true) (h1 : hd.length <= 1000) (h2 : ns.length <= 1000000) : TreeV ⟨S,hd,ns⟩ (.sl (Ay hd)) (.sl (ns.map ndI)) (ns.map ndI):=by
 refine ⟨Ci _,Ci _,Tj (fun e he=>?_) (by rw [dNds]; exact hb),(dNds ns).symm,AfP h1 (by omega),AfP (by rw [AeX]; exact h2) (by omega : 1000000 <= 9223372036854775807)⟩
 obtain ⟨x,_,rfl⟩:=Afb.1 he
 refine ⟨x.1,_,rfl,?_⟩
 rw [show dIn (.sl (Dj x.2)) = x.2 from congrArg Prod.snd (TN x)]
 exact Ci _
theorem AdV {eo : List (List I)} {ns : List Nd} (hv : Ky eo) (he : eo.map dNd = ns) (hn : ∀ x,x ∈ ns -> x.2 ≠ []) : eo = ns.map ndI:=by
 subst he
 rw [AfW]
 refine ((List.map_congr_left fun e hm=>?_).trans (List.map_id'' (fun _=>rfl) eo)).symm
 obtain ⟨x,z,rfl,hz⟩:=hv e hm
 have h0 : dIn z ≠ []:=hn (x,dIn z) (Afb.2 ⟨_,hm,rfl⟩)
 rcases hz with h | ⟨_,h⟩
 ·show [I.i .i64 x,.sl (Dj (dIn z))] = [.i .i64 x,z]
  rw [<- h]
 ·exact absurd (List.map_eq_nil_iff.1 h) h0
def hdL : Hd:=[(-1,-1),(0,-1),(1,-1),(-1,0),(0,0),(1,0),(-1,1),(0,1),(1,1)]
def nsL : List Nd:=[(1,[0,0]),(2,[0,0]),(1,[0,1]),(2,[0,2]),(3,[1,3]),(1,[1,0]),(2,[2,5]),(3,[3,6]),(4,[4,7]),(1,[1,1]),(2,[2,9]),(3,[3,10]),(2,[9,5]),(3,[10,12]),(4,[11,13]),(5,[8,14]),(2,[5,0]),(3,[6,16]),(4,[7,17]),(3,[12,16]),(4,[13,19]),(5,[18,20]),(6,[15,21]),(3,[16,1]),(4,[17,23]),(4,[19,23]),(5,[24,25]),(6,[21,26]),(7,[22,27]),(3,[1,1]),(4,[23,29]),(5,[30,30]),(6,[26,31]),(7,[27,32]),(8,[28,33]),(4,[29,29]),(5,[35,35]),(6,[31,36]),(7,[32,37]),(8,[33,38]),(9,[34,39])]
def nsP : List Nd:=[(1,[0,0]),(1,[0,0]),(1,[0,0]),(1,[0,1]),(1,[0,1]),(1,[1,1]),(1,[1,0]),(1,[1,0]),(1,[0,0]),(1,[0,0]),(1,[0,0]),(1,[0,0]),(1,[0,0]),(1,[0,0]),(1,[0,0]),(1,[0,0]),(1,[0,0]),(1,[0,0]),(2,[0,2]),(2,[1,3]),(2,[2,4]),(2,[3,5]),(2,[4,6]),(2,[5,7]),(2,[6,8]),(2,[7,9]),(2,[8,10]),(2,[9,11]),(2,[10,12]),(2,[11,13]),(2,[12,14]),(2,[13,15]),(2,[14,16]),(2,[15,17]),(3,[18,20]),(3,[19,21]),(3,[20,22]),(3,[21,23]),(3,[22,24]),(3,[23,25]),(3,[24,26]),(3,[25,27]),(3,[26,28]),(3,[27,29]),(3,[28,30]),(3,[29,31]),(3,[30,32]),(3,[31,33]),(4,[34,36]),(4,[35,37]),(4,[36,38]),(4,[37,39]),(4,[38,40]),(4,[39,41]),(4,[40,42]),(4,[41,43]),(4,[42,44]),(4,[43,45]),(4,[44,46]),(4,[45,47]),(5,[48,49]),(5,[48,49]),(5,[50,51]),(5,[50,51]),(5,[52,53]),(5,[52,53]),(5,[54,55]),(5,[54,55]),(5,[56,57]),(5,[56,57]),(6,[60,62]),(6,[61,63]),(6,[62,64]),(6,[63,65]),(6,[64,66]),(6,[65,67]),(6,[66,68]),(6,[67,69]),(7,[70,72]),(7,[71,73]),(7,[72,74]),(7,[73,75]),(7,[74,76]),(7,[75,77]),(8,[78,80]),(8,[79,81]),(8,[80,82]),(8,[81,83]),(9,[84,86])]
theorem Kk : CY = .ag [.i .i64 2,.sl (Ay hdL),.sl (nsL.map ndI)]:=by kernel_rfl
theorem Xm : CP ⟨2,hdL,nsL⟩ = true:=by kernel_rfl
theorem ZP : VR nsL = nsL:=by kernel_rfl
def preE : I:=.ag [iE 2,.sl (Ay hdL),.sl (nsP.map ndI)]
theorem preV : TreeV ⟨2,hdL,nsP⟩ (.sl (Ay hdL)) (.sl (nsP.map ndI)) (nsP.map ndI):=OW (by kernel_rfl) (by decide) (by decide)
def T13 : List Ent:=⟨40,[preE],.m (.b true)⟩ :: T12
theorem Adw : Be G T13:=AL mono Adx (n:=100000) (by kernel_rfl)
def clP : List Int:=(Iq nsP 89).1
def T14 : List Ent:=⟨139,[.sl (nsP.map ndI)],.m (.sl (Dj clP))⟩ :: T13
theorem Adv : Be G T14:=FR mono Adw (by
 have h1 : nsP.all (fun x=>Nat.ble x.2.length 100) = true:=by kernel_rfl
 have h2 : (nsP.zipIdx).all (fun p=>decide (p.1.1 <= 1) || p.1.2.all fun k=>decide (0 <= k /\ k < (p.2 : Int))) = true:=by kernel_rfl
 have g:=cls_r preV (by decide) (fun x hx=>AfS (AeQ.1 h1 x hx)) (fun i x hx h k hk=>by
  have h3:=AeQ.1 h2 (x,i) (List.mk_mem_zipIdx_iff_getElem?.2 hx)
  simp only [AfV,Afe,AeQ] at h3
  rcases h3 with h3 | h3
  ·omega
  ·exact h3 k hk) []
 have e : zI (Iq nsP (nsP.map ndI).length).1 = .sl (Dj clP):=by kernel_rfl
 rw [<- e]
 exact g)
def T15 : List Ent:=⟨88,[.sl (nsP.map ndI)],.m (.sl (nsL.map ndI))⟩ :: T14
theorem Adu : Be G T15:=AL mono Adv (n:=100000) (by kernel_rfl)
def T16 : List Ent:=⟨87,[preE],.m CY⟩ :: T15
theorem Adt : Be G T16:=AL mono Adu (n:=100000) (by kernel_rfl)
def T17 : List Ent:=⟨103,[CY],.m (.b true)⟩ :: T16
theorem Ads : Be G T17:=AL mono Adt (n:=100000) (by kernel_rfl)
def T18 : List Ent:=⟨107,[.sl (Ay hdL),.sl (Ay hdL)],.m (.b true)⟩ :: T17
theorem Adr : Be G T18:=AL mono Ads (n:=100000) (by kernel_rfl)
def T19 : List Ent:=⟨108,[CY,CY],.m (.b true)⟩ :: T18
theorem OY : Be G T19:=AL mono Adr (n:=100000) (by kernel_rfl)
theorem trn0 : Ia 0 2 hdL nsL = some (hdL,nsL):=by kernel_rfl
theorem trn1 : Ia 1 2 hdL nsL = some (hdL,nsL):=by kernel_rfl
theorem trn2 : Ia 2 2 hdL nsL = some (hdL,nsL):=by kernel_rfl
theorem trn3 : Ia 3 2 hdL nsL = some (hdL,nsL):=by kernel_rfl
theorem trn4 : Ia 4 2 hdL nsL = some (hdL,nsL):=by kernel_rfl
theorem trn5 : Ia 5 2 hdL nsL = some (hdL,nsL):=by kernel_rfl
theorem trn6 : Ia 6 2 hdL nsL = some (hdL,nsL):=by kernel_rfl
theorem trn7 : Ia 7 2 hdL nsL = some (hdL,nsL):=by kernel_rfl
theorem Zp (k : Nat) (hk : k < 8) : Ia (k : Int) 2 hdL nsL = some (hdL,nsL):=by
 match k,hk with
 | 0,_=>exact trn0
 | 1,_=>exact trn1
 | 2,_=>exact trn2
 | 3,_=>exact trn3
 | 4,_=>exact trn4
 | 5,_=>exact trn5
 | 6,_=>exact trn6
 | 7,_=>exact trn7
def T20 : List Ent:=⟨28,[CY],.m NF⟩ :: T19
theorem Adq : Be G T20:=FR mono OY (by
 have hT : TreeV ⟨2,hdL,nsL⟩ (.sl (Ay hdL)) (.sl (nsL.map ndI)) (nsL.map ndI):=OW (by kernel_rfl) (by decide) (by decide)
 have gt : ∀ H,Gives G 103 [.m (.ag [.i .i64 2,.sl (Ay hdL),.sl (nsL.map ndI)])] H (.m (.b (CP ⟨2,hdL,nsL⟩))) H:=fun H=>by
  rw [Xm,<- Kk]
  exact Jz mono OY (n:=10) (by kernel_rfl)
 have gs : Gives G 108 [.m (.ag [.i .i64 2,.sl (Ay hdL),.sl (nsL.map ndI)]),.m (.ag [.i .i64 2,.sl (Ay hdL),.sl (nsL.map ndI)])] [] (.m (.b true)) []:=by
  rw [<- Kk]
  exact Jz mono OY (n:=10) (by kernel_rfl)
 show Gives G 28 [.m CY] [] (.m (.sl (Dj (QM 8)))) []
 rw [Kk]
 exact AdA hT gt (fun H=>Jz mono OY (n:=10) (by kernel_rfl)) gs (fun eo h1 h2=>AdV h1 h2 (by decide)) Xm ZP Zp [])
def T21 : List Ent:=⟨26,[],.m CY⟩ :: T20
theorem Adp : Be G T21:=AL mono Adq (n:=100000) (by kernel_rfl)
def T22 : List Ent:=⟨27,[CY,.sl [[iE 0,iE 0,iE 1],[iE 1,iE 0,iE 1],[iE 2,iE 0,iE 1]],iE 2],.tu [.m (.ag [iE 2,iE 0,iE 0]),.m (.b true),.m (iE 0)]⟩ :: T21
theorem Ado : Be G T22:=AL mono Adp (n:=100000) (by kernel_rfl)
def T23 : List Ent:=⟨27,[CY,.sl [[iE 0,iE 0,iE 1],[iE 1,iE 0,iE 1],[iE 2,iE 0,iE 1],[iE 0,iE 1,iE 1],[iE 1,iE 2,iE 1]],iE 4],.tu [.m (.ag [iE 4,iE (-1),iE (-1)]),.m (.b true),.m (iE 0)]⟩ :: T22
theorem Adn : Be G T23:=AL mono Ado (n:=100000) (by kernel_rfl)
def T24 : List Ent:=⟨29,[CY,.sl [[iE 0,iE 0,iE 1],[iE 1,iE 0,iE 1],[iE 2,iE 0,iE 1]],iE 1],.tu [.m (.sl [[.sl [[iE 0,iE 0,iE 1],[iE 1,iE 0,iE 1],[iE 2,iE 0,iE 1]]],[.sl [[iE 1,iE (-1),iE 1],[iE 1,iE 0,iE 1],[iE 1,iE 1,iE 1]]]]),.m (iE 0)]⟩ :: T23
theorem Adm : Be G T24:=AL mono Adn (n:=100000) (by kernel_rfl)
def T25 : List Ent:=⟨29,[CY,.sl [[iE 0,iE 0,iE 1],[iE 1,iE 0,iE 1],[iE 2,iE 0,iE 1],[iE 0,iE 1,iE 1],[iE 1,iE 2,iE 1]],iE 3],.tu [.m (.sl [[.sl [[iE 0,iE 0,iE 1],[iE 1,iE 0,iE 1],[iE 2,iE 0,iE 1],[iE 0,iE 1,iE 1],[iE 1,iE 2,iE 1]]],[.sl [[iE 1,iE (-1),iE 1],[iE 0,iE 0,iE 1],[iE 1,iE 0,iE 1],[iE 0,iE 1,iE 1],[iE 2,iE 1,iE 1]]],[.sl [[iE 0,iE (-1),iE 1],[iE 1,iE (-1),iE 1],[iE 0,iE 0,iE 1],[iE 2,iE 0,iE 1],[iE 0,iE 1,iE 1]]],[.sl [[iE 0,iE (-1),iE 1],[iE 1,iE (-1),iE 1],[iE (-1),iE 0,iE 1],[iE 0,iE 0,iE 1],[iE 1,iE 1,iE 1]]]]),.m (iE 0)]⟩ :: T24
theorem Adl : Be G T25:=AL mono Adm (n:=100000) (by kernel_rfl)
def T26 : List Ent:=⟨31,[.sl [[iE 0,iE 0,iE 1],[iE 1,iE 0,iE 1],[iE 2,iE 0,iE 1]],NF],.tu [.m (.sl [[iE 0,iE 0,iE 1],[iE 1,iE 0,iE 1],[iE 2,iE 0,iE 1]]),.m (iE 0)]⟩ :: T25
theorem Adk : Be G T26:=AL mono Adl (n:=100000) (by kernel_rfl)
def T27 : List Ent:=⟨31,[.sl [[iE 1,iE (-1),iE 1],[iE 1,iE 0,iE 1],[iE 1,iE 1,iE 1]],NF],.tu [.m (.sl [[iE 0,iE 0,iE 1],[iE 1,iE 0,iE 1],[iE 2,iE 0,iE 1]]),.m (iE 0)]⟩ :: T26
theorem Adj : Be G T27:=AL mono Adk (n:=100000) (by kernel_rfl)
def T28 : List Ent:=⟨31,[.sl [[iE 0,iE 0,iE 1],[iE 1,iE 0,iE 1],[iE 2,iE 0,iE 1],[iE 0,iE 1,iE 1],[iE 1,iE 2,iE 1]],NF],.tu [.m (.sl [[iE 0,iE 0,iE 1],[iE 1,iE 0,iE 1],[iE 2,iE 0,iE 1],[iE 0,iE 1,iE 1],[iE 1,iE 2,iE 1]]),.m (iE 0)]⟩ :: T27
theorem Adi : Be G T28:=AL mono Adj (n:=100000) (by kernel_rfl)
def T29 : List Ent:=⟨31,[.sl [[iE 1,iE (-1),iE 1],[iE 0,iE 0,iE 1],[iE 1,iE 0,iE 1],[iE 0,iE 1,iE 1],[iE 2,iE 1,iE 1]],NF],.tu [.m (.sl [[iE 0,iE 0,iE 1],[iE 1,iE 0,iE 1],[iE 1,iE 1,iE 1],[iE 2,iE 1,iE 1],[iE 0,iE 2,iE 1]]),.m (iE 0)]⟩ :: T28
theorem Adh : Be G T29:=AL mono Adi (n:=100000) (by kernel_rfl)
def T30 : List Ent:=⟨31,[.sl [[iE 0,iE (-1),iE 1],[iE 1,iE (-1),iE 1],[iE 0,iE 0,iE 1],[iE 2,iE 0,iE 1],[iE 0,iE 1,iE 1]],NF],.tu [.m (.sl [[iE 0,iE 0,iE 1],[iE 1,iE 0,iE 1],[iE 2,iE 0,iE 1],[iE 0,iE 1,iE 1],[iE 1,iE 2,iE 1]]),.m (iE 0)]⟩ :: T29
theorem Adg : Be G T30:=AL mono Adh (n:=100000) (by kernel_rfl)
def T31 : List Ent:=⟨31,[.sl [[iE 0,iE (-1),iE 1],[iE 1,iE (-1),iE 1],[iE (-1),iE 0,iE 1],[iE 0,iE 0,iE 1],[iE 1,iE 1,iE 1]],NF],.tu [.m (.sl [[iE 0,iE 0,iE 1],[iE 1,iE 0,iE 1],[iE 1,iE 1,iE 1],[iE 2,iE 1,iE 1],[iE 0,iE 2,iE 1]]),.m (iE 0)]⟩ :: T30
theorem Adf : Be G T31:=AL mono Adg (n:=100000) (by kernel_rfl)
def T32 : List Ent:=⟨10,[CY,.sl [[iE 5,iE 1,iE 1],[iE 5,iE 2,iE 1],[iE 5,iE 3,iE 1]],iE 2],.tu [.m (.ag [iE 2,iE 0,iE 0,.s [51,65]]),.m (.b true),.m (iE 0)]⟩ :: T31
theorem Ade : Be G T32:=AL mono Adf (n:=100000) (by kernel_rfl)
def T33 : List Ent:=⟨10,[CY,.sl [[iE 1,iE 0,iE 1],[iE 2,iE 1,iE 1],[iE 0,iE 2,iE 1],[iE 1,iE 2,iE 1],[iE 2,iE 2,iE 1]],iE 4],.tu [.m (.ag [iE 4,iE (-1),iE (-1),.s [51,65,36,65,36,46,65]]),.m (.b true),.m (iE 0)]⟩ :: T32
theorem Add : Be G T33:=AL mono Ade (n:=100000) (by kernel_rfl)
def T34 : List Ent:=⟨10,[CY,.sl [[iE 1,iE 0,iE 1],[iE 2,iE 1,iE 1],[iE 0,iE 2,iE 1],[iE 1,iE 2,iE 1],[iE 2,iE 2,iE 1]],iE 3],.tu [.m (.ag [iE 0,iE 0,iE 0,.s []]),.m (.b false),.m (iE 0)]⟩ :: T33
theorem Adc : Be G T34:=AL mono Add (n:=100000) (by kernel_rfl)
def T35 : List Ent:=⟨10,[CY,.sl [[iE 0,iE 0,iE 1],[iE 1,iE 0,iE 1],[iE 2,iE 0,iE 1]],iE 2],.tu [.m (.ag [iE 2,iE 0,iE 0,.s [51,65]]),.m (.b true),.m (iE 0)]⟩ :: T34
theorem Adb : Be G T35:=AL mono Adc (n:=100000) (by kernel_rfl)
def T36 : List Ent:=⟨10,[CY,.sl [[iE 0,iE 0,iE 1],[iE 1,iE 0,iE 1],[iE 2,iE 0,iE 1],[iE 0,iE 1,iE 1],[iE 1,iE 2,iE 1]],iE 4],.tu [.m (.ag [iE 4,iE (-1),iE (-1),.s [51,65,36,65,36,46,65]]),.m (.b true),.m (iE 0)]⟩ :: T35
theorem Ada : Be G T36:=AL mono Adb (n:=100000) (by kernel_rfl)
theorem Aai : Gives G 9 [] [] (.m (.b true)) []:=Jz mono Ada (n:=100000) (by kernel_rfl)
theorem Qx (us : List V) (h : Fb Go.Proofs.Tryz.prog maxLen 8 Go.Proofs.Tryz.f6.params.toList us) : Gives G 6 us [] (.m (.b true)) []:=Kc Aai us h
end Go.Mx.Tryz
