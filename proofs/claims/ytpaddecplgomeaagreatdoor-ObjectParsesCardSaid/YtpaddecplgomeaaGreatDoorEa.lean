/- Decode of both. -/
import Derived.Test.YtpaddecplgomeaaGreatDoorDx
import Derived.Test.YtpaddecplgomeaaGreatDoorStr
import Derived.Test.YtpaddecplgomeaaGreatDoorCp
set_option linter.unusedSimpArgs false
set_option linter.unusedVariables false
set_option linter.unusedSectionVars false
set_option maxRecDepth 100000
set_option maxHeartbeats 4000000
namespace Go.Mx.Tryz
open Go.Sort Go.Lib Go.Proofs
def letS : List Nat:=[46,65,66,67,68,69,70,71,36]
theorem Aab : ∀ c : Nat,c < 256 -> ixB letS c 0 = (lix c).getD (-1):=by
  have h : ∀ c : Fin 256,ixB letS c.1 0 = (lix c.1).getD (-1):=by decide +kernel
  exact fun c hc=>h ⟨c,hc⟩
theorem sib_s (c : Nat) (hc : c < 256) (H : Hp) : Gives G 177 [.m (.s [46,65,66,67,68,69,70,71,36]),.m (.i .u8 (c : Int))] H (.m (.i .i64 ((lix c).getD (-1)))) H:=by
  have g:=fun H=>ib_s [46,65,66,67,68,69,70,71,36] c hc H
  have e : ixB [46,65,66,67,68,69,70,71,36] c 0 = (lix c).getD (-1):=Aab c hc
  rw [e] at g
  refine Ah rfl rfl rfl rfl rfl ?_
  simp (disch:=omega) [cl (g _)]
theorem Ts {c : Nat} {k : Int} (h : lix c = some k) : 0 <= k /\ k <= 8:=by
  unfold lix at h
  split at h
  · cases h; decide
  · split at h
    · cases h; decide
    · split at h
      · cases h; omega
      · cases h
theorem Fn {f : List Ce} {x y k : Int} {m : Nat} : (f ++ AW x y k m).length = f.length + m:=by rw [AeL,EL]
theorem GE (s : V) (x y k : Int) (m : Nat) (f0 : List Ce) (ln ix : V) (K : K) (hx : 0 <= x /\ x <= 4194304) (hk : 0 <= k /\ k <= 8) (hm : m <= 10000000) (hfm : 0 < k -> f0.length + m <= 5000)
    (hend : ∀ (x12 o : V) (B : List (Nat × List V)) (H : Hp),KG (if k = 0 then f0 else f0 ++ AW x y k m) o H -> At' G (.ex 3) ⟨[(0,s),(4,o),(5,.m (.i .i64 x)),(6,.m (.i .i64 y)),(7,.m (.i .i64 (m : Int))),(11,.m (.i .i64 k)),(12,x12),(14,ln),(15,ix),(49,.m (.b false))],[],⟨B,H⟩⟩ K) :
    ∀ (j : Nat) (o : V) (B : List (Nat × List V)) (H : Hp),j <= m -> (k = 0 -> j = 0) -> KG (f0 ++ (if k = 0 then [] else AW x y k j)) o H -> Run G c143_B0 (S143_0 s o (.m (.i .i64 x)) (.m (.i .i64 y)) (.m (.i .i64 (m : Int))) (.m (.i .i64 k)) (.m (.i .i64 (j : Int))) ln ix B H) (.seq c143_L0 K):=by
  refine BO (fun j : Nat=>m - j) fun j ih o B H hj hk0 ho=>?_
  unfold c143_B0
  by_cases h0 : k = 0
  · subst h0
    have:=hk0 rfl
    subst this
    have k1:=hend (.m (.i .i64 0)) o B H (by simpa using ho)
    simp (disch:=omega) []
    exact k1
  · rw [AeF h0] at ho
    have hkp : 0 < k:=by omega
    have hf:=hfm hkp
    obtain ⟨hvw,hnf⟩:=BE ho
    by_cases hjm : j < m
    · have hjm' : (j : Int) < m:=by omega
      have w1 : wr .i64 ((j : Int) + 1) = ((j + 1 : Nat) : Int):=wr_i64 (by omega) (by omega)
      have w2 : wr .i64 (x + (j : Int)) = x + j:=wr_i64 (by omega) (by omega)
      obtain ⟨o1,H1,ha,hn1,ho1⟩:=Ct ho (by rw [Fn]; omega) ⟨x + j,y,k⟩
      dsimp only at ha
      have k1:=ih (j + 1) (by omega) o1 B H1 (by omega) (fun h=>absurd h h0) (by rw [AeF h0]; rw [AeS] at ho1; exact ho1)
      simp (disch:=omega) [hkp,hjm',w1,w2,ha,Ag hn1,-Int.natCast_add]
      exact k1
    · have : j = m:=by omega
      subst this
      have k1:=hend (.m (.i .i64 (j : Int))) o B H (by rw [AeF h0]; exact ho)
      simp (disch:=omega) [hkp]
      exact k1
theorem Ta {f : List Ce} {o : V} {H : Hp} (h : KG f o H) : Aj (.len false) [o] = some (.m (.i .i64 (f.length : Nat))):=by
  rcases h with ⟨rfl,rfl,rfl⟩ | ⟨_,rfl,_⟩ <;> rfl
theorem SZ {f : List Ce} {o : V} {H : Hp} (h : KG f o H) : view 20 H o = some (zP f):=by
  rcases h with ⟨rfl,rfl,rfl⟩ | ⟨hne,rfl,rfl⟩
  · rfl
  · have:=Nj (r:=0) (b:=0) (X:=[]) (A:=[]) (q:=f) (n:=f.length) rfl (AeR _) 18
    rw [this]
    unfold zP
    rw [AeF hne]
def PK (s : List Nat) (x : V) (H' : Hp) : Prop:=H' = [] /\ ∃ w,(∀ l,Fa ⟨0,0,[]⟩ 0 0 s = some l -> w = zP l) /\ x = .tu [.m w,.m (.b (Fa ⟨0,0,[]⟩ 0 0 s).isSome)]
theorem TV {s : List Nat} {H' : Hp} (h : Fa ⟨0,0,[]⟩ 0 0 s = none) (w : I) (hH : H' = []) : PK s (.tu [.m w,.m (.b false)]) H':=⟨hH,w,fun l hl=>(by rw [h] at hl; cases hl),by rw [h]; rfl⟩
theorem TU {s : List Nat} {H' : Hp} {l : List Ce} (h : Fa ⟨0,0,[]⟩ 0 0 s = some l) (hH : H' = []) : PK s (.tu [.m (zP l),.m (.b true)]) H':=⟨hH,zP l,fun l' hl=>(by rw [h] at hl; cases hl; rfl),by rw [h]; rfl⟩
theorem Aaq (s : List Nat) (hb : ∀ c,c ∈ s -> c < 256) (hl : s.length <= 1000000) (H : Hp) :
    ∃ w,(∀ l,Fa ⟨0,0,[]⟩ 0 0 s = some l -> w = zP l) /\ Gives G 143 [.m (.s s)] H (.tu [.m w,.m (.b (Fa ⟨0,0,[]⟩ 0 0 s).isSome)]) H:=by
  have key : ∃ x H',Gives G 143 [.m (.s s)] H x H' /\ (H' = H /\ PK s x []):=by
    refine BX ?_
    refine Hw rfl rfl rfl rfl rfl ?_
    generalize hQ : (fun (x : V) (H' : Hp)=>H' = H /\ PK s x []) = Q
    have qno : Fa ⟨0,0,[]⟩ 0 0 s = none -> ∀ w : I,Q (.tu [.m w,.m (.b false)]) H:=fun h w=>by rw [<- hQ]; exact ⟨rfl,TV h w rfl⟩
    have qok : ∀ l,Fa ⟨0,0,[]⟩ 0 0 s = some l -> Q (.tu [.m (zP l),.m (.b true)]) H:=fun l h=>by rw [<- hQ]; exact ⟨rfl,TU h rfl⟩
    clear hQ
    simp (disch:=omega) []
    refine (?key : ∀ (i : Nat) (x y : Int) (f : List Ce) (n d : Nat) (o : V) (B : List (Nat × List V)) (H1 : Hp),i <= s.length -> KG f o H1 -> Fa ⟨0,0,[]⟩ 0 0 s = Fa ⟨x,y,f⟩ n d (s.drop i) -> (0 <= x /\ x <= 4194304) -> (0 <= y /\ y <= 4194304) -> f.length <= 5000 -> d <= 7 -> n < 10 ^ d -> Run G c143_B1 (S143_1 (.m (.s s)) o (.m (.i .i64 x)) (.m (.i .i64 y)) (.m (.i .i64 (n : Int))) (.m (.i .i64 (d : Int))) (.m (.i .i64 s.length)) (.m (.i .i64 (i : Int))) B H1) _) 0 0 0 [] 0 0 _ _ _ (AeR _) (.inl ⟨rfl,rfl,rfl⟩) rfl (by omega) (by omega) (by simp) (by omega) (by decide)
    refine BO (fun i : Nat=>s.length - i) fun i ih x y f n d o B H1 hi ho hp hx hy hf hd hn=>?_
    have hvw:=SZ ho
    have hnf:=(BE ho).2
    unfold c143_B1
    cases hc : s[i]? with
    | none =>
      have : i = s.length:=by have:=AeU.1 hc; omega
      subst this
      rw [AfR] at hp
      by_cases hd0 : d = 0
      · have e : Fa ⟨x,y,f⟩ n d [] = some f:=by show (if d = 0 then some f else none) = _; rw [AeJ hd0]
        have k:=qok f (hp.trans e)
        simp (disch:=omega) [hd0,Ag hnf,hvw]
        exact ⟨hnf,k⟩
      · have e : Fa ⟨x,y,f⟩ n d [] = none:=by show (if d = 0 then some f else none) = _; rw [AeF hd0]
        have k:=qno (hp.trans e) (zP f)
        simp (disch:=omega) [hd0,Ag hnf,hvw]
        exact ⟨hnf,k⟩
    | some c =>
      have hlt:=(Av hc).1
      have hlt' : (i : Int) < s.length:=by omega
      have hnn : nth s i = some c:=by rw [AA]; exact hc
      have hc256:=hb c (AeO hc)
      have wi : wr .i64 ((i : Int) + 1) = ((i + 1 : Nat) : Int):=wr_i64 (by omega) (by omega)
      have hpow : 10 ^ d <= 10 ^ 7:=Nat.pow_le_pow_right (by decide) hd
      have hn7 : n < 10000000:=Agc hn hpow
      rw [(Av hc).2] at hp
      by_cases hdg : GP c
      · have hp2 : Fa ⟨x,y,f⟩ n d (c :: s.drop (i + 1)) = if 7 < d + 1 then none else Fa ⟨x,y,f⟩ (10 * n + (c - 48)) (d + 1) (s.drop (i + 1)):=by
          show (if GP c then _ else _) = _
          rw [AeJ hdg]
        rw [hp2] at hp
        obtain ⟨c1,c2⟩:=hdg
        have c1' : (48 : Int) <= c:=by omega
        have c2' : (c : Int) <= 57:=by omega
        have w8 : wr .u8 ((c : Int) - 48) = (c : Int) - 48:=GJ (by omega) (by omega)
        have w9 : wr .i64 ((c : Int) - 48) = (c : Int) - 48:=wr_i64 (by omega) (by omega)
        have w10 : wr .i64 (10 * (n : Int)) = 10 * (n : Int):=wr_i64 (by omega) (by omega)
        obtain ⟨m,hm⟩ : ∃ m,m = 10 * n + (c - 48):=⟨_,rfl⟩
        have w11 : wr .i64 (10 * (n : Int) + ((c : Int) - 48)) = (m : Int):=by rw [wr_i64 (by omega) (by omega)]; omega
        obtain ⟨d1,hd1⟩ : ∃ d1,d1 = d + 1:=⟨_,rfl⟩
        have w12 : wr .i64 ((d : Int) + 1) = (d1 : Int):=by rw [wr_i64 (by omega) (by omega)]; omega
        rw [<- hm,<- hd1] at hp
        by_cases h7 : 7 < d1
        · have h7' : (7 : Int) < d1:=by omega
          rw [AeJ h7] at hp
          have k:=qno hp (.nl 4)
          simp (disch:=omega) [hlt',hnn,c1',c2',w8,w9,w10,w11,w12,h7']
          exact k
        · have h7' : ¬ (7 : Int) < d1:=by omega
          rw [AeF h7] at hp
          have hm2 : m < 10 ^ d1:=by
            rw [hd1,Nat.pow_succ,hm]
            have : c - 48 <= 9:=by omega
            omega
          have k:=ih (i + 1) (by omega) x y f m d1 o B H1 (by omega) ho hp hx hy hf (by omega) hm2
          simp (disch:=omega) [hlt',hnn,c1',c2',w8,w9,w10,w11,w12,h7',wi,-Int.natCast_add]
          exact k
      · have hp2 : Fa ⟨x,y,f⟩ n d (c :: s.drop (i + 1)) = match lix c with
            | none=>none
            | some k=>if 0 < k /\ k < 8 /\ 5000 < f.length + (if d = 0 then 1 else n) then none
              else if 4194304 < max (act ⟨x,y,f⟩ (if d = 0 then 1 else n : Nat) k).x (act ⟨x,y,f⟩ (if d = 0 then 1 else n : Nat) k).y then none else Fa (act ⟨x,y,f⟩ (if d = 0 then 1 else n : Nat) k) 0 0 (s.drop (i + 1)):=by
          show (if GP c then _ else _) = _
          rw [AeF hdg]
          rfl
        rw [hp2] at hp
        have gx:=fun H=>sib_s c hc256 H
        have tdg : ((decide ((48 : Int) <= c) = true) -> decide ((c : Int) <= 57) = false):=fun h=>by
          have h1:=of_decide_eq_true h
          exact Afz fun h2=>hdg ⟨by omega,by omega⟩
        have hcase : (¬ 48 <= c) \/ (48 <= c /\ ¬ c <= 57):=by
          by_cases h : 48 <= c
          · exact .inr ⟨h,fun h2=>hdg ⟨h,h2⟩⟩
          · exact .inl h
        cases hk : lix c with
        | none =>
          rw [hk] at hp gx
          have k:=qno hp (.nl 4)
          rcases hcase with h1 | ⟨h1,h2⟩
          · have h1' : ¬ (48 : Int) <= c:=by omega
            simp (disch:=omega) [hlt',hnn,h1',cl (gx _)]
            exact k
          · have h1' : (48 : Int) <= c:=by omega
            have h2' : ¬ (c : Int) <= 57:=by omega
            simp (disch:=omega) [hlt',hnn,h1',h2',cl (gx _)]
            exact k
        | some k =>
          rw [hk] at hp gx
          have hkb:=Ts hk
          have hk0 : ¬ k < 0:=by omega
          have gx2 : ∀ H,Gives G 177 [.m (.s [46,65,66,67,68,69,70,71,36]),.m (.i .u8 (c : Int))] H (.m (.i .i64 k)) H:=gx
          have hol:=Ta ho
          have wz : ∀ m : Nat,m < 10000000 -> wr .i64 ((f.length : Int) + (m : Int)) = ((f.length + m : Nat) : Int) /\ wr .i64 (y + (m : Int)) = y + m /\ wr .i64 (x + (m : Int)) = x + m:=fun m hm=>⟨wr_i64 (by omega) (by omega),wr_i64 (by omega) (by omega),wr_i64 (by omega) (by omega)⟩
          rcases hcase with h1 | ⟨h1,h2⟩
          · have h1' : ¬ (48 : Int) <= c:=by omega
            by_cases hd0 : d = 0
            · have hd0' : (d : Int) = 0:=by omega
              simp only [AeJ hd0] at hp
              obtain ⟨z1,z2,z3⟩:=wz 1 (by omega)
              simp only [show ((1 : Nat) : Int) = 1 from rfl] at z1 z2 z3 hp
              by_cases k8 : k = 8
              · subst k8
                rw [AeF (by omega)] at hp
                have ea : act ⟨x,y,f⟩ 1 8 = ⟨0,y + 1,f⟩:=rfl
                rw [ea] at hp
                dsimp only at hp
                by_cases ht : 4194304 < max 0 (y + 1)
                · rw [AeJ ht] at hp
                  have k:=qno hp (.nl 4)
                  simp (disch:=omega) [hlt',hnn,h1',cl (gx2 _),hk0,hd0,z2,ht,-Int.natCast_add]
                  exact k
                · rw [AeF ht] at hp
                  have k:=ih (i + 1) (by omega) 0 (y + 1) f 0 0 o B H1 (by omega) ho hp (by omega) (by omega) hf (by omega) (by decide)
                  simp (disch:=omega) [hlt',hnn,h1',cl (gx2 _),hk0,hd0,z2,wi,ht,-Int.natCast_add]
                  exact k
              · have hkp8 : k < 8:=by omega
                have ea : act ⟨x,y,f⟩ 1 k = ⟨x + 1,y,if k = 0 then f else f ++ AW x y k 1⟩:=by unfold act; rw [AeF k8]; rfl
                by_cases hbig : 0 < k /\ k < 8 /\ 5000 < f.length + 1
                · rw [AeJ hbig] at hp
                  have k:=qno hp (.nl 4)
                  obtain ⟨hb1,_,hb2⟩:=hbig
                  have hb2' : (5000 : Int) < ((f.length + 1 : Nat) : Int):=by omega
                  simp (disch:=omega) [hlt',hnn,h1',cl (gx2 _),hk0,hd0,z1,hol,k8,hb1,hb2',-Int.natCast_add]
                  exact k
                · rw [AeF hbig,ea] at hp
                  dsimp only at hp
                  have hfm : 0 < k -> f.length + 1 <= 5000:=fun h=>by have:=fun h3=>hbig ⟨h,hkp8,h3⟩; omega
                  have fin : ∀ (o2 : V) (B : List (Nat × List V)) (H2 : Hp),KG (if k = 0 then f else f ++ AW x y k 1) o2 H2 -> Ax o2 = true:=fun o2 B H2 h=>(BE h).2
                  have hf2 : (if k = 0 then f else f ++ AW x y k 1).length <= 5000:=by
                    split
                    · exact hf
                    · rw [Fn]; exact hfm (by omega)
                  by_cases hkz : 0 < k
                  · have hb2' : ¬ (5000 : Int) < ((f.length + 1 : Nat) : Int):=by have:=hfm hkz; omega
                    have hb2 : ¬ 5000 < f.length + 1:=by have:=hfm hkz; omega
                    simp (disch:=omega) [hlt',hnn,h1',cl (gx2 _),hk0,hd0,z1,hol,k8,hkz,hb2',-Int.natCast_add]
                    refine GE _ x y k 1 f _ _ _ hx (by omega) (by omega) hfm (fun x12 o2 B2 H2 ho2=>?_) 0 o B H1 (AeR _) (fun _=>rfl) (by split <;> (simp only [AW,Afd]; exact ho))
                    have hn2:=fin o2 B2 H2 ho2
                    by_cases ht : 4194304 < max (x + 1) y
                    · rw [AeJ ht] at hp
                      have k:=qno hp (.nl 4)
                      simp (disch:=omega) [z3,ht]
                      exact k
                    · rw [AeF ht] at hp
                      have k:=ih (i + 1) (by omega) (x + 1) y _ 0 0 o2 B2 H2 (by omega) ho2 hp (by omega) (by omega) hf2 (by omega) (by decide)
                      simp (disch:=omega) [z3,ht,wi,-Int.natCast_add]
                      exact k
                  · have hkz2 : k = 0:=by omega
                    simp (disch:=omega) [hlt',hnn,h1',cl (gx2 _),hk0,hd0,k8,hkz,-Int.natCast_add]
                    refine GE _ x y k 1 f _ _ _ hx (by omega) (by omega) hfm (fun x12 o2 B2 H2 ho2=>?_) 0 o B H1 (AeR _) (fun _=>rfl) (by split <;> (simp only [Afd]; exact ho))
                    have hn2:=fin o2 B2 H2 ho2
                    by_cases ht : 4194304 < max (x + 1) y
                    · rw [AeJ ht] at hp
                      have k:=qno hp (.nl 4)
                      simp (disch:=omega) [z3,ht]
                      exact k
                    · rw [AeF ht] at hp
                      have k:=ih (i + 1) (by omega) (x + 1) y _ 0 0 o2 B2 H2 (by omega) ho2 hp (by omega) (by omega) hf2 (by omega) (by decide)
                      simp (disch:=omega) [z3,ht,wi,-Int.natCast_add]
                      exact k
            · have hd0' : ¬ (d : Int) = 0:=by omega
              simp only [AeF hd0] at hp
              obtain ⟨z1,z2,z3⟩:=wz n (by omega)
              by_cases k8 : k = 8
              · subst k8
                rw [AeF (by omega)] at hp
                have ea : act ⟨x,y,f⟩ (n : Int) 8 = ⟨0,y + (n : Int),f⟩:=rfl
                rw [ea] at hp
                dsimp only at hp
                by_cases ht : 4194304 < max 0 (y + (n : Int))
                · rw [AeJ ht] at hp
                  have k:=qno hp (.nl 4)
                  simp (disch:=omega) [hlt',hnn,h1',cl (gx2 _),hk0,hd0,z2,ht,-Int.natCast_add]
                  exact k
                · rw [AeF ht] at hp
                  have k:=ih (i + 1) (by omega) 0 (y + (n : Int)) f 0 0 o B H1 (by omega) ho hp (by omega) (by omega) hf (by omega) (by decide)
                  simp (disch:=omega) [hlt',hnn,h1',cl (gx2 _),hk0,hd0,z2,wi,ht,-Int.natCast_add]
                  exact k
              · have hkp8 : k < 8:=by omega
                have ea : act ⟨x,y,f⟩ (n : Int) k = ⟨x + (n : Int),y,if k = 0 then f else f ++ AW x y k n⟩:=by unfold act; rw [AeF k8]; rfl
                by_cases hbig : 0 < k /\ k < 8 /\ 5000 < f.length + n
                · rw [AeJ hbig] at hp
                  have k:=qno hp (.nl 4)
                  obtain ⟨hb1,_,hb2⟩:=hbig
                  have hb2' : (5000 : Int) < ((f.length + n : Nat) : Int):=by omega
                  simp (disch:=omega) [hlt',hnn,h1',cl (gx2 _),hk0,hd0,z1,hol,k8,hb1,hb2',-Int.natCast_add]
                  exact k
                · rw [AeF hbig,ea] at hp
                  dsimp only at hp
                  have hfm : 0 < k -> f.length + n <= 5000:=fun h=>by have:=fun h3=>hbig ⟨h,hkp8,h3⟩; omega
                  have fin : ∀ (o2 : V) (B : List (Nat × List V)) (H2 : Hp),KG (if k = 0 then f else f ++ AW x y k n) o2 H2 -> Ax o2 = true:=fun o2 B H2 h=>(BE h).2
                  have hf2 : (if k = 0 then f else f ++ AW x y k n).length <= 5000:=by
                    split
                    · exact hf
                    · rw [Fn]; exact hfm (by omega)
                  by_cases hkz : 0 < k
                  · have hb2' : ¬ (5000 : Int) < ((f.length + n : Nat) : Int):=by have:=hfm hkz; omega
                    have hb2 : ¬ 5000 < f.length + n:=by have:=hfm hkz; omega
                    simp (disch:=omega) [hlt',hnn,h1',cl (gx2 _),hk0,hd0,z1,hol,k8,hkz,hb2',-Int.natCast_add]
                    refine GE _ x y k n f _ _ _ hx (by omega) (by omega) hfm (fun x12 o2 B2 H2 ho2=>?_) 0 o B H1 (AeR _) (fun _=>rfl) (by split <;> (simp only [AW,Afd]; exact ho))
                    have hn2:=fin o2 B2 H2 ho2
                    by_cases ht : 4194304 < max (x + (n : Int)) y
                    · rw [AeJ ht] at hp
                      have k:=qno hp (.nl 4)
                      simp (disch:=omega) [z3,ht]
                      exact k
                    · rw [AeF ht] at hp
                      have k:=ih (i + 1) (by omega) (x + (n : Int)) y _ 0 0 o2 B2 H2 (by omega) ho2 hp (by omega) (by omega) hf2 (by omega) (by decide)
                      simp (disch:=omega) [z3,ht,wi,-Int.natCast_add]
                      exact k
                  · have hkz2 : k = 0:=by omega
                    simp (disch:=omega) [hlt',hnn,h1',cl (gx2 _),hk0,hd0,k8,hkz,-Int.natCast_add]
                    refine GE _ x y k n f _ _ _ hx (by omega) (by omega) hfm (fun x12 o2 B2 H2 ho2=>?_) 0 o B H1 (AeR _) (fun _=>rfl) (by split <;> (simp only [Afd]; exact ho))
                    have hn2:=fin o2 B2 H2 ho2
                    by_cases ht : 4194304 < max (x + (n : Int)) y
                    · rw [AeJ ht] at hp
                      have k:=qno hp (.nl 4)
                      simp (disch:=omega) [z3,ht]
                      exact k
                    · rw [AeF ht] at hp
                      have k:=ih (i + 1) (by omega) (x + (n : Int)) y _ 0 0 o2 B2 H2 (by omega) ho2 hp (by omega) (by omega) hf2 (by omega) (by decide)
                      simp (disch:=omega) [z3,ht,wi,-Int.natCast_add]
                      exact k
          · have h1' : (48 : Int) <= c:=by omega
            have h2' : ¬ (c : Int) <= 57:=by omega
            by_cases hd0 : d = 0
            · have hd0' : (d : Int) = 0:=by omega
              simp only [AeJ hd0] at hp
              obtain ⟨z1,z2,z3⟩:=wz 1 (by omega)
              simp only [show ((1 : Nat) : Int) = 1 from rfl] at z1 z2 z3 hp
              by_cases k8 : k = 8
              · subst k8
                rw [AeF (by omega)] at hp
                have ea : act ⟨x,y,f⟩ 1 8 = ⟨0,y + 1,f⟩:=rfl
                rw [ea] at hp
                dsimp only at hp
                by_cases ht : 4194304 < max 0 (y + 1)
                · rw [AeJ ht] at hp
                  have k:=qno hp (.nl 4)
                  simp (disch:=omega) [hlt',hnn,h1',h2',cl (gx2 _),hk0,hd0,z2,ht,-Int.natCast_add]
                  exact k
                · rw [AeF ht] at hp
                  have k:=ih (i + 1) (by omega) 0 (y + 1) f 0 0 o B H1 (by omega) ho hp (by omega) (by omega) hf (by omega) (by decide)
                  simp (disch:=omega) [hlt',hnn,h1',h2',cl (gx2 _),hk0,hd0,z2,wi,ht,-Int.natCast_add]
                  exact k
              · have hkp8 : k < 8:=by omega
                have ea : act ⟨x,y,f⟩ 1 k = ⟨x + 1,y,if k = 0 then f else f ++ AW x y k 1⟩:=by unfold act; rw [AeF k8]; rfl
                by_cases hbig : 0 < k /\ k < 8 /\ 5000 < f.length + 1
                · rw [AeJ hbig] at hp
                  have k:=qno hp (.nl 4)
                  obtain ⟨hb1,_,hb2⟩:=hbig
                  have hb2' : (5000 : Int) < ((f.length + 1 : Nat) : Int):=by omega
                  simp (disch:=omega) [hlt',hnn,h1',h2',cl (gx2 _),hk0,hd0,z1,hol,k8,hb1,hb2',-Int.natCast_add]
                  exact k
                · rw [AeF hbig,ea] at hp
                  dsimp only at hp
                  have hfm : 0 < k -> f.length + 1 <= 5000:=fun h=>by have:=fun h3=>hbig ⟨h,hkp8,h3⟩; omega
                  have fin : ∀ (o2 : V) (B : List (Nat × List V)) (H2 : Hp),KG (if k = 0 then f else f ++ AW x y k 1) o2 H2 -> Ax o2 = true:=fun o2 B H2 h=>(BE h).2
                  have hf2 : (if k = 0 then f else f ++ AW x y k 1).length <= 5000:=by
                    split
                    · exact hf
                    · rw [Fn]; exact hfm (by omega)
                  by_cases hkz : 0 < k
                  · have hb2' : ¬ (5000 : Int) < ((f.length + 1 : Nat) : Int):=by have:=hfm hkz; omega
                    have hb2 : ¬ 5000 < f.length + 1:=by have:=hfm hkz; omega
                    simp (disch:=omega) [hlt',hnn,h1',h2',cl (gx2 _),hk0,hd0,z1,hol,k8,hkz,hb2',-Int.natCast_add]
                    refine GE _ x y k 1 f _ _ _ hx (by omega) (by omega) hfm (fun x12 o2 B2 H2 ho2=>?_) 0 o B H1 (AeR _) (fun _=>rfl) (by split <;> (simp only [AW,Afd]; exact ho))
                    have hn2:=fin o2 B2 H2 ho2
                    by_cases ht : 4194304 < max (x + 1) y
                    · rw [AeJ ht] at hp
                      have k:=qno hp (.nl 4)
                      simp (disch:=omega) [z3,ht]
                      exact k
                    · rw [AeF ht] at hp
                      have k:=ih (i + 1) (by omega) (x + 1) y _ 0 0 o2 B2 H2 (by omega) ho2 hp (by omega) (by omega) hf2 (by omega) (by decide)
                      simp (disch:=omega) [z3,ht,wi,-Int.natCast_add]
                      exact k
                  · have hkz2 : k = 0:=by omega
                    simp (disch:=omega) [hlt',hnn,h1',h2',cl (gx2 _),hk0,hd0,k8,hkz,-Int.natCast_add]
                    refine GE _ x y k 1 f _ _ _ hx (by omega) (by omega) hfm (fun x12 o2 B2 H2 ho2=>?_) 0 o B H1 (AeR _) (fun _=>rfl) (by split <;> (simp only [Afd]; exact ho))
                    have hn2:=fin o2 B2 H2 ho2
                    by_cases ht : 4194304 < max (x + 1) y
                    · rw [AeJ ht] at hp
                      have k:=qno hp (.nl 4)
                      simp (disch:=omega) [z3,ht]
                      exact k
                    · rw [AeF ht] at hp
                      have k:=ih (i + 1) (by omega) (x + 1) y _ 0 0 o2 B2 H2 (by omega) ho2 hp (by omega) (by omega) hf2 (by omega) (by decide)
                      simp (disch:=omega) [z3,ht,wi,-Int.natCast_add]
                      exact k
            · have hd0' : ¬ (d : Int) = 0:=by omega
              simp only [AeF hd0] at hp
              obtain ⟨z1,z2,z3⟩:=wz n (by omega)
              by_cases k8 : k = 8
              · subst k8
                rw [AeF (by omega)] at hp
                have ea : act ⟨x,y,f⟩ (n : Int) 8 = ⟨0,y + (n : Int),f⟩:=rfl
                rw [ea] at hp
                dsimp only at hp
                by_cases ht : 4194304 < max 0 (y + (n : Int))
                · rw [AeJ ht] at hp
                  have k:=qno hp (.nl 4)
                  simp (disch:=omega) [hlt',hnn,h1',h2',cl (gx2 _),hk0,hd0,z2,ht,-Int.natCast_add]
                  exact k
                · rw [AeF ht] at hp
                  have k:=ih (i + 1) (by omega) 0 (y + (n : Int)) f 0 0 o B H1 (by omega) ho hp (by omega) (by omega) hf (by omega) (by decide)
                  simp (disch:=omega) [hlt',hnn,h1',h2',cl (gx2 _),hk0,hd0,z2,wi,ht,-Int.natCast_add]
                  exact k
              · have hkp8 : k < 8:=by omega
                have ea : act ⟨x,y,f⟩ (n : Int) k = ⟨x + (n : Int),y,if k = 0 then f else f ++ AW x y k n⟩:=by unfold act; rw [AeF k8]; rfl
                by_cases hbig : 0 < k /\ k < 8 /\ 5000 < f.length + n
                · rw [AeJ hbig] at hp
                  have k:=qno hp (.nl 4)
                  obtain ⟨hb1,_,hb2⟩:=hbig
                  have hb2' : (5000 : Int) < ((f.length + n : Nat) : Int):=by omega
                  simp (disch:=omega) [hlt',hnn,h1',h2',cl (gx2 _),hk0,hd0,z1,hol,k8,hb1,hb2',-Int.natCast_add]
                  exact k
                · rw [AeF hbig,ea] at hp
                  dsimp only at hp
                  have hfm : 0 < k -> f.length + n <= 5000:=fun h=>by have:=fun h3=>hbig ⟨h,hkp8,h3⟩; omega
                  have fin : ∀ (o2 : V) (B : List (Nat × List V)) (H2 : Hp),KG (if k = 0 then f else f ++ AW x y k n) o2 H2 -> Ax o2 = true:=fun o2 B H2 h=>(BE h).2
                  have hf2 : (if k = 0 then f else f ++ AW x y k n).length <= 5000:=by
                    split
                    · exact hf
                    · rw [Fn]; exact hfm (by omega)
                  by_cases hkz : 0 < k
                  · have hb2' : ¬ (5000 : Int) < ((f.length + n : Nat) : Int):=by have:=hfm hkz; omega
                    have hb2 : ¬ 5000 < f.length + n:=by have:=hfm hkz; omega
                    simp (disch:=omega) [hlt',hnn,h1',h2',cl (gx2 _),hk0,hd0,z1,hol,k8,hkz,hb2',-Int.natCast_add]
                    refine GE _ x y k n f _ _ _ hx (by omega) (by omega) hfm (fun x12 o2 B2 H2 ho2=>?_) 0 o B H1 (AeR _) (fun _=>rfl) (by split <;> (simp only [AW,Afd]; exact ho))
                    have hn2:=fin o2 B2 H2 ho2
                    by_cases ht : 4194304 < max (x + (n : Int)) y
                    · rw [AeJ ht] at hp
                      have k:=qno hp (.nl 4)
                      simp (disch:=omega) [z3,ht]
                      exact k
                    · rw [AeF ht] at hp
                      have k:=ih (i + 1) (by omega) (x + (n : Int)) y _ 0 0 o2 B2 H2 (by omega) ho2 hp (by omega) (by omega) hf2 (by omega) (by decide)
                      simp (disch:=omega) [z3,ht,wi,-Int.natCast_add]
                      exact k
                  · have hkz2 : k = 0:=by omega
                    simp (disch:=omega) [hlt',hnn,h1',h2',cl (gx2 _),hk0,hd0,k8,hkz,-Int.natCast_add]
                    refine GE _ x y k n f _ _ _ hx (by omega) (by omega) hfm (fun x12 o2 B2 H2 ho2=>?_) 0 o B H1 (AeR _) (fun _=>rfl) (by split <;> (simp only [Afd]; exact ho))
                    have hn2:=fin o2 B2 H2 ho2
                    by_cases ht : 4194304 < max (x + (n : Int)) y
                    · rw [AeJ ht] at hp
                      have k:=qno hp (.nl 4)
                      simp (disch:=omega) [z3,ht]
                      exact k
                    · rw [AeF ht] at hp
                      have k:=ih (i + 1) (by omega) (x + (n : Int)) y _ 0 0 o2 B2 H2 (by omega) ho2 hp (by omega) (by omega) hf2 (by omega) (by decide)
                      simp (disch:=omega) [z3,ht,wi,-Int.natCast_add]
                      exact k
  obtain ⟨x,H',h1,rfl,_,w,h2,rfl⟩:=key
  exact ⟨w,h2,h1⟩
def cE (p : List Ce) : Int:=match Io p with
  | some e=>e
  | none=>if 65536 < (CZ p).length then 6 else 0
def cT (p : List Ce) : List Nat:=if cE p = 0 then CZ p else []
theorem Ha {p : List Ce} : Bt p = [] ↔ p = []:=by
  have:=Kn p
  constructor <;> intro h
  · exact Afa (by rw [<- this,h]; rfl)
  · exact Afa (by rw [this,h]; rfl)
theorem Ww (p : List Ce) : CZ p = if Bt p = [] then [45] else Fo (Bt p):=by
  unfold CZ
  by_cases h : p = []
  · rw [AeJ h,AeJ (Ha.2 h)]
  · rw [AeF h,AeF (fun h2=>h (Ha.1 h2))]
theorem Fm {p : List Ce} {e : Int} (h : Io p = some e) : (right p = false /\ e = 2) \/ (right p = true /\ Cd p = true /\ e = 5):=by
  unfold Io at h
  cases hr : right p <;> cases hl : Cd p <;> simp_all
theorem Aan {v : I} {p : List Ce} (hv : IsSl v (Ao p)) (hl : p.length <= 1000000) (H : Hp) : Gives G 38 [.m v] H (.tu [.m (.s (cT p)),.m (.i .i64 (cE p))]) H:=by
  have g1:=fun H=>SO hv (by omega) H
  have g2:=fun H=>ZZ hv (by omega) H
  refine Ah rfl rfl rfl rfl rfl ?_
  cases he : Io p with
  | some e =>
    have e1 : cE p = e:=by unfold cE; rw [he]
    rcases Fm he with ⟨hr,rfl⟩ | ⟨hr,hg,rfl⟩
    · have e2 : cT p = []:=by unfold cT; rw [e1]; rfl
      rw [hr] at g1
      simp (disch:=omega) [cl (g1 _),e1,e2]
    · have e2 : cT p = []:=by unfold cT; rw [e1]; rfl
      rw [hr] at g1
      rw [hg] at g2
      simp (disch:=omega) [cl (g1 _),cl (g2 _),e1,e2]
  | none =>
    obtain ⟨hr,hlg⟩:=Gr he
    have hs:=Ic hr hlg
    rw [hr] at g1
    rw [hlg] at g2
    have g3:=fun H=>Aed hv hr hs 0 (by omega) H
    rw [show DS 0 = 0 from by decide,Aae (Bh hr).1] at g3
    have g4:=fun H=>Zm (Qr (Bt p)) (Ko hr hs) (by rw [Kn]; exact (Bh hr).2.2) H
    rw [<- Ww] at g4
    have e0 : cE p = if 65536 < (CZ p).length then 6 else 0:=by unfold cE; rw [he]
    by_cases hlen : 65536 < (CZ p).length
    · have hlen' : (65536 : Int) < (CZ p).length:=by omega
      rw [AeJ hlen] at e0
      have e2 : cT p = []:=by unfold cT; rw [e0]; rfl
      simp (disch:=omega) [cl (g1 _),cl (g2 _),cl (g3 _),cl (g4 _),hlen',e0,e2]
    · have hlen' : ¬ (65536 : Int) < (CZ p).length:=by omega
      rw [AeF hlen] at e0
      have e2 : cT p = CZ p:=by unfold cT; rw [e0]; rfl
      simp (disch:=omega) [cl (g1 _),cl (g2 _),cl (g3 _),cl (g4 _),hlen',e0,e2]
theorem TQ {v : I} {p : List Ce} (hv : IsSl v (Ao p)) (hl : p.length <= 1000000) (H : Hp) : Gives G 32 [.m v] H (.tu [.m (.s (cT p)),.m (.i .i64 (cE p))]) H:=by
  have g1:=fun H=>No hv (by omega) H
  have g2:=fun H=>ZY hv (by omega) H
  have hrv:=hv.rules
  simp only [show (Ao p).length = p.length from by simp [Ao]] at hrv
  refine Ah rfl rfl rfl rfl rfl ?_
  cases he : Io p with
  | some e =>
    have e1 : cE p = e:=by unfold cE; rw [he]
    rcases Fm he with ⟨hr,rfl⟩ | ⟨hr,hg,rfl⟩
    · have e2 : cT p = []:=by unfold cT; rw [e1]; rfl
      rw [hr] at g1
      simp (disch:=omega) [cl (g1 _),e1,e2]
    · have e2 : cT p = []:=by unfold cT; rw [e1]; rfl
      rw [hr] at g1
      rw [hg] at g2
      simp (disch:=omega) [cl (g1 _),cl (g2 _),e1,e2]
  | none =>
    obtain ⟨hr,hlg⟩:=Gr he
    have hs:=Ic hr hlg
    rw [hr] at g1
    rw [hlg] at g2
    have e0 : cE p = if 65536 < (CZ p).length then 6 else 0:=by unfold cE; rw [he]
    by_cases hp0 : p = []
    · have e1 : CZ p = [45]:=by unfold CZ; rw [AeJ hp0]
      rw [e1] at e0
      have e0' : cE p = 0:=e0
      have e2 : cT p = [45]:=by unfold cT; rw [AeJ e0',e1]
      subst hp0
      simp (disch:=omega) [cl (g1 _),cl (g2 _),hrv,e0',e2]
    · have hpl : ¬ (p.length : Int) = 0:=fun h=>hp0 (Afa (by omega))
      have g3:=fun H=>Aef hv hr H
      simp only [AeF hp0] at g3
      have g4:=fun H=>Aep (Ci (Ao (Bt p))) (Ko hr hs) (by rw [Kn]; exact (Bh hr).2.2) H
      rw [show Fo (Bt p) = CZ p from by unfold CZ; rw [AeF hp0]] at g4
      by_cases hlen : 65536 < (CZ p).length
      · have hlen' : (65536 : Int) < (CZ p).length:=by omega
        rw [AeJ hlen] at e0
        have e2 : cT p = []:=by unfold cT; rw [e0]; rfl
        simp (disch:=omega) [cl (g1 _),cl (g2 _),hrv,hp0,cl (g3 _),cl (g4 _),hlen',e0,e2]
      · have hlen' : ¬ (65536 : Int) < (CZ p).length:=by omega
        rw [AeF hlen] at e0
        have e2 : cT p = CZ p:=by unfold cT; rw [e0]; rfl
        simp (disch:=omega) [cl (g1 _),cl (g2 _),hrv,hp0,cl (g3 _),cl (g4 _),hlen',e0,e2]
theorem AaD {st : PS} {m : Nat} {k : Int} : (act st (m : Int) k).out.length <= st.out.length + (if 0 < k /\ k < 8 then m else 0) \/ k < 0 \/ 8 < k:=by
  unfold act
  by_cases h8 : k = 8
  · rw [AeJ h8]; exact .inl (by dsimp only; omega)
  · rw [AeF h8]
    by_cases h0 : k = 0
    · rw [AeJ h0]; exact .inl (by dsimp only; omega)
    · rw [AeF h0]
      by_cases h : 0 < k /\ k < 8
      · rw [AeJ h]
        exact .inl (by dsimp only; rw [AeL,EL]; omega)
      · exact .inr (by omega)
theorem Kb : ∀ (s : List Nat) (n d : Nat) (st : PS) (l : List Ce),st.out.length <= 5000 -> Fa st n d s = some l -> l.length <= 5000
  | [],n,d,st,l,h,hp=>by
    have hp : (if d = 0 then some st.out else none) = some l:=hp
    split at hp
    · cases hp; exact h
    · cases hp
  | c :: r,n,d,st,l,h,hp=>by
    unfold Fa at hp
    split at hp
    · split at hp
      · cases hp
      · exact Kb r _ _ _ l h hp
    · split at hp
      · cases hp
      · rename_i k hk
        have hkb:=Ts hk
        generalize (if d = 0 then 1 else n) = m at hp
        by_cases hn1 : 0 < k /\ k < 8 /\ 5000 < st.out.length + m
        · rw [AeJ hn1] at hp; cases hp
        · rw [AeF hn1] at hp
          split at hp
          · cases hp
          · refine Kb r _ _ _ l ?_ hp
            rcases AaD (st:=st) (m:=m) (k:=k) with h2 | h2
            · refine AfP h2 ?_
              split
              · omega
              · exact h
            · omega
structure IsCode (s : List Nat) (h : List Ce) : Prop where
  r : right h = true
  l : Cd h = false
  home : Bt h = h
  ne : h ≠ []
  code : Fo h = s
theorem Jj {s : List Nat} {h : List Ce} (hc : IsCode s h) : aft 0 0 h:=by
  have:=Ko hc.r (Ic hc.r hc.l)
  rw [hc.home] at this
  exact this
theorem EK {s : List Nat} {h : List Ce} (hc : IsCode s h) : Fa ⟨0,0,[]⟩ 0 0 s = some h:=by
  rw [<- hc.code]
  exact Pi VY (Jj hc) (Bh hc.r).2.2 hc.ne
theorem GZ {s : List Nat} {h : List Ce} (hc : IsCode s h) : Gn ⟨0,0,[]⟩ 0 s = some h:=by
  rw [<- hc.code]
  exact Pi VX (Jj hc) (Bh hc.r).2.2 hc.ne
theorem NA {s : List Nat} {h h' : List Ce} (hc : IsCode s h) (hc' : IsCode s h') : h = h':=AfD ((EK hc).symm.trans (EK hc'))
theorem QD {p : List Ce} (hr : right p = true) (hlg : Cd p = false) : right (Bt p) = true /\ Cd (Bt p) = false:=by
  have hs:=Ic hr hlg
  have h1:=TA (k:=0) hr hs
  rw [Aae (Bh hr).1] at h1
  exact ⟨h1,Wi h1 (Zv _ _ hs)⟩
theorem TP {s : List Nat} {p : List Ce} (h0 : cE p = 0) (ht : cT p = s) (hs : ¬ s = [45]) : IsCode s (Bt p) /\ p ≠ [] /\ right p = true /\ Cd p = false:=by
  have he : Io p = none:=by
    cases he : Io p with
    | none=>rfl
    | some e =>
      have e1 : cE p = e:=by unfold cE; rw [he]
      rcases Fm he with ⟨_,rfl⟩ | ⟨_,_,rfl⟩ <;> rw [e1] at h0 <;> cases h0
  obtain ⟨hr,hlg⟩:=Gr he
  have e2 : cT p = CZ p:=by unfold cT; rw [AeJ h0]
  have hne : p ≠ []:=fun h=>by
    subst h
    exact hs (by rw [<- ht,e2]; rfl)
  have hh:=QD hr hlg
  refine ⟨⟨hh.1,hh.2,TD p,fun h=>hne (Ha.1 h),?_⟩,hne,hr,hlg⟩
  rw [<- ht,e2]
  unfold CZ
  rw [AeF hne]
theorem Nz {s : List Nat} {h : List Ce} (hc : IsCode s h) (hl : s.length <= 65536) : cE h = 0 /\ cT h = s:=by
  have he : Io h = none:=by unfold Io; rw [hc.r,hc.l]; rfl
  have e1 : CZ h = s:=by unfold CZ; rw [AeF hc.ne,hc.home,hc.code]
  have e2 : cE h = 0:=by unfold cE; rw [he,e1]; exact AeF (by omega)
  exact ⟨e2,by unfold cT; rw [AeJ e2,e1]⟩
def Ug (s : List Nat) (x : V) : Prop:=(∃ h,IsCode s h /\ x = .tu [.m (zP h),.m (.i .i64 0)]) \/ ((∀ h,¬ IsCode s h) /\ x = .tu [.m (.nl 4),.m (.i .i64 15)])
theorem Mk {s : List Nat} {x y : V} (h : Ug s x) (h' : Ug s y) : x = y:=by
  rcases h with ⟨a,ha,rfl⟩ | ⟨ha,rfl⟩ <;> rcases h' with ⟨b,hb,rfl⟩ | ⟨hb,rfl⟩
  · rw [NA ha hb]
  · exact absurd ha (hb a)
  · exact absurd hb (ha b)
  · rfl
theorem Tb {F : Nat} {f : List Ce} {o v : V} {H : Hp} (hp : G.prim F = none) (hs : G.sh F = false) (ho : KG f o H) (h : ∀ H,Gives G F [.m (zP f)] H v H) (hf : Gg v = true) : Gives G F [o] H v H:=by
  rcases ho with ⟨rfl,rfl,rfl⟩ | ⟨hne,rfl,rfl⟩
  · exact h []
  · refine Du (is:=[zP f]) hp hs (h []) ?_ (.inr ⟨by simp [DT,GS],hf⟩)
    have:=Nj (r:=0) (b:=0) (X:=[]) (A:=[]) (q:=f) (n:=f.length) rfl (AeR _) 18
    show ((view 20 _ _).bind _) = _
    rw [this]
    unfold zP
    rw [AeF hne]
    rfl
theorem Aem (s : V) (x y : Int) (c m : Nat) (f0 : List Ce) (ix : V) (K : K) (hx : 0 <= x /\ x <= 2097152) (hc : 65 <= c /\ c <= 71) (hm : m <= 10000000) (hfm : f0.length + m <= 5000)
  (hend : ∀ (o : V) (B : List (Nat × List V)) (H : Hp),KG (f0 ++ AW x y ((c : Int) - 64) m) o H -> At' G (.ex 2) ⟨[(0,s),(4,o),(5,.m (.i .i64 x)),(6,.m (.i .i64 y)),(7,.m (.i .i64 (m : Int))),(8,ix),(9,.m (.i .u8 (c : Int))),(10,.m (.i .i64 (m : Int))),(68,.m (.b false))],[],⟨B,H⟩⟩ K) :
  ∀ (j : Nat) (o : V) (B : List (Nat × List V)) (H : Hp),j <= m -> KG (f0 ++ AW x y ((c : Int) - 64) j) o H -> Run G c52_B0 (S52_0 s o (.m (.i .i64 x)) (.m (.i .i64 y)) (.m (.i .i64 (m : Int))) ix (.m (.i .u8 (c : Int))) (.m (.i .i64 (j : Int))) B H) (.seq c52_L0 K):=by
 refine BO (fun j : Nat=>m - j) fun j ih o B H hj ho=>?_
 unfold c52_B0
 have hnf:=(BE ho).2
 by_cases hjm : j < m
 ·have hjm' : (j : Int) < m:=by omega
  have w1 : wr .i64 ((j : Int) + 1) = ((j + 1 : Nat) : Int):=wr_i64 (by omega) (by omega)
  have w2 : wr .i64 (x + (j : Int)) = x + j:=wr_i64 (by omega) (by omega)
  have w3 : wr .u8 ((c : Int) - 65) = (c : Int) - 65:=GJ (by omega) (by omega)
  have w4 : wr .i64 ((c : Int) - 65) = (c : Int) - 65:=wr_i64 (by omega) (by omega)
  have w5 : wr .i64 ((c : Int) - 65 + 1) = (c : Int) - 64:=by rw [wr_i64 (by omega) (by omega)]; omega
  obtain ⟨o1,H1,ha,hn1,ho1⟩:=Ct ho (by rw [Fn]; omega) ⟨x + j,y,(c : Int) - 64⟩
  dsimp only at ha
  have k1:=ih (j + 1) (by omega) o1 B H1 (by omega) (by rw [AeS] at ho1; exact ho1)
  simp (disch:=omega) [hjm',w1,w2,w3,w4,w5,ha,Ag hn1,-Int.natCast_add]
  exact k1
 ·have : j = m:=by omega
  subst this
  have k1:=hend o B H ho
  simp (disch:=omega) []
  exact k1
theorem Pn {c : Nat} (h1 : ¬ c = 46) (h2 : ¬ c = 36) (h3 : ¬ (65 <= c /\ c <= 71)) : lix c = none:=by
 unfold lix
 rw [AeF h1,AeF h2,AeF h3]
theorem We {c : Nat} (h : 65 <= c /\ c <= 71) : lix c = some ((c : Int) - 64):=by
 unfold lix
 rw [AeF (by omega),AeF (by omega),AeJ h]
theorem SW {st : PS} {n c : Nat} {r : List Nat} (h : ¬ GP c) : Gn st n (c :: r) = match lix c with
  | none=>none
  | some k=>if 0 < k /\ k < 8 /\ 5000 < st.out.length + max n 1 then none
   else if 2097152 < (act st (max n 1 : Nat) k).x \/ 2097152 < (act st (max n 1 : Nat) k).y then none else Gn (act st (max n 1 : Nat) k) 0 r:=by
 show (if GP c then _ else _) = _
 rw [AeF h]
 rfl
theorem Pv (s : List Nat) (hb : ∀ c,c ∈ s -> c < 256) (hl : s.length <= 65536) (h45 : ¬ s = [45]) (H : Hp) : ∃ x,Ug s x /\ Gives G 52 [.m (.s s)] H x H:=by
 have key : ∃ x H',Gives G 52 [.m (.s s)] H x H' /\ (H' = H /\ Ug s x):=by
  refine BX ?_
  refine Hw rfl rfl rfl rfl rfl ?_
  generalize hQ : (fun (x : V) (H' : Hp)=>H' = H /\ Ug s x) = Q
  have qno : (∀ h,¬ IsCode s h) -> Q (.tu [.m (.nl 4),.m (.i .i64 15)]) H:=fun h=>by rw [<- hQ]; exact ⟨rfl,.inr ⟨h,rfl⟩⟩
  have qok : ∀ h,IsCode s h -> Q (.tu [.m (zP h),.m (.i .i64 0)]) H:=fun h hc=>by rw [<- hQ]; exact ⟨rfl,.inl ⟨h,hc,rfl⟩⟩
  have qpar : Gn ⟨0,0,[]⟩ 0 s = none -> Q (.tu [.m (.nl 4),.m (.i .i64 15)]) H:=fun h=>qno fun h2 hc=>by rw [GZ hc] at h; cases h
  clear hQ
  have hl' : ¬ (65536 : Int) < s.length:=by omega
  have hl'' : ¬ 65536 < s.length:=by omega
  simp (disch:=omega) [hl',h45]
  refine (?key : ∀ (i : Nat) (x y : Int) (f : List Ce) (n : Nat) (o : V) (B : List (Nat × List V)) (H1 : Hp),i <= s.length -> KG f o H1 -> Gn ⟨0,0,[]⟩ 0 s = Gn ⟨x,y,f⟩ n (s.drop i) -> (0 <= x /\ x <= 2097152) -> (0 <= y /\ y <= 2097152) -> f.length <= 5000 -> n <= 2097152 -> Run G c52_B1 (S52_1 (.m (.s s)) o (.m (.i .i64 x)) (.m (.i .i64 y)) (.m (.i .i64 (n : Int))) (.m (.i .i64 (i : Int))) B H1) _) 0 0 0 [] 0 _ _ _ (AeR _) (.inl ⟨rfl,rfl,rfl⟩) rfl (by omega) (by omega) (by simp) (by omega)
  refine BO (fun i : Nat=>s.length - i) fun i ih x y f n o B H1 hi ho hp hx hy hf hn=>?_
  have hvw:=SZ ho
  have hnf:=(BE ho).2
  have hol:=Ta ho
  unfold c52_B1
  cases hc : s[i]? with
  | none =>
   have : i = s.length:=by have:=AeU.1 hc; omega
   subst this
   rw [AfR] at hp
   have hp : Gn ⟨0,0,[]⟩ 0 s = some f:=hp
   have gc:=Tb (F:=38) rfl rfl ho (fun H=>Aan (Qr f) (by omega) H) rfl
   by_cases h0 : cE f = 0
   ·by_cases ht : cT f = s
    ·obtain ⟨hic,hne,hr,hlg⟩:=TP h0 ht h45
     have k:=qok _ hic
     rcases ho with ⟨rfl,_,_⟩ | ⟨_,rfl,rfl⟩
     ·exact absurd rfl hne
     have hs:=Ic hr hlg
     have g3:=Aed (Ci (Ao f)) hr hs 0 (by omega) []
     rw [show DS 0 = 0 from by decide,Aae (Bh hr).1] at g3
     have hvs : Af (view 20 [Row.cs 60 3 (AH f) 0 false]) [V.sl 0 f.length 3 0 f.length false,.m (.i .i64 0)] = some [.sl (Ao f),.i .i64 0]:=by
      have:=Nj (r:=0) (b:=0) (X:=[]) (A:=[]) (q:=f) (n:=f.length) rfl (AeR _) 18
      show (view 20 _ _).bind _ = _
      rw [this]
      rfl
     have hfz : AT ([V.sl 0 f.length 3 0 f.length false,.m (.i .i64 0)].flatMap DT) [Row.cs 60 3 (AH f) 0 false] = some [Row.cs 60 3 (AH f) 0 true]:=by
      show Option.bind (gd ((AH f).all fun e=>e.all isM) (some (Row.cs 60 3 (AH f) 0 true))) _ = _
      rw [Ig]
      rfl
     have hfl : Gg (.m (zP (Bt f))) = false:=by
      unfold zP
      rw [AeF (fun h=>hne (Ha.1 h))]
      rfl
     have gF:=CA (is:=[.sl (Ao f),.i .i64 0]) rfl rfl g3 hvs (by simp [DT,GS]) hfl rfl hfz
     generalize zP (Bt f) = zz at *
     simp (disch:=omega) [cl gc,h0,ht,cl gF]
     exact k
    ·have k:=qno fun h2 hcc=>by
      have:=GZ hcc
      rw [this] at hp
      cases hp
      exact ht (Nz hcc hl).2
     simp (disch:=omega) [cl gc,h0,ht]
     exact k
   ·have k:=qno fun h2 hcc=>by
     have:=GZ hcc
     rw [this] at hp
     cases hp
     exact h0 (Nz hcc hl).1
    simp (disch:=omega) [cl gc,h0]
    exact k
  | some c =>
   have hlt:=(Av hc).1
   have hlt' : (i : Int) < s.length:=by omega
   have hnn : nth s i = some c:=by rw [AA]; exact hc
   have hc256:=hb c (AeO hc)
   have wi : wr .i64 ((i : Int) + 1) = ((i + 1 : Nat) : Int):=wr_i64 (by omega) (by omega)
   rw [(Av hc).2] at hp
   by_cases hdg : GP c
   ·have hp2 : Gn ⟨x,y,f⟩ n (c :: s.drop (i + 1)) = if 2097152 < 10 * n + (c - 48) then none else Gn ⟨x,y,f⟩ (10 * n + (c - 48)) (s.drop (i + 1)):=by
     show (if GP c then _ else _) = _
     rw [AeJ hdg]
    rw [hp2] at hp
    obtain ⟨c1,c2⟩:=hdg
    have c1' : (48 : Int) <= c:=by omega
    have c2' : (c : Int) <= 57:=by omega
    have w8 : wr .u8 ((c : Int) - 48) = (c : Int) - 48:=GJ (by omega) (by omega)
    have w9 : wr .i64 ((c : Int) - 48) = (c : Int) - 48:=wr_i64 (by omega) (by omega)
    have w10 : wr .i64 (10 * (n : Int)) = 10 * (n : Int):=wr_i64 (by omega) (by omega)
    obtain ⟨m,hm⟩ : ∃ m,m = 10 * n + (c - 48):=⟨_,rfl⟩
    have w11 : wr .i64 (10 * (n : Int) + ((c : Int) - 48)) = (m : Int):=by rw [wr_i64 (by omega) (by omega)]; omega
    rw [<- hm] at hp
    by_cases h7 : 2097152 < m
    ·have h7' : (2097152 : Int) < m:=by omega
     rw [AeJ h7] at hp
     have k:=qpar hp
     simp (disch:=omega) [hlt',hnn,c1',c2',w8,w9,w10,w11,h7']
     exact k
    ·have h7' : ¬ (2097152 : Int) < m:=by omega
     rw [AeF h7] at hp
     have k:=ih (i + 1) (by omega) x y f m o B H1 (by omega) ho hp hx hy hf (by omega)
     simp (disch:=omega) [hlt',hnn,c1',c2',w8,w9,w10,w11,h7',wi,-Int.natCast_add]
     exact k
   ·rw [SW hdg] at hp
    obtain ⟨m,hm⟩ : ∃ m,m = max n 1:=⟨_,rfl⟩
    have hm0 : max (n : Int) 1 = (m : Int):=by omega
    rw [<- hm] at hp
    have hm7 : m <= 2097152:=by omega
    have z1 : wr .i64 ((f.length : Int) + (m : Int)) = ((f.length + m : Nat) : Int):=wr_i64 (by omega) (by omega)
    have z2 : wr .i64 (y + (m : Int)) = y + m:=wr_i64 (by omega) (by omega)
    have z3 : wr .i64 (x + (m : Int)) = x + m:=wr_i64 (by omega) (by omega)
    by_cases e36 : c = 36
    ·subst e36
     have hp : Gn ⟨0,0,[]⟩ 0 s = if 2097152 < (0 : Int) \/ 2097152 < y + (m : Int) then none else Gn ⟨0,y + (m : Int),f⟩ 0 (s.drop (i + 1)):=hp
     by_cases ht : 2097152 < y + (m : Int)
     ·rw [AeJ (.inr ht)] at hp
      have k:=qpar hp
      simp (disch:=omega) [hlt',hnn,ht,hm0,z2,-Int.natCast_add]
      exact k
     ·rw [AeF (by omega)] at hp
      have k:=ih (i + 1) (by omega) 0 (y + (m : Int)) f 0 o B H1 (by omega) ho hp (by omega) (by omega) hf (by omega)
      simp (disch:=omega) [hlt',hnn,ht,hm0,z2,wi,-Int.natCast_add]
      exact k
    have e36' : ¬ (c : Int) = 36:=by omega
    by_cases e46 : c = 46
    ·subst e46
     have hp : Gn ⟨0,0,[]⟩ 0 s = if 2097152 < x + (m : Int) \/ 2097152 < y then none else Gn ⟨x + (m : Int),y,f⟩ 0 (s.drop (i + 1)):=hp
     by_cases ht : 2097152 < x + (m : Int)
     ·rw [AeJ (.inl ht)] at hp
      have k:=qpar hp
      simp (disch:=omega) [hlt',hnn,ht,hm0,z3,-Int.natCast_add]
      exact k
     ·rw [AeF (by omega)] at hp
      have hty : ¬ 2097152 < y:=by omega
      have k:=ih (i + 1) (by omega) (x + (m : Int)) y f 0 o B H1 (by omega) ho hp (by omega) (by omega) hf (by omega)
      simp (disch:=omega) [hlt',hnn,ht,hty,hm0,z3,wi,-Int.natCast_add]
      exact k
    have e46' : ¬ (c : Int) = 46:=by omega
    by_cases hcl : 65 <= c /\ c <= 71
    ·rw [We hcl] at hp
     dsimp only at hp
     have k1 : (48 : Int) <= c:=by omega
     have k1n : 48 <= c:=by omega
     have k2 : ¬ (c : Int) <= 57:=by omega
     have k2n : ¬ c <= 57:=by omega
     have k3 : (65 : Int) <= c:=by omega
     have k3n : 65 <= c:=by omega
     have k4 : (c : Int) <= 71:=by omega
     have k4n : c <= 71:=by omega
     by_cases hbig : f.length + m <= 5000
     ·have hbig' : ((f.length + m : Nat) : Int) <= 5000:=by omega
      rw [AeF (by omega),show act ⟨x,y,f⟩ (m : Int) ((c : Int) - 64) = ⟨x + m,y,f ++ AW x y ((c : Int) - 64) m⟩ from by unfold act; rw [AeF (by omega),AeF (by omega)]; rfl] at hp
      dsimp only at hp
      simp (disch:=omega) [hlt',hnn,e36',e46',k1,k2,k3,k4,hm0,z1,hol,hbig',-Int.natCast_add]
      refine Aem _ x y c m f _ _ hx hcl (by omega) hbig (fun o2 B2 H2 ho2=>?_) 0 o B H1 (AeR _) (by simp only [AW,Afd]; exact ho)
      have hn2:=(BE ho2).2
      have hty : ¬ 2097152 < y:=by omega
      by_cases ht : 2097152 < x + (m : Int)
      ·rw [AeJ (.inl ht)] at hp
       have k:=qpar hp
       simp (disch:=omega) [z3,ht]
       exact k
      ·rw [AeF (by omega)] at hp
       have k:=ih (i + 1) (by omega) (x + (m : Int)) y _ 0 o2 B2 H2 (by omega) ho2 hp (by omega) (by omega) (by rw [Fn]; exact hbig) (by omega)
       simp (disch:=omega) [z3,ht,hty,wi,-Int.natCast_add]
       exact k
     ·have hbig' : ¬ ((f.length + m : Nat) : Int) <= 5000:=by omega
      rw [AeJ (by omega)] at hp
      have k:=qpar hp
      simp (disch:=omega) [hlt',hnn,e36',e46',k1,k2,k3,k4,hm0,z1,hol,hbig',-Int.natCast_add]
      exact k
    rw [Pn e46 e36 hcl] at hp
    have k:=qpar hp
    by_cases h : ¬ 48 <= c
    ·have k1 : ¬ (48 : Int) <= c:=by omega
     have k3 : ¬ (65 : Int) <= c:=by omega
     have k3n : ¬ 65 <= c:=by omega
     simp (disch:=omega) [hlt',hnn,e36',e46',k1,k3,hm0,-Int.natCast_add]
     exact k
    by_cases h : 48 <= c /\ ¬ 65 <= c
    ·have k0 : 48 <= c:=by omega
     have k1 : (48 : Int) <= c:=by omega
     have k2 : ¬ (c : Int) <= 57:=by have:=hdg; unfold GP at this; omega
     have k2n : ¬ c <= 57:=by have:=hdg; unfold GP at this; omega
     have k3 : ¬ (65 : Int) <= c:=by omega
     have k3n : ¬ 65 <= c:=by omega
     simp (disch:=omega) [hlt',hnn,e36',e46',k1,k2,k3,hm0,-Int.natCast_add]
     exact k
    have h : 65 <= c:=by omega
    have k0 : 48 <= c:=by omega
    have k1 : (48 : Int) <= c:=by omega
    have k2 : ¬ (c : Int) <= 57:=by have:=hdg; unfold GP at this; omega
    have k2n : ¬ c <= 57:=by have:=hdg; unfold GP at this; omega
    have k3 : (65 : Int) <= c:=by omega
    have k4 : ¬ (c : Int) <= 71:=by omega
    have k4n : ¬ c <= 71:=by omega
    simp (disch:=omega) [hlt',hnn,e36',e46',k1,k2,k3,k4,hm0,-Int.natCast_add]
    exact k
 obtain ⟨x,H',h1,rfl,h2⟩:=key
 exact ⟨x,h2,h1⟩
theorem Pe {F : Nat} {l : List Ce} {x : V} (hp : G.prim F = none) (hs : G.sh F = false) (h : Gives G F [.m (.sl (Ao l))] [] x []) : ∃ H2,Gives G F [.sl 0 l.length 3 0 l.length false] [Row.cs 60 3 (AH l) 0 false] x H2:=by
 have hv : Af (view 20 [Row.cs 60 3 (AH l) 0 false]) [V.sl 0 l.length 3 0 l.length false] = some [.sl (Ao l)]:=by
  have:=Nj (r:=0) (b:=0) (X:=[]) (A:=[]) (q:=l) (n:=l.length) rfl (AeR _) 18
  show (view 20 _ _).bind _ = _
  rw [this]
  rfl
 cases hf : Gg x with
 | true=>exact ⟨_,Du (is:=[.sl (Ao l)]) hp hs h hv (.inr ⟨by simp [DT,GS],hf⟩)⟩
 | false =>
  have hfz : AT ([V.sl 0 l.length 3 0 l.length false].flatMap DT) [Row.cs 60 3 (AH l) 0 false] = some [Row.cs 60 3 (AH l) 0 true]:=by
   show Option.bind (gd ((AH l).all fun e=>e.all isM) (some (Row.cs 60 3 (AH l) 0 true))) _ = _
   rw [Ig]
   rfl
  exact ⟨_,CA (is:=[.sl (Ao l)]) hp hs h hv (by simp [DT,GS]) hf rfl hfz⟩
theorem QC (l : List Ce) : BC (Ao l) = AH l:=by
 unfold BC Ao AH
 rw [AfW]
 rfl
theorem Aap {l : List Ce} (hne : l ≠ []) (hl : l.length <= 1000000) : Gives G 144 [.m (.sl (Ao l))] [] (.sl 0 l.length 3 0 l.length false) [Row.cs 60 3 (AH l) 0 false]:=by
 refine .of_ret (AS mono rfl rfl rfl rfl rfl ?_)
 have hnil : DU 4 (.m (.sl (Ao l))) = some false:=rfl
 have ha : ∀ B,Ai (fun _ _ _=>none) ⟨B,[]⟩ (.app 60 3 24) [.ls [],.m (.sl (Ao l))] = some (.sl 0 l.length 3 0 l.length false,⟨B,[Row.cs 60 3 (AH l) 0 false]⟩):=fun B=>by
  obtain ⟨c,r,rfl⟩:=Afq hne
  show BA ⟨B,[]⟩ 60 3 24 (BC (Ao (c :: r))) = _
  rw [QC]
  have h1 : Nat.ble ((AH (c :: r)).length * 24) 140737488355328 = true:=by rw [Bd]; exact Afc (by rw [Ek]; omega)
  have h2 : ((AH (c :: r)).all fun e=>Nat.beq e.length 3 && e.all BH) = true:=by
   unfold AH
   rw [List.all_map,AeQ]
   exact fun _ _=>rfl
  unfold BA
  rw [h1,h2,Ek]
  rfl
 simp [hnil,-Ez,ha]
theorem Aet : ∀ {p : List Ce} {e : Int},bad p = some e -> ¬ e = 0
 | [],_,h=>by cases h
 | c :: r,e,h=>by
  have e2 : bad (c :: r) = match Jo c with | some e=>some e | none=>bad r:=rfl
  rw [e2] at h
  cases hc : Jo c with
  | some e' =>
   rw [hc] at h
   cases h
   unfold Jo at hc
   split at hc
   ·cases hc; decide
   ·split at hc
    ·cases hc; decide
    ·cases hc
  | none=>rw [hc] at h; exact Aet h
theorem Wt (s : List Nat) (hb : ∀ c,c ∈ s -> c < 256) (hl : s.length <= 65536) (h45 : ¬ s = [45]) (H : Hp) : ∃ x,Ug s x /\ Gives G 94 [.m (.s s)] H x H:=by
 have key : ∃ x H',Gives G 94 [.m (.s s)] H x H' /\ (H' = H /\ Ug s x):=by
  refine BX ?_
  refine Hw rfl rfl rfl rfl rfl ?_
  generalize hQ : (fun (x : V) (H' : Hp)=>H' = H /\ Ug s x) = Q
  have qno : (∀ h,¬ IsCode s h) -> Q (.tu [.m (.nl 4),.m (.i .i64 15)]) H:=fun h=>by rw [<- hQ]; exact ⟨rfl,.inr ⟨h,rfl⟩⟩
  have qok : ∀ h,IsCode s h -> Q (.tu [.m (zP h),.m (.i .i64 0)]) H:=fun h hc=>by rw [<- hQ]; exact ⟨rfl,.inl ⟨h,hc,rfl⟩⟩
  clear hQ
  have hl' : ¬ (65536 : Int) < s.length:=by omega
  have hl'' : ¬ 65536 < s.length:=by omega
  obtain ⟨w,hw,g1⟩:=Aaq s hb (by omega) []
  cases hp : Fa ⟨0,0,[]⟩ 0 0 s with
  | none =>
   rw [hp] at g1
   have k:=qno fun h hc=>by rw [EK hc] at hp; cases hp
   simp (disch:=omega) [hl',h45,cl g1]
   exact k
  | some l =>
   have hwl:=hw l hp
   subst hwl
   rw [hp] at g1
   by_cases hl0 : l = []
   ·have k:=qno fun h hc=>by
     have:=EK hc
     rw [hp] at this
     cases this
     exact hc.ne hl0
    subst hl0
    have hz0 : zP [] = .nl 4:=rfl
    simp (disch:=omega) [hl',h45,cl g1,hz0]
    exact k
   ·have hz : zP l = .sl (Ao l):=by unfold zP; rw [AeF hl0]
    rw [hz] at g1
    have hll : l.length <= 1000000:=by
     have:=Kb s 0 0 ⟨0,0,[]⟩ l (by simp) hp
     omega
    have hlen : ¬ (l.length : Int) = 0:=fun h=>hl0 (Afa (by omega))
    have hrl:=(Ci (Ao l)).rules
    simp only [show (Ao l).length = l.length from by simp [Ao]] at hrl
    have g2:=Aap hl0 hll
    rcases Aeh (Ci (Ao l)) hll [] with ⟨e,he,g3⟩ | ⟨he,q,hq,ha,g3⟩
    ·have e0:=Aet he
     obtain ⟨H2,g4⟩:=Pe rfl rfl g3
     have k:=qno fun h hc=>by
      have:=EK hc
      rw [hp] at this
      cases this
      rw [PC (Bh hc.r).2.1] at he
      cases he
     simp (disch:=omega) [hl',h45,cl g1,hrl,hl0,cl g2,cl g4,e0]
     exact k
    ·obtain ⟨H2,g4⟩:=Pe rfl rfl g3
     by_cases hex : ∃ h,IsCode s h
     ·obtain ⟨h,hc⟩:=hex
      have hlh:=EK hc
      rw [hp] at hlh
      cases hlh
      have hpw:=Bh hc.r
      rw [Wf hpw.2.1] at hq
      have hqh : q = l:=SS hpw.1 (Aev ha (QH hq (GX hpw.1))) hq
      subst hqh
      have hres : Abg q = .tu [.m (zP q),.m (.i .i64 0)]:=by
       unfold Abg
       rw [AcZ hpw.1,AeF (by simp),AeF (by have:=hpw.2.2; omega)]
      rw [hres,hz] at g4
      obtain ⟨i1,i2⟩:=Nz hc hl
      have g5:=fun H=>TQ (Ci (Ao q)) hll H
      rw [i1,i2] at g5
      have k:=qok q hc
      rw [hz] at k
      simp (disch:=omega) [hl',h45,cl g1,hrl,hl0,cl g2,cl g4,cl (g5 _)]
      exact k
     ·have hno : ∀ h,¬ IsCode s h:=fun h hc=>hex ⟨h,hc⟩
      have k:=qno hno
      unfold Abg at g4
      by_cases ht : tw q = true
      ·rw [AeJ ht] at g4
       simp (disch:=omega) [hl',h45,cl g1,hrl,hl0,cl g2,cl g4]
       exact k
      ·rw [AeF ht] at g4
       by_cases h5 : 5000 < q.length
       ·rw [AeJ h5] at g4
        simp (disch:=omega) [hl',h45,cl g1,hrl,hl0,cl g2,cl g4]
        exact k
       ·rw [AeF h5] at g4
        have g5:=fun H=>TQ (Qr q) (by omega) H
        by_cases h0 : cE q = 0
        ·by_cases hts : cT q = s
         ·exact absurd (TP h0 hts h45).1 (hno _)
         ·simp (disch:=omega) [hl',h45,cl g1,hrl,hl0,cl g2,cl g4,cl (g5 _),h0,hts]
          exact k
        ·simp (disch:=omega) [hl',h45,cl g1,hrl,hl0,cl g2,cl g4,cl (g5 _),h0]
         exact k
 obtain ⟨x,H',h1,rfl,h2⟩:=key
 exact ⟨x,h2,h1⟩
theorem NC (s : List Nat) (hb : ∀ c,c ∈ s -> c < 256) (hl : s.length <= 65536) : ∃ x,(s = [45] /\ x = V.tu [.m (.nl 4),.m (.i .i64 0)] \/ ¬ s = [45] /\ Ug s x) /\ ∀ H,Gives G 94 [.m (.s s)] H x H /\ Gives G 52 [.m (.s s)] H x H:=by
 by_cases h45 : s = [45]
 ·refine ⟨_,.inl ⟨h45,rfl⟩,fun H=>⟨?_,?_⟩⟩
  ·subst h45
   refine Ah rfl rfl rfl rfl rfl ?_
   simp (disch:=omega) []
  ·subst h45
   refine Ah rfl rfl rfl rfl rfl ?_
   simp (disch:=omega) []
 ·obtain ⟨x,hx,_⟩:=Pv s hb hl h45 []
  refine ⟨x,.inr ⟨h45,hx⟩,fun H=>?_⟩
  obtain ⟨y,hy,g1⟩:=Wt s hb hl h45 H
  obtain ⟨z,hz,g2⟩:=Pv s hb hl h45 H
  rw [Mk hx hy]
  refine ⟨g1,?_⟩
  rw [Mk hy hz]
  exact g2
theorem Wu {s : List Nat} {x : V} (h : (s = [45] /\ x = V.tu [.m (.nl 4),.m (.i .i64 0)]) \/ (¬ s = [45] /\ Ug s x)) : ∃ (w : I) (h : List Ce) (e : Int),IsSl w (Ao h) /\ h.length <= 5000 /\ x = .tu [.m w,.m (.i .i64 e)] /\ ((e = 0 /\ s = [45] /\ h = []) \/ (e = 0 /\ IsCode s h) \/ (e = 15 /\ h = [])):=by
 rcases h with ⟨h1,rfl⟩ | ⟨h1,⟨h,hc,rfl⟩ | ⟨_,rfl⟩⟩
 ·exact ⟨.nl 4,[],0,ED,by simp,rfl,.inl ⟨rfl,h1,rfl⟩⟩
 ·exact ⟨zP h,h,0,Qr h,(Bh hc.r).2.2,rfl,.inr (.inl ⟨rfl,hc⟩)⟩
 ·exact ⟨.nl 4,[],15,ED,by simp,rfl,.inr (.inr ⟨rfl,rfl⟩)⟩
end Go.Mx.Tryz
