/- Write of the reference: what it writes; Code of both texts. -/
import Derived.Test.YtpaddecplgomeaaGreatDoorSq
import Derived.Test.YtpaddecplgomeaaGreatDoorDec
import Derived.Test.YtpaddecplgomeaaGreatDoorBld
import Derived.Test.YtpaddecplgomeaaGreatDoorItoa
set_option linter.unusedSimpArgs false
set_option linter.unusedVariables false
set_option linter.unusedSectionVars false
set_option maxRecDepth 100000
set_option maxHeartbeats 4000000
namespace Go.Mx.Tryz
open Go.Sort Go.Lib Go.Proofs
def It (l : Int) : Nat:=if l = 0 then 46 else if l = 8 then 36 else 64 + l.toNat
def DL (n l : Int) : List Nat:=(if 1 < n then AN n else []) ++ [It l]
def rle (n last : Int) : List (Int × Int) -> List Nat
  | []=>if last = -1 then [] else DL n last
  | q :: r=>if q.2 = last then rle (n + q.1) last r else (if 0 <= last then DL n last else []) ++ rle q.1 q.2 r
def pcs (x y : Int) : List Ce -> List (Int × Int)
  | []=>[]
  | c :: r=>(if y < c.y then [(c.y - y,8)] else []) ++ ((if (if y < c.y then 0 else x) < c.x then [(c.x - (if y < c.y then 0 else x),0)] else []) ++ (1,c.s) :: pcs (c.x + 1) c.y r)
def Fo (h : List Ce) : List Nat:=rle 0 (-1) (pcs 0 0 h)
theorem DA {n l : Int} {ps : List (Int × Int)} (hl : 0 <= l) (h : ∀ q r,ps = q :: r -> q.2 ≠ l /\ 0 <= q.2) : rle n l ps = DL n l ++ rle 0 (-1) ps:=by
  cases ps with
  | nil =>
    show (if l = -1 then [] else DL n l) = DL n l ++ (if (-1 : Int) = -1 then [] else DL 0 (-1))
    rw [AeF (by omega),AeJ rfl,Afd]
  | cons q r =>
    obtain ⟨h1,h2⟩:=h q r rfl
    show (if q.2 = l then rle (n + q.1) l r else (if 0 <= l then DL n l else []) ++ rle q.1 q.2 r) = DL n l ++ (if q.2 = -1 then rle (0 + q.1) (-1) r else (if (0 : Int) <= -1 then DL 0 (-1) else []) ++ rle q.1 q.2 r)
    rw [AeF h1,AeJ hl,AeF (by omega),AeF (by omega),Afi]
theorem Ih {q : Int × Int} {r : List (Int × Int)} (h : 0 <= q.2) : rle 0 (-1) (q :: r) = rle q.1 q.2 r:=by
  show (if q.2 = -1 then rle (0 + q.1) (-1) r else (if (0 : Int) <= -1 then DL 0 (-1) else []) ++ rle q.1 q.2 r) = _
  rw [AeF (by omega),AeF (by omega),Afi]
def aft (x y : Int) : List Ce -> Prop
  | []=>True
  | c :: r=>((y < c.y /\ 0 <= c.x) \/ (y = c.y /\ x <= c.x)) /\ (0 <= c.x /\ c.x <= 1048576 /\ 0 <= c.y /\ c.y <= 1048576) /\ (1 <= c.s /\ c.s < 8) /\ aft (c.x + 1) c.y r
structure PS where
  x : Int
  y : Int
  out : List Ce
def AW (x y s : Int) : Nat -> List Ce
  | 0=>[]
  | n + 1=>AW x y s n ++ [⟨x + n,y,s⟩]
theorem EL (x y s : Int) : ∀ n,(AW x y s n).length = n
  | 0=>rfl
  | n + 1=>by unfold AW; simp [EL]
theorem Jl (x y s : Int) (n : Nat) : ∀ m,AW x y s n ++ AW (x + n) y s m = AW x y s (n + m)
  | 0=>by simp [AW]
  | m + 1=>by
    show AW x y s n ++ (AW (x + n) y s m ++ [_]) = AW x y s (n + m) ++ [_]
    rw [<- AeS,Jl]
    congr 2
    simp
    omega
def act (st : PS) (n l : Int) : PS:=if l = 8 then ⟨0,st.y + n,st.out⟩ else ⟨st.x + n,st.y,if l = 0 then st.out else st.out ++ AW st.x st.y l n.toNat⟩
def fit (st : PS) : Prop:=(0 <= st.x /\ st.x <= 2097152) /\ (0 <= st.y /\ st.y <= 2097152) /\ st.out.length <= 5000
theorem AaE (st : PS) (n m l : Int) (hn : 0 <= n) (hm : 0 <= m) : act (act st n l) m l = act st (n + m) l:=by
  unfold act
  by_cases h8 : l = 8
  · simp only [AeJ h8]
    congr 1
    omega
  · simp only [AeF h8]
    by_cases h0 : l = 0
    · simp only [AeJ h0]
      congr 1
      omega
    · simp only [AeF h0]
      congr 1
      · omega
      · rw [AeS]
        congr 1
        obtain ⟨a,rfl⟩:=AeV hn
        obtain ⟨b,rfl⟩:=AeV hm
        have e : ((a : Int) + (b : Int)).toNat = a + b:=by omega
        rw [e]
        exact Jl st.x st.y l a b
def AdR (st : PS) : List (Int × Int) -> Prop
  | []=>True
  | q :: r=>(1 <= q.1 /\ 0 <= q.2 /\ q.2 <= 8) /\ fit (act st q.1 q.2) /\ AdR (act st q.1 q.2) r
def Uf (st : PS) (ps : List (Int × Int)) : PS:=ps.foldl (fun s q=>act s q.1 q.2) st
structure Par (P : PS -> List Nat -> Option (List Ce)) : Prop where
  step : ∀ st n l t,1 <= n -> n <= 2097152 -> 0 <= l -> l <= 8 -> fit st -> fit (act st n l) -> P st (DL n l ++ t) = P (act st n l) t
  nil : ∀ st,P st [] = some st.out
theorem Ael {st : PS} {n l : Int} (h : fit st) (h2 : fit (act st n l)) : n <= 2097152:=by
  unfold act fit at h2
  unfold fit at h
  by_cases h8 : l = 8
  · rw [AeJ h8] at h2; dsimp only at h2; omega
  · rw [AeF h8] at h2; dsimp only at h2; omega
theorem Nq {P : PS -> List Nat -> Option (List Ce)} (hP : Par P) : ∀ (ps : List (Int × Int)) (n l : Int) (st : PS),fit st -> 1 <= n -> 0 <= l -> l <= 8 -> fit (act st n l) -> AdR (act st n l) ps -> P st (rle n l ps) = some (Uf (act st n l) ps).out
  | [],n,l,st,h1,h2,h3,h4,h5,_=>by
    have e : rle n l [] = DL n l ++ []:=by
      show (if l = -1 then [] else DL n l) = _
      rw [AeF (by omega),Afd]
    rw [e,hP.step st n l [] h2 (Ael h1 h5) h3 h4 h1 h5,hP.nil]
    rfl
  | q :: r,n,l,st,h1,h2,h3,h4,h5,h6=>by
    obtain ⟨⟨a1,a2,a3⟩,a4,a5⟩:=h6
    have e0 : Uf (act st n l) (q :: r) = Uf (act (act st n l) q.1 q.2) r:=rfl
    by_cases e : q.2 = l
    · have e1 : rle n l (q :: r) = rle (n + q.1) l r:=by
        show (if q.2 = l then _ else _) = _
        rw [AeJ e]
      rw [e] at a4 a5 e0
      rw [AaE st n q.1 l (by omega) (by omega)] at a4 a5 e0
      rw [e1,e0]
      exact Nq hP r (n + q.1) l st h1 (by omega) h3 h4 a4 a5
    · have e1 : rle n l (q :: r) = DL n l ++ rle q.1 q.2 r:=by
        show (if q.2 = l then _ else (if 0 <= l then DL n l else []) ++ _) = _
        rw [AeF e,AeJ h3]
      rw [e1,hP.step st n l _ h2 (Ael h1 h5) h3 h4 h1 h5,e0]
      exact Nq hP r q.1 q.2 (act st n l) h5 a1 a2 a3 a4 a5
theorem act_s (st : PS) (s : Int) (h : 1 <= s /\ s < 8) : act st 1 s = ⟨st.x + 1,st.y,st.out ++ [⟨st.x,st.y,s⟩]⟩:=by
  unfold act
  rw [AeF (by omega),AeF (by omega)]
  have e : AW st.x st.y s (1 : Int).toNat = [⟨st.x,st.y,s⟩]:=by
    show [] ++ [(⟨st.x + ((0 : Nat) : Int),st.y,s⟩ : Ce)] = _
    simp
  rw [e]
theorem act_8 (st : PS) (n : Int) : act st n 8 = ⟨0,st.y + n,st.out⟩:=rfl
theorem act_0 (st : PS) (n : Int) : act st n 0 = ⟨st.x + n,st.y,st.out⟩:=rfl
theorem Pu : ∀ (h : List Ce) (x y : Int) (out : List Ce),aft x y h -> fit ⟨x,y,out⟩ -> out.length + h.length <= 5000 -> AdR ⟨x,y,out⟩ (pcs x y h) /\ (Uf ⟨x,y,out⟩ (pcs x y h)).out = out ++ h
  | [],x,y,out,_,_,_=>⟨AfE,by simp [pcs,Uf]⟩
  | c :: r,x,y,out,ha,hf,hl=>by
    obtain ⟨h1,h2,h3,h4⟩:=ha
    have h2':=h2
    obtain ⟨f1,f2,f3⟩:=hf
    dsimp only at f1 f2 f3
    have hl' : out.length + r.length + 1 <= 5000:=by simp at hl; omega
    have ih:=Pu r (c.x + 1) c.y (out ++ [c]) h4 ⟨⟨by dsimp only; omega,by dsimp only; omega⟩,⟨by dsimp only; omega,by dsimp only; omega⟩,by dsimp only; simp; omega⟩ (by simp; omega)
    have hc : (⟨c.x,c.y,c.s⟩ : Ce) = c:=rfl
    have hst : ∀ out',out' = out -> act ⟨c.x,c.y,out'⟩ 1 c.s = ⟨c.x + 1,c.y,out ++ [c]⟩:=fun out' e=>by rw [act_s _ _ h3,e]
    have hfc : fit ⟨c.x + 1,c.y,out ++ [c]⟩:=⟨⟨by dsimp only; omega,by dsimp only; omega⟩,⟨by dsimp only; omega,by dsimp only; omega⟩,by dsimp only; simp; omega⟩
    have hcell : AdR ⟨c.x,c.y,out⟩ ((1,c.s) :: pcs (c.x + 1) c.y r) /\ (Uf ⟨c.x,c.y,out⟩ ((1,c.s) :: pcs (c.x + 1) c.y r)).out = out ++ c :: r:=by
      have e:=hst out rfl
      refine ⟨⟨⟨by dsimp only; omega,by dsimp only; omega,by dsimp only; omega⟩,?_,?_⟩,?_⟩
      · dsimp only; rw [e]; exact hfc
      · dsimp only; rw [e]; exact ih.1
      · show (Uf (act ⟨c.x,c.y,out⟩ 1 c.s) (pcs (c.x + 1) c.y r)).out = _
        rw [e,ih.2]
        simp
    have hcol : ∀ x',0 <= x' -> x' <= c.x -> AdR ⟨x',c.y,out⟩ ((if x' < c.x then [(c.x - x',0)] else []) ++ (1,c.s) :: pcs (c.x + 1) c.y r) /\ (Uf ⟨x',c.y,out⟩ ((if x' < c.x then [(c.x - x',0)] else []) ++ (1,c.s) :: pcs (c.x + 1) c.y r)).out = out ++ c :: r:=fun x' hx0 hx=>by
      by_cases hlt : x' < c.x
      · rw [AeJ hlt,AfT]
        have e : act ⟨x',c.y,out⟩ (c.x - x') 0 = ⟨c.x,c.y,out⟩:=by
          rw [act_0]
          congr 1
          dsimp only
          omega
        refine ⟨⟨⟨by dsimp only; omega,by dsimp only; omega,by dsimp only; omega⟩,?_,?_⟩,?_⟩
        · dsimp only; rw [e]; exact ⟨⟨by dsimp only; omega,by dsimp only; omega⟩,⟨by dsimp only; omega,by dsimp only; omega⟩,f3⟩
        · dsimp only; rw [e]; exact hcell.1
        · show (Uf (act ⟨x',c.y,out⟩ (c.x - x') 0) _).out = _
          rw [e,hcell.2]
      · rw [AeF hlt,Afi]
        have : x' = c.x:=by omega
        rw [this]
        exact hcell
    unfold pcs
    by_cases hy : y < c.y
    · rw [AeJ hy,AeJ hy,AfT]
      have e : act ⟨x,y,out⟩ (c.y - y) 8 = ⟨0,c.y,out⟩:=by
        rw [act_8]
        congr 1
        dsimp only
        omega
      have k:=hcol 0 (by omega) (by omega)
      refine ⟨⟨⟨by dsimp only; omega,by dsimp only; omega,by dsimp only; omega⟩,?_,?_⟩,?_⟩
      · dsimp only; rw [e]; exact ⟨⟨by dsimp only; omega,by dsimp only; omega⟩,⟨by dsimp only; omega,by dsimp only; omega⟩,f3⟩
      · dsimp only; rw [e]; exact k.1
      · show (Uf (act ⟨x,y,out⟩ (c.y - y) 8) _).out = _
        rw [e,k.2]
    · rw [AeF hy,AeF hy,Afi]
      have hyc : y = c.y:=by omega
      subst hyc
      exact hcol x (by omega) (by omega)
theorem Xh {x y : Int} {c : Ce} {r : List Ce} (hs : 0 <= c.s) : ∃ q t,pcs x y (c :: r) = q :: t /\ 0 <= q.2 /\ (y < c.y -> q.2 = 8) /\ (¬ y < c.y -> x < c.x -> q.2 = 0) /\ (¬ y < c.y -> ¬ x < c.x -> q.2 = c.s):=by
  unfold pcs
  by_cases hy : y < c.y
  · rw [AeJ hy,AeJ hy]
    exact ⟨_,_,rfl,by show (0 : Int) <= 8; decide,fun _=>rfl,fun h=>absurd hy h,fun h=>absurd hy h⟩
  · rw [AeF hy,AeF hy]
    by_cases hx : x < c.x
    · rw [AeJ hx]
      exact ⟨_,_,rfl,Int.le_refl 0,fun h=>absurd h hy,fun _ _=>rfl,fun _ h=>absurd hx h⟩
    · rw [AeF hx]
      exact ⟨_,_,rfl,hs,fun h=>absurd h hy,fun _ h=>absurd h hx,fun _ _=>rfl⟩
theorem Pi {P : PS -> List Nat -> Option (List Ce)} (hP : Par P) {h : List Ce} (ha : aft 0 0 h) (hl : h.length <= 5000) (hne : h ≠ []) : P ⟨0,0,[]⟩ (Fo h) = some h:=by
  obtain ⟨k1,k2⟩:=Pu h 0 0 [] ha ⟨⟨by decide,by decide⟩,⟨by decide,by decide⟩,by simp⟩ (by simpa using hl)
  obtain ⟨c,r,rfl⟩:=Afq hne
  obtain ⟨q,t,e,hq,_⟩:=Xh (x:=0) (y:=0) (c:=c) (r:=r) (by have:=ha.2.2.1; omega)
  unfold Fo
  rw [e] at k1 k2 ⊢
  rw [Ih hq]
  obtain ⟨⟨a1,a2,a3⟩,a4,a5⟩:=k1
  rw [Nq hP t q.1 q.2 ⟨0,0,[]⟩ ⟨⟨by decide,by decide⟩,⟨by decide,by decide⟩,by simp⟩ a1 a2 a3 a4 a5]
  exact congrArg some k2
def dvl : Nat -> List Nat -> Nat
  | a,[]=>a
  | a,c :: r=>dvl (10 * a + (c - 48)) r
theorem TJ : ∀ (l m : List Nat) (a : Nat),dvl a (l ++ m) = dvl (dvl a l) m
  | [],_,_=>rfl
  | c :: r,m,a=>by
    show dvl (10 * a + (c - 48)) (r ++ m) = dvl (dvl (10 * a + (c - 48)) r) m
    exact TJ r m _
theorem Mn (u : Nat) : ∀ c,c ∈ BR u -> 48 <= c /\ c <= 57:=by
  refine BO (P:=fun u=>∀ c,c ∈ BR u -> 48 <= c /\ c <= 57) (fun u : Nat=>u) (fun u ih c hc=>?_) u
  by_cases h : u < 10
  · rw [Bc h] at hc
    simp at hc
    omega
  · rw [BL h] at hc
    rcases AfQ.1 hc with h1 | h1
    · exact ih (u / 10) (by omega) c h1
    · simp at h1
      omega
theorem Ip (u : Nat) : dvl 0 (BR u) = u:=by
  refine BO (P:=fun u=>dvl 0 (BR u) = u) (fun u : Nat=>u) (fun u ih=>?_) u
  by_cases h : u < 10
  · rw [Bc h]
    show 10 * 0 + (48 + u - 48) = u
    omega
  · rw [BL h,TJ,ih (u / 10) (by omega)]
    show 10 * (u / 10) + (48 + u % 10 - 48) = u
    omega
theorem Wv (u : Nat) : BR u ≠ []:=by
  by_cases h : u < 10
  · rw [Bc h]; simp
  · rw [BL h]; simp
theorem Ml : ∀ (k u : Nat),u < 10 ^ (k + 1) -> (BR u).length <= k + 1
  | 0,u,h=>by rw [Bc (by simpa using h)]; simp
  | k + 1,u,h=>by
    by_cases h1 : u < 10
    · rw [Bc h1]; simp
    · rw [BL h1,AeL]
      have : u / 10 < 10 ^ (k + 1):=by
        rw [Nat.pow_succ] at h
        exact Nat.div_lt_of_lt_mul (by rw [Nat.mul_comm]; exact h)
      have:=Ml k (u / 10) this
      simp
      omega
theorem Xr : ∀ (l : List Nat) (a : Nat),a <= dvl a l
  | [],a=>AeI _
  | c :: r,a=>AfP (by omega) (Xr r (10 * a + (c - 48)))
def GP (c : Nat) : Prop:=48 <= c /\ c <= 57
instance (c : Nat) : Decidable (GP c):=by unfold GP; infer_instance
def lix (c : Nat) : Option Int:=if c = 46 then some 0 else if c = 36 then some 8 else if 65 <= c /\ c <= 71 then some ((c : Int) - 64) else none
theorem Po {l : Int} (h0 : 0 <= l) (h8 : l <= 8) : lix (It l) = some l /\ ¬ GP (It l):=by
  unfold lix It GP
  by_cases e0 : l = 0
  · subst e0; decide
  · by_cases e8 : l = 8
    · subst e8; decide
    · rw [AeF e0,AeF e8]
      refine ⟨?_,by omega⟩
      rw [AeF (by omega),AeF (by omega),AeJ (by omega)]
      congr 1
      omega
def Fa (st : PS) (n d : Nat) : List Nat -> Option (List Ce)
  | []=>if d = 0 then some st.out else none
  | c :: r=>if GP c then (if 7 < d + 1 then none else Fa st (10 * n + (c - 48)) (d + 1) r) else match lix c with
    | none=>none
    | some k=>if 0 < k /\ k < 8 /\ 5000 < st.out.length + (if d = 0 then 1 else n) then none
      else if 4194304 < max (act st (if d = 0 then 1 else n : Nat) k).x (act st (if d = 0 then 1 else n : Nat) k).y then none else Fa (act st (if d = 0 then 1 else n : Nat) k) 0 0 r
def Gn (st : PS) (n : Nat) : List Nat -> Option (List Ce)
  | []=>some st.out
  | c :: r=>if GP c then (if 2097152 < 10 * n + (c - 48) then none else Gn st (10 * n + (c - 48)) r) else match lix c with
    | none=>none
    | some k=>if 0 < k /\ k < 8 /\ 5000 < st.out.length + max n 1 then none
      else if 2097152 < (act st (max n 1 : Nat) k).x \/ 2097152 < (act st (max n 1 : Nat) k).y then none else Gn (act st (max n 1 : Nat) k) 0 r
theorem SX (st : PS) : ∀ (ds : List Nat) (t : List Nat) (n d : Nat),(∀ c,c ∈ ds -> GP c) -> d + ds.length <= 7 -> Fa st n d (ds ++ t) = Fa st (dvl n ds) (d + ds.length) t
  | [],t,n,d,_,_=>rfl
  | c :: r,t,n,d,h,hl=>by
    have hl' : d + r.length + 1 <= 7:=by simp at hl; omega
    have e : Fa st n d ((c :: r) ++ t) = Fa st (10 * n + (c - 48)) (d + 1) (r ++ t):=by
      show (if GP c then (if 7 < d + 1 then none else Fa st (10 * n + (c - 48)) (d + 1) (r ++ t)) else _) = _
      rw [AeJ (h c (Afh ..)),AeF (by omega)]
    rw [e,SX st r t _ _ (fun x hx=>h x (AfI _ hx)) (by omega)]
    show Fa st (dvl n (c :: r)) _ t = _
    congr 1
    simp
    omega
theorem SV (st : PS) : ∀ (ds : List Nat) (t : List Nat) (n : Nat),(∀ c,c ∈ ds -> GP c) -> dvl n ds <= 2097152 -> Gn st n (ds ++ t) = Gn st (dvl n ds) t
  | [],t,n,_,_=>rfl
  | c :: r,t,n,h,hl=>by
    have hge:=Xr r (10 * n + (c - 48))
    have hl2 : dvl (10 * n + (c - 48)) r <= 2097152:=hl
    have e : Gn st n ((c :: r) ++ t) = Gn st (10 * n + (c - 48)) (r ++ t):=by
      show (if GP c then (if 2097152 < 10 * n + (c - 48) then none else Gn st (10 * n + (c - 48)) (r ++ t)) else _) = _
      rw [AeJ (h c (Afh ..)),AeF (by omega)]
    rw [e,SV st r t _ (fun x hx=>h x (AfI _ hx)) hl2]
    rfl
theorem TX {st : PS} {n l : Int} (h : fit (act st n l)) (h0 : 0 < l /\ l < 8) : st.out.length + n.toNat <= 5000:=by
  have:=h.2.2
  unfold act at this
  rw [AeF (by omega),AeF (by omega)] at this
  dsimp only at this
  rw [AeL,EL] at this
  exact this
theorem VY : Par fun st t=>Fa st 0 0 t where
  nil st:=rfl
  step st n l t h1 h2 h3 h4 _ hf:=by
    obtain ⟨e1,e2⟩:=Po h3 h4
    have key : ∀ (m d : Nat),(if d = 0 then 1 else m : Nat) = n.toNat -> Fa st m d (It l :: t) = Fa (act st n l) 0 0 t:=fun m d hm=>by
      show (if GP (It l) then _ else match lix (It l) with | none=>none | some k=>_) = _
      rw [AeF e2,e1]
      dsimp only
      rw [hm,show ((n.toNat : Nat) : Int) = n from by omega]
      have:=fun h=>TX hf h
      rw [AeF (by intro ⟨a,b,c⟩; have:=this ⟨a,b⟩; omega)]
      have k1:=hf.1
      have k2:=hf.2.1
      rw [AeF (by omega)]
    unfold DL
    by_cases h : 1 < n
    · obtain ⟨u,rfl⟩:=AeV (show 0 <= n by omega)
      have hu : u < 10 ^ (6 + 1):=by omega
      have hlen:=Ml 6 u hu
      have hne:=Wv u
      rw [AeJ h,Bg,AeS]
      show Fa st 0 0 (BR u ++ ([It l] ++ t)) = _
      rw [SX st (BR u) _ 0 0 (Mn u) (by omega),Ip]
      refine key u _ ?_
      rw [AeF (by have : (BR u).length ≠ 0:=fun h=>hne (Afa h);
                     omega)]
      omega
    · rw [AeF h]
      exact key 0 0 (by rw [AeJ rfl]; omega)
theorem VX : Par fun st t=>Gn st 0 t where
  nil st:=rfl
  step st n l t h1 h2 h3 h4 _ hf:=by
    obtain ⟨e1,e2⟩:=Po h3 h4
    have key : ∀ (m : Nat),max m 1 = n.toNat -> Gn st m (It l :: t) = Gn (act st n l) 0 t:=fun m hm=>by
      show (if GP (It l) then _ else match lix (It l) with | none=>none | some k=>_) = _
      rw [AeF e2,e1]
      dsimp only
      rw [hm,show ((n.toNat : Nat) : Int) = n from by omega]
      have:=fun h=>TX hf h
      rw [AeF (by intro ⟨a,b,c⟩; have:=this ⟨a,b⟩; omega)]
      have k1:=hf.1
      have k2:=hf.2.1
      rw [AeF (by omega)]
    unfold DL
    by_cases h : 1 < n
    · obtain ⟨u,rfl⟩:=AeV (show 0 <= n by omega)
      rw [AeJ h,Bg,AeS]
      show Gn st 0 (BR u ++ ([It l] ++ t)) = _
      rw [SV st (BR u) _ 0 (Mn u) (by rw [Ip]; omega),Ip]
      exact key u (by omega)
    · rw [AeF h]
      exact key 0 (by omega)
theorem TE {p : List Ce} : ∀ c,c ∈ Bt p -> 0 <= c.x /\ 0 <= c.y:=fun c hc=>by
  obtain ⟨d,hd,rfl⟩:=Afb.1 hc
  have hne : p ≠ []:=fun e=>by subst e; cases hd
  have h1:=(Gq Ce.x hne).1 d hd
  have h2:=(Gq Ce.y hne).1 d hd
  rw [Ji] at h1
  rw [Jh] at h2
  unfold mvC
  dsimp only
  omega
theorem Xw : ∀ (h : List Ce) (x y : Int),h.Pairwise (fun a b=>BG a b = true) -> (∀ c,c ∈ h -> (0 <= c.x /\ c.x <= 1048576 /\ 0 <= c.y /\ c.y <= 1048576) /\ 1 <= c.s /\ c.s < 8) -> (∀ c,c ∈ h -> (y < c.y /\ 0 <= c.x) \/ (y = c.y /\ x <= c.x)) -> aft x y h
  | [],_,_,_,_,_=>AfE
  | c :: r,x,y,h1,h2,h3=>by
    obtain ⟨k1,k2⟩:=AfN.1 h1
    refine ⟨h3 c (Afh ..),(h2 c (Afh ..)).1,(h2 c (Afh ..)).2,Xw r _ _ k2 (fun d hd=>h2 d (AfI _ hd)) fun d hd=>?_⟩
    have k3:=k1 d hd
    have k4:=(h2 d (AfI _ hd)).1
    unfold BG at k3
    simp only [Afe] at k3
    omega
theorem Ko {p : List Ce} (hp : right p = true) (hs : TY p) : aft 0 0 (Bt p):=by
  refine Xw _ 0 0 (NB (Bh hp).1) (fun c hc=>?_) fun c hc=>?_
  · have h1:=TE c hc
    have h2:=LS hs (fun c hc=>(AZ hp hc).2.2) c hc
    unfold EQ DB at h2
    simp only [AeH,Afe] at h2
    omega
  · have h1:=TE c hc
    omega
def CZ (p : List Ce) : List Nat:=if p = [] then [45] else Fo (Bt p)
end Go.Mx.Tryz
namespace Go.Mx.Tryz
open Go.Sort Go.Lib Go.Proofs
theorem ZU {l : Int} (h0 : 0 <= l) (h8 : l <= 8) : Aj .ixs [.m (.s [46,65,66,67,68,69,70,71,36]),.m (.i .i64 l)] = some (.m (.i .u8 (It l : Nat))):=by
  have h : ∀ j : Fin 9,Aj .ixs [.m (.s [46,65,66,67,68,69,70,71,36]),.m (.i .i64 ((j.1 : Nat) : Int))] = some (.m (.i .u8 (It ((j.1 : Nat) : Int) : Nat))):=by
    intro j
    match j with
    | 0=>rfl
    | 1=>rfl
    | 2=>rfl
    | 3=>rfl
    | 4=>rfl
    | 5=>rfl
    | 6=>rfl
    | 7=>rfl
    | 8=>rfl
  obtain ⟨u,rfl⟩:=AeV h0
  exact h ⟨u,by omega⟩
theorem ZT {l : Int} (h0 : 0 <= l) (h8 : l <= 8) : It l < 256:=by
  unfold It
  split
  · omega
  · split <;> omega
structure CodeSt (n last : Int) (s : List Nat) (qs : Option Nat) (H : Hp) : Prop where
  bld : Bldr 0 qs s H
  rn : ∃ b,b <= 1 /\ nth H 1 = some (.cs 3 1 [[.m (.i .i64 n)]] b false)
  rl : ∃ b,b <= 1 /\ nth H 2 = some (.cs 3 1 [[.m (.i .i64 last)]] b false)
  qb : ∀ i,qs = some i -> 3 <= i
def nx (n last c l : Int) : Int:=if l = last then n + c else c
def lx (last l : Int) : Int:=if l = last then last else l
def Hb (n last l : Int) : List Nat:=if l = last then [] else if 0 <= last then DL n last else []
theorem FG (n l : Int) (h0 : -9223372036854775808 <= n) (h1 : n <= 9223372036854775807) : (DL n l).length <= 22:=by
  have:=FM n h0 h1
  unfold DL
  split <;> simp <;> omega
theorem Dd (n last l : Int) (h0 : -9223372036854775808 <= n) (h1 : n <= 9223372036854775807) : (Hb n last l).length <= 22:=by
  have:=FG n last h0 h1
  unfold Hb
  split
  · simp
  · split
    · exact this
    · simp
theorem Nn {H : Hp} {i : Nat} {x y : Row} (h : nth H i = some x) : AF H i y = some (H.set i y):=Am _ _ _ (AI h)
theorem WA {r : Nat} {qs : Option Nat} {s : List Nat} {H H' : Hp} (h : Bldr r qs s H) (he : ∀ i,i = r \/ qs = some i -> nth H' i = nth H i) : Bldr r qs s H':=by
  obtain ⟨⟨a,b,bb,h1,h2,h3,h4⟩,hne,hby⟩:=h
  exact ⟨⟨a,b,bb,by rw [he r (.inl rfl)]; exact h1,h2,h3,h4.frame fun i hi=>he i (.inr hi)⟩,hne,hby⟩
theorem Ir {qs : Option Nat} {s : List Nat} {H : Hp} (h : Bldr 0 qs s H) {j : Nat} (hj : j = 1 \/ j = 2) (hq : ∀ i,qs = some i -> 3 <= i) (x : Row) : Bldr 0 qs s (H.set j x) :=
  WA h fun i hi=>Ar (by
    rcases hi with rfl | hi
    · omega
    · have:=hq i hi
      omega)
theorem El {n last : Int} {s : List Nat} {qs : Option Nat} {H : Hp} (hC : CodeSt n last s qs H) (c l : Int) (hn : 0 <= n /\ n <= 100000000000000) (hla : -1 <= last /\ last <= 8) (hc : 0 <= c /\ c <= 10000000) (hs : s.length <= 1000000000) :
    ∃ qs' H',Gives G 122 [.m (.i .i64 c),.m (.i .i64 l),.pt 2 1 0 0,.pt 1 1 0 0,.pt 0 1 0 0] H (.tu []) H' /\ CodeSt (nx n last c l) (lx last l) (s ++ Hb n last l) qs' H':=by
  obtain ⟨hB,⟨b1,hb1,h1⟩,⟨b2,hb2,h2⟩,hq⟩:=hC
  have hw : ∀ x y : V,BD 1 [[x]] 0 0 [y] = some [[y]]:=fun _ _=>rfl
  have wn : wr .i64 (n + c) = n + c:=wr_i64 (by omega) (by omega)
  by_cases e : l = last
  · refine ⟨qs,H.set 1 (.cs 3 1 [[.m (.i .i64 (n + c))]] 1 false),.of_ret (AS mono rfl rfl rfl rfl rfl ?_),?_⟩
    · simp (disch:=omega) [gd_and,h1,h2,hb1,hb2,e,wn,hw,Nn h1]
    · have ee : Hb n last l = []:=by unfold Hb; rw [AeJ e]
      unfold nx lx
      rw [AeJ e,AeJ e,ee,Afd]
      exact ⟨Ir hB (.inl rfl) hq _,⟨1,AeI _,AO (AI h1)⟩,⟨b2,hb2,by rw [Ar (by omega)]; exact h2⟩,hq⟩
  · by_cases h0 : 0 <= last
    · have ee : Hb n last l = DL n last:=by unfold Hb; rw [AeF e,AeJ h0]
      unfold nx lx
      rw [AeF e,AeF e,ee]
      have lx:=ZU h0 hla.2
      have ll:=ZT h0 hla.2
      have fin : ∀ (H2 : Hp) (q2 : Option Nat) (t : List Nat),Bldr 0 q2 t H2 -> (∃ b,b <= 1 /\ nth H2 1 = some (.cs 3 1 [[.m (.i .i64 n)]] b false)) -> (∃ b,b <= 1 /\ nth H2 2 = some (.cs 3 1 [[.m (.i .i64 last)]] b false)) -> (∀ i,q2 = some i -> 3 <= i) -> CodeSt c l t q2 ((H2.set 1 (.cs 3 1 [[.m (.i .i64 c)]] 1 false)).set 2 (.cs 3 1 [[.m (.i .i64 l)]] 1 false)):=fun H2 q2 t k1 ⟨b3,_,k2⟩ ⟨b4,_,k3⟩ k4 =>
        ⟨Ir (Ir k1 (.inl rfl) k4 _) (.inr rfl) k4 _,⟨1,AeI _,by rw [Ar (by omega),AO (AI k2)]⟩,⟨1,AeI _,AO (by have:=AI k3; simpa using this)⟩,k4⟩
      by_cases hn1 : 1 < n
      · have gi:=fun H=>Pr n (by omega) (by omega) H
        have hil:=FM n (by omega) (by omega)
        obtain ⟨H1,q1,j1,j2,j3,j4⟩:=Aas hB (AN n) (QB n) (by omega)
        have l1:=AI h1
        have l2:=AI h2
        have m1 : nth H1 1 = some (.cs 3 1 [[.m (.i .i64 n)]] b1 false):=by rw [j3.2 1 l1 (by omega) (fun h=>by have:=hq 1 h.symm; omega)]; exact h1
        have m2 : nth H1 2 = some (.cs 3 1 [[.m (.i .i64 last)]] b2 false):=by rw [j3.2 2 l2 (by omega) (fun h=>by have:=hq 2 h.symm; omega)]; exact h2
        have hq1 : ∀ i,q1 = some i -> 3 <= i:=fun i hi=>by
          rcases j4 i hi with h | h
          · exact hq i h
          · omega
        obtain ⟨H2,q2,i1,i2,i3,i4⟩:=PB j2 (It last) ll (by simp; omega)
        have l3:=AI m1
        have l4:=AI m2
        have m3 : nth H2 1 = some (.cs 3 1 [[.m (.i .i64 n)]] b1 false):=by rw [i3.2 1 l3 (by omega) (fun h=>by have:=hq1 1 h.symm; omega)]; exact m1
        have m4 : nth H2 2 = some (.cs 3 1 [[.m (.i .i64 last)]] b2 false):=by rw [i3.2 2 l4 (by omega) (fun h=>by have:=hq1 2 h.symm; omega)]; exact m2
        have hq2 : ∀ i,q2 = some i -> 3 <= i:=fun i hi=>by
          rcases i4 i hi with h | h
          · exact hq1 i h
          · omega
        have m5 : nth (H2.set 1 (.cs 3 1 [[.m (.i .i64 c)]] 1 false)) 2 = some (.cs 3 1 [[.m (.i .i64 last)]] b2 false):=by rw [Ar (by omega)]; exact m4
        have et : DL n last = AN n ++ [It last]:=by unfold DL; rw [AeJ hn1]
        rw [et,<- AeS]
        refine ⟨q2,_,.of_ret (AS mono rfl rfl rfl rfl rfl ?_),fin H2 q2 _ i2 ⟨b1,hb1,m3⟩ ⟨b2,hb2,m4⟩ hq2⟩
        simp (disch:=omega) [gd_and,h1,h2,hb1,hb2,e,h0,hn1,cl (gi _),cl j1,m2,lx,cl i1,m3,hw,Nn m3,Nn m5,m5]
      · obtain ⟨H2,q2,i1,i2,i3,i4⟩:=PB hB (It last) ll (by omega)
        have l3:=AI h1
        have l4:=AI h2
        have m3 : nth H2 1 = some (.cs 3 1 [[.m (.i .i64 n)]] b1 false):=by rw [i3.2 1 l3 (by omega) (fun h=>by have:=hq 1 h.symm; omega)]; exact h1
        have m4 : nth H2 2 = some (.cs 3 1 [[.m (.i .i64 last)]] b2 false):=by rw [i3.2 2 l4 (by omega) (fun h=>by have:=hq 2 h.symm; omega)]; exact h2
        have hq2 : ∀ i,q2 = some i -> 3 <= i:=fun i hi=>by
          rcases i4 i hi with h | h
          · exact hq i h
          · omega
        have m5 : nth (H2.set 1 (.cs 3 1 [[.m (.i .i64 c)]] 1 false)) 2 = some (.cs 3 1 [[.m (.i .i64 last)]] b2 false):=by rw [Ar (by omega)]; exact m4
        have et : DL n last = [It last]:=by unfold DL; rw [AeF hn1]; rfl
        rw [et]
        refine ⟨q2,_,.of_ret (AS mono rfl rfl rfl rfl rfl ?_),fin H2 q2 _ i2 ⟨b1,hb1,m3⟩ ⟨b2,hb2,m4⟩ hq2⟩
        simp (disch:=omega) [gd_and,h1,h2,hb1,hb2,e,h0,hn1,lx,cl i1,m3,hw,Nn m3,Nn m5,m5]
    · have ee : Hb n last l = []:=by unfold Hb; rw [AeF e,AeF h0]
      unfold nx lx
      rw [AeF e,AeF e,ee,Afd]
      have m5 : nth (H.set 1 (.cs 3 1 [[.m (.i .i64 c)]] 1 false)) 2 = some (.cs 3 1 [[.m (.i .i64 last)]] b2 false):=by rw [Ar (by omega)]; exact h2
      refine ⟨qs,(H.set 1 (.cs 3 1 [[.m (.i .i64 c)]] 1 false)).set 2 (.cs 3 1 [[.m (.i .i64 l)]] 1 false),.of_ret (AS mono rfl rfl rfl rfl rfl ?_),⟨Ir (Ir hB (.inl rfl) hq _) (.inr rfl) hq _,⟨1,AeI _,by rw [Ar (by omega),AO (AI h1)]⟩,⟨1,AeI _,AO (by have:=AI h2; simpa using this)⟩,hq⟩⟩
      simp (disch:=omega) [gd_and,h1,h2,hb2,e,h0,hw,Nn h1,Nn m5,m5]
theorem DO (n last : Int) (q : Int × Int) (r : List (Int × Int)) : rle n last (q :: r) = Hb n last q.2 ++ rle (nx n last q.1 q.2) (lx last q.2) r:=by
  show (if q.2 = last then rle (n + q.1) last r else (if 0 <= last then DL n last else []) ++ rle q.1 q.2 r) = _
  unfold Hb nx lx
  by_cases e : q.2 = last
  · simp only [AeJ e,Afi]
  · simp only [AeF e]
theorem ZE (n last : Int) (h : -1 <= last) : rle n last [] = Hb n last (-1):=by
  show (if last = -1 then [] else DL n last) = _
  unfold Hb
  by_cases e : last = -1
  · rw [AeJ e,AeJ e.symm]
  · rw [AeF e,AeF (fun h=>e h.symm),AeJ (by omega)]
theorem ZN {n last c l N : Int} (hn : 0 <= n /\ n <= N) (hc : 0 <= c /\ c <= 1048577) : 0 <= nx n last c l /\ nx n last c l <= N + 1048577:=by
  unfold nx
  split <;> omega
theorem ZS {last l : Int} (hl : 0 <= l /\ l <= 8) : -1 <= lx last l /\ lx last l <= 8:=by
  unfold lx
  split <;> omega
theorem Ka (x y : Int) (c : Ce) (r : List Ce) : pcs x y (c :: r) = (if y < c.y then [(c.y - y,8)] else []) ++ ((if (if y < c.y then 0 else x) < c.x then [(c.x - (if y < c.y then 0 else x),0)] else []) ++ (1,c.s) :: pcs (c.x + 1) c.y r):=rfl
theorem Aep {v : I} {h : List Ce} (hv : IsSl v (Ao h)) (ha : aft 0 0 h) (hl : h.length <= 5000) (H : Hp) : Gives G 74 [.m v] H (.m (.s (Fo h))) H:=by
  have hr:=hv.rules
  simp only [show (Ao h).length = h.length from by simp [Ao]] at hr
  refine Ah rfl rfl rfl rfl rfl ?_
  have hw : ∀ x y : V,BD 1 [[x]] 0 0 [y] = some [[y]]:=fun _ _=>rfl
  simp (disch:=omega) [gd_and,hr,hw]
  refine (?key : ∀ (i : Nat) (n last x y : Int) (s : List Nat) (qs : Option Nat) (B : List (Nat × List V)) (H : Hp),i <= h.length -> CodeSt n last s qs H -> Fo h = s ++ rle n last (pcs x y (h.drop i)) -> aft x y (h.drop i) -> (0 <= x /\ 0 <= y /\ x <= 1048577 /\ y <= 1048577) -> (0 <= n /\ n <= 4000000 * i) -> (-1 <= last /\ last <= 8) -> s.length <= 100 * i -> Run G c74_B0 (S74_0 (.pt 0 1 0 0) (.fn 122 [.pt 2 1 0 0,.pt 1 1 0 0,.pt 0 1 0 0]) (.m (.i .i64 x)) (.m (.i .i64 y)) (.m v) (.m (.i .i64 h.length)) (.m (.i .i64 (i : Int))) B H) _) 0 0 (-1) 0 0 [] none _ _ (AeR _) ⟨Aat [] _,⟨1,AeI _,rfl⟩,⟨1,AeI _,rfl⟩,fun i h=>by cases h⟩ rfl ha (by omega) (by omega) (by omega) (by simp)
  clear ha
  refine BO (fun i : Nat=>h.length - i) fun i ih n last x y s qs B H hi hC hT ha hb hn hla hs=>?_
  unfold c74_B0
  cases hx : h[i]? with
  | none =>
    have : i = h.length:=by have:=AeU.1 hx; omega
    subst this
    rw [AfR] at hT
    obtain ⟨q1,H1,k1,hC1⟩:=El hC 0 (-1) (by omega) hla (by omega) (by omega)
    have hel:=Dd n last (-1) (by omega) (by omega)
    obtain ⟨H2,k2,_⟩:=Aau hC1.bld (by simp; omega)
    have e : Fo h = s ++ Hb n last (-1):=by rw [hT,show pcs x y [] = [] from rfl,ZE _ _ hla.1]
    rw [<- e] at k2
    simp (disch:=omega) [cl k1,cl k2]
  | some c =>
    have hlt:=(Av hx).1
    have hlt' : (i : Int) < h.length:=by omega
    have hnn:=AK hx
    have wi : wr .i64 ((i : Int) + 1) = (i : Int) + 1:=wr_i64 (by omega) (by omega)
    rw [(Av hx).2] at hT ha
    obtain ⟨a1,a2,a3,a4⟩:=ha
    have wx : wr .i64 (c.x - x) = c.x - x:=wr_i64 (by omega) (by omega)
    have wy : wr .i64 (c.y - y) = c.y - y:=wr_i64 (by omega) (by omega)
    have w0 : wr .i64 c.x = c.x:=wr_i64 (by omega) (by omega)
    have w1 : wr .i64 (c.x + 1) = c.x + 1:=wr_i64 (by omega) (by omega)
    rw [Ka] at hT
    by_cases hy : y < c.y
    · rw [AeJ hy,AeJ hy,AfT,DO,<- AeS] at hT
      obtain ⟨q1,H1,k1,hC1⟩:=El hC (c.y - y) 8 (by omega) hla (by omega) (by omega)
      have hel:=Dd n last 8 (by omega) (by omega)
      have n1:=ZN (last:=last) (l:=8) hn (c:=c.y - y) (by omega)
      have l1:=ZS (last:=last) (l:=8) (by omega)
      have s1 : (s ++ Hb n last 8).length <= 100 * i + 22:=by simp; omega
      generalize Hb n last 8 = e1 at *
      generalize nx n last (c.y - y) 8 = m1 at *
      generalize lx last 8 = t1 at *
      by_cases hx0 : 0 < c.x
      · rw [AeJ hx0,AfT,DO,<- AeS,Int.sub_zero] at hT
        obtain ⟨q2,H2,k2,hC2⟩:=El hC1 c.x 0 (by omega) l1 (by omega) (by omega)
        have hel2:=Dd m1 t1 0 (by omega) (by omega)
        have n2:=ZN (last:=t1) (l:=0) n1 (c:=c.x) (by omega)
        have l2:=ZS (last:=t1) (l:=0) (by omega)
        have s2 : (s ++ e1 ++ Hb m1 t1 0).length <= 100 * i + 44:=by rw [AeL]; omega
        generalize Hb m1 t1 0 = e2 at *
        generalize nx m1 t1 c.x 0 = m2 at *
        generalize lx t1 0 = t2 at *
        rw [DO,<- AeS] at hT
        obtain ⟨q3,H3,k3,hC3⟩:=El hC2 1 c.s (by omega) l2 (by omega) (by omega)
        have hel3:=Dd m2 t2 c.s (by omega) (by omega)
        have n3:=ZN (last:=t2) (l:=c.s) n2 (c:=1) (by omega)
        have l3:=ZS (last:=t2) (l:=c.s) (by omega)
        have s3 : (s ++ e1 ++ e2 ++ Hb m2 t2 c.s).length <= 100 * i + 66:=by rw [AeL]; omega
        simp (disch:=omega) [gd_and,hr,hlt',hnn,wi,hy,hx0,wy,w0,w1,cl k1,cl k2,cl k3]
        exact ih (i + 1) (by omega) _ _ _ _ _ _ _ _ (by omega) hC3 hT a4 (by omega) (by omega) l3 (by omega)
      · rw [AeF hx0,Afi] at hT
        rw [DO,<- AeS] at hT
        obtain ⟨q3,H3,k3,hC3⟩:=El hC1 1 c.s (by omega) l1 (by omega) (by omega)
        have hel3:=Dd m1 t1 c.s (by omega) (by omega)
        have n3:=ZN (last:=t1) (l:=c.s) n1 (c:=1) (by omega)
        have l3:=ZS (last:=t1) (l:=c.s) (by omega)
        have s3 : (s ++ e1 ++ Hb m1 t1 c.s).length <= 100 * i + 66:=by rw [AeL]; omega
        simp (disch:=omega) [gd_and,hr,hlt',hnn,wi,hy,hx0,wy,w1,cl k1,cl k3]
        exact ih (i + 1) (by omega) _ _ _ _ _ _ _ _ (by omega) hC3 hT a4 (by omega) (by omega) l3 (by omega)
    · rw [AeF hy,AeF hy,Afi] at hT
      have hyc : c.y = y:=by omega
      by_cases hx0 : x < c.x
      · rw [AeJ hx0,AfT,DO,<- AeS] at hT
        obtain ⟨q2,H2,k2,hC2⟩:=El hC (c.x - x) 0 (by omega) hla (by omega) (by omega)
        have hel2:=Dd n last 0 (by omega) (by omega)
        have n2:=ZN (last:=last) (l:=0) hn (c:=c.x - x) (by omega)
        have l2:=ZS (last:=last) (l:=0) (by omega)
        have s2 : (s ++ Hb n last 0).length <= 100 * i + 44:=by rw [AeL]; omega
        generalize Hb n last 0 = e2 at *
        generalize nx n last (c.x - x) 0 = m2 at *
        generalize lx last 0 = t2 at *
        rw [DO,<- AeS] at hT
        obtain ⟨q3,H3,k3,hC3⟩:=El hC2 1 c.s (by omega) l2 (by omega) (by omega)
        have hel3:=Dd m2 t2 c.s (by omega) (by omega)
        have n3:=ZN (last:=t2) (l:=c.s) n2 (c:=1) (by omega)
        have l3:=ZS (last:=t2) (l:=c.s) (by omega)
        have s3 : (s ++ e2 ++ Hb m2 t2 c.s).length <= 100 * i + 66:=by rw [AeL]; omega
        rw [hyc] at hT a4
        simp (disch:=omega) [gd_and,hr,hlt',hnn,wi,hy,hx0,wx,w1,cl k2,cl k3]
        exact ih (i + 1) (by omega) _ _ _ _ _ _ _ _ (by omega) hC3 hT a4 (by omega) (by omega) l3 (by omega)
      · rw [AeF hx0,Afi] at hT
        rw [DO,<- AeS] at hT
        obtain ⟨q3,H3,k3,hC3⟩:=El hC 1 c.s (by omega) hla (by omega) (by omega)
        have hel3:=Dd n last c.s (by omega) (by omega)
        have n3:=ZN (last:=last) (l:=c.s) hn (c:=1) (by omega)
        have l3:=ZS (last:=last) (l:=c.s) (by omega)
        have s3 : (s ++ Hb n last c.s).length <= 100 * i + 66:=by rw [AeL]; omega
        rw [hyc] at hT a4
        simp (disch:=omega) [gd_and,hr,hlt',hnn,wi,hy,hx0,w1,cl k3]
        exact ih (i + 1) (by omega) _ _ _ _ _ _ _ _ (by omega) hC3 hT a4 (by omega) (by omega) l3 (by omega)
end Go.Mx.Tryz
namespace Go.Mx.Tryz
open Go.Sort Go.Lib Go.Proofs
theorem Aeo (u : Nat) : u < 1000000000000000000 -> ∀ H,Gives G 174 [.m (.i .i64 u)] H (.m (.s (BR u))) H:=by
  induction u using Nat.strongRecOn with
  | _ u ih =>
    intro h H
    refine Ah rfl rfl rfl rfl rfl ?_
    by_cases h10 : u < 10
    · have h10' : (u : Int) < 10:=by omega
      have e:=dig1 u h10
      have e2 : (([48,49,50,51,52,53,54,55,56,57] : List Nat)).length = 10:=rfl
      have e3 : ((u : Int) + 1).toNat - u = 1:=by omega
      have w1 : wr .i64 ((u : Int) + 1) = (u : Int) + 1:=wr_i64 (by omega) (by omega)
      rw [Bc h10]
      simp (contextual:=true) (disch:=omega) [Ab,h10',w1,e,e2]
    · have h10' : ¬ (u : Int) < 10:=by omega
      have g1:=ih (u / 10) (by omega) (by omega) []
      have g2:=ih (u % 10) (by omega) (by omega) []
      have l1:=Hg (u / 10) (by omega)
      have l2:=Hg (u % 10) (by omega)
      have e1 : (u : Int).tdiv 10 = ((u / 10 : Nat) : Int):=rfl
      have e2 : (u : Int).tmod 10 = ((u % 10 : Nat) : Int):=rfl
      have w1 : wr .i64 ((u / 10 : Nat) : Int) = ((u / 10 : Nat) : Int):=wr_i64 (by omega) (by omega)
      have w2 : wr .i64 ((u % 10 : Nat) : Int) = ((u % 10 : Nat) : Int):=wr_i64 (by omega) (by omega)
      rw [BL h10]
      have e3:=Bc (i:=u % 10) (by omega)
      rw [e3] at g2 l2
      simp (contextual:=true) (disch:=omega) [Ab,gd_and,h10',w1,e1,e2,cl g1,cl g2,-Int.natCast_ediv,-Int.natCast_emod]
theorem GY (n : Int) (hn : 1 <= n /\ n <= 100000000) (c : Nat) (H : Hp) : Gives G 134 [.m (.i .i64 n),.m (.s [c])] H (.m (.s ((if 1 < n then AN n else []) ++ [c]))) H:=by
  refine Ah rfl rfl rfl rfl rfl ?_
  by_cases h1 : n = 1
  · subst h1
    simp (disch:=omega) []
  · obtain ⟨u,rfl⟩:=AeV (show 0 <= n by omega)
    have g1:=fun H=>Aeo u (by omega) H
    have l1:=Hg u (by omega)
    have h2 : 1 < u:=by omega
    have h3 : ¬ u = 1:=by omega
    have h4 : (1 : Int) < u:=by omega
    simp (disch:=omega) [gd_in,h1,h4,cl (g1 _),Bg]
theorem AdW {s : Int} (h : 1 <= s /\ s < 8) : Aj (.slc 0 true true false) [.m (.s [65,66,67,68,69,70,71]),.m (.i .i64 (s - 1)),.m (.i .i64 s)] = some (.m (.s [It s])):=by
  have k : s = 1 \/ s = 2 \/ s = 3 \/ s = 4 \/ s = 5 \/ s = 6 \/ s = 7:=by omega
  rcases k with rfl | rfl | rfl | rfl | rfl | rfl | rfl <;> rfl
theorem VP {v : I} {h : List Ce} (hv : IsSl v (Ao h)) (hl : h.length <= 5000) {i : Nat} {c : Ce} (hx : h[i]? = some c) (hcs : 1 <= c.s /\ c.s < 8) (hcx : 0 <= c.x /\ c.x <= 1048576) (y0 : V) (K : K) (T s : List Nat) (H : Hp)
    (hend : ∀ (n : Nat) (B : List (Nat × List V)),1 <= n -> i + n <= h.length -> getB B 7 = some [.m (.i .i64 c.x),.m (.i .i64 c.y),.m (.i .i64 c.s)] -> T = s ++ (DL n c.s ++ rle 0 (-1) (pcs (c.x + n) c.y (h.drop (i + n)))) -> aft (c.x + n) c.y (h.drop (i + n)) -> At' G (.ex 2) ⟨[(0,.m v),(3,.m (.s s)),(5,y0),(6,.m (.i .i64 (i : Int))),(7,.fa 7 0),(8,.m (.i .i64 (n : Int))),(87,.m (.b false))],[],⟨B,H⟩⟩ K) :
    ∀ (n : Nat) (B : List (Nat × List V)),1 <= n -> i + n <= h.length -> getB B 7 = some [.m (.i .i64 c.x),.m (.i .i64 c.y),.m (.i .i64 c.s)] -> T = s ++ rle n c.s (pcs (c.x + n) c.y (h.drop (i + n))) -> aft (c.x + n) c.y (h.drop (i + n)) -> Run G c83_B0 (S83_0 (.m v) (.m (.s s)) y0 (.m (.i .i64 (i : Int))) (.fa 7 0) (.m (.i .i64 (n : Int))) B H) (.seq c83_L0 K):=by
  have hr:=hv.rules
  simp only [show (Ao h).length = h.length from by simp [Ao]] at hr
  have hlt:=(Av hx).1
  refine BO (fun n : Nat=>h.length - n) fun n ih B hn hi hB hT ha=>?_
  have w1 : wr .i64 ((i : Int) + (n : Int)) = ((i + n : Nat) : Int):=wr_i64 (by omega) (by omega)
  have w2 : wr .i64 ((n : Int) + 1) = ((n + 1 : Nat) : Int):=wr_i64 (by omega) (by omega)
  have w3 : wr .i64 (c.x + (n : Int)) = c.x + n:=wr_i64 (by omega) (by omega)
  unfold c83_B0
  cases hz : h[i + n]? with
  | none =>
    have he : i + n = h.length:=by have:=AeU.1 hz; omega
    have hge : ¬ ((i + n : Nat) : Int) < h.length:=by omega
    have hge2 : ¬ i + n < h.length:=by omega
    have hd : h.drop (i + n) = []:=List.drop_eq_nil_of_le (by omega)
    have hT2:=hT
    rw [DA (by omega) (fun q r hq=>by rw [hd] at hq; cases hq)] at hT2
    have k:=hend n B hn hi hB hT2 ha
    have hge3 : h.length <= i + n:=by omega
    simp (disch:=omega) [hr,w1,hge,-Int.natCast_add]
    exact k
  | some d =>
    have hlt2:=(Av hz).1
    have hlt2' : ((i + n : Nat) : Int) < h.length:=by omega
    have hnn:=AK hz
    have hdr:=(Av hz).2
    rw [hdr] at hT ha
    obtain ⟨a1,a2,a3,a4⟩:=ha
    obtain ⟨q,t,e,e1,e2,e3,e4⟩:=Xh (x:=c.x + n) (y:=c.y) (c:=d) (r:=h.drop (i + n + 1)) (by omega)
    by_cases hm : d.y = c.y /\ d.x = c.x + n /\ d.s = c.s
    · obtain ⟨m1,m2,m3⟩:=hm
      have ep : pcs (c.x + n) c.y (d :: h.drop (i + n + 1)) = (1,c.s) :: pcs (c.x + (n + 1 : Nat)) c.y (h.drop (i + (n + 1))):=by
        rw [Ka,m1,m2,m3,AeF (Int.lt_irrefl _),AeF (Int.lt_irrefl _),AeF (Int.lt_irrefl _),Afi,Afi]
        rw [show c.x + ((n + 1 : Nat) : Int) = c.x + n + 1 from by omega]
        rfl
      have er : rle n c.s ((1,c.s) :: pcs (c.x + (n + 1 : Nat)) c.y (h.drop (i + (n + 1)))) = rle ((n + 1 : Nat) : Int) c.s (pcs (c.x + (n + 1 : Nat)) c.y (h.drop (i + (n + 1)))):=by
        show (if c.s = c.s then _ else _) = _
        rw [AeJ rfl]
        rfl
      have k:=ih (n + 1) (by omega) B (by omega) (by omega) hB (by rw [hT,ep,er]) (by rw [m1,m2] at a4; rw [show c.x + ((n + 1 : Nat) : Int) = c.x + n + 1 from by omega]; exact a4)
      simp (disch:=omega) [hr,w1,w2,w3,hlt2',hnn,hB,m1,m2,m3,-Int.natCast_add]
      exact k
    · have hT2:=hT
      rw [DA (by omega) (fun q' r' hq=>by
        rw [e] at hq
        cases hq
        refine ⟨fun hq2=>hm ?_,e1⟩
        by_cases y1 : c.y < d.y
        · have:=e2 y1; omega
        · by_cases x1 : c.x + n < d.x
          · have:=e3 y1 x1; omega
          · have:=e4 y1 x1
            exact ⟨by omega,by omega,by omega⟩)] at hT2
      have k:=hend n B hn hi hB (by rw [hdr]; exact hT2) (by rw [hdr]; exact ⟨a1,a2,a3,a4⟩)
      by_cases m1 : d.y = c.y
      · by_cases m2 : d.x = c.x + n
        · have m3 : ¬ d.s = c.s:=fun h=>hm ⟨m1,m2,h⟩
          simp (disch:=omega) [hr,w1,w3,hlt2',hnn,hB,m1,m2,m3,-Int.natCast_add]
          exact k
        · simp (disch:=omega) [hr,w1,w3,hlt2',hnn,hB,m1,m2,-Int.natCast_add]
          exact k
      · simp (disch:=omega) [hr,w1,hlt2',hnn,hB,m1,-Int.natCast_add]
        exact k
theorem Zm {v : I} {h : List Ce} (hv : IsSl v (Ao h)) (ha : aft 0 0 h) (hl : h.length <= 5000) (H : Hp) : Gives G 83 [.m v] H (.m (.s (if h = [] then [45] else Fo h))) H:=by
  have hr:=hv.rules
  simp only [show (Ao h).length = h.length from by simp [Ao]] at hr
  refine Ah rfl rfl rfl rfl rfl ?_
  by_cases h0 : h = []
  · subst h0
    simp (disch:=omega) [hr]
  have hne : ¬ (h.length : Int) = 0:=fun e=>h0 (Afa (by omega))
  rw [AeF h0]
  simp (disch:=omega) [hr,h0]
  refine (?key : ∀ (i : Nat) (x y : Int) (s : List Nat) (B : List (Nat × List V)),i <= h.length -> Fo h = s ++ rle 0 (-1) (pcs x y (h.drop i)) -> aft x y (h.drop i) -> (0 <= x /\ 0 <= y /\ x <= 1060000 /\ y <= 1048577) -> s.length <= 100 * i -> Run G c83_B1 (S83_1 (.m v) (.m (.s s)) (.m (.i .i64 x)) (.m (.i .i64 y)) (.m (.i .i64 (i : Int))) B []) _) 0 0 0 [] [] (AeR _) rfl ha (by omega) (by simp)
  clear ha
  refine BO (fun i : Nat=>h.length - i) fun i ih x y s B hi hT ha hb hs=>?_
  unfold c83_B1
  cases hx : h[i]? with
  | none =>
    have : i = h.length:=by have:=AeU.1 hx; omega
    subst this
    rw [AfR] at hT
    have e : Fo h = s:=by rw [hT]; show s ++ [] = s; simp
    simp (disch:=omega) [hr,e]
  | some c =>
    have hlt:=(Av hx).1
    have hlt' : (i : Int) < h.length:=by omega
    have hnn:=AK hx
    rw [(Av hx).2] at hT ha
    obtain ⟨a1,a2,a3,a4⟩:=ha
    have wx : wr .i64 (c.x - x) = c.x - x:=wr_i64 (by omega) (by omega)
    have wy : wr .i64 (c.y - y) = c.y - y:=wr_i64 (by omega) (by omega)
    have w0 : wr .i64 c.x = c.x:=wr_i64 (by omega) (by omega)
    have ws : wr .i64 (c.s - 1) = c.s - 1:=wr_i64 (by omega) (by omega)
    have hsl:=AdW a3
    rw [Ka] at hT
    have rest : ∀ (s1 : List Nat) (y0 : V) (B : List (Nat × List V)) (K : K),s1.length <= 100 * i + 46 -> Fo h = s1 ++ rle 0 (-1) ((1,c.s) :: pcs (c.x + 1) c.y (h.drop (i + 1))) -> getB B 7 = some [.m (.i .i64 c.x),.m (.i .i64 c.y),.m (.i .i64 c.s)] -> (∀ (n : Nat) (B : List (Nat × List V)),1 <= n -> i + n <= h.length -> getB B 7 = some [.m (.i .i64 c.x),.m (.i .i64 c.y),.m (.i .i64 c.s)] -> Fo h = s1 ++ (DL n c.s ++ rle 0 (-1) (pcs (c.x + n) c.y (h.drop (i + n)))) -> aft (c.x + n) c.y (h.drop (i + n)) -> At' G (.ex 2) ⟨[(0,.m v),(3,.m (.s s1)),(5,y0),(6,.m (.i .i64 (i : Int))),(7,.fa 7 0),(8,.m (.i .i64 (n : Int))),(87,.m (.b false))],[],⟨B,[]⟩⟩ K) -> Run G c83_B0 (S83_0 (.m v) (.m (.s s1)) y0 (.m (.i .i64 (i : Int))) (.fa 7 0) (.m (.i .i64 1)) B []) (.seq c83_L0 K):=fun s1 y0 B K _ hT1 hB hend =>
      VP hv hl hx a3 (by omega) y0 K (Fo h) s1 [] hend 1 B (AeI _) (by omega) hB (by rw [hT1,Ih (by show 0 <= c.s; omega)]; rfl) a4
    have fin : ∀ (n : Nat) (s1 : List Nat),1 <= n -> i + n <= h.length -> s1.length <= 100 * i + 46 -> (∀ H,Gives G 134 [.m (.i .i64 (n : Int)),.m (.s [It c.s])] H (.m (.s (DL n c.s))) H) /\ wr .i64 (c.x + (n : Int)) = c.x + n /\ wr .i64 ((i : Int) + (n : Int)) = ((i + n : Nat) : Int) /\ (s1 ++ DL n c.s).length <= 100 * (i + n) /\ (DL n c.s).length <= 22:=fun n s1 h1 h2 h3=>by
      have:=FG (n : Int) c.s (by omega) (by omega)
      exact ⟨fun H=>GY n (by omega) _ H,wr_i64 (by omega) (by omega),wr_i64 (by omega) (by omega),by rw [AeL]; omega,this⟩
    by_cases hy : y < c.y
    · rw [AeJ hy,AeJ hy,AfT,Ih (by show (0 : Int) <= 8; decide)] at hT
      have gp:=fun H=>GY (c.y - y) (by omega) 36 H
      have t8 : (if 1 < c.y - y then AN (c.y - y) else []) ++ [36] = DL (c.y - y) 8:=rfl
      have len8:=FG (c.y - y) 8 (by omega) (by omega)
      rw [t8] at gp
      by_cases hx0 : 0 < c.x
      · rw [AeJ hx0,AfT,DA (l:=8) (by decide) (fun q r hq=>by cases hq; exact ⟨by show ¬ (0 : Int) = 8; decide,Int.le_refl 0⟩),Ih (Int.le_refl 0),DA (l:=0) (Int.le_refl 0) (fun q r hq=>by cases hq; exact ⟨by show ¬ c.s = 0; omega,by show 0 <= c.s; omega⟩),Int.sub_zero,<- AeS,<- AeS] at hT
        have gq:=fun H=>GY c.x (by omega) 46 H
        have t0 : (if 1 < c.x then AN c.x else []) ++ [46] = DL c.x 0:=rfl
        have len0:=FG c.x 0 (by omega) (by omega)
        rw [t0] at gq
        generalize DL (c.y - y) 8 = z1 at *
        generalize DL c.x 0 = z2 at *
        have s1l : (s ++ z1 ++ z2).length <= 100 * i + 46:=by rw [AeL,AeL]; omega
        simp (disch:=omega) [gd_in,gd_and,hr,hlt',hnn,hy,hx0,wy,w0,cl (gp _),cl (gq _)]
        refine rest _ _ _ _ (by simpa using s1l) (by simpa using hT) (Fz _ _ _) fun n B k1 k2 k3 k4 k5=>?_
        obtain ⟨f1,f2,f3,f4,f5⟩:=fin n _ k1 k2 s1l
        simp (disch:=omega) [gd_in,k3,ws,hsl,cl (f1 _),f2,f3,-Int.natCast_add]
        exact ih (i + n) (by omega) _ _ _ _ (by omega) (by rw [k4]; simp) k5 (by omega) (by simpa using f4)
      · rw [AeF hx0,Afi,DA (l:=8) (by decide) (fun q r hq=>by cases hq; exact ⟨by show ¬ c.s = 8; omega,by show 0 <= c.s; omega⟩),<- AeS] at hT
        generalize DL (c.y - y) 8 = z1 at *
        have s1l : (s ++ z1).length <= 100 * i + 46:=by rw [AeL]; omega
        simp (disch:=omega) [gd_and,hr,hlt',hnn,hy,hx0,wy,cl (gp _)]
        refine rest _ _ _ _ (by simpa using s1l) (by simpa using hT) (Fz _ _ _) fun n B k1 k2 k3 k4 k5=>?_
        obtain ⟨f1,f2,f3,f4,f5⟩:=fin n _ k1 k2 s1l
        simp (disch:=omega) [k3,ws,hsl,cl (f1 _),f2,f3,-Int.natCast_add]
        exact ih (i + n) (by omega) _ _ _ _ (by omega) (by rw [k4]; simp) k5 (by omega) (by simpa using f4)
    · rw [AeF hy,AeF hy,Afi] at hT
      have hyc : c.y = y:=by omega
      rw [hyc] at hT rest
      by_cases hx0 : x < c.x
      · rw [AeJ hx0,AfT,Ih (Int.le_refl 0),DA (l:=0) (Int.le_refl 0) (fun q r hq=>by cases hq; exact ⟨by show ¬ c.s = 0; omega,by show 0 <= c.s; omega⟩),<- AeS] at hT
        have gq:=fun H=>GY (c.x - x) (by omega) 46 H
        have t0 : (if 1 < c.x - x then AN (c.x - x) else []) ++ [46] = DL (c.x - x) 0:=rfl
        have len0:=FG (c.x - x) 0 (by omega) (by omega)
        rw [t0] at gq
        generalize DL (c.x - x) 0 = z2 at *
        have s1l : (s ++ z2).length <= 100 * i + 46:=by rw [AeL]; omega
        simp (disch:=omega) [gd_and,hr,hlt',hnn,hx0,hyc,wx,cl (gq _)]
        refine rest _ _ _ _ (by simpa using s1l) (by simpa using hT) (Fz _ _ _) fun n B k1 k2 k3 k4 k5=>?_
        obtain ⟨f1,f2,f3,f4,f5⟩:=fin n _ k1 k2 s1l
        simp (disch:=omega) [k3,ws,hsl,cl (f1 _),f2,f3,-Int.natCast_add]
        exact ih (i + n) (by omega) _ _ _ _ (by omega) (by rw [k4]; simp) k5 (by omega) (by simpa using f4)
      · rw [AeF hx0,Afi] at hT
        have s1l : s.length <= 100 * i + 46:=by omega
        simp (disch:=omega) [gd_and,hr,hlt',hnn,hx0,hyc]
        refine rest _ _ _ _ s1l hT (Fz _ _ _) fun n B k1 k2 k3 k4 k5=>?_
        obtain ⟨f1,f2,f3,f4,f5⟩:=fin n _ k1 k2 s1l
        simp (disch:=omega) [k3,ws,hsl,cl (f1 _),f2,f3,-Int.natCast_add]
        exact ih (i + n) (by omega) _ _ _ _ (by omega) (by rw [k4]; simp) k5 (by omega) (by simpa using f4)
end Go.Mx.Tryz
