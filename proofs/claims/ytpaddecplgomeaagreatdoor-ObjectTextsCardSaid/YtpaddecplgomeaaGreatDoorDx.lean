/- Write of the reference: what it writes; Code of both texts. -/
import Derived.Test.YtpaddecplgomeaaGreatDoorSq
import Derived.Test.YtpaddecplgomeaaGreatDoorDec
import Derived.Test.YtpaddecplgomeaaGreatDoorBld
import Derived.Test.YtpaddecplgomeaaGreatDoorItoa
set_option linter.unusedSimpArgs false
set_option linter.unusedVariables false
set_option linter.unusedSectionVars false
set_option maxRecDepth 100000
set_option maxHeartbeats 4000000
namespace Go.Mx.Tryz
open Go.Sort Go.Lib Go.Proofs
def Io (l : Int) : Nat:=if l = 0 then 46 else if l = 8 then 36 else 64 + l.toNat
def DL (n l : Int) : List Nat:=(if 1 < n then AN n else []) ++ [Io l]
def rle (n last : Int) : List (Int × Int) -> List Nat
  | []=>if last = -1 then [] else DL n last
  | q :: r=>if q.2 = last then rle (n + q.1) last r else (if 0 <= last then DL n last else []) ++ rle q.1 q.2 r
def pcs (x y : Int) : List Ce -> List (Int × Int)
  | []=>[]
  | c :: r=>(if y < c.y then [(c.y - y,8)] else []) ++ ((if (if y < c.y then 0 else x) < c.x then [(c.x - (if y < c.y then 0 else x),0)] else []) ++ (1,c.s) :: pcs (c.x + 1) c.y r)
def Fj (h : List Ce) : List Nat:=rle 0 (-1) (pcs 0 0 h)
theorem DB {n l : Int} {ps : List (Int × Int)} (hl : 0 <= l) (h : ∀ q r,ps = q :: r -> q.2 ≠ l /\ 0 <= q.2) : rle n l ps = DL n l ++ rle 0 (-1) ps:=by
  cases ps with
  | nil =>
    show (if l = -1 then [] else DL n l) = DL n l ++ (if (-1 : Int) = -1 then [] else DL 0 (-1))
    rw [Aex (by omega),AeB rfl,AeV]
  | cons q r =>
    obtain ⟨h1,h2⟩:=h q r rfl
    show (if q.2 = l then rle (n + q.1) l r else (if 0 <= l then DL n l else []) ++ rle q.1 q.2 r) = DL n l ++ (if q.2 = -1 then rle (0 + q.1) (-1) r else (if (0 : Int) <= -1 then DL 0 (-1) else []) ++ rle q.1 q.2 r)
    rw [Aex h1,AeB hl,Aex (by omega),Aex (by omega),Afc]
theorem Ib {q : Int × Int} {r : List (Int × Int)} (h : 0 <= q.2) : rle 0 (-1) (q :: r) = rle q.1 q.2 r:=by
  show (if q.2 = -1 then rle (0 + q.1) (-1) r else (if (0 : Int) <= -1 then DL 0 (-1) else []) ++ rle q.1 q.2 r) = _
  rw [Aex (by omega),Aex (by omega),Afc]
def aft (x y : Int) : List Ce -> Prop
  | []=>True
  | c :: r=>((y < c.y /\ 0 <= c.x) \/ (y = c.y /\ x <= c.x)) /\ (0 <= c.x /\ c.x <= 1048576 /\ 0 <= c.y /\ c.y <= 1048576) /\ (1 <= c.s /\ c.s < 8) /\ aft (c.x + 1) c.y r
structure PS where
  x : Int
  y : Int
  out : List Ce
def AV (x y s : Int) : Nat -> List Ce
  | 0=>[]
  | n + 1=>AV x y s n ++ [⟨x + n,y,s⟩]
theorem EG (x y s : Int) : ∀ n,(AV x y s n).length = n
  | 0=>rfl
  | n + 1=>by unfold AV; simp [EG]
theorem Jf (x y s : Int) (n : Nat) : ∀ m,AV x y s n ++ AV (x + n) y s m = AV x y s (n + m)
  | 0=>by simp [AV]
  | m + 1=>by
    show AV x y s n ++ (AV (x + n) y s m ++ [_]) = AV x y s (n + m) ++ [_]
    rw [<- AeJ,Jf]
    congr 2
    simp
    omega
def act (st : PS) (n l : Int) : PS:=if l = 8 then ⟨0,st.y + n,st.out⟩ else ⟨st.x + n,st.y,if l = 0 then st.out else st.out ++ AV st.x st.y l n.toNat⟩
def fit (st : PS) : Prop:=(0 <= st.x /\ st.x <= 2097152) /\ (0 <= st.y /\ st.y <= 2097152) /\ st.out.length <= 5000
theorem Aau (st : PS) (n m l : Int) (hn : 0 <= n) (hm : 0 <= m) : act (act st n l) m l = act st (n + m) l:=by
  unfold act
  by_cases h8 : l = 8
  · simp only [AeB h8]
    congr 1
    omega
  · simp only [Aex h8]
    by_cases h0 : l = 0
    · simp only [AeB h0]
      congr 1
      omega
    · simp only [Aex h0]
      congr 1
      · omega
      · rw [AeJ]
        congr 1
        obtain ⟨a,rfl⟩:=AeN hn
        obtain ⟨b,rfl⟩:=AeN hm
        have e : ((a : Int) + (b : Int)).toNat = a + b:=by omega
        rw [e]
        exact Jf st.x st.y l a b
def AdI (st : PS) : List (Int × Int) -> Prop
  | []=>True
  | q :: r=>(1 <= q.1 /\ 0 <= q.2 /\ q.2 <= 8) /\ fit (act st q.1 q.2) /\ AdI (act st q.1 q.2) r
def Ue (st : PS) (ps : List (Int × Int)) : PS:=ps.foldl (fun s q=>act s q.1 q.2) st
structure Par (P : PS -> List Nat -> Option (List Ce)) : Prop where
  step : ∀ st n l t,1 <= n -> n <= 2097152 -> 0 <= l -> l <= 8 -> fit st -> fit (act st n l) -> P st (DL n l ++ t) = P (act st n l) t
  nil : ∀ st,P st [] = some st.out
theorem Aeb {st : PS} {n l : Int} (h : fit st) (h2 : fit (act st n l)) : n <= 2097152:=by
  unfold act fit at h2
  unfold fit at h
  by_cases h8 : l = 8
  · rw [AeB h8] at h2; dsimp only at h2; omega
  · rw [Aex h8] at h2; dsimp only at h2; omega
theorem MY {P : PS -> List Nat -> Option (List Ce)} (hP : Par P) : ∀ (ps : List (Int × Int)) (n l : Int) (st : PS),fit st -> 1 <= n -> 0 <= l -> l <= 8 -> fit (act st n l) -> AdI (act st n l) ps -> P st (rle n l ps) = some (Ue (act st n l) ps).out
  | [],n,l,st,h1,h2,h3,h4,h5,_=>by
    have e : rle n l [] = DL n l ++ []:=by
      show (if l = -1 then [] else DL n l) = _
      rw [Aex (by omega),AeV]
    rw [e,hP.step st n l [] h2 (Aeb h1 h5) h3 h4 h1 h5,hP.nil]
    rfl
  | q :: r,n,l,st,h1,h2,h3,h4,h5,h6=>by
    obtain ⟨⟨a1,a2,a3⟩,a4,a5⟩:=h6
    have e0 : Ue (act st n l) (q :: r) = Ue (act (act st n l) q.1 q.2) r:=rfl
    by_cases e : q.2 = l
    · have e1 : rle n l (q :: r) = rle (n + q.1) l r:=by
        show (if q.2 = l then _ else _) = _
        rw [AeB e]
      rw [e] at a4 a5 e0
      rw [Aau st n q.1 l (by omega) (by omega)] at a4 a5 e0
      rw [e1,e0]
      exact MY hP r (n + q.1) l st h1 (by omega) h3 h4 a4 a5
    · have e1 : rle n l (q :: r) = DL n l ++ rle q.1 q.2 r:=by
        show (if q.2 = l then _ else (if 0 <= l then DL n l else []) ++ _) = _
        rw [Aex e,AeB h3]
      rw [e1,hP.step st n l _ h2 (Aeb h1 h5) h3 h4 h1 h5,e0]
      exact MY hP r q.1 q.2 (act st n l) h5 a1 a2 a3 a4 a5
theorem act_s (st : PS) (s : Int) (h : 1 <= s /\ s < 8) : act st 1 s = ⟨st.x + 1,st.y,st.out ++ [⟨st.x,st.y,s⟩]⟩:=by
  unfold act
  rw [Aex (by omega),Aex (by omega)]
  have e : AV st.x st.y s (1 : Int).toNat = [⟨st.x,st.y,s⟩]:=by
    show [] ++ [(⟨st.x + ((0 : Nat) : Int),st.y,s⟩ : Ce)] = _
    simp
  rw [e]
theorem act_8 (st : PS) (n : Int) : act st n 8 = ⟨0,st.y + n,st.out⟩:=rfl
theorem act_0 (st : PS) (n : Int) : act st n 0 = ⟨st.x + n,st.y,st.out⟩:=rfl
theorem Pk : ∀ (h : List Ce) (x y : Int) (out : List Ce),aft x y h -> fit ⟨x,y,out⟩ -> out.length + h.length <= 5000 -> AdI ⟨x,y,out⟩ (pcs x y h) /\ (Ue ⟨x,y,out⟩ (pcs x y h)).out = out ++ h
  | [],x,y,out,_,_,_=>⟨Afv,by simp [pcs,Ue]⟩
  | c :: r,x,y,out,ha,hf,hl=>by
    obtain ⟨h1,h2,h3,h4⟩:=ha
    have h2':=h2
    obtain ⟨f1,f2,f3⟩:=hf
    dsimp only at f1 f2 f3
    have hl' : out.length + r.length + 1 <= 5000:=by simp at hl; omega
    have ih:=Pk r (c.x + 1) c.y (out ++ [c]) h4 ⟨⟨by dsimp only; omega,by dsimp only; omega⟩,⟨by dsimp only; omega,by dsimp only; omega⟩,by dsimp only; simp; omega⟩ (by simp; omega)
    have hc : (⟨c.x,c.y,c.s⟩ : Ce) = c:=rfl
    have hst : ∀ out',out' = out -> act ⟨c.x,c.y,out'⟩ 1 c.s = ⟨c.x + 1,c.y,out ++ [c]⟩:=fun out' e=>by rw [act_s _ _ h3,e]
    have hfc : fit ⟨c.x + 1,c.y,out ++ [c]⟩:=⟨⟨by dsimp only; omega,by dsimp only; omega⟩,⟨by dsimp only; omega,by dsimp only; omega⟩,by dsimp only; simp; omega⟩
    have hcell : AdI ⟨c.x,c.y,out⟩ ((1,c.s) :: pcs (c.x + 1) c.y r) /\ (Ue ⟨c.x,c.y,out⟩ ((1,c.s) :: pcs (c.x + 1) c.y r)).out = out ++ c :: r:=by
      have e:=hst out rfl
      refine ⟨⟨⟨by dsimp only; omega,by dsimp only; omega,by dsimp only; omega⟩,?_,?_⟩,?_⟩
      · dsimp only; rw [e]; exact hfc
      · dsimp only; rw [e]; exact ih.1
      · show (Ue (act ⟨c.x,c.y,out⟩ 1 c.s) (pcs (c.x + 1) c.y r)).out = _
        rw [e,ih.2]
        simp
    have hcol : ∀ x',0 <= x' -> x' <= c.x -> AdI ⟨x',c.y,out⟩ ((if x' < c.x then [(c.x - x',0)] else []) ++ (1,c.s) :: pcs (c.x + 1) c.y r) /\ (Ue ⟨x',c.y,out⟩ ((if x' < c.x then [(c.x - x',0)] else []) ++ (1,c.s) :: pcs (c.x + 1) c.y r)).out = out ++ c :: r:=fun x' hx0 hx=>by
      by_cases hlt : x' < c.x
      · rw [AeB hlt,AfK]
        have e : act ⟨x',c.y,out⟩ (c.x - x') 0 = ⟨c.x,c.y,out⟩:=by
          rw [act_0]
          congr 1
          dsimp only
          omega
        refine ⟨⟨⟨by dsimp only; omega,by dsimp only; omega,by dsimp only; omega⟩,?_,?_⟩,?_⟩
        · dsimp only; rw [e]; exact ⟨⟨by dsimp only; omega,by dsimp only; omega⟩,⟨by dsimp only; omega,by dsimp only; omega⟩,f3⟩
        · dsimp only; rw [e]; exact hcell.1
        · show (Ue (act ⟨x',c.y,out⟩ (c.x - x') 0) _).out = _
          rw [e,hcell.2]
      · rw [Aex hlt,Afc]
        have : x' = c.x:=by omega
        rw [this]
        exact hcell
    unfold pcs
    by_cases hy : y < c.y
    · rw [AeB hy,AeB hy,AfK]
      have e : act ⟨x,y,out⟩ (c.y - y) 8 = ⟨0,c.y,out⟩:=by
        rw [act_8]
        congr 1
        dsimp only
        omega
      have k:=hcol 0 (by omega) (by omega)
      refine ⟨⟨⟨by dsimp only; omega,by dsimp only; omega,by dsimp only; omega⟩,?_,?_⟩,?_⟩
      · dsimp only; rw [e]; exact ⟨⟨by dsimp only; omega,by dsimp only; omega⟩,⟨by dsimp only; omega,by dsimp only; omega⟩,f3⟩
      · dsimp only; rw [e]; exact k.1
      · show (Ue (act ⟨x,y,out⟩ (c.y - y) 8) _).out = _
        rw [e,k.2]
    · rw [Aex hy,Aex hy,Afc]
      have hyc : y = c.y:=by omega
      subst hyc
      exact hcol x (by omega) (by omega)
theorem WX {x y : Int} {c : Ce} {r : List Ce} (hs : 0 <= c.s) : ∃ q t,pcs x y (c :: r) = q :: t /\ 0 <= q.2 /\ (y < c.y -> q.2 = 8) /\ (¬ y < c.y -> x < c.x -> q.2 = 0) /\ (¬ y < c.y -> ¬ x < c.x -> q.2 = c.s):=by
  unfold pcs
  by_cases hy : y < c.y
  · rw [AeB hy,AeB hy]
    exact ⟨_,_,rfl,by show (0 : Int) <= 8; decide,fun _=>rfl,fun h=>absurd hy h,fun h=>absurd hy h⟩
  · rw [Aex hy,Aex hy]
    by_cases hx : x < c.x
    · rw [AeB hx]
      exact ⟨_,_,rfl,Int.le_refl 0,fun h=>absurd h hy,fun _ _=>rfl,fun _ h=>absurd hx h⟩
    · rw [Aex hx]
      exact ⟨_,_,rfl,hs,fun h=>absurd h hy,fun _ h=>absurd h hx,fun _ _=>rfl⟩
theorem OW {P : PS -> List Nat -> Option (List Ce)} (hP : Par P) {h : List Ce} (ha : aft 0 0 h) (hl : h.length <= 5000) (hne : h ≠ []) : P ⟨0,0,[]⟩ (Fj h) = some h:=by
  obtain ⟨k1,k2⟩:=Pk h 0 0 [] ha ⟨⟨by decide,by decide⟩,⟨by decide,by decide⟩,by simp⟩ (by simpa using hl)
  obtain ⟨c,r,rfl⟩:=Afj hne
  obtain ⟨q,t,e,hq,_⟩:=WX (x:=0) (y:=0) (c:=c) (r:=r) (by have:=ha.2.2.1; omega)
  unfold Fj
  rw [e] at k1 k2 ⊢
  rw [Ib hq]
  obtain ⟨⟨a1,a2,a3⟩,a4,a5⟩:=k1
  rw [MY hP t q.1 q.2 ⟨0,0,[]⟩ ⟨⟨by decide,by decide⟩,⟨by decide,by decide⟩,by simp⟩ a1 a2 a3 a4 a5]
  exact congrArg some k2
def dvl : Nat -> List Nat -> Nat
  | a,[]=>a
  | a,c :: r=>dvl (10 * a + (c - 48)) r
theorem TI : ∀ (l m : List Nat) (a : Nat),dvl a (l ++ m) = dvl (dvl a l) m
  | [],_,_=>rfl
  | c :: r,m,a=>by
    show dvl (10 * a + (c - 48)) (r ++ m) = dvl (dvl (10 * a + (c - 48)) r) m
    exact TI r m _
theorem Mb (u : Nat) : ∀ c,c ∈ BQ u -> 48 <= c /\ c <= 57:=by
  refine BP (P:=fun u=>∀ c,c ∈ BQ u -> 48 <= c /\ c <= 57) (fun u : Nat=>u) (fun u ih c hc=>?_) u
  by_cases h : u < 10
  · rw [Bc h] at hc
    simp at hc
    omega
  · rw [BL h] at hc
    rcases AfH.1 hc with h1 | h1
    · exact ih (u / 10) (by omega) c h1
    · simp at h1
      omega
theorem Ij (u : Nat) : dvl 0 (BQ u) = u:=by
  refine BP (P:=fun u=>dvl 0 (BQ u) = u) (fun u : Nat=>u) (fun u ih=>?_) u
  by_cases h : u < 10
  · rw [Bc h]
    show 10 * 0 + (48 + u - 48) = u
    omega
  · rw [BL h,TI,ih (u / 10) (by omega)]
    show 10 * (u / 10) + (48 + u % 10 - 48) = u
    omega
theorem Wl (u : Nat) : BQ u ≠ []:=by
  by_cases h : u < 10
  · rw [Bc h]; simp
  · rw [BL h]; simp
theorem LZ : ∀ (k u : Nat),u < 10 ^ (k + 1) -> (BQ u).length <= k + 1
  | 0,u,h=>by rw [Bc (by simpa using h)]; simp
  | k + 1,u,h=>by
    by_cases h1 : u < 10
    · rw [Bc h1]; simp
    · rw [BL h1,AeD]
      have : u / 10 < 10 ^ (k + 1):=by
        rw [Nat.pow_succ] at h
        exact Nat.div_lt_of_lt_mul (by rw [Nat.mul_comm]; exact h)
      have:=LZ k (u / 10) this
      simp
      omega
theorem Xi : ∀ (l : List Nat) (a : Nat),a <= dvl a l
  | [],a=>AeA _
  | c :: r,a=>AfG (by omega) (Xi r (10 * a + (c - 48)))
def GJ (c : Nat) : Prop:=48 <= c /\ c <= 57
instance (c : Nat) : Decidable (GJ c):=by unfold GJ; infer_instance
def lix (c : Nat) : Option Int:=if c = 46 then some 0 else if c = 36 then some 8 else if 65 <= c /\ c <= 71 then some ((c : Int) - 64) else none
theorem Pc {l : Int} (h0 : 0 <= l) (h8 : l <= 8) : lix (Io l) = some l /\ ¬ GJ (Io l):=by
  unfold lix Io GJ
  by_cases e0 : l = 0
  · subst e0; decide
  · by_cases e8 : l = 8
    · subst e8; decide
    · rw [Aex e0,Aex e8]
      refine ⟨?_,by omega⟩
      rw [Aex (by omega),Aex (by omega),AeB (by omega)]
      congr 1
      omega
def EV (st : PS) (n d : Nat) : List Nat -> Option (List Ce)
  | []=>if d = 0 then some st.out else none
  | c :: r=>if GJ c then (if 7 < d + 1 then none else EV st (10 * n + (c - 48)) (d + 1) r) else match lix c with
    | none=>none
    | some k=>if 0 < k /\ k < 8 /\ 5000 < st.out.length + (if d = 0 then 1 else n) then none
      else if 4194304 < max (act st (if d = 0 then 1 else n : Nat) k).x (act st (if d = 0 then 1 else n : Nat) k).y then none else EV (act st (if d = 0 then 1 else n : Nat) k) 0 0 r
def Gl (st : PS) (n : Nat) : List Nat -> Option (List Ce)
  | []=>some st.out
  | c :: r=>if GJ c then (if 2097152 < 10 * n + (c - 48) then none else Gl st (10 * n + (c - 48)) r) else match lix c with
    | none=>none
    | some k=>if 0 < k /\ k < 8 /\ 5000 < st.out.length + max n 1 then none
      else if 2097152 < (act st (max n 1 : Nat) k).x \/ 2097152 < (act st (max n 1 : Nat) k).y then none else Gl (act st (max n 1 : Nat) k) 0 r
theorem SW (st : PS) : ∀ (ds : List Nat) (t : List Nat) (n d : Nat),(∀ c,c ∈ ds -> GJ c) -> d + ds.length <= 7 -> EV st n d (ds ++ t) = EV st (dvl n ds) (d + ds.length) t
  | [],t,n,d,_,_=>rfl
  | c :: r,t,n,d,h,hl=>by
    have hl' : d + r.length + 1 <= 7:=by simp at hl; omega
    have e : EV st n d ((c :: r) ++ t) = EV st (10 * n + (c - 48)) (d + 1) (r ++ t):=by
      show (if GJ c then (if 7 < d + 1 then none else EV st (10 * n + (c - 48)) (d + 1) (r ++ t)) else _) = _
      rw [AeB (h c (Afa ..)),Aex (by omega)]
    rw [e,SW st r t _ _ (fun x hx=>h x (AfB _ hx)) (by omega)]
    show EV st (dvl n (c :: r)) _ t = _
    congr 1
    simp
    omega
theorem SU (st : PS) : ∀ (ds : List Nat) (t : List Nat) (n : Nat),(∀ c,c ∈ ds -> GJ c) -> dvl n ds <= 2097152 -> Gl st n (ds ++ t) = Gl st (dvl n ds) t
  | [],t,n,_,_=>rfl
  | c :: r,t,n,h,hl=>by
    have hge:=Xi r (10 * n + (c - 48))
    have hl2 : dvl (10 * n + (c - 48)) r <= 2097152:=hl
    have e : Gl st n ((c :: r) ++ t) = Gl st (10 * n + (c - 48)) (r ++ t):=by
      show (if GJ c then (if 2097152 < 10 * n + (c - 48) then none else Gl st (10 * n + (c - 48)) (r ++ t)) else _) = _
      rw [AeB (h c (Afa ..)),Aex (by omega)]
    rw [e,SU st r t _ (fun x hx=>h x (AfB _ hx)) hl2]
    rfl
theorem TX {st : PS} {n l : Int} (h : fit (act st n l)) (h0 : 0 < l /\ l < 8) : st.out.length + n.toNat <= 5000:=by
  have:=h.2.2
  unfold act at this
  rw [Aex (by omega),Aex (by omega)] at this
  dsimp only at this
  rw [AeD,EG] at this
  exact this
theorem VT : Par fun st t=>EV st 0 0 t where
  nil st:=rfl
  step st n l t h1 h2 h3 h4 _ hf:=by
    obtain ⟨e1,e2⟩:=Pc h3 h4
    have key : ∀ (m d : Nat),(if d = 0 then 1 else m : Nat) = n.toNat -> EV st m d (Io l :: t) = EV (act st n l) 0 0 t:=fun m d hm=>by
      show (if GJ (Io l) then _ else match lix (Io l) with | none=>none | some k=>_) = _
      rw [Aex e2,e1]
      dsimp only
      rw [hm,show ((n.toNat : Nat) : Int) = n from by omega]
      have:=fun h=>TX hf h
      rw [Aex (by intro ⟨a,b,c⟩; have:=this ⟨a,b⟩; omega)]
      have k1:=hf.1
      have k2:=hf.2.1
      rw [Aex (by omega)]
    unfold DL
    by_cases h : 1 < n
    · obtain ⟨u,rfl⟩:=AeN (show 0 <= n by omega)
      have hu : u < 10 ^ (6 + 1):=by omega
      have hlen:=LZ 6 u hu
      have hne:=Wl u
      rw [AeB h,Bg,AeJ]
      show EV st 0 0 (BQ u ++ ([Io l] ++ t)) = _
      rw [SW st (BQ u) _ 0 0 (Mb u) (by omega),Ij]
      refine key u _ ?_
      rw [Aex (by have : (BQ u).length ≠ 0:=fun h=>hne (AeT h);
                     omega)]
      omega
    · rw [Aex h]
      exact key 0 0 (by rw [AeB rfl]; omega)
theorem VS : Par fun st t=>Gl st 0 t where
  nil st:=rfl
  step st n l t h1 h2 h3 h4 _ hf:=by
    obtain ⟨e1,e2⟩:=Pc h3 h4
    have key : ∀ (m : Nat),max m 1 = n.toNat -> Gl st m (Io l :: t) = Gl (act st n l) 0 t:=fun m hm=>by
      show (if GJ (Io l) then _ else match lix (Io l) with | none=>none | some k=>_) = _
      rw [Aex e2,e1]
      dsimp only
      rw [hm,show ((n.toNat : Nat) : Int) = n from by omega]
      have:=fun h=>TX hf h
      rw [Aex (by intro ⟨a,b,c⟩; have:=this ⟨a,b⟩; omega)]
      have k1:=hf.1
      have k2:=hf.2.1
      rw [Aex (by omega)]
    unfold DL
    by_cases h : 1 < n
    · obtain ⟨u,rfl⟩:=AeN (show 0 <= n by omega)
      rw [AeB h,Bg,AeJ]
      show Gl st 0 (BQ u ++ ([Io l] ++ t)) = _
      rw [SU st (BQ u) _ 0 (Mb u) (by rw [Ij]; omega),Ij]
      exact key u (by omega)
    · rw [Aex h]
      exact key 0 (by omega)
theorem TC {p : List Ce} : ∀ c,c ∈ Bu p -> 0 <= c.x /\ 0 <= c.y:=fun c hc=>by
  obtain ⟨d,hd,rfl⟩:=AeU.1 hc
  have hne : p ≠ []:=fun e=>by subst e; cases hd
  have h1:=(Gm Ce.x hne).1 d hd
  have h2:=(Gm Ce.y hne).1 d hd
  rw [Jc] at h1
  rw [Jb] at h2
  unfold mvC
  dsimp only
  omega
theorem Xp : ∀ (h : List Ce) (x y : Int),h.Pairwise (fun a b=>BG a b = true) -> (∀ c,c ∈ h -> (0 <= c.x /\ c.x <= 1048576 /\ 0 <= c.y /\ c.y <= 1048576) /\ 1 <= c.s /\ c.s < 8) -> (∀ c,c ∈ h -> (y < c.y /\ 0 <= c.x) \/ (y = c.y /\ x <= c.x)) -> aft x y h
  | [],_,_,_,_,_=>Afv
  | c :: r,x,y,h1,h2,h3=>by
    obtain ⟨k1,k2⟩:=AfD.1 h1
    refine ⟨h3 c (Afa ..),(h2 c (Afa ..)).1,(h2 c (Afa ..)).2,Xp r _ _ k2 (fun d hd=>h2 d (AfB _ hd)) fun d hd=>?_⟩
    have k3:=k1 d hd
    have k4:=(h2 d (AfB _ hd)).1
    unfold BG at k3
    simp only [AeW] at k3
    omega
theorem Kf {p : List Ce} (hp : right p = true) (hs : TY p) : aft 0 0 (Bu p):=by
  refine Xp _ 0 0 (Nn (Bh hp).1) (fun c hc=>?_) fun c hc=>?_
  · have h1:=TC c hc
    have h2:=LC hs (fun c hc=>(AZ hp hc).2.2) c hc
    unfold EL DC at h2
    simp only [Aez,AeW] at h2
    omega
  · have h1:=TC c hc
    omega
def CZ (p : List Ce) : List Nat:=if p = [] then [45] else Fj (Bu p)
end Go.Mx.Tryz
namespace Go.Mx.Tryz
open Go.Sort Go.Lib Go.Proofs
theorem ZL {l : Int} (h0 : 0 <= l) (h8 : l <= 8) : Aj .ixs [.m (.s [46,65,66,67,68,69,70,71,36]),.m (.i .i64 l)] = some (.m (.i .u8 (Io l : Nat))):=by
  have h : ∀ j : Fin 9,Aj .ixs [.m (.s [46,65,66,67,68,69,70,71,36]),.m (.i .i64 ((j.1 : Nat) : Int))] = some (.m (.i .u8 (Io ((j.1 : Nat) : Int) : Nat))):=by
    intro j
    match j with
    | 0=>rfl
    | 1=>rfl
    | 2=>rfl
    | 3=>rfl
    | 4=>rfl
    | 5=>rfl
    | 6=>rfl
    | 7=>rfl
    | 8=>rfl
  obtain ⟨u,rfl⟩:=AeN h0
  exact h ⟨u,by omega⟩
theorem ZK {l : Int} (h0 : 0 <= l) (h8 : l <= 8) : Io l < 256:=by
  unfold Io
  split
  · omega
  · split <;> omega
structure CodeSt (n last : Int) (s : List Nat) (qs : Option Nat) (H : Hp) : Prop where
  bld : Bldr 0 qs s H
  rn : ∃ b,b <= 1 /\ nth H 1 = some (.cs 3 1 [[.m (.i .i64 n)]] b false)
  rl : ∃ b,b <= 1 /\ nth H 2 = some (.cs 3 1 [[.m (.i .i64 last)]] b false)
  qb : ∀ i,qs = some i -> 3 <= i
def nx (n last c l : Int) : Int:=if l = last then n + c else c
def lx (last l : Int) : Int:=if l = last then last else l
def GW (n last l : Int) : List Nat:=if l = last then [] else if 0 <= last then DL n last else []
theorem FD (n l : Int) (h0 : -9223372036854775808 <= n) (h1 : n <= 9223372036854775807) : (DL n l).length <= 22:=by
  have:=FK n h0 h1
  unfold DL
  split <;> simp <;> omega
theorem De (n last l : Int) (h0 : -9223372036854775808 <= n) (h1 : n <= 9223372036854775807) : (GW n last l).length <= 22:=by
  have:=FD n last h0 h1
  unfold GW
  split
  · simp
  · split
    · exact this
    · simp
theorem MV {H : Hp} {i : Nat} {x y : Row} (h : nth H i = some x) : AG H i y = some (H.set i y):=Am _ _ _ (AJ h)
theorem Wr {r : Nat} {qs : Option Nat} {s : List Nat} {H H' : Hp} (h : Bldr r qs s H) (he : ∀ i,i = r \/ qs = some i -> nth H' i = nth H i) : Bldr r qs s H':=by
  obtain ⟨⟨a,b,bb,h1,h2,h3,h4⟩,hne,hby⟩:=h
  exact ⟨⟨a,b,bb,by rw [he r (.inl rfl)]; exact h1,h2,h3,h4.frame fun i hi=>he i (.inr hi)⟩,hne,hby⟩
theorem Im {qs : Option Nat} {s : List Nat} {H : Hp} (h : Bldr 0 qs s H) {j : Nat} (hj : j = 1 \/ j = 2) (hq : ∀ i,qs = some i -> 3 <= i) (x : Row) : Bldr 0 qs s (H.set j x) :=
  Wr h fun i hi=>Ar (by
    rcases hi with rfl | hi
    · omega
    · have:=hq i hi
      omega)
theorem Ej {n last : Int} {s : List Nat} {qs : Option Nat} {H : Hp} (hC : CodeSt n last s qs H) (c l : Int) (hn : 0 <= n /\ n <= 100000000000000) (hla : -1 <= last /\ last <= 8) (hc : 0 <= c /\ c <= 10000000) (hs : s.length <= 1000000000) :
    ∃ qs' H',Gives G 122 [.m (.i .i64 c),.m (.i .i64 l),.pt 2 1 0 0,.pt 1 1 0 0,.pt 0 1 0 0] H (.tu []) H' /\ CodeSt (nx n last c l) (lx last l) (s ++ GW n last l) qs' H':=by
  obtain ⟨hB,⟨b1,hb1,h1⟩,⟨b2,hb2,h2⟩,hq⟩:=hC
  have hw : ∀ x y : V,BD 1 [[x]] 0 0 [y] = some [[y]]:=fun _ _=>rfl
  have wn : wr .i64 (n + c) = n + c:=wr_i64 (by omega) (by omega)
  by_cases e : l = last
  · refine ⟨qs,H.set 1 (.cs 3 1 [[.m (.i .i64 (n + c))]] 1 false),.of_ret (AR mono rfl rfl rfl rfl rfl ?_),?_⟩
    · simp (disch:=omega) [gd_and,h1,h2,hb1,hb2,e,wn,hw,MV h1]
    · have ee : GW n last l = []:=by unfold GW; rw [AeB e]
      unfold nx lx
      rw [AeB e,AeB e,ee,AeV]
      exact ⟨Im hB (.inl rfl) hq _,⟨1,AeA _,AO (AJ h1)⟩,⟨b2,hb2,by rw [Ar (by omega)]; exact h2⟩,hq⟩
  · by_cases h0 : 0 <= last
    · have ee : GW n last l = DL n last:=by unfold GW; rw [Aex e,AeB h0]
      unfold nx lx
      rw [Aex e,Aex e,ee]
      have lx:=ZL h0 hla.2
      have ll:=ZK h0 hla.2
      have fin : ∀ (H2 : Hp) (q2 : Option Nat) (t : List Nat),Bldr 0 q2 t H2 -> (∃ b,b <= 1 /\ nth H2 1 = some (.cs 3 1 [[.m (.i .i64 n)]] b false)) -> (∃ b,b <= 1 /\ nth H2 2 = some (.cs 3 1 [[.m (.i .i64 last)]] b false)) -> (∀ i,q2 = some i -> 3 <= i) -> CodeSt c l t q2 ((H2.set 1 (.cs 3 1 [[.m (.i .i64 c)]] 1 false)).set 2 (.cs 3 1 [[.m (.i .i64 l)]] 1 false)):=fun H2 q2 t k1 ⟨b3,_,k2⟩ ⟨b4,_,k3⟩ k4 =>
        ⟨Im (Im k1 (.inl rfl) k4 _) (.inr rfl) k4 _,⟨1,AeA _,by rw [Ar (by omega),AO (AJ k2)]⟩,⟨1,AeA _,AO (by have:=AJ k3; simpa using this)⟩,k4⟩
      by_cases hn1 : 1 < n
      · have gi:=fun H=>Pf n (by omega) (by omega) H
        have hil:=FK n (by omega) (by omega)
        obtain ⟨H1,q1,j1,j2,j3,j4⟩:=Aai hB (AN n) (Qv n) (by omega)
        have l1:=AJ h1
        have l2:=AJ h2
        have m1 : nth H1 1 = some (.cs 3 1 [[.m (.i .i64 n)]] b1 false):=by rw [j3.2 1 l1 (by omega) (fun h=>by have:=hq 1 h.symm; omega)]; exact h1
        have m2 : nth H1 2 = some (.cs 3 1 [[.m (.i .i64 last)]] b2 false):=by rw [j3.2 2 l2 (by omega) (fun h=>by have:=hq 2 h.symm; omega)]; exact h2
        have hq1 : ∀ i,q1 = some i -> 3 <= i:=fun i hi=>by
          rcases j4 i hi with h | h
          · exact hq i h
          · omega
        obtain ⟨H2,q2,i1,i2,i3,i4⟩:=Pv j2 (Io last) ll (by simp; omega)
        have l3:=AJ m1
        have l4:=AJ m2
        have m3 : nth H2 1 = some (.cs 3 1 [[.m (.i .i64 n)]] b1 false):=by rw [i3.2 1 l3 (by omega) (fun h=>by have:=hq1 1 h.symm; omega)]; exact m1
        have m4 : nth H2 2 = some (.cs 3 1 [[.m (.i .i64 last)]] b2 false):=by rw [i3.2 2 l4 (by omega) (fun h=>by have:=hq1 2 h.symm; omega)]; exact m2
        have hq2 : ∀ i,q2 = some i -> 3 <= i:=fun i hi=>by
          rcases i4 i hi with h | h
          · exact hq1 i h
          · omega
        have m5 : nth (H2.set 1 (.cs 3 1 [[.m (.i .i64 c)]] 1 false)) 2 = some (.cs 3 1 [[.m (.i .i64 last)]] b2 false):=by rw [Ar (by omega)]; exact m4
        have et : DL n last = AN n ++ [Io last]:=by unfold DL; rw [AeB hn1]
        rw [et,<- AeJ]
        refine ⟨q2,_,.of_ret (AR mono rfl rfl rfl rfl rfl ?_),fin H2 q2 _ i2 ⟨b1,hb1,m3⟩ ⟨b2,hb2,m4⟩ hq2⟩
        simp (disch:=omega) [gd_and,h1,h2,hb1,hb2,e,h0,hn1,cl (gi _),cl j1,m2,lx,cl i1,m3,hw,MV m3,MV m5,m5]
      · obtain ⟨H2,q2,i1,i2,i3,i4⟩:=Pv hB (Io last) ll (by omega)
        have l3:=AJ h1
        have l4:=AJ h2
        have m3 : nth H2 1 = some (.cs 3 1 [[.m (.i .i64 n)]] b1 false):=by rw [i3.2 1 l3 (by omega) (fun h=>by have:=hq 1 h.symm; omega)]; exact h1
        have m4 : nth H2 2 = some (.cs 3 1 [[.m (.i .i64 last)]] b2 false):=by rw [i3.2 2 l4 (by omega) (fun h=>by have:=hq 2 h.symm; omega)]; exact h2
        have hq2 : ∀ i,q2 = some i -> 3 <= i:=fun i hi=>by
          rcases i4 i hi with h | h
          · exact hq i h
          · omega
        have m5 : nth (H2.set 1 (.cs 3 1 [[.m (.i .i64 c)]] 1 false)) 2 = some (.cs 3 1 [[.m (.i .i64 last)]] b2 false):=by rw [Ar (by omega)]; exact m4
        have et : DL n last = [Io last]:=by unfold DL; rw [Aex hn1]; rfl
        rw [et]
        refine ⟨q2,_,.of_ret (AR mono rfl rfl rfl rfl rfl ?_),fin H2 q2 _ i2 ⟨b1,hb1,m3⟩ ⟨b2,hb2,m4⟩ hq2⟩
        simp (disch:=omega) [gd_and,h1,h2,hb1,hb2,e,h0,hn1,lx,cl i1,m3,hw,MV m3,MV m5,m5]
    · have ee : GW n last l = []:=by unfold GW; rw [Aex e,Aex h0]
      unfold nx lx
      rw [Aex e,Aex e,ee,AeV]
      have m5 : nth (H.set 1 (.cs 3 1 [[.m (.i .i64 c)]] 1 false)) 2 = some (.cs 3 1 [[.m (.i .i64 last)]] b2 false):=by rw [Ar (by omega)]; exact h2
      refine ⟨qs,(H.set 1 (.cs 3 1 [[.m (.i .i64 c)]] 1 false)).set 2 (.cs 3 1 [[.m (.i .i64 l)]] 1 false),.of_ret (AR mono rfl rfl rfl rfl rfl ?_),⟨Im (Im hB (.inl rfl) hq _) (.inr rfl) hq _,⟨1,AeA _,by rw [Ar (by omega),AO (AJ h1)]⟩,⟨1,AeA _,AO (by have:=AJ h2; simpa using this)⟩,hq⟩⟩
      simp (disch:=omega) [gd_and,h1,h2,hb2,e,h0,hw,MV h1,MV m5,m5]
theorem DM (n last : Int) (q : Int × Int) (r : List (Int × Int)) : rle n last (q :: r) = GW n last q.2 ++ rle (nx n last q.1 q.2) (lx last q.2) r:=by
  show (if q.2 = last then rle (n + q.1) last r else (if 0 <= last then DL n last else []) ++ rle q.1 q.2 r) = _
  unfold GW nx lx
  by_cases e : q.2 = last
  · simp only [AeB e,Afc]
  · simp only [Aex e]
theorem Zx (n last : Int) (h : -1 <= last) : rle n last [] = GW n last (-1):=by
  show (if last = -1 then [] else DL n last) = _
  unfold GW
  by_cases e : last = -1
  · rw [AeB e,AeB e.symm]
  · rw [Aex e,Aex (fun h=>e h.symm),AeB (by omega)]
theorem ZF {n last c l N : Int} (hn : 0 <= n /\ n <= N) (hc : 0 <= c /\ c <= 1048577) : 0 <= nx n last c l /\ nx n last c l <= N + 1048577:=by
  unfold nx
  split <;> omega
theorem ZJ {last l : Int} (hl : 0 <= l /\ l <= 8) : -1 <= lx last l /\ lx last l <= 8:=by
  unfold lx
  split <;> omega
theorem JT (x y : Int) (c : Ce) (r : List Ce) : pcs x y (c :: r) = (if y < c.y then [(c.y - y,8)] else []) ++ ((if (if y < c.y then 0 else x) < c.x then [(c.x - (if y < c.y then 0 else x),0)] else []) ++ (1,c.s) :: pcs (c.x + 1) c.y r):=rfl
theorem Aef {v : I} {h : List Ce} (hv : IsSl v (An h)) (ha : aft 0 0 h) (hl : h.length <= 5000) (H : Hp) : Gives G 74 [.m v] H (.m (.s (Fj h))) H:=by
  have hr:=hv.rules
  simp only [show (An h).length = h.length from by simp [An]] at hr
  refine Ah rfl rfl rfl rfl rfl ?_
  have hw : ∀ x y : V,BD 1 [[x]] 0 0 [y] = some [[y]]:=fun _ _=>rfl
  simp (disch:=omega) [gd_and,hr,hw]
  refine (?key : ∀ (i : Nat) (n last x y : Int) (s : List Nat) (qs : Option Nat) (B : List (Nat × List V)) (H : Hp),i <= h.length -> CodeSt n last s qs H -> Fj h = s ++ rle n last (pcs x y (h.drop i)) -> aft x y (h.drop i) -> (0 <= x /\ 0 <= y /\ x <= 1048577 /\ y <= 1048577) -> (0 <= n /\ n <= 4000000 * i) -> (-1 <= last /\ last <= 8) -> s.length <= 100 * i -> Run G c74_B0 (S74_0 (.pt 0 1 0 0) (.fn 122 [.pt 2 1 0 0,.pt 1 1 0 0,.pt 0 1 0 0]) (.m (.i .i64 x)) (.m (.i .i64 y)) (.m v) (.m (.i .i64 h.length)) (.m (.i .i64 (i : Int))) B H) _) 0 0 (-1) 0 0 [] none _ _ (AeK _) ⟨Aaj [] _,⟨1,AeA _,rfl⟩,⟨1,AeA _,rfl⟩,fun i h=>by cases h⟩ rfl ha (by omega) (by omega) (by omega) (by simp)
  clear ha
  refine BP (fun i : Nat=>h.length - i) fun i ih n last x y s qs B H hi hC hT ha hb hn hla hs=>?_
  unfold c74_B0
  cases hx : h[i]? with
  | none =>
    have : i = h.length:=by have:=AeM.1 hx; omega
    subst this
    rw [AfO] at hT
    obtain ⟨q1,H1,k1,hC1⟩:=Ej hC 0 (-1) (by omega) hla (by omega) (by omega)
    have hel:=De n last (-1) (by omega) (by omega)
    obtain ⟨H2,k2,_⟩:=Aak hC1.bld (by simp; omega)
    have e : Fj h = s ++ GW n last (-1):=by rw [hT,show pcs x y [] = [] from rfl,Zx _ _ hla.1]
    rw [<- e] at k2
    simp (disch:=omega) [cl k1,cl k2]
  | some c =>
    have hlt:=(Av hx).1
    have hlt' : (i : Int) < h.length:=by omega
    have hnn:=AD hx
    have wi : wr .i64 ((i : Int) + 1) = (i : Int) + 1:=wr_i64 (by omega) (by omega)
    rw [(Av hx).2] at hT ha
    obtain ⟨a1,a2,a3,a4⟩:=ha
    have wx : wr .i64 (c.x - x) = c.x - x:=wr_i64 (by omega) (by omega)
    have wy : wr .i64 (c.y - y) = c.y - y:=wr_i64 (by omega) (by omega)
    have w0 : wr .i64 c.x = c.x:=wr_i64 (by omega) (by omega)
    have w1 : wr .i64 (c.x + 1) = c.x + 1:=wr_i64 (by omega) (by omega)
    rw [JT] at hT
    by_cases hy : y < c.y
    · rw [AeB hy,AeB hy,AfK,DM,<- AeJ] at hT
      obtain ⟨q1,H1,k1,hC1⟩:=Ej hC (c.y - y) 8 (by omega) hla (by omega) (by omega)
      have hel:=De n last 8 (by omega) (by omega)
      have n1:=ZF (last:=last) (l:=8) hn (c:=c.y - y) (by omega)
      have l1:=ZJ (last:=last) (l:=8) (by omega)
      have s1 : (s ++ GW n last 8).length <= 100 * i + 22:=by simp; omega
      generalize GW n last 8 = e1 at *
      generalize nx n last (c.y - y) 8 = m1 at *
      generalize lx last 8 = t1 at *
      by_cases hx0 : 0 < c.x
      · rw [AeB hx0,AfK,DM,<- AeJ,Int.sub_zero] at hT
        obtain ⟨q2,H2,k2,hC2⟩:=Ej hC1 c.x 0 (by omega) l1 (by omega) (by omega)
        have hel2:=De m1 t1 0 (by omega) (by omega)
        have n2:=ZF (last:=t1) (l:=0) n1 (c:=c.x) (by omega)
        have l2:=ZJ (last:=t1) (l:=0) (by omega)
        have s2 : (s ++ e1 ++ GW m1 t1 0).length <= 100 * i + 44:=by rw [AeD]; omega
        generalize GW m1 t1 0 = e2 at *
        generalize nx m1 t1 c.x 0 = m2 at *
        generalize lx t1 0 = t2 at *
        rw [DM,<- AeJ] at hT
        obtain ⟨q3,H3,k3,hC3⟩:=Ej hC2 1 c.s (by omega) l2 (by omega) (by omega)
        have hel3:=De m2 t2 c.s (by omega) (by omega)
        have n3:=ZF (last:=t2) (l:=c.s) n2 (c:=1) (by omega)
        have l3:=ZJ (last:=t2) (l:=c.s) (by omega)
        have s3 : (s ++ e1 ++ e2 ++ GW m2 t2 c.s).length <= 100 * i + 66:=by rw [AeD]; omega
        simp (disch:=omega) [gd_and,hr,hlt',hnn,wi,hy,hx0,wy,w0,w1,cl k1,cl k2,cl k3]
        exact ih (i + 1) (by omega) _ _ _ _ _ _ _ _ (by omega) hC3 hT a4 (by omega) (by omega) l3 (by omega)
      · rw [Aex hx0,Afc] at hT
        rw [DM,<- AeJ] at hT
        obtain ⟨q3,H3,k3,hC3⟩:=Ej hC1 1 c.s (by omega) l1 (by omega) (by omega)
        have hel3:=De m1 t1 c.s (by omega) (by omega)
        have n3:=ZF (last:=t1) (l:=c.s) n1 (c:=1) (by omega)
        have l3:=ZJ (last:=t1) (l:=c.s) (by omega)
        have s3 : (s ++ e1 ++ GW m1 t1 c.s).length <= 100 * i + 66:=by rw [AeD]; omega
        simp (disch:=omega) [gd_and,hr,hlt',hnn,wi,hy,hx0,wy,w1,cl k1,cl k3]
        exact ih (i + 1) (by omega) _ _ _ _ _ _ _ _ (by omega) hC3 hT a4 (by omega) (by omega) l3 (by omega)
    · rw [Aex hy,Aex hy,Afc] at hT
      have hyc : c.y = y:=by omega
      by_cases hx0 : x < c.x
      · rw [AeB hx0,AfK,DM,<- AeJ] at hT
        obtain ⟨q2,H2,k2,hC2⟩:=Ej hC (c.x - x) 0 (by omega) hla (by omega) (by omega)
        have hel2:=De n last 0 (by omega) (by omega)
        have n2:=ZF (last:=last) (l:=0) hn (c:=c.x - x) (by omega)
        have l2:=ZJ (last:=last) (l:=0) (by omega)
        have s2 : (s ++ GW n last 0).length <= 100 * i + 44:=by rw [AeD]; omega
        generalize GW n last 0 = e2 at *
        generalize nx n last (c.x - x) 0 = m2 at *
        generalize lx last 0 = t2 at *
        rw [DM,<- AeJ] at hT
        obtain ⟨q3,H3,k3,hC3⟩:=Ej hC2 1 c.s (by omega) l2 (by omega) (by omega)
        have hel3:=De m2 t2 c.s (by omega) (by omega)
        have n3:=ZF (last:=t2) (l:=c.s) n2 (c:=1) (by omega)
        have l3:=ZJ (last:=t2) (l:=c.s) (by omega)
        have s3 : (s ++ e2 ++ GW m2 t2 c.s).length <= 100 * i + 66:=by rw [AeD]; omega
        rw [hyc] at hT a4
        simp (disch:=omega) [gd_and,hr,hlt',hnn,wi,hy,hx0,wx,w1,cl k2,cl k3]
        exact ih (i + 1) (by omega) _ _ _ _ _ _ _ _ (by omega) hC3 hT a4 (by omega) (by omega) l3 (by omega)
      · rw [Aex hx0,Afc] at hT
        rw [DM,<- AeJ] at hT
        obtain ⟨q3,H3,k3,hC3⟩:=Ej hC 1 c.s (by omega) hla (by omega) (by omega)
        have hel3:=De n last c.s (by omega) (by omega)
        have n3:=ZF (last:=last) (l:=c.s) hn (c:=1) (by omega)
        have l3:=ZJ (last:=last) (l:=c.s) (by omega)
        have s3 : (s ++ GW n last c.s).length <= 100 * i + 66:=by rw [AeD]; omega
        rw [hyc] at hT a4
        simp (disch:=omega) [gd_and,hr,hlt',hnn,wi,hy,hx0,w1,cl k3]
        exact ih (i + 1) (by omega) _ _ _ _ _ _ _ _ (by omega) hC3 hT a4 (by omega) (by omega) l3 (by omega)
end Go.Mx.Tryz
namespace Go.Mx.Tryz
open Go.Sort Go.Lib Go.Proofs
theorem Aee (u : Nat) : u < 1000000000000000000 -> ∀ H,Gives G 174 [.m (.i .i64 u)] H (.m (.s (BQ u))) H:=by
  induction u using Nat.strongRecOn with
  | _ u ih =>
    intro h H
    refine Ah rfl rfl rfl rfl rfl ?_
    by_cases h10 : u < 10
    · have h10' : (u : Int) < 10:=by omega
      have e:=dig1 u h10
      have e2 : (([48,49,50,51,52,53,54,55,56,57] : List Nat)).length = 10:=rfl
      have e3 : ((u : Int) + 1).toNat - u = 1:=by omega
      have w1 : wr .i64 ((u : Int) + 1) = (u : Int) + 1:=wr_i64 (by omega) (by omega)
      rw [Bc h10]
      simp (contextual:=true) (disch:=omega) [Ab,h10',w1,e,e2]
    · have h10' : ¬ (u : Int) < 10:=by omega
      have g1:=ih (u / 10) (by omega) (by omega) []
      have g2:=ih (u % 10) (by omega) (by omega) []
      have l1:=GZ (u / 10) (by omega)
      have l2:=GZ (u % 10) (by omega)
      have e1 : (u : Int).tdiv 10 = ((u / 10 : Nat) : Int):=rfl
      have e2 : (u : Int).tmod 10 = ((u % 10 : Nat) : Int):=rfl
      have w1 : wr .i64 ((u / 10 : Nat) : Int) = ((u / 10 : Nat) : Int):=wr_i64 (by omega) (by omega)
      have w2 : wr .i64 ((u % 10 : Nat) : Int) = ((u % 10 : Nat) : Int):=wr_i64 (by omega) (by omega)
      rw [BL h10]
      have e3:=Bc (i:=u % 10) (by omega)
      rw [e3] at g2 l2
      simp (contextual:=true) (disch:=omega) [Ab,gd_and,h10',w1,e1,e2,cl g1,cl g2,-Int.natCast_ediv,-Int.natCast_emod]
theorem GT (n : Int) (hn : 1 <= n /\ n <= 100000000) (c : Nat) (H : Hp) : Gives G 134 [.m (.i .i64 n),.m (.s [c])] H (.m (.s ((if 1 < n then AN n else []) ++ [c]))) H:=by
  refine Ah rfl rfl rfl rfl rfl ?_
  by_cases h1 : n = 1
  · subst h1
    simp (disch:=omega) []
  · obtain ⟨u,rfl⟩:=AeN (show 0 <= n by omega)
    have g1:=fun H=>Aee u (by omega) H
    have l1:=GZ u (by omega)
    have h2 : 1 < u:=by omega
    have h3 : ¬ u = 1:=by omega
    have h4 : (1 : Int) < u:=by omega
    simp (disch:=omega) [gd_in,h1,h4,cl (g1 _),Bg]
theorem AdO {s : Int} (h : 1 <= s /\ s < 8) : Aj (.slc 0 true true false) [.m (.s [65,66,67,68,69,70,71]),.m (.i .i64 (s - 1)),.m (.i .i64 s)] = some (.m (.s [Io s])):=by
  have k : s = 1 \/ s = 2 \/ s = 3 \/ s = 4 \/ s = 5 \/ s = 6 \/ s = 7:=by omega
  rcases k with rfl | rfl | rfl | rfl | rfl | rfl | rfl <;> rfl
theorem VM {v : I} {h : List Ce} (hv : IsSl v (An h)) (hl : h.length <= 5000) {i : Nat} {c : Ce} (hx : h[i]? = some c) (hcs : 1 <= c.s /\ c.s < 8) (hcx : 0 <= c.x /\ c.x <= 1048576) (y0 : V) (K : K) (T s : List Nat) (H : Hp)
    (hend : ∀ (n : Nat) (B : List (Nat × List V)),1 <= n -> i + n <= h.length -> getB B 7 = some [.m (.i .i64 c.x),.m (.i .i64 c.y),.m (.i .i64 c.s)] -> T = s ++ (DL n c.s ++ rle 0 (-1) (pcs (c.x + n) c.y (h.drop (i + n)))) -> aft (c.x + n) c.y (h.drop (i + n)) -> At' G (.ex 2) ⟨[(0,.m v),(3,.m (.s s)),(5,y0),(6,.m (.i .i64 (i : Int))),(7,.fa 7 0),(8,.m (.i .i64 (n : Int))),(87,.m (.b false))],[],⟨B,H⟩⟩ K) :
    ∀ (n : Nat) (B : List (Nat × List V)),1 <= n -> i + n <= h.length -> getB B 7 = some [.m (.i .i64 c.x),.m (.i .i64 c.y),.m (.i .i64 c.s)] -> T = s ++ rle n c.s (pcs (c.x + n) c.y (h.drop (i + n))) -> aft (c.x + n) c.y (h.drop (i + n)) -> Run G c83_B0 (S83_0 (.m v) (.m (.s s)) y0 (.m (.i .i64 (i : Int))) (.fa 7 0) (.m (.i .i64 (n : Int))) B H) (.seq c83_L0 K):=by
  have hr:=hv.rules
  simp only [show (An h).length = h.length from by simp [An]] at hr
  have hlt:=(Av hx).1
  refine BP (fun n : Nat=>h.length - n) fun n ih B hn hi hB hT ha=>?_
  have w1 : wr .i64 ((i : Int) + (n : Int)) = ((i + n : Nat) : Int):=wr_i64 (by omega) (by omega)
  have w2 : wr .i64 ((n : Int) + 1) = ((n + 1 : Nat) : Int):=wr_i64 (by omega) (by omega)
  have w3 : wr .i64 (c.x + (n : Int)) = c.x + n:=wr_i64 (by omega) (by omega)
  unfold c83_B0
  cases hz : h[i + n]? with
  | none =>
    have he : i + n = h.length:=by have:=AeM.1 hz; omega
    have hge : ¬ ((i + n : Nat) : Int) < h.length:=by omega
    have hge2 : ¬ i + n < h.length:=by omega
    have hd : h.drop (i + n) = []:=List.drop_eq_nil_of_le (by omega)
    have hT2:=hT
    rw [DB (by omega) (fun q r hq=>by rw [hd] at hq; cases hq)] at hT2
    have k:=hend n B hn hi hB hT2 ha
    have hge3 : h.length <= i + n:=by omega
    simp (disch:=omega) [hr,w1,hge,-Int.natCast_add]
    exact k
  | some d =>
    have hlt2:=(Av hz).1
    have hlt2' : ((i + n : Nat) : Int) < h.length:=by omega
    have hnn:=AD hz
    have hdr:=(Av hz).2
    rw [hdr] at hT ha
    obtain ⟨a1,a2,a3,a4⟩:=ha
    obtain ⟨q,t,e,e1,e2,e3,e4⟩:=WX (x:=c.x + n) (y:=c.y) (c:=d) (r:=h.drop (i + n + 1)) (by omega)
    by_cases hm : d.y = c.y /\ d.x = c.x + n /\ d.s = c.s
    · obtain ⟨m1,m2,m3⟩:=hm
      have ep : pcs (c.x + n) c.y (d :: h.drop (i + n + 1)) = (1,c.s) :: pcs (c.x + (n + 1 : Nat)) c.y (h.drop (i + (n + 1))):=by
        rw [JT,m1,m2,m3,Aex (Int.lt_irrefl _),Aex (Int.lt_irrefl _),Aex (Int.lt_irrefl _),Afc,Afc]
        rw [show c.x + ((n + 1 : Nat) : Int) = c.x + n + 1 from by omega]
        rfl
      have er : rle n c.s ((1,c.s) :: pcs (c.x + (n + 1 : Nat)) c.y (h.drop (i + (n + 1)))) = rle ((n + 1 : Nat) : Int) c.s (pcs (c.x + (n + 1 : Nat)) c.y (h.drop (i + (n + 1)))):=by
        show (if c.s = c.s then _ else _) = _
        rw [AeB rfl]
        rfl
      have k:=ih (n + 1) (by omega) B (by omega) (by omega) hB (by rw [hT,ep,er]) (by rw [m1,m2] at a4; rw [show c.x + ((n + 1 : Nat) : Int) = c.x + n + 1 from by omega]; exact a4)
      simp (disch:=omega) [hr,w1,w2,w3,hlt2',hnn,hB,m1,m2,m3,-Int.natCast_add]
      exact k
    · have hT2:=hT
      rw [DB (by omega) (fun q' r' hq=>by
        rw [e] at hq
        cases hq
        refine ⟨fun hq2=>hm ?_,e1⟩
        by_cases y1 : c.y < d.y
        · have:=e2 y1; omega
        · by_cases x1 : c.x + n < d.x
          · have:=e3 y1 x1; omega
          · have:=e4 y1 x1
            exact ⟨by omega,by omega,by omega⟩)] at hT2
      have k:=hend n B hn hi hB (by rw [hdr]; exact hT2) (by rw [hdr]; exact ⟨a1,a2,a3,a4⟩)
      by_cases m1 : d.y = c.y
      · by_cases m2 : d.x = c.x + n
        · have m3 : ¬ d.s = c.s:=fun h=>hm ⟨m1,m2,h⟩
          simp (disch:=omega) [hr,w1,w3,hlt2',hnn,hB,m1,m2,m3,-Int.natCast_add]
          exact k
        · simp (disch:=omega) [hr,w1,w3,hlt2',hnn,hB,m1,m2,-Int.natCast_add]
          exact k
      · simp (disch:=omega) [hr,w1,hlt2',hnn,hB,m1,-Int.natCast_add]
        exact k
theorem Zg {v : I} {h : List Ce} (hv : IsSl v (An h)) (ha : aft 0 0 h) (hl : h.length <= 5000) (H : Hp) : Gives G 83 [.m v] H (.m (.s (if h = [] then [45] else Fj h))) H:=by
  have hr:=hv.rules
  simp only [show (An h).length = h.length from by simp [An]] at hr
  refine Ah rfl rfl rfl rfl rfl ?_
  by_cases h0 : h = []
  · subst h0
    simp (disch:=omega) [hr]
  have hne : ¬ (h.length : Int) = 0:=fun e=>h0 (AeT (by omega))
  rw [Aex h0]
  simp (disch:=omega) [hr,h0]
  refine (?key : ∀ (i : Nat) (x y : Int) (s : List Nat) (B : List (Nat × List V)),i <= h.length -> Fj h = s ++ rle 0 (-1) (pcs x y (h.drop i)) -> aft x y (h.drop i) -> (0 <= x /\ 0 <= y /\ x <= 1060000 /\ y <= 1048577) -> s.length <= 100 * i -> Run G c83_B1 (S83_1 (.m v) (.m (.s s)) (.m (.i .i64 x)) (.m (.i .i64 y)) (.m (.i .i64 (i : Int))) B []) _) 0 0 0 [] [] (AeK _) rfl ha (by omega) (by simp)
  clear ha
  refine BP (fun i : Nat=>h.length - i) fun i ih x y s B hi hT ha hb hs=>?_
  unfold c83_B1
  cases hx : h[i]? with
  | none =>
    have : i = h.length:=by have:=AeM.1 hx; omega
    subst this
    rw [AfO] at hT
    have e : Fj h = s:=by rw [hT]; show s ++ [] = s; simp
    simp (disch:=omega) [hr,e]
  | some c =>
    have hlt:=(Av hx).1
    have hlt' : (i : Int) < h.length:=by omega
    have hnn:=AD hx
    rw [(Av hx).2] at hT ha
    obtain ⟨a1,a2,a3,a4⟩:=ha
    have wx : wr .i64 (c.x - x) = c.x - x:=wr_i64 (by omega) (by omega)
    have wy : wr .i64 (c.y - y) = c.y - y:=wr_i64 (by omega) (by omega)
    have w0 : wr .i64 c.x = c.x:=wr_i64 (by omega) (by omega)
    have ws : wr .i64 (c.s - 1) = c.s - 1:=wr_i64 (by omega) (by omega)
    have hsl:=AdO a3
    rw [JT] at hT
    have rest : ∀ (s1 : List Nat) (y0 : V) (B : List (Nat × List V)) (K : K),s1.length <= 100 * i + 46 -> Fj h = s1 ++ rle 0 (-1) ((1,c.s) :: pcs (c.x + 1) c.y (h.drop (i + 1))) -> getB B 7 = some [.m (.i .i64 c.x),.m (.i .i64 c.y),.m (.i .i64 c.s)] -> (∀ (n : Nat) (B : List (Nat × List V)),1 <= n -> i + n <= h.length -> getB B 7 = some [.m (.i .i64 c.x),.m (.i .i64 c.y),.m (.i .i64 c.s)] -> Fj h = s1 ++ (DL n c.s ++ rle 0 (-1) (pcs (c.x + n) c.y (h.drop (i + n)))) -> aft (c.x + n) c.y (h.drop (i + n)) -> At' G (.ex 2) ⟨[(0,.m v),(3,.m (.s s1)),(5,y0),(6,.m (.i .i64 (i : Int))),(7,.fa 7 0),(8,.m (.i .i64 (n : Int))),(87,.m (.b false))],[],⟨B,[]⟩⟩ K) -> Run G c83_B0 (S83_0 (.m v) (.m (.s s1)) y0 (.m (.i .i64 (i : Int))) (.fa 7 0) (.m (.i .i64 1)) B []) (.seq c83_L0 K):=fun s1 y0 B K _ hT1 hB hend =>
      VM hv hl hx a3 (by omega) y0 K (Fj h) s1 [] hend 1 B (AeA _) (by omega) hB (by rw [hT1,Ib (by show 0 <= c.s; omega)]; rfl) a4
    have fin : ∀ (n : Nat) (s1 : List Nat),1 <= n -> i + n <= h.length -> s1.length <= 100 * i + 46 -> (∀ H,Gives G 134 [.m (.i .i64 (n : Int)),.m (.s [Io c.s])] H (.m (.s (DL n c.s))) H) /\ wr .i64 (c.x + (n : Int)) = c.x + n /\ wr .i64 ((i : Int) + (n : Int)) = ((i + n : Nat) : Int) /\ (s1 ++ DL n c.s).length <= 100 * (i + n) /\ (DL n c.s).length <= 22:=fun n s1 h1 h2 h3=>by
      have:=FD (n : Int) c.s (by omega) (by omega)
      exact ⟨fun H=>GT n (by omega) _ H,wr_i64 (by omega) (by omega),wr_i64 (by omega) (by omega),by rw [AeD]; omega,this⟩
    by_cases hy : y < c.y
    · rw [AeB hy,AeB hy,AfK,Ib (by show (0 : Int) <= 8; decide)] at hT
      have gp:=fun H=>GT (c.y - y) (by omega) 36 H
      have t8 : (if 1 < c.y - y then AN (c.y - y) else []) ++ [36] = DL (c.y - y) 8:=rfl
      have len8:=FD (c.y - y) 8 (by omega) (by omega)
      rw [t8] at gp
      by_cases hx0 : 0 < c.x
      · rw [AeB hx0,AfK,DB (l:=8) (by decide) (fun q r hq=>by cases hq; exact ⟨by show ¬ (0 : Int) = 8; decide,Int.le_refl 0⟩),Ib (Int.le_refl 0),DB (l:=0) (Int.le_refl 0) (fun q r hq=>by cases hq; exact ⟨by show ¬ c.s = 0; omega,by show 0 <= c.s; omega⟩),Int.sub_zero,<- AeJ,<- AeJ] at hT
        have gq:=fun H=>GT c.x (by omega) 46 H
        have t0 : (if 1 < c.x then AN c.x else []) ++ [46] = DL c.x 0:=rfl
        have len0:=FD c.x 0 (by omega) (by omega)
        rw [t0] at gq
        generalize DL (c.y - y) 8 = z1 at *
        generalize DL c.x 0 = z2 at *
        have s1l : (s ++ z1 ++ z2).length <= 100 * i + 46:=by rw [AeD,AeD]; omega
        simp (disch:=omega) [gd_in,gd_and,hr,hlt',hnn,hy,hx0,wy,w0,cl (gp _),cl (gq _)]
        refine rest _ _ _ _ (by simpa using s1l) (by simpa using hT) (Fw _ _ _) fun n B k1 k2 k3 k4 k5=>?_
        obtain ⟨f1,f2,f3,f4,f5⟩:=fin n _ k1 k2 s1l
        simp (disch:=omega) [gd_in,k3,ws,hsl,cl (f1 _),f2,f3,-Int.natCast_add]
        exact ih (i + n) (by omega) _ _ _ _ (by omega) (by rw [k4]; simp) k5 (by omega) (by simpa using f4)
      · rw [Aex hx0,Afc,DB (l:=8) (by decide) (fun q r hq=>by cases hq; exact ⟨by show ¬ c.s = 8; omega,by show 0 <= c.s; omega⟩),<- AeJ] at hT
        generalize DL (c.y - y) 8 = z1 at *
        have s1l : (s ++ z1).length <= 100 * i + 46:=by rw [AeD]; omega
        simp (disch:=omega) [gd_and,hr,hlt',hnn,hy,hx0,wy,cl (gp _)]
        refine rest _ _ _ _ (by simpa using s1l) (by simpa using hT) (Fw _ _ _) fun n B k1 k2 k3 k4 k5=>?_
        obtain ⟨f1,f2,f3,f4,f5⟩:=fin n _ k1 k2 s1l
        simp (disch:=omega) [k3,ws,hsl,cl (f1 _),f2,f3,-Int.natCast_add]
        exact ih (i + n) (by omega) _ _ _ _ (by omega) (by rw [k4]; simp) k5 (by omega) (by simpa using f4)
    · rw [Aex hy,Aex hy,Afc] at hT
      have hyc : c.y = y:=by omega
      rw [hyc] at hT rest
      by_cases hx0 : x < c.x
      · rw [AeB hx0,AfK,Ib (Int.le_refl 0),DB (l:=0) (Int.le_refl 0) (fun q r hq=>by cases hq; exact ⟨by show ¬ c.s = 0; omega,by show 0 <= c.s; omega⟩),<- AeJ] at hT
        have gq:=fun H=>GT (c.x - x) (by omega) 46 H
        have t0 : (if 1 < c.x - x then AN (c.x - x) else []) ++ [46] = DL (c.x - x) 0:=rfl
        have len0:=FD (c.x - x) 0 (by omega) (by omega)
        rw [t0] at gq
        generalize DL (c.x - x) 0 = z2 at *
        have s1l : (s ++ z2).length <= 100 * i + 46:=by rw [AeD]; omega
        simp (disch:=omega) [gd_and,hr,hlt',hnn,hx0,hyc,wx,cl (gq _)]
        refine rest _ _ _ _ (by simpa using s1l) (by simpa using hT) (Fw _ _ _) fun n B k1 k2 k3 k4 k5=>?_
        obtain ⟨f1,f2,f3,f4,f5⟩:=fin n _ k1 k2 s1l
        simp (disch:=omega) [k3,ws,hsl,cl (f1 _),f2,f3,-Int.natCast_add]
        exact ih (i + n) (by omega) _ _ _ _ (by omega) (by rw [k4]; simp) k5 (by omega) (by simpa using f4)
      · rw [Aex hx0,Afc] at hT
        have s1l : s.length <= 100 * i + 46:=by omega
        simp (disch:=omega) [gd_and,hr,hlt',hnn,hx0,hyc]
        refine rest _ _ _ _ s1l hT (Fw _ _ _) fun n B k1 k2 k3 k4 k5=>?_
        obtain ⟨f1,f2,f3,f4,f5⟩:=fin n _ k1 k2 s1l
        simp (disch:=omega) [k3,ws,hsl,cl (f1 _),f2,f3,-Int.natCast_add]
        exact ih (i + n) (by omega) _ _ _ _ (by omega) (by rw [k4]; simp) k5 (by omega) (by simpa using f4)
end Go.Mx.Tryz
