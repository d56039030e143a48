/- Evaluation in which every number is computed before it is stored. Nothing here speaks of a program. -/
import Derived.Test.YtjjpbhhgeddgjaaGreatDoorMem
import Derived.Test.YtjjpbhhgeddgjaaGreatDoorBc
set_option linter.unusedSimpArgs false
set_option linter.unusedVariables false
set_option linter.unusedSectionVars false
namespace Go.Mx
def fN {α : Type} (n : Nat) (k : Nat -> α) : α:=match Nat.add n 1 with
 | 0=>k 0
 | m + 1=>k m
theorem fN_eq {α : Type} (n : Nat) (k : Nat -> α) : fN n k = k n:=rfl
def fZ {α : Type} (x : Int) (k : Int -> α) : α:=match x with
 | .ofNat n=>fN n fun n=>k (.ofNat n)
 | .negSucc n=>fN n fun n=>k (.negSucc n)
theorem fZ_eq {α : Type} (x : Int) (k : Int -> α) : fZ x k = k x:=by cases x <;> rfl
def fB {α : Type} (b : Bool) (k : Bool -> α) : α:=match b with
 | true=>k true
 | false=>k false
theorem Aaa {α : Type} (x : Bool) (k : Bool -> α) : fB x k = k x:=by cases x <;> rfl
def fI {α : Type} (x : I) (k : I -> α) : α:=match x with
 | .b b=>fB b fun b=>k (.b b)
 | .i j z=>fZ z fun z=>k (.i j z)
 | x=>k x
theorem fI_eq {α : Type} (x : I) (k : I -> α) : fI x k = k x:=by cases x <;> simp [fI,Aaa,fZ_eq]
def fV {α : Type} (v : V) (k : V -> α) : α:=match v with
 | .m x=>fI x fun x=>k (.m x)
 | .sl r ver esz st len lim=>fN r fun r=>fN ver fun ver=>fN esz fun esz=>fN st fun st=>fN len fun len=>fB lim fun lim=>k (.sl r ver esz st len lim)
 | .pt r ver ix off=>fN r fun r=>fN ver fun ver=>fN ix fun ix=>fN off fun off=>k (.pt r ver ix off)
 | .fa d off=>fN d fun d=>fN off fun off=>k (.fa d off)
 | .mp r=>fN r fun r=>k (.mp r)
 | v=>k v
theorem ST {α : Type} (v : V) (k : V -> α) : fV v k = k v:=by cases v <;> simp [fV,fI_eq,fN_eq,Aaa]
def fS {α β : Type} : List α -> (List α -> β) -> β
 | [],k=>k []
 | a :: r,k=>fS r fun r'=>k (a :: r')
theorem Ld {α β : Type} : ∀ (l : List α) (k : List α -> β),fS l k = k l
 | [],_=>rfl
 | a :: r,k=>by
  show fS r _ = _
  rw [Ld r]
def fRow {α : Type} (w : Row) (k : Row -> α) : α:=match w with
 | .cs ty esz es base fz=>fS es fun es=>k (.cs ty esz es base fz)
 | w=>k w
theorem Wf {α : Type} (w : Row) (k : Row -> α) : fRow w k = k w:=by cases w <;> simp [fRow,Ld]
def fHr {α : Type} : Hp -> Nat -> (Hp -> α) -> α
 | [],_,k=>k []
 | w :: r,n,k=>match n with
  | 0=>fRow w fun w=>fS r fun r'=>k (w :: r')
  | m + 1=>fHr r m fun r'=>k (w :: r')
theorem Ue {α : Type} : ∀ (l : Hp) (n : Nat) (k : Hp -> α),fHr l n k = k l
 | [],_,_=>rfl
 | w :: r,n,k=>by
  unfold fHr
  cases n with
  | zero=>simp only [Wf,Ld]
  | succ m=>simp only [Ue r m]
def kE {α : Type} : Env -> Nat -> V -> (Env -> α) -> α
 | [],n,x,k=>k [(n,x)]
 | e :: r,n,x,k=>match e with
  | (j,y)=>match Nat.blt n j with
   | true=>k ((n,x) :: (j,y) :: r)
   | false=>match Nat.beq j n with
    | true=>k ((n,x) :: r)
    | false=>kE r n x fun r'=>k ((j,y) :: r')
theorem VV {α : Type} : ∀ (l : Env) (n : Nat) (x : V) (k : Env -> α),kE l n x k = k (BG l n x)
 | [],_,_,_=>rfl
 | (j,y) :: r,n,x,k=>by
  unfold kE BG
  dsimp only
  cases Nat.blt n j with
  | true=>rfl
  | false =>
   dsimp only
   cases Nat.beq j n with
   | true=>rfl
   | false=>simp only [VV r n x]
def isCl : OL -> Bool
 | .cal _=>true
 | .cav=>true
 | _=>false
def fM {α : Type} (op : O) (x : V) (M : Mem) (k : Mem -> α) : α:=match op with
 | .l o=>match M with
  | ⟨B,H⟩=>match isCl o with
   | true=>k ⟨B,H⟩
   | false=>fS B fun B=>match x with
    | .sl r _ _ _ _ _=>fHr H r fun H=>k ⟨B,H⟩
    | .pt r _ _ _=>fHr H r fun H=>k ⟨B,H⟩
    | _=>k ⟨B,H⟩
 | _=>k M
theorem Wg {α : Type} (op : O) (x : V) (M : Mem) (k : Mem -> α) : fM op x M k = k M:=by
 cases op with
 | l o =>
  obtain ⟨B,H⟩:=M
  show (match isCl o with
   | true=>k ⟨B,H⟩
   | false=>fS B fun B=>match x with
    | .sl r _ _ _ _ _=>fHr H r fun H=>k ⟨B,H⟩
    | .pt r _ _ _=>fHr H r fun H=>k ⟨B,H⟩
    | _=>k ⟨B,H⟩) = _
  cases isCl o with
  | true=>rfl
  | false =>
   rw [Ld]
   cases x <;> first | rfl | exact Ue _ _ _
 | _=>rfl
structure Sub (P L : Env) : Prop where
 get : ∀ n,BJ P n = BJ L n
 fa : ∀ d,BB d P = true -> BB d L = true
theorem UL (L : Env) : Sub L L:=⟨fun _=>rfl,fun _ h=>h⟩
theorem Cr (d n : Nat) (x : V) (r : Env) : BB d ((n,x) :: r) = (BB d [(n,x)] && BB d r):=by
 cases x <;> simp [BB]
theorem JF (d : Nat) : ∀ (L : Env) (n : Nat) (x : V),BB d [(n,x)] = true -> BB d L = true -> BB d (BG L n x) = true
 | [],n,x,h,_=>h
 | (k,y) :: r,n,x,h,hr=>by
  rw [Cr,AcP] at hr
  unfold BG
  split
  ·rw [Cr,Cr d k,h,hr.1,hr.2]; rfl
  ·split
   ·rw [Cr,h,hr.2]; rfl
   ·rw [Cr,hr.1,JF d r n x h hr.2]; rfl
theorem RW {P L : Env} (h : Sub P L) (n : Nat) (x : V) : Sub ((n,x) :: P) (BG L n x):=by
 refine ⟨fun m=>?_,fun d hd=>?_⟩
 ·rw [Cy]
  show (match Nat.beq n m with
   | true=>some x
   | false=>BJ P m) = _
  by_cases e : m = n
  ·subst e
   rw [AcY rfl,show Nat.beq m m = true from Nat.beq_refl m]
  ·rw [AcQ e]
   cases hb : Nat.beq n m with
   | true=>exact absurd (AcW hb).symm e
   | false=>exact h.get m
 ·rw [Cr,AcP] at hd
  exact JF d L n x hd.1 (h.fa d hd.2)
theorem TP {E P L : Env} {M : Mem} (h : Sub P L) (o : Opnd) : evA ⟨E,P,M⟩ o = evA ⟨E,L,M⟩ o:=by
 cases o with
 | l n=>exact h.get n
 | _=>rfl
theorem RV {E P L : Env} {M : Mem} (h : Sub P L) (g : Option (Opnd × Bool)) : Ao ⟨E,P,M⟩ g = Ao ⟨E,L,M⟩ g:=by
 cases g with
 | none=>rfl
 | some q =>
  obtain ⟨a,w⟩:=q
  unfold Ao
  simp only
  rw [TP h]
theorem Mb {E P L : Env} {M : Mem} (h : Sub P L) : ∀ l : List Opnd,Ac (evA ⟨E,P,M⟩) l = Ac (evA ⟨E,L,M⟩) l
 | []=>rfl
 | o :: r=>by
  unfold Ac
  rw [TP h,Mb h r]
theorem Pe {E P L : Env} {M : Mem} (h : Sub P L) (o : O) (hf : AN ⟨E,P,M⟩ o = true) : AN ⟨E,L,M⟩ o = true:=by
 cases o with
 | l o=>cases o <;> first | rfl | exact h.fa _ hf
 | _=>rfl
def sK (E P : Env) (M : Mem) (d : Dst) (x : V) : Option St:=match d with
 | .no=>some ⟨E,P,M⟩
 | .v n=>gd (DJ n x) (kE E n x fun E'=>some ⟨E',P,M⟩)
 | .l n=>some ⟨E,(n,x) :: P,M⟩
def Le2 (s s' : St) : Prop:=s.E = s'.E /\ s.M = s'.M /\ Sub s.L s'.L
theorem Za {E P L : Env} {M : Mem} {d : Dst} {x : V} (h : Sub P L) {s : St} (hs : sK E P M d x = some s) : ∃ s',Cu ⟨E,L,M⟩ d x = some s' /\ Le2 s s':=by
 cases d with
 | no =>
  simp only [sK,AcM] at hs
  subst hs
  exact ⟨_,rfl,rfl,rfl,h⟩
 | v n =>
  simp only [sK,VV,Ab,AcM] at hs
  obtain ⟨h1,rfl⟩:=hs
  exact ⟨⟨BG E n x,L,M⟩,by show gd _ _ = _; rw [h1]; rfl,rfl,rfl,h⟩
 | l n =>
  simp only [sK,AcM] at hs
  subst hs
  exact ⟨_,rfl,rfl,rfl,RW h n x⟩
def opK (call : Ba) (s : St) (o : Op) : Option St:=match s with
 | ⟨E,L,M⟩=>(Ao ⟨E,L,M⟩ o.guard).bind fun q=>match q with
  | true=>gd (AN ⟨E,L,M⟩ o.op) ((Ac (evA ⟨E,L,M⟩) o.args).bind fun vs=>(evO call M o.op vs).bind fun p=>match p with
   | (v,M1)=>fV v fun x=>fM o.op x M1 fun M2=>sK E L M2 o.dst x)
  | false=>sK E L M o.dst .un
theorem Zq {call : Ba} {s t : St} (h : Le2 s t) {o : Op} {r : St} (hr : opK call s o = some r) : ∃ r',Dp call t o = some r' /\ Le2 r r':=by
 obtain ⟨E,P,M⟩:=s
 obtain ⟨E',L,M'⟩:=t
 obtain ⟨h1,h2,h3⟩:=h
 simp only at h1 h2 h3
 subst h1
 subst h2
 unfold opK at hr
 simp only [AcL] at hr
 obtain ⟨q,hq,hr⟩:=hr
 rw [RV h3] at hq
 unfold Dp
 rw [hq]
 cases q with
 | false=>exact Za h3 hr
 | true =>
  simp only [Ab,AcL] at hr
  obtain ⟨hf,vs,hv,p,hp,hr⟩:=hr
  obtain ⟨v,M1⟩:=p
  simp only [ST,Wg] at hr
  rw [Mb h3] at hv
  obtain ⟨s',k1,k2⟩:=Za h3 hr
  exact ⟨s',by simp only [AcS,Ab,AcL]; exact ⟨Pe h3 _ hf,vs,hv,(v,M1),hp,k1⟩,k2⟩
def TU (call : Ba) : List Op -> St -> Option St
 | [],s=>some s
 | o :: r,s=>(opK call s o).bind fun s'=>TU call r s'
theorem PE {call : Ba} : ∀ (l : List Op) {s t : St},Le2 s t -> ∀ {r : St},TU call l s = some r -> ∃ r',BE call l t = some r' /\ Le2 r r'
 | [],s,t,h,r,hr=>by
  simp only [TU,AcM] at hr
  subst hr
  exact ⟨t,rfl,h⟩
 | o :: l,s,t,h,r,hr=>by
  unfold TU at hr
  rw [AcL] at hr
  obtain ⟨s1,k1,k2⟩:=hr
  obtain ⟨t1,j1,j2⟩:=Zq h k1
  obtain ⟨r',i1,i2⟩:=PE l j2 k2
  exact ⟨r',by unfold BE; rw [j1]; exact i1,i2⟩
def lpK (dr : List Nat) (body : St -> Option (Ex × St)) : Nat -> St -> Option (Ex × St)
 | 0,_=>none
 | k + 1,s=>match s with
  | ⟨E,L,M⟩=>fS (AK dr E) fun E'=>(body ⟨E',L,M⟩).bind fun p=>match p with
   | (e,s')=>match e with
    | .nm=>lpK dr body k s'
    | e=>some (e,s')
theorem Ua (dr : List Nat) {f g : St -> Option (Ex × St)} (h : ∀ s r,f s = some r -> g s = some r) : ∀ (n : Nat) (s : St) (r : Ex × St),lpK dr f n s = some r -> Eo (fun t=>g { t with E:=AK dr t.E }) n s = some r
 | 0,_,_,hr=>by cases hr
 | k + 1,s,r,hr=>by
  obtain ⟨E,L,M⟩:=s
  unfold lpK at hr
  simp only [Ld,AcL] at hr
  obtain ⟨p,h1,h2⟩:=hr
  unfold Eo
  rw [h _ _ h1]
  obtain ⟨e,s'⟩:=p
  cases e with
  | nm=>exact Ua dr h k s' r h2
  | _=>exact h2
def cK (call : Ba) (n : Nat) : C -> St -> Option (Ex × St)
 | .skip,s=>some (.nm,s)
 | .reg ops,s=>(TU call ops s).bind fun s'=>match s' with
  | ⟨E,_,M⟩=>some (.nm,⟨E,[],M⟩)
 | .seq a b,s=>(cK call n a s).bind fun p=>match p with
  | (e,s')=>match e with
   | .nm=>cK call n b s'
   | e=>some (e,s')
 | .ite c a b,s=>(evA s c).bind fun v=>match v with
  | .m (.b true)=>cK call n a s
  | .m (.b false)=>cK call n b s
  | _=>none
 | .blk id c,s=>(cK call n c s).bind fun p=>match p with
  | (e,s')=>match e with
   | .ex j=>match Nat.beq j id with
    | true=>some (.nm,s')
    | false=>some (.ex j,s')
   | e=>some (e,s')
 | .loop dr c,s=>lpK dr (fun t=>cK call n c t) n s
 | .rng f dr ps ca cb,s=>(evA s f).bind fun fv=>(Wj fv).bind fun gc =>
  (call gc.1 (.yl s.M.H.length :: gc.2) (s.M.H ++ [.lp 0 none (Ep (AK dr s.E)) ps ca cb])).bind fun p =>
   (SY s.M.H.length p.2).bind fun q=>some (q.1,{ s with M:={ s.M with H:=q.2 } })
 | .ex id,s=>some (.ex id,s)
 | .ret,s=>some (.ret,s)
theorem Lp {call : Ba} {n : Nat} : ∀ (c : C) (s : St) (r : Ex × St),cK call n c s = some r -> evC call n c s = some r
 | .skip,_,_,h=>h
 | .reg ops,s,r,h=>by
  unfold cK at h
  rw [AcL] at h
  obtain ⟨s1,h1,h2⟩:=h
  obtain ⟨t1,k1,k2,k3,_⟩:=PE ops ⟨rfl,rfl,UL _⟩ h1
  unfold evC
  rw [k1]
  obtain ⟨E,L,M⟩:=s1
  simp only at k2 k3 h2
  subst k2
  subst k3
  exact h2
 | .seq a b,s,r,h=>by
  unfold cK at h
  rw [AcL] at h
  obtain ⟨p,h1,h2⟩:=h
  unfold evC
  rw [Lp a s p h1]
  obtain ⟨e,s'⟩:=p
  cases e with
  | nm=>exact Lp b s' r h2
  | _=>exact h2
 | .ite c a b,s,r,h=>by
  unfold cK at h
  rw [AcL] at h
  obtain ⟨v,h1,h2⟩:=h
  unfold evC
  rw [h1]
  cases v <;> try cases h2
  rename_i x
  cases x <;> try cases h2
  rename_i q
  cases q
  ·exact Lp b s r h2
  ·exact Lp a s r h2
 | .blk id c,s,r,h=>by
  unfold cK at h
  rw [AcL] at h
  obtain ⟨p,h1,h2⟩:=h
  unfold evC
  rw [Lp c s p h1]
  exact h2
 | .loop dr c,s,r,h=>by
  unfold cK at h
  unfold evC
  exact Ua dr (Lp c) n s r h
 | .rng f dr ps ca cb,s,r,h=>h
 | .ex _,_,_,h=>h
 | .ret,_,_,h=>h
def Yz (call : Ba) (n : Nat) (f : F) (vs : List V) (H : Hp) : Option (V × Hp) :=
 gd (vs.all Av && Nat.beq vs.length f.np) ((cK call n f.body ⟨CA 0 vs,[],⟨[],H⟩⟩).bind fun p=>match p with
  | (e,s)=>match e with
   | .ex _=>none
   | _=>(Dm s f.res).bind fun v=>some (v,s.M.H))
theorem Qc {call : Ba} {n : Nat} {f : F} {vs : List V} {H : Hp} {r : V × Hp} (h : Yz call n f vs H = some r) : evF call n f vs H = some r:=by
 unfold Yz at h
 unfold evF
 rw [Ab] at h ⊢
 refine ⟨h.1,?_⟩
 have h:=h.2
 rw [AcL] at h
 obtain ⟨p,h1,h2⟩:=h
 rw [Lp _ _ _ h1]
 exact h2
def JO (call : Ba) (n : Nat) (fn : F) (is : List I) : Option V -> Option V
 | some r=>some r
 | none=>(Yz call n fn (is.map .m) []).bind fun p=>match p with
  | (v,H)=>viewR H v
theorem PY {call : Ba} {n : Nat} {fn : F} {is : List I} {o : Option V} {r : V} (h : JO call n fn is o = some r) : JN call n fn is o = some r:=by
 cases o with
 | some x=>exact h
 | none =>
  unfold JO at h
  rw [AcL] at h
  obtain ⟨p,h1,h2⟩:=h
  unfold JN
  rw [Qc h1]
  exact h2
def Wl (T : List Ent) (f : Nat) (call : Ba) (n : Nat) (fn : F) (vs : List V) (H : Hp) : Option (V × Hp) :=
 (Ac (view 20 H) vs).bind fun is=>(JO call n fn is (Fw T f is)).bind fun r=>match vs.flatMap EJ with
  | []=>gd (vs.all Bv) (some (r,H))
  | rs=>match Hy r with
   | true=>some (r,H)
   | false=>gd (vs.all Bv) ((AL rs H).bind fun H2=>some (r,H2))
def Ga (G : Cfg) (T : List Ent) : Nat -> Ba
 | 0,_,_,_=>none
 | n + 1,f,vs,H=>match G.prim f with
  | some p=>p (Ga G T n) vs H
  | none=>match G.fn f with
   | some fn=>match G.sh f with
    | true=>Yz (Ga G T n) n fn vs H
    | false=>Wl T f (Ga G T n) n fn vs H
   | none=>gd (Nat.beq f yN) (Dx (Ga G T n) n vs H)
theorem IM {G : Cfg} (hG : Bp G) (T : List Ent) : ∀ n : Nat,LeC (Ga G T n) (Hb G T n)
 | 0,_,_,_,_,h=>h
 | n + 1,f,vs,H,r,h=>by
  have ih:=IM hG T n
  unfold Ga at h
  unfold Hb
  cases hp : G.prim f with
  | some p =>
   rw [hp] at h
   exact hG f p hp _ _ ih vs H r h
  | none =>
   rw [hp] at h
   dsimp only at h ⊢
   cases hf : G.fn f with
   | none =>
    rw [hf] at h
    dsimp only at h ⊢
    rw [Ab] at h ⊢
    exact ⟨h.1,EB ih (AcR _) h.2⟩
   | some fn =>
    rw [hf] at h
    dsimp only at h ⊢
    cases hs : G.sh f with
    | true =>
     rw [hs] at h
     exact Eh ih (AcR _) (Qc h)
    | false =>
     rw [hs] at h
     unfold Wl at h
     unfold Wk
     refine Aw (fun _ h=>h) (fun is r h=>?_) h
     refine Aw (fun r0 h0=>?_) (fun _ _ h=>h) h
     have h0:=PY h0
     cases hl : Fw T f is with
     | some x =>
      rw [hl] at h0
      exact h0
     | none =>
      rw [hl] at h0
      unfold JN at h0 ⊢
      exact Aw (fun b hb=>Eh ih (AcR _) hb) (fun _ _ h=>h) h0
theorem UK {G : Cfg} (hG : Bp G) {T : List Ent} (hT : Ah G T) {n : Nat} {e : Ent} (h : Ga G T n e.f (e.is.map .m) [] = some (e.r,[])) : Ah G (e :: T):=RU hG hT (n:=n) (IM hG T n _ _ _ _ h)
theorem Wa {G : Cfg} (hG : Bp G) {T : List Ent} (hT : Ah G T) {n f : Nat} {vs : List V} {H H' : Hp} {v : V} (h : Ga G T n f vs H = some (v,H')) : Gives G f vs H v H':=JW hG hT (n:=n) (IM hG T n _ _ _ _ h)
end Go.Mx
