/- Walking the machine. Nothing here speaks of a program. -/
import Derived.Test.YtgljapjkjbmicaaGreatDoorMach
import Derived.Test.YtgljapjkjbmicaaGreatDoorBa
set_option linter.unusedSimpArgs false
set_option linter.unusedVariables false
set_option linter.unusedSectionVars false
/- Walking the machine: what a piece of code comes to, whatever the fuel. Nothing here speaks of a program. -/
namespace Go.Mx
/- More fuel gives the same. -/
def LeC (c d : Bp) : Prop:=∀ f vs H r,c f vs H = some r -> d f vs H = some r
theorem Bg {α β : Type} {x y : Option α} {f g : α -> Option β} {r : β} (hx : ∀ a,x = some a -> y = some a) (hf : ∀ a r,f a = some r -> g a = some r) (h : x.bind f = some r) : y.bind g = some r:=by
  simp only [AaF] at h ⊢
  obtain ⟨a,h1,h2⟩:=h
  exact ⟨a,hx a h1,hf a r h2⟩
theorem Tf {c d : Bp} (h : LeC c d) {M : Mem} {o : O} {vs : List V} {r : V × Mem} (he : evO c M o vs = some r) : evO d M o vs = some r:=by
  cases o with
  | p o=>exact he
  | r o=>exact he
  | l o =>
    simp only [evO] at he ⊢
    cases o with
    | cal f =>
      simp only [Am] at he ⊢
      exact Bg (fun a=>h f vs M.H a) (fun _ _ h=>h) he
    | cav =>
      match vs,he with
      | .fn f cap :: xs,he=>simp only [Am] at he ⊢; exact Bg (fun a=>h f _ M.H a) (fun _ _ h=>h) he
      | .m (.fn f cap) :: xs,he=>simp only [Am] at he ⊢; exact Bg (fun a=>h f _ M.H a) (fun _ _ h=>h) he
      | .yl r :: xs,he=>simp only [Am] at he ⊢; exact Bg (fun a=>h yN _ M.H a) (fun _ _ h=>h) he
      | .m (.b _) :: xs,he=>simp [Am] at he
      | .m (.i _ _) :: xs,he=>simp [Am] at he
      | .m (.s _) :: xs,he=>simp [Am] at he
      | .m (.nl _) :: xs,he=>simp [Am] at he
      | .m .er :: xs,he=>simp [Am] at he
      | .m (.sl _) :: xs,he=>simp [Am] at he
      | .m (.pt _) :: xs,he=>simp [Am] at he
      | .m (.ag _) :: xs,he=>simp [Am] at he
      | .m (.mp _) :: xs,he=>simp [Am] at he
      | .un :: xs,he=>simp [Am] at he
      | .ls _ :: xs,he=>simp [Am] at he
      | .sl .. :: xs,he=>simp [Am] at he
      | .pt .. :: xs,he=>simp [Am] at he
      | .fa .. :: xs,he=>simp [Am] at he
      | .mp _ :: xs,he=>simp [Am] at he
      | .ag _ :: xs,he=>simp [Am] at he
      | .tu _ :: xs,he=>simp [Am] at he
      | [],he=>simp [Am] at he
    | _ =>
      match vs,he with
      | [],he=>exact he
      | [_],he=>exact he
      | [_,_],he=>exact he
      | [_,_,_],he=>exact he
      | _ :: _ :: _ :: _ :: _,he=>exact he
theorem JS {c d : Bp} (h : LeC c d) {s s' : St} {o : Op} (he : DD c s o = some s') : DD d s o = some s':=by
  simp only [DD,AaF] at he ⊢
  obtain ⟨q,hq,he⟩:=he
  refine ⟨q,hq,?_⟩
  cases q with
  | true =>
    simp only at he ⊢
    cases hf : AW s o.op with
    | false=>rw [hf] at he; simp [gd] at he
    | true =>
      rw [hf] at he
      simp only [gd,AaF] at he ⊢
      obtain ⟨vs,hvs,p,hp,hs⟩:=he
      exact ⟨vs,hvs,p,Tf h hp,hs⟩
  | false=>exact he
theorem Bs {c d : Bp} (h : LeC c d) : ∀ {ops : List Op} {s s' : St},Bc c ops s = some s' -> Bc d ops s = some s'
  | [],_,_,he=>he
  | o :: r,s,s',he=>by
    simp only [Bc] at he ⊢
    exact Bg (fun a=>JS h) (fun a r=>Bs h) he
theorem Ed {f g : St -> Option (Ex × St)} (h : ∀ s r,f s = some r -> g s = some r) : ∀ {n m : Nat} {s : St} {r : Ex × St},n <= m -> EZ f n s = some r -> EZ g m s = some r
  | 0,m,s,r,_,he=>by simp [EZ] at he
  | n + 1,0,s,r,hn,_=>by omega
  | n + 1,m + 1,s,r,hn,he=>by
    simp only [EZ] at he ⊢
    refine Bg (fun a=>h s a) (fun a r ha=>?_) he
    obtain ⟨e,t⟩:=a
    cases e with
    | nm=>exact Ed h (by omega) ha
    | _=>exact ha
theorem Cj {c d : Bp} (h : LeC c d) {n m : Nat} (hn : n <= m) : ∀ {k : C} {s : St} {r : Ex × St},evC c n k s = some r -> evC d m k s = some r:=by
  intro k
  induction k with
  | skip=>exact fun h=>h
  | reg ops =>
    intro s r he
    simp only [evC] at he ⊢
    exact Bg (fun a=>Bs h) (fun _ _ h=>h) he
  | seq a b iha ihb =>
    intro s r he
    simp only [evC] at he ⊢
    refine Bg (fun x=>iha) (fun x r hx=>?_) he
    obtain ⟨e,t⟩:=x
    cases e with
    | nm=>exact ihb hx
    | _=>exact hx
  | ite c a b iha ihb =>
    intro s r he
    simp only [evC] at he ⊢
    refine Bg (fun _ h=>h) (fun x r hx=>?_) he
    split at hx
    · exact iha hx
    · exact ihb hx
    · cases hx
  | blk id c ih =>
    intro s r he
    simp only [evC] at he ⊢
    exact Bg (fun x=>ih) (fun _ _ h=>h) he
  | loop dr c ih =>
    intro s r he
    simp only [evC] at he ⊢
    exact Ed (fun t r=>ih) hn he
  | rng f dr ps ca cb _ _ =>
    exact fun h=>h
  | ex id=>exact fun h=>h
  | ret=>exact fun h=>h
theorem MH {c d : Bp} (h : LeC c d) {n m : Nat} (hn : n <= m) {f : F} {vs : List V} {H : Hp} {r : V × Hp} (he : evF c n f vs H = some r) : evF d m f vs H = some r:=by
  unfold evF at he ⊢
  cases hg : (vs.all AE && Nat.beq vs.length f.np) with
  | false=>rw [hg] at he; simp [gd] at he
  | true =>
    rw [hg] at he
    exact Bg (fun a=>Cj h hn) (fun _ _ h=>h) he
theorem Of {c d : Bp} (h : LeC c d) {n m : Nat} (hn : n <= m) {f : F} {vs : List V} {H : Hp} {r : V × Hp} (he : EF c n f vs H = some r) : EF d m f vs H = some r:=by
  unfold EF at he ⊢
  exact Bg (fun _ h=>h) (fun a r=>Bg (fun b=>MH h hn) (fun _ _ h=>h)) he
theorem KU {c d : Bp} (h : LeC c d) {n m : Nat} (hn : n <= m) {vs : List V} {H : Hp} {r : V × Hp} (he : HE c n vs H = some r) : HE d m vs H = some r:=he
def BS (G : Cfg) : Prop:=∀ f p,G.prim f = some p -> ∀ c d,LeC c d -> ∀ vs H r,p c vs H = some r -> p d vs H = some r
theorem Az {G : Cfg} (hG : BS G) : ∀ {n m : Nat},n <= m -> LeC (AQ G n) (AQ G m)
  | 0,_,_,f,vs,H,r,h=>by simp [AQ] at h
  | n + 1,0,hn,_,_,_,_,_=>by omega
  | n + 1,m + 1,hn,f,vs,H,r,h=>by
    have ih:=Az hG (n:=n) (m:=m) (by omega)
    unfold AQ at h ⊢
    split at h
    · rename_i p hp
      exact hG f p hp _ _ ih vs H r h
    · split at h
      · split at h
        · exact MH ih (by omega) h
        · exact Of ih (by omega) h
      · simp only [Ah] at h ⊢
        exact ⟨h.1,KU ih (by omega) h.2⟩
/- Running, whatever the fuel. -/
def CC {α : Type} (x : Option α) (p : α -> Prop) : Prop:=∃ a,x = some a /\ p a
theorem AP {α : Type} (a : α) (p : α -> Prop) : CC (some a) p = p a:=by simp [CC]
theorem KZ {α : Type} (b : Bool) (x : Option α) (p : α -> Prop) : CC (gd b x) p = (b = true /\ CC x p):=by cases b <;> simp [CC,gd]
theorem Db {α β : Type} (x : Option α) (f : α -> Option β) (p : β -> Prop) : CC (x.bind f) p = CC x fun a=>CC (f a) p:=by
  apply propext
  simp only [CC,AaF]
  constructor
  · rintro ⟨b,⟨a,h1,h2⟩,h3⟩
    exact ⟨a,h1,b,h2,h3⟩
  · rintro ⟨a,h1,b,h2,h3⟩
    exact ⟨b,⟨a,h1,h2⟩,h3⟩
def Runs (G : Cfg) (c : C) (s : St) (Q : Ex -> St -> Prop) : Prop:=∃ n e s',evC (AQ G n) n c s = some (e,s') /\ Q e s'
def FY (G : Cfg) (ops : List Op) (s : St) (Q : St -> Prop) : Prop:=∃ n s',Bc (AQ G n) ops s = some s' /\ Q s'
def Gf (G : Cfg) (o : Op) (s : St) (Q : St -> Prop) : Prop:=∃ n s',DD (AQ G n) s o = some s' /\ Q s'
def Ret (G : Cfg) (f : Nat) (vs : List V) (H : Hp) (Q : V -> Hp -> Prop) : Prop:=∃ n v H',AQ G n f vs H = some (v,H') /\ Q v H'
def Gives (G : Cfg) (f : Nat) (vs : List V) (H : Hp) (v : V) (H' : Hp) : Prop:=∃ n,AQ G n f vs H = some (v,H')
def thn (A : St -> Prop) (Q : Ex -> St -> Prop) : Ex -> St -> Prop
  | .nm,s=>A s
  | e,s=>Q e s
def inB (id : Nat) (Q : Ex -> St -> Prop) : Ex -> St -> Prop
  | .ex j,s=>(j = id -> Q .nm s) /\ (j ≠ id -> Q (.ex j) s)
  | e,s=>Q e s
theorem YO (id : Nat) (Q : Ex -> St -> Prop) (s : St) (j : Nat) : inB id Q (.ex j) s = if j = id then Q .nm s else Q (.ex j) s:=by
  apply propext
  by_cases h : j = id <;> simp [inB,h]
section
variable {G : Cfg}
theorem Runs.mono {c : C} {s : St} {Q Q' : Ex -> St -> Prop} (h : Runs G c s Q) (hq : ∀ e s,Q e s -> Q' e s) : Runs G c s Q':=by
  obtain ⟨n,e,s',h1,h2⟩:=h
  exact ⟨n,e,s',h1,hq e s' h2⟩
theorem Pq (s : St) (Q : Ex -> St -> Prop) : Runs G .skip s Q = Q .nm s:=by
  apply propext
  simp only [Runs,evC,AaG,AaH]
  constructor
  · rintro ⟨_,_,_,⟨rfl,rfl⟩,h⟩
    exact h
  · exact fun h=>⟨0,_,_,⟨rfl,rfl⟩,h⟩
theorem VG (id : Nat) (s : St) (Q : Ex -> St -> Prop) : Runs G (.ex id) s Q = Q (.ex id) s:=by
  apply propext
  simp only [Runs,evC,AaG,AaH]
  constructor
  · rintro ⟨_,_,_,⟨rfl,rfl⟩,h⟩
    exact h
  · exact fun h=>⟨0,_,_,⟨rfl,rfl⟩,h⟩
theorem Sq (s : St) (Q : Ex -> St -> Prop) : Runs G .ret s Q = Q .ret s:=by
  apply propext
  simp only [Runs,evC,AaG,AaH]
  constructor
  · rintro ⟨_,_,_,⟨rfl,rfl⟩,h⟩
    exact h
  · exact fun h=>⟨0,_,_,⟨rfl,rfl⟩,h⟩
theorem Sr (ops : List Op) (s : St) (Q : Ex -> St -> Prop) : Runs G (.reg ops) s Q = FY G ops s fun s'=>Q .nm { s' with L:=[] }:=by
  apply propext
  simp only [Runs,FY,evC,AaF,AaG,AaH]
  constructor
  · rintro ⟨n,_,_,⟨s',h,rfl,rfl⟩,hq⟩
    exact ⟨n,s',h,hq⟩
  · rintro ⟨n,s',h,hq⟩
    exact ⟨n,_,_,⟨s',h,rfl,rfl⟩,hq⟩
theorem Sp (hG : BS G) (a b : C) (s : St) (Q : Ex -> St -> Prop) : Runs G (.seq a b) s Q = Runs G a s (thn (fun s'=>Runs G b s' Q) Q):=by
  apply propext
  constructor
  · rintro ⟨n,e,s',h,hq⟩
    simp only [evC,AaF] at h
    obtain ⟨⟨e1,s1⟩,h1,h2⟩:=h
    refine ⟨n,e1,s1,h1,?_⟩
    cases e1 with
    | nm=>exact ⟨n,e,s',h2,hq⟩
    | _ =>
      simp only [AaG,AaH] at h2
      obtain ⟨rfl,rfl⟩:=h2
      exact hq
  · rintro ⟨n,e1,s1,h1,h2⟩
    cases e1 with
    | nm =>
      obtain ⟨m,e,s',h3,hq⟩:=h2
      refine ⟨max n m,e,s',?_,hq⟩
      simp only [evC,AaF]
      exact ⟨_,Cj (Az hG (AbJ n m)) (AbJ n m) h1,Cj (Az hG (AbR n m)) (AbR n m) h3⟩
    | ex j=>exact ⟨n,.ex j,s1,by simp [evC,h1],h2⟩
    | ret=>exact ⟨n,.ret,s1,by simp [evC,h1],h2⟩
def asB : V -> Option Bool
  | .m (.b t)=>some t
  | _=>none
theorem Ss (o : Opnd) (a b : C) (s : St) (Q : Ex -> St -> Prop) : Runs G (.ite o a b) s Q = CC ((evA s o).bind asB) fun t=>if t then Runs G a s Q else Runs G b s Q:=by
  apply propext
  constructor
  · rintro ⟨n,e,s',h,hq⟩
    simp only [evC,AaF] at h
    obtain ⟨v,hv,h⟩:=h
    split at h
    · exact ⟨true,by simp [hv,asB],n,e,s',h,hq⟩
    · exact ⟨false,by simp [hv,asB],n,e,s',h,hq⟩
    · cases h
  · rintro ⟨t,ht,h⟩
    simp only [AaF] at ht
    obtain ⟨v,hv,ht⟩:=ht
    have : v = .m (.b t):=by
      unfold asB at ht
      split at ht
      · rw [AaG] at ht; rw [ht]
      · cases ht
    subst this
    cases t with
    | true =>
      obtain ⟨n,e,s',h,hq⟩:=h
      exact ⟨n,e,s',by simp [evC,hv,h],hq⟩
    | false =>
      obtain ⟨n,e,s',h,hq⟩:=h
      exact ⟨n,e,s',by simp [evC,hv,h],hq⟩
theorem Su (id : Nat) (c : C) (s : St) (Q : Ex -> St -> Prop) : Runs G (.blk id c) s Q = Runs G c s (inB id Q):=by
  apply propext
  constructor
  · rintro ⟨n,e,s',h,hq⟩
    simp only [evC,AaF] at h
    obtain ⟨⟨e1,s1⟩,h1,h2⟩:=h
    refine ⟨n,e1,s1,h1,?_⟩
    cases e1 with
    | ex j =>
      simp only at h2
      split at h2
      · rename_i hb
        have:=AaY hb
        simp only [AaG,AaH] at h2
        obtain ⟨rfl,rfl⟩:=h2
        exact ⟨fun _=>hq,fun hne=>absurd this hne⟩
      · rename_i hb
        simp only [AaG,AaH] at h2
        obtain ⟨rfl,rfl⟩:=h2
        exact ⟨fun e=>(by subst e; simp at hb),fun _=>hq⟩
    | _ =>
      simp only [AaG,AaH] at h2
      obtain ⟨rfl,rfl⟩:=h2
      exact hq
  · rintro ⟨n,e1,s1,h1,h2⟩
    cases e1 with
    | ex j =>
      cases hb : Nat.beq j id with
      | true=>exact ⟨n,.nm,s1,by simp [evC,h1,hb],h2.1 (AaY hb)⟩
      | false=>exact ⟨n,.ex j,s1,by simp [evC,h1,hb],h2.2 (fun e=>by subst e; simp at hb)⟩
    | nm=>exact ⟨n,.nm,s1,by simp [evC,h1],h2⟩
    | ret=>exact ⟨n,.ret,s1,by simp [evC,h1],h2⟩
theorem Pr (hG : BS G) (dr : List Nat) (c : C) (s : St) (Q : Ex -> St -> Prop) : Runs G (.loop dr c) s Q = Runs G c { s with E:=Ar dr s.E } (thn (fun s'=>Runs G (.loop dr c) s' Q) Q):=by
  apply propext
  constructor
  · rintro ⟨n,e,s',h,hq⟩
    simp only [evC] at h
    cases n with
    | zero=>simp [EZ] at h
    | succ n =>
      simp only [EZ,AaF] at h
      obtain ⟨⟨e1,s1⟩,h1,h2⟩:=h
      refine ⟨n + 1,e1,s1,h1,?_⟩
      cases e1 with
      | nm=>exact ⟨n + 1,e,s',by simp only [evC]; exact Ed (fun _ _ h=>h) (Nat.le_succ n) h2,hq⟩
      | _ =>
        simp only [AaG,AaH] at h2
        obtain ⟨rfl,rfl⟩:=h2
        exact hq
  · rintro ⟨n,e1,s1,h1,h2⟩
    cases e1 with
    | nm =>
      obtain ⟨m,e,s',h3,hq⟩:=h2
      have hn : n <= max n m + 1:=by omega
      have hm : m <= max n m + 1:=by omega
      refine ⟨max n m + 1,e,s',?_,hq⟩
      simp only [evC,EZ,AaF]
      refine ⟨_,Cj (Az hG hn) hn h1,?_⟩
      simp only [evC] at h3
      exact Ed (fun t r=>Cj (Az hG hm) hm) (by omega) h3
    | ex j=>exact ⟨n + 1,.ex j,s1,by simp only [evC,EZ,AaF]; exact ⟨_,Cj (Az hG (Nat.le_succ n)) (Nat.le_succ n) h1,rfl⟩,h2⟩
    | ret=>exact ⟨n + 1,.ret,s1,by simp only [evC,EZ,AaF]; exact ⟨_,Cj (Az hG (Nat.le_succ n)) (Nat.le_succ n) h1,rfl⟩,h2⟩
theorem VS (s : St) (Q : St -> Prop) : FY G [] s Q = Q s:=by
  apply propext
  simp only [FY,Bc,AaG]
  constructor
  · rintro ⟨_,_,rfl,h⟩
    exact h
  · exact fun h=>⟨0,_,rfl,h⟩
theorem Ec (hG : BS G) (o : Op) (r : List Op) (s : St) (Q : St -> Prop) : FY G (o :: r) s Q = Gf G o s fun s'=>FY G r s' Q:=by
  apply propext
  simp only [FY,Gf,Bc,AaF]
  constructor
  · rintro ⟨n,s',⟨s1,h1,h2⟩,hq⟩
    exact ⟨n,s1,h1,n,s',h2,hq⟩
  · rintro ⟨n,s1,h1,m,s',h2,hq⟩
    exact ⟨max n m,s',⟨s1,JS (Az hG (AbJ n m)) h1,Bs (Az hG (AbR n m)) h2⟩,hq⟩
theorem VV (d : Dst) (o : OP) (az : List Opnd) (s : St) (Q : St -> Prop) : Gf G ⟨d,.p o,az,none⟩ s Q = CC (Ai (evA s) az) fun vs=>CC (Ap o vs) fun v=>CC (CB s d v) Q:=by
  apply propext
  simp only [Gf,DD,Ay,AaR,AW,gd,evO,AaF,CC]
  constructor
  · rintro ⟨_,s',⟨vs,h1,⟨v,M⟩,⟨v',h2,h3⟩,h4⟩,hq⟩
    simp only [AaG,AaH] at h3
    obtain ⟨rfl,rfl⟩:=h3
    exact ⟨vs,h1,_,h2,s',h4,hq⟩
  · rintro ⟨vs,h1,v,h2,s',h4,hq⟩
    exact ⟨0,s',⟨vs,h1,(v,s.M),⟨v,h2,rfl⟩,h4⟩,hq⟩
theorem VU (d : Dst) (o : OR) (az : List Opnd) (s : St) (Q : St -> Prop) : Gf G ⟨d,.r o,az,none⟩ s Q = CC (Ai (evA s) az) fun vs=>CC (readX s.M o vs) fun v=>CC (CB s d v) Q:=by
  apply propext
  simp only [Gf,DD,Ay,AaR,AW,gd,evO,AaF,CC]
  constructor
  · rintro ⟨_,s',⟨vs,h1,⟨v,M⟩,⟨v',h2,h3⟩,h4⟩,hq⟩
    simp only [AaG,AaH] at h3
    obtain ⟨rfl,rfl⟩:=h3
    exact ⟨vs,h1,_,h2,s',h4,hq⟩
  · rintro ⟨vs,h1,v,h2,s',h4,hq⟩
    exact ⟨0,s',⟨vs,h1,(v,s.M),⟨v,h2,rfl⟩,h4⟩,hq⟩
theorem VW (d : Dst) (f : Nat) (az : List Opnd) (s : St) (Q : St -> Prop) : Gf G ⟨d,.l (.cal f),az,none⟩ s Q = CC (Ai (evA s) az) fun vs=>Ret G f vs s.M.H fun v H'=>CC (CB { s with M:={ s.M with H:=H' } } d v) Q:=by
  apply propext
  simp only [Gf,DD,Ay,AaR,AW,gd,evO,Am,AaF,CC,Ret]
  constructor
  · rintro ⟨n,s',⟨vs,h1,⟨v,M⟩,⟨⟨r,H'⟩,h2,h3⟩,h4⟩,hq⟩
    simp only [AaG,AaH] at h3
    obtain ⟨rfl,rfl⟩:=h3
    exact ⟨vs,h1,n,_,_,h2,s',h4,hq⟩
  · rintro ⟨vs,h1,n,v,H',h2,s',h4,hq⟩
    exact ⟨n,s',⟨vs,h1,_,⟨_,h2,rfl⟩,h4⟩,hq⟩
theorem SM (d : Dst) (o : O) (az : List Opnd) (g : Opnd) (want : Bool) (s : St) (Q : St -> Prop) : Gf G ⟨d,o,az,some (g,want)⟩ s Q = CC (Ay s (some (g,want))) fun q=>if q then Gf G ⟨d,o,az,none⟩ s Q else CC (CB s d .un) Q:=by
  apply propext
  constructor
  · rintro ⟨n,s',h,hq⟩
    simp only [DD,AaF] at h
    obtain ⟨b,hb,h⟩:=h
    refine ⟨b,hb,?_⟩
    cases b with
    | true=>exact ⟨n,s',by simpa [DD,Ay] using h,hq⟩
    | false=>exact ⟨s',h,hq⟩
  · rintro ⟨b,hb,h⟩
    cases b with
    | true =>
      obtain ⟨n,s',h,hq⟩:=h
      exact ⟨n,s',by simp only [DD,hb,AaR]; simpa [DD,Ay] using h,hq⟩
    | false =>
      obtain ⟨s',h,hq⟩:=h
      exact ⟨0,s',by simp only [DD,hb,AaR]; exact h,hq⟩
/- Calls. -/
theorem Yg {f : Nat} {vs : List V} {H H' : Hp} {v : V} {Q : V -> Hp -> Prop} (hG : BS G) (h : Gives G f vs H v H') : Ret G f vs H Q = Q v H':=by
  apply propext
  obtain ⟨n,hn⟩:=h
  constructor
  · rintro ⟨m,v2,H2,hm,hq⟩
    have h1:=Az hG (AbJ n m) _ _ _ _ hn
    have h2:=Az hG (AbR n m) _ _ _ _ hm
    rw [h1] at h2
    cases h2
    exact hq
  · exact fun hq=>⟨n,v,H',hn,hq⟩
theorem Gives.of_ret {f : Nat} {vs : List V} {H H' : Hp} {v : V} (h : Ret G f vs H fun v' H2=>v' = v /\ H2 = H') : Gives G f vs H v H':=by
  obtain ⟨n,v2,H2,h,rfl,rfl⟩:=h
  exact ⟨n,h⟩
def fin (rs : List Res) (Q : V -> Hp -> Prop) : Ex -> St -> Prop
  | .ex _,_=>False
  | _,s=>CC (DM s rs) fun v=>Q v s.M.H
theorem Uu {c : C} {np : Nat} {rs : List Res} {vs : List V} {H : Hp} {Q : V -> Hp -> Prop} (hv : vs.all AE = true) (hl : vs.length = np) (h : Runs G c ⟨Cw 0 vs,[],⟨[],H⟩⟩ (fin rs Q)) :
    ∃ n v H',evF (AQ G n) n ⟨np,rs,c⟩ vs H = some (v,H') /\ Q v H':=by
  obtain ⟨n,e,s',h1,h2⟩:=h
  have hb : (vs.all AE && Nat.beq vs.length np) = true:=by rw [hv,hl,Nat.beq_refl]; rfl
  have key : CC (DM s' rs) (fun v=>Q v s'.M.H) -> (∀ id,e ≠ .ex id) -> ∃ n v H',evF (AQ G n) n ⟨np,rs,c⟩ vs H = some (v,H') /\ Q v H':=by
    rintro ⟨v,hv,hq⟩ hne
    refine ⟨n,v,s'.M.H,?_,hq⟩
    simp only [evF,hb,gd,h1,AaR]
    cases e with
    | ex id=>exact absurd rfl (hne id)
    | _=>simp [hv]
  cases e with
  | ex id=>exact h2.elim
  | nm=>exact key h2 (fun _ h=>by cases h)
  | ret=>exact key h2 (fun _ h=>by cases h)
theorem NM (hG : BS G) {f np : Nat} {rs : List Res} {c : C} {vs : List V} {H : Hp} {Q : V -> Hp -> Prop} (hp : G.prim f = none) (hf : G.fn f = some ⟨np,rs,c⟩) (hs : G.sh f = true) (hv : vs.all AE = true) (hl : vs.length = np)
    (h : Runs G c ⟨Cw 0 vs,[],⟨[],H⟩⟩ (fin rs Q)) : Ret G f vs H Q:=by
  obtain ⟨n,v,H',he,hq⟩:=Uu hv hl h
  refine ⟨n + 1,v,H',?_,hq⟩
  simp [AQ,hp,hf,hs,he]
theorem Mb : ∀ {vs : List V} {is : List I},Cc vs = some is -> vs.flatMap DG = [] /\ vs.all CE = true /\ vs.all AE = true /\ vs = is.map .m /\ ∀ (n : Nat) H,Ai (view (n + 1) H) vs = some is
  | [],is,h=>by simp only [Cc,AaG] at h; subst h; exact ⟨rfl,rfl,rfl,rfl,fun _ _=>rfl⟩
  | .m x :: r,is,h=>by
    simp only [Cc,AaF,AaG] at h
    obtain ⟨l,hl,rfl⟩:=h
    obtain ⟨h1,h2,h3,h4,h5⟩:=Mb hl
    refine ⟨by simp [DG,Fy,h1],by simp [CE,CP,h2],by simp [AE,h3],by simp [h4],fun n H=>?_⟩
    simp only [Ai,h5 n H]
    rfl
  | .un :: _,is,h=>by simp [Cc] at h
  | .ls _ :: _,is,h=>by simp [Cc] at h
  | .sl .. :: _,is,h=>by simp [Cc] at h
  | .pt .. :: _,is,h=>by simp [Cc] at h
  | .fa .. :: _,is,h=>by simp [Cc] at h
  | .mp _ :: _,is,h=>by simp [Cc] at h
  | .fn .. :: _,is,h=>by simp [Cc] at h
  | .ag _ :: _,is,h=>by simp [Cc] at h
  | .tu _ :: _,is,h=>by simp [Cc] at h
theorem LY {f np : Nat} {rs : List Res} {c : C} {vs : List V} {is : List I} {H : Hp} {Q : V -> Hp -> Prop} (hp : G.prim f = none) (hf : G.fn f = some ⟨np,rs,c⟩) (hs : G.sh f = false) (hv : Cc vs = some is) (hl : vs.length = np)
    (h : Runs G c ⟨Cw 0 vs,[],⟨[],[]⟩⟩ (fin rs fun v H'=>CC (DK H' v) fun r=>Q r H)) : Ret G f vs H Q:=by
  obtain ⟨h1,h2,h3,h4,h5⟩:=Mb hv
  obtain ⟨n,v,H',he,r,hr,hq⟩:=Uu h3 hl h
  refine ⟨n + 1,r,H,?_,hq⟩
  simp only [AQ,hp,hf,hs,AaR,EF,h5 19 H]
  rw [<- h4,he]
  simp only [AaR,hr,h1,h2,gd]
end
end Go.Mx
/- Walking the machine, first order: what follows is kept as data, so that simp looks at the state alone. Nothing here speaks of a program. -/
namespace Go.Mx
inductive K where
  | fin (rs : List Res) (Q : V -> Hp -> Prop)
  | pur (rs : List Res) (H : Hp) (Q : V -> Hp -> Prop)
  | st (Q : Ex -> St -> Prop)
  | seq (b : C) (k : K)
  | blk (id : Nat) (k : K)
def K.sem (G : Cfg) : K -> Ex -> St -> Prop
  | .fin rs Q=>Mx.fin rs Q
  | .pur rs H Q=>Mx.fin rs fun v H'=>CC (DK H' v) fun r=>Q r H
  | .st Q=>Q
  | .seq b k=>thn (fun s=>Runs G b s (k.sem G)) (k.sem G)
  | .blk id k=>inB id (k.sem G)
def Run (G : Cfg) (c : C) (s : St) (k : K) : Prop:=Runs G c s (k.sem G)
def At' (G : Cfg) (e : Ex) (s : St) (k : K) : Prop:=k.sem G e s
def Cu (G : Cfg) (s : Option St) (ops : List Op) (k : K) : Prop:=CC s fun s=>FY G ops s fun s'=>k.sem G .nm { s' with L:=[] }
def UW (G : Cfg) (t : Option Bool) (a b : C) (s : St) (k : K) : Prop:=CC t fun t=>if t then Runs G a s (k.sem G) else Runs G b s (k.sem G)
def Hz (G : Cfg) (f : Nat) (vs : Option (List V)) (s : St) (d : Dst) (r : List Op) (k : K) : Prop :=
  CC vs fun vs=>Ret G f vs s.M.H fun v H'=>Cu G (CB { s with M:={ s.M with H:=H' } } d v) r k
def KK (s : St) (o : OP) (az : List Opnd) (d : Dst) : Option St:=(Ai (evA s) az).bind fun vs=>(Ap o vs).bind fun v=>CB s d v
def KJ (s : St) (o : OR) (az : List Opnd) (d : Dst) : Option St:=(Ai (evA s) az).bind fun vs=>(readX s.M o vs).bind fun v=>CB s d v
def stepL (s : St) (o : OL) (az : List Opnd) (d : Dst) : Option St:=gd (AW s (.l o)) ((Ai (evA s) az).bind fun vs=>(Am (fun _ _ _=>none) s.M o vs).bind fun p=>CB { s with M:=p.2 } d p.1)
def Cd (q : Option Bool) (a b : Option St) : Option St:=q.bind fun q=>match q with
  | true=>a
  | false=>b
section
variable {G : Cfg}
theorem Qz (s : St) (b : C) (k : K) : At' G .nm s (.seq b k) = Run G b s k:=rfl
theorem QA (s : St) (b : C) (k : K) (j : Nat) : At' G (.ex j) s (.seq b k) = At' G (.ex j) s k:=rfl
theorem Oi (s : St) (b : C) (k : K) : At' G .ret s (.seq b k) = At' G .ret s k:=rfl
theorem QD (s : St) (id : Nat) (k : K) : At' G .nm s (.blk id k) = At' G .nm s k:=rfl
theorem Om (s : St) (id : Nat) (k : K) : At' G .ret s (.blk id k) = At' G .ret s k:=rfl
theorem QE (s : St) (id : Nat) (k : K) (j : Nat) : At' G (.ex j) s (.blk id k) = if j = id then At' G .nm s k else At' G (.ex j) s k:=YO id _ s j
theorem at_st (e : Ex) (s : St) (Q : Ex -> St -> Prop) : At' G e s (.st Q) = Q e s:=rfl
theorem QC (s : St) (rs : List Res) (Q : V -> Hp -> Prop) : At' G .nm s (.fin rs Q) = CC (DM s rs) fun v=>Q v s.M.H:=rfl
theorem Ol (s : St) (rs : List Res) (Q : V -> Hp -> Prop) : At' G .ret s (.fin rs Q) = CC (DM s rs) fun v=>Q v s.M.H:=rfl
theorem QB (s : St) (rs : List Res) (H : Hp) (Q : V -> Hp -> Prop) : At' G .nm s (.pur rs H Q) = CC ((DM s rs).bind (DK s.M.H)) fun r=>Q r H:=by
  rw [Db]; rfl
theorem Oj (s : St) (rs : List Res) (H : Hp) (Q : V -> Hp -> Prop) : At' G .ret s (.pur rs H Q) = CC ((DM s rs).bind (DK s.M.H)) fun r=>Q r H:=by
  rw [Db]; rfl
theorem Ps (s : St) (k : K) : Run G .skip s k = At' G .nm s k:=Pq s _
theorem VH (id : Nat) (s : St) (k : K) : Run G (.ex id) s k = At' G (.ex id) s k:=VG id s _
theorem Sw (s : St) (k : K) : Run G .ret s k = At' G .ret s k:=Sq s _
theorem Sv (hG : BS G) (a b : C) (s : St) (k : K) : Run G (.seq a b) s k = Run G a s (.seq b k):=Sp hG a b s _
theorem LV (id : Nat) (c : C) (s : St) (k : K) : Run G (.blk id c) s k = Run G c s (.blk id k):=Su id c s _
theorem LU (ops : List Op) (s : St) (k : K) : Run G (.reg ops) s k = Cu G (some s) ops k:=by
  unfold Run Cu
  rw [AP]
  exact Sr ops s _
theorem Sy (o : Opnd) (a b : C) (s : St) (k : K) : Run G (.ite o a b) s k = UW G ((evA s o).bind asB) a b s k:=Ss o a b s _
theorem Pt (hG : BS G) (dr : List Nat) (c : C) (s : St) (k : K) : Run G (.loop dr c) s k = Run G c { s with E:=Ar dr s.E } (.seq (.loop dr c) k):=Pr hG dr c s _
theorem Pe (a b : C) (s : St) (k : K) : UW G (some true) a b s k = Run G a s k:=by simp [UW,AP,Run]
theorem NH (a b : C) (s : St) (k : K) : UW G (some false) a b s k = Run G b s k:=by simp [UW,AP,Run]
theorem LZ (s : St) (k : K) : Cu G (some s) [] k = At' G .nm { s with L:=[] } k:=by
  simp only [Cu,AP,VS]
  rfl
theorem Jq (ops : List Op) (k : K) : Cu G none ops k = False:=by simp [Cu,CC]
theorem VK (b : Bool) (s : Option St) (ops : List Op) (k : K) : Cu G (gd b s) ops k = (b = true /\ Cu G s ops k):=KZ b s _
theorem Px (hG : BS G) (d : Dst) (o : OP) (az : List Opnd) (s : St) (r : List Op) (k : K) : Cu G (some s) (⟨d,.p o,az,none⟩ :: r) k = Cu G (KK s o az d) r k:=by
  simp only [Cu,AP,Ec hG,VV,KK,Db]
theorem Pw (hG : BS G) (d : Dst) (o : OR) (az : List Opnd) (s : St) (r : List Op) (k : K) : Cu G (some s) (⟨d,.r o,az,none⟩ :: r) k = Cu G (KJ s o az d) r k:=by
  simp only [Cu,AP,Ec hG,VU,KJ,Db]
theorem Jt (hG : BS G) (d : Dst) (f : Nat) (az : List Opnd) (s : St) (r : List Op) (k : K) : Cu G (some s) (⟨d,.l (.cal f),az,none⟩ :: r) k = Hz G f (Ai (evA s) az) s d r k:=by
  simp only [Cu,AP,Ec hG,VW,Hz]
theorem CZ (hG : BS G) (d : Dst) (o : O) (az : List Opnd) (g : Opnd) (want : Bool) (s : St) (r : List Op) (k : K) :
    Cu G (some s) (⟨d,o,az,some (g,want)⟩ :: r) k = CC (Ay s (some (g,want))) fun q=>if q then Cu G (some s) (⟨d,o,az,none⟩ :: r) k else Cu G (CB s d .un) r k:=by
  simp only [Cu,AP,Ec hG,SM]
theorem Js (hG : BS G) (d : Dst) (o : OP) (az : List Opnd) (g : Opnd) (want : Bool) (s : St) (r : List Op) (k : K) :
    Cu G (some s) (⟨d,.p o,az,some (g,want)⟩ :: r) k = Cu G (Cd (Ay s (some (g,want))) (KK s o az d) (CB s d .un)) r k:=by
  rw [CZ hG]
  cases hq : Ay s (some (g,want)) with
  | none=>simp [CC,Cd,Cu]
  | some q=>cases q <;> simp [AP,Cd,Px hG]
theorem Jr (hG : BS G) (d : Dst) (o : OR) (az : List Opnd) (g : Opnd) (want : Bool) (s : St) (r : List Op) (k : K) :
    Cu G (some s) (⟨d,.r o,az,some (g,want)⟩ :: r) k = Cu G (Cd (Ay s (some (g,want))) (KJ s o az d) (CB s d .un)) r k:=by
  rw [CZ hG]
  cases hq : Ay s (some (g,want)) with
  | none=>simp [CC,Cd,Cu]
  | some q=>cases q <;> simp [AP,Cd,Pw hG]
def KE (G : Cfg) (q : Option Bool) (f : Nat) (az : List Opnd) (s : St) (d : Dst) (r : List Op) (k : K) : Prop:=CC q fun q=>if q then Hz G f (Ai (evA s) az) s d r k else Cu G (CB s d .un) r k
theorem GE (hG : BS G) (d : Dst) (f : Nat) (az : List Opnd) (g : Opnd) (want : Bool) (s : St) (r : List Op) (k : K) :
    Cu G (some s) (⟨d,.l (.cal f),az,some (g,want)⟩ :: r) k = KE G (Ay s (some (g,want))) f az s d r k:=by
  rw [CZ hG]
  simp only [KE,Jt hG]
theorem NW (f : Nat) (az : List Opnd) (s : St) (d : Dst) (r : List Op) (k : K) : KE G (some true) f az s d r k = Hz G f (Ai (evA s) az) s d r k:=by simp [KE,AP]
theorem Lg (f : Nat) (az : List Opnd) (s : St) (d : Dst) (r : List Op) (k : K) : KE G (some false) f az s d r k = Cu G (CB s d .un) r k:=by simp [KE,AP]
theorem GM (hG : BS G) (d : Dst) (o : OL) (az : List Opnd) (s : St) (r : List Op) (k : K) (hc : ∀ call vs,Am call s.M o vs = Am (fun _ _ _=>none) s.M o vs) : Cu G (some s) (⟨d,.l o,az,none⟩ :: r) k = Cu G (stepL s o az d) r k:=by
  simp only [Cu,AP,Ec hG,stepL,KZ,Db]
  apply propext
  simp only [Gf,DD,Ay,AaR,evO,hc,CC]
  constructor
  · rintro ⟨n,s',h,hq⟩
    rw [gd_eq] at h
    obtain ⟨hf,h⟩:=h
    simp only [AaF] at h
    obtain ⟨vs,h1,p,h2,h3⟩:=h
    exact ⟨hf,vs,h1,p,h2,s',h3,hq⟩
  · rintro ⟨hf,vs,h1,p,h2,s',h3,hq⟩
    refine ⟨0,s',?_,hq⟩
    rw [gd_eq]
    simp only [AaF]
    exact ⟨hf,vs,h1,p,h2,h3⟩
where gd_eq {α : Type} {b : Bool} {x : Option α} {y : α} : (gd b x = some y) = (b = true /\ x = some y):=by cases b <;> simp [gd]
theorem It {M : Mem} {o : OL} (h1 : ∀ f,o ≠ .cal f) (h2 : o ≠ .cav) (c d : Bp) (vs : List V) : Am c M o vs = Am d M o vs:=by
  cases o with
  | cal f=>exact absurd rfl (h1 f)
  | cav=>exact absurd rfl h2
  | _ =>
    match vs with
    | []=>rfl
    | [_]=>rfl
    | [_,_]=>rfl
    | [_,_,_]=>rfl
    | _ :: _ :: _ :: _ :: _=>rfl
theorem Dv {f np : Nat} {rs : List Res} {c : C} {vs : List V} {is : List I} {H : Hp} {Q : V -> Hp -> Prop} (hp : G.prim f = none) (hf : G.fn f = some ⟨np,rs,c⟩) (hs : G.sh f = false) (hv : Cc vs = some is) (hl : vs.length = np)
    (h : Run G c ⟨Cw 0 vs,[],⟨[],[]⟩⟩ (.pur rs H Q)) : Ret G f vs H Q:=LY hp hf hs hv hl h
theorem Ak {f np : Nat} {rs : List Res} {c : C} {vs : List V} {is : List I} {H : Hp} {v : V} (hp : G.prim f = none) (hf : G.fn f = some ⟨np,rs,c⟩) (hs : G.sh f = false) (hv : Cc vs = some is) (hl : vs.length = np)
    (h : Run G c ⟨Cw 0 vs,[],⟨[],[]⟩⟩ (.pur rs H fun v' _=>v' = v)) : Gives G f vs H v H:=by
  refine .of_ret (LY hp hf hs hv hl (h.mono fun e s hq=>?_))
  cases e with
  | ex j=>exact hq
  | nm =>
    obtain ⟨x,h1,r,h2,h3⟩:=hq
    exact ⟨x,h1,r,h2,h3,rfl⟩
  | ret =>
    obtain ⟨x,h1,r,h2,h3⟩:=hq
    exact ⟨x,h1,r,h2,h3,rfl⟩
theorem Cs (hG : BS G) {f np : Nat} {rs : List Res} {c : C} {vs : List V} {H : Hp} {Q : V -> Hp -> Prop} (hp : G.prim f = none) (hf : G.fn f = some ⟨np,rs,c⟩) (hs : G.sh f = true) (hv : vs.all AE = true) (hl : vs.length = np)
    (h : Run G c ⟨Cw 0 vs,[],⟨[],H⟩⟩ (.fin rs Q)) : Ret G f vs H Q:=NM hG hp hf hs hv hl h
end
end Go.Mx
/- Walking the machine: rules for simp. Nothing here speaks of a program. -/
namespace Go.Mx
attribute [simp] AP KZ Db Qz QA Oi QD Om QE at_st QC Ol QB Oj Ps VH Sw LV LU Sy Pe NH LZ Jq VK NW Lg
@[simp] theorem pickS_t (a b : Option St) : Cd (some true) a b = a:=rfl
@[simp] theorem pickS_f (a b : Option St) : Cd (some false) a b = b:=rfl
@[simp] theorem stepP_eq (s : St) (o : OP) (az : List Opnd) (d : Dst) : KK s o az d = (Ai (evA s) az).bind fun vs=>(Ap o vs).bind fun v=>CB s d v:=rfl
@[simp] theorem stepR_eq (s : St) (o : OR) (az : List Opnd) (d : Dst) : KJ s o az d = (Ai (evA s) az).bind fun vs=>(readX s.M o vs).bind fun v=>CB s d v:=rfl
@[simp] theorem Yu {α : Type} (p : α -> Prop) : CC none p = False:=by simp [CC]
@[simp] theorem XE {α β : Type} (f : α -> Option β) : Ai f [] = some []:=rfl
@[simp] theorem VR {α β : Type} (f : α -> Option β) (a : α) (r : List α) : Ai f (a :: r) = (f a).bind fun x=>(Ai f r).bind fun l=>some (x :: l):=rfl
@[simp] theorem getE_nil (n : Nat) : BA [] n = none:=rfl
@[simp] theorem Cn (k : Nat) (x : V) (r : Env) (n : Nat) : BA ((k,x) :: r) n = if k = n then some x else BA r n:=by
  simp only [BA]
  by_cases h : k = n
  · subst h; simp
  · rw [AaL h]
    have : Nat.beq k n = false:=by
      cases hb : Nat.beq k n with
      | false=>rfl
      | true=>exact absurd (AaY hb) h
    rw [this]
@[simp] theorem setE_nil (n : Nat) (x : V) : BT [] n x = [(n,x)]:=rfl
@[simp] theorem GA (k : Nat) (y : V) (r : Env) (n : Nat) (x : V) : BT ((k,y) :: r) n x = if n < k then (n,x) :: (k,y) :: r else if k = n then (n,x) :: r else (k,y) :: BT r n x:=by
  simp only [BT]
  by_cases h : n < k
  · rw [AaN h]
    have : Nat.blt n k = true:=by rw [AbU]; exact h
    rw [this]
  · rw [AaL h]
    have : Nat.blt n k = false:=by
      cases hb : Nat.blt n k with
      | false=>rfl
      | true=>rw [AbU] at hb; exact absurd hb h
    rw [this]
    by_cases e : k = n
    · subst e; simp
    · rw [AaL e]
      have : Nat.beq k n = false:=by
        cases hb : Nat.beq k n with
        | false=>rfl
        | true=>exact absurd (AaY hb) e
      rw [this]
@[simp] theorem rmE_nil (n : Nat) : rmE [] n = []:=rfl
@[simp] theorem rmE_cons (k : Nat) (x : V) (r : Env) (n : Nat) : rmE ((k,x) :: r) n = if k = n then rmE r n else (k,x) :: rmE r n:=by
  simp only [rmE]
  by_cases h : k = n
  · subst h; simp
  · rw [AaL h]
    have : Nat.beq k n = false:=by
      cases hb : Nat.beq k n with
      | false=>rfl
      | true=>exact absurd (AaY hb) h
    rw [this]
@[simp] theorem Zf (e : Env) : Ar [] e = e:=rfl
@[simp] theorem XK (n : Nat) (r : List Nat) (e : Env) : Ar (n :: r) e = Ar r (rmE e n):=rfl
@[simp] theorem evA_v (s : St) (n : Nat) : evA s (.v n) = BA s.E n:=rfl
@[simp] theorem evA_l (s : St) (n : Nat) : evA s (.l n) = BA s.L n:=rfl
@[simp] theorem evA_k (s : St) (x : V) : evA s (.k x) = some x:=rfl
@[simp] theorem setD_no (s : St) (x : V) : CB s .no x = some s:=rfl
@[simp] theorem setD_l (s : St) (n : Nat) (x : V) : CB s (.l n) x = some { s with L:=BT s.L n x }:=rfl
@[simp] theorem setD_vm (s : St) (n : Nat) (x : I) : CB s (.v n) (.m x) = some { s with E:=BT s.E n (.m x) }:=rfl
@[simp] theorem setD_vun (s : St) (n : Nat) : CB s (.v n) .un = some { s with E:=BT s.E n .un }:=rfl
@[simp] theorem setD_vls (s : St) (n : Nat) (x : List (List I)) : CB s (.v n) (.ls x) = some { s with E:=BT s.E n (.ls x) }:=rfl
@[simp] theorem setD_vsl (s : St) (n a b c d e : Nat) (f : Bool) : CB s (.v n) (.sl a b c d e f) = some { s with E:=BT s.E n (.sl a b c d e f) }:=rfl
@[simp] theorem setD_vpt (s : St) (n a b c d : Nat) : CB s (.v n) (.pt a b c d) = some { s with E:=BT s.E n (.pt a b c d) }:=rfl
@[simp] theorem setD_vmp (s : St) (n a : Nat) : CB s (.v n) (.mp a) = some { s with E:=BT s.E n (.mp a) }:=rfl
@[simp] theorem setD_vtu (s : St) (n : Nat) (a : List V) : CB s (.v n) (.tu a) = some { s with E:=BT s.E n (.tu a) }:=rfl
@[simp] theorem setD_vag (s : St) (n : Nat) (a : List V) : CB s (.v n) (.ag a) = some { s with E:=BT s.E n (.ag a) }:=rfl
@[simp] theorem setD_vfn (s : St) (n f : Nat) (a : List V) : CB s (.v n) (.fn f a) = some { s with E:=BT s.E n (.fn f a) }:=rfl
@[simp] theorem setD_vfa (s : St) (n : Nat) : CB s (.v n) (.fa n 0) = some { s with E:=BT s.E n (.fa n 0) }:=by simp [CB,EW,gd]
@[simp] theorem UY (s : St) : Ay s none = some true:=rfl
@[simp] theorem Gv (s : St) (a : Opnd) (w : Bool) : Ay s (some (a,w)) = (evA s a).bind fun v=>match v with
    | .m (.b x)=>some (x == w)
    | .un=>some false
    | _=>none:=rfl
@[simp] theorem asB_b (x : Bool) : asB (.m (.b x)) = some x:=rfl
@[simp] theorem Ze (k : Nat) : Cw k [] = []:=rfl
@[simp] theorem XJ (k : Nat) (x : V) (r : List V) : Cw k (x :: r) = (k,x) :: Cw (k + 1) r:=rfl
@[simp] theorem resOf_eq (s : St) (rs : List Res) : DM s rs = (Ai (NQ s) rs).bind fun vs=>some (tup vs):=rfl
@[simp] theorem resV_t (s : St) (n : Nat) : NQ s (.t n) = (BA s.E n).bind fun v=>gd (AE v) (some v):=rfl
@[simp] theorem resV_c (s : St) (n sz : Nat) (ag : Bool) : NQ s (.c n sz ag) = (BA s.E n).bind fun a=>(readA s.M sz a).bind fun cs=>CD ag cs:=rfl
@[simp] theorem noFaV_m (x : I) : AE (.m x) = true:=rfl
@[simp] theorem noFaV_ls (x : List (List I)) : AE (.ls x) = true:=rfl
@[simp] theorem noFaV_sl (a b c d e : Nat) (f : Bool) : AE (.sl a b c d e f) = true:=rfl
@[simp] theorem noFaV_mp (a : Nat) : AE (.mp a) = true:=rfl
@[simp] theorem noFaV_pt (a b c d : Nat) : AE (.pt a b c d) = true:=rfl
@[simp] theorem noFaV_ag (a : List V) : AE (.ag a) = true:=rfl
@[simp] theorem noFaV_tu (a : List V) : AE (.tu a) = true:=rfl
@[simp] theorem noFaV_fn (f : Nat) (a : List V) : AE (.fn f a) = true:=rfl
@[simp] theorem tup_1 (v : V) : tup [v] = v:=rfl
@[simp] theorem tup_0 : tup [] = .tu []:=rfl
@[simp] theorem tup_2 (u v : V) (r : List V) : tup (u :: v :: r) = .tu (u :: v :: r):=rfl
@[simp] theorem viewR_m (H : Hp) (x : I) : DK H (.m x) = some (.m x):=rfl
@[simp] theorem viewR_tu (H : Hp) (vs : List V) : DK H (.tu vs) = (Ai (view 20 H) vs).bind fun l=>some (.tu (l.map .m)):=rfl
@[simp] theorem viewR_ls (H : Hp) (x : List (List I)) : DK H (.ls x) = some (.m (.sl x)):=rfl
@[simp] theorem view_m (n : Nat) (H : Hp) (x : I) : view (n + 1) H (.m x) = some x:=rfl
@[simp] theorem LF (H : Hp) (x : I) : view 20 H (.m x) = some x:=rfl
@[simp] theorem XX (H : Hp) (x : List (List I)) : view 20 H (.ls x) = some (.sl x):=rfl
@[simp] theorem allM_nil : Cc [] = some []:=rfl
@[simp] theorem Zu (x : I) (r : List V) : Cc (.m x :: r) = (Cc r).bind fun l=>some (x :: l):=rfl
/- Operations on immutable values. -/
@[simp] theorem px_mv (x : V) : Ap .mv [x] = some x:=rfl
@[simp] theorem px_pick (c : Bool) (a b : V) : Ap .pick [.m (.b c),a,b] = some (if c then a else b):=by cases c <;> rfl
@[simp] theorem px_un (o : UnOp) (x : V) : Ap (.un o) [x] = unX o x:=rfl
@[simp] theorem px_bin (o : BinOp) (x y : V) : Ap (.bin o) [x,y] = DH o x y:=rfl
@[simp] theorem px_eqb (n x y : Bool) : Ap (.eqb n) [.m (.b x),.m (.b y)] = some (.m (.b (xor n (x == y)))):=rfl
@[simp] theorem px_eqs (n : Bool) (ks : List Nat) (xs ys : List I) : Ap (.eqs n ks) [.m (.ag xs),.m (.ag ys)] = (Ew ks xs ys).bind fun r=>some (.m (.b (xor n r))):=rfl
@[simp] theorem px_eqn (n : Bool) (k : Nat) (x : V) : Ap (.eqn n k) [x] = (Fa k x).bind fun r=>some (.m (.b (xor n r))):=rfl
@[simp] theorem px_build (z : List V) (p : List (Nat × Nat)) (xs : List V) : Ap (.build z p) xs = (PZ z p xs).bind fun cs=>some (mkAg cs):=rfl
@[simp] theorem px_cv (k k' : IntKind) (n : Int) : Ap (.cv k) [.m (.i k' n)] = some (.m (.i k (wr k n))):=rfl
@[simp] theorem Yq (o : Nat) (cs : List I) : Ap (.fad o) [.m (.pt cs)] = some (.m (.pt (cs.drop o))):=rfl
@[simp] theorem Yr (o d o' : Nat) : Ap (.fad o) [.fa d o'] = some (.fa d (o' + o)):=rfl
@[simp] theorem XD (o r v i o' : Nat) : Ap (.fad o) [.pt r v i o'] = some (.pt r v i (o' + o)):=rfl
@[simp] theorem px_ext (j : Nat) (vs : List V) : Ap (.ext j) [.tu vs] = nth vs j:=rfl
@[simp] theorem px_mkf (f : Nat) (xs : List V) : Ap (.mkf f) xs = gd (xs.all AE) (some (.fn f xs)):=rfl
@[simp] theorem Yk (d o : Nat) : Ap .nck [.fa d o] = some (.fa d o):=rfl
@[simp] theorem Xy (r v i o : Nat) : Ap .nck [.pt r v i o] = some (.pt r v i o):=rfl
@[simp] theorem Yj (cs : List I) : Ap .nck [.m (.pt cs)] = some (.m (.pt cs)):=rfl
@[simp] theorem Ym : Ap (.len false) [.m (.nl 4)] = some (.m (.i .i64 0)):=rfl
@[simp] theorem Yl (es : List (List I)) : Ap (.len false) [.m (.sl es)] = some (.m (.i .i64 es.length)):=rfl
@[simp] theorem Yn (es : List (List I)) : Ap (.len false) [.ls es] = some (.m (.i .i64 es.length)):=rfl
@[simp] theorem Xz (r v e st n : Nat) (l : Bool) : Ap (.len false) [.sl r v e st n l] = some (.m (.i .i64 n)):=rfl
@[simp] theorem px_len_s (l : List Nat) : Ap (.len true) [.m (.s l)] = some (.m (.i .i64 l.length)):=rfl
@[simp] theorem IF (k : IntKind) : eqK k k = true:=by cases k <;> rfl
@[simp] theorem FJ {α : Type} (x : Option α) : gd true x = x:=rfl
@[simp] theorem Ta {α : Type} (x : Option α) : gd false x = none:=rfl
@[simp] theorem bx_add (k : IntKind) (x y : Int) : DH .add (.m (.i k x)) (.m (.i k y)) = some (.m (.i k (wr k (x + y)))):=by simp [DH,arX,vi]
@[simp] theorem bx_sub (k : IntKind) (x y : Int) : DH .sub (.m (.i k x)) (.m (.i k y)) = some (.m (.i k (wr k (x - y)))):=by simp [DH,arX,vi]
@[simp] theorem bx_mul (k : IntKind) (x y : Int) : DH .mul (.m (.i k x)) (.m (.i k y)) = some (.m (.i k (wr k (x * y)))):=by simp [DH,arX,vi]
theorem PJ (y : Int) : (!eqI y 0) = decide (y ≠ 0):=by rw [Ff]; by_cases h : y = 0 <;> simp [h]
@[simp] theorem bx_quo (k : IntKind) (x y : Int) : DH .quo (.m (.i k x)) (.m (.i k y)) = gd (decide (y ≠ 0)) (some (.m (.i k (wr k (x.tdiv y))))):=by simp only [DH,arX,vi,IF,FJ,PJ]
@[simp] theorem bx_rem (k : IntKind) (x y : Int) : DH .rem (.m (.i k x)) (.m (.i k y)) = gd (decide (y ≠ 0)) (some (.m (.i k (x.tmod y)))):=by simp only [DH,arX,vi,IF,FJ,PJ]
@[simp] theorem bx_eql (k : IntKind) (x y : Int) : DH .eql (.m (.i k x)) (.m (.i k y)) = some (.m (.b (decide (x = y)))):=by simp [DH,arX,vb,Ff]; rfl
@[simp] theorem bx_neq (k : IntKind) (x y : Int) : DH .neq (.m (.i k x)) (.m (.i k y)) = some (.m (.b (decide (x ≠ y)))):=by simp [DH,arX,vb,Ff]; rfl
@[simp] theorem bx_lss (k : IntKind) (x y : Int) : DH .lss (.m (.i k x)) (.m (.i k y)) = some (.m (.b (decide (x < y)))):=by simp [DH,arX,vb,EY]
@[simp] theorem bx_leq (k : IntKind) (x y : Int) : DH .leq (.m (.i k x)) (.m (.i k y)) = some (.m (.b (decide (x <= y)))):=by simp [DH,arX,vb,Mp]
@[simp] theorem bx_gtr (k : IntKind) (x y : Int) : DH .gtr (.m (.i k x)) (.m (.i k y)) = some (.m (.b (decide (y < x)))):=by simp [DH,arX,vb,EY]
@[simp] theorem bx_geq (k : IntKind) (x y : Int) : DH .geq (.m (.i k x)) (.m (.i k y)) = some (.m (.b (decide (y <= x)))):=by simp [DH,arX,vb,Mp]
@[simp] theorem Wo (x y : List Nat) : DH .add (.m (.s x)) (.m (.s y)) = gd (decide (x.length + y.length <= 9223372036854775807)) (some (.m (.s (x ++ y)))):=by
  simp only [DH,stX]
  congr 1
  rw [Abu]; simp
@[simp] theorem ux_neg (k : IntKind) (x : Int) : unX .neg (.m (.i k x)) = some (.m (.i k (wr k (0 - x)))):=rfl
@[simp] theorem ux_not (x : Bool) : unX .not (.m (.b x)) = some (.m (.b (!x))):=rfl
@[simp] theorem nth_zero {α : Type} (x : α) (r : List α) : nth (x :: r) 0 = some x:=rfl
@[simp] theorem SN {α : Type} (x : α) (r : List α) (n : Nat) : nth (x :: r) (n + 1) = nth r n:=rfl
@[simp] theorem aggC_m (cs : List I) : Wt (.m (.ag cs)) = some (cs.map .m):=rfl
@[simp] theorem aggC_a (cs : List V) : Wt (.ag cs) = some cs:=rfl
@[simp] theorem valOf_f (x : V) : CD false [x] = some x:=rfl
@[simp] theorem AL (cs : List V) : CD true cs = some (mkAg cs):=rfl
/- Numbers in their kinds. -/
theorem Aa {x : Int} (h1 : -9223372036854775808 <= x) (h2 : x <= 9223372036854775807) : wr .i64 x = x:=by
  have : okK .i64 x = true:=(Iv _ _ _).2 ⟨by simpa using h1,by simpa using h2⟩
  unfold wr; rw [this]
theorem HB {x : Int} (h1 : 0 <= x) (h2 : x <= 18446744073709551615) : wr .u64 x = x:=by
  have : okK .u64 x = true:=(Iv _ _ _).2 ⟨by simpa using h1,by simpa using h2⟩
  unfold wr; rw [this]
theorem wr_u8 {x : Int} (h1 : 0 <= x) (h2 : x <= 255) : wr .u8 x = x:=by
  have : okK .u8 x = true:=(Iv _ _ _).2 ⟨by simpa using h1,by simpa using h2⟩
  unfold wr; rw [this]
end Go.Mx
/- Walking the machine: more rules for simp (private boxes, slices that do not change, strings). Nothing here speaks of a program. -/
namespace Go.Mx
theorem Cr (a b : Nat) : Nat.ble a b = decide (a <= b):=by
  rw [Abu]; simp
theorem Qy (a b : Nat) : Nat.blt a b = decide (a < b):=by
  rw [Abu]; simp
theorem He (a b : Nat) : Nat.beq a b = decide (a = b):=by
  rw [Abu]; simp
/- Private boxes. -/
@[simp] theorem stepL_eq (s : St) (o : OL) (az : List Opnd) (d : Dst) : stepL s o az d = gd (AW s (.l o)) ((Ai (evA s) az).bind fun vs=>(Am (fun _ _ _=>none) s.M o vs).bind fun p=>CB { s with M:=p.2 } d p.1):=rfl
@[simp] theorem Zb (s : St) (d : Nat) (z : List V) : AW s (.l (.alp d z)) = BU d s.L:=rfl
@[simp] theorem YY (s : St) (d z : Nat) : AW s (.l (.bxp d z)) = BU d s.L:=rfl
@[simp] theorem Za (s : St) (a b c : Nat) (z : List V) : AW s (.l (.als a b c z)) = true:=rfl
@[simp] theorem fresh_st (s : St) (n : Nat) : AW s (.l (.st n)) = true:=rfl
@[simp] theorem isFa_m (d : Nat) (x : I) : Us d (.m x) = false:=rfl
@[simp] theorem isFa_pt (d a b c e : Nat) : Us d (.pt a b c e) = false:=rfl
@[simp] theorem YV (s : St) : AW s (.l .mkm) = true:=rfl
@[simp] theorem YU (s : St) (a b c : Nat) (z : List V) : AW s (.l (.mks a b z c)) = true:=rfl
@[simp] theorem YZ (s : St) (a b c : Nat) : AW s (.l (.app a b c)) = true:=rfl
@[simp] theorem YT (s : St) (q : KT) : AW s (.l (.mup q)) = true:=rfl
@[simp] theorem YW (s : St) (q : KT) : AW s (.l (.mdl q)) = true:=rfl
@[simp] theorem noFa_nil (d : Nat) : BU d [] = true:=rfl
@[simp] theorem noFa_fa (d k n o : Nat) (r : Env) : BU d ((n,.fa k o) :: r) = (!Nat.beq k d && BU d r):=rfl
@[simp] theorem noFa_m (d n : Nat) (x : I) (r : Env) : BU d ((n,.m x) :: r) = BU d r:=rfl
@[simp] theorem noFa_un (d n : Nat) (r : Env) : BU d ((n,.un) :: r) = BU d r:=rfl
@[simp] theorem noFa_ls (d n : Nat) (x : List (List I)) (r : Env) : BU d ((n,.ls x) :: r) = BU d r:=rfl
@[simp] theorem noFa_sl (d n a b c e f : Nat) (g : Bool) (r : Env) : BU d ((n,.sl a b c e f g) :: r) = BU d r:=rfl
@[simp] theorem noFa_pt (d n a b c e : Nat) (r : Env) : BU d ((n,.pt a b c e) :: r) = BU d r:=rfl
@[simp] theorem noFa_mp (d n a : Nat) (r : Env) : BU d ((n,.mp a) :: r) = BU d r:=rfl
@[simp] theorem noFa_ag (d n : Nat) (a : List V) (r : Env) : BU d ((n,.ag a) :: r) = BU d r:=rfl
@[simp] theorem noFa_tu (d n : Nat) (a : List V) (r : Env) : BU d ((n,.tu a) :: r) = BU d r:=rfl
@[simp] theorem noFa_fn (d n f : Nat) (a : List V) (r : Env) : BU d ((n,.fn f a) :: r) = BU d r:=rfl
@[simp] theorem loud_alp (c : Bp) (M : Mem) (d : Nat) (z : List V) : Am c M (.alp d z) [] = some (.fa d 0,{ M with B:=DB M.B d z }):=rfl
@[simp] theorem loud_bxp (c : Bp) (M : Mem) (d sz : Nat) (x : V) : Am c M (.bxp d sz) [x] = (Av x).bind fun cs=>gd (Nat.beq cs.length sz) (some (.fa d 0,{ M with B:=DB M.B d cs })):=rfl
@[simp] theorem loud_st (c : Bp) (M : Mem) (sz : Nat) (a x : V) : Am c M (.st sz) [a,x] = (Av x).bind fun cs=>gd (Nat.beq cs.length sz && cs.all CS) ((EO M cs a).bind fun M'=>some (.un,M')):=rfl
@[simp] theorem Zo (cs : List I) : Av (.m (.ag cs)) = some (cs.map .m):=rfl
@[simp] theorem Zn (cs : List V) : Av (.ag cs) = some cs:=rfl
@[simp] theorem cellsV_b (x : Bool) : Av (.m (.b x)) = some [.m (.b x)]:=rfl
@[simp] theorem cellsV_i (k : IntKind) (x : Int) : Av (.m (.i k x)) = some [.m (.i k x)]:=rfl
@[simp] theorem cellsV_s (x : List Nat) : Av (.m (.s x)) = some [.m (.s x)]:=rfl
@[simp] theorem Zk (k : Nat) : Av (.m (.nl k)) = some [.m (.nl k)]:=rfl
@[simp] theorem XN (es : List (List I)) : Av (.m (.sl es)) = some [.m (.sl es)]:=rfl
@[simp] theorem XO (es : List (List I)) : Av (.m (.mp es)) = some [.m (.mp es)]:=rfl
@[simp] theorem Zm (es : List (List I)) : Av (.ls es) = some [.ls es]:=rfl
@[simp] theorem Zj (a b c d e : Nat) (f : Bool) : Av (.sl a b c d e f) = some [.sl a b c d e f]:=rfl
@[simp] theorem Zl (a : Nat) : Av (.mp a) = some [.mp a]:=rfl
@[simp] theorem oneV_b (x : Bool) : CS (.m (.b x)) = true:=rfl
@[simp] theorem oneV_i (k : IntKind) (x : Int) : CS (.m (.i k x)) = true:=rfl
@[simp] theorem oneV_s (x : List Nat) : CS (.m (.s x)) = true:=rfl
@[simp] theorem oneV_nl (k : Nat) : CS (.m (.nl k)) = true:=rfl
@[simp] theorem oneV_msl (es : List (List I)) : CS (.m (.sl es)) = true:=rfl
@[simp] theorem oneV_ls (es : List (List I)) : CS (.ls es) = true:=rfl
@[simp] theorem oneV_sl (a b c d e : Nat) (f : Bool) : CS (.sl a b c d e f) = true:=rfl
@[simp] theorem oneV_mp (a : Nat) : CS (.mp a) = true:=rfl
@[simp] theorem getB_nil (n : Nat) : getB [] n = none:=rfl
@[simp] theorem Dg (k : Nat) (x : List V) (r : List (Nat × List V)) (n : Nat) : getB ((k,x) :: r) n = if k = n then some x else getB r n:=by
  simp only [getB,He]
  by_cases h : k = n <;> simp [h]
@[simp] theorem setB_nil (n : Nat) (x : List V) : DB [] n x = [(n,x)]:=rfl
@[simp] theorem DL (k : Nat) (y : List V) (r : List (Nat × List V)) (n : Nat) (x : List V) : DB ((k,y) :: r) n x = if k = n then (n,x) :: r else if n < k then (n,x) :: (k,y) :: r else (k,y) :: DB r n x:=by
  simp only [DB,He,Qy]
  by_cases h : k = n
  · simp [h]
  · by_cases h2 : n < k <;> simp [h,h2]
@[simp] theorem XW (M : Mem) (xs : List V) (d off : Nat) : EO M xs (.fa d off) = (getB M.B d).bind fun cs=>(FA cs off xs).bind fun cs'=>some { M with B:=DB M.B d cs' }:=rfl
@[simp] theorem SI (cs : List V) (off : Nat) (xs : List V) : FA cs off xs = gd (decide (off + xs.length <= cs.length)) (some (cs.take off ++ xs ++ cs.drop (off + xs.length))):=by rw [<- Cr]; rfl
theorem Sg (n : Nat) (l : List V) : CN n l = gd (decide ((l.take n).length = n)) (some (l.take n)):=by rw [<- He]; rfl
@[simp] theorem readA_fa (M : Mem) (sz d off : Nat) : readA M sz (.fa d off) = (getB M.B d).bind fun cs=>CN sz (cs.drop off):=rfl
@[simp] theorem readA_pt (M : Mem) (sz : Nat) (cs : List I) : readA M sz (.m (.pt cs)) = CN sz (cs.map .m):=rfl
@[simp] theorem rx_ld (M : Mem) (ag : Bool) (sz : Nat) (a : V) : readX M (.ld ag sz) [a] = (readA M sz a).bind fun cs=>CD ag cs:=rfl
@[simp] theorem AN (cs : List V) : mkAg cs = match Cc cs with
  | some l=>.m (.ag l)
  | none=>.ag cs:=rfl
@[simp] theorem setD_mk (s : St) (n : Nat) (cs : List I) : CB s (.v n) (.m (.ag cs)) = some { s with E:=BT s.E n (.m (.ag cs)) }:=rfl
@[simp] theorem fill_nil (cs : List V) : PZ cs [] [] = some cs:=rfl
@[simp] theorem Zc (cs : List V) (off sz : Nat) (ps : List (Nat × Nat)) (x : V) (xs : List V) : PZ cs ((off,sz) :: ps) (x :: xs) = (Av x).bind fun l=>gd (Nat.beq l.length sz) ((FA cs off l).bind fun cs'=>PZ cs' ps xs):=rfl
@[simp] theorem XI (esz : Nat) (es : List (List V)) : Bu esz es [] [] = some es:=rfl
@[simp] theorem Wl (esz : Nat) (es : List (List V)) (ix : Nat) (ps : List Nat) (x : V) (xs : List V) : Bu esz es (ix :: ps) (x :: xs) = (Av x).bind fun l=>gd (Nat.beq l.length esz) ((Bw es ix l).bind fun es'=>Bu esz es' ps xs):=rfl
@[simp] theorem Xv {α : Type} (y : α) (r : List α) (x : α) : Bw (y :: r) 0 x = some (x :: r):=rfl
@[simp] theorem NK {α : Type} (y : α) (r : List α) (n : Nat) (x : α) : Bw (y :: r) (n + 1) x = (Bw r n x).bind fun l=>some (y :: l):=rfl
@[simp] theorem px_bsl (esz : Nat) (z : List V) (n : Nat) (p : List Nat) (xs : List V) : Ap (.bsl esz z n p) xs = (Bu esz (List.replicate n z) p xs).bind fun es=>(Ai Cc es).bind fun l=>some (.ls l):=rfl
/- Elements. -/
@[simp] theorem YS (n : Nat) (k : IntKind) (x : Int) : idx n (.m (.i k x)) = gd (decide (0 <= x /\ x < n)) (some x.toNat):=by
  cases x with
  | ofNat j =>
    show gd (Nat.blt j n) (some j) = _
    rw [Qy]
    congr 1
    simp
  | negSucc j =>
    have : ¬ (0 <= Int.negSucc j /\ Int.negSucc j < n):=by omega
    rw [AaO this]; rfl
@[simp] theorem Zq (n : Nat) (k : IntKind) (x : Int) : bnd n (.m (.i k x)) = gd (decide (0 <= x /\ x <= n)) (some x.toNat):=by
  cases x with
  | ofNat j =>
    show gd (Nat.ble j n) (some j) = _
    rw [Cr]
    congr 1
    simp
  | negSucc j =>
    have : ¬ (0 <= Int.negSucc j /\ Int.negSucc j <= n):=by omega
    rw [AaO this]; rfl
@[simp] theorem Yo (esz : Nat) (es : List (List I)) (i : V) : Ap (.ixa esz) [.m (.sl es),i] = (idx es.length i).bind fun j=>(nth es j).bind fun e=>gd (Nat.beq e.length esz) (some (.m (.pt e))):=rfl
@[simp] theorem Yp (esz : Nat) (es : List (List I)) (i : V) : Ap (.ixa esz) [.ls es,i] = (idx es.length i).bind fun j=>(nth es j).bind fun e=>gd (Nat.beq e.length esz) (some (.m (.pt e))):=rfl
@[simp] theorem XA (esz r ver e st len : Nat) (lim : Bool) (i : V) : Ap (.ixa esz) [.sl r ver e st len lim,i] = gd (Nat.beq esz e) ((idx len i).bind fun j=>some (.pt r ver (st + j) 0)):=rfl
@[simp] theorem XC (n esz d o : Nat) (i : V) : Ap (.ixaA n esz) [.fa d o,i] = (idx n i).bind fun j=>some (.fa d (o + j * esz)):=rfl
@[simp] theorem XB (n esz : Nat) (cs : List I) (i : V) : Ap (.ixaA n esz) [.m (.pt cs),i] = (idx n i).bind fun j=>some (.m (.pt (cs.drop (j * esz)))):=rfl
@[simp] theorem px_ixv (n esz : Nat) (ag : Bool) (x i : V) : Ap (.ixv n esz ag) [x,i] = (idx n i).bind fun j=>(Wt x).bind fun cs=>(CN esz (cs.drop (j * esz))).bind fun l=>CD ag l:=rfl
@[simp] theorem px_ixs (l : List Nat) (i : V) : Ap .ixs [.m (.s l),i] = (idx l.length i).bind fun j=>(nth l j).bind fun c=>some (.m (.i .u8 (c : Int))):=rfl
theorem Bb {α : Type} : ∀ (l : List α) (j : Nat),nth l j = l[j]?
  | [],n=>by cases n <;> rfl
  | _ :: _,0=>rfl
  | _ :: r,n + 1=>by rw [SN,Bb r n]; simp
@[simp] theorem px_slc_s (lo hi mx : Bool) (l : List Nat) (vs : List V) : Ap (.slc 0 lo hi mx) (.m (.s l) :: vs) = gd (!mx) ((Ja l.length lo hi mx vs).bind fun p=>some (.m (.s ((l.drop p.1).take (p.2 - p.1))))):=rfl
@[simp] theorem bnds_ff (n : Nat) : Ja n false false false [] = some (0,n):=rfl
@[simp] theorem bnds_tf (n : Nat) (a : V) : Ja n true false false [a] = (bnd n a).bind fun l=>some (l,n):=rfl
@[simp] theorem bnds_ft (n : Nat) (b : V) : Ja n false true false [b] = (bnd n b).bind fun h=>some (0,h):=rfl
@[simp] theorem bnds_tt (n : Nat) (a b : V) : Ja n true true false [a,b] = (bnd n b).bind fun h=>(bnd h a).bind fun l=>some (l,h):=rfl
@[simp] theorem Xx (M : Mem) (n esz : Nat) (lo hi mx : Bool) (cs : List I) (vs : List V) : readX M (.slcA n esz lo hi mx) (.m (.pt cs) :: vs) = gd (Nat.beq cs.length (n * esz) && Nat.ble n 9223372036854775807) ((Ja n lo hi mx vs).bind fun p=>some (match mx || Nat.beq p.2 n with
      | true=>.ls (((BK esz n cs).drop p.1).take (p.2 - p.1))
      | false=>.m (.sl (((BK esz n cs).drop p.1).take (p.2 - p.1))))):=rfl
@[simp] theorem nat_beq (a b : Nat) : Nat.beq a b = decide (a = b):=He a b
@[simp] theorem YM : Fa 4 (.m (.nl 4)) = some true:=rfl
@[simp] theorem YL (es : List (List I)) : Fa 4 (.m (.sl es)) = some false:=rfl
@[simp] theorem YN (es : List (List I)) : Fa 4 (.ls es) = some false:=rfl
@[simp] theorem XH (a b c d e : Nat) (f : Bool) : Fa 4 (.sl a b c d e f) = some false:=rfl
/- Appending to rows. -/
@[simp] theorem loud_app (c : Bp) (M : Mem) (ty esz b : Nat) (s x : V) : Am c M (.app ty esz b) [s,x] = match x with
    | .m (.s l)=>EG M ty esz b s (l.map fun c : Nat=>[.m (.i .u8 (Int.ofNat c))])
    | x=>(elems M.H x).bind fun xs=>EG M ty esz b s xs:=rfl
@[simp] theorem elems_nl (H : Hp) : elems H (.m (.nl 4)) = some []:=rfl
@[simp] theorem elems_sl (H : Hp) (es : List (List I)) : elems H (.m (.sl es)) = some (Et es):=rfl
@[simp] theorem elems_ls (H : Hp) (es : List (List I)) : elems H (.ls es) = some (Et es):=rfl
@[simp] theorem immS_nil : Et [] = []:=rfl
@[simp] theorem YQ (e : List I) (r : List (List I)) : Et (e :: r) = e.map .m :: Et r:=rfl
@[simp] theorem Tg : Ew [] [] [] = some true:=rfl
@[simp] theorem Qe (k : Nat) (ks : List Nat) (x y : I) (xs ys : List I) : Ew (k :: ks) (x :: xs) (y :: ys) = (eqC k x y).bind fun r=>(Ew ks xs ys).bind fun rs=>some (r && rs):=rfl
@[simp] theorem eqC_i (k : IntKind) (x y : Int) : eqC 1 (.i k x) (.i k y) = some (decide (x = y)):=by
  simp only [eqC,IF,Ff]
  rfl
@[simp] theorem eqC_b (x y : Bool) : eqC 0 (.b x) (.b y) = some (x == y):=rfl
@[simp] theorem eqC_s (x y : List Nat) : eqC 2 (.s x) (.s y) = some (decide (x = y)):=by
  simp only [eqC,HV]
  rfl
/- Calls of a function's value. -/
def CavK (G : Cfg) (g : Option V) (vs : Option (List V)) (s : St) (d : Dst) (r : List Op) (k : K) : Prop:=CC g fun g=>match g with
  | .m (.fn f cap)=>Hz G f (vs.map fun l=>l ++ cap.map .m) s d r k
  | .fn f cap=>Hz G f (vs.map fun l=>l ++ cap) s d r k
  | .yl r0=>Hz G yN (vs.map fun l=>.yl r0 :: l) s d r k
  | _=>False
section
variable {G : Cfg}
theorem Yv (hG : BS G) (d : Dst) (g : Opnd) (az : List Opnd) (s : St) (r : List Op) (k : K) : Cu G (some s) (⟨d,.l .cav,g :: az,none⟩ :: r) k = CavK G (evA s g) (Ai (evA s) az) s d r k:=by
  simp only [Cu,AP,Ec hG,CavK]
  apply propext
  simp only [Gf,DD,Ay,AaR,AW,gd,evO,Ai,AaF,CC,Hz,Ret]
  constructor
  · rintro ⟨n,s',⟨vs,⟨gv,hg,as',has,hvs⟩,⟨v,M⟩,hl,hset⟩,hq⟩
    simp only [AaG] at hvs
    subst hvs
    refine ⟨gv,hg,?_⟩
    simp only [Am] at hl
    split at hl
    · rename_i f cap
      simp only [AaF,AaG,AaH] at hl
      obtain ⟨⟨r0,H'⟩,h2,rfl,rfl⟩:=hl
      exact ⟨_,by rw [has]; rfl,n,_,_,h2,s',hset,hq⟩
    · rename_i f cap
      simp only [AaF,AaG,AaH] at hl
      obtain ⟨⟨r0,H'⟩,h2,rfl,rfl⟩:=hl
      exact ⟨_,by rw [has]; rfl,n,_,_,h2,s',hset,hq⟩
    · rename_i r0
      simp only [AaF,AaG,AaH] at hl
      obtain ⟨⟨u0,H'⟩,h2,rfl,rfl⟩:=hl
      exact ⟨_,by rw [has]; rfl,n,_,_,h2,s',hset,hq⟩
    · cases hl
  · rintro ⟨gv,hg,h⟩
    split at h
    · rename_i f cap
      obtain ⟨vs,hvs,n,v,H',h2,s',hset,hq⟩:=h
      cases ha : Ai (evA s) az with
      | none=>rw [ha] at hvs; cases hvs
      | some as' =>
        rw [ha] at hvs
        cases hvs
        refine ⟨n,s',⟨_,⟨_,hg,as',rfl,rfl⟩,(v,{ s.M with H:=H' }),?_,hset⟩,hq⟩
        simp only [Am,AaF]
        exact ⟨(v,H'),h2,rfl⟩
    · rename_i f cap
      obtain ⟨vs,hvs,n,v,H',h2,s',hset,hq⟩:=h
      cases ha : Ai (evA s) az with
      | none=>rw [ha] at hvs; cases hvs
      | some as' =>
        rw [ha] at hvs
        cases hvs
        refine ⟨n,s',⟨_,⟨_,hg,as',rfl,rfl⟩,(v,{ s.M with H:=H' }),?_,hset⟩,hq⟩
        simp only [Am,AaF]
        exact ⟨(v,H'),h2,rfl⟩
    · rename_i r0
      obtain ⟨vs,hvs,n,v,H',h2,s',hset,hq⟩:=h
      cases ha : Ai (evA s) az with
      | none=>rw [ha] at hvs; cases hvs
      | some as' =>
        rw [ha] at hvs
        cases hvs
        refine ⟨n,s',⟨_,⟨_,hg,as',rfl,rfl⟩,(v,{ s.M with H:=H' }),?_,hset⟩,hq⟩
        simp only [Am,AaF]
        exact ⟨(v,H'),h2,rfl⟩
    · exact h.elim
theorem AX {f : Nat} {is : List I} {vs : List V} {H H0 : Hp} {v : V} (hp : G.prim f = none) (hs : G.sh f = false) (h : Gives G f (is.map .m) H0 v H0) (hv : Ai (view 20 H) vs = some is)
    (hr : (vs.flatMap DG = [] /\ vs.all CE = true) \/ (vs.flatMap DG ≠ [] /\ Hy v = true)) : Gives G f vs H v H:=by
  obtain ⟨n,h⟩:=h
  cases n with
  | zero=>simp [AQ] at h
  | succ n =>
    refine ⟨n + 1,?_⟩
    simp only [AQ,hp,hs] at h ⊢
    cases hfn : G.fn f with
    | none =>
      rw [hfn] at h
      simp only [Ah] at h
      obtain ⟨_,h⟩:=h
      cases is <;> simp [HE] at h
    | some fn =>
    rw [hfn] at h
    simp only at h ⊢
    have hm : ∀ (l : List I),Ai (view 20 H0) (l.map V.m) = some l:=by
      intro l
      induction l with
      | nil=>rfl
      | cons a r ih=>simp only [Abr,Ai,LF,ih]; rfl
    have hz : (is.map V.m).flatMap DG = []:=by
      induction is with
      | nil=>rfl
      | cons a r _=>simp [DG,Fy]
    unfold EF at h ⊢
    simp only [hm,hz,AaF] at h
    obtain ⟨is',he,⟨v1,H1⟩,hev,r,hr1,h2⟩:=h
    cases he
    have hrv : r = v:=by
      cases hsh : (is.map V.m).all CE with
      | false=>rw [hsh] at h2; simp at h2
      | true=>rw [hsh] at h2; simp at h2; exact h2
    subst hrv
    simp only [hv,AaR,hev,hr1]
    rcases hr with ⟨e1,e2⟩ | ⟨e1,e2⟩
    · rw [e1]
      simp [e2]
    · cases hl : vs.flatMap DG with
      | nil=>exact absurd hl e1
      | cons a b=>simp [e2]
end
/- Shifts, and the last bit. -/
@[simp] theorem Zt : Ka .i64 = 64:=rfl
@[simp] theorem Zs : Ka .u64 = 64:=rfl
@[simp] theorem bx_shr (k k' : IntKind) (x y : Int) : DH .shr (.m (.i k x)) (.m (.i k' y)) = gd (decide (0 <= y)) (some (.m (.i k (x / ((2 ^ min y.toNat (Ka k) : Nat) : Int))))):=by
  cases y with
  | ofNat n =>
    have : decide (0 <= Int.ofNat n) = true:=by simp
    rw [this,FJ,<- Int.fdiv_eq_ediv_of_nonneg _ (Int.natCast_nonneg _)]
    rfl
  | negSucc n=>rfl
@[simp] theorem bx_shl (k k' : IntKind) (x y : Int) : DH .shl (.m (.i k x)) (.m (.i k' y)) = gd (decide (0 <= y)) (some (.m (.i k (wr k (x * ((2 ^ min y.toNat (Ka k) : Nat) : Int)))))):=by
  cases y with
  | ofNat n =>
    have : decide (0 <= Int.ofNat n) = true:=by simp
    rw [this,FJ]
    rfl
  | negSucc n=>rfl
theorem Uz (k : IntKind) (x y : Int) : DH .and (.m (.i k x)) (.m (.i k y)) = some (.m (.i k (wr k (Int.ofNat (Nat.land (Fu k x) (Fu k y)))))):=by simp [DH,arX,vi]
@[simp] theorem bx_and1 (x : Int) : DH .and (.m (.i .i64 x)) (.m (.i .i64 1)) = some (.m (.i .i64 (x % 2))):=by
  have h1 : Fu .i64 1 = 1:=rfl
  have h2 : Nat.land (Fu .i64 x) 1 = Fu .i64 x % 2:=Nat.and_one_is_mod _
  have h3 : ((Fu .i64 x % 2 : Nat) : Int) = x % 2:=by
    cases x with
    | ofNat m=>simp only [Fu,KG,Int.ofNat_eq_natCast]; omega
    | negSucc m=>simp only [Fu,KG]; omega
  rw [Uz,h1,h2]
  have h4 : (Int.ofNat (Fu .i64 x % 2)) = x % 2:=h3
  rw [h4,Aa (by omega) (by omega)]
/- Rows of mutable memory. -/
@[simp] theorem YX (s : St) (a b c : Nat) : AW s (.l (.bxs a b c)) = true:=rfl
@[simp] theorem loud_bxs (c : Bp) (M : Mem) (ty esz n : Nat) (x : V) : Am c M (.bxs ty esz n) [x] = (Av x).bind fun cs=>gd (Nat.beq cs.length (n * esz) && Nat.ble 1 esz && Nat.ble 1 n && Nat.ble n 9223372036854775807) (some (.pt M.H.length n 0 0,{ M with H:=M.H ++ [.cs ty esz (BK esz n cs) 0 false] })):=rfl
@[simp] theorem loud_als (c : Bp) (M : Mem) (ty esz n : Nat) (z : List V) : Am c M (.als ty esz n z) [] = gd (Nat.beq z.length (n * esz) && Nat.ble 1 esz && Nat.ble 1 n && Nat.ble n 9223372036854775807) (some (.pt M.H.length n 0 0,{ M with H:=M.H ++ [.cs ty esz (BK esz n z) 0 false] })):=rfl
@[simp] theorem VN (n esz r ver ix o : Nat) (i : V) : Ap (.ixaA n esz) [.pt r ver ix o,i] = (idx n i).bind fun j=>some (.pt r ver ix (o + j * esz)):=rfl
@[simp] theorem VF (M : Mem) (n esz r ver : Nat) (lo hi mx : Bool) (vs : List V) : readX M (.slcA n esz lo hi mx) (.pt r ver 0 0 :: vs) = (nth M.H r).bind fun row=>match row with
      | .cs _ esz' es _ _=>gd (Nat.beq esz esz' && Nat.beq es.length n && Nat.beq ver n) ((Ja n lo hi mx vs).bind fun p=>some (.sl r ver esz p.1 (p.2 - p.1) (mx || Nat.beq p.2 n)))
      | _=>none:=rfl
@[simp] theorem Yh (M : Mem) (sz r ver ix off : Nat) : readA M sz (.pt r ver ix off) = (nth M.H r).bind fun row=>match row with
    | .cs _ esz es base _=>gd (Nat.ble base ver && (Nat.ble (off + sz) esz || Nat.beq ver es.length)) (DF esz es ix off sz)
    | _=>none:=rfl
@[simp] theorem nat_ble (a b : Nat) : Nat.ble a b = decide (a <= b):=Cr a b
@[simp] theorem chunk_0 {α : Type} (e : Nat) (l : List α) : BK e 0 l = []:=rfl
@[simp] theorem chunk_s {α : Type} (e n : Nat) (l : List α) : BK e (n + 1) l = l.take e :: BK e n (l.drop e):=rfl
@[simp] theorem Mv : ∀ (E : Env) (n : Nat) (x : V),BA (BT E n x) n = some x
  | [],n,x=>by simp
  | (k,y) :: r,n,x=>by
    rw [GA]
    by_cases h1 : n < k
    · rw [AaN h1]; simp
    · rw [AaL h1]
      by_cases h2 : k = n
      · rw [AaN h2]; simp
      · rw [AaL h2,Cn,AaL h2,Mv r n x]
@[simp] theorem SZ : ∀ (B : List (Nat × List V)) (n : Nat) (x : List V),getB (DB B n x) n = some x
  | [],n,x=>by simp
  | (k,y) :: r,n,x=>by
    rw [DL]
    by_cases h2 : k = n
    · rw [AaN h2]; simp
    · rw [AaL h2]
      by_cases h3 : n < k
      · rw [AaN h3]; simp
      · rw [AaL h3,Dg,AaL h2,SZ r n x]
@[simp] theorem Sn : ∀ (B : List (Nat × List V)) (n : Nat) (x y : List V),DB (DB B n x) n y = DB B n y
  | [],n,x,y=>by simp
  | (k,z) :: r,n,x,y=>by
    rw [DL,DL]
    by_cases h2 : k = n
    · rw [AaN h2,AaN h2]; simp
    · rw [AaL h2,AaL h2]
      by_cases h3 : n < k
      · rw [AaN h3,AaN h3]; simp
      · rw [AaL h3,AaL h3,DL,AaL h2,AaL h3,Sn r n x y]
@[simp] theorem GS : ∀ (E : Env) (m n : Nat) (x : V),m ≠ n -> BA (BT E m x) n = BA E n
  | [],m,n,x,h=>by simp [h]
  | (k,y) :: r,m,n,x,h=>by
    rw [GA]
    by_cases h1 : m < k
    · rw [AaN h1,Cn,AaL h]
    · rw [AaL h1]
      by_cases h2 : k = m
      · subst h2
        rw [AaN rfl,Cn,Cn,AaL h,AaL h]
      · rw [AaL h2,Cn,Cn,GS r m n x h]
@[simp] theorem Xt (l : List V) : CN 0 l = some []:=rfl
@[simp] theorem Xu (n : Nat) (x : V) (r : List V) : CN (n + 1) (x :: r) = (CN n r).bind fun l=>some (x :: l):=by
  unfold CN
  simp only [List.take_succ_cons,AbD,He]
  by_cases h : (r.take n).length = n
  · have : (r.take n).length + 1 = n + 1:=by omega
    simp only [h,this,decide_true,FJ,AaR]
  · have : ¬ (r.take n).length + 1 = n + 1:=by omega
    simp only [h,this,decide_false,Ta,Option.bind_none]
/- The greatest and the least. -/
@[simp] theorem px_mm (mx : Bool) (k : IntKind) (x : Int) (r : List V) : Ap (.mm mx) (.m (.i k x) :: r) = mmX mx k x r:=rfl
@[simp] theorem mmX_nil (mx : Bool) (k : IntKind) (x : Int) : mmX mx k x [] = some (.m (.i k x)):=rfl
theorem Wb (x y : Int) : YC x y = max x y:=by
  unfold YC
  rw [EY]
  by_cases h : x < y
  · simp only [h,decide_true]; omega
  · simp only [h,decide_false]; omega
theorem Wa (x y : Int) : YA x y = min x y:=by
  unfold YA
  rw [EY]
  by_cases h : y < x
  · simp only [h,decide_true]; omega
  · simp only [h,decide_false]; omega
@[simp] theorem mmX_max (k k' : IntKind) (x y : Int) (r : List V) : mmX true k x (.m (.i k' y) :: r) = mmX true k (max x y) r:=by rw [<- Wb]; rfl
@[simp] theorem mmX_min (k k' : IntKind) (x y : Int) (r : List V) : mmX false k x (.m (.i k' y) :: r) = mmX false k (min x y) r:=by rw [<- Wa]; rfl
end Go.Mx
/- Walking the machine: rules for rows of mutable memory. -/
namespace Go.Mx
/- Rows of one cell an element. -/
@[simp] theorem loud_mks (c : Bp) (M : Mem) (ty esz : Nat) (z : List V) (b : Nat) (a : V) (n : Int) : Am c M (.mks ty esz z b) [a,.m (.i .i64 n)] = (XF n).bind fun c=>(bnd c a).bind fun n=>gd (Nat.ble (c * b) 281474976710656 && Nat.ble c 9223372036854775807 && Nat.ble 1 esz && Nat.beq z.length esz)
      (some (.sl M.H.length n esz 0 n (Nat.beq n c),{ M with H:=M.H ++ [.cs ty esz (List.replicate n z) 0 false] })):=by
  cases n <;> rfl
@[simp] theorem Yz (n : Nat) : XF (n : Int) = some n:=rfl
@[simp] theorem readR_10 (es : List (List V)) (ix : Nat) : DF 1 es ix 0 1 = (nth es ix).bind fun e=>CN 1 e:=rfl
@[simp] theorem Xs (M : Mem) (xs : List V) (r ver ix off : Nat) : EO M xs (.pt r ver ix off) = (nth M.H r).bind fun row=>match row with
    | .cs ty esz es _ fz=>gd (!fz && Nat.beq ver es.length) ((EN esz es ix off xs).bind fun es'=>(Bw M.H r (.cs ty esz es' es.length false)).bind fun H'=>some { M with H:=H' })
    | _=>none:=rfl
@[simp] theorem XV (es : List (List V)) (ix : Nat) (x : V) : EN 1 es ix 0 [x] = (nth es ix).bind fun e=>(FA e 0 [x]).bind fun e'=>Bw es ix e':=rfl
theorem BX {α : Type} : ∀ (l : List α) (n : Nat) (x : α),n < l.length -> Bw l n x = some (l.set n x)
  | [],n,x,h=>by simp at h
  | _ :: r,0,x,h=>rfl
  | y :: r,n + 1,x,h=>by
    simp only [AbD] at h
    rw [NK,BX r n x (by omega)]
    rfl
@[simp] theorem Ld : ∀ (B : List (Nat × List V)) (m n : Nat) (x : List V),m ≠ n -> getB (DB B m x) n = getB B n
  | [],m,n,x,h=>by simp [h]
  | (k,y) :: r,m,n,x,h=>by
    rw [DL]
    by_cases h2 : k = m
    · subst h2
      rw [AaN rfl,Dg,Dg,AaL h,AaL h]
    · rw [AaL h2]
      by_cases h3 : m < k
      · rw [AaN h3,Dg,AaL h]
      · rw [AaL h3,Dg,Dg,Ld r m n x h]
end Go.Mx
/- Walking the machine: appending to rows of ints. -/
namespace Go.Mx
def Bf (l : List Int) : List (List V):=l.map fun x=>[.m (.i .i64 x)]
def DU (l : List Int) : List (List I):=l.map fun x=>[.i .i64 x]
theorem EU (l : List Int) : (Bf l).length = l.length:=by simp [Bf]
theorem Ck (l : List Int) : (DU l).length = l.length:=by simp [DU]
theorem NL (l : List Int) (x : Int) : Bf l ++ [[.m (.i .i64 x)]] = Bf (l ++ [x]):=by simp [Bf]
theorem Cy {l : List Int} {i : Nat} {x : Int} (h : l[i]? = some x) : nth (DU l) i = some [.i .i64 x]:=by
  rw [Bb]; simp [DU,h]
@[simp] theorem appX_nl (M : Mem) (ty esz b : Nat) (x : List V) (xs : List (List V)) : EG M ty esz b (.m (.nl 4)) (x :: xs) = BI M ty esz b (x :: xs):=rfl
@[simp] theorem Yy (M : Mem) (ty esz b : Nat) (es : List (List V)) : BI M ty esz b es = gd (Nat.ble (es.length * b) 140737488355328 && Nat.ble 1 esz && es.all fun e=>Nat.beq e.length esz && e.all CS)
    (some (.sl M.H.length es.length esz 0 es.length false,{ M with H:=M.H ++ [.cs ty esz es 0 false] })):=rfl
end Go.Mx
/- Walking the machine: induction on a measure; slices that may be nil; tests kept as ifs. Nothing here speaks of a program. -/
namespace Go.Mx
theorem Bd {α : Type} (m : α -> Nat) {P : α -> Prop} (h : ∀ a,(∀ b,m b < m a -> P b) -> P a) : ∀ a,P a:=fun a=>(measure m).wf.induction a h
def IsSl (y : I) (es : List (List I)) : Prop:=y = .sl es \/ (y = .nl 4 /\ es = [])
theorem BF (es : List (List I)) : IsSl (.sl es) es:=.inl rfl
theorem AR : IsSl (.nl 4) []:=.inr ⟨rfl,rfl⟩
theorem idx_0 (v : V) : idx 0 v = none:=by
  unfold idx
  split
  · rfl
  · rfl
theorem IsSl.len {y : I} {es : List (List I)} (h : IsSl y es) : Ap (.len false) [.m y] = some (.m (.i .i64 es.length)):=by
  rcases h with rfl | ⟨rfl,rfl⟩ <;> rfl
theorem IsSl.ixa {y : I} {es : List (List I)} (h : IsSl y es) (esz : Nat) (i : V) : Ap (.ixa esz) [.m y,i] = (idx es.length i).bind fun j=>(nth es j).bind fun e=>gd (Nat.beq e.length esz) (some (.m (.pt e))):=by
  rcases h with rfl | ⟨rfl,rfl⟩
  · rfl
  · rw [AbP,idx_0]; rfl
theorem IsSl.elems {y : I} {es : List (List I)} (h : IsSl y es) (H : Hp) : Mx.elems H (.m y) = some (Et es):=by
  rcases h with rfl | ⟨rfl,rfl⟩ <;> rfl
theorem IsSl.rules {y : I} {es : List (List I)} (h : IsSl y es) : (Ap (.len false) [.m y] = some (.m (.i .i64 es.length))) /\ (∀ (esz : Nat) (i : V),Ap (.ixa esz) [.m y,i] = (idx es.length i).bind fun j=>(nth es j).bind fun e=>gd (Nat.beq e.length esz) (some (.m (.pt e)))) /\ (∀ H,Mx.elems H (.m y) = some (Et es)):=⟨h.len,h.ixa,h.elems⟩
/- A region's own slots as a stack: what is set last lies ahead. -/
def Qo : Env -> Env
  | []=>[]
  | (n,v) :: r=>BT (Qo r) n v
theorem HP : ∀ (L : Env) (n : Nat),BA (Qo L) n = BA L n
  | [],n=>rfl
  | (k,x) :: r,n=>by
    simp only [Qo]
    by_cases h : k = n
    · subst h; rw [Mv,Cn,AaN rfl]
    · rw [GS _ _ _ _ h,Cn,AaL h,HP r n]
theorem PL (d n : Nat) (x : V) (r : Env) (h : BU d ((n,x) :: r) = true) : BU d [(n,x)] = true /\ BU d r = true:=by
  cases x <;> simp_all [BU]
theorem Io (d n : Nat) (x : V) (r : Env) (h1 : BU d [(n,x)] = true) (h2 : BU d r = true) : BU d ((n,x) :: r) = true:=by
  cases x <;> simp_all [BU]
theorem JA (d n : Nat) (x : V) (hx : BU d [(n,x)] = true) : ∀ (L : Env),BU d L = true -> BU d (BT L n x) = true
  | [],_=>hx
  | (k,y) :: r,h=>by
    obtain ⟨h1,h2⟩:=PL d k y r h
    rw [GA]
    by_cases a : n < k
    · rw [AaN a]; exact Io d n x _ hx h
    · rw [AaL a]
      by_cases b : k = n
      · rw [AaN b]; exact Io d n x _ hx h2
      · rw [AaL b]; exact Io d k y _ h1 (JA d n x hx r h2)
theorem FB (d : Nat) : ∀ (L : Env),BU d L = true -> BU d (Qo L) = true
  | [],_=>rfl
  | (k,x) :: r,h=>by
    obtain ⟨h1,h2⟩:=PL d k x r h
    exact JA d k x h1 _ (FB d r h2)
def nf1 (d : Nat) : V -> Bool
  | .fa k _=>!Nat.beq k d
  | _=>true
def nf (d : Nat) : Env -> Bool
  | []=>true
  | (_,x) :: r=>nf1 d x && nf d r
theorem Lb (d : Nat) : ∀ (L : Env),nf d L = true -> BU d L = true
  | [],_=>rfl
  | (k,x) :: r,h=>by
    simp only [nf,AaJ] at h
    refine Io d k x r ?_ (Lb d r h.2)
    have h1:=h.1
    cases x <;> simp_all [BU,nf1]
@[simp] theorem nf_nil (d : Nat) : nf d [] = true:=by simp only [nf]
@[simp] theorem nf_cons (d n : Nat) (x : V) (r : Env) : nf d ((n,x) :: r) = (nf1 d x && nf d r):=by simp only [nf]
@[simp] theorem nf1_m (d : Nat) (x : I) : nf1 d (.m x) = true:=by simp only [nf1]
@[simp] theorem nf1_fa (d k o : Nat) : nf1 d (.fa k o) = decide (k ≠ d):=by simp only [nf1]; rw [Abu]; simp
@[simp] theorem nf1_tu (d : Nat) (a : List V) : nf1 d (.tu a) = true:=by simp only [nf1]
def cs (s : St) : St:={ s with L:=Qo s.L }
theorem GW (s : St) : evA (cs s) = evA s:=by
  funext o
  cases o with
  | v n=>rfl
  | l n=>exact HP s.L n
  | k x=>rfl
theorem DJ (s : St) (g : Option (Opnd × Bool)) : Ay (cs s) g = Ay s g:=by
  cases g with
  | none=>rfl
  | some g=>rw [Gv,Gv,GW]
def DE (s : St) (d : Dst) (x : V) : Option St:=match d with
  | .no=>some s
  | .v n=>gd (EW n x) (some { s with E:=BT s.E n x })
  | .l n=>some { s with L:=(n,x) :: s.L }
theorem Du (s : St) (d : Dst) (x : V) : (DE s d x).map cs = CB (cs s) d x:=by
  cases d with
  | no=>rfl
  | v n =>
    simp only [DE,CB]
    cases EW n x <;> rfl
  | l n=>rfl
def Ax (G : Cfg) (s : Option St) (ops : List Op) (k : K) : Prop:=Cu G (s.map cs) ops k
def DZ (G : Cfg) (f : Nat) (vs : Option (List V)) (s : St) (d : Dst) (r : List Op) (k : K) : Prop :=
  CC vs fun vs=>Ret G f vs s.M.H fun v H'=>Ax G (DE { s with M:={ s.M with H:=H' } } d v) r k
def FZ (G : Cfg) (q : Option Bool) (f : Nat) (az : List Opnd) (s : St) (d : Dst) (r : List Op) (k : K) : Prop:=CC q fun q=>if q then DZ G f (Ai (evA s) az) s d r k else Ax G (DE s d .un) r k
def Ui (G : Cfg) (g : Option V) (vs : Option (List V)) (s : St) (d : Dst) (r : List Op) (k : K) : Prop:=CC g fun g=>match g with
  | .m (.fn f cap)=>DZ G f (vs.map fun l=>l ++ cap.map .m) s d r k
  | .fn f cap=>DZ G f (vs.map fun l=>l ++ cap) s d r k
  | .yl r0=>DZ G yN (vs.map fun l=>.yl r0 :: l) s d r k
  | _=>False
def LC (G : Cfg) (q : Option Bool) (g : Opnd) (az : List Opnd) (s : St) (d : Dst) (r : List Op) (k : K) : Prop:=CC q fun q=>if q then Ui G (evA s g) (Ai (evA s) az) s d r k else Ax G (DE s d .un) r k
def Gy (s : St) (o : OP) (az : List Opnd) (d : Dst) : Option St:=(Ai (evA s) az).bind fun vs=>(Ap o vs).bind fun v=>DE s d v
def Gx (s : St) (o : OR) (az : List Opnd) (d : Dst) : Option St:=(Ai (evA s) az).bind fun vs=>(readX s.M o vs).bind fun v=>DE s d v
def BW (s : St) (o : OL) (az : List Opnd) (d : Dst) : Option St:=(Ai (evA s) az).bind fun vs=>(Am (fun _ _ _=>none) s.M o vs).bind fun p=>DE { s with M:=p.2 } d p.1
theorem Dd {α β γ : Type} (x : Option α) (f : α -> Option β) (g : β -> γ) : (x.bind f).map g = x.bind fun a=>(f a).map g:=by cases x <;> rfl
theorem LL (s : St) (o : OP) (az : List Opnd) (d : Dst) : (Gy s o az d).map cs = KK (cs s) o az d:=by
  simp only [Gy,KK,Dd,Du,GW]
theorem LK (s : St) (o : OR) (az : List Opnd) (d : Dst) : (Gx s o az d).map cs = KJ (cs s) o az d:=by
  simp only [Gx,KJ,Dd,Du,GW]
  rfl
theorem LM (s : St) (o : OL) (az : List Opnd) (d : Dst) (hf : AW s (.l o) = true) : (BW s o az d).map cs = stepL (cs s) o az d:=by
  have h : AW (cs s) (.l o) = true:=by
    cases o with
    | alp d z=>exact FB d _ hf
    | bxp d z=>exact FB d _ hf
    | _=>rfl
  simp only [BW,stepL,h,FJ,Dd,GW]
  congr 1
  funext vs
  show (Am _ s.M o vs).bind _ = (Am _ s.M o vs).bind _
  congr 1
  funext p
  exact Du { s with M:=p.2 } d p.1
section
variable {G : Cfg}
theorem Sz (ops : List Op) (E : Env) (M : Mem) (k : K) : Run G (.reg ops) ⟨E,[],M⟩ k = Ax G (some ⟨E,[],M⟩) ops k:=LU ops _ k
theorem Py (s : St) (k : K) : Ax G (some s) [] k = At' G .nm { s with L:=[] } k:=LZ (cs s) k
theorem HF (ops : List Op) (k : K) : Ax G none ops k = False:=Jq ops k
theorem SG (b : Bool) (s : Option St) (ops : List Op) (k : K) : Ax G (gd b s) ops k = (b = true /\ Ax G s ops k):=by
  cases b with
  | true=>simp [gd]
  | false=>simp only [gd,HF]; simp
theorem VM (hG : BS G) (d : Dst) (o : OP) (az : List Opnd) (s : St) (r : List Op) (k : K) : Ax G (some s) (⟨d,.p o,az,none⟩ :: r) k = Ax G (Gy s o az d) r k:=by
  unfold Ax
  rw [LL]
  exact Px hG d o az (cs s) r k
theorem VL (hG : BS G) (d : Dst) (o : OR) (az : List Opnd) (s : St) (r : List Op) (k : K) : Ax G (some s) (⟨d,.r o,az,none⟩ :: r) k = Ax G (Gx s o az d) r k:=by
  unfold Ax
  rw [LK]
  exact Pw hG d o az (cs s) r k
theorem SE (hG : BS G) (d : Dst) (o : OP) (az : List Opnd) (g : Opnd) (want : Bool) (s : St) (r : List Op) (k : K) :
    Ax G (some s) (⟨d,.p o,az,some (g,want)⟩ :: r) k = Ax G (Cd (Ay s (some (g,want))) (Gy s o az d) (DE s d .un)) r k:=by
  unfold Ax
  have : ∀ q a b,(Cd q a b).map cs = Cd q (a.map cs) (b.map cs):=fun q a b=>by
    unfold Cd
    rw [Dd]
    congr 1
    funext q
    cases q <;> rfl
  rw [this,LL,Du,<- DJ]
  exact Js hG d o az g want (cs s) r k
theorem SD (hG : BS G) (d : Dst) (o : OR) (az : List Opnd) (g : Opnd) (want : Bool) (s : St) (r : List Op) (k : K) :
    Ax G (some s) (⟨d,.r o,az,some (g,want)⟩ :: r) k = Ax G (Cd (Ay s (some (g,want))) (Gx s o az d) (DE s d .un)) r k:=by
  unfold Ax
  have : ∀ q a b,(Cd q a b).map cs = Cd q (a.map cs) (b.map cs):=fun q a b=>by
    unfold Cd
    rw [Dd]
    congr 1
    funext q
    cases q <;> rfl
  rw [this,LK,Du,<- DJ]
  exact Jr hG d o az g want (cs s) r k
theorem Fj (f : Nat) (vs : Option (List V)) (s : St) (d : Dst) (r : List Op) (k : K) : Hz G f vs (cs s) d r k = DZ G f vs s d r k:=by
  unfold Hz DZ Ax
  congr 1
  funext vs
  congr 1
  funext v H'
  rw [Du]
  rfl
theorem NP (hG : BS G) (d : Dst) (f : Nat) (az : List Opnd) (s : St) (r : List Op) (k : K) : Ax G (some s) (⟨d,.l (.cal f),az,none⟩ :: r) k = DZ G f (Ai (evA s) az) s d r k:=by
  rw [<- Fj,<- GW]
  exact Jt hG d f az (cs s) r k
theorem KX (hG : BS G) (d : Dst) (f : Nat) (az : List Opnd) (g : Opnd) (want : Bool) (s : St) (r : List Op) (k : K) :
    Ax G (some s) (⟨d,.l (.cal f),az,some (g,want)⟩ :: r) k = FZ G (Ay s (some (g,want))) f az s d r k:=by
  have h:=GE hG d f az g want (cs s) r k
  have e : KE G (Ay (cs s) (some (g,want))) f az (cs s) d r k = FZ G (Ay s (some (g,want))) f az s d r k:=by
    unfold KE FZ
    rw [DJ,GW]
    congr 1
    funext q
    cases q with
    | true=>simp [Fj]
    | false=>unfold Ax; simp [Du]
  exact h.trans e
theorem KW (hG : BS G) (d : Dst) (o : OL) (az : List Opnd) (s : St) (r : List Op) (k : K) (h1 : ∀ f,o ≠ .cal f) (h2 : o ≠ .cav) (hf : AW s (.l o) = true) : Ax G (some s) (⟨d,.l o,az,none⟩ :: r) k = Ax G (BW s o az d) r k:=by
  unfold Ax
  rw [LM s o az d hf]
  exact GM hG d o az (cs s) r k fun c vs=>It h1 h2 c _ vs
theorem SF (hG : BS G) (d : Dst) (o : OL) (az : List Opnd) (g : Opnd) (want : Bool) (s : St) (r : List Op) (k : K) (h1 : ∀ f,o ≠ .cal f) (h2 : o ≠ .cav) (hf : AW s (.l o) = true) :
    Ax G (some s) (⟨d,.l o,az,some (g,want)⟩ :: r) k = Ax G (Cd (Ay s (some (g,want))) (BW s o az d) (DE s d .un)) r k:=by
  unfold Ax
  have : ∀ q a b,(Cd q a b).map cs = Cd q (a.map cs) (b.map cs):=fun q a b=>by
    unfold Cd
    rw [Dd]
    congr 1
    funext q
    cases q <;> rfl
  rw [this,LM s o az d hf,Du,<- DJ]
  have h:=CZ hG d (.l o) az g want (cs s) r k
  refine h.trans ?_
  cases hq : Ay (cs s) (some (g,want)) with
  | none=>simp [Cd]
  | some q =>
    cases q with
    | true=>simp [Cd,GM hG d o az (cs s) r k fun c vs=>It h1 h2 c _ vs]
    | false=>simp [Cd]
theorem Ju (hG : BS G) (d : Dst) (g : Opnd) (az : List Opnd) (s : St) (r : List Op) (k : K) : Ax G (some s) (⟨d,.l .cav,g :: az,none⟩ :: r) k = Ui G (evA s g) (Ai (evA s) az) s d r k:=by
  have h:=Yv hG d g az (cs s) r k
  refine h.trans ?_
  rw [GW]
  unfold CavK Ui
  congr 1
  funext gv
  cases gv with
  | m x=>cases x <;> simp [Fj]
  | fn f cap=>simp [Fj]
  | yl r0=>simp [Fj]
  | _=>rfl
theorem NO (hG : BS G) (d : Dst) (g : Opnd) (az : List Opnd) (gg : Opnd) (want : Bool) (s : St) (r : List Op) (k : K) : Ax G (some s) (⟨d,.l .cav,g :: az,some (gg,want)⟩ :: r) k = LC G (Ay s (some (gg,want))) g az s d r k:=by
  have h:=CZ hG d (.l .cav) (g :: az) gg want (cs s) r k
  refine h.trans ?_
  unfold LC
  rw [DJ]
  congr 1
  funext q
  cases q with
  | true =>
    rw [AaN rfl,AaN rfl]
    exact Ju hG d g az s r k
  | false=>unfold Ax; simp [Du]
theorem Tm (hG : BS G) {f : Nat} {vs : List V} {s : St} {d : Dst} {r : List Op} {k : K} {v : V} {H' : Hp} (h : Gives G f vs s.M.H v H') : DZ G f (some vs) s d r k = Ax G (DE { s with M:={ s.M with H:=H' } } d v) r k:=by
  unfold DZ
  rw [AP,Yg hG h]
theorem As (f : Nat) (vs : List V) (s : St) (d : Dst) (r : List Op) (k : K) : DZ G f (some vs) s d r k = Ret G f vs s.M.H fun v H'=>Ax G (DE { s with M:={ s.M with H:=H' } } d v) r k:=by simp [DZ,AP]
@[simp] theorem cavC_m (f : Nat) (cap : List I) (vs : List V) (s : St) (d : Dst) (r : List Op) (k : K) : Ui G (some (.m (.fn f cap))) (some vs) s d r k = DZ G f (some (vs ++ cap.map .m)) s d r k:=by simp [Ui]
end
attribute [simp] Py HF SG
@[simp] theorem Ya (s : St) (o : OP) (az : List Opnd) (d : Dst) : Gy s o az d = (Ai (evA s) az).bind fun vs=>(Ap o vs).bind fun v=>DE s d v:=rfl
@[simp] theorem XZ (s : St) (o : OR) (az : List Opnd) (d : Dst) : Gx s o az d = (Ai (evA s) az).bind fun vs=>(readX s.M o vs).bind fun v=>DE s d v:=rfl
@[simp] theorem Yb (s : St) (o : OL) (az : List Opnd) (d : Dst) : BW s o az d = (Ai (evA s) az).bind fun vs=>(Am (fun _ _ _=>none) s.M o vs).bind fun p=>DE { s with M:=p.2 } d p.1:=rfl
@[simp] theorem setC_no (s : St) (x : V) : DE s .no x = some s:=rfl
@[simp] theorem setC_l (s : St) (n : Nat) (x : V) : DE s (.l n) x = some { s with L:=(n,x) :: s.L }:=rfl
@[simp] theorem setC_vm (s : St) (n : Nat) (x : I) : DE s (.v n) (.m x) = some { s with E:=BT s.E n (.m x) }:=rfl
@[simp] theorem setC_vun (s : St) (n : Nat) : DE s (.v n) .un = some { s with E:=BT s.E n .un }:=rfl
@[simp] theorem setC_vls (s : St) (n : Nat) (x : List (List I)) : DE s (.v n) (.ls x) = some { s with E:=BT s.E n (.ls x) }:=rfl
@[simp] theorem setC_vsl (s : St) (n a b c d e : Nat) (f : Bool) : DE s (.v n) (.sl a b c d e f) = some { s with E:=BT s.E n (.sl a b c d e f) }:=rfl
@[simp] theorem setC_vpt (s : St) (n a b c d : Nat) : DE s (.v n) (.pt a b c d) = some { s with E:=BT s.E n (.pt a b c d) }:=rfl
@[simp] theorem setC_vmp (s : St) (n a : Nat) : DE s (.v n) (.mp a) = some { s with E:=BT s.E n (.mp a) }:=rfl
@[simp] theorem setC_vtu (s : St) (n : Nat) (a : List V) : DE s (.v n) (.tu a) = some { s with E:=BT s.E n (.tu a) }:=rfl
@[simp] theorem setC_vag (s : St) (n : Nat) (a : List V) : DE s (.v n) (.ag a) = some { s with E:=BT s.E n (.ag a) }:=rfl
@[simp] theorem setC_vfn (s : St) (n f : Nat) (a : List V) : DE s (.v n) (.fn f a) = some { s with E:=BT s.E n (.fn f a) }:=rfl
@[simp] theorem setC_vfa (s : St) (n : Nat) : DE s (.v n) (.fa n 0) = some { s with E:=BT s.E n (.fa n 0) }:=by simp [DE,EW,gd]
/- simp looks at the state alone, not at the code that is still to come. -/
def cnd (b : Bool) (p q : Prop) : Prop:=match b with
  | true=>p
  | false=>q
@[simp] theorem cnd_true (p q : Prop) : cnd true p q = p:=rfl
theorem Qj {b c : Bool} {p q : Prop} (h : b = c) : cnd b p q = cnd c p q:=by rw [h]
theorem Ux {b : Bool} {p q : Prop} (h : b = true -> q = p) : q = cnd b p q:=by
  cases b with
  | true=>exact h rfl
  | false=>rfl
theorem KY {G : Cfg} {s t : Option St} {r : List Op} {k : K} (h : s = t) : Ax G s r k = Ax G t r k:=by rw [h]
theorem NI {G : Cfg} {x y : Option Bool} {a b : C} {s : St} {k : K} (h : x = y) : UW G x a b s k = UW G y a b s k:=by rw [h]
theorem Lo {G : Cfg} {f : Nat} {x y : Option (List V)} {s : St} {d : Dst} {r : List Op} {k : K} (h : x = y) : DZ G f x s d r k = DZ G f y s d r k:=by rw [h]
theorem Od {G : Cfg} {g g' : Option V} {x y : Option (List V)} {s : St} {d : Dst} {r : List Op} {k : K} (h0 : g = g') (h : x = y) : Ui G g x s d r k = Ui G g' y s d r k:=by rw [h0,h]
theorem JK {G : Cfg} {x y : Option Bool} {f : Nat} {az : List Opnd} {s : St} {d : Dst} {r : List Op} {k : K} (h : x = y) : FZ G x f az s d r k = FZ G y f az s d r k:=by rw [h]
theorem Lf {G : Cfg} {x y : Option Bool} {g : Opnd} {az : List Opnd} {s : St} {d : Dst} {r : List Op} {k : K} (h : x = y) : LC G x g az s d r k = LC G y g az s d r k:=by rw [h]
theorem Pu {G : Cfg} {c : C} {s t : St} {k : K} (h : s = t) : Run G c s k = Run G c t k:=by rw [h]
theorem Tr {G : Cfg} {e : Ex} {s t : St} {k : K} (h : s = t) : At' G e s k = At' G e t k:=by rw [h]
theorem YR {n : Nat} {k : IntKind} {x : Int} (h1 : 0 <= x) (h2 : x < n) : idx n (.m (.i k x)) = some x.toNat:=by rw [YS]; simp [h1,h2]
theorem Zp {n : Nat} {k : IntKind} {x : Int} (h1 : 0 <= x) (h2 : x <= n) : bnd n (.m (.i k x)) = some x.toNat:=by rw [Zq]; simp [h1,h2]
theorem Og {x y : List Nat} (h : x.length + y.length <= 9223372036854775807) : DH .add (.m (.s x)) (.m (.s y)) = some (.m (.s (x ++ y))):=by rw [Wo]; simp [h]
attribute [simp high] YR Zp Og
theorem Ae (G : Cfg) (t : Bool) (a b : C) (s : St) (k : K) : UW G (some t) a b s k = ((t = true -> Run G a s k) /\ (t = false -> Run G b s k)):=by cases t <;> simp
theorem Af (G : Cfg) (c : Bool) (a b : Option St) (r : List Op) (k : K) : Ax G (Cd (some c) a b) r k = ((c = true -> Ax G a r k) /\ (c = false -> Ax G b r k)):=by cases c <;> simp
theorem Ac (G : Cfg) (c : Bool) (f : Nat) (az : List Opnd) (s : St) (d : Dst) (r : List Op) (k : K) : FZ G (some c) f az s d r k = ((c = true -> DZ G f (Ai (evA s) az) s d r k) /\ (c = false -> Ax G (DE s d .un) r k)):=by cases c <;> simp [FZ]
theorem Ag (G : Cfg) (c : Bool) (g : Opnd) (az : List Opnd) (s : St) (d : Dst) (r : List Op) (k : K) : LC G (some c) g az s d r k = ((c = true -> Ui G (evA s g) (Ai (evA s) az) s d r k) /\ (c = false -> Ax G (DE s d .un) r k)):=by cases c <;> simp [LC]
theorem Aj {α : Type} {p : List α} {i : Nat} {c : α} (h : p[i]? = some c) : i < p.length /\ p.drop i = c :: p.drop (i + 1):=by
  have h1 : i < p.length:=(AaI.1 h).1
  exact ⟨h1,by rw [List.drop_eq_getElem_cons h1,(AaI.1 h).2]⟩
theorem Au {α : Type} {p : List α} {i : Nat} {c : α} (h : p[i]? = some c) : p.take (i + 1) = p.take i ++ [c]:=by
  rw [List.take_add_one,h]; rfl
end Go.Mx
/- Walking: guards decided by arithmetic. Nothing here speaks of a program. -/
namespace Go.Mx
theorem Ad {α : Type} {p : Prop} [Decidable p] (h : p) (x : Option α) : gd (decide p) x = x:=by rw [AaP h]; rfl
theorem Ab {α : Type} (a b : Bool) (x : Option α) : gd (a && b) x = gd a (gd b x):=by cases a <;> rfl
end Go.Mx
/- Loops over functions. Nothing here speaks of a program. -/
namespace Go.Mx
section
variable {G : Cfg}
@[simp] theorem noFaV_yl (r : Nat) : AE (.yl r) = true:=rfl
@[simp] theorem Zi (r : Nat) : Av (.yl r) = some [.yl r]:=rfl
@[simp] theorem oneV_yl (r : Nat) : CS (.yl r) = true:=rfl
@[simp] theorem setD_vyl (s : St) (n r : Nat) : CB s (.v n) (.yl r) = some { s with E:=BT s.E n (.yl r) }:=rfl
@[simp] theorem Yi (r : Nat) : Ap .nck [.yl r] = some (.yl r):=rfl
@[simp] theorem noFa_yl (d n k : Nat) (r : Env) : BU d ((n,.yl k) :: r) = BU d r:=rfl
@[simp] theorem allM_yl (k : Nat) (r : List V) : Cc (.yl k :: r) = none:=rfl
@[simp] theorem cavF_fn (f : Nat) (cap : List V) : cavF (.fn f cap) = some (f,cap):=rfl
@[simp] theorem cavF_m (f : Nat) (cap : List I) : cavF (.m (.fn f cap)) = some (f,cap.map .m):=rfl
@[simp] theorem YK : NV [] = []:=rfl
@[simp] theorem XG (n : Nat) (x : V) (r : Env) : NV ((n,x) :: r) = match AE x with
    | true=>(n,x) :: NV r
    | false=>rmE (NV r) n:=rfl
@[simp] theorem Xw (e : Env) : LR e [] [] = e:=rfl
@[simp] theorem VE (e : Env) (p : Nat) (ps : List Nat) (x : V) (xs : List V) : LR e (p :: ps) (x :: xs) = LR (BT e p x) ps xs:=rfl
end
end Go.Mx
