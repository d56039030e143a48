/- Walking the machine. Nothing here speaks of a program. -/
import Derived.Test.YtlhjjcaifenlbaaGreatDoorMach
import Derived.Test.YtlhjjcaifenlbaaGreatDoorBa
set_option linter.unusedSimpArgs false
set_option linter.unusedVariables false
set_option linter.unusedSectionVars false
/- Walking the machine: what a piece of code comes to, whatever the fuel. Nothing here speaks of a program. -/
namespace Go.Mx
/- More fuel gives the same. -/
def LeC (c d : Bc) : Prop:=∀ f vs H r,c f vs H = some r -> d f vs H = some r
theorem AC {α β : Type} {x y : Option α} {f g : α -> Option β} {r : β} (hx : ∀ a,x = some a -> y = some a) (hf : ∀ a r,f a = some r -> g a = some r) (h : x.bind f = some r) : y.bind g = some r:=by
  simp only [Acu] at h ⊢
  obtain ⟨a,h1,h2⟩:=h
  exact ⟨a,hx a h1,hf a r h2⟩
theorem Uc {c d : Bc} (h : LeC c d) {M : Mem} {o : O} {vs : List V} {r : V × Mem} (he : evO c M o vs = some r) : evO d M o vs = some r:=by
  cases o with
  | p o=>exact he
  | r o=>exact he
  | l o =>
    simp only [evO] at he ⊢
    cases o with
    | cal f =>
      simp only [Am] at he ⊢
      exact AC (fun a=>h f vs M.H a) (fun _ _ h=>h) he
    | cav =>
      match vs,he with
      | .fn f cap :: xs,he=>simp only [Am] at he ⊢; exact AC (fun a=>h f _ M.H a) (fun _ _ h=>h) he
      | .m (.fn f cap) :: xs,he=>simp only [Am] at he ⊢; exact AC (fun a=>h f _ M.H a) (fun _ _ h=>h) he
      | .yl r :: xs,he=>simp only [Am] at he ⊢; exact AC (fun a=>h yN _ M.H a) (fun _ _ h=>h) he
      | .m (.b _) :: xs,he=>simp [Am] at he
      | .m (.i _ _) :: xs,he=>simp [Am] at he
      | .m (.s _) :: xs,he=>simp [Am] at he
      | .m (.nl _) :: xs,he=>simp [Am] at he
      | .m .er :: xs,he=>simp [Am] at he
      | .m (.sl _) :: xs,he=>simp [Am] at he
      | .m (.pt _) :: xs,he=>simp [Am] at he
      | .m (.ag _) :: xs,he=>simp [Am] at he
      | .m (.mp _) :: xs,he=>simp [Am] at he
      | .un :: xs,he=>simp [Am] at he
      | .ls _ :: xs,he=>simp [Am] at he
      | .sl .. :: xs,he=>simp [Am] at he
      | .pt .. :: xs,he=>simp [Am] at he
      | .fa .. :: xs,he=>simp [Am] at he
      | .mp _ :: xs,he=>simp [Am] at he
      | .ag _ :: xs,he=>simp [Am] at he
      | .tu _ :: xs,he=>simp [Am] at he
      | [],he=>simp [Am] at he
    | _ =>
      match vs,he with
      | [],he=>exact he
      | [_],he=>exact he
      | [_,_],he=>exact he
      | [_,_,_],he=>exact he
      | _ :: _ :: _ :: _ :: _,he=>exact he
theorem Kt {c d : Bc} (h : LeC c d) {s s' : St} {o : Op} (he : Dz c s o = some s') : Dz d s o = some s':=by
  simp only [Dz,Acu] at he ⊢
  obtain ⟨q,hq,he⟩:=he
  refine ⟨q,hq,?_⟩
  cases q with
  | true =>
    simp only at he ⊢
    cases hf : AT s o.op with
    | false=>rw [hf] at he; simp [gd] at he
    | true =>
      rw [hf] at he
      simp only [gd,Acu] at he ⊢
      obtain ⟨vs,hvs,p,hp,hs⟩:=he
      exact ⟨vs,hvs,p,Uc h hp,hs⟩
  | false=>exact he
theorem FG {c d : Bc} (h : LeC c d) : ∀ {ops : List Op} {s s' : St},BM c ops s = some s' -> BM d ops s = some s'
  | [],_,_,he=>he
  | o :: r,s,s',he=>by
    simp only [BM] at he ⊢
    exact AC (fun a=>Kt h) (fun a r=>FG h) he
theorem En {f g : St -> Option (Ex × St)} (h : ∀ s r,f s = some r -> g s = some r) : ∀ {n m : Nat} {s : St} {r : Ex × St},n <= m -> EB f n s = some r -> EB g m s = some r
  | 0,m,s,r,_,he=>by simp [EB] at he
  | n + 1,0,s,r,hn,_=>by omega
  | n + 1,m + 1,s,r,hn,he=>by
    simp only [EB] at he ⊢
    refine AC (fun a=>h s a) (fun a r ha=>?_) he
    obtain ⟨e,t⟩:=a
    cases e with
    | nm=>exact En h (by omega) ha
    | _=>exact ha
theorem Cz {c d : Bc} (h : LeC c d) {n m : Nat} (hn : n <= m) : ∀ {k : C} {s : St} {r : Ex × St},evC c n k s = some r -> evC d m k s = some r:=by
  intro k
  induction k with
  | skip=>exact fun h=>h
  | reg ops =>
    intro s r he
    simp only [evC] at he ⊢
    exact AC (fun a=>FG h) (fun _ _ h=>h) he
  | seq a b iha ihb =>
    intro s r he
    simp only [evC] at he ⊢
    refine AC (fun x=>iha) (fun x r hx=>?_) he
    obtain ⟨e,t⟩:=x
    cases e with
    | nm=>exact ihb hx
    | _=>exact hx
  | ite c a b iha ihb =>
    intro s r he
    simp only [evC] at he ⊢
    refine AC (fun _ h=>h) (fun x r hx=>?_) he
    split at hx
    · exact iha hx
    · exact ihb hx
    · cases hx
  | blk id c ih =>
    intro s r he
    simp only [evC] at he ⊢
    exact AC (fun x=>ih) (fun _ _ h=>h) he
  | loop dr c ih =>
    intro s r he
    simp only [evC] at he ⊢
    exact En (fun t r=>ih) hn he
  | rng f dr ps ca cb _ _ =>
    intro s r he
    simp only [evC] at he ⊢
    exact AC (fun _ h=>h) (fun _ _=>AC (fun _ h=>h) (fun gc _=>AC (fun a=>h gc.1 _ _ a) (fun _ _ h=>h))) he
  | ex id=>exact fun h=>h
  | ret=>exact fun h=>h
theorem Es {c d : Bc} (h : LeC c d) {n m : Nat} (hn : n <= m) {f : F} {vs : List V} {H : Hp} {r : V × Hp} (he : evF c n f vs H = some r) : evF d m f vs H = some r:=by
  unfold evF at he ⊢
  cases hg : (vs.all AB && Nat.beq vs.length f.np) with
  | false=>rw [hg] at he; simp [gd] at he
  | true =>
    rw [hg] at he
    exact AC (fun a=>Cz h hn) (fun _ _ h=>h) he
theorem OI {c d : Bc} (h : LeC c d) {n m : Nat} (hn : n <= m) {f : F} {vs : List V} {H : Hp} {r : V × Hp} (he : DK c n f vs H = some r) : DK d m f vs H = some r:=by
  unfold DK at he ⊢
  exact AC (fun _ h=>h) (fun a r=>AC (fun b=>Es h hn) (fun _ _ h=>h)) he
theorem EN {c d : Bc} (h : LeC c d) {n m : Nat} (hn : n <= m) {vs : List V} {H : Hp} {r : V × Hp} (he : DF c n vs H = some r) : DF d m vs H = some r:=by
  unfold DF at he ⊢
  split at he
  · refine AC (fun _ h=>h) (fun row r he=>?_) he
    split at he
    · simp only [Af] at he ⊢
      refine ⟨he.1,AC (fun a=>Cz h hn) (fun p r he=>?_) he.2⟩
      split at he
      · exact AC (fun _ h=>h) (fun _ _=>AC (fun a=>Cz h hn) (fun _ _ h=>h)) he
      · cases he
    · cases he
  · cases he
def Bo (G : Cfg) : Prop:=∀ f p,G.prim f = some p -> ∀ c d,LeC c d -> ∀ vs H r,p c vs H = some r -> p d vs H = some r
theorem AX {G : Cfg} (hG : Bo G) : ∀ {n m : Nat},n <= m -> LeC (Bm G n) (Bm G m)
  | 0,_,_,f,vs,H,r,h=>by simp [Bm] at h
  | n + 1,0,hn,_,_,_,_,_=>by omega
  | n + 1,m + 1,hn,f,vs,H,r,h=>by
    have ih:=AX hG (n:=n) (m:=m) (by omega)
    unfold Bm at h ⊢
    split at h
    · rename_i p hp
      exact hG f p hp _ _ ih vs H r h
    · split at h
      · split at h
        · exact Es ih (by omega) h
        · exact OI ih (by omega) h
      · simp only [Af] at h ⊢
        exact ⟨h.1,EN ih (by omega) h.2⟩
/- Running, whatever the fuel. -/
def Cx {α : Type} (x : Option α) (p : α -> Prop) : Prop:=∃ a,x = some a /\ p a
theorem AU {α : Type} (a : α) (p : α -> Prop) : Cx (some a) p = p a:=by simp [Cx]
theorem Lt {α : Type} (b : Bool) (x : Option α) (p : α -> Prop) : Cx (gd b x) p = (b = true /\ Cx x p):=by cases b <;> simp [Cx,gd]
theorem Dh {α β : Type} (x : Option α) (f : α -> Option β) (p : β -> Prop) : Cx (x.bind f) p = Cx x fun a=>Cx (f a) p:=by
  apply propext
  simp only [Cx,Acu]
  constructor
  · rintro ⟨b,⟨a,h1,h2⟩,h3⟩
    exact ⟨a,h1,b,h2,h3⟩
  · rintro ⟨a,h1,b,h2,h3⟩
    exact ⟨b,⟨a,h1,h2⟩,h3⟩
def Runs (G : Cfg) (c : C) (s : St) (Q : Ex -> St -> Prop) : Prop:=∃ n e s',evC (Bm G n) n c s = some (e,s') /\ Q e s'
def Ga (G : Cfg) (ops : List Op) (s : St) (Q : St -> Prop) : Prop:=∃ n s',BM (Bm G n) ops s = some s' /\ Q s'
def Gj (G : Cfg) (o : Op) (s : St) (Q : St -> Prop) : Prop:=∃ n s',Dz (Bm G n) s o = some s' /\ Q s'
def Ret (G : Cfg) (f : Nat) (vs : List V) (H : Hp) (Q : V -> Hp -> Prop) : Prop:=∃ n v H',Bm G n f vs H = some (v,H') /\ Q v H'
def Gives (G : Cfg) (f : Nat) (vs : List V) (H : Hp) (v : V) (H' : Hp) : Prop:=∃ n,Bm G n f vs H = some (v,H')
def thn (A : St -> Prop) (Q : Ex -> St -> Prop) : Ex -> St -> Prop
  | .nm,s=>A s
  | e,s=>Q e s
def inB (id : Nat) (Q : Ex -> St -> Prop) : Ex -> St -> Prop
  | .ex j,s=>(j = id -> Q .nm s) /\ (j ≠ id -> Q (.ex j) s)
  | e,s=>Q e s
theorem Aaw (id : Nat) (Q : Ex -> St -> Prop) (s : St) (j : Nat) : inB id Q (.ex j) s = if j = id then Q .nm s else Q (.ex j) s:=by
  apply propext
  by_cases h : j = id <;> simp [inB,h]
section
variable {G : Cfg}
theorem Runs.mono {c : C} {s : St} {Q Q' : Ex -> St -> Prop} (h : Runs G c s Q) (hq : ∀ e s,Q e s -> Q' e s) : Runs G c s Q':=by
  obtain ⟨n,e,s',h1,h2⟩:=h
  exact ⟨n,e,s',h1,hq e s' h2⟩
theorem PR (s : St) (Q : Ex -> St -> Prop) : Runs G .skip s Q = Q .nm s:=by
  apply propext
  simp only [Runs,evC,Acv,Acw]
  constructor
  · rintro ⟨_,_,_,⟨rfl,rfl⟩,h⟩
    exact h
  · exact fun h=>⟨0,_,_,⟨rfl,rfl⟩,h⟩
theorem WK (id : Nat) (s : St) (Q : Ex -> St -> Prop) : Runs G (.ex id) s Q = Q (.ex id) s:=by
  apply propext
  simp only [Runs,evC,Acv,Acw]
  constructor
  · rintro ⟨_,_,_,⟨rfl,rfl⟩,h⟩
    exact h
  · exact fun h=>⟨0,_,_,⟨rfl,rfl⟩,h⟩
theorem Tq (s : St) (Q : Ex -> St -> Prop) : Runs G .ret s Q = Q .ret s:=by
  apply propext
  simp only [Runs,evC,Acv,Acw]
  constructor
  · rintro ⟨_,_,_,⟨rfl,rfl⟩,h⟩
    exact h
  · exact fun h=>⟨0,_,_,⟨rfl,rfl⟩,h⟩
theorem Tr (ops : List Op) (s : St) (Q : Ex -> St -> Prop) : Runs G (.reg ops) s Q = Ga G ops s fun s'=>Q .nm { s' with L:=[] }:=by
  apply propext
  simp only [Runs,Ga,evC,Acu,Acv,Acw]
  constructor
  · rintro ⟨n,_,_,⟨s',h,rfl,rfl⟩,hq⟩
    exact ⟨n,s',h,hq⟩
  · rintro ⟨n,s',h,hq⟩
    exact ⟨n,_,_,⟨s',h,rfl,rfl⟩,hq⟩
theorem Tp (hG : Bo G) (a b : C) (s : St) (Q : Ex -> St -> Prop) : Runs G (.seq a b) s Q = Runs G a s (thn (fun s'=>Runs G b s' Q) Q):=by
  apply propext
  constructor
  · rintro ⟨n,e,s',h,hq⟩
    simp only [evC,Acu] at h
    obtain ⟨⟨e1,s1⟩,h1,h2⟩:=h
    refine ⟨n,e1,s1,h1,?_⟩
    cases e1 with
    | nm=>exact ⟨n,e,s',h2,hq⟩
    | _ =>
      simp only [Acv,Acw] at h2
      obtain ⟨rfl,rfl⟩:=h2
      exact hq
  · rintro ⟨n,e1,s1,h1,h2⟩
    cases e1 with
    | nm =>
      obtain ⟨m,e,s',h3,hq⟩:=h2
      refine ⟨max n m,e,s',?_,hq⟩
      simp only [evC,Acu]
      exact ⟨_,Cz (AX hG (Nat.le_max_left n m)) (Nat.le_max_left n m) h1,Cz (AX hG (Nat.le_max_right n m)) (Nat.le_max_right n m) h3⟩
    | ex j=>exact ⟨n,.ex j,s1,by simp [evC,h1],h2⟩
    | ret=>exact ⟨n,.ret,s1,by simp [evC,h1],h2⟩
def asB : V -> Option Bool
  | .m (.b t)=>some t
  | _=>none
theorem Ts (o : Opnd) (a b : C) (s : St) (Q : Ex -> St -> Prop) : Runs G (.ite o a b) s Q = Cx ((evA s o).bind asB) fun t=>if t then Runs G a s Q else Runs G b s Q:=by
  apply propext
  constructor
  · rintro ⟨n,e,s',h,hq⟩
    simp only [evC,Acu] at h
    obtain ⟨v,hv,h⟩:=h
    split at h
    · exact ⟨true,by simp [hv,asB],n,e,s',h,hq⟩
    · exact ⟨false,by simp [hv,asB],n,e,s',h,hq⟩
    · cases h
  · rintro ⟨t,ht,h⟩
    simp only [Acu] at ht
    obtain ⟨v,hv,ht⟩:=ht
    have : v = .m (.b t):=by
      unfold asB at ht
      split at ht
      · rw [Acv] at ht; rw [ht]
      · cases ht
    subst this
    cases t with
    | true =>
      obtain ⟨n,e,s',h,hq⟩:=h
      exact ⟨n,e,s',by simp [evC,hv,h],hq⟩
    | false =>
      obtain ⟨n,e,s',h,hq⟩:=h
      exact ⟨n,e,s',by simp [evC,hv,h],hq⟩
theorem Tt (id : Nat) (c : C) (s : St) (Q : Ex -> St -> Prop) : Runs G (.blk id c) s Q = Runs G c s (inB id Q):=by
  apply propext
  constructor
  · rintro ⟨n,e,s',h,hq⟩
    simp only [evC,Acu] at h
    obtain ⟨⟨e1,s1⟩,h1,h2⟩:=h
    refine ⟨n,e1,s1,h1,?_⟩
    cases e1 with
    | ex j =>
      simp only at h2
      split at h2
      · rename_i hb
        have:=AcJ hb
        simp only [Acv,Acw] at h2
        obtain ⟨rfl,rfl⟩:=h2
        exact ⟨fun _=>hq,fun hne=>absurd this hne⟩
      · rename_i hb
        simp only [Acv,Acw] at h2
        obtain ⟨rfl,rfl⟩:=h2
        exact ⟨fun e=>(by subst e; simp at hb),fun _=>hq⟩
    | _ =>
      simp only [Acv,Acw] at h2
      obtain ⟨rfl,rfl⟩:=h2
      exact hq
  · rintro ⟨n,e1,s1,h1,h2⟩
    cases e1 with
    | ex j =>
      cases hb : Nat.beq j id with
      | true=>exact ⟨n,.nm,s1,by simp [evC,h1,hb],h2.1 (AcJ hb)⟩
      | false=>exact ⟨n,.ex j,s1,by simp [evC,h1,hb],h2.2 (fun e=>by subst e; simp at hb)⟩
    | nm=>exact ⟨n,.nm,s1,by simp [evC,h1],h2⟩
    | ret=>exact ⟨n,.ret,s1,by simp [evC,h1],h2⟩
theorem PS (hG : Bo G) (dr : List Nat) (c : C) (s : St) (Q : Ex -> St -> Prop) : Runs G (.loop dr c) s Q = Runs G c { s with E:=Au dr s.E } (thn (fun s'=>Runs G (.loop dr c) s' Q) Q):=by
  apply propext
  constructor
  · rintro ⟨n,e,s',h,hq⟩
    simp only [evC] at h
    cases n with
    | zero=>simp [EB] at h
    | succ n =>
      simp only [EB,Acu] at h
      obtain ⟨⟨e1,s1⟩,h1,h2⟩:=h
      refine ⟨n + 1,e1,s1,h1,?_⟩
      cases e1 with
      | nm=>exact ⟨n + 1,e,s',by simp only [evC]; exact En (fun _ _ h=>h) (Nat.le_succ n) h2,hq⟩
      | _ =>
        simp only [Acv,Acw] at h2
        obtain ⟨rfl,rfl⟩:=h2
        exact hq
  · rintro ⟨n,e1,s1,h1,h2⟩
    cases e1 with
    | nm =>
      obtain ⟨m,e,s',h3,hq⟩:=h2
      have hn : n <= max n m + 1:=by omega
      have hm : m <= max n m + 1:=by omega
      refine ⟨max n m + 1,e,s',?_,hq⟩
      simp only [evC,EB,Acu]
      refine ⟨_,Cz (AX hG hn) hn h1,?_⟩
      simp only [evC] at h3
      exact En (fun t r=>Cz (AX hG hm) hm) (by omega) h3
    | ex j=>exact ⟨n + 1,.ex j,s1,by simp only [evC,EB,Acu]; exact ⟨_,Cz (AX hG (Nat.le_succ n)) (Nat.le_succ n) h1,rfl⟩,h2⟩
    | ret=>exact ⟨n + 1,.ret,s1,by simp only [evC,EB,Acu]; exact ⟨_,Cz (AX hG (Nat.le_succ n)) (Nat.le_succ n) h1,rfl⟩,h2⟩
theorem WV (s : St) (Q : St -> Prop) : Ga G [] s Q = Q s:=by
  apply propext
  simp only [Ga,BM,Acv]
  constructor
  · rintro ⟨_,_,rfl,h⟩
    exact h
  · exact fun h=>⟨0,_,rfl,h⟩
theorem Em (hG : Bo G) (o : Op) (r : List Op) (s : St) (Q : St -> Prop) : Ga G (o :: r) s Q = Gj G o s fun s'=>Ga G r s' Q:=by
  apply propext
  simp only [Ga,Gj,BM,Acu]
  constructor
  · rintro ⟨n,s',⟨s1,h1,h2⟩,hq⟩
    exact ⟨n,s1,h1,n,s',h2,hq⟩
  · rintro ⟨n,s1,h1,m,s',h2,hq⟩
    exact ⟨max n m,s',⟨s1,Kt (AX hG (Nat.le_max_left n m)) h1,FG (AX hG (Nat.le_max_right n m)) h2⟩,hq⟩
theorem WY (d : Dst) (o : OP) (az : List Opnd) (s : St) (Q : St -> Prop) : Gj G ⟨d,.p o,az,none⟩ s Q = Cx (Ak (evA s) az) fun vs=>Cx (Ao o vs) fun v=>Cx (CH s d v) Q:=by
  apply propext
  simp only [Gj,Dz,Av,AcG,AT,gd,evO,Acu,Cx]
  constructor
  · rintro ⟨_,s',⟨vs,h1,⟨v,M⟩,⟨v',h2,h3⟩,h4⟩,hq⟩
    simp only [Acv,Acw] at h3
    obtain ⟨rfl,rfl⟩:=h3
    exact ⟨vs,h1,_,h2,s',h4,hq⟩
  · rintro ⟨vs,h1,v,h2,s',h4,hq⟩
    exact ⟨0,s',⟨vs,h1,(v,s.M),⟨v,h2,rfl⟩,h4⟩,hq⟩
theorem WX (d : Dst) (o : OR) (az : List Opnd) (s : St) (Q : St -> Prop) : Gj G ⟨d,.r o,az,none⟩ s Q = Cx (Ak (evA s) az) fun vs=>Cx (readX s.M o vs) fun v=>Cx (CH s d v) Q:=by
  apply propext
  simp only [Gj,Dz,Av,AcG,AT,gd,evO,Acu,Cx]
  constructor
  · rintro ⟨_,s',⟨vs,h1,⟨v,M⟩,⟨v',h2,h3⟩,h4⟩,hq⟩
    simp only [Acv,Acw] at h3
    obtain ⟨rfl,rfl⟩:=h3
    exact ⟨vs,h1,_,h2,s',h4,hq⟩
  · rintro ⟨vs,h1,v,h2,s',h4,hq⟩
    exact ⟨0,s',⟨vs,h1,(v,s.M),⟨v,h2,rfl⟩,h4⟩,hq⟩
theorem WZ (d : Dst) (f : Nat) (az : List Opnd) (s : St) (Q : St -> Prop) : Gj G ⟨d,.l (.cal f),az,none⟩ s Q = Cx (Ak (evA s) az) fun vs=>Ret G f vs s.M.H fun v H'=>Cx (CH { s with M:={ s.M with H:=H' } } d v) Q:=by
  apply propext
  simp only [Gj,Dz,Av,AcG,AT,gd,evO,Am,Acu,Cx,Ret]
  constructor
  · rintro ⟨n,s',⟨vs,h1,⟨v,M⟩,⟨⟨r,H'⟩,h2,h3⟩,h4⟩,hq⟩
    simp only [Acv,Acw] at h3
    obtain ⟨rfl,rfl⟩:=h3
    exact ⟨vs,h1,n,_,_,h2,s',h4,hq⟩
  · rintro ⟨vs,h1,n,v,H',h2,s',h4,hq⟩
    exact ⟨n,s',⟨vs,h1,_,⟨_,h2,rfl⟩,h4⟩,hq⟩
theorem TH (d : Dst) (o : O) (az : List Opnd) (g : Opnd) (want : Bool) (s : St) (Q : St -> Prop) : Gj G ⟨d,o,az,some (g,want)⟩ s Q = Cx (Av s (some (g,want))) fun q=>if q then Gj G ⟨d,o,az,none⟩ s Q else Cx (CH s d .un) Q:=by
  apply propext
  constructor
  · rintro ⟨n,s',h,hq⟩
    simp only [Dz,Acu] at h
    obtain ⟨b,hb,h⟩:=h
    refine ⟨b,hb,?_⟩
    cases b with
    | true=>exact ⟨n,s',by simpa [Dz,Av] using h,hq⟩
    | false=>exact ⟨s',h,hq⟩
  · rintro ⟨b,hb,h⟩
    cases b with
    | true =>
      obtain ⟨n,s',h,hq⟩:=h
      exact ⟨n,s',by simp only [Dz,hb,AcG]; simpa [Dz,Av] using h,hq⟩
    | false =>
      obtain ⟨s',h,hq⟩:=h
      exact ⟨0,s',by simp only [Dz,hb,AcG]; exact h,hq⟩
/- Calls. -/
theorem ZO {f : Nat} {vs : List V} {H H' : Hp} {v : V} {Q : V -> Hp -> Prop} (hG : Bo G) (h : Gives G f vs H v H') : Ret G f vs H Q = Q v H':=by
  apply propext
  obtain ⟨n,hn⟩:=h
  constructor
  · rintro ⟨m,v2,H2,hm,hq⟩
    have h1:=AX hG (Nat.le_max_left n m) _ _ _ _ hn
    have h2:=AX hG (Nat.le_max_right n m) _ _ _ _ hm
    rw [h1] at h2
    cases h2
    exact hq
  · exact fun hq=>⟨n,v,H',hn,hq⟩
theorem Gives.of_ret {f : Nat} {vs : List V} {H H' : Hp} {v : V} (h : Ret G f vs H fun v' H2=>v' = v /\ H2 = H') : Gives G f vs H v H':=by
  obtain ⟨n,v2,H2,h,rfl,rfl⟩:=h
  exact ⟨n,h⟩
def fin (rs : List Res) (Q : V -> Hp -> Prop) : Ex -> St -> Prop
  | .ex _,_=>False
  | _,s=>Cx (Dw s rs) fun v=>Q v s.M.H
theorem Vx {c : C} {np : Nat} {rs : List Res} {vs : List V} {H : Hp} {Q : V -> Hp -> Prop} (hv : vs.all AB = true) (hl : vs.length = np) (h : Runs G c ⟨CL 0 vs,[],⟨[],H⟩⟩ (fin rs Q)) :
    ∃ n v H',evF (Bm G n) n ⟨np,rs,c⟩ vs H = some (v,H') /\ Q v H':=by
  obtain ⟨n,e,s',h1,h2⟩:=h
  have hb : (vs.all AB && Nat.beq vs.length np) = true:=by rw [hv,hl,Nat.beq_refl]; rfl
  have key : Cx (Dw s' rs) (fun v=>Q v s'.M.H) -> (∀ id,e ≠ .ex id) -> ∃ n v H',evF (Bm G n) n ⟨np,rs,c⟩ vs H = some (v,H') /\ Q v H':=by
    rintro ⟨v,hv,hq⟩ hne
    refine ⟨n,v,s'.M.H,?_,hq⟩
    simp only [evF,hb,gd,h1,AcG]
    cases e with
    | ex id=>exact absurd rfl (hne id)
    | _=>simp [hv]
  cases e with
  | ex id=>exact h2.elim
  | nm=>exact key h2 (fun _ h=>by cases h)
  | ret=>exact key h2 (fun _ h=>by cases h)
theorem Ot (hG : Bo G) {f np : Nat} {rs : List Res} {c : C} {vs : List V} {H : Hp} {Q : V -> Hp -> Prop} (hp : G.prim f = none) (hf : G.fn f = some ⟨np,rs,c⟩) (hs : G.sh f = true) (hv : vs.all AB = true) (hl : vs.length = np)
    (h : Runs G c ⟨CL 0 vs,[],⟨[],H⟩⟩ (fin rs Q)) : Ret G f vs H Q:=by
  obtain ⟨n,v,H',he,hq⟩:=Vx hv hl h
  refine ⟨n + 1,v,H',?_,hq⟩
  simp [Bm,hp,hf,hs,he]
theorem MB : ∀ {vs : List V} {is : List I},Ct vs = some is -> vs.flatMap DN = [] /\ vs.all BE = true /\ vs.all AB = true /\ vs = is.map .m /\ ∀ (n : Nat) H,Ak (view (n + 1) H) vs = some is
  | [],is,h=>by simp only [Ct,Acv] at h; subst h; exact ⟨rfl,rfl,rfl,rfl,fun _ _=>rfl⟩
  | .m x :: r,is,h=>by
    simp only [Ct,Acu,Acv] at h
    obtain ⟨l,hl,rfl⟩:=h
    obtain ⟨h1,h2,h3,h4,h5⟩:=MB hl
    refine ⟨by simp [DN,GP,h1],by simp [BE,CS,h2],by simp [AB,h3],by simp [h4],fun n H=>?_⟩
    simp only [Ak,h5 n H]
    rfl
  | .un :: _,is,h=>by simp [Ct] at h
  | .ls _ :: _,is,h=>by simp [Ct] at h
  | .sl .. :: _,is,h=>by simp [Ct] at h
  | .pt .. :: _,is,h=>by simp [Ct] at h
  | .fa .. :: _,is,h=>by simp [Ct] at h
  | .mp _ :: _,is,h=>by simp [Ct] at h
  | .fn .. :: _,is,h=>by simp [Ct] at h
  | .ag _ :: _,is,h=>by simp [Ct] at h
  | .tu _ :: _,is,h=>by simp [Ct] at h
theorem My {f np : Nat} {rs : List Res} {c : C} {vs : List V} {is : List I} {H : Hp} {Q : V -> Hp -> Prop} (hp : G.prim f = none) (hf : G.fn f = some ⟨np,rs,c⟩) (hs : G.sh f = false) (hv : Ct vs = some is) (hl : vs.length = np)
    (h : Runs G c ⟨CL 0 vs,[],⟨[],[]⟩⟩ (fin rs fun v H'=>Cx (viewR H' v) fun r=>Q r H)) : Ret G f vs H Q:=by
  obtain ⟨h1,h2,h3,h4,h5⟩:=MB hv
  obtain ⟨n,v,H',he,r,hr,hq⟩:=Vx h3 hl h
  refine ⟨n + 1,r,H,?_,hq⟩
  simp only [Bm,hp,hf,hs,AcG,DK,h5 19 H]
  rw [<- h4,he]
  simp only [AcG,hr,h1,h2,gd]
end
end Go.Mx
/- Walking the machine, first order: what follows is kept as data, so that simp looks at the state alone. Nothing here speaks of a program. -/
namespace Go.Mx
inductive K where
  | fin (rs : List Res) (Q : V -> Hp -> Prop)
  | pur (rs : List Res) (H : Hp) (Q : V -> Hp -> Prop)
  | st (Q : Ex -> St -> Prop)
  | seq (b : C) (k : K)
  | blk (id : Nat) (k : K)
def K.sem (G : Cfg) : K -> Ex -> St -> Prop
  | .fin rs Q=>Mx.fin rs Q
  | .pur rs H Q=>Mx.fin rs fun v H'=>Cx (viewR H' v) fun r=>Q r H
  | .st Q=>Q
  | .seq b k=>thn (fun s=>Runs G b s (k.sem G)) (k.sem G)
  | .blk id k=>inB id (k.sem G)
def Run (G : Cfg) (c : C) (s : St) (k : K) : Prop:=Runs G c s (k.sem G)
def At' (G : Cfg) (e : Ex) (s : St) (k : K) : Prop:=k.sem G e s
def BJ (G : Cfg) (s : Option St) (ops : List Op) (k : K) : Prop:=Cx s fun s=>Ga G ops s fun s'=>k.sem G .nm { s' with L:=[] }
def VZ (G : Cfg) (t : Option Bool) (a b : C) (s : St) (k : K) : Prop:=Cx t fun t=>if t then Runs G a s (k.sem G) else Runs G b s (k.sem G)
def HK (G : Cfg) (f : Nat) (vs : Option (List V)) (s : St) (d : Dst) (r : List Op) (k : K) : Prop :=
  Cx vs fun vs=>Ret G f vs s.M.H fun v H'=>BJ G (CH { s with M:={ s.M with H:=H' } } d v) r k
def JH (s : St) (o : OP) (az : List Opnd) (d : Dst) : Option St:=(Ak (evA s) az).bind fun vs=>(Ao o vs).bind fun v=>CH s d v
def JG (s : St) (o : OR) (az : List Opnd) (d : Dst) : Option St:=(Ak (evA s) az).bind fun vs=>(readX s.M o vs).bind fun v=>CH s d v
def stepL (s : St) (o : OL) (az : List Opnd) (d : Dst) : Option St:=gd (AT s (.l o)) ((Ak (evA s) az).bind fun vs=>(Am (fun _ _ _=>none) s.M o vs).bind fun p=>CH { s with M:=p.2 } d p.1)
def Bt (q : Option Bool) (a b : Option St) : Option St:=q.bind fun q=>match q with
  | true=>a
  | false=>b
section
variable {G : Cfg}
theorem Rf (s : St) (b : C) (k : K) : At' G .nm s (.seq b k) = Run G b s k:=rfl
theorem Rg (s : St) (b : C) (k : K) (j : Nat) : At' G (.ex j) s (.seq b k) = At' G (.ex j) s k:=rfl
theorem OM (s : St) (b : C) (k : K) : At' G .ret s (.seq b k) = At' G .ret s k:=rfl
theorem Rj (s : St) (id : Nat) (k : K) : At' G .nm s (.blk id k) = At' G .nm s k:=rfl
theorem OQ (s : St) (id : Nat) (k : K) : At' G .ret s (.blk id k) = At' G .ret s k:=rfl
theorem Rk (s : St) (id : Nat) (k : K) (j : Nat) : At' G (.ex j) s (.blk id k) = if j = id then At' G .nm s k else At' G (.ex j) s k:=Aaw id _ s j
theorem at_st (e : Ex) (s : St) (Q : Ex -> St -> Prop) : At' G e s (.st Q) = Q e s:=rfl
theorem Ri (s : St) (rs : List Res) (Q : V -> Hp -> Prop) : At' G .nm s (.fin rs Q) = Cx (Dw s rs) fun v=>Q v s.M.H:=rfl
theorem OO (s : St) (rs : List Res) (Q : V -> Hp -> Prop) : At' G .ret s (.fin rs Q) = Cx (Dw s rs) fun v=>Q v s.M.H:=rfl
theorem Rh (s : St) (rs : List Res) (H : Hp) (Q : V -> Hp -> Prop) : At' G .nm s (.pur rs H Q) = Cx ((Dw s rs).bind (viewR s.M.H)) fun r=>Q r H:=by
  rw [Dh]; rfl
theorem ON (s : St) (rs : List Res) (H : Hp) (Q : V -> Hp -> Prop) : At' G .ret s (.pur rs H Q) = Cx ((Dw s rs).bind (viewR s.M.H)) fun r=>Q r H:=by
  rw [Dh]; rfl
theorem PT (s : St) (k : K) : Run G .skip s k = At' G .nm s k:=PR s _
theorem WM (id : Nat) (s : St) (k : K) : Run G (.ex id) s k = At' G (.ex id) s k:=WK id s _
theorem Tv (s : St) (k : K) : Run G .ret s k = At' G .ret s k:=Tq s _
theorem Tu (hG : Bo G) (a b : C) (s : St) (k : K) : Run G (.seq a b) s k = Run G a s (.seq b k):=Tp hG a b s _
theorem Mw (id : Nat) (c : C) (s : St) (k : K) : Run G (.blk id c) s k = Run G c s (.blk id k):=Tt id c s _
theorem Mv (ops : List Op) (s : St) (k : K) : Run G (.reg ops) s k = BJ G (some s) ops k:=by
  unfold Run BJ
  rw [AU]
  exact Tr ops s _
theorem Tw (o : Opnd) (a b : C) (s : St) (k : K) : Run G (.ite o a b) s k = VZ G ((evA s o).bind asB) a b s k:=Ts o a b s _
theorem PU (hG : Bo G) (dr : List Nat) (c : C) (s : St) (k : K) : Run G (.loop dr c) s k = Run G c { s with E:=Au dr s.E } (.seq (.loop dr c) k):=PS hG dr c s _
theorem PE (a b : C) (s : St) (k : K) : VZ G (some true) a b s k = Run G a s k:=by simp [VZ,AU,Run]
theorem Oi (a b : C) (s : St) (k : K) : VZ G (some false) a b s k = Run G b s k:=by simp [VZ,AU,Run]
theorem Mz (s : St) (k : K) : BJ G (some s) [] k = At' G .nm { s with L:=[] } k:=by
  simp only [BJ,AU,WV]
  rfl
theorem JN (ops : List Op) (k : K) : BJ G none ops k = False:=by simp [BJ,Cx]
theorem WN (b : Bool) (s : Option St) (ops : List Op) (k : K) : BJ G (gd b s) ops k = (b = true /\ BJ G s ops k):=Lt b s _
theorem PY (hG : Bo G) (d : Dst) (o : OP) (az : List Opnd) (s : St) (r : List Op) (k : K) : BJ G (some s) (⟨d,.p o,az,none⟩ :: r) k = BJ G (JH s o az d) r k:=by
  simp only [BJ,AU,Em hG,WY,JH,Dh]
theorem PX (hG : Bo G) (d : Dst) (o : OR) (az : List Opnd) (s : St) (r : List Op) (k : K) : BJ G (some s) (⟨d,.r o,az,none⟩ :: r) k = BJ G (JG s o az d) r k:=by
  simp only [BJ,AU,Em hG,WX,JG,Dh]
theorem GO (hG : Bo G) (d : Dst) (f : Nat) (az : List Opnd) (s : St) (r : List Op) (k : K) : BJ G (some s) (⟨d,.l (.cal f),az,none⟩ :: r) k = HK G f (Ak (evA s) az) s d r k:=by
  simp only [BJ,AU,Em hG,WZ,HK]
theorem Df (hG : Bo G) (d : Dst) (o : O) (az : List Opnd) (g : Opnd) (want : Bool) (s : St) (r : List Op) (k : K) :
    BJ G (some s) (⟨d,o,az,some (g,want)⟩ :: r) k = Cx (Av s (some (g,want))) fun q=>if q then BJ G (some s) (⟨d,o,az,none⟩ :: r) k else BJ G (CH s d .un) r k:=by
  simp only [BJ,AU,Em hG,TH]
theorem FR (hG : Bo G) (d : Dst) (o : OP) (az : List Opnd) (g : Opnd) (want : Bool) (s : St) (r : List Op) (k : K) :
    BJ G (some s) (⟨d,.p o,az,some (g,want)⟩ :: r) k = BJ G (Bt (Av s (some (g,want))) (JH s o az d) (CH s d .un)) r k:=by
  rw [Df hG]
  cases hq : Av s (some (g,want)) with
  | none=>simp [Cx,Bt,BJ]
  | some q=>cases q <;> simp [AU,Bt,PY hG]
theorem FQ (hG : Bo G) (d : Dst) (o : OR) (az : List Opnd) (g : Opnd) (want : Bool) (s : St) (r : List Op) (k : K) :
    BJ G (some s) (⟨d,.r o,az,some (g,want)⟩ :: r) k = BJ G (Bt (Av s (some (g,want))) (JG s o az d) (CH s d .un)) r k:=by
  rw [Df hG]
  cases hq : Av s (some (g,want)) with
  | none=>simp [Cx,Bt,BJ]
  | some q=>cases q <;> simp [AU,Bt,PX hG]
def Jy (G : Cfg) (q : Option Bool) (f : Nat) (az : List Opnd) (s : St) (d : Dst) (r : List Op) (k : K) : Prop:=Cx q fun q=>if q then HK G f (Ak (evA s) az) s d r k else BJ G (CH s d .un) r k
theorem DT (hG : Bo G) (d : Dst) (f : Nat) (az : List Opnd) (g : Opnd) (want : Bool) (s : St) (r : List Op) (k : K) :
    BJ G (some s) (⟨d,.l (.cal f),az,some (g,want)⟩ :: r) k = Jy G (Av s (some (g,want))) f az s d r k:=by
  rw [Df hG]
  simp only [Jy,GO hG]
theorem OB (f : Nat) (az : List Opnd) (s : St) (d : Dst) (r : List Op) (k : K) : Jy G (some true) f az s d r k = HK G f (Ak (evA s) az) s d r k:=by simp [Jy,AU]
theorem Ly (f : Nat) (az : List Opnd) (s : St) (d : Dst) (r : List Op) (k : K) : Jy G (some false) f az s d r k = BJ G (CH s d .un) r k:=by simp [Jy,AU]
theorem GY (hG : Bo G) (d : Dst) (o : OL) (az : List Opnd) (s : St) (r : List Op) (k : K) (hc : ∀ call vs,Am call s.M o vs = Am (fun _ _ _=>none) s.M o vs) : BJ G (some s) (⟨d,.l o,az,none⟩ :: r) k = BJ G (stepL s o az d) r k:=by
  simp only [BJ,AU,Em hG,stepL,Lt,Dh]
  apply propext
  simp only [Gj,Dz,Av,AcG,evO,hc,Cx]
  constructor
  · rintro ⟨n,s',h,hq⟩
    rw [gd_eq] at h
    obtain ⟨hf,h⟩:=h
    simp only [Acu] at h
    obtain ⟨vs,h1,p,h2,h3⟩:=h
    exact ⟨hf,vs,h1,p,h2,s',h3,hq⟩
  · rintro ⟨hf,vs,h1,p,h2,s',h3,hq⟩
    refine ⟨0,s',?_,hq⟩
    rw [gd_eq]
    simp only [Acu]
    exact ⟨hf,vs,h1,p,h2,h3⟩
where gd_eq {α : Type} {b : Bool} {x : Option α} {y : α} : (gd b x = some y) = (b = true /\ x = some y):=by cases b <;> simp [gd]
theorem IR {M : Mem} {o : OL} (h1 : ∀ f,o ≠ .cal f) (h2 : o ≠ .cav) (c d : Bc) (vs : List V) : Am c M o vs = Am d M o vs:=by
  cases o with
  | cal f=>exact absurd rfl (h1 f)
  | cav=>exact absurd rfl h2
  | _ =>
    match vs with
    | []=>rfl
    | [_]=>rfl
    | [_,_]=>rfl
    | [_,_,_]=>rfl
    | _ :: _ :: _ :: _ :: _=>rfl
theorem Cu {f np : Nat} {rs : List Res} {c : C} {vs : List V} {is : List I} {H : Hp} {Q : V -> Hp -> Prop} (hp : G.prim f = none) (hf : G.fn f = some ⟨np,rs,c⟩) (hs : G.sh f = false) (hv : Ct vs = some is) (hl : vs.length = np)
    (h : Run G c ⟨CL 0 vs,[],⟨[],[]⟩⟩ (.pur rs H Q)) : Ret G f vs H Q:=My hp hf hs hv hl h
theorem Ae {f np : Nat} {rs : List Res} {c : C} {vs : List V} {is : List I} {H : Hp} {v : V} (hp : G.prim f = none) (hf : G.fn f = some ⟨np,rs,c⟩) (hs : G.sh f = false) (hv : Ct vs = some is) (hl : vs.length = np)
    (h : Run G c ⟨CL 0 vs,[],⟨[],[]⟩⟩ (.pur rs H fun v' _=>v' = v)) : Gives G f vs H v H:=by
  refine .of_ret (My hp hf hs hv hl (h.mono fun e s hq=>?_))
  cases e with
  | ex j=>exact hq
  | nm =>
    obtain ⟨x,h1,r,h2,h3⟩:=hq
    exact ⟨x,h1,r,h2,h3,rfl⟩
  | ret =>
    obtain ⟨x,h1,r,h2,h3⟩:=hq
    exact ⟨x,h1,r,h2,h3,rfl⟩
theorem BU (hG : Bo G) {f np : Nat} {rs : List Res} {c : C} {vs : List V} {H : Hp} {Q : V -> Hp -> Prop} (hp : G.prim f = none) (hf : G.fn f = some ⟨np,rs,c⟩) (hs : G.sh f = true) (hv : vs.all AB = true) (hl : vs.length = np)
    (h : Run G c ⟨CL 0 vs,[],⟨[],H⟩⟩ (.fin rs Q)) : Ret G f vs H Q:=Ot hG hp hf hs hv hl h
end
end Go.Mx
/- Walking the machine: rules for simp. Nothing here speaks of a program. -/
namespace Go.Mx
attribute [simp] AU Lt Dh Rf Rg OM Rj OQ Rk at_st Ri OO Rh ON PT WM Tv Mw Mv Tw PE Oi Mz JN WN OB Ly
@[simp] theorem pickS_t (a b : Option St) : Bt (some true) a b = a:=rfl
@[simp] theorem pickS_f (a b : Option St) : Bt (some false) a b = b:=rfl
@[simp] theorem stepP_eq (s : St) (o : OP) (az : List Opnd) (d : Dst) : JH s o az d = (Ak (evA s) az).bind fun vs=>(Ao o vs).bind fun v=>CH s d v:=rfl
@[simp] theorem stepR_eq (s : St) (o : OR) (az : List Opnd) (d : Dst) : JG s o az d = (Ak (evA s) az).bind fun vs=>(readX s.M o vs).bind fun v=>CH s d v:=rfl
@[simp] theorem Aab {α : Type} (p : α -> Prop) : Cx none p = False:=by simp [Cx]
@[simp] theorem Zi {α β : Type} (f : α -> Option β) : Ak f [] = some []:=rfl
@[simp] theorem WU {α β : Type} (f : α -> Option β) (a : α) (r : List α) : Ak f (a :: r) = (f a).bind fun x=>(Ak f r).bind fun l=>some (x :: l):=rfl
@[simp] theorem getE_nil (n : Nat) : BQ [] n = none:=rfl
@[simp] theorem Co (k : Nat) (x : V) (r : Env) (n : Nat) : BQ ((k,x) :: r) n = if k = n then some x else BQ r n:=by
  simp only [BQ]
  by_cases h : k = n
  · subst h; simp
  · rw [Acz h]
    have : Nat.beq k n = false:=by
      cases hb : Nat.beq k n with
      | false=>rfl
      | true=>exact absurd (AcJ hb) h
    rw [this]
@[simp] theorem setE_nil (n : Nat) (x : V) : BO [] n x = [(n,x)]:=rfl
@[simp] theorem GJ (k : Nat) (y : V) (r : Env) (n : Nat) (x : V) : BO ((k,y) :: r) n x = if n < k then (n,x) :: (k,y) :: r else if k = n then (n,x) :: r else (k,y) :: BO r n x:=by
  simp only [BO]
  by_cases h : n < k
  · rw [AcC h]
    have : Nat.blt n k = true:=by rw [AdC]; exact h
    rw [this]
  · rw [Acz h]
    have : Nat.blt n k = false:=by
      cases hb : Nat.blt n k with
      | false=>rfl
      | true=>rw [AdC] at hb; exact absurd hb h
    rw [this]
    by_cases e : k = n
    · subst e; simp
    · rw [Acz e]
      have : Nat.beq k n = false:=by
        cases hb : Nat.beq k n with
        | false=>rfl
        | true=>exact absurd (AcJ hb) e
      rw [this]
@[simp] theorem rmE_nil (n : Nat) : rmE [] n = []:=rfl
@[simp] theorem rmE_cons (k : Nat) (x : V) (r : Env) (n : Nat) : rmE ((k,x) :: r) n = if k = n then rmE r n else (k,x) :: rmE r n:=by
  simp only [rmE]
  by_cases h : k = n
  · subst h; simp
  · rw [Acz h]
    have : Nat.beq k n = false:=by
      cases hb : Nat.beq k n with
      | false=>rfl
      | true=>exact absurd (AcJ hb) h
    rw [this]
@[simp] theorem AaP (e : Env) : Au [] e = e:=rfl
@[simp] theorem Zp (n : Nat) (r : List Nat) (e : Env) : Au (n :: r) e = Au r (rmE e n):=rfl
@[simp] theorem evA_v (s : St) (n : Nat) : evA s (.v n) = BQ s.E n:=rfl
@[simp] theorem evA_l (s : St) (n : Nat) : evA s (.l n) = BQ s.L n:=rfl
@[simp] theorem evA_k (s : St) (x : V) : evA s (.k x) = some x:=rfl
@[simp] theorem setD_no (s : St) (x : V) : CH s .no x = some s:=rfl
@[simp] theorem setD_l (s : St) (n : Nat) (x : V) : CH s (.l n) x = some { s with L:=BO s.L n x }:=rfl
@[simp] theorem setD_vm (s : St) (n : Nat) (x : I) : CH s (.v n) (.m x) = some { s with E:=BO s.E n (.m x) }:=rfl
@[simp] theorem setD_vun (s : St) (n : Nat) : CH s (.v n) .un = some { s with E:=BO s.E n .un }:=rfl
@[simp] theorem setD_vls (s : St) (n : Nat) (x : List (List I)) : CH s (.v n) (.ls x) = some { s with E:=BO s.E n (.ls x) }:=rfl
@[simp] theorem setD_vsl (s : St) (n a b c d e : Nat) (f : Bool) : CH s (.v n) (.sl a b c d e f) = some { s with E:=BO s.E n (.sl a b c d e f) }:=rfl
@[simp] theorem setD_vpt (s : St) (n a b c d : Nat) : CH s (.v n) (.pt a b c d) = some { s with E:=BO s.E n (.pt a b c d) }:=rfl
@[simp] theorem setD_vmp (s : St) (n a : Nat) : CH s (.v n) (.mp a) = some { s with E:=BO s.E n (.mp a) }:=rfl
@[simp] theorem setD_vtu (s : St) (n : Nat) (a : List V) : CH s (.v n) (.tu a) = some { s with E:=BO s.E n (.tu a) }:=rfl
@[simp] theorem setD_vag (s : St) (n : Nat) (a : List V) : CH s (.v n) (.ag a) = some { s with E:=BO s.E n (.ag a) }:=rfl
@[simp] theorem setD_vfn (s : St) (n f : Nat) (a : List V) : CH s (.v n) (.fn f a) = some { s with E:=BO s.E n (.fn f a) }:=rfl
@[simp] theorem Wd (s : St) : Av s none = some true:=rfl
@[simp] theorem GE (s : St) (a : Opnd) (w : Bool) : Av s (some (a,w)) = (evA s a).bind fun v=>match v with
    | .m (.b x)=>some (x == w)
    | .un=>some false
    | _=>none:=rfl
@[simp] theorem asB_b (x : Bool) : asB (.m (.b x)) = some x:=rfl
@[simp] theorem AaO (k : Nat) : CL k [] = []:=rfl
@[simp] theorem Zo (k : Nat) (x : V) (r : List V) : CL k (x :: r) = (k,x) :: CL (k + 1) r:=rfl
@[simp] theorem resOf_eq (s : St) (rs : List Res) : Dw s rs = (Ak (Ox s) rs).bind fun vs=>some (tup vs):=rfl
@[simp] theorem resV_t (s : St) (n : Nat) : Ox s (.t n) = (BQ s.E n).bind fun v=>gd (AB v) (some v):=rfl
@[simp] theorem resV_c (s : St) (n sz : Nat) (ag : Bool) : Ox s (.c n sz ag) = (BQ s.E n).bind fun a=>(readA s.M sz a).bind fun cs=>De ag cs:=rfl
@[simp] theorem noFaV_m (x : I) : AB (.m x) = true:=rfl
@[simp] theorem noFaV_ls (x : List (List I)) : AB (.ls x) = true:=rfl
@[simp] theorem noFaV_sl (a b c d e : Nat) (f : Bool) : AB (.sl a b c d e f) = true:=rfl
@[simp] theorem noFaV_mp (a : Nat) : AB (.mp a) = true:=rfl
@[simp] theorem noFaV_pt (a b c d : Nat) : AB (.pt a b c d) = true:=rfl
@[simp] theorem noFaV_ag (a : List V) : AB (.ag a) = true:=rfl
@[simp] theorem noFaV_tu (a : List V) : AB (.tu a) = true:=rfl
@[simp] theorem noFaV_fn (f : Nat) (a : List V) : AB (.fn f a) = true:=rfl
@[simp] theorem tup_1 (v : V) : tup [v] = v:=rfl
@[simp] theorem tup_0 : tup [] = .tu []:=rfl
@[simp] theorem tup_2 (u v : V) (r : List V) : tup (u :: v :: r) = .tu (u :: v :: r):=rfl
@[simp] theorem viewR_m (H : Hp) (x : I) : viewR H (.m x) = some (.m x):=rfl
@[simp] theorem viewR_tu (H : Hp) (vs : List V) : viewR H (.tu vs) = (Ak (view 20 H) vs).bind fun l=>some (.tu (l.map .m)):=rfl
@[simp] theorem viewR_ls (H : Hp) (x : List (List I)) : viewR H (.ls x) = some (.m (.sl x)):=rfl
@[simp] theorem view_m (n : Nat) (H : Hp) (x : I) : view (n + 1) H (.m x) = some x:=rfl
@[simp] theorem Mi (H : Hp) (x : I) : view 20 H (.m x) = some x:=rfl
@[simp] theorem ZE (H : Hp) (x : List (List I)) : view 20 H (.ls x) = some (.sl x):=rfl
@[simp] theorem allM_nil : Ct [] = some []:=rfl
@[simp] theorem Abg (x : I) (r : List V) : Ct (.m x :: r) = (Ct r).bind fun l=>some (x :: l):=rfl
/- Operations on immutable values. -/
@[simp] theorem px_mv (x : V) : Ao .mv [x] = some x:=rfl
@[simp] theorem px_pick (c : Bool) (a b : V) : Ao .pick [.m (.b c),a,b] = some (if c then a else b):=by cases c <;> rfl
@[simp] theorem px_un (o : UnOp) (x : V) : Ao (.un o) [x] = unX o x:=rfl
@[simp] theorem px_bin (o : BinOp) (x y : V) : Ao (.bin o) [x,y] = DI o x y:=rfl
@[simp] theorem px_eqb (n x y : Bool) : Ao (.eqb n) [.m (.b x),.m (.b y)] = some (.m (.b (xor n (x == y)))):=rfl
@[simp] theorem px_eqs (n : Bool) (ks : List Nat) (xs ys : List I) : Ao (.eqs n ks) [.m (.ag xs),.m (.ag ys)] = (EI ks xs ys).bind fun r=>some (.m (.b (xor n r))):=rfl
@[simp] theorem px_eqn (n : Bool) (k : Nat) (x : V) : Ao (.eqn n k) [x] = (DY k x).bind fun r=>some (.m (.b (xor n r))):=rfl
@[simp] theorem px_build (z : List V) (p : List (Nat × Nat)) (xs : List V) : Ao (.build z p) xs = (QG z p xs).bind fun cs=>some (mkAg cs):=rfl
@[simp] theorem px_cv (k k' : IntKind) (n : Int) : Ao (.cv k) [.m (.i k' n)] = some (.m (.i k (wr k n))):=rfl
@[simp] theorem ZY (o : Nat) (cs : List I) : Ao (.fad o) [.m (.pt cs)] = some (.m (.pt (cs.drop o))):=rfl
@[simp] theorem ZZ (o d o' : Nat) : Ao (.fad o) [.fa d o'] = some (.fa d (o' + o)):=rfl
@[simp] theorem Zh (o r v i o' : Nat) : Ao (.fad o) [.pt r v i o'] = some (.pt r v i (o' + o)):=rfl
@[simp] theorem px_ext (j : Nat) (vs : List V) : Ao (.ext j) [.tu vs] = nth vs j:=rfl
@[simp] theorem px_mkf (f : Nat) (xs : List V) : Ao (.mkf f) xs = gd (xs.all AB) (some (.fn f xs)):=rfl
@[simp] theorem ZS (d o : Nat) : Ao .nck [.fa d o] = some (.fa d o):=rfl
@[simp] theorem Zc (r v i o : Nat) : Ao .nck [.pt r v i o] = some (.pt r v i o):=rfl
@[simp] theorem ZR (cs : List I) : Ao .nck [.m (.pt cs)] = some (.m (.pt cs)):=rfl
@[simp] theorem ZU : Ao (.len false) [.m (.nl 4)] = some (.m (.i .i64 0)):=rfl
@[simp] theorem ZT (es : List (List I)) : Ao (.len false) [.m (.sl es)] = some (.m (.i .i64 es.length)):=rfl
@[simp] theorem ZV (es : List (List I)) : Ao (.len false) [.ls es] = some (.m (.i .i64 es.length)):=rfl
@[simp] theorem Zd (r v e st n : Nat) (l : Bool) : Ao (.len false) [.sl r v e st n l] = some (.m (.i .i64 n)):=rfl
@[simp] theorem px_len_s (l : List Nat) : Ao (.len true) [.m (.s l)] = some (.m (.i .i64 l.length)):=rfl
@[simp] theorem Je (k : IntKind) : eqK k k = true:=by cases k <;> rfl
@[simp] theorem FE {α : Type} (x : Option α) : gd true x = x:=rfl
@[simp] theorem TW {α : Type} (x : Option α) : gd false x = none:=rfl
@[simp] theorem bx_add (k : IntKind) (x y : Int) : DI .add (.m (.i k x)) (.m (.i k y)) = some (.m (.i k (wr k (x + y)))):=by simp [DI,arX,vi]
@[simp] theorem bx_sub (k : IntKind) (x y : Int) : DI .sub (.m (.i k x)) (.m (.i k y)) = some (.m (.i k (wr k (x - y)))):=by simp [DI,arX,vi]
@[simp] theorem bx_mul (k : IntKind) (x y : Int) : DI .mul (.m (.i k x)) (.m (.i k y)) = some (.m (.i k (wr k (x * y)))):=by simp [DI,arX,vi]
theorem Qj (y : Int) : (!eqI y 0) = decide (y ≠ 0):=by rw [Fi]; by_cases h : y = 0 <;> simp [h]
@[simp] theorem bx_quo (k : IntKind) (x y : Int) : DI .quo (.m (.i k x)) (.m (.i k y)) = gd (decide (y ≠ 0)) (some (.m (.i k (wr k (x.tdiv y))))):=by simp only [DI,arX,vi,Je,FE,Qj]
@[simp] theorem bx_rem (k : IntKind) (x y : Int) : DI .rem (.m (.i k x)) (.m (.i k y)) = gd (decide (y ≠ 0)) (some (.m (.i k (x.tmod y)))):=by simp only [DI,arX,vi,Je,FE,Qj]
@[simp] theorem bx_eql (k : IntKind) (x y : Int) : DI .eql (.m (.i k x)) (.m (.i k y)) = some (.m (.b (decide (x = y)))):=by simp [DI,arX,vb,Fi]; rfl
@[simp] theorem bx_neq (k : IntKind) (x y : Int) : DI .neq (.m (.i k x)) (.m (.i k y)) = some (.m (.b (decide (x ≠ y)))):=by simp [DI,arX,vb,Fi]; rfl
@[simp] theorem bx_lss (k : IntKind) (x y : Int) : DI .lss (.m (.i k x)) (.m (.i k y)) = some (.m (.b (decide (x < y)))):=by simp [DI,arX,vb,Fe]
@[simp] theorem bx_leq (k : IntKind) (x y : Int) : DI .leq (.m (.i k x)) (.m (.i k y)) = some (.m (.b (decide (x <= y)))):=by simp [DI,arX,vb,MQ]
@[simp] theorem bx_gtr (k : IntKind) (x y : Int) : DI .gtr (.m (.i k x)) (.m (.i k y)) = some (.m (.b (decide (y < x)))):=by simp [DI,arX,vb,Fe]
@[simp] theorem bx_geq (k : IntKind) (x y : Int) : DI .geq (.m (.i k x)) (.m (.i k y)) = some (.m (.b (decide (y <= x)))):=by simp [DI,arX,vb,MQ]
@[simp] theorem XC (x y : List Nat) : DI .add (.m (.s x)) (.m (.s y)) = gd (decide (x.length + y.length <= 9223372036854775807)) (some (.m (.s (x ++ y)))):=by
  simp only [DI,stX]
  congr 1
  rw [Adg]; simp
@[simp] theorem ux_neg (k : IntKind) (x : Int) : unX .neg (.m (.i k x)) = some (.m (.i k (wr k (0 - x)))):=rfl
@[simp] theorem ux_not (x : Bool) : unX .not (.m (.b x)) = some (.m (.b (!x))):=rfl
@[simp] theorem nth_zero {α : Type} (x : α) (r : List α) : nth (x :: r) 0 = some x:=rfl
@[simp] theorem TI {α : Type} (x : α) (r : List α) (n : Nat) : nth (x :: r) (n + 1) = nth r n:=rfl
@[simp] theorem aggC_m (cs : List I) : aggC (.m (.ag cs)) = some (cs.map .m):=rfl
@[simp] theorem aggC_a (cs : List V) : aggC (.ag cs) = some cs:=rfl
@[simp] theorem valOf_f (x : V) : De false [x] = some x:=rfl
@[simp] theorem AM (cs : List V) : De true cs = some (mkAg cs):=rfl
/- Numbers in their kinds. -/
theorem Aa {x : Int} (h1 : -9223372036854775808 <= x) (h2 : x <= 9223372036854775807) : wr .i64 x = x:=by
  have : okK .i64 x = true:=(IT _ _ _).2 ⟨by simpa using h1,by simpa using h2⟩
  unfold wr; rw [this]
theorem HQ {x : Int} (h1 : 0 <= x) (h2 : x <= 18446744073709551615) : wr .u64 x = x:=by
  have : okK .u64 x = true:=(IT _ _ _).2 ⟨by simpa using h1,by simpa using h2⟩
  unfold wr; rw [this]
theorem wr_u8 {x : Int} (h1 : 0 <= x) (h2 : x <= 255) : wr .u8 x = x:=by
  have : okK .u8 x = true:=(IT _ _ _).2 ⟨by simpa using h1,by simpa using h2⟩
  unfold wr; rw [this]
end Go.Mx
/- Walking the machine: more rules for simp (private boxes, slices that do not change, strings). Nothing here speaks of a program. -/
namespace Go.Mx
theorem BG (a b : Nat) : Nat.ble a b = decide (a <= b):=by
  rw [Adg]; simp
theorem Re (a b : Nat) : Nat.blt a b = decide (a < b):=by
  rw [Adg]; simp
theorem ER (a b : Nat) : Nat.beq a b = decide (a = b):=by
  rw [Adg]; simp
/- Private boxes. -/
@[simp] theorem stepL_eq (s : St) (o : OL) (az : List Opnd) (d : Dst) : stepL s o az d = gd (AT s (.l o)) ((Ak (evA s) az).bind fun vs=>(Am (fun _ _ _=>none) s.M o vs).bind fun p=>CH { s with M:=p.2 } d p.1):=rfl
@[simp] theorem AaJ (s : St) (d : Nat) (z : List V) : AT s (.l (.alp d z)) = BK d s.L:=rfl
@[simp] theorem AaG (s : St) (d z : Nat) : AT s (.l (.bxp d z)) = BK d s.L:=rfl
@[simp] theorem AaI (s : St) (a b c : Nat) (z : List V) : AT s (.l (.als a b c z)) = true:=rfl
@[simp] theorem fresh_st (s : St) (n : Nat) : AT s (.l (.st n)) = true:=rfl
@[simp] theorem AaB (s : St) (d n : Nat) : AT s (.l (.stb d n)) = true:=rfl
@[simp] theorem AaA (s : St) (n : Nat) : AT s (.l (.str n)) = true:=rfl
@[simp] theorem isFa_fa (d k o : Nat) : Qy d (.fa k o) = decide (k = d):=ER k d
@[simp] theorem isFa_m (d : Nat) (x : I) : Qy d (.m x) = false:=rfl
@[simp] theorem isFa_pt (d a b c e : Nat) : Qy d (.pt a b c e) = false:=rfl
@[simp] theorem AaE (s : St) : AT s (.l .mkm) = true:=rfl
@[simp] theorem AaD (s : St) (a b c : Nat) (z : List V) : AT s (.l (.mks a b z c)) = true:=rfl
@[simp] theorem AaH (s : St) (a b c : Nat) : AT s (.l (.app a b c)) = true:=rfl
@[simp] theorem AaC (s : St) (q : KT) : AT s (.l (.mup q)) = true:=rfl
@[simp] theorem noFa_nil (d : Nat) : BK d [] = true:=rfl
@[simp] theorem noFa_fa (d k n o : Nat) (r : Env) : BK d ((n,.fa k o) :: r) = (!Nat.beq k d && BK d r):=rfl
@[simp] theorem noFa_m (d n : Nat) (x : I) (r : Env) : BK d ((n,.m x) :: r) = BK d r:=rfl
@[simp] theorem noFa_un (d n : Nat) (r : Env) : BK d ((n,.un) :: r) = BK d r:=rfl
@[simp] theorem noFa_ls (d n : Nat) (x : List (List I)) (r : Env) : BK d ((n,.ls x) :: r) = BK d r:=rfl
@[simp] theorem noFa_sl (d n a b c e f : Nat) (g : Bool) (r : Env) : BK d ((n,.sl a b c e f g) :: r) = BK d r:=rfl
@[simp] theorem noFa_pt (d n a b c e : Nat) (r : Env) : BK d ((n,.pt a b c e) :: r) = BK d r:=rfl
@[simp] theorem noFa_mp (d n a : Nat) (r : Env) : BK d ((n,.mp a) :: r) = BK d r:=rfl
@[simp] theorem noFa_ag (d n : Nat) (a : List V) (r : Env) : BK d ((n,.ag a) :: r) = BK d r:=rfl
@[simp] theorem noFa_tu (d n : Nat) (a : List V) (r : Env) : BK d ((n,.tu a) :: r) = BK d r:=rfl
@[simp] theorem noFa_fn (d n f : Nat) (a : List V) (r : Env) : BK d ((n,.fn f a) :: r) = BK d r:=rfl
@[simp] theorem loud_alp (c : Bc) (M : Mem) (d : Nat) (z : List V) : Am c M (.alp d z) [] = some (.fa d 0,{ M with B:=DE M.B d z }):=rfl
@[simp] theorem loud_bxp (c : Bc) (M : Mem) (d sz : Nat) (x : V) : Am c M (.bxp d sz) [x] = (Ay x).bind fun cs=>gd (Nat.beq cs.length sz) (some (.fa d 0,{ M with B:=DE M.B d cs })):=rfl
@[simp] theorem loud_st (c : Bc) (M : Mem) (sz : Nat) (a x : V) : Am c M (.st sz) [a,x] = (Ay x).bind fun cs=>gd (Nat.beq cs.length sz && cs.all CR) ((DO M cs a).bind fun M'=>some (.un,M')):=rfl
@[simp] theorem loud_stb (c : Bc) (M : Mem) (d sz : Nat) (a x : V) : Am c M (.stb d sz) [a,x] = gd (Qy d a) ((Ay x).bind fun cs=>gd (Nat.beq cs.length sz && cs.all CR) ((DO M cs a).bind fun M'=>some (.un,M'))):=rfl
@[simp] theorem loud_str (c : Bc) (M : Mem) (sz : Nat) (a x : V) : Am c M (.str sz) [a,x] = gd (AB a) ((Ay x).bind fun cs=>gd (Nat.beq cs.length sz && cs.all CR) ((DO M cs a).bind fun M'=>some (.un,M'))):=rfl
@[simp] theorem Aba (cs : List I) : Ay (.m (.ag cs)) = some (cs.map .m):=rfl
@[simp] theorem AaZ (cs : List V) : Ay (.ag cs) = some cs:=rfl
@[simp] theorem cellsV_b (x : Bool) : Ay (.m (.b x)) = some [.m (.b x)]:=rfl
@[simp] theorem cellsV_i (k : IntKind) (x : Int) : Ay (.m (.i k x)) = some [.m (.i k x)]:=rfl
@[simp] theorem cellsV_s (x : List Nat) : Ay (.m (.s x)) = some [.m (.s x)]:=rfl
@[simp] theorem AaW (k : Nat) : Ay (.m (.nl k)) = some [.m (.nl k)]:=rfl
@[simp] theorem Zt (es : List (List I)) : Ay (.m (.sl es)) = some [.m (.sl es)]:=rfl
@[simp] theorem Zu (es : List (List I)) : Ay (.m (.mp es)) = some [.m (.mp es)]:=rfl
@[simp] theorem AaY (es : List (List I)) : Ay (.ls es) = some [.ls es]:=rfl
@[simp] theorem AaV (a b c d e : Nat) (f : Bool) : Ay (.sl a b c d e f) = some [.sl a b c d e f]:=rfl
@[simp] theorem AaX (a : Nat) : Ay (.mp a) = some [.mp a]:=rfl
@[simp] theorem oneV_b (x : Bool) : CR (.m (.b x)) = true:=rfl
@[simp] theorem oneV_i (k : IntKind) (x : Int) : CR (.m (.i k x)) = true:=rfl
@[simp] theorem oneV_s (x : List Nat) : CR (.m (.s x)) = true:=rfl
@[simp] theorem oneV_nl (k : Nat) : CR (.m (.nl k)) = true:=rfl
@[simp] theorem oneV_msl (es : List (List I)) : CR (.m (.sl es)) = true:=rfl
@[simp] theorem oneV_ls (es : List (List I)) : CR (.ls es) = true:=rfl
@[simp] theorem oneV_sl (a b c d e : Nat) (f : Bool) : CR (.sl a b c d e f) = true:=rfl
@[simp] theorem oneV_mp (a : Nat) : CR (.mp a) = true:=rfl
@[simp] theorem getB_nil (n : Nat) : getB [] n = none:=rfl
@[simp] theorem Dl (k : Nat) (x : List V) (r : List (Nat × List V)) (n : Nat) : getB ((k,x) :: r) n = if k = n then some x else getB r n:=by
  simp only [getB,ER]
  by_cases h : k = n <;> simp [h]
@[simp] theorem setB_nil (n : Nat) (x : List V) : DE [] n x = [(n,x)]:=rfl
@[simp] theorem DQ (k : Nat) (y : List V) (r : List (Nat × List V)) (n : Nat) (x : List V) : DE ((k,y) :: r) n x = if k = n then (n,x) :: r else if n < k then (n,x) :: (k,y) :: r else (k,y) :: DE r n x:=by
  simp only [DE,ER,Re]
  by_cases h : k = n
  · simp [h]
  · by_cases h2 : n < k <;> simp [h,h2]
@[simp] theorem ZD (M : Mem) (xs : List V) (d off : Nat) : DO M xs (.fa d off) = (getB M.B d).bind fun cs=>(Fw cs off xs).bind fun cs'=>some { M with B:=DE M.B d cs' }:=rfl
@[simp] theorem TE (cs : List V) (off : Nat) (xs : List V) : Fw cs off xs = gd (decide (off + xs.length <= cs.length)) (some (cs.take off ++ xs ++ cs.drop (off + xs.length))):=by rw [<- BG]; rfl
theorem Tc (n : Nat) (l : List V) : DJ n l = gd (decide ((l.take n).length = n)) (some (l.take n)):=by rw [<- ER]; rfl
@[simp] theorem readA_fa (M : Mem) (sz d off : Nat) : readA M sz (.fa d off) = (getB M.B d).bind fun cs=>DJ sz (cs.drop off):=rfl
@[simp] theorem readA_pt (M : Mem) (sz : Nat) (cs : List I) : readA M sz (.m (.pt cs)) = DJ sz (cs.map .m):=rfl
@[simp] theorem rx_ld (M : Mem) (ag : Bool) (sz : Nat) (a : V) : readX M (.ld ag sz) [a] = (readA M sz a).bind fun cs=>De ag cs:=rfl
@[simp] theorem rx_ldx (M : Mem) (d : Nat) (ag : Bool) (sz : Nat) (a : V) : readX M (.ldx d ag sz) [a] = gd (!Qy d a) ((readA M sz a).bind fun cs=>De ag cs):=rfl
@[simp] theorem AO (cs : List V) : mkAg cs = match Ct cs with
  | some l=>.m (.ag l)
  | none=>.ag cs:=rfl
@[simp] theorem setD_mk (s : St) (n : Nat) (cs : List I) : CH s (.v n) (.m (.ag cs)) = some { s with E:=BO s.E n (.m (.ag cs)) }:=rfl
@[simp] theorem fill_nil (cs : List V) : QG cs [] [] = some cs:=rfl
@[simp] theorem AaK (cs : List V) (off sz : Nat) (ps : List (Nat × Nat)) (x : V) (xs : List V) : QG cs ((off,sz) :: ps) (x :: xs) = (Ay x).bind fun l=>gd (Nat.beq l.length sz) ((Fw cs off l).bind fun cs'=>QG cs' ps xs):=rfl
@[simp] theorem Zn (esz : Nat) (es : List (List V)) : BB esz es [] [] = some es:=rfl
@[simp] theorem Xt (esz : Nat) (es : List (List V)) (ix : Nat) (ps : List Nat) (x : V) (xs : List V) : BB esz es (ix :: ps) (x :: xs) = (Ay x).bind fun l=>gd (Nat.beq l.length esz) ((Bl es ix l).bind fun es'=>BB esz es' ps xs):=rfl
@[simp] theorem YZ {α : Type} (y : α) (r : List α) (x : α) : Bl (y :: r) 0 x = some (x :: r):=rfl
@[simp] theorem Oo {α : Type} (y : α) (r : List α) (n : Nat) (x : α) : Bl (y :: r) (n + 1) x = (Bl r n x).bind fun l=>some (y :: l):=rfl
@[simp] theorem px_bsl (esz : Nat) (z : List V) (n : Nat) (p : List Nat) (xs : List V) : Ao (.bsl esz z n p) xs = (BB esz (List.replicate n z) p xs).bind fun es=>(Ak Ct es).bind fun l=>some (.ls l):=rfl
/- Elements. -/
@[simp] theorem Aaz (n : Nat) (k : IntKind) (x : Int) : idx n (.m (.i k x)) = gd (decide (0 <= x /\ x < n)) (some x.toNat):=by
  cases x with
  | ofNat j =>
    show gd (Nat.blt j n) (some j) = _
    rw [Re]
    congr 1
    simp
  | negSucc j =>
    have : ¬ (0 <= Int.negSucc j /\ Int.negSucc j < n):=by omega
    rw [AcH this]; rfl
@[simp] theorem Abc (n : Nat) (k : IntKind) (x : Int) : bnd n (.m (.i k x)) = gd (decide (0 <= x /\ x <= n)) (some x.toNat):=by
  cases x with
  | ofNat j =>
    show gd (Nat.ble j n) (some j) = _
    rw [BG]
    congr 1
    simp
  | negSucc j =>
    have : ¬ (0 <= Int.negSucc j /\ Int.negSucc j <= n):=by omega
    rw [AcH this]; rfl
@[simp] theorem ZW (esz : Nat) (es : List (List I)) (i : V) : Ao (.ixa esz) [.m (.sl es),i] = (idx es.length i).bind fun j=>(nth es j).bind fun e=>gd (Nat.beq e.length esz) (some (.m (.pt e))):=rfl
@[simp] theorem ZX (esz : Nat) (es : List (List I)) (i : V) : Ao (.ixa esz) [.ls es,i] = (idx es.length i).bind fun j=>(nth es j).bind fun e=>gd (Nat.beq e.length esz) (some (.m (.pt e))):=rfl
@[simp] theorem Ze (esz r ver e st len : Nat) (lim : Bool) (i : V) : Ao (.ixa esz) [.sl r ver e st len lim,i] = gd (Nat.beq esz e) ((idx len i).bind fun j=>some (.pt r ver (st + j) 0)):=rfl
@[simp] theorem Zg (n esz d o : Nat) (i : V) : Ao (.ixaA n esz) [.fa d o,i] = (idx n i).bind fun j=>some (.fa d (o + j * esz)):=rfl
@[simp] theorem Zf (n esz : Nat) (cs : List I) (i : V) : Ao (.ixaA n esz) [.m (.pt cs),i] = (idx n i).bind fun j=>some (.m (.pt (cs.drop (j * esz)))):=rfl
@[simp] theorem px_ixs (l : List Nat) (i : V) : Ao .ixs [.m (.s l),i] = (idx l.length i).bind fun j=>(nth l j).bind fun c=>some (.m (.i .u8 (c : Int))):=rfl
theorem AV {α : Type} : ∀ (l : List α) (j : Nat),nth l j = l[j]?
  | [],n=>by cases n <;> rfl
  | _ :: _,0=>rfl
  | _ :: r,n + 1=>by rw [TI,AV r n]; simp
@[simp] theorem px_slc_s (lo hi mx : Bool) (l : List Nat) (vs : List V) : Ao (.slc 0 lo hi mx) (.m (.s l) :: vs) = gd (!mx) ((HN l.length lo hi mx vs).bind fun p=>some (.m (.s ((l.drop p.1).take (p.2 - p.1))))):=rfl
@[simp] theorem bnds_ff (n : Nat) : HN n false false false [] = some (0,n):=rfl
@[simp] theorem XD (n : Nat) (a : V) : HN n true false false [a] = (bnd n a).bind fun l=>some (l,n):=rfl
@[simp] theorem bnds_ft (n : Nat) (b : V) : HN n false true false [b] = (bnd n b).bind fun h=>some (0,h):=rfl
@[simp] theorem bnds_tt (n : Nat) (a b : V) : HN n true true false [a,b] = (bnd n b).bind fun h=>(bnd h a).bind fun l=>some (l,h):=rfl
@[simp] theorem Zb (M : Mem) (n esz : Nat) (lo hi mx : Bool) (cs : List I) (vs : List V) : readX M (.slcA n esz lo hi mx) (.m (.pt cs) :: vs) = gd (Nat.beq cs.length (n * esz) && Nat.ble n 9223372036854775807) ((HN n lo hi mx vs).bind fun p=>some (match mx || Nat.beq p.2 n with
      | true=>.ls (((BS esz n cs).drop p.1).take (p.2 - p.1))
      | false=>.m (.sl (((BS esz n cs).drop p.1).take (p.2 - p.1))))):=rfl
@[simp] theorem nat_beq (a b : Nat) : Nat.beq a b = decide (a = b):=ER a b
@[simp] theorem Aau : DY 4 (.m (.nl 4)) = some true:=rfl
@[simp] theorem Aat (es : List (List I)) : DY 4 (.m (.sl es)) = some false:=rfl
@[simp] theorem Aav (es : List (List I)) : DY 4 (.ls es) = some false:=rfl
@[simp] theorem Zl (a b c d e : Nat) (f : Bool) : DY 4 (.sl a b c d e f) = some false:=rfl
/- Appending to rows. -/
@[simp] theorem Gm (c : Bc) (M : Mem) (ty esz b : Nat) (s x : V) : Am c M (.app ty esz b) [s,x] = match x with
    | .m (.s l)=>EJ M ty esz b s (l.map fun c : Nat=>[.m (.i .u8 (Int.ofNat c))])
    | x=>(elems M.H x).bind fun xs=>EJ M ty esz b s xs:=rfl
@[simp] theorem elems_nl (H : Hp) : elems H (.m (.nl 4)) = some []:=rfl
@[simp] theorem elems_sl (H : Hp) (es : List (List I)) : elems H (.m (.sl es)) = some (DG es):=rfl
@[simp] theorem elems_ls (H : Hp) (es : List (List I)) : elems H (.ls es) = some (DG es):=rfl
@[simp] theorem immS_nil : DG [] = []:=rfl
@[simp] theorem Aax (e : List I) (r : List (List I)) : DG (e :: r) = e.map .m :: DG r:=rfl
@[simp] theorem Ud : EI [] [] [] = some true:=rfl
@[simp] theorem QJ (k : Nat) (ks : List Nat) (x y : I) (xs ys : List I) : EI (k :: ks) (x :: xs) (y :: ys) = (eqC k x y).bind fun r=>(EI ks xs ys).bind fun rs=>some (r && rs):=rfl
@[simp] theorem AaN (k : IntKind) (x y : Int) : eqC 1 (.i k x) (.i k y) = some (decide (x = y)):=by
  simp only [eqC,Je,Fi]
  rfl
@[simp] theorem eqC_b (x y : Bool) : eqC 0 (.b x) (.b y) = some (x == y):=rfl
@[simp] theorem eqC_s (x y : List Nat) : eqC 2 (.s x) (.s y) = some (decide (x = y)):=by
  simp only [eqC,Ik]
  rfl
/- Calls of a function's value. -/
def CavK (G : Cfg) (g : Option V) (vs : Option (List V)) (s : St) (d : Dst) (r : List Op) (k : K) : Prop:=Cx g fun g=>match g with
  | .m (.fn f cap)=>HK G f (vs.map fun l=>l ++ cap.map .m) s d r k
  | .fn f cap=>HK G f (vs.map fun l=>l ++ cap) s d r k
  | .yl r0=>HK G yN (vs.map fun l=>.yl r0 :: l) s d r k
  | _=>False
section
variable {G : Cfg}
theorem Vq (hG : Bo G) (d : Dst) (g : Opnd) (az : List Opnd) (s : St) (r : List Op) (k : K) : BJ G (some s) (⟨d,.l .cav,g :: az,none⟩ :: r) k = CavK G (evA s g) (Ak (evA s) az) s d r k:=by
  simp only [BJ,AU,Em hG,CavK]
  apply propext
  simp only [Gj,Dz,Av,AcG,AT,gd,evO,Ak,Acu,Cx,HK,Ret]
  constructor
  · rintro ⟨n,s',⟨vs,⟨gv,hg,as',has,hvs⟩,⟨v,M⟩,hl,hset⟩,hq⟩
    simp only [Acv] at hvs
    subst hvs
    refine ⟨gv,hg,?_⟩
    simp only [Am] at hl
    split at hl
    · rename_i f cap
      simp only [Acu,Acv,Acw] at hl
      obtain ⟨⟨r0,H'⟩,h2,rfl,rfl⟩:=hl
      exact ⟨_,by rw [has]; rfl,n,_,_,h2,s',hset,hq⟩
    · rename_i f cap
      simp only [Acu,Acv,Acw] at hl
      obtain ⟨⟨r0,H'⟩,h2,rfl,rfl⟩:=hl
      exact ⟨_,by rw [has]; rfl,n,_,_,h2,s',hset,hq⟩
    · rename_i r0
      simp only [Acu,Acv,Acw] at hl
      obtain ⟨⟨u0,H'⟩,h2,rfl,rfl⟩:=hl
      exact ⟨_,by rw [has]; rfl,n,_,_,h2,s',hset,hq⟩
    · cases hl
  · rintro ⟨gv,hg,h⟩
    split at h
    · rename_i f cap
      obtain ⟨vs,hvs,n,v,H',h2,s',hset,hq⟩:=h
      cases ha : Ak (evA s) az with
      | none=>rw [ha] at hvs; cases hvs
      | some as' =>
        rw [ha] at hvs
        cases hvs
        refine ⟨n,s',⟨_,⟨_,hg,as',rfl,rfl⟩,(v,{ s.M with H:=H' }),?_,hset⟩,hq⟩
        simp only [Am,Acu]
        exact ⟨(v,H'),h2,rfl⟩
    · rename_i f cap
      obtain ⟨vs,hvs,n,v,H',h2,s',hset,hq⟩:=h
      cases ha : Ak (evA s) az with
      | none=>rw [ha] at hvs; cases hvs
      | some as' =>
        rw [ha] at hvs
        cases hvs
        refine ⟨n,s',⟨_,⟨_,hg,as',rfl,rfl⟩,(v,{ s.M with H:=H' }),?_,hset⟩,hq⟩
        simp only [Am,Acu]
        exact ⟨(v,H'),h2,rfl⟩
    · rename_i r0
      obtain ⟨vs,hvs,n,v,H',h2,s',hset,hq⟩:=h
      cases ha : Ak (evA s) az with
      | none=>rw [ha] at hvs; cases hvs
      | some as' =>
        rw [ha] at hvs
        cases hvs
        refine ⟨n,s',⟨_,⟨_,hg,as',rfl,rfl⟩,(v,{ s.M with H:=H' }),?_,hset⟩,hq⟩
        simp only [Am,Acu]
        exact ⟨(v,H'),h2,rfl⟩
    · exact h.elim
theorem Ba {f : Nat} {is : List I} {vs : List V} {H H0 : Hp} {v : V} (hp : G.prim f = none) (hs : G.sh f = false) (h : Gives G f (is.map .m) H0 v H0) (hv : Ak (view 20 H) vs = some is)
    (hr : (vs.flatMap DN = [] /\ vs.all BE = true) \/ (vs.flatMap DN ≠ [] /\ Gg v = true)) : Gives G f vs H v H:=by
  obtain ⟨n,h⟩:=h
  cases n with
  | zero=>simp [Bm] at h
  | succ n =>
    refine ⟨n + 1,?_⟩
    simp only [Bm,hp,hs] at h ⊢
    cases hfn : G.fn f with
    | none =>
      rw [hfn] at h
      simp only [Af] at h
      obtain ⟨_,h⟩:=h
      cases is <;> simp [DF] at h
    | some fn =>
    rw [hfn] at h
    simp only at h ⊢
    have hm : ∀ (l : List I),Ak (view 20 H0) (l.map V.m) = some l:=by
      intro l
      induction l with
      | nil=>rfl
      | cons a r ih=>simp only [Adi,Ak,Mi,ih]; rfl
    have hz : (is.map V.m).flatMap DN = []:=by
      induction is with
      | nil=>rfl
      | cons a r _=>simp [DN,GP]
    unfold DK at h ⊢
    simp only [hm,hz,Acu] at h
    obtain ⟨is',he,⟨v1,H1⟩,hev,r,hr1,h2⟩:=h
    cases he
    have hrv : r = v:=by
      cases hsh : (is.map V.m).all BE with
      | false=>rw [hsh] at h2; simp at h2
      | true=>rw [hsh] at h2; simp at h2; exact h2
    subst hrv
    simp only [hv,AcG,hev,hr1]
    rcases hr with ⟨e1,e2⟩ | ⟨e1,e2⟩
    · rw [e1]
      simp [e2]
    · cases hl : vs.flatMap DN with
      | nil=>exact absurd hl e1
      | cons a b=>simp [e2]
end
/- Shifts, and the last bit. -/
@[simp] theorem Abf : KB .i64 = 64:=rfl
@[simp] theorem Abe : KB .u64 = 64:=rfl
@[simp] theorem bx_shr (k k' : IntKind) (x y : Int) : DI .shr (.m (.i k x)) (.m (.i k' y)) = gd (decide (0 <= y)) (some (.m (.i k (x / ((2 ^ min y.toNat (KB k) : Nat) : Int))))):=by
  cases y with
  | ofNat n =>
    have : decide (0 <= Int.ofNat n) = true:=by simp
    rw [this,FE,<- Int.fdiv_eq_ediv_of_nonneg _ (Int.natCast_nonneg _)]
    rfl
  | negSucc n=>rfl
@[simp] theorem bx_shl (k k' : IntKind) (x y : Int) : DI .shl (.m (.i k x)) (.m (.i k' y)) = gd (decide (0 <= y)) (some (.m (.i k (wr k (x * ((2 ^ min y.toNat (KB k) : Nat) : Int)))))):=by
  cases y with
  | ofNat n =>
    have : decide (0 <= Int.ofNat n) = true:=by simp
    rw [this,FE]
    rfl
  | negSucc n=>rfl
theorem QW (k : IntKind) (x y : Int) : DI .and (.m (.i k x)) (.m (.i k y)) = some (.m (.i k (wr k (Int.ofNat (Nat.land (DV k x) (DV k y)))))):=by simp [DI,arX,vi]
@[simp] theorem bx_and1 (x : Int) : DI .and (.m (.i .i64 x)) (.m (.i .i64 1)) = some (.m (.i .i64 (x % 2))):=by
  have h1 : DV .i64 1 = 1:=rfl
  have h2 : Nat.land (DV .i64 x) 1 = DV .i64 x % 2:=Nat.and_one_is_mod _
  have h3 : ((DV .i64 x % 2 : Nat) : Int) = x % 2:=by
    cases x with
    | ofNat m=>simp only [DV,Jz,Int.ofNat_eq_natCast]; omega
    | negSucc m=>simp only [DV,Jz]; omega
  rw [QW,h1,h2]
  have h4 : (Int.ofNat (DV .i64 x % 2)) = x % 2:=h3
  rw [h4,Aa (by omega) (by omega)]
/- Rows of mutable memory. -/
@[simp] theorem AaF (s : St) (a b c : Nat) : AT s (.l (.bxs a b c)) = true:=rfl
@[simp] theorem loud_bxs (c : Bc) (M : Mem) (ty esz n : Nat) (x : V) : Am c M (.bxs ty esz n) [x] = (Ay x).bind fun cs=>gd (Nat.beq cs.length (n * esz) && Nat.ble 1 esz && Nat.ble 1 n && Nat.ble n 9223372036854775807) (some (.pt M.H.length n 0 0,{ M with H:=M.H ++ [.cs ty esz (BS esz n cs) 0 false] })):=rfl
@[simp] theorem loud_als (c : Bc) (M : Mem) (ty esz n : Nat) (z : List V) : Am c M (.als ty esz n z) [] = gd (Nat.beq z.length (n * esz) && Nat.ble 1 esz && Nat.ble 1 n && Nat.ble n 9223372036854775807) (some (.pt M.H.length n 0 0,{ M with H:=M.H ++ [.cs ty esz (BS esz n z) 0 false] })):=rfl
@[simp] theorem WQ (n esz r ver ix o : Nat) (i : V) : Ao (.ixaA n esz) [.pt r ver ix o,i] = (idx n i).bind fun j=>some (.pt r ver ix (o + j * esz)):=rfl
@[simp] theorem WJ (M : Mem) (n esz r ver : Nat) (lo hi mx : Bool) (vs : List V) : readX M (.slcA n esz lo hi mx) (.pt r ver 0 0 :: vs) = (nth M.H r).bind fun row=>match row with
      | .cs _ esz' es _ _=>gd (Nat.beq esz esz' && Nat.beq es.length n && Nat.beq ver n) ((HN n lo hi mx vs).bind fun p=>some (.sl r ver esz p.1 (p.2 - p.1) (mx || Nat.beq p.2 n)))
      | _=>none:=rfl
@[simp] theorem ZP (M : Mem) (sz r ver ix off : Nat) : readA M sz (.pt r ver ix off) = (nth M.H r).bind fun row=>match row with
    | .cs _ esz es base _=>gd (Nat.ble base ver && (Nat.ble (off + sz) esz || Nat.beq ver es.length)) (DU esz es ix off sz)
    | _=>none:=rfl
@[simp] theorem nat_ble (a b : Nat) : Nat.ble a b = decide (a <= b):=BG a b
@[simp] theorem chunk_0 {α : Type} (e : Nat) (l : List α) : BS e 0 l = []:=rfl
@[simp] theorem chunk_s {α : Type} (e n : Nat) (l : List α) : BS e (n + 1) l = l.take e :: BS e n (l.drop e):=rfl
@[simp] theorem MV : ∀ (E : Env) (n : Nat) (x : V),BQ (BO E n x) n = some x
  | [],n,x=>by simp
  | (k,y) :: r,n,x=>by
    rw [GJ]
    by_cases h1 : n < k
    · rw [AcC h1]; simp
    · rw [Acz h1]
      by_cases h2 : k = n
      · rw [AcC h2]; simp
      · rw [Acz h2,Co,Acz h2,MV r n x]
@[simp] theorem TV : ∀ (B : List (Nat × List V)) (n : Nat) (x : List V),getB (DE B n x) n = some x
  | [],n,x=>by simp
  | (k,y) :: r,n,x=>by
    rw [DQ]
    by_cases h2 : k = n
    · rw [AcC h2]; simp
    · rw [Acz h2]
      by_cases h3 : n < k
      · rw [AcC h3]; simp
      · rw [Acz h3,Dl,Acz h2,TV r n x]
@[simp] theorem Tm : ∀ (B : List (Nat × List V)) (n : Nat) (x y : List V),DE (DE B n x) n y = DE B n y
  | [],n,x,y=>by simp
  | (k,z) :: r,n,x,y=>by
    rw [DQ,DQ]
    by_cases h2 : k = n
    · rw [AcC h2,AcC h2]; simp
    · rw [Acz h2,Acz h2]
      by_cases h3 : n < k
      · rw [AcC h3,AcC h3]; simp
      · rw [Acz h3,Acz h3,DQ,Acz h2,Acz h3,Tm r n x y]
@[simp] theorem Hc : ∀ (E : Env) (m n : Nat) (x : V),m ≠ n -> BQ (BO E m x) n = BQ E n
  | [],m,n,x,h=>by simp [h]
  | (k,y) :: r,m,n,x,h=>by
    rw [GJ]
    by_cases h1 : m < k
    · rw [AcC h1,Co,Acz h]
    · rw [Acz h1]
      by_cases h2 : k = m
      · subst h2
        rw [AcC rfl,Co,Co,Acz h,Acz h]
      · rw [Acz h2,Co,Co,Hc r m n x h]
@[simp] theorem YX (l : List V) : DJ 0 l = some []:=rfl
@[simp] theorem YY (n : Nat) (x : V) (r : List V) : DJ (n + 1) (x :: r) = (DJ n r).bind fun l=>some (x :: l):=by
  unfold DJ
  simp only [List.take_succ_cons,Adk,ER]
  by_cases h : (r.take n).length = n
  · have : (r.take n).length + 1 = n + 1:=by omega
    simp only [h,decide_true,FE,AcG]
  · have : ¬ (r.take n).length + 1 = n + 1:=by omega
    simp only [h,this,decide_false,TW,Option.bind_none]
/- The greatest and the least. -/
@[simp] theorem px_mm (mx : Bool) (k : IntKind) (x : Int) (r : List V) : Ao (.mm mx) (.m (.i k x) :: r) = mmX mx k x r:=rfl
@[simp] theorem mmX_nil (mx : Bool) (k : IntKind) (x : Int) : mmX mx k x [] = some (.m (.i k x)):=rfl
theorem Xe (x y : Int) : Aai x y = max x y:=by
  unfold Aai
  rw [Fe]
  by_cases h : x < y
  · simp only [h,decide_true]; omega
  · simp only [h,decide_false]; omega
theorem Xd (x y : Int) : Aag x y = min x y:=by
  unfold Aag
  rw [Fe]
  by_cases h : y < x
  · simp only [h,decide_true]; omega
  · simp only [h,decide_false]; omega
@[simp] theorem mmX_max (k k' : IntKind) (x y : Int) (r : List V) : mmX true k x (.m (.i k' y) :: r) = mmX true k (max x y) r:=by rw [<- Xe]; rfl
@[simp] theorem mmX_min (k k' : IntKind) (x y : Int) (r : List V) : mmX false k x (.m (.i k' y) :: r) = mmX false k (min x y) r:=by rw [<- Xd]; rfl
end Go.Mx
/- Walking the machine: rules for rows of mutable memory. -/
namespace Go.Mx
/- Rows of one cell an element. -/
@[simp] theorem loud_mks (c : Bc) (M : Mem) (ty esz : Nat) (z : List V) (b : Nat) (a : V) (n : Int) : Am c M (.mks ty esz z b) [a,.m (.i .i64 n)] = (Zj n).bind fun c=>(bnd c a).bind fun n=>gd (Nat.ble (c * b) 281474976710656 && Nat.ble c 9223372036854775807 && Nat.ble 1 esz && Nat.beq z.length esz)
      (some (.sl M.H.length n esz 0 n (Nat.beq n c),{ M with H:=M.H ++ [.cs ty esz (List.replicate n z) 0 false] })):=by
  cases n <;> rfl
@[simp] theorem Aaf (n : Nat) : Zj (n : Int) = some n:=rfl
@[simp] theorem readR_10 (es : List (List V)) (ix : Nat) : DU 1 es ix 0 1 = (nth es ix).bind fun e=>DJ 1 e:=rfl
@[simp] theorem YW (M : Mem) (xs : List V) (r ver ix off : Nat) : DO M xs (.pt r ver ix off) = (nth M.H r).bind fun row=>match row with
    | .cs ty esz es _ fz=>gd (!fz && Nat.beq ver es.length) ((DD esz es ix off xs).bind fun es'=>(Bl M.H r (.cs ty esz es' es.length false)).bind fun H'=>some { M with H:=H' })
    | _=>none:=rfl
@[simp] theorem ZC (es : List (List V)) (ix : Nat) (x : V) : DD 1 es ix 0 [x] = (nth es ix).bind fun e=>(Fw e 0 [x]).bind fun e'=>Bl es ix e':=rfl
theorem BF {α : Type} : ∀ (l : List α) (n : Nat) (x : α),n < l.length -> Bl l n x = some (l.set n x)
  | [],n,x,h=>by simp at h
  | _ :: r,0,x,h=>rfl
  | y :: r,n + 1,x,h=>by
    simp only [Adk] at h
    rw [Oo,BF r n x (by omega)]
    rfl
@[simp] theorem Lw : ∀ (B : List (Nat × List V)) (m n : Nat) (x : List V),m ≠ n -> getB (DE B m x) n = getB B n
  | [],m,n,x,h=>by simp [h]
  | (k,y) :: r,m,n,x,h=>by
    rw [DQ]
    by_cases h2 : k = m
    · subst h2
      rw [AcC rfl,Dl,Dl,Acz h,Acz h]
    · rw [Acz h2]
      by_cases h3 : m < k
      · rw [AcC h3,Dl,Acz h]
      · rw [Acz h3,Dl,Dl,Lw r m n x h]
end Go.Mx
/- Walking the machine: appending to rows of ints. -/
namespace Go.Mx
def Bh (l : List Int) : List (List V):=l.map fun x=>[.m (.i .i64 x)]
def Ec (l : List Int) : List (List I):=l.map fun x=>[.i .i64 x]
theorem Fb (l : List Int) : (Bh l).length = l.length:=by simp [Bh]
theorem Ck (l : List Int) : (Ec l).length = l.length:=by simp [Ec]
theorem Oq (l : List Int) (x : Int) : Bh l ++ [[.m (.i .i64 x)]] = Bh (l ++ [x]):=by simp [Bh]
theorem CB {l : List Int} {i : Nat} {x : Int} (h : l[i]? = some x) : nth (Ec l) i = some [.i .i64 x]:=by
  rw [AV]; simp [Ec,h]
@[simp] theorem appX_nl (M : Mem) (ty esz b : Nat) (x : List V) (xs : List (List V)) : EJ M ty esz b (.m (.nl 4)) (x :: xs) = Bu M ty esz b (x :: xs):=rfl
@[simp] theorem Ql (M : Mem) (ty esz b : Nat) (es : List (List V)) : Bu M ty esz b es = gd (Nat.ble (es.length * b) 140737488355328 && Nat.ble 1 esz && es.all fun e=>Nat.beq e.length esz && e.all CR)
    (some (.sl M.H.length es.length esz 0 es.length false,{ M with H:=M.H ++ [.cs ty esz es 0 false] })):=rfl
end Go.Mx
/- Walking the machine: induction on a measure; slices that may be nil; tests kept as ifs. Nothing here speaks of a program. -/
namespace Go.Mx
theorem Bk {α : Type} (m : α -> Nat) {P : α -> Prop} (h : ∀ a,(∀ b,m b < m a -> P b) -> P a) : ∀ a,P a:=fun a=>(measure m).wf.induction a h
def IsSl (y : I) (es : List (List I)) : Prop:=y = .sl es \/ (y = .nl 4 /\ es = [])
theorem Be (es : List (List I)) : IsSl (.sl es) es:=.inl rfl
theorem AH : IsSl (.nl 4) []:=.inr ⟨rfl,rfl⟩
theorem idx_0 (v : V) : idx 0 v = none:=by
  unfold idx
  split
  · rfl
  · rfl
theorem IsSl.len {y : I} {es : List (List I)} (h : IsSl y es) : Ao (.len false) [.m y] = some (.m (.i .i64 es.length)):=by
  rcases h with rfl | ⟨rfl,rfl⟩ <;> rfl
theorem IsSl.ixa {y : I} {es : List (List I)} (h : IsSl y es) (esz : Nat) (i : V) : Ao (.ixa esz) [.m y,i] = (idx es.length i).bind fun j=>(nth es j).bind fun e=>gd (Nat.beq e.length esz) (some (.m (.pt e))):=by
  rcases h with rfl | ⟨rfl,rfl⟩
  · rfl
  · rw [Adp,idx_0]; rfl
theorem IsSl.elems {y : I} {es : List (List I)} (h : IsSl y es) (H : Hp) : Mx.elems H (.m y) = some (DG es):=by
  rcases h with rfl | ⟨rfl,rfl⟩ <;> rfl
theorem IsSl.rules {y : I} {es : List (List I)} (h : IsSl y es) : (Ao (.len false) [.m y] = some (.m (.i .i64 es.length))) /\ (∀ (esz : Nat) (i : V),Ao (.ixa esz) [.m y,i] = (idx es.length i).bind fun j=>(nth es j).bind fun e=>gd (Nat.beq e.length esz) (some (.m (.pt e)))) /\ (∀ H,Mx.elems H (.m y) = some (DG es)):=⟨h.len,h.ixa,h.elems⟩
def subI (y : I) (a b : Nat) : I:=match y with
  | .sl es=>.sl ((es.drop a).take (b - a))
  | z=>z
theorem IsSl.sub {y : I} {es : List (List I)} (h : IsSl y es) (a b : Nat) : IsSl (subI y a b) ((es.drop a).take (b - a)):=by
  rcases h with rfl | ⟨rfl,rfl⟩
  · exact .inl rfl
  · exact .inr ⟨rfl,by simp⟩
theorem IsSl.slc {y : I} {es : List (List I)} (h : IsSl y es) {esz : Nat} (he : Xb esz es = true) (h0 : Nat.beq esz 0 = false) (lo hi : Bool) (vs : List V) : Ao (.slc esz lo hi false) (.m y :: vs) = (HN es.length lo hi false vs).bind fun p=>some (.m (subI y p.1 p.2)):=by
  rcases h with rfl | ⟨rfl,rfl⟩
  · show gd (eqB false (Nat.beq esz 0)) (gd (Xb esz es) _) = _
    rw [h0,he]
    rfl
  · show gd (eqB false (Nat.beq esz 0)) ((HN 0 lo hi false vs).bind fun _=>some (V.m (.nl 4))) = _
    rw [h0]
    rfl
/- A region's own slots as a stack: what is set last lies ahead. -/
def QU : Env -> Env
  | []=>[]
  | (n,v) :: r=>BO (QU r) n v
theorem Ie : ∀ (L : Env) (n : Nat),BQ (QU L) n = BQ L n
  | [],n=>rfl
  | (k,x) :: r,n=>by
    simp only [QU]
    by_cases h : k = n
    · subst h; rw [MV,Co,AcC rfl]
    · rw [Hc _ _ _ _ h,Co,Acz h,Ie r n]
theorem Qk (d n : Nat) (x : V) (r : Env) (h : BK d ((n,x) :: r) = true) : BK d [(n,x)] = true /\ BK d r = true:=by
  cases x <;> simp_all [BK]
theorem IM (d n : Nat) (x : V) (r : Env) (h1 : BK d [(n,x)] = true) (h2 : BK d r = true) : BK d ((n,x) :: r) = true:=by
  cases x <;> simp_all [BK]
theorem JV (d n : Nat) (x : V) (hx : BK d [(n,x)] = true) : ∀ (L : Env),BK d L = true -> BK d (BO L n x) = true
  | [],_=>hx
  | (k,y) :: r,h=>by
    obtain ⟨h1,h2⟩:=Qk d k y r h
    rw [GJ]
    by_cases a : n < k
    · rw [AcC a]; exact IM d n x _ hx h
    · rw [Acz a]
      by_cases b : k = n
      · rw [AcC b]; exact IM d n x _ hx h2
      · rw [Acz b]; exact IM d k y _ h1 (JV d n x hx r h2)
theorem Fx (d : Nat) : ∀ (L : Env),BK d L = true -> BK d (QU L) = true
  | [],_=>rfl
  | (k,x) :: r,h=>by
    obtain ⟨h1,h2⟩:=Qk d k x r h
    exact JV d k x h1 _ (Fx d r h2)
def nf1 (d : Nat) : V -> Bool
  | .fa k _=>!Nat.beq k d
  | _=>true
def nf (d : Nat) : Env -> Bool
  | []=>true
  | (_,x) :: r=>nf1 d x && nf d r
theorem Lv (d : Nat) : ∀ (L : Env),nf d L = true -> BK d L = true
  | [],_=>rfl
  | (k,x) :: r,h=>by
    simp only [nf,Acx] at h
    refine IM d k x r ?_ (Lv d r h.2)
    have h1:=h.1
    cases x <;> simp_all [BK,nf1]
@[simp] theorem nf_nil (d : Nat) : nf d [] = true:=by simp only [nf]
@[simp] theorem nf_cons (d n : Nat) (x : V) (r : Env) : nf d ((n,x) :: r) = (nf1 d x && nf d r):=by simp only [nf]
@[simp] theorem nf1_m (d : Nat) (x : I) : nf1 d (.m x) = true:=by simp only [nf1]
@[simp] theorem nf1_fa (d k o : Nat) : nf1 d (.fa k o) = decide (k ≠ d):=by simp only [nf1]; rw [Adg]; simp
@[simp] theorem nf1_tu (d : Nat) (a : List V) : nf1 d (.tu a) = true:=by simp only [nf1]
def cs (s : St) : St:={ s with L:=QU s.L }
theorem Hi (s : St) : evA (cs s) = evA s:=by
  funext o
  cases o with
  | v n=>rfl
  | l n=>exact Ie s.L n
  | k x=>rfl
theorem DP (s : St) (g : Option (Opnd × Bool)) : Av (cs s) g = Av s g:=by
  cases g with
  | none=>rfl
  | some g=>rw [GE,GE,Hi]
def CQ (s : St) (d : Dst) (x : V) : Option St:=match d with
  | .no=>some s
  | .v n=>gd (DX n x) (some { s with E:=BO s.E n x })
  | .l n=>some { s with L:=(n,x) :: s.L }
theorem Dv (s : St) (d : Dst) (x : V) : (CQ s d x).map cs = CH (cs s) d x:=by
  cases d with
  | no=>rfl
  | v n =>
    simp only [CQ,CH]
    cases DX n x <;> rfl
  | l n=>rfl
def Ax (G : Cfg) (s : Option St) (ops : List Op) (k : K) : Prop:=BJ G (s.map cs) ops k
def DM (G : Cfg) (f : Nat) (vs : Option (List V)) (s : St) (d : Dst) (r : List Op) (k : K) : Prop :=
  Cx vs fun vs=>Ret G f vs s.M.H fun v H'=>Ax G (CQ { s with M:={ s.M with H:=H' } } d v) r k
def Gb (G : Cfg) (q : Option Bool) (f : Nat) (az : List Opnd) (s : St) (d : Dst) (r : List Op) (k : K) : Prop:=Cx q fun q=>if q then DM G f (Ak (evA s) az) s d r k else Ax G (CQ s d .un) r k
def SW (G : Cfg) (g : Option V) (vs : Option (List V)) (s : St) (d : Dst) (r : List Op) (k : K) : Prop:=Cx g fun g=>match g with
  | .m (.fn f cap)=>DM G f (vs.map fun l=>l ++ cap.map .m) s d r k
  | .fn f cap=>DM G f (vs.map fun l=>l ++ cap) s d r k
  | .yl r0=>DM G yN (vs.map fun l=>.yl r0 :: l) s d r k
  | _=>False
def Mf (G : Cfg) (q : Option Bool) (g : Opnd) (az : List Opnd) (s : St) (d : Dst) (r : List Op) (k : K) : Prop:=Cx q fun q=>if q then SW G (evA s g) (Ak (evA s) az) s d r k else Ax G (CQ s d .un) r k
def GH (s : St) (o : OP) (az : List Opnd) (d : Dst) : Option St:=(Ak (evA s) az).bind fun vs=>(Ao o vs).bind fun v=>CQ s d v
def GG (s : St) (o : OR) (az : List Opnd) (d : Dst) : Option St:=(Ak (evA s) az).bind fun vs=>(readX s.M o vs).bind fun v=>CQ s d v
def Bf (s : St) (o : OL) (az : List Opnd) (d : Dst) : Option St:=(Ak (evA s) az).bind fun vs=>(Am (fun _ _ _=>none) s.M o vs).bind fun p=>CQ { s with M:=p.2 } d p.1
theorem Di {α β γ : Type} (x : Option α) (f : α -> Option β) (g : β -> γ) : (x.bind f).map g = x.bind fun a=>(f a).map g:=by cases x <;> rfl
theorem Mo (s : St) (o : OP) (az : List Opnd) (d : Dst) : (GH s o az d).map cs = JH (cs s) o az d:=by
  simp only [GH,JH,Di,Dv,Hi]
theorem Mn (s : St) (o : OR) (az : List Opnd) (d : Dst) : (GG s o az d).map cs = JG (cs s) o az d:=by
  simp only [GG,JG,Di,Dv,Hi]
  rfl
theorem Mp (s : St) (o : OL) (az : List Opnd) (d : Dst) (hf : AT s (.l o) = true) : (Bf s o az d).map cs = stepL (cs s) o az d:=by
  have h : AT (cs s) (.l o) = true:=by
    cases o with
    | alp d z=>exact Fx d _ hf
    | bxp d z=>exact Fx d _ hf
    | _=>rfl
  simp only [Bf,stepL,h,FE,Di,Hi]
  congr 1
  funext vs
  show (Am _ s.M o vs).bind _ = (Am _ s.M o vs).bind _
  congr 1
  funext p
  exact Dv { s with M:=p.2 } d p.1
section
variable {G : Cfg}
theorem Tx (ops : List Op) (E : Env) (M : Mem) (k : K) : Run G (.reg ops) ⟨E,[],M⟩ k = Ax G (some ⟨E,[],M⟩) ops k:=Mv ops _ k
theorem PZ (s : St) (k : K) : Ax G (some s) [] k = At' G .nm { s with L:=[] } k:=Mz (cs s) k
theorem HV (ops : List Op) (k : K) : Ax G none ops k = False:=JN ops k
theorem TC (b : Bool) (s : Option St) (ops : List Op) (k : K) : Ax G (gd b s) ops k = (b = true /\ Ax G s ops k):=by
  cases b with
  | true=>simp [gd]
  | false=>simp only [gd,HV]; simp
theorem WP (hG : Bo G) (d : Dst) (o : OP) (az : List Opnd) (s : St) (r : List Op) (k : K) : Ax G (some s) (⟨d,.p o,az,none⟩ :: r) k = Ax G (GH s o az d) r k:=by
  unfold Ax
  rw [Mo]
  exact PY hG d o az (cs s) r k
theorem WO (hG : Bo G) (d : Dst) (o : OR) (az : List Opnd) (s : St) (r : List Op) (k : K) : Ax G (some s) (⟨d,.r o,az,none⟩ :: r) k = Ax G (GG s o az d) r k:=by
  unfold Ax
  rw [Mn]
  exact PX hG d o az (cs s) r k
theorem TA (hG : Bo G) (d : Dst) (o : OP) (az : List Opnd) (g : Opnd) (want : Bool) (s : St) (r : List Op) (k : K) :
    Ax G (some s) (⟨d,.p o,az,some (g,want)⟩ :: r) k = Ax G (Bt (Av s (some (g,want))) (GH s o az d) (CQ s d .un)) r k:=by
  unfold Ax
  have : ∀ q a b,(Bt q a b).map cs = Bt q (a.map cs) (b.map cs):=fun q a b=>by
    unfold Bt
    rw [Di]
    congr 1
    funext q
    cases q <;> rfl
  rw [this,Mo,Dv,<- DP]
  exact FR hG d o az g want (cs s) r k
theorem Tz (hG : Bo G) (d : Dst) (o : OR) (az : List Opnd) (g : Opnd) (want : Bool) (s : St) (r : List Op) (k : K) :
    Ax G (some s) (⟨d,.r o,az,some (g,want)⟩ :: r) k = Ax G (Bt (Av s (some (g,want))) (GG s o az d) (CQ s d .un)) r k:=by
  unfold Ax
  have : ∀ q a b,(Bt q a b).map cs = Bt q (a.map cs) (b.map cs):=fun q a b=>by
    unfold Bt
    rw [Di]
    congr 1
    funext q
    cases q <;> rfl
  rw [this,Mn,Dv,<- DP]
  exact FQ hG d o az g want (cs s) r k
theorem Fl (f : Nat) (vs : Option (List V)) (s : St) (d : Dst) (r : List Op) (k : K) : HK G f vs (cs s) d r k = DM G f vs s d r k:=by
  unfold HK DM Ax
  congr 1
  funext vs
  congr 1
  funext v H'
  rw [Dv]
  rfl
theorem Ow (hG : Bo G) (d : Dst) (f : Nat) (az : List Opnd) (s : St) (r : List Op) (k : K) : Ax G (some s) (⟨d,.l (.cal f),az,none⟩ :: r) k = DM G f (Ak (evA s) az) s d r k:=by
  rw [<- Fl,<- Hi]
  exact GO hG d f az (cs s) r k
theorem Lr (hG : Bo G) (d : Dst) (f : Nat) (az : List Opnd) (g : Opnd) (want : Bool) (s : St) (r : List Op) (k : K) :
    Ax G (some s) (⟨d,.l (.cal f),az,some (g,want)⟩ :: r) k = Gb G (Av s (some (g,want))) f az s d r k:=by
  have h:=DT hG d f az g want (cs s) r k
  have e : Jy G (Av (cs s) (some (g,want))) f az (cs s) d r k = Gb G (Av s (some (g,want))) f az s d r k:=by
    unfold Jy Gb
    rw [DP,Hi]
    congr 1
    funext q
    cases q with
    | true=>simp [Fl]
    | false=>unfold Ax; simp [Dv]
  exact h.trans e
theorem Lq (hG : Bo G) (d : Dst) (o : OL) (az : List Opnd) (s : St) (r : List Op) (k : K) (h1 : ∀ f,o ≠ .cal f) (h2 : o ≠ .cav) (hf : AT s (.l o) = true) : Ax G (some s) (⟨d,.l o,az,none⟩ :: r) k = Ax G (Bf s o az d) r k:=by
  unfold Ax
  rw [Mp s o az d hf]
  exact GY hG d o az (cs s) r k fun c vs=>IR h1 h2 c _ vs
theorem TB (hG : Bo G) (d : Dst) (o : OL) (az : List Opnd) (g : Opnd) (want : Bool) (s : St) (r : List Op) (k : K) (h1 : ∀ f,o ≠ .cal f) (h2 : o ≠ .cav) (hf : AT s (.l o) = true) :
    Ax G (some s) (⟨d,.l o,az,some (g,want)⟩ :: r) k = Ax G (Bt (Av s (some (g,want))) (Bf s o az d) (CQ s d .un)) r k:=by
  unfold Ax
  have : ∀ q a b,(Bt q a b).map cs = Bt q (a.map cs) (b.map cs):=fun q a b=>by
    unfold Bt
    rw [Di]
    congr 1
    funext q
    cases q <;> rfl
  rw [this,Mp s o az d hf,Dv,<- DP]
  have h:=Df hG d (.l o) az g want (cs s) r k
  refine h.trans ?_
  cases hq : Av (cs s) (some (g,want)) with
  | none=>simp [Bt]
  | some q =>
    cases q with
    | true=>simp [Bt,GY hG d o az (cs s) r k fun c vs=>IR h1 h2 c _ vs]
    | false=>simp [Bt]
theorem JO (hG : Bo G) (d : Dst) (g : Opnd) (az : List Opnd) (s : St) (r : List Op) (k : K) : Ax G (some s) (⟨d,.l .cav,g :: az,none⟩ :: r) k = SW G (evA s g) (Ak (evA s) az) s d r k:=by
  have h:=Vq hG d g az (cs s) r k
  refine h.trans ?_
  rw [Hi]
  unfold CavK SW
  congr 1
  funext gv
  cases gv with
  | m x=>cases x <;> simp [Fl]
  | fn f cap=>simp [Fl]
  | yl r0=>simp [Fl]
  | _=>rfl
theorem Ov (hG : Bo G) (d : Dst) (g : Opnd) (az : List Opnd) (gg : Opnd) (want : Bool) (s : St) (r : List Op) (k : K) : Ax G (some s) (⟨d,.l .cav,g :: az,some (gg,want)⟩ :: r) k = Mf G (Av s (some (gg,want))) g az s d r k:=by
  have h:=Df hG d (.l .cav) (g :: az) gg want (cs s) r k
  refine h.trans ?_
  unfold Mf
  rw [DP]
  congr 1
  funext q
  cases q with
  | true =>
    rw [AcC rfl,AcC rfl]
    exact JO hG d g az s r k
  | false=>unfold Ax; simp [Dv]
theorem Ul (hG : Bo G) {f : Nat} {vs : List V} {s : St} {d : Dst} {r : List Op} {k : K} {v : V} {H' : Hp} (h : Gives G f vs s.M.H v H') : DM G f (some vs) s d r k = Ax G (CQ { s with M:={ s.M with H:=H' } } d v) r k:=by
  unfold DM
  rw [AU,ZO hG h]
theorem Ar (f : Nat) (vs : List V) (s : St) (d : Dst) (r : List Op) (k : K) : DM G f (some vs) s d r k = Ret G f vs s.M.H fun v H'=>Ax G (CQ { s with M:={ s.M with H:=H' } } d v) r k:=by simp [DM,AU]
@[simp] theorem cavC_m (f : Nat) (cap : List I) (vs : List V) (s : St) (d : Dst) (r : List Op) (k : K) : SW G (some (.m (.fn f cap))) (some vs) s d r k = DM G f (some (vs ++ cap.map .m)) s d r k:=by simp [SW]
@[simp] theorem cavC_f (f : Nat) (cap vs : List V) (s : St) (d : Dst) (r : List Op) (k : K) : SW G (some (.fn f cap)) (some vs) s d r k = DM G f (some (vs ++ cap)) s d r k:=by simp [SW]
end
attribute [simp] PZ HV TC
@[simp] theorem ZH (s : St) (o : OP) (az : List Opnd) (d : Dst) : GH s o az d = (Ak (evA s) az).bind fun vs=>(Ao o vs).bind fun v=>CQ s d v:=rfl
@[simp] theorem ZG (s : St) (o : OR) (az : List Opnd) (d : Dst) : GG s o az d = (Ak (evA s) az).bind fun vs=>(readX s.M o vs).bind fun v=>CQ s d v:=rfl
@[simp] theorem ZI (s : St) (o : OL) (az : List Opnd) (d : Dst) : Bf s o az d = (Ak (evA s) az).bind fun vs=>(Am (fun _ _ _=>none) s.M o vs).bind fun p=>CQ { s with M:=p.2 } d p.1:=rfl
@[simp] theorem setC_no (s : St) (x : V) : CQ s .no x = some s:=rfl
@[simp] theorem setC_l (s : St) (n : Nat) (x : V) : CQ s (.l n) x = some { s with L:=(n,x) :: s.L }:=rfl
@[simp] theorem setC_vm (s : St) (n : Nat) (x : I) : CQ s (.v n) (.m x) = some { s with E:=BO s.E n (.m x) }:=rfl
@[simp] theorem setC_vun (s : St) (n : Nat) : CQ s (.v n) .un = some { s with E:=BO s.E n .un }:=rfl
@[simp] theorem setC_vls (s : St) (n : Nat) (x : List (List I)) : CQ s (.v n) (.ls x) = some { s with E:=BO s.E n (.ls x) }:=rfl
@[simp] theorem setC_vsl (s : St) (n a b c d e : Nat) (f : Bool) : CQ s (.v n) (.sl a b c d e f) = some { s with E:=BO s.E n (.sl a b c d e f) }:=rfl
@[simp] theorem setC_vpt (s : St) (n a b c d : Nat) : CQ s (.v n) (.pt a b c d) = some { s with E:=BO s.E n (.pt a b c d) }:=rfl
@[simp] theorem setC_vmp (s : St) (n a : Nat) : CQ s (.v n) (.mp a) = some { s with E:=BO s.E n (.mp a) }:=rfl
@[simp] theorem setC_vtu (s : St) (n : Nat) (a : List V) : CQ s (.v n) (.tu a) = some { s with E:=BO s.E n (.tu a) }:=rfl
@[simp] theorem setC_vag (s : St) (n : Nat) (a : List V) : CQ s (.v n) (.ag a) = some { s with E:=BO s.E n (.ag a) }:=rfl
@[simp] theorem setC_vfn (s : St) (n f : Nat) (a : List V) : CQ s (.v n) (.fn f a) = some { s with E:=BO s.E n (.fn f a) }:=rfl
@[simp] theorem setC_vfa (s : St) (n : Nat) : CQ s (.v n) (.fa n 0) = some { s with E:=BO s.E n (.fa n 0) }:=by simp [CQ,DX,gd]
/- simp looks at the state alone, not at the code that is still to come. -/
def cnd (b : Bool) (p q : Prop) : Prop:=match b with
  | true=>p
  | false=>q
@[simp] theorem cnd_true (p q : Prop) : cnd true p q = p:=rfl
theorem QO {b c : Bool} {p q : Prop} (h : b = c) : cnd b p q = cnd c p q:=by rw [h]
theorem VA {b : Bool} {p q : Prop} (h : b = true -> q = p) : q = cnd b p q:=by
  cases b with
  | true=>exact h rfl
  | false=>rfl
theorem Ls {G : Cfg} {s t : Option St} {r : List Op} {k : K} (h : s = t) : Ax G s r k = Ax G t r k:=by rw [h]
theorem Oj {G : Cfg} {x y : Option Bool} {a b : C} {s : St} {k : K} (h : x = y) : VZ G x a b s k = VZ G y a b s k:=by rw [h]
theorem LM {G : Cfg} {f : Nat} {x y : Option (List V)} {s : St} {d : Dst} {r : List Op} {k : K} (h : x = y) : DM G f x s d r k = DM G f y s d r k:=by rw [h]
theorem OH {G : Cfg} {g g' : Option V} {x y : Option (List V)} {s : St} {d : Dst} {r : List Op} {k : K} (h0 : g = g') (h : x = y) : SW G g x s d r k = SW G g' y s d r k:=by rw [h0,h]
theorem Kl {G : Cfg} {x y : Option Bool} {f : Nat} {az : List Opnd} {s : St} {d : Dst} {r : List Op} {k : K} (h : x = y) : Gb G x f az s d r k = Gb G y f az s d r k:=by rw [h]
theorem Lx {G : Cfg} {x y : Option Bool} {g : Opnd} {az : List Opnd} {s : St} {d : Dst} {r : List Op} {k : K} (h : x = y) : Mf G x g az s d r k = Mf G y g az s d r k:=by rw [h]
theorem PV {G : Cfg} {c : C} {s t : St} {k : K} (h : s = t) : Run G c s k = Run G c t k:=by rw [h]
theorem Un {G : Cfg} {e : Ex} {s t : St} {k : K} (h : s = t) : At' G e s k = At' G e t k:=by rw [h]
theorem Aay {n : Nat} {k : IntKind} {x : Int} (h1 : 0 <= x) (h2 : x < n) : idx n (.m (.i k x)) = some x.toNat:=by rw [Aaz]; simp [h1,h2]
theorem Abb {n : Nat} {k : IntKind} {x : Int} (h1 : 0 <= x) (h2 : x <= n) : bnd n (.m (.i k x)) = some x.toNat:=by rw [Abc]; simp [h1,h2]
theorem OJ {x y : List Nat} (h : x.length + y.length <= 9223372036854775807) : DI .add (.m (.s x)) (.m (.s y)) = some (.m (.s (x ++ y))):=by rw [XC]; simp [h]
attribute [simp high] Aay Abb OJ
theorem Ah (G : Cfg) (t : Bool) (a b : C) (s : St) (k : K) : VZ G (some t) a b s k = ((t = true -> Run G a s k) /\ (t = false -> Run G b s k)):=by cases t <;> simp
theorem Ai (G : Cfg) (c : Bool) (a b : Option St) (r : List Op) (k : K) : Ax G (Bt (some c) a b) r k = ((c = true -> Ax G a r k) /\ (c = false -> Ax G b r k)):=by cases c <;> simp
theorem Ad (G : Cfg) (c : Bool) (f : Nat) (az : List Opnd) (s : St) (d : Dst) (r : List Op) (k : K) : Gb G (some c) f az s d r k = ((c = true -> DM G f (Ak (evA s) az) s d r k) /\ (c = false -> Ax G (CQ s d .un) r k)):=by cases c <;> simp [Gb]
theorem Aj (G : Cfg) (c : Bool) (g : Opnd) (az : List Opnd) (s : St) (d : Dst) (r : List Op) (k : K) : Mf G (some c) g az s d r k = ((c = true -> SW G (evA s g) (Ak (evA s) az) s d r k) /\ (c = false -> Ax G (CQ s d .un) r k)):=by cases c <;> simp [Mf]
theorem Al {α : Type} {p : List α} {i : Nat} {c : α} (h : p[i]? = some c) : i < p.length /\ p.drop i = c :: p.drop (i + 1):=by
  have h1 : i < p.length:=(Acy.1 h).1
  exact ⟨h1,by rw [List.drop_eq_getElem_cons h1,(Acy.1 h).2]⟩
theorem Ap {α : Type} {p : List α} {i : Nat} {c : α} (h : p[i]? = some c) : p.take (i + 1) = p.take i ++ [c]:=by
  rw [List.take_add_one,h]; rfl
end Go.Mx
/- Walking: guards decided by arithmetic. Nothing here speaks of a program. -/
namespace Go.Mx
theorem Ac {α : Type} {p : Prop} [Decidable p] (h : p) (x : Option α) : gd (decide p) x = x:=by rw [AcI h]; rfl
theorem Ab {α : Type} (a b : Bool) (x : Option α) : gd (a && b) x = gd a (gd b x):=by cases a <;> rfl
end Go.Mx
/- Loops over functions. Nothing here speaks of a program. -/
namespace Go.Mx
section
variable {G : Cfg}
@[simp] theorem noFaV_yl (r : Nat) : AB (.yl r) = true:=rfl
@[simp] theorem AaU (r : Nat) : Ay (.yl r) = some [.yl r]:=rfl
@[simp] theorem oneV_yl (r : Nat) : CR (.yl r) = true:=rfl
@[simp] theorem setD_vyl (s : St) (n r : Nat) : CH s (.v n) (.yl r) = some { s with E:=BO s.E n (.yl r) }:=rfl
@[simp] theorem ZQ (r : Nat) : Ao .nck [.yl r] = some (.yl r):=rfl
@[simp] theorem noFa_yl (d n k : Nat) (r : Env) : BK d ((n,.yl k) :: r) = BK d r:=rfl
@[simp] theorem allM_yl (k : Nat) (r : List V) : Ct (.yl k :: r) = none:=rfl
@[simp] theorem cavF_fn (f : Nat) (cap : List V) : Xz (.fn f cap) = some (f,cap):=rfl
@[simp] theorem cavF_m (f : Nat) (cap : List I) : Xz (.m (.fn f cap)) = some (f,cap.map .m):=rfl
@[simp] theorem Aar : EC [] = []:=rfl
@[simp] theorem Zk (n : Nat) (x : V) (r : Env) : EC ((n,x) :: r) = match AB x with
    | true=>(n,x) :: EC r
    | false=>rmE (EC r) n:=rfl
@[simp] theorem Za (e : Env) : EX e [] [] = e:=rfl
@[simp] theorem WI (e : Env) (p : Nat) (ps : List Nat) (x : V) (xs : List V) : EX e (p :: ps) (x :: xs) = EX (BO e p x) ps xs:=rfl
def RngG (G : Cfg) (fv : Option V) (dr ps : List Nat) (ca cb : C) (s : St) (k : K) : Prop:=Cx (fv.bind Xz) fun gc =>
  Ret G gc.1 (.yl s.M.H.length :: gc.2) (s.M.H ++ [.lp 0 none (EC (Au dr s.E)) ps ca cb]) fun _ H'=>Cx (Ue s.M.H.length H') fun q=>At' G q.1 { s with M:={ s.M with H:=q.2 } } k
theorem WL (hG : Bo G) (f : Opnd) (dr ps : List Nat) (ca cb : C) (s : St) (k : K) : Run G (.rng f dr ps ca cb) s k = RngG G (evA s f) dr ps ca cb s k:=by
  apply propext
  simp only [Run,Runs,RngG,Cx,evC,Acu,Ret,At',Acv,Acw]
  constructor
  · rintro ⟨n,e,s',⟨fv,hfv,gc,hgc,⟨v,H'⟩,hc,q,hq,rfl,rfl⟩,h⟩
    exact ⟨gc,⟨fv,hfv,hgc⟩,n,v,H',hc,q,hq,h⟩
  · rintro ⟨gc,⟨fv,hfv,hgc⟩,n,v,H',hc,q,hq,h⟩
    exact ⟨n,q.1,_,⟨fv,hfv,gc,hgc,(v,H'),hc,q,hq,rfl,rfl⟩,h⟩
end
end Go.Mx
