/- Walking the machine. Nothing here speaks of a program. -/
import Derived.Test.YtpaddecplgomeaaGreatDoorMach
import Derived.Test.YtpaddecplgomeaaGreatDoorBa
set_option linter.unusedSimpArgs false
set_option linter.unusedVariables false
set_option linter.unusedSectionVars false
/- Walking the machine: what a piece of code comes to, whatever the fuel. Nothing here speaks of a program. -/
namespace Go.Mx
/- More fuel gives the same. -/
def LeC (c d : Bj) : Prop:=∀ f vs H r,c f vs H = some r -> d f vs H = some r
theorem AC {α β : Type} {x y : Option α} {f g : α -> Option β} {r : β} (hx : ∀ a,x = some a -> y = some a) (hf : ∀ a r,f a = some r -> g a = some r) (h : x.bind f = some r) : y.bind g = some r:=by
  simp only [AeC] at h ⊢
  obtain ⟨a,h1,h2⟩:=h
  exact ⟨a,hx a h1,hf a r h2⟩
theorem Vm {c d : Bj} (h : LeC c d) {M : Mem} {o : O} {vs : List V} {r : V × Mem} (he : evO c M o vs = some r) : evO d M o vs = some r:=by
  cases o with
  | p o=>exact he
  | r o=>exact he
  | l o =>
    simp only [evO] at he ⊢
    cases o with
    | cal f =>
      simp only [Ai] at he ⊢
      exact AC (fun a=>h f vs M.H a) (fun _ _ h=>h) he
    | cav =>
      match vs,he with
      | .fn f cap :: xs,he=>simp only [Ai] at he ⊢; exact AC (fun a=>h f _ M.H a) (fun _ _ h=>h) he
      | .m (.fn f cap) :: xs,he=>simp only [Ai] at he ⊢; exact AC (fun a=>h f _ M.H a) (fun _ _ h=>h) he
      | .yl r :: xs,he=>simp only [Ai] at he ⊢; exact AC (fun a=>h yN _ M.H a) (fun _ _ h=>h) he
      | .m (.b _) :: xs,he=>simp [Ai] at he
      | .m (.i _ _) :: xs,he=>simp [Ai] at he
      | .m (.s _) :: xs,he=>simp [Ai] at he
      | .m (.nl _) :: xs,he=>simp [Ai] at he
      | .m .er :: xs,he=>simp [Ai] at he
      | .m (.sl _) :: xs,he=>simp [Ai] at he
      | .m (.pt _) :: xs,he=>simp [Ai] at he
      | .m (.ag _) :: xs,he=>simp [Ai] at he
      | .m (.mp _) :: xs,he=>simp [Ai] at he
      | .un :: xs,he=>simp [Ai] at he
      | .ls _ :: xs,he=>simp [Ai] at he
      | .sl .. :: xs,he=>simp [Ai] at he
      | .pt .. :: xs,he=>simp [Ai] at he
      | .fa .. :: xs,he=>simp [Ai] at he
      | .mp _ :: xs,he=>simp [Ai] at he
      | .ag _ :: xs,he=>simp [Ai] at he
      | .tu _ :: xs,he=>simp [Ai] at he
      | [],he=>simp [Ai] at he
    | _ =>
      match vs,he with
      | [],he=>exact he
      | [_],he=>exact he
      | [_,_],he=>exact he
      | [_,_,_],he=>exact he
      | _ :: _ :: _ :: _ :: _,he=>exact he
theorem LA {c d : Bj} (h : LeC c d) {s s' : St} {o : Op} (he : DH c s o = some s') : DH d s o = some s':=by
  simp only [DH,AeC] at he ⊢
  obtain ⟨q,hq,he⟩:=he
  refine ⟨q,hq,?_⟩
  cases q with
  | true =>
    simp only at he ⊢
    cases hf : AY s o.op with
    | false=>rw [hf] at he; simp [gd] at he
    | true =>
      rw [hf] at he
      simp only [gd,AeC] at he ⊢
      obtain ⟨vs,hvs,p,hp,hs⟩:=he
      exact ⟨vs,hvs,p,Vm h hp,hs⟩
  | false=>exact he
theorem Gh {c d : Bj} (h : LeC c d) : ∀ {ops : List Op} {s s' : St},BK c ops s = some s' -> BK d ops s = some s'
  | [],_,_,he=>he
  | o :: r,s,s',he=>by
    simp only [BK] at he ⊢
    exact AC (fun a=>LA h) (fun a r=>Gh h) he
theorem EA {f g : St -> Option (Ex × St)} (h : ∀ s r,f s = some r -> g s = some r) : ∀ {n m : Nat} {s : St} {r : Ex × St},n <= m -> EO f n s = some r -> EO g m s = some r
  | 0,m,s,r,_,he=>by simp [EO] at he
  | n + 1,0,s,r,hn,_=>by omega
  | n + 1,m + 1,s,r,hn,he=>by
    simp only [EO] at he ⊢
    refine AC (fun a=>h s a) (fun a r ha=>?_) he
    obtain ⟨e,t⟩:=a
    cases e with
    | nm=>exact EA h (by omega) ha
    | _=>exact ha
theorem CB {c d : Bj} (h : LeC c d) {n m : Nat} (hn : n <= m) : ∀ {k : C} {s : St} {r : Ex × St},evC c n k s = some r -> evC d m k s = some r:=by
  intro k
  induction k with
  | skip=>exact fun h=>h
  | reg ops =>
    intro s r he
    simp only [evC] at he ⊢
    exact AC (fun a=>Gh h) (fun _ _ h=>h) he
  | seq a b iha ihb =>
    intro s r he
    simp only [evC] at he ⊢
    refine AC (fun x=>iha) (fun x r hx=>?_) he
    obtain ⟨e,t⟩:=x
    cases e with
    | nm=>exact ihb hx
    | _=>exact hx
  | ite c a b iha ihb =>
    intro s r he
    simp only [evC] at he ⊢
    refine AC (fun _ h=>h) (fun x r hx=>?_) he
    split at hx
    · exact iha hx
    · exact ihb hx
    · cases hx
  | blk id c ih =>
    intro s r he
    simp only [evC] at he ⊢
    exact AC (fun x=>ih) (fun _ _ h=>h) he
  | loop dr c ih =>
    intro s r he
    simp only [evC] at he ⊢
    exact EA (fun t r=>ih) hn he
  | rng f dr ps ca cb _ _ =>
    intro s r he
    simp only [evC] at he ⊢
    exact AC (fun _ h=>h) (fun _ _=>AC (fun _ h=>h) (fun gc _=>AC (fun a=>h gc.1 _ _ a) (fun _ _ h=>h))) he
  | ex id=>exact fun h=>h
  | ret=>exact fun h=>h
theorem EF {c d : Bj} (h : LeC c d) {n m : Nat} (hn : n <= m) {f : F} {vs : List V} {H : Hp} {r : V × Hp} (he : evF c n f vs H = some r) : evF d m f vs H = some r:=by
  unfold evF at he ⊢
  cases hg : (vs.all Ax && Nat.beq vs.length f.np) with
  | false=>rw [hg] at he; simp [gd] at he
  | true =>
    rw [hg] at he
    exact AC (fun a=>CB h hn) (fun _ _ h=>h) he
theorem Qk {c d : Bj} (h : LeC c d) {n m : Nat} (hn : n <= m) {f : F} {vs : List V} {H : Hp} {r : V × Hp} (he : DV c n f vs H = some r) : DV d m f vs H = some r:=by
  unfold DV at he ⊢
  exact AC (fun _ h=>h) (fun a r=>AC (fun b=>EF h hn) (fun _ _ h=>h)) he
theorem Fd {c d : Bj} (h : LeC c d) {n m : Nat} (hn : n <= m) {vs : List V} {H : Hp} {r : V × Hp} (he : DQ c n vs H = some r) : DQ d m vs H = some r:=by
  unfold DQ at he ⊢
  split at he
  · refine AC (fun _ h=>h) (fun row r he=>?_) he
    split at he
    · simp only [Ad] at he ⊢
      refine ⟨he.1,AC (fun a=>CB h hn) (fun p r he=>?_) he.2⟩
      split at he
      · exact AC (fun _ h=>h) (fun _ _=>AC (fun a=>CB h hn) (fun _ _ h=>h)) he
      · cases he
    · cases he
  · cases he
def Bq (G : Cfg) : Prop:=∀ f p,G.prim f = some p -> ∀ c d,LeC c d -> ∀ vs H r,p c vs H = some r -> p d vs H = some r
theorem Ba {G : Cfg} (hG : Bq G) : ∀ {n m : Nat},n <= m -> LeC (Bi G n) (Bi G m)
  | 0,_,_,f,vs,H,r,h=>by simp [Bi] at h
  | n + 1,0,hn,_,_,_,_,_=>by omega
  | n + 1,m + 1,hn,f,vs,H,r,h=>by
    have ih:=Ba hG (n:=n) (m:=m) (by omega)
    unfold Bi at h ⊢
    split at h
    · rename_i p hp
      exact hG f p hp _ _ ih vs H r h
    · split at h
      · split at h
        · exact EF ih (by omega) h
        · exact Qk ih (by omega) h
      · simp only [Ad] at h ⊢
        exact ⟨h.1,Fd ih (by omega) h.2⟩
/- Running, whatever the fuel. -/
def Cw {α : Type} (x : Option α) (p : α -> Prop) : Prop:=∃ a,x = some a /\ p a
theorem AX {α : Type} (a : α) (p : α -> Prop) : Cw (some a) p = p a:=by simp [Cw]
theorem MI {α : Type} (b : Bool) (x : Option α) (p : α -> Prop) : Cw (gd b x) p = (b = true /\ Cw x p):=by cases b <;> simp [Cw,gd]
theorem Dp {α β : Type} (x : Option α) (f : α -> Option β) (p : β -> Prop) : Cw (x.bind f) p = Cw x fun a=>Cw (f a) p:=by
  apply propext
  simp only [Cw,AeC]
  constructor
  · rintro ⟨b,⟨a,h1,h2⟩,h3⟩
    exact ⟨a,h1,b,h2,h3⟩
  · rintro ⟨a,h1,b,h2,h3⟩
    exact ⟨b,⟨a,h1,h2⟩,h3⟩
def Runs (G : Cfg) (c : C) (s : St) (Q : Ex -> St -> Prop) : Prop:=∃ n e s',evC (Bi G n) n c s = some (e,s') /\ Q e s'
def GG (G : Cfg) (ops : List Op) (s : St) (Q : St -> Prop) : Prop:=∃ n s',BK (Bi G n) ops s = some s' /\ Q s'
def GQ (G : Cfg) (o : Op) (s : St) (Q : St -> Prop) : Prop:=∃ n s',DH (Bi G n) s o = some s' /\ Q s'
def Ret (G : Cfg) (f : Nat) (vs : List V) (H : Hp) (Q : V -> Hp -> Prop) : Prop:=∃ n v H',Bi G n f vs H = some (v,H') /\ Q v H'
def Gives (G : Cfg) (f : Nat) (vs : List V) (H : Hp) (v : V) (H' : Hp) : Prop:=∃ n,Bi G n f vs H = some (v,H')
def thn (A : St -> Prop) (Q : Ex -> St -> Prop) : Ex -> St -> Prop
  | .nm,s=>A s
  | e,s=>Q e s
def inB (id : Nat) (Q : Ex -> St -> Prop) : Ex -> St -> Prop
  | .ex j,s=>(j = id -> Q .nm s) /\ (j ≠ id -> Q (.ex j) s)
  | e,s=>Q e s
theorem Ach (id : Nat) (Q : Ex -> St -> Prop) (s : St) (j : Nat) : inB id Q (.ex j) s = if j = id then Q .nm s else Q (.ex j) s:=by
  apply propext
  by_cases h : j = id <;> simp [inB,h]
section
variable {G : Cfg}
theorem Runs.mono {c : C} {s : St} {Q Q' : Ex -> St -> Prop} (h : Runs G c s Q) (hq : ∀ e s,Q e s -> Q' e s) : Runs G c s Q':=by
  obtain ⟨n,e,s',h1,h2⟩:=h
  exact ⟨n,e,s',h1,hq e s' h2⟩
theorem Rm (s : St) (Q : Ex -> St -> Prop) : Runs G .skip s Q = Q .nm s:=by
  apply propext
  simp only [Runs,evC,AeD,AeE]
  constructor
  · rintro ⟨_,_,_,⟨rfl,rfl⟩,h⟩
    exact h
  · exact fun h=>⟨0,_,_,⟨rfl,rfl⟩,h⟩
theorem Yn (id : Nat) (s : St) (Q : Ex -> St -> Prop) : Runs G (.ex id) s Q = Q (.ex id) s:=by
  apply propext
  simp only [Runs,evC,AeD,AeE]
  constructor
  · rintro ⟨_,_,_,⟨rfl,rfl⟩,h⟩
    exact h
  · exact fun h=>⟨0,_,_,⟨rfl,rfl⟩,h⟩
theorem Uy (s : St) (Q : Ex -> St -> Prop) : Runs G .ret s Q = Q .ret s:=by
  apply propext
  simp only [Runs,evC,AeD,AeE]
  constructor
  · rintro ⟨_,_,_,⟨rfl,rfl⟩,h⟩
    exact h
  · exact fun h=>⟨0,_,_,⟨rfl,rfl⟩,h⟩
theorem Uz (ops : List Op) (s : St) (Q : Ex -> St -> Prop) : Runs G (.reg ops) s Q = GG G ops s fun s'=>Q .nm { s' with L:=[] }:=by
  apply propext
  simp only [Runs,GG,evC,AeC,AeD,AeE]
  constructor
  · rintro ⟨n,_,_,⟨s',h,rfl,rfl⟩,hq⟩
    exact ⟨n,s',h,hq⟩
  · rintro ⟨n,s',h,hq⟩
    exact ⟨n,_,_,⟨s',h,rfl,rfl⟩,hq⟩
theorem Ux (hG : Bq G) (a b : C) (s : St) (Q : Ex -> St -> Prop) : Runs G (.seq a b) s Q = Runs G a s (thn (fun s'=>Runs G b s' Q) Q):=by
  apply propext
  constructor
  · rintro ⟨n,e,s',h,hq⟩
    simp only [evC,AeC] at h
    obtain ⟨⟨e1,s1⟩,h1,h2⟩:=h
    refine ⟨n,e1,s1,h1,?_⟩
    cases e1 with
    | nm=>exact ⟨n,e,s',h2,hq⟩
    | _ =>
      simp only [AeD,AeE] at h2
      obtain ⟨rfl,rfl⟩:=h2
      exact hq
  · rintro ⟨n,e1,s1,h1,h2⟩
    cases e1 with
    | nm =>
      obtain ⟨m,e,s',h3,hq⟩:=h2
      refine ⟨max n m,e,s',?_,hq⟩
      simp only [evC,AeC]
      exact ⟨_,CB (Ba hG (Nat.le_max_left n m)) (Nat.le_max_left n m) h1,CB (Ba hG (Nat.le_max_right n m)) (Nat.le_max_right n m) h3⟩
    | ex j=>exact ⟨n,.ex j,s1,by simp [evC,h1],h2⟩
    | ret=>exact ⟨n,.ret,s1,by simp [evC,h1],h2⟩
def asB : V -> Option Bool
  | .m (.b t)=>some t
  | _=>none
theorem UA (o : Opnd) (a b : C) (s : St) (Q : Ex -> St -> Prop) : Runs G (.ite o a b) s Q = Cw ((evA s o).bind asB) fun t=>if t then Runs G a s Q else Runs G b s Q:=by
  apply propext
  constructor
  · rintro ⟨n,e,s',h,hq⟩
    simp only [evC,AeC] at h
    obtain ⟨v,hv,h⟩:=h
    split at h
    · exact ⟨true,by simp [hv,asB],n,e,s',h,hq⟩
    · exact ⟨false,by simp [hv,asB],n,e,s',h,hq⟩
    · cases h
  · rintro ⟨t,ht,h⟩
    simp only [AeC] at ht
    obtain ⟨v,hv,ht⟩:=ht
    have : v = .m (.b t):=by
      unfold asB at ht
      split at ht
      · rw [AeD] at ht; rw [ht]
      · cases ht
    subst this
    cases t with
    | true =>
      obtain ⟨n,e,s',h,hq⟩:=h
      exact ⟨n,e,s',by simp [evC,hv,h],hq⟩
    | false =>
      obtain ⟨n,e,s',h,hq⟩:=h
      exact ⟨n,e,s',by simp [evC,hv,h],hq⟩
theorem UB (id : Nat) (c : C) (s : St) (Q : Ex -> St -> Prop) : Runs G (.blk id c) s Q = Runs G c s (inB id Q):=by
  apply propext
  constructor
  · rintro ⟨n,e,s',h,hq⟩
    simp only [evC,AeC] at h
    obtain ⟨⟨e1,s1⟩,h1,h2⟩:=h
    refine ⟨n,e1,s1,h1,?_⟩
    cases e1 with
    | ex j =>
      simp only at h2
      split at h2
      · rename_i hb
        have:=AeP hb
        simp only [AeD,AeE] at h2
        obtain ⟨rfl,rfl⟩:=h2
        exact ⟨fun _=>hq,fun hne=>absurd this hne⟩
      · rename_i hb
        simp only [AeD,AeE] at h2
        obtain ⟨rfl,rfl⟩:=h2
        exact ⟨fun e=>(by subst e; simp at hb),fun _=>hq⟩
    | _ =>
      simp only [AeD,AeE] at h2
      obtain ⟨rfl,rfl⟩:=h2
      exact hq
  · rintro ⟨n,e1,s1,h1,h2⟩
    cases e1 with
    | ex j =>
      cases hb : Nat.beq j id with
      | true=>exact ⟨n,.nm,s1,by simp [evC,h1,hb],h2.1 (AeP hb)⟩
      | false=>exact ⟨n,.ex j,s1,by simp [evC,h1,hb],h2.2 (fun e=>by subst e; simp at hb)⟩
    | nm=>exact ⟨n,.nm,s1,by simp [evC,h1],h2⟩
    | ret=>exact ⟨n,.ret,s1,by simp [evC,h1],h2⟩
theorem Rn (hG : Bq G) (dr : List Nat) (c : C) (s : St) (Q : Ex -> St -> Prop) : Runs G (.loop dr c) s Q = Runs G c { s with E:=Az dr s.E } (thn (fun s'=>Runs G (.loop dr c) s' Q) Q):=by
  apply propext
  constructor
  · rintro ⟨n,e,s',h,hq⟩
    simp only [evC] at h
    cases n with
    | zero=>simp [EO] at h
    | succ n =>
      simp only [EO,AeC] at h
      obtain ⟨⟨e1,s1⟩,h1,h2⟩:=h
      refine ⟨n + 1,e1,s1,h1,?_⟩
      cases e1 with
      | nm=>exact ⟨n + 1,e,s',by simp only [evC]; exact EA (fun _ _ h=>h) (Nat.le_succ n) h2,hq⟩
      | _ =>
        simp only [AeD,AeE] at h2
        obtain ⟨rfl,rfl⟩:=h2
        exact hq
  · rintro ⟨n,e1,s1,h1,h2⟩
    cases e1 with
    | nm =>
      obtain ⟨m,e,s',h3,hq⟩:=h2
      have hn : n <= max n m + 1:=by omega
      have hm : m <= max n m + 1:=by omega
      refine ⟨max n m + 1,e,s',?_,hq⟩
      simp only [evC,EO,AeC]
      refine ⟨_,CB (Ba hG hn) hn h1,?_⟩
      simp only [evC] at h3
      exact EA (fun t r=>CB (Ba hG hm) hm) (by omega) h3
    | ex j=>exact ⟨n + 1,.ex j,s1,by simp only [evC,EO,AeC]; exact ⟨_,CB (Ba hG (Nat.le_succ n)) (Nat.le_succ n) h1,rfl⟩,h2⟩
    | ret=>exact ⟨n + 1,.ret,s1,by simp only [evC,EO,AeC]; exact ⟨_,CB (Ba hG (Nat.le_succ n)) (Nat.le_succ n) h1,rfl⟩,h2⟩
theorem Yy (s : St) (Q : St -> Prop) : GG G [] s Q = Q s:=by
  apply propext
  simp only [GG,BK,AeD]
  constructor
  · rintro ⟨_,_,rfl,h⟩
    exact h
  · exact fun h=>⟨0,_,rfl,h⟩
theorem Ew (hG : Bq G) (o : Op) (r : List Op) (s : St) (Q : St -> Prop) : GG G (o :: r) s Q = GQ G o s fun s'=>GG G r s' Q:=by
  apply propext
  simp only [GG,GQ,BK,AeC]
  constructor
  · rintro ⟨n,s',⟨s1,h1,h2⟩,hq⟩
    exact ⟨n,s1,h1,n,s',h2,hq⟩
  · rintro ⟨n,s1,h1,m,s',h2,hq⟩
    exact ⟨max n m,s',⟨s1,LA (Ba hG (Nat.le_max_left n m)) h1,Gh (Ba hG (Nat.le_max_right n m)) h2⟩,hq⟩
theorem YB (d : Dst) (o : OP) (az : List Opnd) (s : St) (Q : St -> Prop) : GQ G ⟨d,.p o,az,none⟩ s Q = Cw (Af (evA s) az) fun vs=>Cw (Aj o vs) fun v=>Cw (CI s d v) Q:=by
  apply propext
  simp only [GQ,DH,Aq,AeM,AY,gd,evO,AeC,Cw]
  constructor
  · rintro ⟨_,s',⟨vs,h1,⟨v,M⟩,⟨v',h2,h3⟩,h4⟩,hq⟩
    simp only [AeD,AeE] at h3
    obtain ⟨rfl,rfl⟩:=h3
    exact ⟨vs,h1,_,h2,s',h4,hq⟩
  · rintro ⟨vs,h1,v,h2,s',h4,hq⟩
    exact ⟨0,s',⟨vs,h1,(v,s.M),⟨v,h2,rfl⟩,h4⟩,hq⟩
theorem YA (d : Dst) (o : OR) (az : List Opnd) (s : St) (Q : St -> Prop) : GQ G ⟨d,.r o,az,none⟩ s Q = Cw (Af (evA s) az) fun vs=>Cw (readX s.M o vs) fun v=>Cw (CI s d v) Q:=by
  apply propext
  simp only [GQ,DH,Aq,AeM,AY,gd,evO,AeC,Cw]
  constructor
  · rintro ⟨_,s',⟨vs,h1,⟨v,M⟩,⟨v',h2,h3⟩,h4⟩,hq⟩
    simp only [AeD,AeE] at h3
    obtain ⟨rfl,rfl⟩:=h3
    exact ⟨vs,h1,_,h2,s',h4,hq⟩
  · rintro ⟨vs,h1,v,h2,s',h4,hq⟩
    exact ⟨0,s',⟨vs,h1,(v,s.M),⟨v,h2,rfl⟩,h4⟩,hq⟩
theorem YC (d : Dst) (f : Nat) (az : List Opnd) (s : St) (Q : St -> Prop) : GQ G ⟨d,.l (.cal f),az,none⟩ s Q = Cw (Af (evA s) az) fun vs=>Ret G f vs s.M.H fun v H'=>Cw (CI { s with M:={ s.M with H:=H' } } d v) Q:=by
  apply propext
  simp only [GQ,DH,Aq,AeM,AY,gd,evO,Ai,AeC,Cw,Ret]
  constructor
  · rintro ⟨n,s',⟨vs,h1,⟨v,M⟩,⟨⟨r,H'⟩,h2,h3⟩,h4⟩,hq⟩
    simp only [AeD,AeE] at h3
    obtain ⟨rfl,rfl⟩:=h3
    exact ⟨vs,h1,n,_,_,h2,s',h4,hq⟩
  · rintro ⟨vs,h1,n,v,H',h2,s',h4,hq⟩
    exact ⟨n,s',⟨vs,h1,_,⟨_,h2,rfl⟩,h4⟩,hq⟩
theorem US (d : Dst) (o : O) (az : List Opnd) (g : Opnd) (want : Bool) (s : St) (Q : St -> Prop) : GQ G ⟨d,o,az,some (g,want)⟩ s Q = Cw (Aq s (some (g,want))) fun q=>if q then GQ G ⟨d,o,az,none⟩ s Q else Cw (CI s d .un) Q:=by
  apply propext
  constructor
  · rintro ⟨n,s',h,hq⟩
    simp only [DH,AeC] at h
    obtain ⟨b,hb,h⟩:=h
    refine ⟨b,hb,?_⟩
    cases b with
    | true=>exact ⟨n,s',by simpa [DH,Aq] using h,hq⟩
    | false=>exact ⟨s',h,hq⟩
  · rintro ⟨b,hb,h⟩
    cases b with
    | true =>
      obtain ⟨n,s',h,hq⟩:=h
      exact ⟨n,s',by simp only [DH,hb,AeM]; simpa [DH,Aq] using h,hq⟩
    | false =>
      obtain ⟨s',h,hq⟩:=h
      exact ⟨0,s',by simp only [DH,hb,AeM]; exact h,hq⟩
/- Calls. -/
theorem AbA {f : Nat} {vs : List V} {H H' : Hp} {v : V} {Q : V -> Hp -> Prop} (hG : Bq G) (h : Gives G f vs H v H') : Ret G f vs H Q = Q v H':=by
  apply propext
  obtain ⟨n,hn⟩:=h
  constructor
  · rintro ⟨m,v2,H2,hm,hq⟩
    have h1:=Ba hG (Nat.le_max_left n m) _ _ _ _ hn
    have h2:=Ba hG (Nat.le_max_right n m) _ _ _ _ hm
    rw [h1] at h2
    cases h2
    exact hq
  · exact fun hq=>⟨n,v,H',hn,hq⟩
theorem Gives.of_ret {f : Nat} {vs : List V} {H H' : Hp} {v : V} (h : Ret G f vs H fun v' H2=>v' = v /\ H2 = H') : Gives G f vs H v H':=by
  obtain ⟨n,v2,H2,h,rfl,rfl⟩:=h
  exact ⟨n,h⟩
def fin (rs : List Res) (Q : V -> Hp -> Prop) : Ex -> St -> Prop
  | .ex _,_=>False
  | _,s=>Cw (DF s rs) fun v=>Q v s.M.H
theorem WW {c : C} {np : Nat} {rs : List Res} {vs : List V} {H : Hp} {Q : V -> Hp -> Prop} (hv : vs.all Ax = true) (hl : vs.length = np) (h : Runs G c ⟨CN 0 vs,[],⟨[],H⟩⟩ (fin rs Q)) :
    ∃ n v H',evF (Bi G n) n ⟨np,rs,c⟩ vs H = some (v,H') /\ Q v H':=by
  obtain ⟨n,e,s',h1,h2⟩:=h
  have hb : (vs.all Ax && Nat.beq vs.length np) = true:=by rw [hv,hl,Nat.beq_refl]; rfl
  have key : Cw (DF s' rs) (fun v=>Q v s'.M.H) -> (∀ id,e ≠ .ex id) -> ∃ n v H',evF (Bi G n) n ⟨np,rs,c⟩ vs H = some (v,H') /\ Q v H':=by
    rintro ⟨v,hv,hq⟩ hne
    refine ⟨n,v,s'.M.H,?_,hq⟩
    simp only [evF,hb,gd,h1,AeM]
    cases e with
    | ex id=>exact absurd rfl (hne id)
    | _=>simp [hv]
  cases e with
  | ex id=>exact h2.elim
  | nm=>exact key h2 (fun _ h=>by cases h)
  | ret=>exact key h2 (fun _ h=>by cases h)
theorem PU (hG : Bq G) {f np : Nat} {rs : List Res} {c : C} {vs : List V} {H : Hp} {Q : V -> Hp -> Prop} (hp : G.prim f = none) (hf : G.fn f = some ⟨np,rs,c⟩) (hs : G.sh f = true) (hv : vs.all Ax = true) (hl : vs.length = np)
    (h : Runs G c ⟨CN 0 vs,[],⟨[],H⟩⟩ (fin rs Q)) : Ret G f vs H Q:=by
  obtain ⟨n,v,H',he,hq⟩:=WW hv hl h
  refine ⟨n + 1,v,H',?_,hq⟩
  simp [Bi,hp,hf,hs,he]
theorem Oa : ∀ {vs : List V} {is : List I},Bo vs = some is -> vs.flatMap DT = [] /\ vs.all Bz = true /\ vs.all Ax = true /\ vs = is.map .m /\ ∀ (n : Nat) H,Af (view (n + 1) H) vs = some is
  | [],is,h=>by simp only [Bo,AeD] at h; subst h; exact ⟨rfl,rfl,rfl,rfl,fun _ _=>rfl⟩
  | .m x :: r,is,h=>by
    simp only [Bo,AeC,AeD] at h
    obtain ⟨l,hl,rfl⟩:=h
    obtain ⟨h1,h2,h3,h4,h5⟩:=Oa hl
    refine ⟨by simp [DT,GS,h1],by simp [Bz,Cz,h2],by simp [Ax,h3],by simp [h4],fun n H=>?_⟩
    simp only [Af,h5 n H]
    rfl
  | .un :: _,is,h=>by simp [Bo] at h
  | .ls _ :: _,is,h=>by simp [Bo] at h
  | .sl .. :: _,is,h=>by simp [Bo] at h
  | .pt .. :: _,is,h=>by simp [Bo] at h
  | .fa .. :: _,is,h=>by simp [Bo] at h
  | .mp _ :: _,is,h=>by simp [Bo] at h
  | .fn .. :: _,is,h=>by simp [Bo] at h
  | .ag _ :: _,is,h=>by simp [Bo] at h
  | .tu _ :: _,is,h=>by simp [Bo] at h
theorem NX {f np : Nat} {rs : List Res} {c : C} {vs : List V} {is : List I} {H : Hp} {Q : V -> Hp -> Prop} (hp : G.prim f = none) (hf : G.fn f = some ⟨np,rs,c⟩) (hs : G.sh f = false) (hv : Bo vs = some is) (hl : vs.length = np)
    (h : Runs G c ⟨CN 0 vs,[],⟨[],[]⟩⟩ (fin rs fun v H'=>Cw (viewR H' v) fun r=>Q r H)) : Ret G f vs H Q:=by
  obtain ⟨h1,h2,h3,h4,h5⟩:=Oa hv
  obtain ⟨n,v,H',he,r,hr,hq⟩:=WW h3 hl h
  refine ⟨n + 1,r,H,?_,hq⟩
  simp only [Bi,hp,hf,hs,AeM,DV,h5 19 H]
  rw [<- h4,he]
  simp only [AeM,hr,h1,h2,gd]
end
end Go.Mx
/- Walking the machine, first order: what follows is kept as data, so that simp looks at the state alone. Nothing here speaks of a program. -/
namespace Go.Mx
inductive K where
  | fin (rs : List Res) (Q : V -> Hp -> Prop)
  | pur (rs : List Res) (H : Hp) (Q : V -> Hp -> Prop)
  | st (Q : Ex -> St -> Prop)
  | seq (b : C) (k : K)
  | blk (id : Nat) (k : K)
def K.sem (G : Cfg) : K -> Ex -> St -> Prop
  | .fin rs Q=>Mx.fin rs Q
  | .pur rs H Q=>Mx.fin rs fun v H'=>Cw (viewR H' v) fun r=>Q r H
  | .st Q=>Q
  | .seq b k=>thn (fun s=>Runs G b s (k.sem G)) (k.sem G)
  | .blk id k=>inB id (k.sem G)
def Run (G : Cfg) (c : C) (s : St) (k : K) : Prop:=Runs G c s (k.sem G)
def At' (G : Cfg) (e : Ex) (s : St) (k : K) : Prop:=k.sem G e s
def BM (G : Cfg) (s : Option St) (ops : List Op) (k : K) : Prop:=Cw s fun s=>GG G ops s fun s'=>k.sem G .nm { s' with L:=[] }
def Xx (G : Cfg) (t : Option Bool) (a b : C) (s : St) (k : K) : Prop:=Cw t fun t=>if t then Runs G a s (k.sem G) else Runs G b s (k.sem G)
def Is (G : Cfg) (f : Nat) (vs : Option (List V)) (s : St) (d : Dst) (r : List Op) (k : K) : Prop :=
  Cw vs fun vs=>Ret G f vs s.M.H fun v H'=>BM G (CI { s with M:={ s.M with H:=H' } } d v) r k
def KK (s : St) (o : OP) (az : List Opnd) (d : Dst) : Option St:=(Af (evA s) az).bind fun vs=>(Aj o vs).bind fun v=>CI s d v
def stepR (s : St) (o : OR) (az : List Opnd) (d : Dst) : Option St:=(Af (evA s) az).bind fun vs=>(readX s.M o vs).bind fun v=>CI s d v
def EM (s : St) (o : OL) (az : List Opnd) (d : Dst) : Option St:=gd (AY s (.l o)) ((Af (evA s) az).bind fun vs=>(Ai (fun _ _ _=>none) s.M o vs).bind fun p=>CI { s with M:=p.2 } d p.1)
def Bu (q : Option Bool) (a b : Option St) : Option St:=q.bind fun q=>match q with
  | true=>a
  | false=>b
section
variable {G : Cfg}
theorem Sv (s : St) (b : C) (k : K) : At' G .nm s (.seq b k) = Run G b s k:=rfl
theorem Sw (s : St) (b : C) (k : K) (j : Nat) : At' G (.ex j) s (.seq b k) = At' G (.ex j) s k:=rfl
theorem Qm (s : St) (b : C) (k : K) : At' G .ret s (.seq b k) = At' G .ret s k:=rfl
theorem Sz (s : St) (id : Nat) (k : K) : At' G .nm s (.blk id k) = At' G .nm s k:=rfl
theorem Qp (s : St) (id : Nat) (k : K) : At' G .ret s (.blk id k) = At' G .ret s k:=rfl
theorem SA (s : St) (id : Nat) (k : K) (j : Nat) : At' G (.ex j) s (.blk id k) = if j = id then At' G .nm s k else At' G (.ex j) s k:=Ach id _ s j
theorem at_st (e : Ex) (s : St) (Q : Ex -> St -> Prop) : At' G e s (.st Q) = Q e s:=rfl
theorem Sy (s : St) (rs : List Res) (Q : V -> Hp -> Prop) : At' G .nm s (.fin rs Q) = Cw (DF s rs) fun v=>Q v s.M.H:=rfl
theorem Qo (s : St) (rs : List Res) (Q : V -> Hp -> Prop) : At' G .ret s (.fin rs Q) = Cw (DF s rs) fun v=>Q v s.M.H:=rfl
theorem Sx (s : St) (rs : List Res) (H : Hp) (Q : V -> Hp -> Prop) : At' G .nm s (.pur rs H Q) = Cw ((DF s rs).bind (viewR s.M.H)) fun r=>Q r H:=by
  rw [Dp]; rfl
theorem Qn (s : St) (rs : List Res) (H : Hp) (Q : V -> Hp -> Prop) : At' G .ret s (.pur rs H Q) = Cw ((DF s rs).bind (viewR s.M.H)) fun r=>Q r H:=by
  rw [Dp]; rfl
theorem Ro (s : St) (k : K) : Run G .skip s k = At' G .nm s k:=Rm s _
theorem Yp (id : Nat) (s : St) (k : K) : Run G (.ex id) s k = At' G (.ex id) s k:=Yn id s _
theorem UD (s : St) (k : K) : Run G .ret s k = At' G .ret s k:=Uy s _
theorem UC (hG : Bq G) (a b : C) (s : St) (k : K) : Run G (.seq a b) s k = Run G a s (.seq b k):=Ux hG a b s _
theorem NW (id : Nat) (c : C) (s : St) (k : K) : Run G (.blk id c) s k = Run G c s (.blk id k):=UB id c s _
theorem NV (ops : List Op) (s : St) (k : K) : Run G (.reg ops) s k = BM G (some s) ops k:=by
  unfold Run BM
  rw [AX]
  exact Uz ops s _
theorem UF (o : Opnd) (a b : C) (s : St) (k : K) : Run G (.ite o a b) s k = Xx G ((evA s o).bind asB) a b s k:=UA o a b s _
theorem Rp (hG : Bq G) (dr : List Nat) (c : C) (s : St) (k : K) : Run G (.loop dr c) s k = Run G c { s with E:=Az dr s.E } (.seq (.loop dr c) k):=Rn hG dr c s _
theorem QY (a b : C) (s : St) (k : K) : Xx G (some true) a b s k = Run G a s k:=by simp [Xx,AX,Run]
theorem PO (a b : C) (s : St) (k : K) : Xx G (some false) a b s k = Run G b s k:=by simp [Xx,AX,Run]
theorem NY (s : St) (k : K) : BM G (some s) [] k = At' G .nm { s with L:=[] } k:=by
  simp only [BM,AX,Yy]
  rfl
theorem KQ (ops : List Op) (k : K) : BM G none ops k = False:=by simp [BM,Cw]
theorem Yq (b : Bool) (s : Option St) (ops : List Op) (k : K) : BM G (gd b s) ops k = (b = true /\ BM G s ops k):=MI b s _
theorem Rt (hG : Bq G) (d : Dst) (o : OP) (az : List Opnd) (s : St) (r : List Op) (k : K) : BM G (some s) (⟨d,.p o,az,none⟩ :: r) k = BM G (KK s o az d) r k:=by
  simp only [BM,AX,Ew hG,YB,KK,Dp]
theorem Rs (hG : Bq G) (d : Dst) (o : OR) (az : List Opnd) (s : St) (r : List Op) (k : K) : BM G (some s) (⟨d,.r o,az,none⟩ :: r) k = BM G (stepR s o az d) r k:=by
  simp only [BM,AX,Ew hG,YA,stepR,Dp]
theorem Hx (hG : Bq G) (d : Dst) (f : Nat) (az : List Opnd) (s : St) (r : List Op) (k : K) : BM G (some s) (⟨d,.l (.cal f),az,none⟩ :: r) k = Is G f (Af (evA s) az) s d r k:=by
  simp only [BM,AX,Ew hG,YC,Is]
theorem Dm (hG : Bq G) (d : Dst) (o : O) (az : List Opnd) (g : Opnd) (want : Bool) (s : St) (r : List Op) (k : K) :
    BM G (some s) (⟨d,o,az,some (g,want)⟩ :: r) k = Cw (Aq s (some (g,want))) fun q=>if q then BM G (some s) (⟨d,o,az,none⟩ :: r) k else BM G (CI s d .un) r k:=by
  simp only [BM,AX,Ew hG,US]
theorem Gt (hG : Bq G) (d : Dst) (o : OP) (az : List Opnd) (g : Opnd) (want : Bool) (s : St) (r : List Op) (k : K) :
    BM G (some s) (⟨d,.p o,az,some (g,want)⟩ :: r) k = BM G (Bu (Aq s (some (g,want))) (KK s o az d) (CI s d .un)) r k:=by
  rw [Dm hG]
  cases hq : Aq s (some (g,want)) with
  | none=>simp [Cw,Bu,BM]
  | some q=>cases q <;> simp [AX,Bu,Rt hG]
theorem Gs (hG : Bq G) (d : Dst) (o : OR) (az : List Opnd) (g : Opnd) (want : Bool) (s : St) (r : List Op) (k : K) :
    BM G (some s) (⟨d,.r o,az,some (g,want)⟩ :: r) k = BM G (Bu (Aq s (some (g,want))) (stepR s o az d) (CI s d .un)) r k:=by
  rw [Dm hG]
  cases hq : Aq s (some (g,want)) with
  | none=>simp [Cw,Bu,BM]
  | some q=>cases q <;> simp [AX,Bu,Rs hG]
def Kz (G : Cfg) (q : Option Bool) (f : Nat) (az : List Opnd) (s : St) (d : Dst) (r : List Op) (k : K) : Prop:=Cw q fun q=>if q then Is G f (Af (evA s) az) s d r k else BM G (CI s d .un) r k
theorem Ed (hG : Bq G) (d : Dst) (f : Nat) (az : List Opnd) (g : Opnd) (want : Bool) (s : St) (r : List Op) (k : K) :
    BM G (some s) (⟨d,.l (.cal f),az,some (g,want)⟩ :: r) k = Kz G (Aq s (some (g,want))) f az s d r k:=by
  rw [Dm hG]
  simp only [Kz,Hx hG]
theorem Qd (f : Nat) (az : List Opnd) (s : St) (d : Dst) (r : List Op) (k : K) : Kz G (some true) f az s d r k = Is G f (Af (evA s) az) s d r k:=by simp [Kz,AX]
theorem MP (f : Nat) (az : List Opnd) (s : St) (d : Dst) (r : List Op) (k : K) : Kz G (some false) f az s d r k = BM G (CI s d .un) r k:=by simp [Kz,AX]
theorem HG (hG : Bq G) (d : Dst) (o : OL) (az : List Opnd) (s : St) (r : List Op) (k : K) (hc : ∀ call vs,Ai call s.M o vs = Ai (fun _ _ _=>none) s.M o vs) : BM G (some s) (⟨d,.l o,az,none⟩ :: r) k = BM G (EM s o az d) r k:=by
  simp only [BM,AX,Ew hG,EM,MI,Dp]
  apply propext
  simp only [GQ,DH,Aq,AeM,evO,hc,Cw]
  constructor
  · rintro ⟨n,s',h,hq⟩
    rw [gd_eq] at h
    obtain ⟨hf,h⟩:=h
    simp only [AeC] at h
    obtain ⟨vs,h1,p,h2,h3⟩:=h
    exact ⟨hf,vs,h1,p,h2,s',h3,hq⟩
  · rintro ⟨hf,vs,h1,p,h2,s',h3,hq⟩
    refine ⟨0,s',?_,hq⟩
    rw [gd_eq]
    simp only [AeC]
    exact ⟨hf,vs,h1,p,h2,h3⟩
where gd_eq {α : Type} {b : Bool} {x : Option α} {y : α} : (gd b x = some y) = (b = true /\ x = some y):=by cases b <;> simp [gd]
theorem Jx {M : Mem} {o : OL} (h1 : ∀ f,o ≠ .cal f) (h2 : o ≠ .cav) (c d : Bj) (vs : List V) : Ai c M o vs = Ai d M o vs:=by
  cases o with
  | cal f=>exact absurd rfl (h1 f)
  | cav=>exact absurd rfl h2
  | _ =>
    match vs with
    | []=>rfl
    | [_]=>rfl
    | [_,_]=>rfl
    | [_,_,_]=>rfl
    | _ :: _ :: _ :: _ :: _=>rfl
theorem Hw {f np : Nat} {rs : List Res} {c : C} {vs : List V} {is : List I} {H : Hp} {Q : V -> Hp -> Prop} (hp : G.prim f = none) (hf : G.fn f = some ⟨np,rs,c⟩) (hs : G.sh f = false) (hv : Bo vs = some is) (hl : vs.length = np)
    (h : Run G c ⟨CN 0 vs,[],⟨[],[]⟩⟩ (.pur rs H Q)) : Ret G f vs H Q:=NX hp hf hs hv hl h
theorem Ah {f np : Nat} {rs : List Res} {c : C} {vs : List V} {is : List I} {H : Hp} {v : V} (hp : G.prim f = none) (hf : G.fn f = some ⟨np,rs,c⟩) (hs : G.sh f = false) (hv : Bo vs = some is) (hl : vs.length = np)
    (h : Run G c ⟨CN 0 vs,[],⟨[],[]⟩⟩ (.pur rs H fun v' _=>v' = v)) : Gives G f vs H v H:=by
  refine .of_ret (NX hp hf hs hv hl (h.mono fun e s hq=>?_))
  cases e with
  | ex j=>exact hq
  | nm =>
    obtain ⟨x,h1,r,h2,h3⟩:=hq
    exact ⟨x,h1,r,h2,h3,rfl⟩
  | ret =>
    obtain ⟨x,h1,r,h2,h3⟩:=hq
    exact ⟨x,h1,r,h2,h3,rfl⟩
theorem AS (hG : Bq G) {f np : Nat} {rs : List Res} {c : C} {vs : List V} {H : Hp} {Q : V -> Hp -> Prop} (hp : G.prim f = none) (hf : G.fn f = some ⟨np,rs,c⟩) (hs : G.sh f = true) (hv : vs.all Ax = true) (hl : vs.length = np)
    (h : Run G c ⟨CN 0 vs,[],⟨[],H⟩⟩ (.fin rs Q)) : Ret G f vs H Q:=PU hG hp hf hs hv hl h
end
end Go.Mx
/- Walking the machine: rules for simp. Nothing here speaks of a program. -/
namespace Go.Mx
attribute [simp] AX MI Dp Sv Sw Qm Sz Qp SA at_st Sy Qo Sx Qn Ro Yp UD NW NV UF QY PO NY KQ Yq Qd MP
@[simp] theorem pickS_t (a b : Option St) : Bu (some true) a b = a:=rfl
@[simp] theorem pickS_f (a b : Option St) : Bu (some false) a b = b:=rfl
@[simp] theorem stepP_eq (s : St) (o : OP) (az : List Opnd) (d : Dst) : KK s o az d = (Af (evA s) az).bind fun vs=>(Aj o vs).bind fun v=>CI s d v:=rfl
@[simp] theorem stepR_eq (s : St) (o : OR) (az : List Opnd) (d : Dst) : stepR s o az d = (Af (evA s) az).bind fun vs=>(readX s.M o vs).bind fun v=>CI s d v:=rfl
@[simp] theorem AbO {α : Type} (p : α -> Prop) : Cw none p = False:=by simp [Cw]
@[simp] theorem AaT {α β : Type} (f : α -> Option β) : Af f [] = some []:=rfl
@[simp] theorem Yx {α β : Type} (f : α -> Option β) (a : α) (r : List α) : Af f (a :: r) = (f a).bind fun x=>(Af f r).bind fun l=>some (x :: l):=rfl
@[simp] theorem getE_nil (n : Nat) : BP [] n = none:=rfl
@[simp] theorem Cq (k : Nat) (x : V) (r : Env) (n : Nat) : BP ((k,x) :: r) n = if k = n then some x else BP r n:=by
  simp only [BP]
  by_cases h : k = n
  · subst h; simp
  · rw [AeF h]
    have : Nat.beq k n = false:=by
      cases hb : Nat.beq k n with
      | false=>rfl
      | true=>exact absurd (AeP hb) h
    rw [this]
@[simp] theorem setE_nil (n : Nat) (x : V) : BN [] n x = [(n,x)]:=rfl
@[simp] theorem Hq (k : Nat) (y : V) (r : Env) (n : Nat) (x : V) : BN ((k,y) :: r) n x = if n < k then (n,x) :: (k,y) :: r else if k = n then (n,x) :: r else (k,y) :: BN r n x:=by
  simp only [BN]
  by_cases h : n < k
  · rw [AeJ h]
    have : Nat.blt n k = true:=by rw [AfU]; exact h
    rw [this]
  · rw [AeF h]
    have : Nat.blt n k = false:=by
      cases hb : Nat.blt n k with
      | false=>rfl
      | true=>rw [AfU] at hb; exact absurd hb h
    rw [this]
    by_cases e : k = n
    · subst e; simp
    · rw [AeF e]
      have : Nat.beq k n = false:=by
        cases hb : Nat.beq k n with
        | false=>rfl
        | true=>exact absurd (AeP hb) e
      rw [this]
@[simp] theorem rmE_nil (n : Nat) : rmE [] n = []:=rfl
@[simp] theorem rmE_cons (k : Nat) (x : V) (r : Env) (n : Nat) : rmE ((k,x) :: r) n = if k = n then rmE r n else (k,x) :: rmE r n:=by
  simp only [rmE]
  by_cases h : k = n
  · subst h; simp
  · rw [AeF h]
    have : Nat.beq k n = false:=by
      cases hb : Nat.beq k n with
      | false=>rfl
      | true=>exact absurd (AeP hb) h
    rw [this]
@[simp] theorem AcB (e : Env) : Az [] e = e:=rfl
@[simp] theorem AaZ (n : Nat) (r : List Nat) (e : Env) : Az (n :: r) e = Az r (rmE e n):=rfl
@[simp] theorem evA_v (s : St) (n : Nat) : evA s (.v n) = BP s.E n:=rfl
@[simp] theorem evA_l (s : St) (n : Nat) : evA s (.l n) = BP s.L n:=rfl
@[simp] theorem evA_k (s : St) (x : V) : evA s (.k x) = some x:=rfl
@[simp] theorem setD_no (s : St) (x : V) : CI s .no x = some s:=rfl
@[simp] theorem setD_l (s : St) (n : Nat) (x : V) : CI s (.l n) x = some { s with L:=BN s.L n x }:=rfl
@[simp] theorem setD_vm (s : St) (n : Nat) (x : I) : CI s (.v n) (.m x) = some { s with E:=BN s.E n (.m x) }:=rfl
@[simp] theorem setD_vun (s : St) (n : Nat) : CI s (.v n) .un = some { s with E:=BN s.E n .un }:=rfl
@[simp] theorem setD_vls (s : St) (n : Nat) (x : List (List I)) : CI s (.v n) (.ls x) = some { s with E:=BN s.E n (.ls x) }:=rfl
@[simp] theorem setD_vsl (s : St) (n a b c d e : Nat) (f : Bool) : CI s (.v n) (.sl a b c d e f) = some { s with E:=BN s.E n (.sl a b c d e f) }:=rfl
@[simp] theorem setD_vpt (s : St) (n a b c d : Nat) : CI s (.v n) (.pt a b c d) = some { s with E:=BN s.E n (.pt a b c d) }:=rfl
@[simp] theorem setD_vmp (s : St) (n a : Nat) : CI s (.v n) (.mp a) = some { s with E:=BN s.E n (.mp a) }:=rfl
@[simp] theorem setD_vtu (s : St) (n : Nat) (a : List V) : CI s (.v n) (.tu a) = some { s with E:=BN s.E n (.tu a) }:=rfl
@[simp] theorem setD_vag (s : St) (n : Nat) (a : List V) : CI s (.v n) (.ag a) = some { s with E:=BN s.E n (.ag a) }:=rfl
@[simp] theorem setD_vfn (s : St) (n f : Nat) (a : List V) : CI s (.v n) (.fn f a) = some { s with E:=BN s.E n (.fn f a) }:=rfl
@[simp] theorem XE (s : St) : Aq s none = some true:=rfl
@[simp] theorem Hl (s : St) (a : Opnd) (w : Bool) : Aq s (some (a,w)) = (evA s a).bind fun v=>match v with
    | .m (.b x)=>some (x == w)
    | .un=>some false
    | _=>none:=rfl
@[simp] theorem asB_b (x : Bool) : asB (.m (.b x)) = some x:=rfl
@[simp] theorem AcA (k : Nat) : CN k [] = []:=rfl
@[simp] theorem AaY (k : Nat) (x : V) (r : List V) : CN k (x :: r) = (k,x) :: CN (k + 1) r:=rfl
@[simp] theorem resOf_eq (s : St) (rs : List Res) : DF s rs = (Af (PY s) rs).bind fun vs=>some (tup vs):=rfl
@[simp] theorem resV_t (s : St) (n : Nat) : PY s (.t n) = (BP s.E n).bind fun v=>gd (Ax v) (some v):=rfl
@[simp] theorem resV_c (s : St) (n sz : Nat) (ag : Bool) : PY s (.c n sz ag) = (BP s.E n).bind fun a=>(readA s.M sz a).bind fun cs=>CV ag cs:=rfl
@[simp] theorem noFaV_m (x : I) : Ax (.m x) = true:=rfl
@[simp] theorem noFaV_ls (x : List (List I)) : Ax (.ls x) = true:=rfl
@[simp] theorem noFaV_sl (a b c d e : Nat) (f : Bool) : Ax (.sl a b c d e f) = true:=rfl
@[simp] theorem noFaV_mp (a : Nat) : Ax (.mp a) = true:=rfl
@[simp] theorem noFaV_pt (a b c d : Nat) : Ax (.pt a b c d) = true:=rfl
@[simp] theorem noFaV_ag (a : List V) : Ax (.ag a) = true:=rfl
@[simp] theorem noFaV_tu (a : List V) : Ax (.tu a) = true:=rfl
@[simp] theorem noFaV_fn (f : Nat) (a : List V) : Ax (.fn f a) = true:=rfl
@[simp] theorem tup_1 (v : V) : tup [v] = v:=rfl
@[simp] theorem tup_0 : tup [] = .tu []:=rfl
@[simp] theorem tup_2 (u v : V) (r : List V) : tup (u :: v :: r) = .tu (u :: v :: r):=rfl
@[simp] theorem viewR_m (H : Hp) (x : I) : viewR H (.m x) = some (.m x):=rfl
@[simp] theorem viewR_tu (H : Hp) (vs : List V) : viewR H (.tu vs) = (Af (view 20 H) vs).bind fun l=>some (.tu (l.map .m)):=rfl
@[simp] theorem viewR_ls (H : Hp) (x : List (List I)) : viewR H (.ls x) = some (.m (.sl x)):=rfl
@[simp] theorem view_m (n : Nat) (H : Hp) (x : I) : view (n + 1) H (.m x) = some x:=rfl
@[simp] theorem NI (H : Hp) (x : I) : view 20 H (.m x) = some x:=rfl
@[simp] theorem Abp (H : Hp) (x : List (List I)) : view 20 H (.ls x) = some (.sl x):=rfl
@[simp] theorem allM_nil : Bo [] = some []:=rfl
@[simp] theorem AcT (x : I) (r : List V) : Bo (.m x :: r) = (Bo r).bind fun l=>some (x :: l):=rfl
/- Operations on immutable values. -/
@[simp] theorem px_mv (x : V) : Aj .mv [x] = some x:=rfl
@[simp] theorem px_pick (c : Bool) (a b : V) : Aj .pick [.m (.b c),a,b] = some (if c then a else b):=by cases c <;> rfl
@[simp] theorem px_un (o : UnOp) (x : V) : Aj (.un o) [x] = unX o x:=rfl
@[simp] theorem px_bin (o : BinOp) (x y : V) : Aj (.bin o) [x,y] = Dk o x y:=rfl
@[simp] theorem px_eqs (n : Bool) (ks : List Nat) (xs ys : List I) : Aj (.eqs n ks) [.m (.ag xs),.m (.ag ys)] = (EW ks xs ys).bind fun r=>some (.m (.b (xor n r))):=rfl
@[simp] theorem px_eqn (n : Bool) (k : Nat) (x : V) : Aj (.eqn n k) [x] = (DU k x).bind fun r=>some (.m (.b (xor n r))):=rfl
@[simp] theorem px_build (z : List V) (p : List (Nat × Nat)) (xs : List V) : Aj (.build z p) xs = (RY z p xs).bind fun cs=>some (mkAg cs):=rfl
@[simp] theorem px_cv (k k' : IntKind) (n : Int) : Aj (.cv k) [.m (.i k' n)] = some (.m (.i k (wr k n))):=rfl
@[simp] theorem AbK (o : Nat) (cs : List I) : Aj (.fad o) [.m (.pt cs)] = some (.m (.pt (cs.drop o))):=rfl
@[simp] theorem AbL (o d o' : Nat) : Aj (.fad o) [.fa d o'] = some (.fa d (o' + o)):=rfl
@[simp] theorem AaS (o r v i o' : Nat) : Aj (.fad o) [.pt r v i o'] = some (.pt r v i (o' + o)):=rfl
@[simp] theorem px_ext (j : Nat) (vs : List V) : Aj (.ext j) [.tu vs] = nth vs j:=rfl
@[simp] theorem px_mkf (f : Nat) (xs : List V) : Aj (.mkf f) xs = gd (xs.all Ax) (some (.fn f xs)):=rfl
@[simp] theorem AbE (d o : Nat) : Aj .nck [.fa d o] = some (.fa d o):=rfl
@[simp] theorem AaN (r v i o : Nat) : Aj .nck [.pt r v i o] = some (.pt r v i o):=rfl
@[simp] theorem AbD (cs : List I) : Aj .nck [.m (.pt cs)] = some (.m (.pt cs)):=rfl
@[simp] theorem AbG : Aj (.len false) [.m (.nl 4)] = some (.m (.i .i64 0)):=rfl
@[simp] theorem AbF (es : List (List I)) : Aj (.len false) [.m (.sl es)] = some (.m (.i .i64 es.length)):=rfl
@[simp] theorem AbH (es : List (List I)) : Aj (.len false) [.ls es] = some (.m (.i .i64 es.length)):=rfl
@[simp] theorem AaO (r v e st n : Nat) (l : Bool) : Aj (.len false) [.sl r v e st n l] = some (.m (.i .i64 n)):=rfl
@[simp] theorem px_len_s (l : List Nat) : Aj (.len true) [.m (.s l)] = some (.m (.i .i64 l.length)):=rfl
@[simp] theorem JJ (k : IntKind) : eqK k k = true:=by cases k <;> rfl
@[simp] theorem Ge {α : Type} (x : Option α) : gd true x = x:=rfl
@[simp] theorem Vg {α : Type} (x : Option α) : gd false x = none:=rfl
@[simp] theorem bx_add (k : IntKind) (x y : Int) : Dk .add (.m (.i k x)) (.m (.i k y)) = some (.m (.i k (wr k (x + y)))):=by simp [Dk,arX,vi]
@[simp] theorem bx_sub (k : IntKind) (x y : Int) : Dk .sub (.m (.i k x)) (.m (.i k y)) = some (.m (.i k (wr k (x - y)))):=by simp [Dk,arX,vi]
@[simp] theorem bx_mul (k : IntKind) (x y : Int) : Dk .mul (.m (.i k x)) (.m (.i k y)) = some (.m (.i k (wr k (x * y)))):=by simp [Dk,arX,vi]
theorem RD (y : Int) : (!eqI y 0) = decide (y ≠ 0):=by rw [Dx]; by_cases h : y = 0 <;> simp [h]
@[simp] theorem bx_quo (k : IntKind) (x y : Int) : Dk .quo (.m (.i k x)) (.m (.i k y)) = gd (decide (y ≠ 0)) (some (.m (.i k (wr k (x.tdiv y))))):=by simp only [Dk,arX,vi,JJ,Ge,RD]
@[simp] theorem bx_rem (k : IntKind) (x y : Int) : Dk .rem (.m (.i k x)) (.m (.i k y)) = gd (decide (y ≠ 0)) (some (.m (.i k (x.tmod y)))):=by simp only [Dk,arX,vi,JJ,Ge,RD]
@[simp] theorem bx_eql (k : IntKind) (x y : Int) : Dk .eql (.m (.i k x)) (.m (.i k y)) = some (.m (.b (decide (x = y)))):=by simp [Dk,arX,vb,Dx]; rfl
@[simp] theorem bx_neq (k : IntKind) (x y : Int) : Dk .neq (.m (.i k x)) (.m (.i k y)) = some (.m (.b (decide (x ≠ y)))):=by simp [Dk,arX,vb,Dx]; rfl
@[simp] theorem bx_lss (k : IntKind) (x y : Int) : Dk .lss (.m (.i k x)) (.m (.i k y)) = some (.m (.b (decide (x < y)))):=by simp [Dk,arX,vb,Cy]
@[simp] theorem bx_leq (k : IntKind) (x y : Int) : Dk .leq (.m (.i k x)) (.m (.i k y)) = some (.m (.b (decide (x <= y)))):=by simp [Dk,arX,vb,Gv]
@[simp] theorem bx_gtr (k : IntKind) (x y : Int) : Dk .gtr (.m (.i k x)) (.m (.i k y)) = some (.m (.b (decide (y < x)))):=by simp [Dk,arX,vb,Cy]
@[simp] theorem bx_geq (k : IntKind) (x y : Int) : Dk .geq (.m (.i k x)) (.m (.i k y)) = some (.m (.b (decide (y <= x)))):=by simp [Dk,arX,vb,Gv]
@[simp] theorem Zc (x y : List Nat) : Dk .add (.m (.s x)) (.m (.s y)) = gd (decide (x.length + y.length <= 9223372036854775807)) (some (.m (.s (x ++ y)))):=by
  simp only [Dk,stX]
  congr 1
  rw [Afs]; simp
@[simp] theorem bx_seql (x y : List Nat) : Dk .eql (.m (.s x)) (.m (.s y)) = some (.m (.b (decide (x = y)))):=by simp [Dk,stX,vb,Gx]
@[simp] theorem bx_sneq (x y : List Nat) : Dk .neq (.m (.s x)) (.m (.s y)) = some (.m (.b (decide (x ≠ y)))):=by simp [Dk,stX,vb,Gx]
@[simp] theorem ux_neg (k : IntKind) (x : Int) : unX .neg (.m (.i k x)) = some (.m (.i k (wr k (0 - x)))):=rfl
@[simp] theorem ux_not (x : Bool) : unX .not (.m (.b x)) = some (.m (.b (!x))):=rfl
@[simp] theorem nth_zero {α : Type} (x : α) (r : List α) : nth (x :: r) 0 = some x:=rfl
@[simp] theorem UT {α : Type} (x : α) (r : List α) (n : Nat) : nth (x :: r) (n + 1) = nth r n:=rfl
@[simp] theorem aggC_m (cs : List I) : Zj (.m (.ag cs)) = some (cs.map .m):=rfl
@[simp] theorem aggC_a (cs : List V) : Zj (.ag cs) = some cs:=rfl
@[simp] theorem valOf_f (x : V) : CV false [x] = some x:=rfl
@[simp] theorem AU (cs : List V) : CV true cs = some (mkAg cs):=rfl
/- Numbers in their kinds. -/
theorem wr_i64 {x : Int} (h1 : -9223372036854775808 <= x) (h2 : x <= 9223372036854775807) : wr .i64 x = x:=by
  have : okK .i64 x = true:=(HL _ _ _).2 ⟨by simpa using h1,by simpa using h2⟩
  unfold wr; rw [this]
theorem CG {x : Int} (h1 : 0 <= x) (h2 : x <= 18446744073709551615) : wr .u64 x = x:=by
  have : okK .u64 x = true:=(HL _ _ _).2 ⟨by simpa using h1,by simpa using h2⟩
  unfold wr; rw [this]
theorem Fq {x : Int} (h1 : 0 <= x) (h2 : x <= 4294967295) : wr .u32 x = x:=by
  have : okK .u32 x = true:=(HL _ _ _).2 ⟨by simpa using h1,by simpa using h2⟩
  unfold wr; rw [this]
theorem GJ {x : Int} (h1 : 0 <= x) (h2 : x <= 255) : wr .u8 x = x:=by
  have : okK .u8 x = true:=(HL _ _ _).2 ⟨by simpa using h1,by simpa using h2⟩
  unfold wr; rw [this]
theorem CE (x : Int) : wr .u64 x = x % 18446744073709551616:=by
  rw [FQ]
  simp [IntKind.wrap,IntKind.signed,IntKind.bits]
end Go.Mx
/- Walking the machine: more rules for simp (private boxes, slices that do not change, strings). Nothing here speaks of a program. -/
namespace Go.Mx
theorem Bd (a b : Nat) : Nat.ble a b = decide (a <= b):=by
  rw [Afs]; simp
theorem Gk (a b : Nat) : Nat.blt a b = decide (a < b):=by
  rw [Afs]; simp
theorem Fj (a b : Nat) : Nat.beq a b = decide (a = b):=by
  rw [Afs]; simp
/- Private boxes. -/
@[simp] theorem stepL_eq (s : St) (o : OL) (az : List Opnd) (d : Dst) : EM s o az d = gd (AY s (.l o)) ((Af (evA s) az).bind fun vs=>(Ai (fun _ _ _=>none) s.M o vs).bind fun p=>CI { s with M:=p.2 } d p.1):=rfl
@[simp] theorem Acv (s : St) (d : Nat) (z : List V) : AY s (.l (.alp d z)) = BI d s.L:=rfl
@[simp] theorem Acr (s : St) (d z : Nat) : AY s (.l (.bxp d z)) = BI d s.L:=rfl
@[simp] theorem Acu (s : St) (a b c : Nat) (z : List V) : AY s (.l (.als a b c z)) = true:=rfl
@[simp] theorem fresh_st (s : St) (n : Nat) : AY s (.l (.st n)) = true:=rfl
@[simp] theorem Acm (s : St) (n : Nat) : AY s (.l (.str n)) = true:=rfl
@[simp] theorem isFa_fa (d k o : Nat) : Vb d (.fa k o) = decide (k = d):=Fj k d
@[simp] theorem isFa_m (d : Nat) (x : I) : Vb d (.m x) = false:=rfl
@[simp] theorem isFa_pt (d a b c e : Nat) : Vb d (.pt a b c e) = false:=rfl
@[simp] theorem Acp (s : St) : AY s (.l .mkm) = true:=rfl
@[simp] theorem Aco (s : St) (a b c : Nat) (z : List V) : AY s (.l (.mks a b z c)) = true:=rfl
@[simp] theorem Acs (s : St) (a b c : Nat) : AY s (.l (.app a b c)) = true:=rfl
@[simp] theorem Acn (s : St) (q : KT) : AY s (.l (.mup q)) = true:=rfl
@[simp] theorem noFa_nil (d : Nat) : BI d [] = true:=rfl
@[simp] theorem noFa_fa (d k n o : Nat) (r : Env) : BI d ((n,.fa k o) :: r) = (!Nat.beq k d && BI d r):=rfl
@[simp] theorem noFa_m (d n : Nat) (x : I) (r : Env) : BI d ((n,.m x) :: r) = BI d r:=rfl
@[simp] theorem noFa_un (d n : Nat) (r : Env) : BI d ((n,.un) :: r) = BI d r:=rfl
@[simp] theorem noFa_ls (d n : Nat) (x : List (List I)) (r : Env) : BI d ((n,.ls x) :: r) = BI d r:=rfl
@[simp] theorem noFa_sl (d n a b c e f : Nat) (g : Bool) (r : Env) : BI d ((n,.sl a b c e f g) :: r) = BI d r:=rfl
@[simp] theorem noFa_pt (d n a b c e : Nat) (r : Env) : BI d ((n,.pt a b c e) :: r) = BI d r:=rfl
@[simp] theorem noFa_mp (d n a : Nat) (r : Env) : BI d ((n,.mp a) :: r) = BI d r:=rfl
@[simp] theorem noFa_ag (d n : Nat) (a : List V) (r : Env) : BI d ((n,.ag a) :: r) = BI d r:=rfl
@[simp] theorem noFa_tu (d n : Nat) (a : List V) (r : Env) : BI d ((n,.tu a) :: r) = BI d r:=rfl
@[simp] theorem noFa_fn (d n f : Nat) (a : List V) (r : Env) : BI d ((n,.fn f a) :: r) = BI d r:=rfl
@[simp] theorem loud_alp (c : Bj) (M : Mem) (d : Nat) (z : List V) : Ai c M (.alp d z) [] = some (.fa d 0,{ M with B:=DP M.B d z }):=rfl
@[simp] theorem loud_bxp (c : Bj) (M : Mem) (d sz : Nat) (x : V) : Ai c M (.bxp d sz) [x] = (Ap x).bind fun cs=>gd (Nat.beq cs.length sz) (some (.fa d 0,{ M with B:=DP M.B d cs })):=rfl
@[simp] theorem loud_st (c : Bj) (M : Mem) (sz : Nat) (a x : V) : Ai c M (.st sz) [a,x] = (Ap x).bind fun cs=>gd (Nat.beq cs.length sz && cs.all BH) ((ER M cs a).bind fun M'=>some (.un,M')):=rfl
@[simp] theorem loud_str (c : Bj) (M : Mem) (sz : Nat) (a x : V) : Ai c M (.str sz) [a,x] = gd (Ax a) ((Ap x).bind fun cs=>gd (Nat.beq cs.length sz && cs.all BH) ((ER M cs a).bind fun M'=>some (.un,M'))):=rfl
@[simp] theorem AcM (cs : List I) : Ap (.m (.ag cs)) = some (cs.map .m):=rfl
@[simp] theorem AcL (cs : List V) : Ap (.ag cs) = some cs:=rfl
@[simp] theorem cellsV_b (x : Bool) : Ap (.m (.b x)) = some [.m (.b x)]:=rfl
@[simp] theorem cellsV_i (k : IntKind) (x : Int) : Ap (.m (.i k x)) = some [.m (.i k x)]:=rfl
@[simp] theorem cellsV_s (x : List Nat) : Ap (.m (.s x)) = some [.m (.s x)]:=rfl
@[simp] theorem AcI (k : Nat) : Ap (.m (.nl k)) = some [.m (.nl k)]:=rfl
@[simp] theorem Abd (es : List (List I)) : Ap (.m (.sl es)) = some [.m (.sl es)]:=rfl
@[simp] theorem Abe (es : List (List I)) : Ap (.m (.mp es)) = some [.m (.mp es)]:=rfl
@[simp] theorem AcK (es : List (List I)) : Ap (.ls es) = some [.ls es]:=rfl
@[simp] theorem AcH (a b c d e : Nat) (f : Bool) : Ap (.sl a b c d e f) = some [.sl a b c d e f]:=rfl
@[simp] theorem AcJ (a : Nat) : Ap (.mp a) = some [.mp a]:=rfl
@[simp] theorem oneV_b (x : Bool) : BH (.m (.b x)) = true:=rfl
@[simp] theorem oneV_i (k : IntKind) (x : Int) : BH (.m (.i k x)) = true:=rfl
@[simp] theorem oneV_s (x : List Nat) : BH (.m (.s x)) = true:=rfl
@[simp] theorem oneV_nl (k : Nat) : BH (.m (.nl k)) = true:=rfl
@[simp] theorem oneV_msl (es : List (List I)) : BH (.m (.sl es)) = true:=rfl
@[simp] theorem oneV_ls (es : List (List I)) : BH (.ls es) = true:=rfl
@[simp] theorem oneV_sl (a b c d e : Nat) (f : Bool) : BH (.sl a b c d e f) = true:=rfl
@[simp] theorem oneV_mp (a : Nat) : BH (.mp a) = true:=rfl
@[simp] theorem getB_nil (n : Nat) : getB [] n = none:=rfl
@[simp] theorem Dv (k : Nat) (x : List V) (r : List (Nat × List V)) (n : Nat) : getB ((k,x) :: r) n = if k = n then some x else getB r n:=by
  simp only [getB,Fj]
  by_cases h : k = n <;> simp [h]
@[simp] theorem setB_nil (n : Nat) (x : List V) : DP [] n x = [(n,x)]:=rfl
@[simp] theorem Ea (k : Nat) (y : List V) (r : List (Nat × List V)) (n : Nat) (x : List V) : DP ((k,y) :: r) n x = if k = n then (n,x) :: r else if n < k then (n,x) :: (k,y) :: r else (k,y) :: DP r n x:=by
  simp only [DP,Fj,Gk]
  by_cases h : k = n
  · simp [h]
  · by_cases h2 : n < k <;> simp [h,h2]
@[simp] theorem Abo (M : Mem) (xs : List V) (d off : Nat) : ER M xs (.fa d off) = (getB M.B d).bind fun cs=>(Fe cs off xs).bind fun cs'=>some { M with B:=DP M.B d cs' }:=rfl
@[simp] theorem UP (cs : List V) (off : Nat) (xs : List V) : Fe cs off xs = gd (decide (off + xs.length <= cs.length)) (some (cs.take off ++ xs ++ cs.drop (off + xs.length))):=by rw [<- Bd]; rfl
theorem Uk (n : Nat) (l : List V) : CH n l = gd (decide ((l.take n).length = n)) (some (l.take n)):=by rw [<- Fj]; rfl
@[simp] theorem readA_fa (M : Mem) (sz d off : Nat) : readA M sz (.fa d off) = (getB M.B d).bind fun cs=>CH sz (cs.drop off):=rfl
@[simp] theorem readA_pt (M : Mem) (sz : Nat) (cs : List I) : readA M sz (.m (.pt cs)) = CH sz (cs.map .m):=rfl
@[simp] theorem rx_ld (M : Mem) (ag : Bool) (sz : Nat) (a : V) : readX M (.ld ag sz) [a] = (readA M sz a).bind fun cs=>CV ag cs:=rfl
@[simp] theorem AV (cs : List V) : mkAg cs = match Bo cs with
  | some l=>.m (.ag l)
  | none=>.ag cs:=rfl
@[simp] theorem setD_mk (s : St) (n : Nat) (cs : List I) : CI s (.v n) (.m (.ag cs)) = some { s with E:=BN s.E n (.m (.ag cs)) }:=rfl
@[simp] theorem fill_nil (cs : List V) : RY cs [] [] = some cs:=rfl
@[simp] theorem Acw (cs : List V) (off sz : Nat) (ps : List (Nat × Nat)) (x : V) (xs : List V) : RY cs ((off,sz) :: ps) (x :: xs) = (Ap x).bind fun l=>gd (Nat.beq l.length sz) ((Fe cs off l).bind fun cs'=>RY cs' ps xs):=rfl
@[simp] theorem AaX (esz : Nat) (es : List (List V)) : BB esz es [] [] = some es:=rfl
@[simp] theorem YT (esz : Nat) (es : List (List V)) (ix : Nat) (ps : List Nat) (x : V) (xs : List V) : BB esz es (ix :: ps) (x :: xs) = (Ap x).bind fun l=>gd (Nat.beq l.length esz) ((AF es ix l).bind fun es'=>BB esz es' ps xs):=rfl
@[simp] theorem AaK {α : Type} (y : α) (r : List α) (x : α) : AF (y :: r) 0 x = some (x :: r):=rfl
@[simp] theorem PT {α : Type} (y : α) (r : List α) (n : Nat) (x : α) : AF (y :: r) (n + 1) x = (AF r n x).bind fun l=>some (y :: l):=rfl
@[simp] theorem px_bsl (esz : Nat) (z : List V) (n : Nat) (p : List Nat) (xs : List V) : Aj (.bsl esz z n p) xs = (BB esz (List.replicate n z) p xs).bind fun es=>(Af Bo es).bind fun l=>some (.ls l):=rfl
/- Elements. -/
@[simp] theorem Ack (n : Nat) (k : IntKind) (x : Int) : idx n (.m (.i k x)) = gd (decide (0 <= x /\ x < n)) (some x.toNat):=by
  cases x with
  | ofNat j =>
    show gd (Nat.blt j n) (some j) = _
    rw [Gk]
    congr 1
    simp
  | negSucc j =>
    have : ¬ (0 <= Int.negSucc j /\ Int.negSucc j < n):=by omega
    rw [Afz this]; rfl
@[simp] theorem AcN (n : Nat) (k : IntKind) (x : Int) : bnd n (.m (.i k x)) = gd (decide (0 <= x /\ x <= n)) (some x.toNat):=by
  cases x with
  | ofNat j =>
    show gd (Nat.ble j n) (some j) = _
    rw [Bd]
    congr 1
    simp
  | negSucc j =>
    have : ¬ (0 <= Int.negSucc j /\ Int.negSucc j <= n):=by omega
    rw [Afz this]; rfl
@[simp] theorem AbI (esz : Nat) (es : List (List I)) (i : V) : Aj (.ixa esz) [.m (.sl es),i] = (idx es.length i).bind fun j=>(nth es j).bind fun e=>gd (Nat.beq e.length esz) (some (.m (.pt e))):=rfl
@[simp] theorem AbJ (esz : Nat) (es : List (List I)) (i : V) : Aj (.ixa esz) [.ls es,i] = (idx es.length i).bind fun j=>(nth es j).bind fun e=>gd (Nat.beq e.length esz) (some (.m (.pt e))):=rfl
@[simp] theorem AaP (esz r ver e st len : Nat) (lim : Bool) (i : V) : Aj (.ixa esz) [.sl r ver e st len lim,i] = gd (Nat.beq esz e) ((idx len i).bind fun j=>some (.pt r ver (st + j) 0)):=rfl
@[simp] theorem AaR (n esz d o : Nat) (i : V) : Aj (.ixaA n esz) [.fa d o,i] = (idx n i).bind fun j=>some (.fa d (o + j * esz)):=rfl
@[simp] theorem AaQ (n esz : Nat) (cs : List I) (i : V) : Aj (.ixaA n esz) [.m (.pt cs),i] = (idx n i).bind fun j=>some (.m (.pt (cs.drop (j * esz)))):=rfl
@[simp] theorem px_ixv (n esz : Nat) (ag : Bool) (x i : V) : Aj (.ixv n esz ag) [x,i] = (idx n i).bind fun j=>(Zj x).bind fun cs=>(CH esz (cs.drop (j * esz))).bind fun l=>CV ag l:=rfl
@[simp] theorem px_ixs (l : List Nat) (i : V) : Aj .ixs [.m (.s l),i] = (idx l.length i).bind fun j=>(nth l j).bind fun c=>some (.m (.i .u8 (c : Int))):=rfl
theorem AA {α : Type} : ∀ (l : List α) (j : Nat),nth l j = l[j]?
  | [],n=>by cases n <;> rfl
  | _ :: _,0=>rfl
  | _ :: r,n + 1=>by rw [UT,AA r n]; simp
@[simp] theorem px_slc_s (lo hi mx : Bool) (l : List Nat) (vs : List V) : Aj (.slc 0 lo hi mx) (.m (.s l) :: vs) = gd (!mx) ((KB l.length lo hi mx vs).bind fun p=>some (.m (.s ((l.drop p.1).take (p.2 - p.1))))):=rfl
@[simp] theorem bnds_ff (n : Nat) : KB n false false false [] = some (0,n):=rfl
@[simp] theorem bnds_tf (n : Nat) (a : V) : KB n true false false [a] = (bnd n a).bind fun l=>some (l,n):=rfl
@[simp] theorem bnds_ft (n : Nat) (b : V) : KB n false true false [b] = (bnd n b).bind fun h=>some (0,h):=rfl
@[simp] theorem bnds_tt (n : Nat) (a b : V) : KB n true true false [a,b] = (bnd n b).bind fun h=>(bnd h a).bind fun l=>some (l,h):=rfl
@[simp] theorem AaM (M : Mem) (n esz : Nat) (lo hi mx : Bool) (cs : List I) (vs : List V) : readX M (.slcA n esz lo hi mx) (.m (.pt cs) :: vs) = gd (Nat.beq cs.length (n * esz) && Nat.ble n 9223372036854775807) ((KB n lo hi mx vs).bind fun p=>some (match mx || Nat.beq p.2 n with
      | true=>.ls (((BU esz n cs).drop p.1).take (p.2 - p.1))
      | false=>.m (.sl (((BU esz n cs).drop p.1).take (p.2 - p.1))))):=rfl
@[simp] theorem nat_beq (a b : Nat) : Nat.beq a b = decide (a = b):=Fj a b
@[simp] theorem Acf : DU 4 (.m (.nl 4)) = some true:=rfl
@[simp] theorem Ace (es : List (List I)) : DU 4 (.m (.sl es)) = some false:=rfl
@[simp] theorem Acg (es : List (List I)) : DU 4 (.ls es) = some false:=rfl
@[simp] theorem AaV (a b c d e : Nat) (f : Bool) : DU 4 (.sl a b c d e f) = some false:=rfl
/- Appending to rows. -/
@[simp] theorem Ez (c : Bj) (M : Mem) (ty esz b : Nat) (s x : V) : Ai c M (.app ty esz b) [s,x] = match x with
    | .m (.s l)=>FP M ty esz b s (l.map fun c : Nat=>[.m (.i .u8 (Int.ofNat c))])
    | x=>(elems M.H x).bind fun xs=>FP M ty esz b s xs:=rfl
@[simp] theorem elems_nl (H : Hp) : elems H (.m (.nl 4)) = some []:=rfl
@[simp] theorem elems_sl (H : Hp) (es : List (List I)) : elems H (.m (.sl es)) = some (BC es):=rfl
@[simp] theorem elems_ls (H : Hp) (es : List (List I)) : elems H (.ls es) = some (BC es):=rfl
@[simp] theorem immS_nil : BC [] = []:=rfl
@[simp] theorem Aci (e : List I) (r : List (List I)) : BC (e :: r) = e.map .m :: BC r:=rfl
@[simp] theorem Vo : EW [] [] [] = some true:=rfl
@[simp] theorem Sb (k : Nat) (ks : List Nat) (x y : I) (xs ys : List I) : EW (k :: ks) (x :: xs) (y :: ys) = (eqC k x y).bind fun r=>(EW ks xs ys).bind fun rs=>some (r && rs):=rfl
@[simp] theorem Acz (k : IntKind) (x y : Int) : eqC 1 (.i k x) (.i k y) = some (decide (x = y)):=by
  simp only [eqC,JJ,Dx]
  rfl
@[simp] theorem eqC_b (x y : Bool) : eqC 0 (.b x) (.b y) = some (x == y):=rfl
@[simp] theorem eqC_s (x y : List Nat) : eqC 2 (.s x) (.s y) = some (decide (x = y)):=by
  simp only [eqC,Gx]
  rfl
/- Calls of a function's value. -/
def CavK (G : Cfg) (g : Option V) (vs : Option (List V)) (s : St) (d : Dst) (r : List Op) (k : K) : Prop:=Cw g fun g=>match g with
  | .m (.fn f cap)=>Is G f (vs.map fun l=>l ++ cap.map .m) s d r k
  | .fn f cap=>Is G f (vs.map fun l=>l ++ cap) s d r k
  | .yl r0=>Is G yN (vs.map fun l=>.yl r0 :: l) s d r k
  | _=>False
section
variable {G : Cfg}
theorem WO (hG : Bq G) (d : Dst) (g : Opnd) (az : List Opnd) (s : St) (r : List Op) (k : K) : BM G (some s) (⟨d,.l .cav,g :: az,none⟩ :: r) k = CavK G (evA s g) (Af (evA s) az) s d r k:=by
  simp only [BM,AX,Ew hG,CavK]
  apply propext
  simp only [GQ,DH,Aq,AeM,AY,gd,evO,Af,AeC,Cw,Is,Ret]
  constructor
  · rintro ⟨n,s',⟨vs,⟨gv,hg,as',has,hvs⟩,⟨v,M⟩,hl,hset⟩,hq⟩
    simp only [AeD] at hvs
    subst hvs
    refine ⟨gv,hg,?_⟩
    simp only [Ai] at hl
    split at hl
    · rename_i f cap
      simp only [AeC,AeD,AeE] at hl
      obtain ⟨⟨r0,H'⟩,h2,rfl,rfl⟩:=hl
      exact ⟨_,by rw [has]; rfl,n,_,_,h2,s',hset,hq⟩
    · rename_i f cap
      simp only [AeC,AeD,AeE] at hl
      obtain ⟨⟨r0,H'⟩,h2,rfl,rfl⟩:=hl
      exact ⟨_,by rw [has]; rfl,n,_,_,h2,s',hset,hq⟩
    · rename_i r0
      simp only [AeC,AeD,AeE] at hl
      obtain ⟨⟨u0,H'⟩,h2,rfl,rfl⟩:=hl
      exact ⟨_,by rw [has]; rfl,n,_,_,h2,s',hset,hq⟩
    · cases hl
  · rintro ⟨gv,hg,h⟩
    split at h
    · rename_i f cap
      obtain ⟨vs,hvs,n,v,H',h2,s',hset,hq⟩:=h
      cases ha : Af (evA s) az with
      | none=>rw [ha] at hvs; cases hvs
      | some as' =>
        rw [ha] at hvs
        cases hvs
        refine ⟨n,s',⟨_,⟨_,hg,as',rfl,rfl⟩,(v,{ s.M with H:=H' }),?_,hset⟩,hq⟩
        simp only [Ai,AeC]
        exact ⟨(v,H'),h2,rfl⟩
    · rename_i f cap
      obtain ⟨vs,hvs,n,v,H',h2,s',hset,hq⟩:=h
      cases ha : Af (evA s) az with
      | none=>rw [ha] at hvs; cases hvs
      | some as' =>
        rw [ha] at hvs
        cases hvs
        refine ⟨n,s',⟨_,⟨_,hg,as',rfl,rfl⟩,(v,{ s.M with H:=H' }),?_,hset⟩,hq⟩
        simp only [Ai,AeC]
        exact ⟨(v,H'),h2,rfl⟩
    · rename_i r0
      obtain ⟨vs,hvs,n,v,H',h2,s',hset,hq⟩:=h
      cases ha : Af (evA s) az with
      | none=>rw [ha] at hvs; cases hvs
      | some as' =>
        rw [ha] at hvs
        cases hvs
        refine ⟨n,s',⟨_,⟨_,hg,as',rfl,rfl⟩,(v,{ s.M with H:=H' }),?_,hset⟩,hq⟩
        simp only [Ai,AeC]
        exact ⟨(v,H'),h2,rfl⟩
    · exact h.elim
theorem Du {f : Nat} {is : List I} {vs : List V} {H H0 : Hp} {v : V} (hp : G.prim f = none) (hs : G.sh f = false) (h : Gives G f (is.map .m) H0 v H0) (hv : Af (view 20 H) vs = some is)
    (hr : (vs.flatMap DT = [] /\ vs.all Bz = true) \/ (vs.flatMap DT ≠ [] /\ Gg v = true)) : Gives G f vs H v H:=by
  obtain ⟨n,h⟩:=h
  cases n with
  | zero=>simp [Bi] at h
  | succ n =>
    refine ⟨n + 1,?_⟩
    simp only [Bi,hp,hs] at h ⊢
    cases hfn : G.fn f with
    | none =>
      rw [hfn] at h
      simp only [Ad] at h
      obtain ⟨_,h⟩:=h
      cases is <;> simp [DQ] at h
    | some fn =>
    rw [hfn] at h
    simp only at h ⊢
    have hm : ∀ (l : List I),Af (view 20 H0) (l.map V.m) = some l:=by
      intro l
      induction l with
      | nil=>rfl
      | cons a r ih=>simp only [Afx,Af,NI,ih]; rfl
    have hz : (is.map V.m).flatMap DT = []:=by
      induction is with
      | nil=>rfl
      | cons a r _=>simp [DT,GS]
    unfold DV at h ⊢
    simp only [hm,hz,AeC] at h
    obtain ⟨is',he,⟨v1,H1⟩,hev,r,hr1,h2⟩:=h
    cases he
    have hrv : r = v:=by
      cases hsh : (is.map V.m).all Bz with
      | false=>rw [hsh] at h2; simp at h2
      | true=>rw [hsh] at h2; simp at h2; exact h2
    subst hrv
    simp only [hv,AeM,hev,hr1]
    rcases hr with ⟨e1,e2⟩ | ⟨e1,e2⟩
    · rw [e1]
      simp [e2]
    · cases hl : vs.flatMap DT with
      | nil=>exact absurd hl e1
      | cons a b=>simp [e2]
end
/- Shifts, and the last bit. -/
@[simp] theorem AcQ : JP .i64 = 64:=rfl
@[simp] theorem AcP : JP .u64 = 64:=rfl
@[simp] theorem bx_shr (k k' : IntKind) (x y : Int) : Dk .shr (.m (.i k x)) (.m (.i k' y)) = gd (decide (0 <= y)) (some (.m (.i k (x / ((2 ^ min y.toNat (JP k) : Nat) : Int))))):=by
  cases y with
  | ofNat n =>
    have : decide (0 <= Int.ofNat n) = true:=by simp
    rw [this,Ge,<- Int.fdiv_eq_ediv_of_nonneg _ (Int.natCast_nonneg _)]
    rfl
  | negSucc n=>rfl
@[simp] theorem bx_shl (k k' : IntKind) (x y : Int) : Dk .shl (.m (.i k x)) (.m (.i k' y)) = gd (decide (0 <= y)) (some (.m (.i k (wr k (x * ((2 ^ min y.toNat (JP k) : Nat) : Int)))))):=by
  cases y with
  | ofNat n =>
    have : decide (0 <= Int.ofNat n) = true:=by simp
    rw [this,Ge]
    rfl
  | negSucc n=>rfl
theorem Sm (k : IntKind) (x y : Int) : Dk .and (.m (.i k x)) (.m (.i k y)) = some (.m (.i k (wr k (Int.ofNat (Nat.land (Ee k x) (Ee k y)))))):=by simp [Dk,arX,vi]
@[simp] theorem bx_and1 (x : Int) : Dk .and (.m (.i .i64 x)) (.m (.i .i64 1)) = some (.m (.i .i64 (x % 2))):=by
  have h1 : Ee .i64 1 = 1:=rfl
  have h2 : Nat.land (Ee .i64 x) 1 = Ee .i64 x % 2:=Nat.and_one_is_mod _
  have h3 : ((Ee .i64 x % 2 : Nat) : Int) = x % 2:=by
    cases x with
    | ofNat m=>simp only [Ee,KA,Int.ofNat_eq_natCast]; omega
    | negSucc m=>simp only [Ee,KA]; omega
  rw [Sm,h1,h2]
  have h4 : (Int.ofNat (Ee .i64 x % 2)) = x % 2:=h3
  rw [h4,wr_i64 (by omega) (by omega)]
/- Rows of mutable memory. -/
@[simp] theorem Acq (s : St) (a b c : Nat) : AY s (.l (.bxs a b c)) = true:=rfl
@[simp] theorem loud_bxs (c : Bj) (M : Mem) (ty esz n : Nat) (x : V) : Ai c M (.bxs ty esz n) [x] = (Ap x).bind fun cs=>gd (Nat.beq cs.length (n * esz) && Nat.ble 1 esz && Nat.ble 1 n && Nat.ble n 9223372036854775807) (some (.pt M.H.length n 0 0,{ M with H:=M.H ++ [.cs ty esz (BU esz n cs) 0 false] })):=rfl
@[simp] theorem loud_als (c : Bj) (M : Mem) (ty esz n : Nat) (z : List V) : Ai c M (.als ty esz n z) [] = gd (Nat.beq z.length (n * esz) && Nat.ble 1 esz && Nat.ble 1 n && Nat.ble n 9223372036854775807) (some (.pt M.H.length n 0 0,{ M with H:=M.H ++ [.cs ty esz (BU esz n z) 0 false] })):=rfl
@[simp] theorem Yt (n esz r ver ix o : Nat) (i : V) : Aj (.ixaA n esz) [.pt r ver ix o,i] = (idx n i).bind fun j=>some (.pt r ver ix (o + j * esz)):=rfl
@[simp] theorem Ym (M : Mem) (n esz r ver : Nat) (lo hi mx : Bool) (vs : List V) : readX M (.slcA n esz lo hi mx) (.pt r ver 0 0 :: vs) = (nth M.H r).bind fun row=>match row with
      | .cs _ esz' es _ _=>gd (Nat.beq esz esz' && Nat.beq es.length n && Nat.beq ver n) ((KB n lo hi mx vs).bind fun p=>some (.sl r ver esz p.1 (p.2 - p.1) (mx || Nat.beq p.2 n)))
      | _=>none:=rfl
@[simp] theorem AbB (M : Mem) (sz r ver ix off : Nat) : readA M sz (.pt r ver ix off) = (nth M.H r).bind fun row=>match row with
    | .cs _ esz es base _=>gd (Nat.ble base ver && (Nat.ble (off + sz) esz || Nat.beq ver es.length)) (CX esz es ix off sz)
    | _=>none:=rfl
@[simp] theorem nat_ble (a b : Nat) : Nat.ble a b = decide (a <= b):=Bd a b
@[simp] theorem chunk_0 {α : Type} (e : Nat) (l : List α) : BU e 0 l = []:=rfl
@[simp] theorem chunk_s {α : Type} (e n : Nat) (l : List α) : BU e (n + 1) l = l.take e :: BU e n (l.drop e):=rfl
@[simp] theorem Oy : ∀ (E : Env) (n : Nat) (x : V),BP (BN E n x) n = some x
  | [],n,x=>by simp
  | (k,y) :: r,n,x=>by
    rw [Hq]
    by_cases h1 : n < k
    · rw [AeJ h1]; simp
    · rw [AeF h1]
      by_cases h2 : k = n
      · rw [AeJ h2]; simp
      · rw [AeF h2,Cq,AeF h2,Oy r n x]
@[simp] theorem Fz : ∀ (B : List (Nat × List V)) (n : Nat) (x : List V),getB (DP B n x) n = some x
  | [],n,x=>by simp
  | (k,y) :: r,n,x=>by
    rw [Ea]
    by_cases h2 : k = n
    · rw [AeJ h2]; simp
    · rw [AeF h2]
      by_cases h3 : n < k
      · rw [AeJ h3]; simp
      · rw [AeF h3,Dv,AeF h2,Fz r n x]
@[simp] theorem Uu : ∀ (B : List (Nat × List V)) (n : Nat) (x y : List V),DP (DP B n x) n y = DP B n y
  | [],n,x,y=>by simp
  | (k,z) :: r,n,x,y=>by
    rw [Ea,Ea]
    by_cases h2 : k = n
    · rw [AeJ h2,AeJ h2]; simp
    · rw [AeF h2,AeF h2]
      by_cases h3 : n < k
      · rw [AeJ h3,AeJ h3]; simp
      · rw [AeF h3,AeF h3,Ea,AeF h2,AeF h3,Uu r n x y]
@[simp] theorem HM : ∀ (E : Env) (m n : Nat) (x : V),m ≠ n -> BP (BN E m x) n = BP E n
  | [],m,n,x,h=>by simp [h]
  | (k,y) :: r,m,n,x,h=>by
    rw [Hq]
    by_cases h1 : m < k
    · rw [AeJ h1,Cq,AeF h]
    · rw [AeF h1]
      by_cases h2 : k = m
      · subst h2
        rw [AeJ rfl,Cq,Cq,AeF h,AeF h]
      · rw [AeF h2,Cq,Cq,HM r m n x h]
@[simp] theorem AaI (l : List V) : CH 0 l = some []:=rfl
@[simp] theorem AaJ (n : Nat) (x : V) (r : List V) : CH (n + 1) (x :: r) = (CH n r).bind fun l=>some (x :: l):=by
  unfold CH
  simp only [List.take_succ_cons,Afj,Fj]
  by_cases h : (r.take n).length = n
  · have : (r.take n).length + 1 = n + 1:=by omega
    simp only [h,decide_true,Ge,AeM]
  · have : ¬ (r.take n).length + 1 = n + 1:=by omega
    simp only [h,this,decide_false,Vg,Option.bind_none]
/- The greatest and the least. -/
@[simp] theorem px_mm (mx : Bool) (k : IntKind) (x : Int) (r : List V) : Aj (.mm mx) (.m (.i k x) :: r) = mmX mx k x r:=rfl
@[simp] theorem mmX_nil (mx : Bool) (k : IntKind) (x : Int) : mmX mx k x [] = some (.m (.i k x)):=rfl
theorem YH (x y : Int) : AbU x y = max x y:=by
  unfold AbU
  rw [Cy]
  by_cases h : x < y
  · simp only [h,decide_true]; omega
  · simp only [h,decide_false]; omega
theorem YG (x y : Int) : AbS x y = min x y:=by
  unfold AbS
  rw [Cy]
  by_cases h : y < x
  · simp only [h,decide_true]; omega
  · simp only [h,decide_false]; omega
@[simp] theorem mmX_max (k k' : IntKind) (x y : Int) (r : List V) : mmX true k x (.m (.i k' y) :: r) = mmX true k (max x y) r:=by rw [<- YH]; rfl
@[simp] theorem mmX_min (k k' : IntKind) (x y : Int) (r : List V) : mmX false k x (.m (.i k' y) :: r) = mmX false k (min x y) r:=by rw [<- YG]; rfl
end Go.Mx
/- Walking the machine: rules for rows of mutable memory. -/
namespace Go.Mx
/- Rows of one cell an element. -/
@[simp] theorem Ot (c : Bj) (M : Mem) (ty esz : Nat) (z : List V) (b : Nat) (a : V) (n : Int) : Ai c M (.mks ty esz z b) [a,.m (.i .i64 n)] = (YF n).bind fun c=>(bnd c a).bind fun n=>gd (Nat.ble (c * b) 281474976710656 && Nat.ble c 9223372036854775807 && Nat.ble 1 esz && Nat.beq z.length esz)
      (some (.sl M.H.length n esz 0 n (Nat.beq n c),{ M with H:=M.H ++ [.cs ty esz (List.replicate n z) 0 false] })):=by
  cases n <;> rfl
@[simp] theorem RF (n : Nat) : YF (n : Int) = some n:=rfl
@[simp] theorem readR_10 (es : List (List V)) (ix : Nat) : CX 1 es ix 0 1 = (nth es ix).bind fun e=>CH 1 e:=rfl
@[simp] theorem AaH (M : Mem) (xs : List V) (r ver ix off : Nat) : ER M xs (.pt r ver ix off) = (nth M.H r).bind fun row=>match row with
    | .cs ty esz es _ fz=>gd (!fz && Nat.beq ver es.length) ((BD esz es ix off xs).bind fun es'=>(AF M.H r (.cs ty esz es' es.length false)).bind fun H'=>some { M with H:=H' })
    | _=>none:=rfl
@[simp] theorem Ca (es : List (List V)) (ix : Nat) (x : V) : BD 1 es ix 0 [x] = (nth es ix).bind fun e=>(Fe e 0 [x]).bind fun e'=>AF es ix e':=rfl
theorem Am {α : Type} : ∀ (l : List α) (n : Nat) (x : α),n < l.length -> AF l n x = some (l.set n x)
  | [],n,x,h=>by simp at h
  | _ :: r,0,x,h=>rfl
  | y :: r,n + 1,x,h=>by
    simp only [Afj] at h
    rw [PT,Am r n x (by omega)]
    rfl
@[simp] theorem MN : ∀ (B : List (Nat × List V)) (m n : Nat) (x : List V),m ≠ n -> getB (DP B m x) n = getB B n
  | [],m,n,x,h=>by simp [h]
  | (k,y) :: r,m,n,x,h=>by
    rw [Ea]
    by_cases h2 : k = m
    · subst h2
      rw [AeJ rfl,Dv,Dv,AeF h,AeF h]
    · rw [AeF h2]
      by_cases h3 : m < k
      · rw [AeJ h3,Dv,AeF h]
      · rw [AeF h3,Dv,Dv,MN r m n x h]
end Go.Mx
/- Walking the machine: appending to rows of ints. -/
namespace Go.Mx
def Dj (l : List Int) : List (List I):=l.map fun x=>[.i .i64 x]
theorem Da (l : List Int) : (Dj l).length = l.length:=by simp [Dj]
theorem JM {l : List Int} {i : Nat} {x : Int} (h : l[i]? = some x) : nth (Dj l) i = some [.i .i64 x]:=by
  rw [AA]; simp [Dj,h]
@[simp] theorem appX_nl (M : Mem) (ty esz b : Nat) (x : List V) (xs : List (List V)) : FP M ty esz b (.m (.nl 4)) (x :: xs) = BA M ty esz b (x :: xs):=rfl
@[simp] theorem CJ (M : Mem) (ty esz b : Nat) (es : List (List V)) : BA M ty esz b es = gd (Nat.ble (es.length * b) 140737488355328 && Nat.ble 1 esz && es.all fun e=>Nat.beq e.length esz && e.all BH)
    (some (.sl M.H.length es.length esz 0 es.length false,{ M with H:=M.H ++ [.cs ty esz es 0 false] })):=rfl
end Go.Mx
/- Walking the machine: induction on a measure; slices that may be nil; tests kept as ifs. Nothing here speaks of a program. -/
namespace Go.Mx
theorem BO {α : Type} (m : α -> Nat) {P : α -> Prop} (h : ∀ a,(∀ b,m b < m a -> P b) -> P a) : ∀ a,P a:=fun a=>(measure m).wf.induction a h
def IsSl (y : I) (es : List (List I)) : Prop:=y = .sl es \/ (y = .nl 4 /\ es = [])
theorem Ci (es : List (List I)) : IsSl (.sl es) es:=.inl rfl
theorem ED : IsSl (.nl 4) []:=.inr ⟨rfl,rfl⟩
theorem idx_0 (v : V) : idx 0 v = none:=by
  unfold idx
  split
  · rfl
  · rfl
theorem IsSl.len {y : I} {es : List (List I)} (h : IsSl y es) : Aj (.len false) [.m y] = some (.m (.i .i64 es.length)):=by
  rcases h with rfl | ⟨rfl,rfl⟩ <;> rfl
theorem IsSl.ixa {y : I} {es : List (List I)} (h : IsSl y es) (esz : Nat) (i : V) : Aj (.ixa esz) [.m y,i] = (idx es.length i).bind fun j=>(nth es j).bind fun e=>gd (Nat.beq e.length esz) (some (.m (.pt e))):=by
  rcases h with rfl | ⟨rfl,rfl⟩
  · rfl
  · rw [Aft,idx_0]; rfl
theorem IsSl.elems {y : I} {es : List (List I)} (h : IsSl y es) (H : Hp) : Mx.elems H (.m y) = some (BC es):=by
  rcases h with rfl | ⟨rfl,rfl⟩ <;> rfl
theorem IsSl.rules {y : I} {es : List (List I)} (h : IsSl y es) : (Aj (.len false) [.m y] = some (.m (.i .i64 es.length))) /\ (∀ (esz : Nat) (i : V),Aj (.ixa esz) [.m y,i] = (idx es.length i).bind fun j=>(nth es j).bind fun e=>gd (Nat.beq e.length esz) (some (.m (.pt e)))) /\ (∀ H,Mx.elems H (.m y) = some (BC es)):=⟨h.len,h.ixa,h.elems⟩
/- A region's own slots as a stack: what is set last lies ahead. -/
def canon : Env -> Env
  | []=>[]
  | (n,v) :: r=>BN (canon r) n v
theorem IP : ∀ (L : Env) (n : Nat),BP (canon L) n = BP L n
  | [],n=>rfl
  | (k,x) :: r,n=>by
    simp only [canon]
    by_cases h : k = n
    · subst h; rw [Oy,Cq,AeJ rfl]
    · rw [HM _ _ _ _ h,Cq,AeF h,IP r n]
theorem RE (d n : Nat) (x : V) (r : Env) (h : BI d ((n,x) :: r) = true) : BI d [(n,x)] = true /\ BI d r = true:=by
  cases x <;> simp_all [BI]
theorem Jt (d n : Nat) (x : V) (r : Env) (h1 : BI d [(n,x)] = true) (h2 : BI d r = true) : BI d ((n,x) :: r) = true:=by
  cases x <;> simp_all [BI]
theorem Lb (d n : Nat) (x : V) (hx : BI d [(n,x)] = true) : ∀ (L : Env),BI d L = true -> BI d (BN L n x) = true
  | [],_=>hx
  | (k,y) :: r,h=>by
    obtain ⟨h1,h2⟩:=RE d k y r h
    rw [Hq]
    by_cases a : n < k
    · rw [AeJ a]; exact Jt d n x _ hx h
    · rw [AeF a]
      by_cases b : k = n
      · rw [AeJ b]; exact Jt d n x _ hx h2
      · rw [AeF b]; exact Jt d k y _ h1 (Lb d n x hx r h2)
theorem FX (d : Nat) : ∀ (L : Env),BI d L = true -> BI d (canon L) = true
  | [],_=>rfl
  | (k,x) :: r,h=>by
    obtain ⟨h1,h2⟩:=RE d k x r h
    exact Lb d k x h1 _ (FX d r h2)
def nf1 (d : Nat) : V -> Bool
  | .fa k _=>!Nat.beq k d
  | _=>true
def nf (d : Nat) : Env -> Bool
  | []=>true
  | (_,x) :: r=>nf1 d x && nf d r
theorem MK (d : Nat) : ∀ (L : Env),nf d L = true -> BI d L = true
  | [],_=>rfl
  | (k,x) :: r,h=>by
    simp only [nf,AeH] at h
    refine Jt d k x r ?_ (MK d r h.2)
    have h1:=h.1
    cases x <;> simp_all [BI,nf1]
@[simp] theorem nf_nil (d : Nat) : nf d [] = true:=by simp only [nf]
@[simp] theorem nf_cons (d n : Nat) (x : V) (r : Env) : nf d ((n,x) :: r) = (nf1 d x && nf d r):=by simp only [nf]
@[simp] theorem nf1_m (d : Nat) (x : I) : nf1 d (.m x) = true:=by simp only [nf1]
@[simp] theorem nf1_fa (d k o : Nat) : nf1 d (.fa k o) = decide (k ≠ d):=by simp only [nf1]; rw [Afs]; simp
@[simp] theorem nf1_pt (d a b c e : Nat) : nf1 d (.pt a b c e) = true:=by simp only [nf1]
@[simp] theorem nf1_ag (d : Nat) (a : List V) : nf1 d (.ag a) = true:=by simp only [nf1]
@[simp] theorem nf1_tu (d : Nat) (a : List V) : nf1 d (.tu a) = true:=by simp only [nf1]
def cs (s : St) : St:={ s with L:=canon s.L }
theorem HS (s : St) : evA (cs s) = evA s:=by
  funext o
  cases o with
  | v n=>rfl
  | l n=>exact IP s.L n
  | k x=>rfl
theorem DZ (s : St) (g : Option (Opnd × Bool)) : Aq (cs s) g = Aq s g:=by
  cases g with
  | none=>rfl
  | some g=>rw [Hl,Hl,HS]
def CW (s : St) (d : Dst) (x : V) : Option St:=match d with
  | .no=>some s
  | .v n=>gd (Eg n x) (some { s with E:=BN s.E n x })
  | .l n=>some { s with L:=(n,x) :: s.L }
theorem DE (s : St) (d : Dst) (x : V) : (CW s d x).map cs = CI (cs s) d x:=by
  cases d with
  | no=>rfl
  | v n =>
    simp only [CW,CI]
    cases Eg n x <;> rfl
  | l n=>rfl
def As (G : Cfg) (s : Option St) (ops : List Op) (k : K) : Prop:=BM G (s.map cs) ops k
def DY (G : Cfg) (f : Nat) (vs : Option (List V)) (s : St) (d : Dst) (r : List Op) (k : K) : Prop :=
  Cw vs fun vs=>Ret G f vs s.M.H fun v H'=>As G (CW { s with M:={ s.M with H:=H' } } d v) r k
def GH (G : Cfg) (q : Option Bool) (f : Nat) (az : List Opnd) (s : St) (d : Dst) (r : List Op) (k : K) : Prop:=Cw q fun q=>if q then DY G f (Af (evA s) az) s d r k else As G (CW s d .un) r k
def Uc (G : Cfg) (g : Option V) (vs : Option (List V)) (s : St) (d : Dst) (r : List Op) (k : K) : Prop:=Cw g fun g=>match g with
  | .m (.fn f cap)=>DY G f (vs.map fun l=>l ++ cap.map .m) s d r k
  | .fn f cap=>DY G f (vs.map fun l=>l ++ cap) s d r k
  | .yl r0=>DY G yN (vs.map fun l=>.yl r0 :: l) s d r k
  | _=>False
def NG (G : Cfg) (q : Option Bool) (g : Opnd) (az : List Opnd) (s : St) (d : Dst) (r : List Op) (k : K) : Prop:=Cw q fun q=>if q then Uc G (evA s g) (Af (evA s) az) s d r k else As G (CW s d .un) r k
def Hn (s : St) (o : OP) (az : List Opnd) (d : Dst) : Option St:=(Af (evA s) az).bind fun vs=>(Aj o vs).bind fun v=>CW s d v
def Hm (s : St) (o : OR) (az : List Opnd) (d : Dst) : Option St:=(Af (evA s) az).bind fun vs=>(readX s.M o vs).bind fun v=>CW s d v
def Bk (s : St) (o : OL) (az : List Opnd) (d : Dst) : Option St:=(Af (evA s) az).bind fun vs=>(Ai (fun _ _ _=>none) s.M o vs).bind fun p=>CW { s with M:=p.2 } d p.1
theorem Dq {α β γ : Type} (x : Option α) (f : α -> Option β) (g : β -> γ) : (x.bind f).map g = x.bind fun a=>(f a).map g:=by cases x <;> rfl
theorem NO (s : St) (o : OP) (az : List Opnd) (d : Dst) : (Hn s o az d).map cs = KK (cs s) o az d:=by
  simp only [Hn,KK,Dq,DE,HS]
theorem NN (s : St) (o : OR) (az : List Opnd) (d : Dst) : (Hm s o az d).map cs = stepR (cs s) o az d:=by
  simp only [Hm,stepR,Dq,DE,HS]
  rfl
theorem NP (s : St) (o : OL) (az : List Opnd) (d : Dst) (hf : AY s (.l o) = true) : (Bk s o az d).map cs = EM (cs s) o az d:=by
  have h : AY (cs s) (.l o) = true:=by
    cases o with
    | alp d z=>exact FX d _ hf
    | bxp d z=>exact FX d _ hf
    | _=>rfl
  simp only [Bk,EM,h,Ge,Dq,HS]
  congr 1
  funext vs
  show (Ai _ s.M o vs).bind _ = (Ai _ s.M o vs).bind _
  congr 1
  funext p
  exact DE { s with M:=p.2 } d p.1
section
variable {G : Cfg}
theorem UG (ops : List Op) (E : Env) (M : Mem) (k : K) : Run G (.reg ops) ⟨E,[],M⟩ k = As G (some ⟨E,[],M⟩) ops k:=NV ops _ k
theorem Ru (s : St) (k : K) : As G (some s) [] k = At' G .nm { s with L:=[] } k:=NY (cs s) k
theorem IF (ops : List Op) (k : K) : As G none ops k = False:=KQ ops k
theorem UN (b : Bool) (s : Option St) (ops : List Op) (k : K) : As G (gd b s) ops k = (b = true /\ As G s ops k):=by
  cases b with
  | true=>simp [gd]
  | false=>simp only [gd,IF]; simp
theorem Ys (hG : Bq G) (d : Dst) (o : OP) (az : List Opnd) (s : St) (r : List Op) (k : K) : As G (some s) (⟨d,.p o,az,none⟩ :: r) k = As G (Hn s o az d) r k:=by
  unfold As
  rw [NO]
  exact Rt hG d o az (cs s) r k
theorem Yr (hG : Bq G) (d : Dst) (o : OR) (az : List Opnd) (s : St) (r : List Op) (k : K) : As G (some s) (⟨d,.r o,az,none⟩ :: r) k = As G (Hm s o az d) r k:=by
  unfold As
  rw [NN]
  exact Rs hG d o az (cs s) r k
theorem UL (hG : Bq G) (d : Dst) (o : OP) (az : List Opnd) (g : Opnd) (want : Bool) (s : St) (r : List Op) (k : K) :
    As G (some s) (⟨d,.p o,az,some (g,want)⟩ :: r) k = As G (Bu (Aq s (some (g,want))) (Hn s o az d) (CW s d .un)) r k:=by
  unfold As
  have : ∀ q a b,(Bu q a b).map cs = Bu q (a.map cs) (b.map cs):=fun q a b=>by
    unfold Bu
    rw [Dq]
    congr 1
    funext q
    cases q <;> rfl
  rw [this,NO,DE,<- DZ]
  exact Gt hG d o az g want (cs s) r k
theorem UK (hG : Bq G) (d : Dst) (o : OR) (az : List Opnd) (g : Opnd) (want : Bool) (s : St) (r : List Op) (k : K) :
    As G (some s) (⟨d,.r o,az,some (g,want)⟩ :: r) k = As G (Bu (Aq s (some (g,want))) (Hm s o az d) (CW s d .un)) r k:=by
  unfold As
  have : ∀ q a b,(Bu q a b).map cs = Bu q (a.map cs) (b.map cs):=fun q a b=>by
    unfold Bu
    rw [Dq]
    congr 1
    funext q
    cases q <;> rfl
  rw [this,NN,DE,<- DZ]
  exact Gs hG d o az g want (cs s) r k
theorem FE (f : Nat) (vs : Option (List V)) (s : St) (d : Dst) (r : List Op) (k : K) : Is G f vs (cs s) d r k = DY G f vs s d r k:=by
  unfold Is DY As
  congr 1
  funext vs
  congr 1
  funext v H'
  rw [DE]
  rfl
theorem PX (hG : Bq G) (d : Dst) (f : Nat) (az : List Opnd) (s : St) (r : List Op) (k : K) : As G (some s) (⟨d,.l (.cal f),az,none⟩ :: r) k = DY G f (Af (evA s) az) s d r k:=by
  rw [<- FE,<- HS]
  exact Hx hG d f az (cs s) r k
theorem MF (hG : Bq G) (d : Dst) (f : Nat) (az : List Opnd) (g : Opnd) (want : Bool) (s : St) (r : List Op) (k : K) :
    As G (some s) (⟨d,.l (.cal f),az,some (g,want)⟩ :: r) k = GH G (Aq s (some (g,want))) f az s d r k:=by
  have h:=Ed hG d f az g want (cs s) r k
  have e : Kz G (Aq (cs s) (some (g,want))) f az (cs s) d r k = GH G (Aq s (some (g,want))) f az s d r k:=by
    unfold Kz GH
    rw [DZ,HS]
    congr 1
    funext q
    cases q with
    | true=>simp [FE]
    | false=>unfold As; simp [DE]
  exact h.trans e
theorem ME (hG : Bq G) (d : Dst) (o : OL) (az : List Opnd) (s : St) (r : List Op) (k : K) (h1 : ∀ f,o ≠ .cal f) (h2 : o ≠ .cav) (hf : AY s (.l o) = true) : As G (some s) (⟨d,.l o,az,none⟩ :: r) k = As G (Bk s o az d) r k:=by
  unfold As
  rw [NP s o az d hf]
  exact HG hG d o az (cs s) r k fun c vs=>Jx h1 h2 c _ vs
theorem UM (hG : Bq G) (d : Dst) (o : OL) (az : List Opnd) (g : Opnd) (want : Bool) (s : St) (r : List Op) (k : K) (h1 : ∀ f,o ≠ .cal f) (h2 : o ≠ .cav) (hf : AY s (.l o) = true) :
    As G (some s) (⟨d,.l o,az,some (g,want)⟩ :: r) k = As G (Bu (Aq s (some (g,want))) (Bk s o az d) (CW s d .un)) r k:=by
  unfold As
  have : ∀ q a b,(Bu q a b).map cs = Bu q (a.map cs) (b.map cs):=fun q a b=>by
    unfold Bu
    rw [Dq]
    congr 1
    funext q
    cases q <;> rfl
  rw [this,NP s o az d hf,DE,<- DZ]
  have h:=Dm hG d (.l o) az g want (cs s) r k
  refine h.trans ?_
  cases hq : Aq (cs s) (some (g,want)) with
  | none=>simp [Bu]
  | some q =>
    cases q with
    | true=>simp [Bu,HG hG d o az (cs s) r k fun c vs=>Jx h1 h2 c _ vs]
    | false=>simp [Bu]
theorem KR (hG : Bq G) (d : Dst) (g : Opnd) (az : List Opnd) (s : St) (r : List Op) (k : K) : As G (some s) (⟨d,.l .cav,g :: az,none⟩ :: r) k = Uc G (evA s g) (Af (evA s) az) s d r k:=by
  have h:=WO hG d g az (cs s) r k
  refine h.trans ?_
  rw [HS]
  unfold CavK Uc
  congr 1
  funext gv
  cases gv with
  | m x=>cases x <;> simp [FE]
  | fn f cap=>simp [FE]
  | yl r0=>simp [FE]
  | _=>rfl
theorem PW (hG : Bq G) (d : Dst) (g : Opnd) (az : List Opnd) (gg : Opnd) (want : Bool) (s : St) (r : List Op) (k : K) : As G (some s) (⟨d,.l .cav,g :: az,some (gg,want)⟩ :: r) k = NG G (Aq s (some (gg,want))) g az s d r k:=by
  have h:=Dm hG d (.l .cav) (g :: az) gg want (cs s) r k
  refine h.trans ?_
  unfold NG
  rw [DZ]
  congr 1
  funext q
  cases q with
  | true =>
    rw [AeJ rfl,AeJ rfl]
    exact KR hG d g az s r k
  | false=>unfold As; simp [DE]
theorem Vy (hG : Bq G) {f : Nat} {vs : List V} {s : St} {d : Dst} {r : List Op} {k : K} {v : V} {H' : Hp} (h : Gives G f vs s.M.H v H') : DY G f (some vs) s d r k = As G (CW { s with M:={ s.M with H:=H' } } d v) r k:=by
  unfold DY
  rw [AX,AbA hG h]
theorem Ak (f : Nat) (vs : List V) (s : St) (d : Dst) (r : List Op) (k : K) : DY G f (some vs) s d r k = Ret G f vs s.M.H fun v H'=>As G (CW { s with M:={ s.M with H:=H' } } d v) r k:=by simp [DY,AX]
@[simp] theorem cavC_m (f : Nat) (cap : List I) (vs : List V) (s : St) (d : Dst) (r : List Op) (k : K) : Uc G (some (.m (.fn f cap))) (some vs) s d r k = DY G f (some (vs ++ cap.map .m)) s d r k:=by simp [Uc]
@[simp] theorem cavC_f (f : Nat) (cap vs : List V) (s : St) (d : Dst) (r : List Op) (k : K) : Uc G (some (.fn f cap)) (some vs) s d r k = DY G f (some (vs ++ cap)) s d r k:=by simp [Uc]
end
attribute [simp] Ru IF UN
@[simp] theorem Abt (s : St) (o : OP) (az : List Opnd) (d : Dst) : Hn s o az d = (Af (evA s) az).bind fun vs=>(Aj o vs).bind fun v=>CW s d v:=rfl
@[simp] theorem Abr (s : St) (o : OR) (az : List Opnd) (d : Dst) : Hm s o az d = (Af (evA s) az).bind fun vs=>(readX s.M o vs).bind fun v=>CW s d v:=rfl
@[simp] theorem Abu (s : St) (o : OL) (az : List Opnd) (d : Dst) : Bk s o az d = (Af (evA s) az).bind fun vs=>(Ai (fun _ _ _=>none) s.M o vs).bind fun p=>CW { s with M:=p.2 } d p.1:=rfl
@[simp] theorem setC_no (s : St) (x : V) : CW s .no x = some s:=rfl
@[simp] theorem setC_l (s : St) (n : Nat) (x : V) : CW s (.l n) x = some { s with L:=(n,x) :: s.L }:=rfl
@[simp] theorem setC_vm (s : St) (n : Nat) (x : I) : CW s (.v n) (.m x) = some { s with E:=BN s.E n (.m x) }:=rfl
@[simp] theorem setC_vun (s : St) (n : Nat) : CW s (.v n) .un = some { s with E:=BN s.E n .un }:=rfl
@[simp] theorem setC_vls (s : St) (n : Nat) (x : List (List I)) : CW s (.v n) (.ls x) = some { s with E:=BN s.E n (.ls x) }:=rfl
@[simp] theorem setC_vsl (s : St) (n a b c d e : Nat) (f : Bool) : CW s (.v n) (.sl a b c d e f) = some { s with E:=BN s.E n (.sl a b c d e f) }:=rfl
@[simp] theorem setC_vpt (s : St) (n a b c d : Nat) : CW s (.v n) (.pt a b c d) = some { s with E:=BN s.E n (.pt a b c d) }:=rfl
@[simp] theorem setC_vmp (s : St) (n a : Nat) : CW s (.v n) (.mp a) = some { s with E:=BN s.E n (.mp a) }:=rfl
@[simp] theorem setC_vtu (s : St) (n : Nat) (a : List V) : CW s (.v n) (.tu a) = some { s with E:=BN s.E n (.tu a) }:=rfl
@[simp] theorem setC_vag (s : St) (n : Nat) (a : List V) : CW s (.v n) (.ag a) = some { s with E:=BN s.E n (.ag a) }:=rfl
@[simp] theorem setC_vfn (s : St) (n f : Nat) (a : List V) : CW s (.v n) (.fn f a) = some { s with E:=BN s.E n (.fn f a) }:=rfl
@[simp] theorem setC_vfa (s : St) (n : Nat) : CW s (.v n) (.fa n 0) = some { s with E:=BN s.E n (.fa n 0) }:=by simp [CW,Eg,gd]
/- simp looks at the state alone, not at the code that is still to come. -/
def cnd (b : Bool) (p q : Prop) : Prop:=match b with
  | true=>p
  | false=>q
@[simp] theorem cnd_true (p q : Prop) : cnd true p q = p:=rfl
theorem Sf {b c : Bool} {p q : Prop} (h : b = c) : cnd b p q = cnd c p q:=by rw [h]
theorem WZ {b : Bool} {p q : Prop} (h : b = true -> q = p) : q = cnd b p q:=by
  cases b with
  | true=>exact h rfl
  | false=>rfl
theorem MG {G : Cfg} {s t : Option St} {r : List Op} {k : K} (h : s = t) : As G s r k = As G t r k:=by rw [h]
theorem PP {G : Cfg} {x y : Option Bool} {a b : C} {s : St} {k : K} (h : x = y) : Xx G x a b s k = Xx G y a b s k:=by rw [h]
theorem Nb {G : Cfg} {f : Nat} {x y : Option (List V)} {s : St} {d : Dst} {r : List Op} {k : K} (h : x = y) : DY G f x s d r k = DY G f y s d r k:=by rw [h]
theorem Qj {G : Cfg} {g g' : Option V} {x y : Option (List V)} {s : St} {d : Dst} {r : List Op} {k : K} (h0 : g = g') (h : x = y) : Uc G g x s d r k = Uc G g' y s d r k:=by rw [h0,h]
theorem Ls {G : Cfg} {x y : Option Bool} {f : Nat} {az : List Opnd} {s : St} {d : Dst} {r : List Op} {k : K} (h : x = y) : GH G x f az s d r k = GH G y f az s d r k:=by rw [h]
theorem MO {G : Cfg} {x y : Option Bool} {g : Opnd} {az : List Opnd} {s : St} {d : Dst} {r : List Op} {k : K} (h : x = y) : NG G x g az s d r k = NG G y g az s d r k:=by rw [h]
theorem Rq {G : Cfg} {c : C} {s t : St} {k : K} (h : s = t) : Run G c s k = Run G c t k:=by rw [h]
theorem VA {G : Cfg} {e : Ex} {s t : St} {k : K} (h : s = t) : At' G e s k = At' G e t k:=by rw [h]
theorem Acj {n : Nat} {k : IntKind} {x : Int} (h1 : 0 <= x) (h2 : x < n) : idx n (.m (.i k x)) = some x.toNat:=by rw [Ack]; simp [h1,h2]
theorem Xb {n : Nat} {k : IntKind} {x : Int} (h1 : 0 <= x) (h2 : x <= n) : bnd n (.m (.i k x)) = some x.toNat:=by rw [AcN]; simp [h1,h2]
theorem Ql {x y : List Nat} (h : x.length + y.length <= 9223372036854775807) : Dk .add (.m (.s x)) (.m (.s y)) = some (.m (.s (x ++ y))):=by rw [Zc]; simp [h]
attribute [simp high] Acj Xb Ql
theorem Ab (G : Cfg) (t : Bool) (a b : C) (s : St) (k : K) : Xx G (some t) a b s k = ((t = true -> Run G a s k) /\ (t = false -> Run G b s k)):=by cases t <;> simp
theorem Ac (G : Cfg) (c : Bool) (a b : Option St) (r : List Op) (k : K) : As G (Bu (some c) a b) r k = ((c = true -> As G a r k) /\ (c = false -> As G b r k)):=by cases c <;> simp
theorem Aa (G : Cfg) (c : Bool) (f : Nat) (az : List Opnd) (s : St) (d : Dst) (r : List Op) (k : K) : GH G (some c) f az s d r k = ((c = true -> DY G f (Af (evA s) az) s d r k) /\ (c = false -> As G (CW s d .un) r k)):=by cases c <;> simp [GH]
theorem Ae (G : Cfg) (c : Bool) (g : Opnd) (az : List Opnd) (s : St) (d : Dst) (r : List Op) (k : K) : NG G (some c) g az s d r k = ((c = true -> Uc G (evA s g) (Af (evA s) az) s d r k) /\ (c = false -> As G (CW s d .un) r k)):=by cases c <;> simp [NG]
theorem XD (n : Nat) (h : n <= 9223372036854775807) : wr .i64 (n : Int) = n:=wr_i64 (by omega) (by omega)
theorem Av {α : Type} {p : List α} {i : Nat} {c : α} (h : p[i]? = some c) : i < p.length /\ p.drop i = c :: p.drop (i + 1):=by
  have h1 : i < p.length:=(AeG.1 h).1
  exact ⟨h1,by rw [AfX h1,(AeG.1 h).2]⟩
theorem AQ {α : Type} {p : List α} {i : Nat} {c : α} (h : p[i]? = some c) : p.take (i + 1) = p.take i ++ [c]:=by
  rw [List.take_add_one,h]; rfl
end Go.Mx
/- Walking: guards decided by arithmetic. Nothing here speaks of a program. -/
namespace Go.Mx
theorem Js {α β : Type} {x y : Option α} {f : α -> Option β} (h : x = y) : x.bind f = y.bind f:=by rw [h]
theorem gd_in {α : Type} {p : Prop} [Decidable p] (h : p) (x : Option α) : gd (decide p) x = x:=by rw [Afc h]; rfl
theorem gd_and {α : Type} (a b : Bool) (x : Option α) : gd (a && b) x = gd a (gd b x):=by cases a <;> rfl
end Go.Mx
/- Loops over functions. Nothing here speaks of a program. -/
namespace Go.Mx
section
variable {G : Cfg}
@[simp] theorem noFaV_yl (r : Nat) : Ax (.yl r) = true:=rfl
@[simp] theorem AcG (r : Nat) : Ap (.yl r) = some [.yl r]:=rfl
@[simp] theorem oneV_yl (r : Nat) : BH (.yl r) = true:=rfl
@[simp] theorem setD_vyl (s : St) (n r : Nat) : CI s (.v n) (.yl r) = some { s with E:=BN s.E n (.yl r) }:=rfl
@[simp] theorem AbC (r : Nat) : Aj .nck [.yl r] = some (.yl r):=rfl
@[simp] theorem noFa_yl (d n k : Nat) (r : Env) : BI d ((n,.yl k) :: r) = BI d r:=rfl
@[simp] theorem allM_yl (k : Nat) (r : List V) : Bo (.yl k :: r) = none:=rfl
@[simp] theorem cavF_fn (f : Nat) (cap : List V) : YZ (.fn f cap) = some (f,cap):=rfl
@[simp] theorem cavF_m (f : Nat) (cap : List I) : YZ (.m (.fn f cap)) = some (f,cap.map .m):=rfl
@[simp] theorem Acc : EP [] = []:=rfl
@[simp] theorem AaU (n : Nat) (x : V) (r : Env) : EP ((n,x) :: r) = match Ax x with
    | true=>(n,x) :: EP r
    | false=>rmE (EP r) n:=rfl
@[simp] theorem AaL (e : Env) : Fu e [] [] = e:=rfl
@[simp] theorem Yl (e : Env) (p : Nat) (ps : List Nat) (x : V) (xs : List V) : Fu e (p :: ps) (x :: xs) = Fu (BN e p x) ps xs:=rfl
def RngG (G : Cfg) (fv : Option V) (dr ps : List Nat) (ca cb : C) (s : St) (k : K) : Prop:=Cw (fv.bind YZ) fun gc =>
  Ret G gc.1 (.yl s.M.H.length :: gc.2) (s.M.H ++ [.lp 0 none (EP (Az dr s.E)) ps ca cb]) fun _ H'=>Cw (Vp s.M.H.length H') fun q=>At' G q.1 { s with M:={ s.M with H:=q.2 } } k
theorem Yo (hG : Bq G) (f : Opnd) (dr ps : List Nat) (ca cb : C) (s : St) (k : K) : Run G (.rng f dr ps ca cb) s k = RngG G (evA s f) dr ps ca cb s k:=by
  apply propext
  simp only [Run,Runs,RngG,Cw,evC,AeC,Ret,At',AeD,AeE]
  constructor
  · rintro ⟨n,e,s',⟨fv,hfv,gc,hgc,⟨v,H'⟩,hc,q,hq,rfl,rfl⟩,h⟩
    exact ⟨gc,⟨fv,hfv,hgc⟩,n,v,H',hc,q,hq,h⟩
  · rintro ⟨gc,⟨fv,hfv,hgc⟩,n,v,H',hc,q,hq,h⟩
    exact ⟨n,q.1,_,⟨fv,hfv,gc,hgc,(v,H'),hc,q,hq,rfl,rfl⟩,h⟩
end
end Go.Mx
