/- Walking the machine. Nothing here speaks of a program. -/
import Derived.Test.YtlhjjcaifenlbaaGreatDoorMach
import Derived.Test.YtlhjjcaifenlbaaGreatDoorBa
set_option linter.unusedSimpArgs false
set_option linter.unusedVariables false
set_option linter.unusedSectionVars false
/- Walking the machine: what a piece of code comes to, whatever the fuel. Nothing here speaks of a program. -/
namespace Go.Mx
/- More fuel gives the same. -/
def LeC (c d : Bf) : Prop:=∀ f vs H r,c f vs H = some r -> d f vs H = some r
theorem AD {α β : Type} {x y : Option α} {f g : α -> Option β} {r : β} (hx : ∀ a,x = some a -> y = some a) (hf : ∀ a r,f a = some r -> g a = some r) (h : x.bind f = some r) : y.bind g = some r:=by
  simp only [Adn] at h ⊢
  obtain ⟨a,h1,h2⟩:=h
  exact ⟨a,hx a h1,hf a r h2⟩
theorem UK {c d : Bf} (h : LeC c d) {M : Mem} {o : O} {vs : List V} {r : V × Mem} (he : evO c M o vs = some r) : evO d M o vs = some r:=by
  cases o with
  | p o=>exact he
  | r o=>exact he
  | l o =>
    simp only [evO] at he ⊢
    cases o with
    | cal f =>
      simp only [Am] at he ⊢
      exact AD (fun a=>h f vs M.H a) (fun _ _ h=>h) he
    | cav =>
      match vs,he with
      | .fn f cap :: xs,he=>simp only [Am] at he ⊢; exact AD (fun a=>h f _ M.H a) (fun _ _ h=>h) he
      | .m (.fn f cap) :: xs,he=>simp only [Am] at he ⊢; exact AD (fun a=>h f _ M.H a) (fun _ _ h=>h) he
      | .yl r :: xs,he=>simp only [Am] at he ⊢; exact AD (fun a=>h yN _ M.H a) (fun _ _ h=>h) he
      | .m (.b _) :: xs,he=>simp [Am] at he
      | .m (.i _ _) :: xs,he=>simp [Am] at he
      | .m (.s _) :: xs,he=>simp [Am] at he
      | .m (.nl _) :: xs,he=>simp [Am] at he
      | .m .er :: xs,he=>simp [Am] at he
      | .m (.sl _) :: xs,he=>simp [Am] at he
      | .m (.pt _) :: xs,he=>simp [Am] at he
      | .m (.ag _) :: xs,he=>simp [Am] at he
      | .m (.mp _) :: xs,he=>simp [Am] at he
      | .un :: xs,he=>simp [Am] at he
      | .ls _ :: xs,he=>simp [Am] at he
      | .sl .. :: xs,he=>simp [Am] at he
      | .pt .. :: xs,he=>simp [Am] at he
      | .fa .. :: xs,he=>simp [Am] at he
      | .mp _ :: xs,he=>simp [Am] at he
      | .ag _ :: xs,he=>simp [Am] at he
      | .tu _ :: xs,he=>simp [Am] at he
      | [],he=>simp [Am] at he
    | _ =>
      match vs,he with
      | [],he=>exact he
      | [_],he=>exact he
      | [_,_],he=>exact he
      | [_,_,_],he=>exact he
      | _ :: _ :: _ :: _ :: _,he=>exact he
theorem KW {c d : Bf} (h : LeC c d) {s s' : St} {o : Op} (he : DN c s o = some s') : DN d s o = some s':=by
  simp only [DN,Adn] at he ⊢
  obtain ⟨q,hq,he⟩:=he
  refine ⟨q,hq,?_⟩
  cases q with
  | true =>
    simp only at he ⊢
    cases hf : AW s o.op with
    | false=>rw [hf] at he; simp [gd] at he
    | true =>
      rw [hf] at he
      simp only [gd,Adn] at he ⊢
      obtain ⟨vs,hvs,p,hp,hs⟩:=he
      exact ⟨vs,hvs,p,UK h hp,hs⟩
  | false=>exact he
theorem Gj {c d : Bf} (h : LeC c d) : ∀ {ops : List Op} {s s' : St},BR c ops s = some s' -> BR d ops s = some s'
  | [],_,_,he=>he
  | o :: r,s,s',he=>by
    simp only [BR] at he ⊢
    exact AD (fun a=>KW h) (fun a r=>Gj h) he
theorem EC {f g : St -> Option (Ex × St)} (h : ∀ s r,f s = some r -> g s = some r) : ∀ {n m : Nat} {s : St} {r : Ex × St},n <= m -> EO f n s = some r -> EO g m s = some r
  | 0,m,s,r,_,he=>by simp [EO] at he
  | n + 1,0,s,r,hn,_=>by omega
  | n + 1,m + 1,s,r,hn,he=>by
    simp only [EO] at he ⊢
    refine AD (fun a=>h s a) (fun a r ha=>?_) he
    obtain ⟨e,t⟩:=a
    cases e with
    | nm=>exact EC h (by omega) ha
    | _=>exact ha
theorem CN {c d : Bf} (h : LeC c d) {n m : Nat} (hn : n <= m) : ∀ {k : C} {s : St} {r : Ex × St},evC c n k s = some r -> evC d m k s = some r:=by
  intro k
  induction k with
  | skip=>exact fun h=>h
  | reg ops =>
    intro s r he
    simp only [evC] at he ⊢
    exact AD (fun a=>Gj h) (fun _ _ h=>h) he
  | seq a b iha ihb =>
    intro s r he
    simp only [evC] at he ⊢
    refine AD (fun x=>iha) (fun x r hx=>?_) he
    obtain ⟨e,t⟩:=x
    cases e with
    | nm=>exact ihb hx
    | _=>exact hx
  | ite c a b iha ihb =>
    intro s r he
    simp only [evC] at he ⊢
    refine AD (fun _ h=>h) (fun x r hx=>?_) he
    split at hx
    · exact iha hx
    · exact ihb hx
    · cases hx
  | blk id c ih =>
    intro s r he
    simp only [evC] at he ⊢
    exact AD (fun x=>ih) (fun _ _ h=>h) he
  | loop dr c ih =>
    intro s r he
    simp only [evC] at he ⊢
    exact EC (fun t r=>ih) hn he
  | rng f dr ps ca cb _ _ =>
    intro s r he
    simp only [evC] at he ⊢
    exact AD (fun _ h=>h) (fun _ _=>AD (fun _ h=>h) (fun gc _=>AD (fun a=>h gc.1 _ _ a) (fun _ _ h=>h))) he
  | ex id=>exact fun h=>h
  | ret=>exact fun h=>h
theorem EG {c d : Bf} (h : LeC c d) {n m : Nat} (hn : n <= m) {f : F} {vs : List V} {H : Hp} {r : V × Hp} (he : evF c n f vs H = some r) : evF d m f vs H = some r:=by
  unfold evF at he ⊢
  cases hg : (vs.all AA && Nat.beq vs.length f.np) with
  | false=>rw [hg] at he; simp [gd] at he
  | true =>
    rw [hg] at he
    exact AD (fun a=>CN h hn) (fun _ _ h=>h) he
theorem Py {c d : Bf} (h : LeC c d) {n m : Nat} (hn : n <= m) {f : F} {vs : List V} {H : Hp} {r : V × Hp} (he : DZ c n f vs H = some r) : DZ d m f vs H = some r:=by
  unfold DZ at he ⊢
  exact AD (fun _ h=>h) (fun a r=>AD (fun b=>EG h hn) (fun _ _ h=>h)) he
theorem Fb {c d : Bf} (h : LeC c d) {n m : Nat} (hn : n <= m) {vs : List V} {H : Hp} {r : V × Hp} (he : DU c n vs H = some r) : DU d m vs H = some r:=by
  unfold DU at he ⊢
  split at he
  · refine AD (fun _ h=>h) (fun row r he=>?_) he
    split at he
    · simp only [Ag] at he ⊢
      refine ⟨he.1,AD (fun a=>CN h hn) (fun p r he=>?_) he.2⟩
      split at he
      · exact AD (fun _ h=>h) (fun _ _=>AD (fun a=>CN h hn) (fun _ _ h=>h)) he
      · cases he
    · cases he
  · cases he
def Bt (G : Cfg) : Prop:=∀ f p,G.prim f = some p -> ∀ c d,LeC c d -> ∀ vs H r,p c vs H = some r -> p d vs H = some r
theorem AY {G : Cfg} (hG : Bt G) : ∀ {n m : Nat},n <= m -> LeC (Br G n) (Br G m)
  | 0,_,_,f,vs,H,r,h=>by simp [Br] at h
  | n + 1,0,hn,_,_,_,_,_=>by omega
  | n + 1,m + 1,hn,f,vs,H,r,h=>by
    have ih:=AY hG (n:=n) (m:=m) (by omega)
    unfold Br at h ⊢
    split at h
    · rename_i p hp
      exact hG f p hp _ _ ih vs H r h
    · split at h
      · split at h
        · exact EG ih (by omega) h
        · exact Py ih (by omega) h
      · simp only [Ag] at h ⊢
        exact ⟨h.1,Fb ih (by omega) h.2⟩
/- Running, whatever the fuel. -/
def CK {α : Type} (x : Option α) (p : α -> Prop) : Prop:=∃ a,x = some a /\ p a
theorem AX {α : Type} (a : α) (p : α -> Prop) : CK (some a) p = p a:=by simp [CK]
theorem Mb {α : Type} (b : Bool) (x : Option α) (p : α -> Prop) : CK (gd b x) p = (b = true /\ CK x p):=by cases b <;> simp [CK,gd]
theorem Dt {α β : Type} (x : Option α) (f : α -> Option β) (p : β -> Prop) : CK (x.bind f) p = CK x fun a=>CK (f a) p:=by
  apply propext
  simp only [CK,Adn]
  constructor
  · rintro ⟨b,⟨a,h1,h2⟩,h3⟩
    exact ⟨a,h1,b,h2,h3⟩
  · rintro ⟨a,h1,b,h2,h3⟩
    exact ⟨b,⟨a,h1,h2⟩,h3⟩
def Runs (G : Cfg) (c : C) (s : St) (Q : Ex -> St -> Prop) : Prop:=∃ n e s',evC (Br G n) n c s = some (e,s') /\ Q e s'
def GC (G : Cfg) (ops : List Op) (s : St) (Q : St -> Prop) : Prop:=∃ n s',BR (Br G n) ops s = some s' /\ Q s'
def GN (G : Cfg) (o : Op) (s : St) (Q : St -> Prop) : Prop:=∃ n s',DN (Br G n) s o = some s' /\ Q s'
def Ret (G : Cfg) (f : Nat) (vs : List V) (H : Hp) (Q : V -> Hp -> Prop) : Prop:=∃ n v H',Br G n f vs H = some (v,H') /\ Q v H'
def Gives (G : Cfg) (f : Nat) (vs : List V) (H : Hp) (v : V) (H' : Hp) : Prop:=∃ n,Br G n f vs H = some (v,H')
def thn (A : St -> Prop) (Q : Ex -> St -> Prop) : Ex -> St -> Prop
  | .nm,s=>A s
  | e,s=>Q e s
def inB (id : Nat) (Q : Ex -> St -> Prop) : Ex -> St -> Prop
  | .ex j,s=>(j = id -> Q .nm s) /\ (j ≠ id -> Q (.ex j) s)
  | e,s=>Q e s
theorem Abm (id : Nat) (Q : Ex -> St -> Prop) (s : St) (j : Nat) : inB id Q (.ex j) s = if j = id then Q .nm s else Q (.ex j) s:=by
  apply propext
  by_cases h : j = id <;> simp [inB,h]
section
variable {G : Cfg}
theorem Runs.mono {c : C} {s : St} {Q Q' : Ex -> St -> Prop} (h : Runs G c s Q) (hq : ∀ e s,Q e s -> Q' e s) : Runs G c s Q':=by
  obtain ⟨n,e,s',h1,h2⟩:=h
  exact ⟨n,e,s',h1,hq e s' h2⟩
theorem QA (s : St) (Q : Ex -> St -> Prop) : Runs G .skip s Q = Q .nm s:=by
  apply propext
  simp only [Runs,evC,Ado,Adp]
  constructor
  · rintro ⟨_,_,_,⟨rfl,rfl⟩,h⟩
    exact h
  · exact fun h=>⟨0,_,_,⟨rfl,rfl⟩,h⟩
theorem Xt (id : Nat) (s : St) (Q : Ex -> St -> Prop) : Runs G (.ex id) s Q = Q (.ex id) s:=by
  apply propext
  simp only [Runs,evC,Ado,Adp]
  constructor
  · rintro ⟨_,_,_,⟨rfl,rfl⟩,h⟩
    exact h
  · exact fun h=>⟨0,_,_,⟨rfl,rfl⟩,h⟩
theorem TY (s : St) (Q : Ex -> St -> Prop) : Runs G .ret s Q = Q .ret s:=by
  apply propext
  simp only [Runs,evC,Ado,Adp]
  constructor
  · rintro ⟨_,_,_,⟨rfl,rfl⟩,h⟩
    exact h
  · exact fun h=>⟨0,_,_,⟨rfl,rfl⟩,h⟩
theorem TZ (ops : List Op) (s : St) (Q : Ex -> St -> Prop) : Runs G (.reg ops) s Q = GC G ops s fun s'=>Q .nm { s' with L:=[] }:=by
  apply propext
  simp only [Runs,GC,evC,Adn,Ado,Adp]
  constructor
  · rintro ⟨n,_,_,⟨s',h,rfl,rfl⟩,hq⟩
    exact ⟨n,s',h,hq⟩
  · rintro ⟨n,s',h,hq⟩
    exact ⟨n,_,_,⟨s',h,rfl,rfl⟩,hq⟩
theorem TX (hG : Bt G) (a b : C) (s : St) (Q : Ex -> St -> Prop) : Runs G (.seq a b) s Q = Runs G a s (thn (fun s'=>Runs G b s' Q) Q):=by
  apply propext
  constructor
  · rintro ⟨n,e,s',h,hq⟩
    simp only [evC,Adn] at h
    obtain ⟨⟨e1,s1⟩,h1,h2⟩:=h
    refine ⟨n,e1,s1,h1,?_⟩
    cases e1 with
    | nm=>exact ⟨n,e,s',h2,hq⟩
    | _ =>
      simp only [Ado,Adp] at h2
      obtain ⟨rfl,rfl⟩:=h2
      exact hq
  · rintro ⟨n,e1,s1,h1,h2⟩
    cases e1 with
    | nm =>
      obtain ⟨m,e,s',h3,hq⟩:=h2
      refine ⟨max n m,e,s',?_,hq⟩
      simp only [evC,Adn]
      exact ⟨_,CN (AY hG (Nat.le_max_left n m)) (Nat.le_max_left n m) h1,CN (AY hG (Nat.le_max_right n m)) (Nat.le_max_right n m) h3⟩
    | ex j=>exact ⟨n,.ex j,s1,by simp [evC,h1],h2⟩
    | ret=>exact ⟨n,.ret,s1,by simp [evC,h1],h2⟩
def asB : V -> Option Bool
  | .m (.b t)=>some t
  | _=>none
theorem Ua (o : Opnd) (a b : C) (s : St) (Q : Ex -> St -> Prop) : Runs G (.ite o a b) s Q = CK ((evA s o).bind asB) fun t=>if t then Runs G a s Q else Runs G b s Q:=by
  apply propext
  constructor
  · rintro ⟨n,e,s',h,hq⟩
    simp only [evC,Adn] at h
    obtain ⟨v,hv,h⟩:=h
    split at h
    · exact ⟨true,by simp [hv,asB],n,e,s',h,hq⟩
    · exact ⟨false,by simp [hv,asB],n,e,s',h,hq⟩
    · cases h
  · rintro ⟨t,ht,h⟩
    simp only [Adn] at ht
    obtain ⟨v,hv,ht⟩:=ht
    have : v = .m (.b t):=by
      unfold asB at ht
      split at ht
      · rw [Ado] at ht; rw [ht]
      · cases ht
    subst this
    cases t with
    | true =>
      obtain ⟨n,e,s',h,hq⟩:=h
      exact ⟨n,e,s',by simp [evC,hv,h],hq⟩
    | false =>
      obtain ⟨n,e,s',h,hq⟩:=h
      exact ⟨n,e,s',by simp [evC,hv,h],hq⟩
theorem Ub (id : Nat) (c : C) (s : St) (Q : Ex -> St -> Prop) : Runs G (.blk id c) s Q = Runs G c s (inB id Q):=by
  apply propext
  constructor
  · rintro ⟨n,e,s',h,hq⟩
    simp only [evC,Adn] at h
    obtain ⟨⟨e1,s1⟩,h1,h2⟩:=h
    refine ⟨n,e1,s1,h1,?_⟩
    cases e1 with
    | ex j =>
      simp only at h2
      split at h2
      · rename_i hb
        have:=AdD hb
        simp only [Ado,Adp] at h2
        obtain ⟨rfl,rfl⟩:=h2
        exact ⟨fun _=>hq,fun hne=>absurd this hne⟩
      · rename_i hb
        simp only [Ado,Adp] at h2
        obtain ⟨rfl,rfl⟩:=h2
        exact ⟨fun e=>(by subst e; simp at hb),fun _=>hq⟩
    | _ =>
      simp only [Ado,Adp] at h2
      obtain ⟨rfl,rfl⟩:=h2
      exact hq
  · rintro ⟨n,e1,s1,h1,h2⟩
    cases e1 with
    | ex j =>
      cases hb : Nat.beq j id with
      | true=>exact ⟨n,.nm,s1,by simp [evC,h1,hb],h2.1 (AdD hb)⟩
      | false=>exact ⟨n,.ex j,s1,by simp [evC,h1,hb],h2.2 (fun e=>by subst e; simp at hb)⟩
    | nm=>exact ⟨n,.nm,s1,by simp [evC,h1],h2⟩
    | ret=>exact ⟨n,.ret,s1,by simp [evC,h1],h2⟩
theorem QB (hG : Bt G) (dr : List Nat) (c : C) (s : St) (Q : Ex -> St -> Prop) : Runs G (.loop dr c) s Q = Runs G c { s with E:=Aw dr s.E } (thn (fun s'=>Runs G (.loop dr c) s' Q) Q):=by
  apply propext
  constructor
  · rintro ⟨n,e,s',h,hq⟩
    simp only [evC] at h
    cases n with
    | zero=>simp [EO] at h
    | succ n =>
      simp only [EO,Adn] at h
      obtain ⟨⟨e1,s1⟩,h1,h2⟩:=h
      refine ⟨n + 1,e1,s1,h1,?_⟩
      cases e1 with
      | nm=>exact ⟨n + 1,e,s',by simp only [evC]; exact EC (fun _ _ h=>h) (Nat.le_succ n) h2,hq⟩
      | _ =>
        simp only [Ado,Adp] at h2
        obtain ⟨rfl,rfl⟩:=h2
        exact hq
  · rintro ⟨n,e1,s1,h1,h2⟩
    cases e1 with
    | nm =>
      obtain ⟨m,e,s',h3,hq⟩:=h2
      have hn : n <= max n m + 1:=by omega
      have hm : m <= max n m + 1:=by omega
      refine ⟨max n m + 1,e,s',?_,hq⟩
      simp only [evC,EO,Adn]
      refine ⟨_,CN (AY hG hn) hn h1,?_⟩
      simp only [evC] at h3
      exact EC (fun t r=>CN (AY hG hm) hm) (by omega) h3
    | ex j=>exact ⟨n + 1,.ex j,s1,by simp only [evC,EO,Adn]; exact ⟨_,CN (AY hG (Nat.le_succ n)) (Nat.le_succ n) h1,rfl⟩,h2⟩
    | ret=>exact ⟨n + 1,.ret,s1,by simp only [evC,EO,Adn]; exact ⟨_,CN (AY hG (Nat.le_succ n)) (Nat.le_succ n) h1,rfl⟩,h2⟩
theorem XE (s : St) (Q : St -> Prop) : GC G [] s Q = Q s:=by
  apply propext
  simp only [GC,BR,Ado]
  constructor
  · rintro ⟨_,_,rfl,h⟩
    exact h
  · exact fun h=>⟨0,_,rfl,h⟩
theorem EB (hG : Bt G) (o : Op) (r : List Op) (s : St) (Q : St -> Prop) : GC G (o :: r) s Q = GN G o s fun s'=>GC G r s' Q:=by
  apply propext
  simp only [GC,GN,BR,Adn]
  constructor
  · rintro ⟨n,s',⟨s1,h1,h2⟩,hq⟩
    exact ⟨n,s1,h1,n,s',h2,hq⟩
  · rintro ⟨n,s1,h1,m,s',h2,hq⟩
    exact ⟨max n m,s',⟨s1,KW (AY hG (Nat.le_max_left n m)) h1,Gj (AY hG (Nat.le_max_right n m)) h2⟩,hq⟩
theorem XH (d : Dst) (o : OP) (az : List Opnd) (s : St) (Q : St -> Prop) : GN G ⟨d,.p o,az,none⟩ s Q = CK (Ah (evA s) az) fun vs=>CK (Aq o vs) fun v=>CK (CV s d v) Q:=by
  apply propext
  simp only [GN,DN,Ay,Adx,AW,gd,evO,Adn,CK]
  constructor
  · rintro ⟨_,s',⟨vs,h1,⟨v,M⟩,⟨v',h2,h3⟩,h4⟩,hq⟩
    simp only [Ado,Adp] at h3
    obtain ⟨rfl,rfl⟩:=h3
    exact ⟨vs,h1,_,h2,s',h4,hq⟩
  · rintro ⟨vs,h1,v,h2,s',h4,hq⟩
    exact ⟨0,s',⟨vs,h1,(v,s.M),⟨v,h2,rfl⟩,h4⟩,hq⟩
theorem XG (d : Dst) (o : OR) (az : List Opnd) (s : St) (Q : St -> Prop) : GN G ⟨d,.r o,az,none⟩ s Q = CK (Ah (evA s) az) fun vs=>CK (readX s.M o vs) fun v=>CK (CV s d v) Q:=by
  apply propext
  simp only [GN,DN,Ay,Adx,AW,gd,evO,Adn,CK]
  constructor
  · rintro ⟨_,s',⟨vs,h1,⟨v,M⟩,⟨v',h2,h3⟩,h4⟩,hq⟩
    simp only [Ado,Adp] at h3
    obtain ⟨rfl,rfl⟩:=h3
    exact ⟨vs,h1,_,h2,s',h4,hq⟩
  · rintro ⟨vs,h1,v,h2,s',h4,hq⟩
    exact ⟨0,s',⟨vs,h1,(v,s.M),⟨v,h2,rfl⟩,h4⟩,hq⟩
theorem XI (d : Dst) (f : Nat) (az : List Opnd) (s : St) (Q : St -> Prop) : GN G ⟨d,.l (.cal f),az,none⟩ s Q = CK (Ah (evA s) az) fun vs=>Ret G f vs s.M.H fun v H'=>CK (CV { s with M:={ s.M with H:=H' } } d v) Q:=by
  apply propext
  simp only [GN,DN,Ay,Adx,AW,gd,evO,Am,Adn,CK,Ret]
  constructor
  · rintro ⟨n,s',⟨vs,h1,⟨v,M⟩,⟨⟨r,H'⟩,h2,h3⟩,h4⟩,hq⟩
    simp only [Ado,Adp] at h3
    obtain ⟨rfl,rfl⟩:=h3
    exact ⟨vs,h1,n,_,_,h2,s',h4,hq⟩
  · rintro ⟨vs,h1,n,v,H',h2,s',h4,hq⟩
    exact ⟨n,s',⟨vs,h1,_,⟨_,h2,rfl⟩,h4⟩,hq⟩
theorem Up (d : Dst) (o : O) (az : List Opnd) (g : Opnd) (want : Bool) (s : St) (Q : St -> Prop) : GN G ⟨d,o,az,some (g,want)⟩ s Q = CK (Ay s (some (g,want))) fun q=>if q then GN G ⟨d,o,az,none⟩ s Q else CK (CV s d .un) Q:=by
  apply propext
  constructor
  · rintro ⟨n,s',h,hq⟩
    simp only [DN,Adn] at h
    obtain ⟨b,hb,h⟩:=h
    refine ⟨b,hb,?_⟩
    cases b with
    | true=>exact ⟨n,s',by simpa [DN,Ay] using h,hq⟩
    | false=>exact ⟨s',h,hq⟩
  · rintro ⟨b,hb,h⟩
    cases b with
    | true =>
      obtain ⟨n,s',h,hq⟩:=h
      exact ⟨n,s',by simp only [DN,hb,Adx]; simpa [DN,Ay] using h,hq⟩
    | false =>
      obtain ⟨s',h,hq⟩:=h
      exact ⟨0,s',by simp only [DN,hb,Adx]; exact h,hq⟩
/- Calls. -/
theorem AaE {f : Nat} {vs : List V} {H H' : Hp} {v : V} {Q : V -> Hp -> Prop} (hG : Bt G) (h : Gives G f vs H v H') : Ret G f vs H Q = Q v H':=by
  apply propext
  obtain ⟨n,hn⟩:=h
  constructor
  · rintro ⟨m,v2,H2,hm,hq⟩
    have h1:=AY hG (Nat.le_max_left n m) _ _ _ _ hn
    have h2:=AY hG (Nat.le_max_right n m) _ _ _ _ hm
    rw [h1] at h2
    cases h2
    exact hq
  · exact fun hq=>⟨n,v,H',hn,hq⟩
theorem Gives.of_ret {f : Nat} {vs : List V} {H H' : Hp} {v : V} (h : Ret G f vs H fun v' H2=>v' = v /\ H2 = H') : Gives G f vs H v H':=by
  obtain ⟨n,v2,H2,h,rfl,rfl⟩:=h
  exact ⟨n,h⟩
def fin (rs : List Res) (Q : V -> Hp -> Prop) : Ex -> St -> Prop
  | .ex _,_=>False
  | _,s=>CK (DK s rs) fun v=>Q v s.M.H
theorem Wf {c : C} {np : Nat} {rs : List Res} {vs : List V} {H : Hp} {Q : V -> Hp -> Prop} (hv : vs.all AA = true) (hl : vs.length = np) (h : Runs G c ⟨CZ 0 vs,[],⟨[],H⟩⟩ (fin rs Q)) :
    ∃ n v H',evF (Br G n) n ⟨np,rs,c⟩ vs H = some (v,H') /\ Q v H':=by
  obtain ⟨n,e,s',h1,h2⟩:=h
  have hb : (vs.all AA && Nat.beq vs.length np) = true:=by rw [hv,hl,Nat.beq_refl]; rfl
  have key : CK (DK s' rs) (fun v=>Q v s'.M.H) -> (∀ id,e ≠ .ex id) -> ∃ n v H',evF (Br G n) n ⟨np,rs,c⟩ vs H = some (v,H') /\ Q v H':=by
    rintro ⟨v,hv,hq⟩ hne
    refine ⟨n,v,s'.M.H,?_,hq⟩
    simp only [evF,hb,gd,h1,Adx]
    cases e with
    | ex id=>exact absurd rfl (hne id)
    | _=>simp [hv]
  cases e with
  | ex id=>exact h2.elim
  | nm=>exact key h2 (fun _ h=>by cases h)
  | ret=>exact key h2 (fun _ h=>by cases h)
theorem Pj (hG : Bt G) {f np : Nat} {rs : List Res} {c : C} {vs : List V} {H : Hp} {Q : V -> Hp -> Prop} (hp : G.prim f = none) (hf : G.fn f = some ⟨np,rs,c⟩) (hs : G.sh f = true) (hv : vs.all AA = true) (hl : vs.length = np)
    (h : Runs G c ⟨CZ 0 vs,[],⟨[],H⟩⟩ (fin rs Q)) : Ret G f vs H Q:=by
  obtain ⟨n,v,H',he,hq⟩:=Wf hv hl h
  refine ⟨n + 1,v,H',?_,hq⟩
  simp [Br,hp,hf,hs,he]
theorem No : ∀ {vs : List V} {is : List I},Co vs = some is -> vs.flatMap DH = [] /\ vs.all Bn = true /\ vs.all AA = true /\ vs = is.map .m /\ ∀ (n : Nat) H,Ah (view (n + 1) H) vs = some is
  | [],is,h=>by simp only [Co,Ado] at h; subst h; exact ⟨rfl,rfl,rfl,rfl,fun _ _=>rfl⟩
  | .m x :: r,is,h=>by
    simp only [Co,Adn,Ado] at h
    obtain ⟨l,hl,rfl⟩:=h
    obtain ⟨h1,h2,h3,h4,h5⟩:=No hl
    refine ⟨by simp [DH,GH,h1],by simp [Bn,Bm,h2],by simp [AA,h3],by simp [h4],fun n H=>?_⟩
    simp only [Ah,h5 n H]
    rfl
  | .un :: _,is,h=>by simp [Co] at h
  | .ls _ :: _,is,h=>by simp [Co] at h
  | .sl .. :: _,is,h=>by simp [Co] at h
  | .pt .. :: _,is,h=>by simp [Co] at h
  | .fa .. :: _,is,h=>by simp [Co] at h
  | .mp _ :: _,is,h=>by simp [Co] at h
  | .fn .. :: _,is,h=>by simp [Co] at h
  | .ag _ :: _,is,h=>by simp [Co] at h
  | .tu _ :: _,is,h=>by simp [Co] at h
theorem Nl {f np : Nat} {rs : List Res} {c : C} {vs : List V} {is : List I} {H : Hp} {Q : V -> Hp -> Prop} (hp : G.prim f = none) (hf : G.fn f = some ⟨np,rs,c⟩) (hs : G.sh f = false) (hv : Co vs = some is) (hl : vs.length = np)
    (h : Runs G c ⟨CZ 0 vs,[],⟨[],[]⟩⟩ (fin rs fun v H'=>CK (viewR H' v) fun r=>Q r H)) : Ret G f vs H Q:=by
  obtain ⟨h1,h2,h3,h4,h5⟩:=No hv
  obtain ⟨n,v,H',he,r,hr,hq⟩:=Wf h3 hl h
  refine ⟨n + 1,r,H,?_,hq⟩
  simp only [Br,hp,hf,hs,Adx,DZ,h5 19 H]
  rw [<- h4,he]
  simp only [Adx,hr,h1,h2,gd]
end
end Go.Mx
/- Walking the machine, first order: what follows is kept as data, so that simp looks at the state alone. Nothing here speaks of a program. -/
namespace Go.Mx
inductive K where
  | fin (rs : List Res) (Q : V -> Hp -> Prop)
  | pur (rs : List Res) (H : Hp) (Q : V -> Hp -> Prop)
  | st (Q : Ex -> St -> Prop)
  | seq (b : C) (k : K)
  | blk (id : Nat) (k : K)
def K.sem (G : Cfg) : K -> Ex -> St -> Prop
  | .fin rs Q=>Mx.fin rs Q
  | .pur rs H Q=>Mx.fin rs fun v H'=>CK (viewR H' v) fun r=>Q r H
  | .st Q=>Q
  | .seq b k=>thn (fun s=>Runs G b s (k.sem G)) (k.sem G)
  | .blk id k=>inB id (k.sem G)
def Run (G : Cfg) (c : C) (s : St) (k : K) : Prop:=Runs G c s (k.sem G)
def At' (G : Cfg) (e : Ex) (s : St) (k : K) : Prop:=k.sem G e s
def BO (G : Cfg) (s : Option St) (ops : List Op) (k : K) : Prop:=CK s fun s=>GC G ops s fun s'=>k.sem G .nm { s' with L:=[] }
def WI (G : Cfg) (t : Option Bool) (a b : C) (s : St) (k : K) : Prop:=CK t fun t=>if t then Runs G a s (k.sem G) else Runs G b s (k.sem G)
def In (G : Cfg) (f : Nat) (vs : Option (List V)) (s : St) (d : Dst) (r : List Op) (k : K) : Prop :=
  CK vs fun vs=>Ret G f vs s.M.H fun v H'=>BO G (CV { s with M:={ s.M with H:=H' } } d v) r k
def Ki (s : St) (o : OP) (az : List Opnd) (d : Dst) : Option St:=(Ah (evA s) az).bind fun vs=>(Aq o vs).bind fun v=>CV s d v
def Kh (s : St) (o : OR) (az : List Opnd) (d : Dst) : Option St:=(Ah (evA s) az).bind fun vs=>(readX s.M o vs).bind fun v=>CV s d v
def stepL (s : St) (o : OL) (az : List Opnd) (d : Dst) : Option St:=gd (AW s (.l o)) ((Ah (evA s) az).bind fun vs=>(Am (fun _ _ _=>none) s.M o vs).bind fun p=>CV { s with M:=p.2 } d p.1)
def BB (q : Option Bool) (a b : Option St) : Option St:=q.bind fun q=>match q with
  | true=>a
  | false=>b
section
variable {G : Cfg}
theorem RO (s : St) (b : C) (k : K) : At' G .nm s (.seq b k) = Run G b s k:=rfl
theorem RP (s : St) (b : C) (k : K) (j : Nat) : At' G (.ex j) s (.seq b k) = At' G (.ex j) s k:=rfl
theorem PA (s : St) (b : C) (k : K) : At' G .ret s (.seq b k) = At' G .ret s k:=rfl
theorem RS (s : St) (id : Nat) (k : K) : At' G .nm s (.blk id k) = At' G .nm s k:=rfl
theorem PD (s : St) (id : Nat) (k : K) : At' G .ret s (.blk id k) = At' G .ret s k:=rfl
theorem RT (s : St) (id : Nat) (k : K) (j : Nat) : At' G (.ex j) s (.blk id k) = if j = id then At' G .nm s k else At' G (.ex j) s k:=Abm id _ s j
theorem at_st (e : Ex) (s : St) (Q : Ex -> St -> Prop) : At' G e s (.st Q) = Q e s:=rfl
theorem RR (s : St) (rs : List Res) (Q : V -> Hp -> Prop) : At' G .nm s (.fin rs Q) = CK (DK s rs) fun v=>Q v s.M.H:=rfl
theorem PC (s : St) (rs : List Res) (Q : V -> Hp -> Prop) : At' G .ret s (.fin rs Q) = CK (DK s rs) fun v=>Q v s.M.H:=rfl
theorem RQ (s : St) (rs : List Res) (H : Hp) (Q : V -> Hp -> Prop) : At' G .nm s (.pur rs H Q) = CK ((DK s rs).bind (viewR s.M.H)) fun r=>Q r H:=by
  rw [Dt]; rfl
theorem PB (s : St) (rs : List Res) (H : Hp) (Q : V -> Hp -> Prop) : At' G .ret s (.pur rs H Q) = CK ((DK s rs).bind (viewR s.M.H)) fun r=>Q r H:=by
  rw [Dt]; rfl
theorem QC (s : St) (k : K) : Run G .skip s k = At' G .nm s k:=QA s _
theorem Xv (id : Nat) (s : St) (k : K) : Run G (.ex id) s k = At' G (.ex id) s k:=Xt id s _
theorem Ud (s : St) (k : K) : Run G .ret s k = At' G .ret s k:=TY s _
theorem Uc (hG : Bt G) (a b : C) (s : St) (k : K) : Run G (.seq a b) s k = Run G a s (.seq b k):=TX hG a b s _
theorem Nk (id : Nat) (c : C) (s : St) (k : K) : Run G (.blk id c) s k = Run G c s (.blk id k):=Ub id c s _
theorem Nj (ops : List Op) (s : St) (k : K) : Run G (.reg ops) s k = BO G (some s) ops k:=by
  unfold Run BO
  rw [AX]
  exact TZ ops s _
theorem Ue (o : Opnd) (a b : C) (s : St) (k : K) : Run G (.ite o a b) s k = WI G ((evA s o).bind asB) a b s k:=Ua o a b s _
theorem QD (hG : Bt G) (dr : List Nat) (c : C) (s : St) (k : K) : Run G (.loop dr c) s k = Run G c { s with E:=Aw dr s.E } (.seq (.loop dr c) k):=QB hG dr c s _
theorem Qn (a b : C) (s : St) (k : K) : WI G (some true) a b s k = Run G a s k:=by simp [WI,AX,Run]
theorem Pc (a b : C) (s : St) (k : K) : WI G (some false) a b s k = Run G b s k:=by simp [WI,AX,Run]
theorem Nm (s : St) (k : K) : BO G (some s) [] k = At' G .nm { s with L:=[] } k:=by
  simp only [BO,AX,XE]
  rfl
theorem Ko (ops : List Op) (k : K) : BO G none ops k = False:=by simp [BO,CK]
theorem Xw (b : Bool) (s : Option St) (ops : List Op) (k : K) : BO G (gd b s) ops k = (b = true /\ BO G s ops k):=Mb b s _
theorem QH (hG : Bt G) (d : Dst) (o : OP) (az : List Opnd) (s : St) (r : List Op) (k : K) : BO G (some s) (⟨d,.p o,az,none⟩ :: r) k = BO G (Ki s o az d) r k:=by
  simp only [BO,AX,EB hG,XH,Ki,Dt]
theorem QG (hG : Bt G) (d : Dst) (o : OR) (az : List Opnd) (s : St) (r : List Op) (k : K) : BO G (some s) (⟨d,.r o,az,none⟩ :: r) k = BO G (Kh s o az d) r k:=by
  simp only [BO,AX,EB hG,XG,Kh,Dt]
theorem Hu (hG : Bt G) (d : Dst) (f : Nat) (az : List Opnd) (s : St) (r : List Op) (k : K) : BO G (some s) (⟨d,.l (.cal f),az,none⟩ :: r) k = In G f (Ah (evA s) az) s d r k:=by
  simp only [BO,AX,EB hG,XI,In]
theorem Dq (hG : Bt G) (d : Dst) (o : O) (az : List Opnd) (g : Opnd) (want : Bool) (s : St) (r : List Op) (k : K) :
    BO G (some s) (⟨d,o,az,some (g,want)⟩ :: r) k = CK (Ay s (some (g,want))) fun q=>if q then BO G (some s) (⟨d,o,az,none⟩ :: r) k else BO G (CV s d .un) r k:=by
  simp only [BO,AX,EB hG,Up]
theorem Gv (hG : Bt G) (d : Dst) (o : OP) (az : List Opnd) (g : Opnd) (want : Bool) (s : St) (r : List Op) (k : K) :
    BO G (some s) (⟨d,.p o,az,some (g,want)⟩ :: r) k = BO G (BB (Ay s (some (g,want))) (Ki s o az d) (CV s d .un)) r k:=by
  rw [Dq hG]
  cases hq : Ay s (some (g,want)) with
  | none=>simp [CK,BB,BO]
  | some q=>cases q <;> simp [AX,BB,QH hG]
theorem Gu (hG : Bt G) (d : Dst) (o : OR) (az : List Opnd) (g : Opnd) (want : Bool) (s : St) (r : List Op) (k : K) :
    BO G (some s) (⟨d,.r o,az,some (g,want)⟩ :: r) k = BO G (BB (Ay s (some (g,want))) (Kh s o az d) (CV s d .un)) r k:=by
  rw [Dq hG]
  cases hq : Ay s (some (g,want)) with
  | none=>simp [CK,BB,BO]
  | some q=>cases q <;> simp [AX,BB,QG hG]
def Ka (G : Cfg) (q : Option Bool) (f : Nat) (az : List Opnd) (s : St) (d : Dst) (r : List Op) (k : K) : Prop:=CK q fun q=>if q then In G f (Ah (evA s) az) s d r k else BO G (CV s d .un) r k
theorem Ei (hG : Bt G) (d : Dst) (f : Nat) (az : List Opnd) (g : Opnd) (want : Bool) (s : St) (r : List Op) (k : K) :
    BO G (some s) (⟨d,.l (.cal f),az,some (g,want)⟩ :: r) k = Ka G (Ay s (some (g,want))) f az s d r k:=by
  rw [Dq hG]
  simp only [Ka,Hu hG]
theorem Pr (f : Nat) (az : List Opnd) (s : St) (d : Dst) (r : List Op) (k : K) : Ka G (some true) f az s d r k = In G f (Ah (evA s) az) s d r k:=by simp [Ka,AX]
theorem Mg (f : Nat) (az : List Opnd) (s : St) (d : Dst) (r : List Op) (k : K) : Ka G (some false) f az s d r k = BO G (CV s d .un) r k:=by simp [Ka,AX]
theorem HE (hG : Bt G) (d : Dst) (o : OL) (az : List Opnd) (s : St) (r : List Op) (k : K) (hc : ∀ call vs,Am call s.M o vs = Am (fun _ _ _=>none) s.M o vs) : BO G (some s) (⟨d,.l o,az,none⟩ :: r) k = BO G (stepL s o az d) r k:=by
  simp only [BO,AX,EB hG,stepL,Mb,Dt]
  apply propext
  simp only [GN,DN,Ay,Adx,evO,hc,CK]
  constructor
  · rintro ⟨n,s',h,hq⟩
    rw [gd_eq] at h
    obtain ⟨hf,h⟩:=h
    simp only [Adn] at h
    obtain ⟨vs,h1,p,h2,h3⟩:=h
    exact ⟨hf,vs,h1,p,h2,s',h3,hq⟩
  · rintro ⟨hf,vs,h1,p,h2,s',h3,hq⟩
    refine ⟨0,s',?_,hq⟩
    rw [gd_eq]
    simp only [Adn]
    exact ⟨hf,vs,h1,p,h2,h3⟩
where gd_eq {α : Type} {b : Bool} {x : Option α} {y : α} : (gd b x = some y) = (b = true /\ x = some y):=by cases b <;> simp [gd]
theorem Ju {M : Mem} {o : OL} (h1 : ∀ f,o ≠ .cal f) (h2 : o ≠ .cav) (c d : Bf) (vs : List V) : Am c M o vs = Am d M o vs:=by
  cases o with
  | cal f=>exact absurd rfl (h1 f)
  | cav=>exact absurd rfl h2
  | _ =>
    match vs with
    | []=>rfl
    | [_]=>rfl
    | [_,_]=>rfl
    | [_,_,_]=>rfl
    | _ :: _ :: _ :: _ :: _=>rfl
theorem Cl {f np : Nat} {rs : List Res} {c : C} {vs : List V} {is : List I} {H : Hp} {Q : V -> Hp -> Prop} (hp : G.prim f = none) (hf : G.fn f = some ⟨np,rs,c⟩) (hs : G.sh f = false) (hv : Co vs = some is) (hl : vs.length = np)
    (h : Run G c ⟨CZ 0 vs,[],⟨[],[]⟩⟩ (.pur rs H Q)) : Ret G f vs H Q:=Nl hp hf hs hv hl h
theorem Ae {f np : Nat} {rs : List Res} {c : C} {vs : List V} {is : List I} {H : Hp} {v : V} (hp : G.prim f = none) (hf : G.fn f = some ⟨np,rs,c⟩) (hs : G.sh f = false) (hv : Co vs = some is) (hl : vs.length = np)
    (h : Run G c ⟨CZ 0 vs,[],⟨[],[]⟩⟩ (.pur rs H fun v' _=>v' = v)) : Gives G f vs H v H:=by
  refine .of_ret (Nl hp hf hs hv hl (h.mono fun e s hq=>?_))
  cases e with
  | ex j=>exact hq
  | nm =>
    obtain ⟨x,h1,r,h2,h3⟩:=hq
    exact ⟨x,h1,r,h2,h3,rfl⟩
  | ret =>
    obtain ⟨x,h1,r,h2,h3⟩:=hq
    exact ⟨x,h1,r,h2,h3,rfl⟩
theorem BU (hG : Bt G) {f np : Nat} {rs : List Res} {c : C} {vs : List V} {H : Hp} {Q : V -> Hp -> Prop} (hp : G.prim f = none) (hf : G.fn f = some ⟨np,rs,c⟩) (hs : G.sh f = true) (hv : vs.all AA = true) (hl : vs.length = np)
    (h : Run G c ⟨CZ 0 vs,[],⟨[],H⟩⟩ (.fin rs Q)) : Ret G f vs H Q:=Pj hG hp hf hs hv hl h
end
end Go.Mx
/- Walking the machine: rules for simp. Nothing here speaks of a program. -/
namespace Go.Mx
attribute [simp] AX Mb Dt RO RP PA RS PD RT at_st RR PC RQ PB QC Xv Ud Nk Nj Ue Qn Pc Nm Ko Xw Pr Mg
@[simp] theorem pickS_t (a b : Option St) : BB (some true) a b = a:=rfl
@[simp] theorem pickS_f (a b : Option St) : BB (some false) a b = b:=rfl
@[simp] theorem stepP_eq (s : St) (o : OP) (az : List Opnd) (d : Dst) : Ki s o az d = (Ah (evA s) az).bind fun vs=>(Aq o vs).bind fun v=>CV s d v:=rfl
@[simp] theorem stepR_eq (s : St) (o : OR) (az : List Opnd) (d : Dst) : Kh s o az d = (Ah (evA s) az).bind fun vs=>(readX s.M o vs).bind fun v=>CV s d v:=rfl
@[simp] theorem AaR {α : Type} (p : α -> Prop) : CK none p = False:=by simp [CK]
@[simp] theorem ZZ {α β : Type} (f : α -> Option β) : Ah f [] = some []:=rfl
@[simp] theorem XD {α β : Type} (f : α -> Option β) (a : α) (r : List α) : Ah f (a :: r) = (f a).bind fun x=>(Ah f r).bind fun l=>some (x :: l):=rfl
@[simp] theorem getE_nil (n : Nat) : BX [] n = none:=rfl
@[simp] theorem CA (k : Nat) (x : V) (r : Env) (n : Nat) : BX ((k,x) :: r) n = if k = n then some x else BX r n:=by
  simp only [BX]
  by_cases h : k = n
  · subst h; simp
  · rw [Ads h]
    have : Nat.beq k n = false:=by
      cases hb : Nat.beq k n with
      | false=>rfl
      | true=>exact absurd (AdD hb) h
    rw [this]
@[simp] theorem setE_nil (n : Nat) (x : V) : BT [] n x = [(n,x)]:=rfl
@[simp] theorem Ho (k : Nat) (y : V) (r : Env) (n : Nat) (x : V) : BT ((k,y) :: r) n x = if n < k then (n,x) :: (k,y) :: r else if k = n then (n,x) :: r else (k,y) :: BT r n x:=by
  simp only [BT]
  by_cases h : n < k
  · rw [Adu h]
    have : Nat.blt n k = true:=by rw [AeA]; exact h
    rw [this]
  · rw [Ads h]
    have : Nat.blt n k = false:=by
      cases hb : Nat.blt n k with
      | false=>rfl
      | true=>rw [AeA] at hb; exact absurd hb h
    rw [this]
    by_cases e : k = n
    · subst e; simp
    · rw [Ads e]
      have : Nat.beq k n = false:=by
        cases hb : Nat.beq k n with
        | false=>rfl
        | true=>exact absurd (AdD hb) e
      rw [this]
@[simp] theorem rmE_nil (n : Nat) : rmE [] n = []:=rfl
@[simp] theorem rmE_cons (k : Nat) (x : V) (r : Env) (n : Nat) : rmE ((k,x) :: r) n = if k = n then rmE r n else (k,x) :: rmE r n:=by
  simp only [rmE]
  by_cases h : k = n
  · subst h; simp
  · rw [Ads h]
    have : Nat.beq k n = false:=by
      cases hb : Nat.beq k n with
      | false=>rfl
      | true=>exact absurd (AdD hb) h
    rw [this]
@[simp] theorem AbF (e : Env) : Aw [] e = e:=rfl
@[simp] theorem Aag (n : Nat) (r : List Nat) (e : Env) : Aw (n :: r) e = Aw r (rmE e n):=rfl
@[simp] theorem evA_v (s : St) (n : Nat) : evA s (.v n) = BX s.E n:=rfl
@[simp] theorem evA_l (s : St) (n : Nat) : evA s (.l n) = BX s.L n:=rfl
@[simp] theorem evA_k (s : St) (x : V) : evA s (.k x) = some x:=rfl
@[simp] theorem setD_no (s : St) (x : V) : CV s .no x = some s:=rfl
@[simp] theorem setD_l (s : St) (n : Nat) (x : V) : CV s (.l n) x = some { s with L:=BT s.L n x }:=rfl
@[simp] theorem setD_vm (s : St) (n : Nat) (x : I) : CV s (.v n) (.m x) = some { s with E:=BT s.E n (.m x) }:=rfl
@[simp] theorem setD_vun (s : St) (n : Nat) : CV s (.v n) .un = some { s with E:=BT s.E n .un }:=rfl
@[simp] theorem setD_vls (s : St) (n : Nat) (x : List (List I)) : CV s (.v n) (.ls x) = some { s with E:=BT s.E n (.ls x) }:=rfl
@[simp] theorem setD_vsl (s : St) (n a b c d e : Nat) (f : Bool) : CV s (.v n) (.sl a b c d e f) = some { s with E:=BT s.E n (.sl a b c d e f) }:=rfl
@[simp] theorem setD_vpt (s : St) (n a b c d : Nat) : CV s (.v n) (.pt a b c d) = some { s with E:=BT s.E n (.pt a b c d) }:=rfl
@[simp] theorem setD_vmp (s : St) (n a : Nat) : CV s (.v n) (.mp a) = some { s with E:=BT s.E n (.mp a) }:=rfl
@[simp] theorem setD_vtu (s : St) (n : Nat) (a : List V) : CV s (.v n) (.tu a) = some { s with E:=BT s.E n (.tu a) }:=rfl
@[simp] theorem setD_vag (s : St) (n : Nat) (a : List V) : CV s (.v n) (.ag a) = some { s with E:=BT s.E n (.ag a) }:=rfl
@[simp] theorem setD_vfn (s : St) (n f : Nat) (a : List V) : CV s (.v n) (.fn f a) = some { s with E:=BT s.E n (.fn f a) }:=rfl
@[simp] theorem WM (s : St) : Ay s none = some true:=rfl
@[simp] theorem Hj (s : St) (a : Opnd) (w : Bool) : Ay s (some (a,w)) = (evA s a).bind fun v=>match v with
    | .m (.b x)=>some (x == w)
    | .un=>some false
    | _=>none:=rfl
@[simp] theorem asB_b (x : Bool) : asB (.m (.b x)) = some x:=rfl
@[simp] theorem AbE (k : Nat) : CZ k [] = []:=rfl
@[simp] theorem Aaf (k : Nat) (x : V) (r : List V) : CZ k (x :: r) = (k,x) :: CZ (k + 1) r:=rfl
@[simp] theorem resOf_eq (s : St) (rs : List Res) : DK s rs = (Ah (Pn s) rs).bind fun vs=>some (tup vs):=rfl
@[simp] theorem resV_t (s : St) (n : Nat) : Pn s (.t n) = (BX s.E n).bind fun v=>gd (AA v) (some v):=rfl
@[simp] theorem resV_c (s : St) (n sz : Nat) (ag : Bool) : Pn s (.c n sz ag) = (BX s.E n).bind fun a=>(readA s.M sz a).bind fun cs=>Dp ag cs:=rfl
@[simp] theorem noFaV_m (x : I) : AA (.m x) = true:=rfl
@[simp] theorem noFaV_ls (x : List (List I)) : AA (.ls x) = true:=rfl
@[simp] theorem noFaV_sl (a b c d e : Nat) (f : Bool) : AA (.sl a b c d e f) = true:=rfl
@[simp] theorem noFaV_mp (a : Nat) : AA (.mp a) = true:=rfl
@[simp] theorem noFaV_pt (a b c d : Nat) : AA (.pt a b c d) = true:=rfl
@[simp] theorem noFaV_ag (a : List V) : AA (.ag a) = true:=rfl
@[simp] theorem noFaV_tu (a : List V) : AA (.tu a) = true:=rfl
@[simp] theorem noFaV_fn (f : Nat) (a : List V) : AA (.fn f a) = true:=rfl
@[simp] theorem tup_1 (v : V) : tup [v] = v:=rfl
@[simp] theorem tup_0 : tup [] = .tu []:=rfl
@[simp] theorem tup_2 (u v : V) (r : List V) : tup (u :: v :: r) = .tu (u :: v :: r):=rfl
@[simp] theorem viewR_m (H : Hp) (x : I) : viewR H (.m x) = some (.m x):=rfl
@[simp] theorem viewR_tu (H : Hp) (vs : List V) : viewR H (.tu vs) = (Ah (view 20 H) vs).bind fun l=>some (.tu (l.map .m)):=rfl
@[simp] theorem viewR_ls (H : Hp) (x : List (List I)) : viewR H (.ls x) = some (.m (.sl x)):=rfl
@[simp] theorem view_m (n : Nat) (H : Hp) (x : I) : view (n + 1) H (.m x) = some x:=rfl
@[simp] theorem MU (H : Hp) (x : I) : view 20 H (.m x) = some x:=rfl
@[simp] theorem Aau (H : Hp) (x : List (List I)) : view 20 H (.ls x) = some (.sl x):=rfl
@[simp] theorem allM_nil : Co [] = some []:=rfl
@[simp] theorem AbW (x : I) (r : List V) : Co (.m x :: r) = (Co r).bind fun l=>some (x :: l):=rfl
/- Operations on immutable values. -/
@[simp] theorem px_mv (x : V) : Aq .mv [x] = some x:=rfl
@[simp] theorem px_pick (c : Bool) (a b : V) : Aq .pick [.m (.b c),a,b] = some (if c then a else b):=by cases c <;> rfl
@[simp] theorem px_un (o : UnOp) (x : V) : Aq (.un o) [x] = unX o x:=rfl
@[simp] theorem px_bin (o : BinOp) (x y : V) : Aq (.bin o) [x,y] = DW o x y:=rfl
@[simp] theorem px_eqb (n x y : Bool) : Aq (.eqb n) [.m (.b x),.m (.b y)] = some (.m (.b (xor n (x == y)))):=rfl
@[simp] theorem px_eqs (n : Bool) (ks : List Nat) (xs ys : List I) : Aq (.eqs n ks) [.m (.ag xs),.m (.ag ys)] = (EW ks xs ys).bind fun r=>some (.m (.b (xor n r))):=rfl
@[simp] theorem px_eqn (n : Bool) (k : Nat) (x : V) : Aq (.eqn n k) [x] = (En k x).bind fun r=>some (.m (.b (xor n r))):=rfl
@[simp] theorem px_build (z : List V) (p : List (Nat × Nat)) (xs : List V) : Aq (.build z p) xs = (Rp z p xs).bind fun cs=>some (mkAg cs):=rfl
@[simp] theorem px_cv (k k' : IntKind) (n : Int) : Aq (.cv k) [.m (.i k' n)] = some (.m (.i k (wr k n))):=rfl
@[simp] theorem AaO (o : Nat) (cs : List I) : Aq (.fad o) [.m (.pt cs)] = some (.m (.pt (cs.drop o))):=rfl
@[simp] theorem AaP (o d o' : Nat) : Aq (.fad o) [.fa d o'] = some (.fa d (o' + o)):=rfl
@[simp] theorem ZY (o r v i o' : Nat) : Aq (.fad o) [.pt r v i o'] = some (.pt r v i (o' + o)):=rfl
@[simp] theorem px_ext (j : Nat) (vs : List V) : Aq (.ext j) [.tu vs] = nth vs j:=rfl
@[simp] theorem px_mkf (f : Nat) (xs : List V) : Aq (.mkf f) xs = gd (xs.all AA) (some (.fn f xs)):=rfl
@[simp] theorem AaI (d o : Nat) : Aq .nck [.fa d o] = some (.fa d o):=rfl
@[simp] theorem ZT (r v i o : Nat) : Aq .nck [.pt r v i o] = some (.pt r v i o):=rfl
@[simp] theorem AaH (cs : List I) : Aq .nck [.m (.pt cs)] = some (.m (.pt cs)):=rfl
@[simp] theorem AaK : Aq (.len false) [.m (.nl 4)] = some (.m (.i .i64 0)):=rfl
@[simp] theorem AaJ (es : List (List I)) : Aq (.len false) [.m (.sl es)] = some (.m (.i .i64 es.length)):=rfl
@[simp] theorem AaL (es : List (List I)) : Aq (.len false) [.ls es] = some (.m (.i .i64 es.length)):=rfl
@[simp] theorem ZU (r v e st n : Nat) (l : Bool) : Aq (.len false) [.sl r v e st n l] = some (.m (.i .i64 n)):=rfl
@[simp] theorem px_len_s (l : List Nat) : Aq (.len true) [.m (.s l)] = some (.m (.i .i64 l.length)):=rfl
@[simp] theorem JH (k : IntKind) : eqK k k = true:=by cases k <;> rfl
@[simp] theorem Gh {α : Type} (x : Option α) : gd true x = x:=rfl
@[simp] theorem UE {α : Type} (x : Option α) : gd false x = none:=rfl
@[simp] theorem bx_add (k : IntKind) (x y : Int) : DW .add (.m (.i k x)) (.m (.i k y)) = some (.m (.i k (wr k (x + y)))):=by simp [DW,arX,vi]
@[simp] theorem bx_sub (k : IntKind) (x y : Int) : DW .sub (.m (.i k x)) (.m (.i k y)) = some (.m (.i k (wr k (x - y)))):=by simp [DW,arX,vi]
@[simp] theorem bx_mul (k : IntKind) (x y : Int) : DW .mul (.m (.i k x)) (.m (.i k y)) = some (.m (.i k (wr k (x * y)))):=by simp [DW,arX,vi]
theorem QT (y : Int) : (!eqI y 0) = decide (y ≠ 0):=by rw [FA]; by_cases h : y = 0 <;> simp [h]
@[simp] theorem bx_quo (k : IntKind) (x y : Int) : DW .quo (.m (.i k x)) (.m (.i k y)) = gd (decide (y ≠ 0)) (some (.m (.i k (wr k (x.tdiv y))))):=by simp only [DW,arX,vi,JH,Gh,QT]
@[simp] theorem bx_rem (k : IntKind) (x y : Int) : DW .rem (.m (.i k x)) (.m (.i k y)) = gd (decide (y ≠ 0)) (some (.m (.i k (x.tmod y)))):=by simp only [DW,arX,vi,JH,Gh,QT]
@[simp] theorem bx_eql (k : IntKind) (x y : Int) : DW .eql (.m (.i k x)) (.m (.i k y)) = some (.m (.b (decide (x = y)))):=by simp [DW,arX,vb,FA]; rfl
@[simp] theorem bx_neq (k : IntKind) (x y : Int) : DW .neq (.m (.i k x)) (.m (.i k y)) = some (.m (.b (decide (x ≠ y)))):=by simp [DW,arX,vb,FA]; rfl
@[simp] theorem bx_lss (k : IntKind) (x y : Int) : DW .lss (.m (.i k x)) (.m (.i k y)) = some (.m (.b (decide (x < y)))):=by simp [DW,arX,vb,Fv]
@[simp] theorem bx_leq (k : IntKind) (x y : Int) : DW .leq (.m (.i k x)) (.m (.i k y)) = some (.m (.b (decide (x <= y)))):=by simp [DW,arX,vb,ND]
@[simp] theorem bx_gtr (k : IntKind) (x y : Int) : DW .gtr (.m (.i k x)) (.m (.i k y)) = some (.m (.b (decide (y < x)))):=by simp [DW,arX,vb,Fv]
@[simp] theorem bx_geq (k : IntKind) (x y : Int) : DW .geq (.m (.i k x)) (.m (.i k y)) = some (.m (.b (decide (y <= x)))):=by simp [DW,arX,vb,ND]
@[simp] theorem Yk (x y : List Nat) : DW .add (.m (.s x)) (.m (.s y)) = gd (decide (x.length + y.length <= 9223372036854775807)) (some (.m (.s (x ++ y)))):=by
  simp only [DW,stX]
  congr 1
  rw [Aec]; simp
@[simp] theorem ux_neg (k : IntKind) (x : Int) : unX .neg (.m (.i k x)) = some (.m (.i k (wr k (0 - x)))):=rfl
@[simp] theorem ux_not (x : Bool) : unX .not (.m (.b x)) = some (.m (.b (!x))):=rfl
@[simp] theorem nth_zero {α : Type} (x : α) (r : List α) : nth (x :: r) 0 = some x:=rfl
@[simp] theorem Uq {α : Type} (x : α) (r : List α) (n : Nat) : nth (x :: r) (n + 1) = nth r n:=rfl
@[simp] theorem aggC_m (cs : List I) : aggC (.m (.ag cs)) = some (cs.map .m):=rfl
@[simp] theorem aggC_a (cs : List V) : aggC (.ag cs) = some cs:=rfl
@[simp] theorem valOf_f (x : V) : Dp false [x] = some x:=rfl
@[simp] theorem AQ (cs : List V) : Dp true cs = some (mkAg cs):=rfl
/- Numbers in their kinds. -/
theorem Aa {x : Int} (h1 : -9223372036854775808 <= x) (h2 : x <= 9223372036854775807) : wr .i64 x = x:=by
  have : okK .i64 x = true:=(Jw _ _ _).2 ⟨by simpa using h1,by simpa using h2⟩
  unfold wr; rw [this]
theorem Is {x : Int} (h1 : 0 <= x) (h2 : x <= 18446744073709551615) : wr .u64 x = x:=by
  have : okK .u64 x = true:=(Jw _ _ _).2 ⟨by simpa using h1,by simpa using h2⟩
  unfold wr; rw [this]
theorem wr_u8 {x : Int} (h1 : 0 <= x) (h2 : x <= 255) : wr .u8 x = x:=by
  have : okK .u8 x = true:=(Jw _ _ _).2 ⟨by simpa using h1,by simpa using h2⟩
  unfold wr; rw [this]
end Go.Mx
/- Walking the machine: more rules for simp (private boxes, slices that do not change, strings). Nothing here speaks of a program. -/
namespace Go.Mx
theorem Bc (a b : Nat) : Nat.ble a b = decide (a <= b):=by
  rw [Aec]; simp
theorem RN (a b : Nat) : Nat.blt a b = decide (a < b):=by
  rw [Aec]; simp
theorem Ff (a b : Nat) : Nat.beq a b = decide (a = b):=by
  rw [Aec]; simp
/- Private boxes. -/
@[simp] theorem stepL_eq (s : St) (o : OL) (az : List Opnd) (d : Dst) : stepL s o az d = gd (AW s (.l o)) ((Ah (evA s) az).bind fun vs=>(Am (fun _ _ _=>none) s.M o vs).bind fun p=>CV { s with M:=p.2 } d p.1):=rfl
@[simp] theorem Abz (s : St) (d : Nat) (z : List V) : AW s (.l (.alp d z)) = BP d s.L:=rfl
@[simp] theorem Abw (s : St) (d z : Nat) : AW s (.l (.bxp d z)) = BP d s.L:=rfl
@[simp] theorem Aby (s : St) (a b c : Nat) (z : List V) : AW s (.l (.als a b c z)) = true:=rfl
@[simp] theorem fresh_st (s : St) (n : Nat) : AW s (.l (.st n)) = true:=rfl
@[simp] theorem Abr (s : St) (d n : Nat) : AW s (.l (.stb d n)) = true:=rfl
@[simp] theorem Abq (s : St) (n : Nat) : AW s (.l (.str n)) = true:=rfl
@[simp] theorem isFa_fa (d k o : Nat) : Rh d (.fa k o) = decide (k = d):=Ff k d
@[simp] theorem isFa_m (d : Nat) (x : I) : Rh d (.m x) = false:=rfl
@[simp] theorem isFa_pt (d a b c e : Nat) : Rh d (.pt a b c e) = false:=rfl
@[simp] theorem Abu (s : St) : AW s (.l .mkm) = true:=rfl
@[simp] theorem Abt (s : St) (a b c : Nat) (z : List V) : AW s (.l (.mks a b z c)) = true:=rfl
@[simp] theorem Abx (s : St) (a b c : Nat) : AW s (.l (.app a b c)) = true:=rfl
@[simp] theorem Abs (s : St) (q : KT) : AW s (.l (.mup q)) = true:=rfl
@[simp] theorem noFa_nil (d : Nat) : BP d [] = true:=rfl
@[simp] theorem noFa_fa (d k n o : Nat) (r : Env) : BP d ((n,.fa k o) :: r) = (!Nat.beq k d && BP d r):=rfl
@[simp] theorem noFa_m (d n : Nat) (x : I) (r : Env) : BP d ((n,.m x) :: r) = BP d r:=rfl
@[simp] theorem noFa_un (d n : Nat) (r : Env) : BP d ((n,.un) :: r) = BP d r:=rfl
@[simp] theorem noFa_ls (d n : Nat) (x : List (List I)) (r : Env) : BP d ((n,.ls x) :: r) = BP d r:=rfl
@[simp] theorem noFa_sl (d n a b c e f : Nat) (g : Bool) (r : Env) : BP d ((n,.sl a b c e f g) :: r) = BP d r:=rfl
@[simp] theorem noFa_pt (d n a b c e : Nat) (r : Env) : BP d ((n,.pt a b c e) :: r) = BP d r:=rfl
@[simp] theorem noFa_mp (d n a : Nat) (r : Env) : BP d ((n,.mp a) :: r) = BP d r:=rfl
@[simp] theorem noFa_ag (d n : Nat) (a : List V) (r : Env) : BP d ((n,.ag a) :: r) = BP d r:=rfl
@[simp] theorem noFa_tu (d n : Nat) (a : List V) (r : Env) : BP d ((n,.tu a) :: r) = BP d r:=rfl
@[simp] theorem noFa_fn (d n f : Nat) (a : List V) (r : Env) : BP d ((n,.fn f a) :: r) = BP d r:=rfl
@[simp] theorem loud_alp (c : Bf) (M : Mem) (d : Nat) (z : List V) : Am c M (.alp d z) [] = some (.fa d 0,{ M with B:=DT M.B d z }):=rfl
@[simp] theorem loud_bxp (c : Bf) (M : Mem) (d sz : Nat) (x : V) : Am c M (.bxp d sz) [x] = (Au x).bind fun cs=>gd (Nat.beq cs.length sz) (some (.fa d 0,{ M with B:=DT M.B d cs })):=rfl
@[simp] theorem loud_st (c : Bf) (M : Mem) (sz : Nat) (a x : V) : Am c M (.st sz) [a,x] = (Au x).bind fun cs=>gd (Nat.beq cs.length sz && cs.all Cv) ((Ed M cs a).bind fun M'=>some (.un,M')):=rfl
@[simp] theorem loud_stb (c : Bf) (M : Mem) (d sz : Nat) (a x : V) : Am c M (.stb d sz) [a,x] = gd (Rh d a) ((Au x).bind fun cs=>gd (Nat.beq cs.length sz && cs.all Cv) ((Ed M cs a).bind fun M'=>some (.un,M'))):=rfl
@[simp] theorem loud_str (c : Bf) (M : Mem) (sz : Nat) (a x : V) : Am c M (.str sz) [a,x] = gd (AA a) ((Au x).bind fun cs=>gd (Nat.beq cs.length sz && cs.all Cv) ((Ed M cs a).bind fun M'=>some (.un,M'))):=rfl
@[simp] theorem AbQ (cs : List I) : Au (.m (.ag cs)) = some (cs.map .m):=rfl
@[simp] theorem AbP (cs : List V) : Au (.ag cs) = some cs:=rfl
@[simp] theorem cellsV_b (x : Bool) : Au (.m (.b x)) = some [.m (.b x)]:=rfl
@[simp] theorem cellsV_i (k : IntKind) (x : Int) : Au (.m (.i k x)) = some [.m (.i k x)]:=rfl
@[simp] theorem cellsV_s (x : List Nat) : Au (.m (.s x)) = some [.m (.s x)]:=rfl
@[simp] theorem AbM (k : Nat) : Au (.m (.nl k)) = some [.m (.nl k)]:=rfl
@[simp] theorem Aak (es : List (List I)) : Au (.m (.sl es)) = some [.m (.sl es)]:=rfl
@[simp] theorem Aal (es : List (List I)) : Au (.m (.mp es)) = some [.m (.mp es)]:=rfl
@[simp] theorem AbO (es : List (List I)) : Au (.ls es) = some [.ls es]:=rfl
@[simp] theorem AbL (a b c d e : Nat) (f : Bool) : Au (.sl a b c d e f) = some [.sl a b c d e f]:=rfl
@[simp] theorem AbN (a : Nat) : Au (.mp a) = some [.mp a]:=rfl
@[simp] theorem oneV_b (x : Bool) : Cv (.m (.b x)) = true:=rfl
@[simp] theorem oneV_i (k : IntKind) (x : Int) : Cv (.m (.i k x)) = true:=rfl
@[simp] theorem oneV_s (x : List Nat) : Cv (.m (.s x)) = true:=rfl
@[simp] theorem oneV_nl (k : Nat) : Cv (.m (.nl k)) = true:=rfl
@[simp] theorem oneV_msl (es : List (List I)) : Cv (.m (.sl es)) = true:=rfl
@[simp] theorem oneV_ls (es : List (List I)) : Cv (.ls es) = true:=rfl
@[simp] theorem oneV_sl (a b c d e : Nat) (f : Bool) : Cv (.sl a b c d e f) = true:=rfl
@[simp] theorem oneV_mp (a : Nat) : Cv (.mp a) = true:=rfl
@[simp] theorem getB_nil (n : Nat) : getB [] n = none:=rfl
@[simp] theorem Dx (k : Nat) (x : List V) (r : List (Nat × List V)) (n : Nat) : getB ((k,x) :: r) n = if k = n then some x else getB r n:=by
  simp only [getB,Ff]
  by_cases h : k = n <;> simp [h]
@[simp] theorem setB_nil (n : Nat) (x : List V) : DT [] n x = [(n,x)]:=rfl
@[simp] theorem Ef (k : Nat) (y : List V) (r : List (Nat × List V)) (n : Nat) (x : List V) : DT ((k,y) :: r) n x = if k = n then (n,x) :: r else if n < k then (n,x) :: (k,y) :: r else (k,y) :: DT r n x:=by
  simp only [DT,Ff,RN]
  by_cases h : k = n
  · simp [h]
  · by_cases h2 : n < k <;> simp [h,h2]
@[simp] theorem Aat (M : Mem) (xs : List V) (d off : Nat) : Ed M xs (.fa d off) = (getB M.B d).bind fun cs=>(FZ cs off xs).bind fun cs'=>some { M with B:=DT M.B d cs' }:=rfl
@[simp] theorem Um (cs : List V) (off : Nat) (xs : List V) : FZ cs off xs = gd (decide (off + xs.length <= cs.length)) (some (cs.take off ++ xs ++ cs.drop (off + xs.length))):=by rw [<- Bc]; rfl
theorem TK (n : Nat) (l : List V) : DY n l = gd (decide ((l.take n).length = n)) (some (l.take n)):=by rw [<- Ff]; rfl
@[simp] theorem readA_fa (M : Mem) (sz d off : Nat) : readA M sz (.fa d off) = (getB M.B d).bind fun cs=>DY sz (cs.drop off):=rfl
@[simp] theorem readA_pt (M : Mem) (sz : Nat) (cs : List I) : readA M sz (.m (.pt cs)) = DY sz (cs.map .m):=rfl
@[simp] theorem rx_ld (M : Mem) (ag : Bool) (sz : Nat) (a : V) : readX M (.ld ag sz) [a] = (readA M sz a).bind fun cs=>Dp ag cs:=rfl
@[simp] theorem rx_ldx (M : Mem) (d : Nat) (ag : Bool) (sz : Nat) (a : V) : readX M (.ldx d ag sz) [a] = gd (!Rh d a) ((readA M sz a).bind fun cs=>Dp ag cs):=rfl
@[simp] theorem AE (cs : List V) : mkAg cs = match Co cs with
  | some l=>.m (.ag l)
  | none=>.ag cs:=rfl
@[simp] theorem setD_mk (s : St) (n : Nat) (cs : List I) : CV s (.v n) (.m (.ag cs)) = some { s with E:=BT s.E n (.m (.ag cs)) }:=rfl
@[simp] theorem fill_nil (cs : List V) : Rp cs [] [] = some cs:=rfl
@[simp] theorem AbA (cs : List V) (off sz : Nat) (ps : List (Nat × Nat)) (x : V) (xs : List V) : Rp cs ((off,sz) :: ps) (x :: xs) = (Au x).bind fun l=>gd (Nat.beq l.length sz) ((FZ cs off l).bind fun cs'=>Rp cs' ps xs):=rfl
@[simp] theorem Aae (esz : Nat) (es : List (List V)) : BJ esz es [] [] = some es:=rfl
@[simp] theorem Yb (esz : Nat) (es : List (List V)) (ix : Nat) (ps : List Nat) (x : V) (xs : List V) : BJ esz es (ix :: ps) (x :: xs) = (Au x).bind fun l=>gd (Nat.beq l.length esz) ((Bk es ix l).bind fun es'=>BJ esz es' ps xs):=rfl
@[simp] theorem ZQ {α : Type} (y : α) (r : List α) (x : α) : Bk (y :: r) 0 x = some (x :: r):=rfl
@[simp] theorem Ph {α : Type} (y : α) (r : List α) (n : Nat) (x : α) : Bk (y :: r) (n + 1) x = (Bk r n x).bind fun l=>some (y :: l):=rfl
@[simp] theorem px_bsl (esz : Nat) (z : List V) (n : Nat) (p : List Nat) (xs : List V) : Aq (.bsl esz z n p) xs = (BJ esz (List.replicate n z) p xs).bind fun es=>(Ah Co es).bind fun l=>some (.ls l):=rfl
/- Elements. -/
@[simp] theorem Abp (n : Nat) (k : IntKind) (x : Int) : idx n (.m (.i k x)) = gd (decide (0 <= x /\ x < n)) (some x.toNat):=by
  cases x with
  | ofNat j =>
    show gd (Nat.blt j n) (some j) = _
    rw [RN]
    congr 1
    simp
  | negSucc j =>
    have : ¬ (0 <= Int.negSucc j /\ Int.negSucc j < n):=by omega
    rw [AdB this]; rfl
@[simp] theorem AbS (n : Nat) (k : IntKind) (x : Int) : bnd n (.m (.i k x)) = gd (decide (0 <= x /\ x <= n)) (some x.toNat):=by
  cases x with
  | ofNat j =>
    show gd (Nat.ble j n) (some j) = _
    rw [Bc]
    congr 1
    simp
  | negSucc j =>
    have : ¬ (0 <= Int.negSucc j /\ Int.negSucc j <= n):=by omega
    rw [AdB this]; rfl
@[simp] theorem AaM (esz : Nat) (es : List (List I)) (i : V) : Aq (.ixa esz) [.m (.sl es),i] = (idx es.length i).bind fun j=>(nth es j).bind fun e=>gd (Nat.beq e.length esz) (some (.m (.pt e))):=rfl
@[simp] theorem AaN (esz : Nat) (es : List (List I)) (i : V) : Aq (.ixa esz) [.ls es,i] = (idx es.length i).bind fun j=>(nth es j).bind fun e=>gd (Nat.beq e.length esz) (some (.m (.pt e))):=rfl
@[simp] theorem ZV (esz r ver e st len : Nat) (lim : Bool) (i : V) : Aq (.ixa esz) [.sl r ver e st len lim,i] = gd (Nat.beq esz e) ((idx len i).bind fun j=>some (.pt r ver (st + j) 0)):=rfl
@[simp] theorem ZX (n esz d o : Nat) (i : V) : Aq (.ixaA n esz) [.fa d o,i] = (idx n i).bind fun j=>some (.fa d (o + j * esz)):=rfl
@[simp] theorem ZW (n esz : Nat) (cs : List I) (i : V) : Aq (.ixaA n esz) [.m (.pt cs),i] = (idx n i).bind fun j=>some (.m (.pt (cs.drop (j * esz)))):=rfl
@[simp] theorem px_ixs (l : List Nat) (i : V) : Aq .ixs [.m (.s l),i] = (idx l.length i).bind fun j=>(nth l j).bind fun c=>some (.m (.i .u8 (c : Int))):=rfl
theorem AS {α : Type} : ∀ (l : List α) (j : Nat),nth l j = l[j]?
  | [],n=>by cases n <;> rfl
  | _ :: _,0=>rfl
  | _ :: r,n + 1=>by rw [Uq,AS r n]; simp
@[simp] theorem px_slc_s (lo hi mx : Bool) (l : List Nat) (vs : List V) : Aq (.slc 0 lo hi mx) (.m (.s l) :: vs) = gd (!mx) ((GS l.length lo hi mx vs).bind fun p=>some (.m (.s ((l.drop p.1).take (p.2 - p.1))))):=rfl
@[simp] theorem bnds_ff (n : Nat) : GS n false false false [] = some (0,n):=rfl
@[simp] theorem Yl (n : Nat) (a : V) : GS n true false false [a] = (bnd n a).bind fun l=>some (l,n):=rfl
@[simp] theorem bnds_ft (n : Nat) (b : V) : GS n false true false [b] = (bnd n b).bind fun h=>some (0,h):=rfl
@[simp] theorem bnds_tt (n : Nat) (a b : V) : GS n true true false [a,b] = (bnd n b).bind fun h=>(bnd h a).bind fun l=>some (l,h):=rfl
@[simp] theorem ZS (M : Mem) (n esz : Nat) (lo hi mx : Bool) (cs : List I) (vs : List V) : readX M (.slcA n esz lo hi mx) (.m (.pt cs) :: vs) = gd (Nat.beq cs.length (n * esz) && Nat.ble n 9223372036854775807) ((GS n lo hi mx vs).bind fun p=>some (match mx || Nat.beq p.2 n with
      | true=>.ls (((BZ esz n cs).drop p.1).take (p.2 - p.1))
      | false=>.m (.sl (((BZ esz n cs).drop p.1).take (p.2 - p.1))))):=rfl
@[simp] theorem nat_beq (a b : Nat) : Nat.beq a b = decide (a = b):=Ff a b
@[simp] theorem Abk : En 4 (.m (.nl 4)) = some true:=rfl
@[simp] theorem Abj (es : List (List I)) : En 4 (.m (.sl es)) = some false:=rfl
@[simp] theorem Abl (es : List (List I)) : En 4 (.ls es) = some false:=rfl
@[simp] theorem Aac (a b c d e : Nat) (f : Bool) : En 4 (.sl a b c d e f) = some false:=rfl
/- Appending to rows. -/
@[simp] theorem DM (c : Bf) (M : Mem) (ty esz b : Nat) (s x : V) : Am c M (.app ty esz b) [s,x] = match x with
    | .m (.s l)=>Ea M ty esz b s (l.map fun c : Nat=>[.m (.i .u8 (Int.ofNat c))])
    | x=>(elems M.H x).bind fun xs=>Ea M ty esz b s xs:=rfl
@[simp] theorem elems_nl (H : Hp) : elems H (.m (.nl 4)) = some []:=rfl
@[simp] theorem elems_sl (H : Hp) (es : List (List I)) : elems H (.m (.sl es)) = some (Cn es):=rfl
@[simp] theorem elems_ls (H : Hp) (es : List (List I)) : elems H (.ls es) = some (Cn es):=rfl
@[simp] theorem immS_nil : Cn [] = []:=rfl
@[simp] theorem Abn (e : List I) (r : List (List I)) : Cn (e :: r) = e.map .m :: Cn r:=rfl
@[simp] theorem UL : EW [] [] [] = some true:=rfl
@[simp] theorem Rs (k : Nat) (ks : List Nat) (x y : I) (xs ys : List I) : EW (k :: ks) (x :: xs) (y :: ys) = (eqC k x y).bind fun r=>(EW ks xs ys).bind fun rs=>some (r && rs):=rfl
@[simp] theorem AbD (k : IntKind) (x y : Int) : eqC 1 (.i k x) (.i k y) = some (decide (x = y)):=by
  simp only [eqC,JH,FA]
  rfl
@[simp] theorem eqC_b (x y : Bool) : eqC 0 (.b x) (.b y) = some (x == y):=rfl
@[simp] theorem eqC_s (x y : List Nat) : eqC 2 (.s x) (.s y) = some (decide (x = y)):=by
  simp only [eqC,IM]
  rfl
/- Calls of a function's value. -/
def CavK (G : Cfg) (g : Option V) (vs : Option (List V)) (s : St) (d : Dst) (r : List Op) (k : K) : Prop:=CK g fun g=>match g with
  | .m (.fn f cap)=>In G f (vs.map fun l=>l ++ cap.map .m) s d r k
  | .fn f cap=>In G f (vs.map fun l=>l ++ cap) s d r k
  | .yl r0=>In G yN (vs.map fun l=>.yl r0 :: l) s d r k
  | _=>False
section
variable {G : Cfg}
theorem VZ (hG : Bt G) (d : Dst) (g : Opnd) (az : List Opnd) (s : St) (r : List Op) (k : K) : BO G (some s) (⟨d,.l .cav,g :: az,none⟩ :: r) k = CavK G (evA s g) (Ah (evA s) az) s d r k:=by
  simp only [BO,AX,EB hG,CavK]
  apply propext
  simp only [GN,DN,Ay,Adx,AW,gd,evO,Ah,Adn,CK,In,Ret]
  constructor
  · rintro ⟨n,s',⟨vs,⟨gv,hg,as',has,hvs⟩,⟨v,M⟩,hl,hset⟩,hq⟩
    simp only [Ado] at hvs
    subst hvs
    refine ⟨gv,hg,?_⟩
    simp only [Am] at hl
    split at hl
    · rename_i f cap
      simp only [Adn,Ado,Adp] at hl
      obtain ⟨⟨r0,H'⟩,h2,rfl,rfl⟩:=hl
      exact ⟨_,by rw [has]; rfl,n,_,_,h2,s',hset,hq⟩
    · rename_i f cap
      simp only [Adn,Ado,Adp] at hl
      obtain ⟨⟨r0,H'⟩,h2,rfl,rfl⟩:=hl
      exact ⟨_,by rw [has]; rfl,n,_,_,h2,s',hset,hq⟩
    · rename_i r0
      simp only [Adn,Ado,Adp] at hl
      obtain ⟨⟨u0,H'⟩,h2,rfl,rfl⟩:=hl
      exact ⟨_,by rw [has]; rfl,n,_,_,h2,s',hset,hq⟩
    · cases hl
  · rintro ⟨gv,hg,h⟩
    split at h
    · rename_i f cap
      obtain ⟨vs,hvs,n,v,H',h2,s',hset,hq⟩:=h
      cases ha : Ah (evA s) az with
      | none=>rw [ha] at hvs; cases hvs
      | some as' =>
        rw [ha] at hvs
        cases hvs
        refine ⟨n,s',⟨_,⟨_,hg,as',rfl,rfl⟩,(v,{ s.M with H:=H' }),?_,hset⟩,hq⟩
        simp only [Am,Adn]
        exact ⟨(v,H'),h2,rfl⟩
    · rename_i f cap
      obtain ⟨vs,hvs,n,v,H',h2,s',hset,hq⟩:=h
      cases ha : Ah (evA s) az with
      | none=>rw [ha] at hvs; cases hvs
      | some as' =>
        rw [ha] at hvs
        cases hvs
        refine ⟨n,s',⟨_,⟨_,hg,as',rfl,rfl⟩,(v,{ s.M with H:=H' }),?_,hset⟩,hq⟩
        simp only [Am,Adn]
        exact ⟨(v,H'),h2,rfl⟩
    · rename_i r0
      obtain ⟨vs,hvs,n,v,H',h2,s',hset,hq⟩:=h
      cases ha : Ah (evA s) az with
      | none=>rw [ha] at hvs; cases hvs
      | some as' =>
        rw [ha] at hvs
        cases hvs
        refine ⟨n,s',⟨_,⟨_,hg,as',rfl,rfl⟩,(v,{ s.M with H:=H' }),?_,hset⟩,hq⟩
        simp only [Am,Adn]
        exact ⟨(v,H'),h2,rfl⟩
    · exact h.elim
theorem AT {f : Nat} {is : List I} {vs : List V} {H H0 : Hp} {v : V} (hp : G.prim f = none) (hs : G.sh f = false) (h : Gives G f (is.map .m) H0 v H0) (hv : Ah (view 20 H) vs = some is)
    (hr : (vs.flatMap DH = [] /\ vs.all Bn = true) \/ (vs.flatMap DH ≠ [] /\ Fy v = true)) : Gives G f vs H v H:=by
  obtain ⟨n,h⟩:=h
  cases n with
  | zero=>simp [Br] at h
  | succ n =>
    refine ⟨n + 1,?_⟩
    simp only [Br,hp,hs] at h ⊢
    cases hfn : G.fn f with
    | none =>
      rw [hfn] at h
      simp only [Ag] at h
      obtain ⟨_,h⟩:=h
      cases is <;> simp [DU] at h
    | some fn =>
    rw [hfn] at h
    simp only at h ⊢
    have hm : ∀ (l : List I),Ah (view 20 H0) (l.map V.m) = some l:=by
      intro l
      induction l with
      | nil=>rfl
      | cons a r ih=>simp only [Aee,Ah,MU,ih]; rfl
    have hz : (is.map V.m).flatMap DH = []:=by
      induction is with
      | nil=>rfl
      | cons a r _=>simp [DH,GH]
    unfold DZ at h ⊢
    simp only [hm,hz,Adn] at h
    obtain ⟨is',he,⟨v1,H1⟩,hev,r,hr1,h2⟩:=h
    cases he
    have hrv : r = v:=by
      cases hsh : (is.map V.m).all Bn with
      | false=>rw [hsh] at h2; simp at h2
      | true=>rw [hsh] at h2; simp at h2; exact h2
    subst hrv
    simp only [hv,Adx,hev,hr1]
    rcases hr with ⟨e1,e2⟩ | ⟨e1,e2⟩
    · rw [e1]
      simp [e2]
    · cases hl : vs.flatMap DH with
      | nil=>exact absurd hl e1
      | cons a b=>simp [e2]
end
/- Shifts, and the last bit. -/
@[simp] theorem AbV : Lg .i64 = 64:=rfl
@[simp] theorem AbU : Lg .u64 = 64:=rfl
@[simp] theorem bx_shr (k k' : IntKind) (x y : Int) : DW .shr (.m (.i k x)) (.m (.i k' y)) = gd (decide (0 <= y)) (some (.m (.i k (x / ((2 ^ min y.toNat (Lg k) : Nat) : Int))))):=by
  cases y with
  | ofNat n =>
    have : decide (0 <= Int.ofNat n) = true:=by simp
    rw [this,Gh,<- Int.fdiv_eq_ediv_of_nonneg _ (Int.natCast_nonneg _)]
    rfl
  | negSucc n=>rfl
@[simp] theorem bx_shl (k k' : IntKind) (x y : Int) : DW .shl (.m (.i k x)) (.m (.i k' y)) = gd (decide (0 <= y)) (some (.m (.i k (wr k (x * ((2 ^ min y.toNat (Lg k) : Nat) : Int)))))):=by
  cases y with
  | ofNat n =>
    have : decide (0 <= Int.ofNat n) = true:=by simp
    rw [this,Gh]
    rfl
  | negSucc n=>rfl
theorem RF (k : IntKind) (x y : Int) : DW .and (.m (.i k x)) (.m (.i k y)) = some (.m (.i k (wr k (Int.ofNat (Nat.land (Ek k x) (Ek k y)))))):=by simp [DW,arX,vi]
@[simp] theorem bx_and1 (x : Int) : DW .and (.m (.i .i64 x)) (.m (.i .i64 1)) = some (.m (.i .i64 (x % 2))):=by
  have h1 : Ek .i64 1 = 1:=rfl
  have h2 : Nat.land (Ek .i64 x) 1 = Ek .i64 x % 2:=Nat.and_one_is_mod _
  have h3 : ((Ek .i64 x % 2 : Nat) : Int) = x % 2:=by
    cases x with
    | ofNat m=>simp only [Ek,Kb,Int.ofNat_eq_natCast]; omega
    | negSucc m=>simp only [Ek,Kb]; omega
  rw [RF,h1,h2]
  have h4 : (Int.ofNat (Ek .i64 x % 2)) = x % 2:=h3
  rw [h4,Aa (by omega) (by omega)]
/- Rows of mutable memory. -/
@[simp] theorem Abv (s : St) (a b c : Nat) : AW s (.l (.bxs a b c)) = true:=rfl
@[simp] theorem loud_bxs (c : Bf) (M : Mem) (ty esz n : Nat) (x : V) : Am c M (.bxs ty esz n) [x] = (Au x).bind fun cs=>gd (Nat.beq cs.length (n * esz) && Nat.ble 1 esz && Nat.ble 1 n && Nat.ble n 9223372036854775807) (some (.pt M.H.length n 0 0,{ M with H:=M.H ++ [.cs ty esz (BZ esz n cs) 0 false] })):=rfl
@[simp] theorem loud_als (c : Bf) (M : Mem) (ty esz n : Nat) (z : List V) : Am c M (.als ty esz n z) [] = gd (Nat.beq z.length (n * esz) && Nat.ble 1 esz && Nat.ble 1 n && Nat.ble n 9223372036854775807) (some (.pt M.H.length n 0 0,{ M with H:=M.H ++ [.cs ty esz (BZ esz n z) 0 false] })):=rfl
@[simp] theorem Xz (n esz r ver ix o : Nat) (i : V) : Aq (.ixaA n esz) [.pt r ver ix o,i] = (idx n i).bind fun j=>some (.pt r ver ix (o + j * esz)):=rfl
@[simp] theorem Xs (M : Mem) (n esz r ver : Nat) (lo hi mx : Bool) (vs : List V) : readX M (.slcA n esz lo hi mx) (.pt r ver 0 0 :: vs) = (nth M.H r).bind fun row=>match row with
      | .cs _ esz' es _ _=>gd (Nat.beq esz esz' && Nat.beq es.length n && Nat.beq ver n) ((GS n lo hi mx vs).bind fun p=>some (.sl r ver esz p.1 (p.2 - p.1) (mx || Nat.beq p.2 n)))
      | _=>none:=rfl
@[simp] theorem AaF (M : Mem) (sz r ver ix off : Nat) : readA M sz (.pt r ver ix off) = (nth M.H r).bind fun row=>match row with
    | .cs _ esz es base _=>gd (Nat.ble base ver && (Nat.ble (off + sz) esz || Nat.beq ver es.length)) (Ej esz es ix off sz)
    | _=>none:=rfl
@[simp] theorem nat_ble (a b : Nat) : Nat.ble a b = decide (a <= b):=Bc a b
@[simp] theorem chunk_0 {α : Type} (e : Nat) (l : List α) : BZ e 0 l = []:=rfl
@[simp] theorem chunk_s {α : Type} (e n : Nat) (l : List α) : BZ e (n + 1) l = l.take e :: BZ e n (l.drop e):=rfl
@[simp] theorem NI : ∀ (E : Env) (n : Nat) (x : V),BX (BT E n x) n = some x
  | [],n,x=>by simp
  | (k,y) :: r,n,x=>by
    rw [Ho]
    by_cases h1 : n < k
    · rw [Adu h1]; simp
    · rw [Ads h1]
      by_cases h2 : k = n
      · rw [Adu h2]; simp
      · rw [Ads h2,CA,Ads h2,NI r n x]
@[simp] theorem UD : ∀ (B : List (Nat × List V)) (n : Nat) (x : List V),getB (DT B n x) n = some x
  | [],n,x=>by simp
  | (k,y) :: r,n,x=>by
    rw [Ef]
    by_cases h2 : k = n
    · rw [Adu h2]; simp
    · rw [Ads h2]
      by_cases h3 : n < k
      · rw [Adu h3]; simp
      · rw [Ads h3,Dx,Ads h2,UD r n x]
@[simp] theorem TU : ∀ (B : List (Nat × List V)) (n : Nat) (x y : List V),DT (DT B n x) n y = DT B n y
  | [],n,x,y=>by simp
  | (k,z) :: r,n,x,y=>by
    rw [Ef,Ef]
    by_cases h2 : k = n
    · rw [Adu h2,Adu h2]; simp
    · rw [Ads h2,Ads h2]
      by_cases h3 : n < k
      · rw [Adu h3,Adu h3]; simp
      · rw [Ads h3,Ads h3,Ef,Ads h2,Ads h3,TU r n x y]
@[simp] theorem HI : ∀ (E : Env) (m n : Nat) (x : V),m ≠ n -> BX (BT E m x) n = BX E n
  | [],m,n,x,h=>by simp [h]
  | (k,y) :: r,m,n,x,h=>by
    rw [Ho]
    by_cases h1 : m < k
    · rw [Adu h1,CA,Ads h]
    · rw [Ads h1]
      by_cases h2 : k = m
      · subst h2
        rw [Adu rfl,CA,CA,Ads h,Ads h]
      · rw [Ads h2,CA,CA,HI r m n x h]
@[simp] theorem ZO (l : List V) : DY 0 l = some []:=rfl
@[simp] theorem ZP (n : Nat) (x : V) (r : List V) : DY (n + 1) (x :: r) = (DY n r).bind fun l=>some (x :: l):=by
  unfold DY
  simp only [List.take_succ_cons,AdZ,Ff]
  by_cases h : (r.take n).length = n
  · have : (r.take n).length + 1 = n + 1:=by omega
    simp only [h,decide_true,Gh,Adx]
  · have : ¬ (r.take n).length + 1 = n + 1:=by omega
    simp only [h,this,decide_false,UE,Option.bind_none]
/- The greatest and the least. -/
@[simp] theorem px_mm (mx : Bool) (k : IntKind) (x : Int) (r : List V) : Aq (.mm mx) (.m (.i k x) :: r) = mmX mx k x r:=rfl
@[simp] theorem mmX_nil (mx : Bool) (k : IntKind) (x : Int) : mmX mx k x [] = some (.m (.i k x)):=rfl
theorem XM (x y : Int) : AaY x y = max x y:=by
  unfold AaY
  rw [Fv]
  by_cases h : x < y
  · simp only [h,decide_true]; omega
  · simp only [h,decide_false]; omega
theorem XL (x y : Int) : AaW x y = min x y:=by
  unfold AaW
  rw [Fv]
  by_cases h : y < x
  · simp only [h,decide_true]; omega
  · simp only [h,decide_false]; omega
@[simp] theorem mmX_max (k k' : IntKind) (x y : Int) (r : List V) : mmX true k x (.m (.i k' y) :: r) = mmX true k (max x y) r:=by rw [<- XM]; rfl
@[simp] theorem mmX_min (k k' : IntKind) (x y : Int) (r : List V) : mmX false k x (.m (.i k' y) :: r) = mmX false k (min x y) r:=by rw [<- XL]; rfl
end Go.Mx
/- Walking the machine: rules for rows of mutable memory. -/
namespace Go.Mx
/- Rows of one cell an element. -/
@[simp] theorem loud_mks (c : Bf) (M : Mem) (ty esz : Nat) (z : List V) (b : Nat) (a : V) (n : Int) : Am c M (.mks ty esz z b) [a,.m (.i .i64 n)] = (Aaa n).bind fun c=>(bnd c a).bind fun n=>gd (Nat.ble (c * b) 281474976710656 && Nat.ble c 9223372036854775807 && Nat.ble 1 esz && Nat.beq z.length esz)
      (some (.sl M.H.length n esz 0 n (Nat.beq n c),{ M with H:=M.H ++ [.cs ty esz (List.replicate n z) 0 false] })):=by
  cases n <;> rfl
@[simp] theorem AaV (n : Nat) : Aaa (n : Int) = some n:=rfl
@[simp] theorem readR_10 (es : List (List V)) (ix : Nat) : Ej 1 es ix 0 1 = (nth es ix).bind fun e=>DY 1 e:=rfl
@[simp] theorem ZN (M : Mem) (xs : List V) (r ver ix off : Nat) : Ed M xs (.pt r ver ix off) = (nth M.H r).bind fun row=>match row with
    | .cs ty esz es _ fz=>gd (!fz && Nat.beq ver es.length) ((DS esz es ix off xs).bind fun es'=>(Bk M.H r (.cs ty esz es' es.length false)).bind fun H'=>some { M with H:=H' })
    | _=>none:=rfl
@[simp] theorem Aas (es : List (List V)) (ix : Nat) (x : V) : DS 1 es ix 0 [x] = (nth es ix).bind fun e=>(FZ e 0 [x]).bind fun e'=>Bk es ix e':=rfl
theorem BA {α : Type} : ∀ (l : List α) (n : Nat) (x : α),n < l.length -> Bk l n x = some (l.set n x)
  | [],n,x,h=>by simp at h
  | _ :: r,0,x,h=>rfl
  | y :: r,n + 1,x,h=>by
    simp only [AdZ] at h
    rw [Ph,BA r n x (by omega)]
    rfl
@[simp] theorem Me : ∀ (B : List (Nat × List V)) (m n : Nat) (x : List V),m ≠ n -> getB (DT B m x) n = getB B n
  | [],m,n,x,h=>by simp [h]
  | (k,y) :: r,m,n,x,h=>by
    rw [Ef]
    by_cases h2 : k = m
    · subst h2
      rw [Adu rfl,Dx,Dx,Ads h,Ads h]
    · rw [Ads h2]
      by_cases h3 : m < k
      · rw [Adu h3,Dx,Ads h]
      · rw [Ads h3,Dx,Dx,Me r m n x h]
end Go.Mx
/- Walking the machine: appending to rows of ints. -/
namespace Go.Mx
def Bo (l : List Int) : List (List V):=l.map fun x=>[.m (.i .i64 x)]
def Es (l : List Int) : List (List I):=l.map fun x=>[.i .i64 x]
theorem Fs (l : List Int) : (Bo l).length = l.length:=by simp [Bo]
theorem Cw (l : List Int) : (Es l).length = l.length:=by simp [Es]
theorem Pi (l : List Int) (x : Int) : Bo l ++ [[.m (.i .i64 x)]] = Bo (l ++ [x]):=by simp [Bo]
theorem CP {l : List Int} {i : Nat} {x : Int} (h : l[i]? = some x) : nth (Es l) i = some [.i .i64 x]:=by
  rw [AS]; simp [Es,h]
@[simp] theorem appX_nl (M : Mem) (ty esz b : Nat) (x : List V) (xs : List (List V)) : Ea M ty esz b (.m (.nl 4)) (x :: xs) = Bp M ty esz b (x :: xs):=rfl
@[simp] theorem HC (M : Mem) (ty esz b : Nat) (es : List (List V)) : Bp M ty esz b es = gd (Nat.ble (es.length * b) 140737488355328 && Nat.ble 1 esz && es.all fun e=>Nat.beq e.length esz && e.all Cv)
    (some (.sl M.H.length es.length esz 0 es.length false,{ M with H:=M.H ++ [.cs ty esz es 0 false] })):=rfl
end Go.Mx
/- Walking the machine: induction on a measure; slices that may be nil; tests kept as ifs. Nothing here speaks of a program. -/
namespace Go.Mx
theorem Bi {α : Type} (m : α -> Nat) {P : α -> Prop} (h : ∀ a,(∀ b,m b < m a -> P b) -> P a) : ∀ a,P a:=fun a=>(measure m).wf.induction a h
def IsSl (y : I) (es : List (List I)) : Prop:=y = .sl es \/ (y = .nl 4 /\ es = [])
theorem Ba (es : List (List I)) : IsSl (.sl es) es:=.inl rfl
theorem AC : IsSl (.nl 4) []:=.inr ⟨rfl,rfl⟩
theorem idx_0 (v : V) : idx 0 v = none:=by
  unfold idx
  split
  · rfl
  · rfl
theorem IsSl.len {y : I} {es : List (List I)} (h : IsSl y es) : Aq (.len false) [.m y] = some (.m (.i .i64 es.length)):=by
  rcases h with rfl | ⟨rfl,rfl⟩ <;> rfl
theorem IsSl.ixa {y : I} {es : List (List I)} (h : IsSl y es) (esz : Nat) (i : V) : Aq (.ixa esz) [.m y,i] = (idx es.length i).bind fun j=>(nth es j).bind fun e=>gd (Nat.beq e.length esz) (some (.m (.pt e))):=by
  rcases h with rfl | ⟨rfl,rfl⟩
  · rfl
  · rw [Aeh,idx_0]; rfl
theorem IsSl.elems {y : I} {es : List (List I)} (h : IsSl y es) (H : Hp) : Mx.elems H (.m y) = some (Cn es):=by
  rcases h with rfl | ⟨rfl,rfl⟩ <;> rfl
theorem IsSl.rules {y : I} {es : List (List I)} (h : IsSl y es) : (Aq (.len false) [.m y] = some (.m (.i .i64 es.length))) /\ (∀ (esz : Nat) (i : V),Aq (.ixa esz) [.m y,i] = (idx es.length i).bind fun j=>(nth es j).bind fun e=>gd (Nat.beq e.length esz) (some (.m (.pt e)))) /\ (∀ H,Mx.elems H (.m y) = some (Cn es)):=⟨h.len,h.ixa,h.elems⟩
def subI (y : I) (a b : Nat) : I:=match y with
  | .sl es=>.sl ((es.drop a).take (b - a))
  | z=>z
theorem IsSl.sub {y : I} {es : List (List I)} (h : IsSl y es) (a b : Nat) : IsSl (subI y a b) ((es.drop a).take (b - a)):=by
  rcases h with rfl | ⟨rfl,rfl⟩
  · exact .inl rfl
  · exact .inr ⟨rfl,by simp⟩
theorem IsSl.slc {y : I} {es : List (List I)} (h : IsSl y es) {esz : Nat} (he : QO esz es = true) (h0 : Nat.beq esz 0 = false) (lo hi : Bool) (vs : List V) : Aq (.slc esz lo hi false) (.m y :: vs) = (GS es.length lo hi false vs).bind fun p=>some (.m (subI y p.1 p.2)):=by
  rcases h with rfl | ⟨rfl,rfl⟩
  · show gd (eqB false (Nat.beq esz 0)) (gd (QO esz es) _) = _
    rw [h0,he]
    rfl
  · show gd (eqB false (Nat.beq esz 0)) ((GS 0 lo hi false vs).bind fun _=>some (V.m (.nl 4))) = _
    rw [h0]
    rfl
/- A region's own slots as a stack: what is set last lies ahead. -/
def RD : Env -> Env
  | []=>[]
  | (n,v) :: r=>BT (RD r) n v
theorem IF : ∀ (L : Env) (n : Nat),BX (RD L) n = BX L n
  | [],n=>rfl
  | (k,x) :: r,n=>by
    simp only [RD]
    by_cases h : k = n
    · subst h; rw [NI,CA,Adu rfl]
    · rw [HI _ _ _ _ h,CA,Ads h,IF r n]
theorem QU (d n : Nat) (x : V) (r : Env) (h : BP d ((n,x) :: r) = true) : BP d [(n,x)] = true /\ BP d r = true:=by
  cases x <;> simp_all [BP]
theorem Jq (d n : Nat) (x : V) (r : Env) (h1 : BP d [(n,x)] = true) (h2 : BP d r = true) : BP d ((n,x) :: r) = true:=by
  cases x <;> simp_all [BP]
theorem Kw (d n : Nat) (x : V) (hx : BP d [(n,x)] = true) : ∀ (L : Env),BP d L = true -> BP d (BT L n x) = true
  | [],_=>hx
  | (k,y) :: r,h=>by
    obtain ⟨h1,h2⟩:=QU d k y r h
    rw [Ho]
    by_cases a : n < k
    · rw [Adu a]; exact Jq d n x _ hx h
    · rw [Ads a]
      by_cases b : k = n
      · rw [Adu b]; exact Jq d n x _ hx h2
      · rw [Ads b]; exact Jq d k y _ h1 (Kw d n x hx r h2)
theorem Ga (d : Nat) : ∀ (L : Env),BP d L = true -> BP d (RD L) = true
  | [],_=>rfl
  | (k,x) :: r,h=>by
    obtain ⟨h1,h2⟩:=QU d k x r h
    exact Kw d k x h1 _ (Ga d r h2)
def nf1 (d : Nat) : V -> Bool
  | .fa k _=>!Nat.beq k d
  | _=>true
def nf (d : Nat) : Env -> Bool
  | []=>true
  | (_,x) :: r=>nf1 d x && nf d r
theorem Md (d : Nat) : ∀ (L : Env),nf d L = true -> BP d L = true
  | [],_=>rfl
  | (k,x) :: r,h=>by
    simp only [nf,Adr] at h
    refine Jq d k x r ?_ (Md d r h.2)
    have h1:=h.1
    cases x <;> simp_all [BP,nf1]
@[simp] theorem nf_nil (d : Nat) : nf d [] = true:=by simp only [nf]
@[simp] theorem nf_cons (d n : Nat) (x : V) (r : Env) : nf d ((n,x) :: r) = (nf1 d x && nf d r):=by simp only [nf]
@[simp] theorem nf1_m (d : Nat) (x : I) : nf1 d (.m x) = true:=by simp only [nf1]
@[simp] theorem nf1_fa (d k o : Nat) : nf1 d (.fa k o) = decide (k ≠ d):=by simp only [nf1]; rw [Aec]; simp
@[simp] theorem nf1_tu (d : Nat) (a : List V) : nf1 d (.tu a) = true:=by simp only [nf1]
def cs (s : St) : St:={ s with L:=RD s.L }
theorem HO (s : St) : evA (cs s) = evA s:=by
  funext o
  cases o with
  | v n=>rfl
  | l n=>exact IF s.L n
  | k x=>rfl
theorem Ee (s : St) (g : Option (Opnd × Bool)) : Ay (cs s) g = Ay s g:=by
  cases g with
  | none=>rfl
  | some g=>rw [Hj,Hj,HO]
def Df (s : St) (d : Dst) (x : V) : Option St:=match d with
  | .no=>some s
  | .v n=>gd (Em n x) (some { s with E:=BT s.E n x })
  | .l n=>some { s with L:=(n,x) :: s.L }
theorem DJ (s : St) (d : Dst) (x : V) : (Df s d x).map cs = CV (cs s) d x:=by
  cases d with
  | no=>rfl
  | v n =>
    simp only [Df,CV]
    cases Em n x <;> rfl
  | l n=>rfl
def Az (G : Cfg) (s : Option St) (ops : List Op) (k : K) : Prop:=BO G (s.map cs) ops k
def Ec (G : Cfg) (f : Nat) (vs : Option (List V)) (s : St) (d : Dst) (r : List Op) (k : K) : Prop :=
  CK vs fun vs=>Ret G f vs s.M.H fun v H'=>Az G (Df { s with M:={ s.M with H:=H' } } d v) r k
def GD (G : Cfg) (q : Option Bool) (f : Nat) (az : List Opnd) (s : St) (d : Dst) (r : List Op) (k : K) : Prop:=CK q fun q=>if q then Ec G f (Ah (evA s) az) s d r k else Az G (Df s d .un) r k
def TF (G : Cfg) (g : Option V) (vs : Option (List V)) (s : St) (d : Dst) (r : List Op) (k : K) : Prop:=CK g fun g=>match g with
  | .m (.fn f cap)=>Ec G f (vs.map fun l=>l ++ cap.map .m) s d r k
  | .fn f cap=>Ec G f (vs.map fun l=>l ++ cap) s d r k
  | .yl r0=>Ec G yN (vs.map fun l=>.yl r0 :: l) s d r k
  | _=>False
def MR (G : Cfg) (q : Option Bool) (g : Opnd) (az : List Opnd) (s : St) (d : Dst) (r : List Op) (k : K) : Prop:=CK q fun q=>if q then TF G (evA s g) (Ah (evA s) az) s d r k else Az G (Df s d .un) r k
def Hm (s : St) (o : OP) (az : List Opnd) (d : Dst) : Option St:=(Ah (evA s) az).bind fun vs=>(Aq o vs).bind fun v=>Df s d v
def Hl (s : St) (o : OR) (az : List Opnd) (d : Dst) : Option St:=(Ah (evA s) az).bind fun vs=>(readX s.M o vs).bind fun v=>Df s d v
def Bj (s : St) (o : OL) (az : List Opnd) (d : Dst) : Option St:=(Ah (evA s) az).bind fun vs=>(Am (fun _ _ _=>none) s.M o vs).bind fun p=>Df { s with M:=p.2 } d p.1
theorem Du {α β γ : Type} (x : Option α) (f : α -> Option β) (g : β -> γ) : (x.bind f).map g = x.bind fun a=>(f a).map g:=by cases x <;> rfl
theorem Na (s : St) (o : OP) (az : List Opnd) (d : Dst) : (Hm s o az d).map cs = Ki (cs s) o az d:=by
  simp only [Hm,Ki,Du,DJ,HO]
theorem MZ (s : St) (o : OR) (az : List Opnd) (d : Dst) : (Hl s o az d).map cs = Kh (cs s) o az d:=by
  simp only [Hl,Kh,Du,DJ,HO]
  rfl
theorem Nb (s : St) (o : OL) (az : List Opnd) (d : Dst) (hf : AW s (.l o) = true) : (Bj s o az d).map cs = stepL (cs s) o az d:=by
  have h : AW (cs s) (.l o) = true:=by
    cases o with
    | alp d z=>exact Ga d _ hf
    | bxp d z=>exact Ga d _ hf
    | _=>rfl
  simp only [Bj,stepL,h,Gh,Du,HO]
  congr 1
  funext vs
  show (Am _ s.M o vs).bind _ = (Am _ s.M o vs).bind _
  congr 1
  funext p
  exact DJ { s with M:=p.2 } d p.1
section
variable {G : Cfg}
theorem Uf (ops : List Op) (E : Env) (M : Mem) (k : K) : Run G (.reg ops) ⟨E,[],M⟩ k = Az G (some ⟨E,[],M⟩) ops k:=Nj ops _ k
theorem QI (s : St) (k : K) : Az G (some s) [] k = At' G .nm { s with L:=[] } k:=Nm (cs s) k
theorem Ix (ops : List Op) (k : K) : Az G none ops k = False:=Ko ops k
theorem Uk (b : Bool) (s : Option St) (ops : List Op) (k : K) : Az G (gd b s) ops k = (b = true /\ Az G s ops k):=by
  cases b with
  | true=>simp [gd]
  | false=>simp only [gd,Ix]; simp
theorem Xy (hG : Bt G) (d : Dst) (o : OP) (az : List Opnd) (s : St) (r : List Op) (k : K) : Az G (some s) (⟨d,.p o,az,none⟩ :: r) k = Az G (Hm s o az d) r k:=by
  unfold Az
  rw [Na]
  exact QH hG d o az (cs s) r k
theorem Xx (hG : Bt G) (d : Dst) (o : OR) (az : List Opnd) (s : St) (r : List Op) (k : K) : Az G (some s) (⟨d,.r o,az,none⟩ :: r) k = Az G (Hl s o az d) r k:=by
  unfold Az
  rw [MZ]
  exact QG hG d o az (cs s) r k
theorem Ui (hG : Bt G) (d : Dst) (o : OP) (az : List Opnd) (g : Opnd) (want : Bool) (s : St) (r : List Op) (k : K) :
    Az G (some s) (⟨d,.p o,az,some (g,want)⟩ :: r) k = Az G (BB (Ay s (some (g,want))) (Hm s o az d) (Df s d .un)) r k:=by
  unfold Az
  have : ∀ q a b,(BB q a b).map cs = BB q (a.map cs) (b.map cs):=fun q a b=>by
    unfold BB
    rw [Du]
    congr 1
    funext q
    cases q <;> rfl
  rw [this,Na,DJ,<- Ee]
  exact Gv hG d o az g want (cs s) r k
theorem Uh (hG : Bt G) (d : Dst) (o : OR) (az : List Opnd) (g : Opnd) (want : Bool) (s : St) (r : List Op) (k : K) :
    Az G (some s) (⟨d,.r o,az,some (g,want)⟩ :: r) k = Az G (BB (Ay s (some (g,want))) (Hl s o az d) (Df s d .un)) r k:=by
  unfold Az
  have : ∀ q a b,(BB q a b).map cs = BB q (a.map cs) (b.map cs):=fun q a b=>by
    unfold BB
    rw [Du]
    congr 1
    funext q
    cases q <;> rfl
  rw [this,MZ,DJ,<- Ee]
  exact Gu hG d o az g want (cs s) r k
theorem FD (f : Nat) (vs : Option (List V)) (s : St) (d : Dst) (r : List Op) (k : K) : In G f vs (cs s) d r k = Ec G f vs s d r k:=by
  unfold In Ec Az
  congr 1
  funext vs
  congr 1
  funext v H'
  rw [DJ]
  rfl
theorem Pm (hG : Bt G) (d : Dst) (f : Nat) (az : List Opnd) (s : St) (r : List Op) (k : K) : Az G (some s) (⟨d,.l (.cal f),az,none⟩ :: r) k = Ec G f (Ah (evA s) az) s d r k:=by
  rw [<- FD,<- HO]
  exact Hu hG d f az (cs s) r k
theorem LZ (hG : Bt G) (d : Dst) (f : Nat) (az : List Opnd) (g : Opnd) (want : Bool) (s : St) (r : List Op) (k : K) :
    Az G (some s) (⟨d,.l (.cal f),az,some (g,want)⟩ :: r) k = GD G (Ay s (some (g,want))) f az s d r k:=by
  have h:=Ei hG d f az g want (cs s) r k
  have e : Ka G (Ay (cs s) (some (g,want))) f az (cs s) d r k = GD G (Ay s (some (g,want))) f az s d r k:=by
    unfold Ka GD
    rw [Ee,HO]
    congr 1
    funext q
    cases q with
    | true=>simp [FD]
    | false=>unfold Az; simp [DJ]
  exact h.trans e
theorem LY (hG : Bt G) (d : Dst) (o : OL) (az : List Opnd) (s : St) (r : List Op) (k : K) (h1 : ∀ f,o ≠ .cal f) (h2 : o ≠ .cav) (hf : AW s (.l o) = true) : Az G (some s) (⟨d,.l o,az,none⟩ :: r) k = Az G (Bj s o az d) r k:=by
  unfold Az
  rw [Nb s o az d hf]
  exact HE hG d o az (cs s) r k fun c vs=>Ju h1 h2 c _ vs
theorem Uj (hG : Bt G) (d : Dst) (o : OL) (az : List Opnd) (g : Opnd) (want : Bool) (s : St) (r : List Op) (k : K) (h1 : ∀ f,o ≠ .cal f) (h2 : o ≠ .cav) (hf : AW s (.l o) = true) :
    Az G (some s) (⟨d,.l o,az,some (g,want)⟩ :: r) k = Az G (BB (Ay s (some (g,want))) (Bj s o az d) (Df s d .un)) r k:=by
  unfold Az
  have : ∀ q a b,(BB q a b).map cs = BB q (a.map cs) (b.map cs):=fun q a b=>by
    unfold BB
    rw [Du]
    congr 1
    funext q
    cases q <;> rfl
  rw [this,Nb s o az d hf,DJ,<- Ee]
  have h:=Dq hG d (.l o) az g want (cs s) r k
  refine h.trans ?_
  cases hq : Ay (cs s) (some (g,want)) with
  | none=>simp [BB]
  | some q =>
    cases q with
    | true=>simp [BB,HE hG d o az (cs s) r k fun c vs=>Ju h1 h2 c _ vs]
    | false=>simp [BB]
theorem Kp (hG : Bt G) (d : Dst) (g : Opnd) (az : List Opnd) (s : St) (r : List Op) (k : K) : Az G (some s) (⟨d,.l .cav,g :: az,none⟩ :: r) k = TF G (evA s g) (Ah (evA s) az) s d r k:=by
  have h:=VZ hG d g az (cs s) r k
  refine h.trans ?_
  rw [HO]
  unfold CavK TF
  congr 1
  funext gv
  cases gv with
  | m x=>cases x <;> simp [FD]
  | fn f cap=>simp [FD]
  | yl r0=>simp [FD]
  | _=>rfl
theorem Pl (hG : Bt G) (d : Dst) (g : Opnd) (az : List Opnd) (gg : Opnd) (want : Bool) (s : St) (r : List Op) (k : K) : Az G (some s) (⟨d,.l .cav,g :: az,some (gg,want)⟩ :: r) k = MR G (Ay s (some (gg,want))) g az s d r k:=by
  have h:=Dq hG d (.l .cav) (g :: az) gg want (cs s) r k
  refine h.trans ?_
  unfold MR
  rw [Ee]
  congr 1
  funext q
  cases q with
  | true =>
    rw [Adu rfl,Adu rfl]
    exact Kp hG d g az s r k
  | false=>unfold Az; simp [DJ]
theorem UT (hG : Bt G) {f : Nat} {vs : List V} {s : St} {d : Dst} {r : List Op} {k : K} {v : V} {H' : Hp} (h : Gives G f vs s.M.H v H') : Ec G f (some vs) s d r k = Az G (Df { s with M:={ s.M with H:=H' } } d v) r k:=by
  unfold Ec
  rw [AX,AaE hG h]
theorem As (f : Nat) (vs : List V) (s : St) (d : Dst) (r : List Op) (k : K) : Ec G f (some vs) s d r k = Ret G f vs s.M.H fun v H'=>Az G (Df { s with M:={ s.M with H:=H' } } d v) r k:=by simp [Ec,AX]
@[simp] theorem cavC_m (f : Nat) (cap : List I) (vs : List V) (s : St) (d : Dst) (r : List Op) (k : K) : TF G (some (.m (.fn f cap))) (some vs) s d r k = Ec G f (some (vs ++ cap.map .m)) s d r k:=by simp [TF]
@[simp] theorem cavC_f (f : Nat) (cap vs : List V) (s : St) (d : Dst) (r : List Op) (k : K) : TF G (some (.fn f cap)) (some vs) s d r k = Ec G f (some (vs ++ cap)) s d r k:=by simp [TF]
end
attribute [simp] QI Ix Uk
@[simp] theorem Aax (s : St) (o : OP) (az : List Opnd) (d : Dst) : Hm s o az d = (Ah (evA s) az).bind fun vs=>(Aq o vs).bind fun v=>Df s d v:=rfl
@[simp] theorem Aaw (s : St) (o : OR) (az : List Opnd) (d : Dst) : Hl s o az d = (Ah (evA s) az).bind fun vs=>(readX s.M o vs).bind fun v=>Df s d v:=rfl
@[simp] theorem Aay (s : St) (o : OL) (az : List Opnd) (d : Dst) : Bj s o az d = (Ah (evA s) az).bind fun vs=>(Am (fun _ _ _=>none) s.M o vs).bind fun p=>Df { s with M:=p.2 } d p.1:=rfl
@[simp] theorem setC_no (s : St) (x : V) : Df s .no x = some s:=rfl
@[simp] theorem setC_l (s : St) (n : Nat) (x : V) : Df s (.l n) x = some { s with L:=(n,x) :: s.L }:=rfl
@[simp] theorem setC_vm (s : St) (n : Nat) (x : I) : Df s (.v n) (.m x) = some { s with E:=BT s.E n (.m x) }:=rfl
@[simp] theorem setC_vun (s : St) (n : Nat) : Df s (.v n) .un = some { s with E:=BT s.E n .un }:=rfl
@[simp] theorem setC_vls (s : St) (n : Nat) (x : List (List I)) : Df s (.v n) (.ls x) = some { s with E:=BT s.E n (.ls x) }:=rfl
@[simp] theorem setC_vsl (s : St) (n a b c d e : Nat) (f : Bool) : Df s (.v n) (.sl a b c d e f) = some { s with E:=BT s.E n (.sl a b c d e f) }:=rfl
@[simp] theorem setC_vpt (s : St) (n a b c d : Nat) : Df s (.v n) (.pt a b c d) = some { s with E:=BT s.E n (.pt a b c d) }:=rfl
@[simp] theorem setC_vmp (s : St) (n a : Nat) : Df s (.v n) (.mp a) = some { s with E:=BT s.E n (.mp a) }:=rfl
@[simp] theorem setC_vtu (s : St) (n : Nat) (a : List V) : Df s (.v n) (.tu a) = some { s with E:=BT s.E n (.tu a) }:=rfl
@[simp] theorem setC_vag (s : St) (n : Nat) (a : List V) : Df s (.v n) (.ag a) = some { s with E:=BT s.E n (.ag a) }:=rfl
@[simp] theorem setC_vfn (s : St) (n f : Nat) (a : List V) : Df s (.v n) (.fn f a) = some { s with E:=BT s.E n (.fn f a) }:=rfl
@[simp] theorem setC_vfa (s : St) (n : Nat) : Df s (.v n) (.fa n 0) = some { s with E:=BT s.E n (.fa n 0) }:=by simp [Df,Em,gd]
/- simp looks at the state alone, not at the code that is still to come. -/
def cnd (b : Bool) (p q : Prop) : Prop:=match b with
  | true=>p
  | false=>q
@[simp] theorem cnd_true (p q : Prop) : cnd true p q = p:=rfl
theorem Rx {b c : Bool} {p q : Prop} (h : b = c) : cnd b p q = cnd c p q:=by rw [h]
theorem Wi {b : Bool} {p q : Prop} (h : b = true -> q = p) : q = cnd b p q:=by
  cases b with
  | true=>exact h rfl
  | false=>rfl
theorem Ma {G : Cfg} {s t : Option St} {r : List Op} {k : K} (h : s = t) : Az G s r k = Az G t r k:=by rw [h]
theorem Pd {G : Cfg} {x y : Option Bool} {a b : C} {s : St} {k : K} (h : x = y) : WI G x a b s k = WI G y a b s k:=by rw [h]
theorem Mr {G : Cfg} {f : Nat} {x y : Option (List V)} {s : St} {d : Dst} {r : List Op} {k : K} (h : x = y) : Ec G f x s d r k = Ec G f y s d r k:=by rw [h]
theorem Px {G : Cfg} {g g' : Option V} {x y : Option (List V)} {s : St} {d : Dst} {r : List Op} {k : K} (h0 : g = g') (h : x = y) : TF G g x s d r k = TF G g' y s d r k:=by rw [h0,h]
theorem KN {G : Cfg} {x y : Option Bool} {f : Nat} {az : List Opnd} {s : St} {d : Dst} {r : List Op} {k : K} (h : x = y) : GD G x f az s d r k = GD G y f az s d r k:=by rw [h]
theorem Mf {G : Cfg} {x y : Option Bool} {g : Opnd} {az : List Opnd} {s : St} {d : Dst} {r : List Op} {k : K} (h : x = y) : MR G x g az s d r k = MR G y g az s d r k:=by rw [h]
theorem QE {G : Cfg} {c : C} {s t : St} {k : K} (h : s = t) : Run G c s k = Run G c t k:=by rw [h]
theorem UV {G : Cfg} {e : Ex} {s t : St} {k : K} (h : s = t) : At' G e s k = At' G e t k:=by rw [h]
theorem Abo {n : Nat} {k : IntKind} {x : Int} (h1 : 0 <= x) (h2 : x < n) : idx n (.m (.i k x)) = some x.toNat:=by rw [Abp]; simp [h1,h2]
theorem AbR {n : Nat} {k : IntKind} {x : Int} (h1 : 0 <= x) (h2 : x <= n) : bnd n (.m (.i k x)) = some x.toNat:=by rw [AbS]; simp [h1,h2]
theorem Pz {x y : List Nat} (h : x.length + y.length <= 9223372036854775807) : DW .add (.m (.s x)) (.m (.s y)) = some (.m (.s (x ++ y))):=by rw [Yk]; simp [h]
attribute [simp high] Abo AbR Pz
theorem Ai (G : Cfg) (t : Bool) (a b : C) (s : St) (k : K) : WI G (some t) a b s k = ((t = true -> Run G a s k) /\ (t = false -> Run G b s k)):=by cases t <;> simp
theorem Aj (G : Cfg) (c : Bool) (a b : Option St) (r : List Op) (k : K) : Az G (BB (some c) a b) r k = ((c = true -> Az G a r k) /\ (c = false -> Az G b r k)):=by cases c <;> simp
theorem Ad (G : Cfg) (c : Bool) (f : Nat) (az : List Opnd) (s : St) (d : Dst) (r : List Op) (k : K) : GD G (some c) f az s d r k = ((c = true -> Ec G f (Ah (evA s) az) s d r k) /\ (c = false -> Az G (Df s d .un) r k)):=by cases c <;> simp [GD]
theorem Ak (G : Cfg) (c : Bool) (g : Opnd) (az : List Opnd) (s : St) (d : Dst) (r : List Op) (k : K) : MR G (some c) g az s d r k = ((c = true -> TF G (evA s g) (Ah (evA s) az) s d r k) /\ (c = false -> Az G (Df s d .un) r k)):=by cases c <;> simp [MR]
theorem Al {α : Type} {p : List α} {i : Nat} {c : α} (h : p[i]? = some c) : i < p.length /\ p.drop i = c :: p.drop (i + 1):=by
  have h1 : i < p.length:=(Adq.1 h).1
  exact ⟨h1,by rw [List.drop_eq_getElem_cons h1,(Adq.1 h).2]⟩
theorem Ao {α : Type} {p : List α} {i : Nat} {c : α} (h : p[i]? = some c) : p.take (i + 1) = p.take i ++ [c]:=by
  rw [List.take_add_one,h]; rfl
end Go.Mx
/- Walking: guards decided by arithmetic. Nothing here speaks of a program. -/
namespace Go.Mx
theorem Ac {α : Type} {p : Prop} [Decidable p] (h : p) (x : Option α) : gd (decide p) x = x:=by rw [AdA h]; rfl
theorem Ab {α : Type} (a b : Bool) (x : Option α) : gd (a && b) x = gd a (gd b x):=by cases a <;> rfl
end Go.Mx
/- Loops over functions. Nothing here speaks of a program. -/
namespace Go.Mx
section
variable {G : Cfg}
@[simp] theorem noFaV_yl (r : Nat) : AA (.yl r) = true:=rfl
@[simp] theorem AbK (r : Nat) : Au (.yl r) = some [.yl r]:=rfl
@[simp] theorem oneV_yl (r : Nat) : Cv (.yl r) = true:=rfl
@[simp] theorem setD_vyl (s : St) (n r : Nat) : CV s (.v n) (.yl r) = some { s with E:=BT s.E n (.yl r) }:=rfl
@[simp] theorem AaG (r : Nat) : Aq .nck [.yl r] = some (.yl r):=rfl
@[simp] theorem noFa_yl (d n k : Nat) (r : Env) : BP d ((n,.yl k) :: r) = BP d r:=rfl
@[simp] theorem allM_yl (k : Nat) (r : List V) : Co (.yl k :: r) = none:=rfl
@[simp] theorem cavF_fn (f : Nat) (cap : List V) : Yh (.fn f cap) = some (f,cap):=rfl
@[simp] theorem cavF_m (f : Nat) (cap : List I) : Yh (.m (.fn f cap)) = some (f,cap.map .m):=rfl
@[simp] theorem Abh : EP [] = []:=rfl
@[simp] theorem Aab (n : Nat) (x : V) (r : Env) : EP ((n,x) :: r) = match AA x with
    | true=>(n,x) :: EP r
    | false=>rmE (EP r) n:=rfl
@[simp] theorem ZR (e : Env) : Fo e [] [] = e:=rfl
@[simp] theorem Xr (e : Env) (p : Nat) (ps : List Nat) (x : V) (xs : List V) : Fo e (p :: ps) (x :: xs) = Fo (BT e p x) ps xs:=rfl
def RngG (G : Cfg) (fv : Option V) (dr ps : List Nat) (ca cb : C) (s : St) (k : K) : Prop:=CK (fv.bind Yh) fun gc =>
  Ret G gc.1 (.yl s.M.H.length :: gc.2) (s.M.H ++ [.lp 0 none (EP (Aw dr s.E)) ps ca cb]) fun _ H'=>CK (UM s.M.H.length H') fun q=>At' G q.1 { s with M:={ s.M with H:=q.2 } } k
theorem Xu (hG : Bt G) (f : Opnd) (dr ps : List Nat) (ca cb : C) (s : St) (k : K) : Run G (.rng f dr ps ca cb) s k = RngG G (evA s f) dr ps ca cb s k:=by
  apply propext
  simp only [Run,Runs,RngG,CK,evC,Adn,Ret,At',Ado,Adp]
  constructor
  · rintro ⟨n,e,s',⟨fv,hfv,gc,hgc,⟨v,H'⟩,hc,q,hq,rfl,rfl⟩,h⟩
    exact ⟨gc,⟨fv,hfv,hgc⟩,n,v,H',hc,q,hq,h⟩
  · rintro ⟨gc,⟨fv,hfv,hgc⟩,n,v,H',hc,q,hq,h⟩
    exact ⟨n,q.1,_,⟨fv,hfv,gc,hgc,(v,H'),hc,q,hq,rfl,rfl⟩,h⟩
end
end Go.Mx
