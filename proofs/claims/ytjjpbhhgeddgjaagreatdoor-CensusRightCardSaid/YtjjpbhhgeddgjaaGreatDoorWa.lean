/- Walking the machine. Nothing here speaks of a program. -/
import Derived.Test.YtjjpbhhgeddgjaaGreatDoorMach
import Derived.Test.YtjjpbhhgeddgjaaGreatDoorBa
set_option linter.unusedSimpArgs false
set_option linter.unusedVariables false
set_option linter.unusedSectionVars false
/- Walking the machine: what a piece of code comes to, whatever the fuel. Nothing here speaks of a program. -/
namespace Go.Mx
/- More fuel gives the same. -/
def LeC (c d : Ba) : Prop:=∀ f vs H r,c f vs H = some r -> d f vs H = some r
theorem Aw {α β : Type} {x y : Option α} {f g : α -> Option β} {r : β} (hx : ∀ a,x = some a -> y = some a) (hf : ∀ a r,f a = some r -> g a = some r) (h : x.bind f = some r) : y.bind g = some r:=by
  simp only [AcL] at h ⊢
  obtain ⟨a,h1,h2⟩:=h
  exact ⟨a,hx a h1,hf a r h2⟩
theorem SW {c d : Ba} (h : LeC c d) {M : Mem} {o : O} {vs : List V} {r : V × Mem} (he : evO c M o vs = some r) : evO d M o vs = some r:=by
  cases o with
  | p o=>exact he
  | r o=>exact he
  | l o =>
    simp only [evO] at he ⊢
    cases o with
    | cal f =>
      simp only [Af] at he ⊢
      exact Aw (fun a=>h f vs M.H a) (fun _ _ h=>h) he
    | cav =>
      match vs,he with
      | .fn f cap :: xs,he=>simp only [Af] at he ⊢; exact Aw (fun a=>h f _ M.H a) (fun _ _ h=>h) he
      | .m (.fn f cap) :: xs,he=>simp only [Af] at he ⊢; exact Aw (fun a=>h f _ M.H a) (fun _ _ h=>h) he
      | .yl r :: xs,he=>simp only [Af] at he ⊢; exact Aw (fun a=>h yN _ M.H a) (fun _ _ h=>h) he
      | .m (.b _) :: xs,he=>simp [Af] at he
      | .m (.i _ _) :: xs,he=>simp [Af] at he
      | .m (.s _) :: xs,he=>simp [Af] at he
      | .m (.nl _) :: xs,he=>simp [Af] at he
      | .m .er :: xs,he=>simp [Af] at he
      | .m (.sl _) :: xs,he=>simp [Af] at he
      | .m (.pt _) :: xs,he=>simp [Af] at he
      | .m (.ag _) :: xs,he=>simp [Af] at he
      | .m (.mp _) :: xs,he=>simp [Af] at he
      | .un :: xs,he=>simp [Af] at he
      | .ls _ :: xs,he=>simp [Af] at he
      | .sl .. :: xs,he=>simp [Af] at he
      | .pt .. :: xs,he=>simp [Af] at he
      | .fa .. :: xs,he=>simp [Af] at he
      | .mp _ :: xs,he=>simp [Af] at he
      | .ag _ :: xs,he=>simp [Af] at he
      | .tu _ :: xs,he=>simp [Af] at he
      | [],he=>simp [Af] at he
    | _ =>
      match vs,he with
      | [],he=>exact he
      | [_],he=>exact he
      | [_,_],he=>exact he
      | [_,_,_],he=>exact he
      | _ :: _ :: _ :: _ :: _,he=>exact he
theorem Kf {c d : Ba} (h : LeC c d) {s s' : St} {o : Op} (he : Dp c s o = some s') : Dp d s o = some s':=by
  simp only [Dp,AcL] at he ⊢
  obtain ⟨q,hq,he⟩:=he
  refine ⟨q,hq,?_⟩
  cases q with
  | true =>
    simp only at he ⊢
    cases hf : AN s o.op with
    | false=>rw [hf] at he; simp [gd] at he
    | true =>
      rw [hf] at he
      simp only [gd,AcL] at he ⊢
      obtain ⟨vs,hvs,p,hp,hs⟩:=he
      exact ⟨vs,hvs,p,SW h hp,hs⟩
  | false=>exact he
theorem FB {c d : Ba} (h : LeC c d) : ∀ {ops : List Op} {s s' : St},BE c ops s = some s' -> BE d ops s = some s'
  | [],_,_,he=>he
  | o :: r,s,s',he=>by
    simp only [BE] at he ⊢
    exact Aw (fun a=>Kf h) (fun a r=>FB h) he
theorem Eb {f g : St -> Option (Ex × St)} (h : ∀ s r,f s = some r -> g s = some r) : ∀ {n m : Nat} {s : St} {r : Ex × St},n <= m -> Eo f n s = some r -> Eo g m s = some r
  | 0,m,s,r,_,he=>by simp [Eo] at he
  | n + 1,0,s,r,hn,_=>by omega
  | n + 1,m + 1,s,r,hn,he=>by
    simp only [Eo] at he ⊢
    refine Aw (fun a=>h s a) (fun a r ha=>?_) he
    obtain ⟨e,t⟩:=a
    cases e with
    | nm=>exact Eb h (by omega) ha
    | _=>exact ha
theorem Co {c d : Ba} (h : LeC c d) {n m : Nat} (hn : n <= m) : ∀ {k : C} {s : St} {r : Ex × St},evC c n k s = some r -> evC d m k s = some r:=by
  intro k
  induction k with
  | skip=>exact fun h=>h
  | reg ops =>
    intro s r he
    simp only [evC] at he ⊢
    exact Aw (fun a=>FB h) (fun _ _ h=>h) he
  | seq a b iha ihb =>
    intro s r he
    simp only [evC] at he ⊢
    refine Aw (fun x=>iha) (fun x r hx=>?_) he
    obtain ⟨e,t⟩:=x
    cases e with
    | nm=>exact ihb hx
    | _=>exact hx
  | ite c a b iha ihb =>
    intro s r he
    simp only [evC] at he ⊢
    refine Aw (fun _ h=>h) (fun x r hx=>?_) he
    split at hx
    · exact iha hx
    · exact ihb hx
    · cases hx
  | blk id c ih =>
    intro s r he
    simp only [evC] at he ⊢
    exact Aw (fun x=>ih) (fun _ _ h=>h) he
  | loop dr c ih =>
    intro s r he
    simp only [evC] at he ⊢
    exact Eb (fun t r=>ih) hn he
  | rng f dr ps ca cb _ _ =>
    intro s r he
    simp only [evC] at he ⊢
    exact Aw (fun _ h=>h) (fun _ _=>Aw (fun _ h=>h) (fun gc _=>Aw (fun a=>h gc.1 _ _ a) (fun _ _ h=>h))) he
  | ex id=>exact fun h=>h
  | ret=>exact fun h=>h
theorem Eh {c d : Ba} (h : LeC c d) {n m : Nat} (hn : n <= m) {f : F} {vs : List V} {H : Hp} {r : V × Hp} (he : evF c n f vs H = some r) : evF d m f vs H = some r:=by
  unfold evF at he ⊢
  cases hg : (vs.all Av && Nat.beq vs.length f.np) with
  | false=>rw [hg] at he; simp [gd] at he
  | true =>
    rw [hg] at he
    exact Aw (fun a=>Co h hn) (fun _ _ h=>h) he
theorem On {c d : Ba} (h : LeC c d) {n m : Nat} (hn : n <= m) {f : F} {vs : List V} {H : Hp} {r : V × Hp} (he : DA c n f vs H = some r) : DA d m f vs H = some r:=by
  unfold DA at he ⊢
  exact Aw (fun _ h=>h) (fun a r=>Aw (fun b=>Eh h hn) (fun _ _ h=>h)) he
theorem EB {c d : Ba} (h : LeC c d) {n m : Nat} (hn : n <= m) {vs : List V} {H : Hp} {r : V × Hp} (he : Dx c n vs H = some r) : Dx d m vs H = some r:=by
  unfold Dx at he ⊢
  split at he
  · refine Aw (fun _ h=>h) (fun row r he=>?_) he
    split at he
    · simp only [Ab] at he ⊢
      refine ⟨he.1,Aw (fun a=>Co h hn) (fun p r he=>?_) he.2⟩
      split at he
      · exact Aw (fun _ h=>h) (fun _ _=>Aw (fun a=>Co h hn) (fun _ _ h=>h)) he
      · cases he
    · cases he
  · cases he
def Bp (G : Cfg) : Prop:=∀ f p,G.prim f = some p -> ∀ c d,LeC c d -> ∀ vs H r,p c vs H = some r -> p d vs H = some r
theorem AP {G : Cfg} (hG : Bp G) : ∀ {n m : Nat},n <= m -> LeC (Bg G n) (Bg G m)
  | 0,_,_,f,vs,H,r,h=>by simp [Bg] at h
  | n + 1,0,hn,_,_,_,_,_=>by omega
  | n + 1,m + 1,hn,f,vs,H,r,h=>by
    have ih:=AP hG (n:=n) (m:=m) (by omega)
    unfold Bg at h ⊢
    split at h
    · rename_i p hp
      exact hG f p hp _ _ ih vs H r h
    · split at h
      · split at h
        · exact Eh ih (by omega) h
        · exact On ih (by omega) h
      · simp only [Ab] at h ⊢
        exact ⟨h.1,EB ih (by omega) h.2⟩
/- Running, whatever the fuel. -/
def Ck {α : Type} (x : Option α) (p : α -> Prop) : Prop:=∃ a,x = some a /\ p a
theorem AO {α : Type} (a : α) (p : α -> Prop) : Ck (some a) p = p a:=by simp [Ck]
theorem KS {α : Type} (b : Bool) (x : Option α) (p : α -> Prop) : Ck (gd b x) p = (b = true /\ Ck x p):=by cases b <;> simp [Ck,gd]
theorem CZ {α β : Type} (x : Option α) (f : α -> Option β) (p : β -> Prop) : Ck (x.bind f) p = Ck x fun a=>Ck (f a) p:=by
  apply propext
  simp only [Ck,AcL]
  constructor
  · rintro ⟨b,⟨a,h1,h2⟩,h3⟩
    exact ⟨a,h1,b,h2,h3⟩
  · rintro ⟨a,h1,b,h2,h3⟩
    exact ⟨b,⟨a,h1,h2⟩,h3⟩
def Runs (G : Cfg) (c : C) (s : St) (Q : Ex -> St -> Prop) : Prop:=∃ n e s',evC (Bg G n) n c s = some (e,s') /\ Q e s'
def FT (G : Cfg) (ops : List Op) (s : St) (Q : St -> Prop) : Prop:=∃ n s',BE (Bg G n) ops s = some s' /\ Q s'
def Gd (G : Cfg) (o : Op) (s : St) (Q : St -> Prop) : Prop:=∃ n s',Dp (Bg G n) s o = some s' /\ Q s'
def Ret (G : Cfg) (f : Nat) (vs : List V) (H : Hp) (Q : V -> Hp -> Prop) : Prop:=∃ n v H',Bg G n f vs H = some (v,H') /\ Q v H'
def Gives (G : Cfg) (f : Nat) (vs : List V) (H : Hp) (v : V) (H' : Hp) : Prop:=∃ n,Bg G n f vs H = some (v,H')
def thn (A : St -> Prop) (Q : Ex -> St -> Prop) : Ex -> St -> Prop
  | .nm,s=>A s
  | e,s=>Q e s
def inB (id : Nat) (Q : Ex -> St -> Prop) : Ex -> St -> Prop
  | .ex j,s=>(j = id -> Q .nm s) /\ (j ≠ id -> Q (.ex j) s)
  | e,s=>Q e s
theorem ZK (id : Nat) (Q : Ex -> St -> Prop) (s : St) (j : Nat) : inB id Q (.ex j) s = if j = id then Q .nm s else Q (.ex j) s:=by
  apply propext
  by_cases h : j = id <;> simp [inB,h]
section
variable {G : Cfg}
theorem Runs.mono {c : C} {s : St} {Q Q' : Ex -> St -> Prop} (h : Runs G c s Q) (hq : ∀ e s,Q e s -> Q' e s) : Runs G c s Q':=by
  obtain ⟨n,e,s',h1,h2⟩:=h
  exact ⟨n,e,s',h1,hq e s' h2⟩
theorem Pr (s : St) (Q : Ex -> St -> Prop) : Runs G .skip s Q = Q .nm s:=by
  apply propext
  simp only [Runs,evC,AcM,AcN]
  constructor
  · rintro ⟨_,_,_,⟨rfl,rfl⟩,h⟩
    exact h
  · exact fun h=>⟨0,_,_,⟨rfl,rfl⟩,h⟩
theorem Vr (id : Nat) (s : St) (Q : Ex -> St -> Prop) : Runs G (.ex id) s Q = Q (.ex id) s:=by
  apply propext
  simp only [Runs,evC,AcM,AcN]
  constructor
  · rintro ⟨_,_,_,⟨rfl,rfl⟩,h⟩
    exact h
  · exact fun h=>⟨0,_,_,⟨rfl,rfl⟩,h⟩
theorem Sh (s : St) (Q : Ex -> St -> Prop) : Runs G .ret s Q = Q .ret s:=by
  apply propext
  simp only [Runs,evC,AcM,AcN]
  constructor
  · rintro ⟨_,_,_,⟨rfl,rfl⟩,h⟩
    exact h
  · exact fun h=>⟨0,_,_,⟨rfl,rfl⟩,h⟩
theorem Si (ops : List Op) (s : St) (Q : Ex -> St -> Prop) : Runs G (.reg ops) s Q = FT G ops s fun s'=>Q .nm { s' with L:=[] }:=by
  apply propext
  simp only [Runs,FT,evC,AcL,AcM,AcN]
  constructor
  · rintro ⟨n,_,_,⟨s',h,rfl,rfl⟩,hq⟩
    exact ⟨n,s',h,hq⟩
  · rintro ⟨n,s',h,hq⟩
    exact ⟨n,_,_,⟨s',h,rfl,rfl⟩,hq⟩
theorem Sg (hG : Bp G) (a b : C) (s : St) (Q : Ex -> St -> Prop) : Runs G (.seq a b) s Q = Runs G a s (thn (fun s'=>Runs G b s' Q) Q):=by
  apply propext
  constructor
  · rintro ⟨n,e,s',h,hq⟩
    simp only [evC,AcL] at h
    obtain ⟨⟨e1,s1⟩,h1,h2⟩:=h
    refine ⟨n,e1,s1,h1,?_⟩
    cases e1 with
    | nm=>exact ⟨n,e,s',h2,hq⟩
    | _ =>
      simp only [AcM,AcN] at h2
      obtain ⟨rfl,rfl⟩:=h2
      exact hq
  · rintro ⟨n,e1,s1,h1,h2⟩
    cases e1 with
    | nm =>
      obtain ⟨m,e,s',h3,hq⟩:=h2
      refine ⟨max n m,e,s',?_,hq⟩
      simp only [evC,AcL]
      exact ⟨_,Co (AP hG (Nat.le_max_left n m)) (Nat.le_max_left n m) h1,Co (AP hG (Nat.le_max_right n m)) (Nat.le_max_right n m) h3⟩
    | ex j=>exact ⟨n,.ex j,s1,by simp [evC,h1],h2⟩
    | ret=>exact ⟨n,.ret,s1,by simp [evC,h1],h2⟩
def asB : V -> Option Bool
  | .m (.b t)=>some t
  | _=>none
theorem Sj (o : Opnd) (a b : C) (s : St) (Q : Ex -> St -> Prop) : Runs G (.ite o a b) s Q = Ck ((evA s o).bind asB) fun t=>if t then Runs G a s Q else Runs G b s Q:=by
  apply propext
  constructor
  · rintro ⟨n,e,s',h,hq⟩
    simp only [evC,AcL] at h
    obtain ⟨v,hv,h⟩:=h
    split at h
    · exact ⟨true,by simp [hv,asB],n,e,s',h,hq⟩
    · exact ⟨false,by simp [hv,asB],n,e,s',h,hq⟩
    · cases h
  · rintro ⟨t,ht,h⟩
    simp only [AcL] at ht
    obtain ⟨v,hv,ht⟩:=ht
    have : v = .m (.b t):=by
      unfold asB at ht
      split at ht
      · rw [AcM] at ht; rw [ht]
      · cases ht
    subst this
    cases t with
    | true =>
      obtain ⟨n,e,s',h,hq⟩:=h
      exact ⟨n,e,s',by simp [evC,hv,h],hq⟩
    | false =>
      obtain ⟨n,e,s',h,hq⟩:=h
      exact ⟨n,e,s',by simp [evC,hv,h],hq⟩
theorem Sk (id : Nat) (c : C) (s : St) (Q : Ex -> St -> Prop) : Runs G (.blk id c) s Q = Runs G c s (inB id Q):=by
  apply propext
  constructor
  · rintro ⟨n,e,s',h,hq⟩
    simp only [evC,AcL] at h
    obtain ⟨⟨e1,s1⟩,h1,h2⟩:=h
    refine ⟨n,e1,s1,h1,?_⟩
    cases e1 with
    | ex j =>
      simp only at h2
      split at h2
      · rename_i hb
        have:=AcW hb
        simp only [AcM,AcN] at h2
        obtain ⟨rfl,rfl⟩:=h2
        exact ⟨fun _=>hq,fun hne=>absurd this hne⟩
      · rename_i hb
        simp only [AcM,AcN] at h2
        obtain ⟨rfl,rfl⟩:=h2
        exact ⟨fun e=>(by subst e; simp at hb),fun _=>hq⟩
    | _ =>
      simp only [AcM,AcN] at h2
      obtain ⟨rfl,rfl⟩:=h2
      exact hq
  · rintro ⟨n,e1,s1,h1,h2⟩
    cases e1 with
    | ex j =>
      cases hb : Nat.beq j id with
      | true=>exact ⟨n,.nm,s1,by simp [evC,h1,hb],h2.1 (AcW hb)⟩
      | false=>exact ⟨n,.ex j,s1,by simp [evC,h1,hb],h2.2 (fun e=>by subst e; simp at hb)⟩
    | nm=>exact ⟨n,.nm,s1,by simp [evC,h1],h2⟩
    | ret=>exact ⟨n,.ret,s1,by simp [evC,h1],h2⟩
theorem Ps (hG : Bp G) (dr : List Nat) (c : C) (s : St) (Q : Ex -> St -> Prop) : Runs G (.loop dr c) s Q = Runs G c { s with E:=AK dr s.E } (thn (fun s'=>Runs G (.loop dr c) s' Q) Q):=by
  apply propext
  constructor
  · rintro ⟨n,e,s',h,hq⟩
    simp only [evC] at h
    cases n with
    | zero=>simp [Eo] at h
    | succ n =>
      simp only [Eo,AcL] at h
      obtain ⟨⟨e1,s1⟩,h1,h2⟩:=h
      refine ⟨n + 1,e1,s1,h1,?_⟩
      cases e1 with
      | nm=>exact ⟨n + 1,e,s',by simp only [evC]; exact Eb (fun _ _ h=>h) (Nat.le_succ n) h2,hq⟩
      | _ =>
        simp only [AcM,AcN] at h2
        obtain ⟨rfl,rfl⟩:=h2
        exact hq
  · rintro ⟨n,e1,s1,h1,h2⟩
    cases e1 with
    | nm =>
      obtain ⟨m,e,s',h3,hq⟩:=h2
      have hn : n <= max n m + 1:=by omega
      have hm : m <= max n m + 1:=by omega
      refine ⟨max n m + 1,e,s',?_,hq⟩
      simp only [evC,Eo,AcL]
      refine ⟨_,Co (AP hG hn) hn h1,?_⟩
      simp only [evC] at h3
      exact Eb (fun t r=>Co (AP hG hm) hm) (by omega) h3
    | ex j=>exact ⟨n + 1,.ex j,s1,by simp only [evC,Eo,AcL]; exact ⟨_,Co (AP hG (Nat.le_succ n)) (Nat.le_succ n) h1,rfl⟩,h2⟩
    | ret=>exact ⟨n + 1,.ret,s1,by simp only [evC,Eo,AcL]; exact ⟨_,Co (AP hG (Nat.le_succ n)) (Nat.le_succ n) h1,rfl⟩,h2⟩
theorem VD (s : St) (Q : St -> Prop) : FT G [] s Q = Q s:=by
  apply propext
  simp only [FT,BE,AcM]
  constructor
  · rintro ⟨_,_,rfl,h⟩
    exact h
  · exact fun h=>⟨0,_,rfl,h⟩
theorem DZ (hG : Bp G) (o : Op) (r : List Op) (s : St) (Q : St -> Prop) : FT G (o :: r) s Q = Gd G o s fun s'=>FT G r s' Q:=by
  apply propext
  simp only [FT,Gd,BE,AcL]
  constructor
  · rintro ⟨n,s',⟨s1,h1,h2⟩,hq⟩
    exact ⟨n,s1,h1,n,s',h2,hq⟩
  · rintro ⟨n,s1,h1,m,s',h2,hq⟩
    exact ⟨max n m,s',⟨s1,Kf (AP hG (Nat.le_max_left n m)) h1,FB (AP hG (Nat.le_max_right n m)) h2⟩,hq⟩
theorem VG (d : Dst) (o : OP) (az : List Opnd) (s : St) (Q : St -> Prop) : Gd G ⟨d,.p o,az,none⟩ s Q = Ck (Ac (evA s) az) fun vs=>Ck (Ai o vs) fun v=>Ck (Cu s d v) Q:=by
  apply propext
  simp only [Gd,Dp,Ao,AcS,AN,gd,evO,AcL,Ck]
  constructor
  · rintro ⟨_,s',⟨vs,h1,⟨v,M⟩,⟨v',h2,h3⟩,h4⟩,hq⟩
    simp only [AcM,AcN] at h3
    obtain ⟨rfl,rfl⟩:=h3
    exact ⟨vs,h1,_,h2,s',h4,hq⟩
  · rintro ⟨vs,h1,v,h2,s',h4,hq⟩
    exact ⟨0,s',⟨vs,h1,(v,s.M),⟨v,h2,rfl⟩,h4⟩,hq⟩
theorem VF (d : Dst) (o : OR) (az : List Opnd) (s : St) (Q : St -> Prop) : Gd G ⟨d,.r o,az,none⟩ s Q = Ck (Ac (evA s) az) fun vs=>Ck (readX s.M o vs) fun v=>Ck (Cu s d v) Q:=by
  apply propext
  simp only [Gd,Dp,Ao,AcS,AN,gd,evO,AcL,Ck]
  constructor
  · rintro ⟨_,s',⟨vs,h1,⟨v,M⟩,⟨v',h2,h3⟩,h4⟩,hq⟩
    simp only [AcM,AcN] at h3
    obtain ⟨rfl,rfl⟩:=h3
    exact ⟨vs,h1,_,h2,s',h4,hq⟩
  · rintro ⟨vs,h1,v,h2,s',h4,hq⟩
    exact ⟨0,s',⟨vs,h1,(v,s.M),⟨v,h2,rfl⟩,h4⟩,hq⟩
theorem VH (d : Dst) (f : Nat) (az : List Opnd) (s : St) (Q : St -> Prop) : Gd G ⟨d,.l (.cal f),az,none⟩ s Q = Ck (Ac (evA s) az) fun vs=>Ret G f vs s.M.H fun v H'=>Ck (Cu { s with M:={ s.M with H:=H' } } d v) Q:=by
  apply propext
  simp only [Gd,Dp,Ao,AcS,AN,gd,evO,Af,AcL,Ck,Ret]
  constructor
  · rintro ⟨n,s',⟨vs,h1,⟨v,M⟩,⟨⟨r,H'⟩,h2,h3⟩,h4⟩,hq⟩
    simp only [AcM,AcN] at h3
    obtain ⟨rfl,rfl⟩:=h3
    exact ⟨vs,h1,n,_,_,h2,s',h4,hq⟩
  · rintro ⟨vs,h1,n,v,H',h2,s',h4,hq⟩
    exact ⟨n,s',⟨vs,h1,_,⟨_,h2,rfl⟩,h4⟩,hq⟩
theorem SC (d : Dst) (o : O) (az : List Opnd) (g : Opnd) (want : Bool) (s : St) (Q : St -> Prop) : Gd G ⟨d,o,az,some (g,want)⟩ s Q = Ck (Ao s (some (g,want))) fun q=>if q then Gd G ⟨d,o,az,none⟩ s Q else Ck (Cu s d .un) Q:=by
  apply propext
  constructor
  · rintro ⟨n,s',h,hq⟩
    simp only [Dp,AcL] at h
    obtain ⟨b,hb,h⟩:=h
    refine ⟨b,hb,?_⟩
    cases b with
    | true=>exact ⟨n,s',by simpa [Dp,Ao] using h,hq⟩
    | false=>exact ⟨s',h,hq⟩
  · rintro ⟨b,hb,h⟩
    cases b with
    | true =>
      obtain ⟨n,s',h,hq⟩:=h
      exact ⟨n,s',by simp only [Dp,hb,AcS]; simpa [Dp,Ao] using h,hq⟩
    | false =>
      obtain ⟨s',h,hq⟩:=h
      exact ⟨0,s',by simp only [Dp,hb,AcS]; exact h,hq⟩
/- Calls. -/
theorem Zc {f : Nat} {vs : List V} {H H' : Hp} {v : V} {Q : V -> Hp -> Prop} (hG : Bp G) (h : Gives G f vs H v H') : Ret G f vs H Q = Q v H':=by
  apply propext
  obtain ⟨n,hn⟩:=h
  constructor
  · rintro ⟨m,v2,H2,hm,hq⟩
    have h1:=AP hG (Nat.le_max_left n m) _ _ _ _ hn
    have h2:=AP hG (Nat.le_max_right n m) _ _ _ _ hm
    rw [h1] at h2
    cases h2
    exact hq
  · exact fun hq=>⟨n,v,H',hn,hq⟩
theorem Gives.of_ret {f : Nat} {vs : List V} {H H' : Hp} {v : V} (h : Ret G f vs H fun v' H2=>v' = v /\ H2 = H') : Gives G f vs H v H':=by
  obtain ⟨n,v2,H2,h,rfl,rfl⟩:=h
  exact ⟨n,h⟩
def fin (rs : List Res) (Q : V -> Hp -> Prop) : Ex -> St -> Prop
  | .ex _,_=>False
  | _,s=>Ck (Dm s rs) fun v=>Q v s.M.H
theorem Uf {c : C} {np : Nat} {rs : List Res} {vs : List V} {H : Hp} {Q : V -> Hp -> Prop} (hv : vs.all Av = true) (hl : vs.length = np) (h : Runs G c ⟨CA 0 vs,[],⟨[],H⟩⟩ (fin rs Q)) :
    ∃ n v H',evF (Bg G n) n ⟨np,rs,c⟩ vs H = some (v,H') /\ Q v H':=by
  obtain ⟨n,e,s',h1,h2⟩:=h
  have hb : (vs.all Av && Nat.beq vs.length np) = true:=by rw [hv,hl,Nat.beq_refl]; rfl
  have key : Ck (Dm s' rs) (fun v=>Q v s'.M.H) -> (∀ id,e ≠ .ex id) -> ∃ n v H',evF (Bg G n) n ⟨np,rs,c⟩ vs H = some (v,H') /\ Q v H':=by
    rintro ⟨v,hv,hq⟩ hne
    refine ⟨n,v,s'.M.H,?_,hq⟩
    simp only [evF,hb,gd,h1,AcS]
    cases e with
    | ex id=>exact absurd rfl (hne id)
    | _=>simp [hv]
  cases e with
  | ex id=>exact h2.elim
  | nm=>exact key h2 (fun _ h=>by cases h)
  | ret=>exact key h2 (fun _ h=>by cases h)
theorem NU (hG : Bp G) {f np : Nat} {rs : List Res} {c : C} {vs : List V} {H : Hp} {Q : V -> Hp -> Prop} (hp : G.prim f = none) (hf : G.fn f = some ⟨np,rs,c⟩) (hs : G.sh f = true) (hv : vs.all Av = true) (hl : vs.length = np)
    (h : Runs G c ⟨CA 0 vs,[],⟨[],H⟩⟩ (fin rs Q)) : Ret G f vs H Q:=by
  obtain ⟨n,v,H',he,hq⟩:=Uf hv hl h
  refine ⟨n + 1,v,H',?_,hq⟩
  simp [Bg,hp,hf,hs,he]
theorem Mo : ∀ {vs : List V} {is : List I},Bn vs = some is -> vs.flatMap EJ = [] /\ vs.all Bv = true /\ vs.all Av = true /\ vs = is.map .m /\ ∀ (n : Nat) H,Ac (view (n + 1) H) vs = some is
  | [],is,h=>by simp only [Bn,AcM] at h; subst h; exact ⟨rfl,rfl,rfl,rfl,fun _ _=>rfl⟩
  | .m x :: r,is,h=>by
    simp only [Bn,AcL,AcM] at h
    obtain ⟨l,hl,rfl⟩:=h
    obtain ⟨h1,h2,h3,h4,h5⟩:=Mo hl
    refine ⟨by simp [EJ,HK,h1],by simp [Bv,Cn,h2],by simp [Av,h3],by simp [h4],fun n H=>?_⟩
    simp only [Ac,h5 n H]
    rfl
  | .un :: _,is,h=>by simp [Bn] at h
  | .ls _ :: _,is,h=>by simp [Bn] at h
  | .sl .. :: _,is,h=>by simp [Bn] at h
  | .pt .. :: _,is,h=>by simp [Bn] at h
  | .fa .. :: _,is,h=>by simp [Bn] at h
  | .mp _ :: _,is,h=>by simp [Bn] at h
  | .fn .. :: _,is,h=>by simp [Bn] at h
  | .ag _ :: _,is,h=>by simp [Bn] at h
  | .tu _ :: _,is,h=>by simp [Bn] at h
theorem Ml {f np : Nat} {rs : List Res} {c : C} {vs : List V} {is : List I} {H : Hp} {Q : V -> Hp -> Prop} (hp : G.prim f = none) (hf : G.fn f = some ⟨np,rs,c⟩) (hs : G.sh f = false) (hv : Bn vs = some is) (hl : vs.length = np)
    (h : Runs G c ⟨CA 0 vs,[],⟨[],[]⟩⟩ (fin rs fun v H'=>Ck (viewR H' v) fun r=>Q r H)) : Ret G f vs H Q:=by
  obtain ⟨h1,h2,h3,h4,h5⟩:=Mo hv
  obtain ⟨n,v,H',he,r,hr,hq⟩:=Uf h3 hl h
  refine ⟨n + 1,r,H,?_,hq⟩
  simp only [Bg,hp,hf,hs,AcS,DA,h5 19 H]
  rw [<- h4,he]
  simp only [AcS,hr,h1,h2,gd]
end
end Go.Mx
/- Walking the machine, first order: what follows is kept as data, so that simp looks at the state alone. Nothing here speaks of a program. -/
namespace Go.Mx
inductive K where
  | fin (rs : List Res) (Q : V -> Hp -> Prop)
  | pur (rs : List Res) (H : Hp) (Q : V -> Hp -> Prop)
  | st (Q : Ex -> St -> Prop)
  | seq (b : C) (k : K)
  | blk (id : Nat) (k : K)
def K.sem (G : Cfg) : K -> Ex -> St -> Prop
  | .fin rs Q=>Mx.fin rs Q
  | .pur rs H Q=>Mx.fin rs fun v H'=>Ck (viewR H' v) fun r=>Q r H
  | .st Q=>Q
  | .seq b k=>thn (fun s=>Runs G b s (k.sem G)) (k.sem G)
  | .blk id k=>inB id (k.sem G)
def Run (G : Cfg) (c : C) (s : St) (k : K) : Prop:=Runs G c s (k.sem G)
def At' (G : Cfg) (e : Ex) (s : St) (k : K) : Prop:=k.sem G e s
def Bz (G : Cfg) (s : Option St) (ops : List Op) (k : K) : Prop:=Ck s fun s=>FT G ops s fun s'=>k.sem G .nm { s' with L:=[] }
def Uy (G : Cfg) (t : Option Bool) (a b : C) (s : St) (k : K) : Prop:=Ck t fun t=>if t then Runs G a s (k.sem G) else Runs G b s (k.sem G)
def Hv (G : Cfg) (f : Nat) (vs : Option (List V)) (s : St) (d : Dst) (r : List Op) (k : K) : Prop :=
  Ck vs fun vs=>Ret G f vs s.M.H fun v H'=>Bz G (Cu { s with M:={ s.M with H:=H' } } d v) r k
def Jp (s : St) (o : OP) (az : List Opnd) (d : Dst) : Option St:=(Ac (evA s) az).bind fun vs=>(Ai o vs).bind fun v=>Cu s d v
def stepR (s : St) (o : OR) (az : List Opnd) (d : Dst) : Option St:=(Ac (evA s) az).bind fun vs=>(readX s.M o vs).bind fun v=>Cu s d v
def DF (s : St) (o : OL) (az : List Opnd) (d : Dst) : Option St:=gd (AN s (.l o)) ((Ac (evA s) az).bind fun vs=>(Af (fun _ _ _=>none) s.M o vs).bind fun p=>Cu { s with M:=p.2 } d p.1)
def Br (q : Option Bool) (a b : Option St) : Option St:=q.bind fun q=>match q with
  | true=>a
  | false=>b
section
variable {G : Cfg}
theorem QC (s : St) (b : C) (k : K) : At' G .nm s (.seq b k) = Run G b s k:=rfl
theorem QD (s : St) (b : C) (k : K) (j : Nat) : At' G (.ex j) s (.seq b k) = At' G (.ex j) s k:=rfl
theorem Ot (s : St) (b : C) (k : K) : At' G .ret s (.seq b k) = At' G .ret s k:=rfl
theorem QG (s : St) (id : Nat) (k : K) : At' G .nm s (.blk id k) = At' G .nm s k:=rfl
theorem Ow (s : St) (id : Nat) (k : K) : At' G .ret s (.blk id k) = At' G .ret s k:=rfl
theorem QH (s : St) (id : Nat) (k : K) (j : Nat) : At' G (.ex j) s (.blk id k) = if j = id then At' G .nm s k else At' G (.ex j) s k:=ZK id _ s j
theorem at_st (e : Ex) (s : St) (Q : Ex -> St -> Prop) : At' G e s (.st Q) = Q e s:=rfl
theorem QF (s : St) (rs : List Res) (Q : V -> Hp -> Prop) : At' G .nm s (.fin rs Q) = Ck (Dm s rs) fun v=>Q v s.M.H:=rfl
theorem Ov (s : St) (rs : List Res) (Q : V -> Hp -> Prop) : At' G .ret s (.fin rs Q) = Ck (Dm s rs) fun v=>Q v s.M.H:=rfl
theorem QE (s : St) (rs : List Res) (H : Hp) (Q : V -> Hp -> Prop) : At' G .nm s (.pur rs H Q) = Ck ((Dm s rs).bind (viewR s.M.H)) fun r=>Q r H:=by
  rw [CZ]; rfl
theorem Ou (s : St) (rs : List Res) (H : Hp) (Q : V -> Hp -> Prop) : At' G .ret s (.pur rs H Q) = Ck ((Dm s rs).bind (viewR s.M.H)) fun r=>Q r H:=by
  rw [CZ]; rfl
theorem Pt (s : St) (k : K) : Run G .skip s k = At' G .nm s k:=Pr s _
theorem Vu (id : Nat) (s : St) (k : K) : Run G (.ex id) s k = At' G (.ex id) s k:=Vr id s _
theorem Sm (s : St) (k : K) : Run G .ret s k = At' G .ret s k:=Sh s _
theorem Sl (hG : Bp G) (a b : C) (s : St) (k : K) : Run G (.seq a b) s k = Run G a s (.seq b k):=Sg hG a b s _
theorem Sp (id : Nat) (c : C) (s : St) (k : K) : Run G (.blk id c) s k = Run G c s (.blk id k):=Sk id c s _
theorem Mk (ops : List Op) (s : St) (k : K) : Run G (.reg ops) s k = Bz G (some s) ops k:=by
  unfold Run Bz
  rw [AO]
  exact Si ops s _
theorem So (o : Opnd) (a b : C) (s : St) (k : K) : Run G (.ite o a b) s k = Uy G ((evA s o).bind asB) a b s k:=Sj o a b s _
theorem Pu (hG : Bp G) (dr : List Nat) (c : C) (s : St) (k : K) : Run G (.loop dr c) s k = Run G c { s with E:=AK dr s.E } (.seq (.loop dr c) k):=Ps hG dr c s _
theorem Pb (a b : C) (s : St) (k : K) : Uy G (some true) a b s k = Run G a s k:=by simp [Uy,AO,Run]
theorem NN (a b : C) (s : St) (k : K) : Uy G (some false) a b s k = Run G b s k:=by simp [Uy,AO,Run]
theorem Mm (s : St) (k : K) : Bz G (some s) [] k = At' G .nm { s with L:=[] } k:=by
  simp only [Bz,AO,VD]
  rfl
theorem Jv (ops : List Op) (k : K) : Bz G none ops k = False:=by simp [Bz,Ck]
theorem Vv (b : Bool) (s : Option St) (ops : List Op) (k : K) : Bz G (gd b s) ops k = (b = true /\ Bz G s ops k):=KS b s _
theorem Pz (hG : Bp G) (d : Dst) (o : OP) (az : List Opnd) (s : St) (r : List Op) (k : K) : Bz G (some s) (⟨d,.p o,az,none⟩ :: r) k = Bz G (Jp s o az d) r k:=by
  simp only [Bz,AO,DZ hG,VG,Jp,CZ]
theorem Py (hG : Bp G) (d : Dst) (o : OR) (az : List Opnd) (s : St) (r : List Op) (k : K) : Bz G (some s) (⟨d,.r o,az,none⟩ :: r) k = Bz G (stepR s o az d) r k:=by
  simp only [Bz,AO,DZ hG,VF,stepR,CZ]
theorem GA (hG : Bp G) (d : Dst) (f : Nat) (az : List Opnd) (s : St) (r : List Op) (k : K) : Bz G (some s) (⟨d,.l (.cal f),az,none⟩ :: r) k = Hv G f (Ac (evA s) az) s d r k:=by
  simp only [Bz,AO,DZ hG,VH,Hv]
theorem CX (hG : Bp G) (d : Dst) (o : O) (az : List Opnd) (g : Opnd) (want : Bool) (s : St) (r : List Op) (k : K) :
    Bz G (some s) (⟨d,o,az,some (g,want)⟩ :: r) k = Ck (Ao s (some (g,want))) fun q=>if q then Bz G (some s) (⟨d,o,az,none⟩ :: r) k else Bz G (Cu s d .un) r k:=by
  simp only [Bz,AO,DZ hG,SC]
theorem FL (hG : Bp G) (d : Dst) (o : OP) (az : List Opnd) (g : Opnd) (want : Bool) (s : St) (r : List Op) (k : K) :
    Bz G (some s) (⟨d,.p o,az,some (g,want)⟩ :: r) k = Bz G (Br (Ao s (some (g,want))) (Jp s o az d) (Cu s d .un)) r k:=by
  rw [CX hG]
  cases hq : Ao s (some (g,want)) with
  | none=>simp [Ck,Br,Bz]
  | some q=>cases q <;> simp [AO,Br,Pz hG]
theorem FK (hG : Bp G) (d : Dst) (o : OR) (az : List Opnd) (g : Opnd) (want : Bool) (s : St) (r : List Op) (k : K) :
    Bz G (some s) (⟨d,.r o,az,some (g,want)⟩ :: r) k = Bz G (Br (Ao s (some (g,want))) (stepR s o az d) (Cu s d .un)) r k:=by
  rw [CX hG]
  cases hq : Ao s (some (g,want)) with
  | none=>simp [Ck,Br,Bz]
  | some q=>cases q <;> simp [AO,Br,Py hG]
def Jg (G : Cfg) (q : Option Bool) (f : Nat) (az : List Opnd) (s : St) (d : Dst) (r : List Op) (k : K) : Prop:=Ck q fun q=>if q then Hv G f (Ac (evA s) az) s d r k else Bz G (Cu s d .un) r k
theorem DH (hG : Bp G) (d : Dst) (f : Nat) (az : List Opnd) (g : Opnd) (want : Bool) (s : St) (r : List Op) (k : K) :
    Bz G (some s) (⟨d,.l (.cal f),az,some (g,want)⟩ :: r) k = Jg G (Ao s (some (g,want))) f az s d r k:=by
  rw [CX hG]
  simp only [Jg,GA hG]
theorem Oe (f : Nat) (az : List Opnd) (s : St) (d : Dst) (r : List Op) (k : K) : Jg G (some true) f az s d r k = Hv G f (Ac (evA s) az) s d r k:=by simp [Jg,AO]
theorem KZ (f : Nat) (az : List Opnd) (s : St) (d : Dst) (r : List Op) (k : K) : Jg G (some false) f az s d r k = Bz G (Cu s d .un) r k:=by simp [Jg,AO]
theorem GJ (hG : Bp G) (d : Dst) (o : OL) (az : List Opnd) (s : St) (r : List Op) (k : K) (hc : ∀ call vs,Af call s.M o vs = Af (fun _ _ _=>none) s.M o vs) : Bz G (some s) (⟨d,.l o,az,none⟩ :: r) k = Bz G (DF s o az d) r k:=by
  simp only [Bz,AO,DZ hG,DF,KS,CZ]
  apply propext
  simp only [Gd,Dp,Ao,AcS,evO,hc,Ck]
  constructor
  · rintro ⟨n,s',h,hq⟩
    rw [gd_eq] at h
    obtain ⟨hf,h⟩:=h
    simp only [AcL] at h
    obtain ⟨vs,h1,p,h2,h3⟩:=h
    exact ⟨hf,vs,h1,p,h2,s',h3,hq⟩
  · rintro ⟨hf,vs,h1,p,h2,s',h3,hq⟩
    refine ⟨0,s',?_,hq⟩
    rw [gd_eq]
    simp only [AcL]
    exact ⟨hf,vs,h1,p,h2,h3⟩
where gd_eq {α : Type} {b : Bool} {x : Option α} {y : α} : (gd b x = some y) = (b = true /\ x = some y):=by cases b <;> simp [gd]
theorem It {M : Mem} {o : OL} (h1 : ∀ f,o ≠ .cal f) (h2 : o ≠ .cav) (c d : Ba) (vs : List V) : Af c M o vs = Af d M o vs:=by
  cases o with
  | cal f=>exact absurd rfl (h1 f)
  | cav=>exact absurd rfl h2
  | _ =>
    match vs with
    | []=>rfl
    | [_]=>rfl
    | [_,_]=>rfl
    | [_,_,_]=>rfl
    | _ :: _ :: _ :: _ :: _=>rfl
theorem Px {f np : Nat} {rs : List Res} {c : C} {vs : List V} {is : List I} {H : Hp} {Q : V -> Hp -> Prop} (hp : G.prim f = none) (hf : G.fn f = some ⟨np,rs,c⟩) (hs : G.sh f = false) (hv : Bn vs = some is) (hl : vs.length = np)
    (h : Run G c ⟨CA 0 vs,[],⟨[],[]⟩⟩ (.pur rs H Q)) : Ret G f vs H Q:=Ml hp hf hs hv hl h
theorem Ak {f np : Nat} {rs : List Res} {c : C} {vs : List V} {is : List I} {H : Hp} {v : V} (hp : G.prim f = none) (hf : G.fn f = some ⟨np,rs,c⟩) (hs : G.sh f = false) (hv : Bn vs = some is) (hl : vs.length = np)
    (h : Run G c ⟨CA 0 vs,[],⟨[],[]⟩⟩ (.pur rs H fun v' _=>v' = v)) : Gives G f vs H v H:=by
  refine .of_ret (Ml hp hf hs hv hl (h.mono fun e s hq=>?_))
  cases e with
  | ex j=>exact hq
  | nm =>
    obtain ⟨x,h1,r,h2,h3⟩:=hq
    exact ⟨x,h1,r,h2,h3,rfl⟩
  | ret =>
    obtain ⟨x,h1,r,h2,h3⟩:=hq
    exact ⟨x,h1,r,h2,h3,rfl⟩
theorem BH (hG : Bp G) {f np : Nat} {rs : List Res} {c : C} {vs : List V} {H : Hp} {Q : V -> Hp -> Prop} (hp : G.prim f = none) (hf : G.fn f = some ⟨np,rs,c⟩) (hs : G.sh f = true) (hv : vs.all Av = true) (hl : vs.length = np)
    (h : Run G c ⟨CA 0 vs,[],⟨[],H⟩⟩ (.fin rs Q)) : Ret G f vs H Q:=NU hG hp hf hs hv hl h
end
end Go.Mx
/- Walking the machine: rules for simp. Nothing here speaks of a program. -/
namespace Go.Mx
attribute [simp] AO KS CZ QC QD Ot QG Ow QH at_st QF Ov QE Ou Pt Vu Sm Sp Mk So Pb NN Mm Jv Vv Oe KZ
@[simp] theorem pickS_t (a b : Option St) : Br (some true) a b = a:=rfl
@[simp] theorem pickS_f (a b : Option St) : Br (some false) a b = b:=rfl
@[simp] theorem stepP_eq (s : St) (o : OP) (az : List Opnd) (d : Dst) : Jp s o az d = (Ac (evA s) az).bind fun vs=>(Ai o vs).bind fun v=>Cu s d v:=rfl
@[simp] theorem stepR_eq (s : St) (o : OR) (az : List Opnd) (d : Dst) : stepR s o az d = (Ac (evA s) az).bind fun vs=>(readX s.M o vs).bind fun v=>Cu s d v:=rfl
@[simp] theorem Zp {α : Type} (p : α -> Prop) : Ck none p = False:=by simp [Ck]
@[simp] theorem Yw {α β : Type} (f : α -> Option β) : Ac f [] = some []:=rfl
@[simp] theorem VC {α β : Type} (f : α -> Option β) (a : α) (r : List α) : Ac f (a :: r) = (f a).bind fun x=>(Ac f r).bind fun l=>some (x :: l):=rfl
@[simp] theorem getE_nil (n : Nat) : BJ [] n = none:=rfl
@[simp] theorem Cb (k : Nat) (x : V) (r : Env) (n : Nat) : BJ ((k,x) :: r) n = if k = n then some x else BJ r n:=by
  simp only [BJ]
  by_cases h : k = n
  · subst h; simp
  · rw [AcQ h]
    have : Nat.beq k n = false:=by
      cases hb : Nat.beq k n with
      | false=>rfl
      | true=>exact absurd (AcW hb) h
    rw [this]
@[simp] theorem setE_nil (n : Nat) (x : V) : BG [] n x = [(n,x)]:=rfl
@[simp] theorem Gu (k : Nat) (y : V) (r : Env) (n : Nat) (x : V) : BG ((k,y) :: r) n x = if n < k then (n,x) :: (k,y) :: r else if k = n then (n,x) :: r else (k,y) :: BG r n x:=by
  simp only [BG]
  by_cases h : n < k
  · rw [AcY h]
    have : Nat.blt n k = true:=by rw [AdA]; exact h
    rw [this]
  · rw [AcQ h]
    have : Nat.blt n k = false:=by
      cases hb : Nat.blt n k with
      | false=>rfl
      | true=>rw [AdA] at hb; exact absurd hb h
    rw [this]
    by_cases e : k = n
    · subst e; simp
    · rw [AcQ e]
      have : Nat.beq k n = false:=by
        cases hb : Nat.beq k n with
        | false=>rfl
        | true=>exact absurd (AcW hb) e
      rw [this]
@[simp] theorem rmE_nil (n : Nat) : rmE [] n = []:=rfl
@[simp] theorem rmE_cons (k : Nat) (x : V) (r : Env) (n : Nat) : rmE ((k,x) :: r) n = if k = n then rmE r n else (k,x) :: rmE r n:=by
  simp only [rmE]
  by_cases h : k = n
  · subst h; simp
  · rw [AcQ h]
    have : Nat.beq k n = false:=by
      cases hb : Nat.beq k n with
      | false=>rfl
      | true=>exact absurd (AcW hb) h
    rw [this]
@[simp] theorem Aad (e : Env) : AK [] e = e:=rfl
@[simp] theorem YC (n : Nat) (r : List Nat) (e : Env) : AK (n :: r) e = AK r (rmE e n):=rfl
@[simp] theorem evA_v (s : St) (n : Nat) : evA s (.v n) = BJ s.E n:=rfl
@[simp] theorem evA_l (s : St) (n : Nat) : evA s (.l n) = BJ s.L n:=rfl
@[simp] theorem evA_k (s : St) (x : V) : evA s (.k x) = some x:=rfl
@[simp] theorem setD_no (s : St) (x : V) : Cu s .no x = some s:=rfl
@[simp] theorem setD_l (s : St) (n : Nat) (x : V) : Cu s (.l n) x = some { s with L:=BG s.L n x }:=rfl
@[simp] theorem setD_vm (s : St) (n : Nat) (x : I) : Cu s (.v n) (.m x) = some { s with E:=BG s.E n (.m x) }:=rfl
@[simp] theorem setD_vun (s : St) (n : Nat) : Cu s (.v n) .un = some { s with E:=BG s.E n .un }:=rfl
@[simp] theorem setD_vls (s : St) (n : Nat) (x : List (List I)) : Cu s (.v n) (.ls x) = some { s with E:=BG s.E n (.ls x) }:=rfl
@[simp] theorem setD_vsl (s : St) (n a b c d e : Nat) (f : Bool) : Cu s (.v n) (.sl a b c d e f) = some { s with E:=BG s.E n (.sl a b c d e f) }:=rfl
@[simp] theorem setD_vpt (s : St) (n a b c d : Nat) : Cu s (.v n) (.pt a b c d) = some { s with E:=BG s.E n (.pt a b c d) }:=rfl
@[simp] theorem setD_vmp (s : St) (n a : Nat) : Cu s (.v n) (.mp a) = some { s with E:=BG s.E n (.mp a) }:=rfl
@[simp] theorem setD_vtu (s : St) (n : Nat) (a : List V) : Cu s (.v n) (.tu a) = some { s with E:=BG s.E n (.tu a) }:=rfl
@[simp] theorem setD_vag (s : St) (n : Nat) (a : List V) : Cu s (.v n) (.ag a) = some { s with E:=BG s.E n (.ag a) }:=rfl
@[simp] theorem setD_vfn (s : St) (n f : Nat) (a : List V) : Cu s (.v n) (.fn f a) = some { s with E:=BG s.E n (.fn f a) }:=rfl
@[simp] theorem UG (s : St) : Ao s none = some true:=rfl
@[simp] theorem Gq (s : St) (a : Opnd) (w : Bool) : Ao s (some (a,w)) = (evA s a).bind fun v=>match v with
    | .m (.b x)=>some (x == w)
    | .un=>some false
    | _=>none:=rfl
@[simp] theorem asB_b (x : Bool) : asB (.m (.b x)) = some x:=rfl
@[simp] theorem Aac (k : Nat) : CA k [] = []:=rfl
@[simp] theorem YB (k : Nat) (x : V) (r : List V) : CA k (x :: r) = (k,x) :: CA (k + 1) r:=rfl
@[simp] theorem resOf_eq (s : St) (rs : List Res) : Dm s rs = (Ac (NY s) rs).bind fun vs=>some (tup vs):=rfl
@[simp] theorem resV_t (s : St) (n : Nat) : NY s (.t n) = (BJ s.E n).bind fun v=>gd (Av v) (some v):=rfl
@[simp] theorem resV_c (s : St) (n sz : Nat) (ag : Bool) : NY s (.c n sz ag) = (BJ s.E n).bind fun a=>(readA s.M sz a).bind fun cs=>CL ag cs:=rfl
@[simp] theorem noFaV_m (x : I) : Av (.m x) = true:=rfl
@[simp] theorem noFaV_ls (x : List (List I)) : Av (.ls x) = true:=rfl
@[simp] theorem noFaV_sl (a b c d e : Nat) (f : Bool) : Av (.sl a b c d e f) = true:=rfl
@[simp] theorem noFaV_mp (a : Nat) : Av (.mp a) = true:=rfl
@[simp] theorem noFaV_pt (a b c d : Nat) : Av (.pt a b c d) = true:=rfl
@[simp] theorem noFaV_ag (a : List V) : Av (.ag a) = true:=rfl
@[simp] theorem noFaV_tu (a : List V) : Av (.tu a) = true:=rfl
@[simp] theorem noFaV_fn (f : Nat) (a : List V) : Av (.fn f a) = true:=rfl
@[simp] theorem tup_1 (v : V) : tup [v] = v:=rfl
@[simp] theorem tup_0 : tup [] = .tu []:=rfl
@[simp] theorem tup_2 (u v : V) (r : List V) : tup (u :: v :: r) = .tu (u :: v :: r):=rfl
@[simp] theorem viewR_m (H : Hp) (x : I) : viewR H (.m x) = some (.m x):=rfl
@[simp] theorem viewR_tu (H : Hp) (vs : List V) : viewR H (.tu vs) = (Ac (view 20 H) vs).bind fun l=>some (.tu (l.map .m)):=rfl
@[simp] theorem viewR_ls (H : Hp) (x : List (List I)) : viewR H (.ls x) = some (.m (.sl x)):=rfl
@[simp] theorem view_m (n : Nat) (H : Hp) (x : I) : view (n + 1) H (.m x) = some x:=rfl
@[simp] theorem LX (H : Hp) (x : I) : view 20 H (.m x) = some x:=rfl
@[simp] theorem YS (H : Hp) (x : List (List I)) : view 20 H (.ls x) = some (.sl x):=rfl
@[simp] theorem allM_nil : Bn [] = some []:=rfl
@[simp] theorem Aat (x : I) (r : List V) : Bn (.m x :: r) = (Bn r).bind fun l=>some (x :: l):=rfl
/- Operations on immutable values. -/
@[simp] theorem px_mv (x : V) : Ai .mv [x] = some x:=rfl
@[simp] theorem px_pick (c : Bool) (a b : V) : Ai .pick [.m (.b c),a,b] = some (if c then a else b):=by cases c <;> rfl
@[simp] theorem px_un (o : UnOp) (x : V) : Ai (.un o) [x] = unX o x:=rfl
@[simp] theorem px_bin (o : BinOp) (x y : V) : Ai (.bin o) [x,y] = Dj o x y:=rfl
@[simp] theorem px_eqb (n x y : Bool) : Ai (.eqb n) [.m (.b x),.m (.b y)] = some (.m (.b (xor n (x == y)))):=rfl
@[simp] theorem px_eqs (n : Bool) (ks : List Nat) (xs ys : List I) : Ai (.eqs n ks) [.m (.ag xs),.m (.ag ys)] = (Ey ks xs ys).bind fun r=>some (.m (.b (xor n r))):=rfl
@[simp] theorem px_eqn (n : Bool) (k : Nat) (x : V) : Ai (.eqn n k) [x] = (Er k x).bind fun r=>some (.m (.b (xor n r))):=rfl
@[simp] theorem px_build (z : List V) (p : List (Nat × Nat)) (xs : List V) : Ai (.build z p) xs = (Qf z p xs).bind fun cs=>some (mkAg cs):=rfl
@[simp] theorem px_cv (k k' : IntKind) (n : Int) : Ai (.cv k) [.m (.i k' n)] = some (.m (.i k (wr k n))):=rfl
@[simp] theorem Zm (o : Nat) (cs : List I) : Ai (.fad o) [.m (.pt cs)] = some (.m (.pt (cs.drop o))):=rfl
@[simp] theorem Zn (o d o' : Nat) : Ai (.fad o) [.fa d o'] = some (.fa d (o' + o)):=rfl
@[simp] theorem Yv (o r v i o' : Nat) : Ai (.fad o) [.pt r v i o'] = some (.pt r v i (o' + o)):=rfl
@[simp] theorem px_ext (j : Nat) (vs : List V) : Ai (.ext j) [.tu vs] = nth vs j:=rfl
@[simp] theorem px_mkf (f : Nat) (xs : List V) : Ai (.mkf f) xs = gd (xs.all Av) (some (.fn f xs)):=rfl
@[simp] theorem Zg (d o : Nat) : Ai .nck [.fa d o] = some (.fa d o):=rfl
@[simp] theorem Yq (r v i o : Nat) : Ai .nck [.pt r v i o] = some (.pt r v i o):=rfl
@[simp] theorem Zf (cs : List I) : Ai .nck [.m (.pt cs)] = some (.m (.pt cs)):=rfl
@[simp] theorem Zi : Ai (.len false) [.m (.nl 4)] = some (.m (.i .i64 0)):=rfl
@[simp] theorem Zh (es : List (List I)) : Ai (.len false) [.m (.sl es)] = some (.m (.i .i64 es.length)):=rfl
@[simp] theorem Zj (es : List (List I)) : Ai (.len false) [.ls es] = some (.m (.i .i64 es.length)):=rfl
@[simp] theorem Yr (r v e st n : Nat) (l : Bool) : Ai (.len false) [.sl r v e st n l] = some (.m (.i .i64 n)):=rfl
@[simp] theorem px_len_s (l : List Nat) : Ai (.len true) [.m (.s l)] = some (.m (.i .i64 l.length)):=rfl
@[simp] theorem IG (k : IntKind) : eqK k k = true:=by cases k <;> rfl
@[simp] theorem GQ {α : Type} (x : Option α) : gd true x = x:=rfl
@[simp] theorem SQ {α : Type} (x : Option α) : gd false x = none:=rfl
@[simp] theorem bx_add (k : IntKind) (x y : Int) : Dj .add (.m (.i k x)) (.m (.i k y)) = some (.m (.i k (wr k (x + y)))):=by simp [Dj,arX,vi]
@[simp] theorem bx_sub (k : IntKind) (x y : Int) : Dj .sub (.m (.i k x)) (.m (.i k y)) = some (.m (.i k (wr k (x - y)))):=by simp [Dj,arX,vi]
@[simp] theorem bx_mul (k : IntKind) (x y : Int) : Dj .mul (.m (.i k x)) (.m (.i k y)) = some (.m (.i k (wr k (x * y)))):=by simp [Dj,arX,vi]
theorem PI (y : Int) : (!eqI y 0) = decide (y ≠ 0):=by rw [Dg]; by_cases h : y = 0 <;> simp [h]
@[simp] theorem bx_quo (k : IntKind) (x y : Int) : Dj .quo (.m (.i k x)) (.m (.i k y)) = gd (decide (y ≠ 0)) (some (.m (.i k (wr k (x.tdiv y))))):=by simp only [Dj,arX,vi,IG,GQ,PI]
@[simp] theorem bx_rem (k : IntKind) (x y : Int) : Dj .rem (.m (.i k x)) (.m (.i k y)) = gd (decide (y ≠ 0)) (some (.m (.i k (x.tmod y)))):=by simp only [Dj,arX,vi,IG,GQ,PI]
@[simp] theorem bx_eql (k : IntKind) (x y : Int) : Dj .eql (.m (.i k x)) (.m (.i k y)) = some (.m (.b (decide (x = y)))):=by simp [Dj,arX,vb,Dg]; rfl
@[simp] theorem bx_neq (k : IntKind) (x y : Int) : Dj .neq (.m (.i k x)) (.m (.i k y)) = some (.m (.b (decide (x ≠ y)))):=by simp [Dj,arX,vb,Dg]; rfl
@[simp] theorem bx_lss (k : IntKind) (x y : Int) : Dj .lss (.m (.i k x)) (.m (.i k y)) = some (.m (.b (decide (x < y)))):=by simp [Dj,arX,vb,Cm]
@[simp] theorem bx_leq (k : IntKind) (x y : Int) : Dj .leq (.m (.i k x)) (.m (.i k y)) = some (.m (.b (decide (x <= y)))):=by simp [Dj,arX,vb,FN]
@[simp] theorem bx_gtr (k : IntKind) (x y : Int) : Dj .gtr (.m (.i k x)) (.m (.i k y)) = some (.m (.b (decide (y < x)))):=by simp [Dj,arX,vb,Cm]
@[simp] theorem bx_geq (k : IntKind) (x y : Int) : Dj .geq (.m (.i k x)) (.m (.i k y)) = some (.m (.b (decide (y <= x)))):=by simp [Dj,arX,vb,FN]
@[simp] theorem Wm (x y : List Nat) : Dj .add (.m (.s x)) (.m (.s y)) = gd (decide (x.length + y.length <= 9223372036854775807)) (some (.m (.s (x ++ y)))):=by
  simp only [Dj,stX]
  congr 1
  rw [AdF]; simp
@[simp] theorem bx_seql (x y : List Nat) : Dj .eql (.m (.s x)) (.m (.s y)) = some (.m (.b (decide (x = y)))):=by simp [Dj,stX,vb,DN]
@[simp] theorem ux_neg (k : IntKind) (x : Int) : unX .neg (.m (.i k x)) = some (.m (.i k (wr k (0 - x)))):=rfl
@[simp] theorem ux_not (x : Bool) : unX .not (.m (.b x)) = some (.m (.b (!x))):=rfl
@[simp] theorem nth_zero {α : Type} (x : α) (r : List α) : nth (x :: r) 0 = some x:=rfl
@[simp] theorem SD {α : Type} (x : α) (r : List α) (n : Nat) : nth (x :: r) (n + 1) = nth r n:=rfl
@[simp] theorem aggC_m (cs : List I) : Wt (.m (.ag cs)) = some (cs.map .m):=rfl
@[simp] theorem aggC_a (cs : List V) : Wt (.ag cs) = some cs:=rfl
@[simp] theorem valOf_f (x : V) : CL false [x] = some x:=rfl
@[simp] theorem valOf_t (cs : List V) : CL true cs = some (mkAg cs):=rfl
/- Numbers in their kinds. -/
theorem Aa {x : Int} (h1 : -9223372036854775808 <= x) (h2 : x <= 9223372036854775807) : wr .i64 x = x:=by
  have : okK .i64 x = true:=(GO _ _ _).2 ⟨by simpa using h1,by simpa using h2⟩
  unfold wr; rw [this]
theorem EL {x : Int} (h1 : 0 <= x) (h2 : x <= 18446744073709551615) : wr .u64 x = x:=by
  have : okK .u64 x = true:=(GO _ _ _).2 ⟨by simpa using h1,by simpa using h2⟩
  unfold wr; rw [this]
theorem EM {x : Int} (h1 : 0 <= x) (h2 : x <= 4294967295) : wr .u32 x = x:=by
  have : okK .u32 x = true:=(GO _ _ _).2 ⟨by simpa using h1,by simpa using h2⟩
  unfold wr; rw [this]
theorem Jm {x : Int} (h1 : 0 <= x) (h2 : x <= 255) : wr .u8 x = x:=by
  have : okK .u8 x = true:=(GO _ _ _).2 ⟨by simpa using h1,by simpa using h2⟩
  unfold wr; rw [this]
theorem Cq (x : Int) : wr .u64 x = x % 18446744073709551616:=by
  rw [FV]
  simp [IntKind.wrap,IntKind.signed,IntKind.bits]
end Go.Mx
/- Walking the machine: more rules for simp (private boxes, slices that do not change, strings). Nothing here speaks of a program. -/
namespace Go.Mx
theorem AZ (a b : Nat) : Nat.ble a b = decide (a <= b):=by
  rw [AdF]; simp
theorem He (a b : Nat) : Nat.blt a b = decide (a < b):=by
  rw [AdF]; simp
theorem Hg (a b : Nat) : Nat.beq a b = decide (a = b):=by
  rw [AdF]; simp
/- Private boxes. -/
@[simp] theorem stepL_eq (s : St) (o : OL) (az : List Opnd) (d : Dst) : DF s o az d = gd (AN s (.l o)) ((Ac (evA s) az).bind fun vs=>(Af (fun _ _ _=>none) s.M o vs).bind fun p=>Cu { s with M:=p.2 } d p.1):=rfl
@[simp] theorem ZX (s : St) (d : Nat) (z : List V) : AN s (.l (.alp d z)) = BB d s.L:=rfl
@[simp] theorem ZU (s : St) (d z : Nat) : AN s (.l (.bxp d z)) = BB d s.L:=rfl
@[simp] theorem ZW (s : St) (a b c : Nat) (z : List V) : AN s (.l (.als a b c z)) = true:=rfl
@[simp] theorem fresh_st (s : St) (n : Nat) : AN s (.l (.st n)) = true:=rfl
@[simp] theorem ZO (s : St) (n : Nat) : AN s (.l (.str n)) = true:=rfl
@[simp] theorem isFa_fa (d k o : Nat) : SL d (.fa k o) = decide (k = d):=Hg k d
@[simp] theorem isFa_m (d : Nat) (x : I) : SL d (.m x) = false:=rfl
@[simp] theorem isFa_pt (d a b c e : Nat) : SL d (.pt a b c e) = false:=rfl
@[simp] theorem ZR (s : St) : AN s (.l .mkm) = true:=rfl
@[simp] theorem ZQ (s : St) (a b c : Nat) (z : List V) : AN s (.l (.mks a b z c)) = true:=rfl
@[simp] theorem ZV (s : St) (a b c : Nat) : AN s (.l (.app a b c)) = true:=rfl
@[simp] theorem ZP (s : St) (q : KT) : AN s (.l (.mup q)) = true:=rfl
@[simp] theorem ZS (s : St) (q : KT) : AN s (.l (.mdl q)) = true:=rfl
@[simp] theorem noFa_nil (d : Nat) : BB d [] = true:=rfl
@[simp] theorem noFa_fa (d k n o : Nat) (r : Env) : BB d ((n,.fa k o) :: r) = (!Nat.beq k d && BB d r):=rfl
@[simp] theorem noFa_m (d n : Nat) (x : I) (r : Env) : BB d ((n,.m x) :: r) = BB d r:=rfl
@[simp] theorem noFa_un (d n : Nat) (r : Env) : BB d ((n,.un) :: r) = BB d r:=rfl
@[simp] theorem noFa_ls (d n : Nat) (x : List (List I)) (r : Env) : BB d ((n,.ls x) :: r) = BB d r:=rfl
@[simp] theorem noFa_sl (d n a b c e f : Nat) (g : Bool) (r : Env) : BB d ((n,.sl a b c e f g) :: r) = BB d r:=rfl
@[simp] theorem noFa_pt (d n a b c e : Nat) (r : Env) : BB d ((n,.pt a b c e) :: r) = BB d r:=rfl
@[simp] theorem noFa_mp (d n a : Nat) (r : Env) : BB d ((n,.mp a) :: r) = BB d r:=rfl
@[simp] theorem noFa_ag (d n : Nat) (a : List V) (r : Env) : BB d ((n,.ag a) :: r) = BB d r:=rfl
@[simp] theorem noFa_tu (d n : Nat) (a : List V) (r : Env) : BB d ((n,.tu a) :: r) = BB d r:=rfl
@[simp] theorem noFa_fn (d n f : Nat) (a : List V) (r : Env) : BB d ((n,.fn f a) :: r) = BB d r:=rfl
@[simp] theorem loud_alp (c : Ba) (M : Mem) (d : Nat) (z : List V) : Af c M (.alp d z) [] = some (.fa d 0,{ M with B:=Dw M.B d z }):=rfl
@[simp] theorem loud_bxp (c : Ba) (M : Mem) (d sz : Nat) (x : V) : Af c M (.bxp d sz) [x] = (An x).bind fun cs=>gd (Nat.beq cs.length sz) (some (.fa d 0,{ M with B:=Dw M.B d cs })):=rfl
@[simp] theorem loud_st (c : Ba) (M : Mem) (sz : Nat) (a x : V) : Af c M (.st sz) [a,x] = (An x).bind fun cs=>gd (Nat.beq cs.length sz && cs.all BA) ((Es M cs a).bind fun M'=>some (.un,M')):=rfl
@[simp] theorem loud_str (c : Ba) (M : Mem) (sz : Nat) (a x : V) : Af c M (.str sz) [a,x] = gd (Av a) ((An x).bind fun cs=>gd (Nat.beq cs.length sz && cs.all BA) ((Es M cs a).bind fun M'=>some (.un,M'))):=rfl
@[simp] theorem Aan (cs : List I) : An (.m (.ag cs)) = some (cs.map .m):=rfl
@[simp] theorem Aam (cs : List V) : An (.ag cs) = some cs:=rfl
@[simp] theorem cellsV_b (x : Bool) : An (.m (.b x)) = some [.m (.b x)]:=rfl
@[simp] theorem cellsV_i (k : IntKind) (x : Int) : An (.m (.i k x)) = some [.m (.i k x)]:=rfl
@[simp] theorem cellsV_s (x : List Nat) : An (.m (.s x)) = some [.m (.s x)]:=rfl
@[simp] theorem Aaj (k : Nat) : An (.m (.nl k)) = some [.m (.nl k)]:=rfl
@[simp] theorem YG (es : List (List I)) : An (.m (.sl es)) = some [.m (.sl es)]:=rfl
@[simp] theorem YH (es : List (List I)) : An (.m (.mp es)) = some [.m (.mp es)]:=rfl
@[simp] theorem Aal (es : List (List I)) : An (.ls es) = some [.ls es]:=rfl
@[simp] theorem Aai (a b c d e : Nat) (f : Bool) : An (.sl a b c d e f) = some [.sl a b c d e f]:=rfl
@[simp] theorem Aak (a : Nat) : An (.mp a) = some [.mp a]:=rfl
@[simp] theorem oneV_b (x : Bool) : BA (.m (.b x)) = true:=rfl
@[simp] theorem oneV_i (k : IntKind) (x : Int) : BA (.m (.i k x)) = true:=rfl
@[simp] theorem oneV_s (x : List Nat) : BA (.m (.s x)) = true:=rfl
@[simp] theorem oneV_nl (k : Nat) : BA (.m (.nl k)) = true:=rfl
@[simp] theorem oneV_msl (es : List (List I)) : BA (.m (.sl es)) = true:=rfl
@[simp] theorem oneV_ls (es : List (List I)) : BA (.ls es) = true:=rfl
@[simp] theorem oneV_sl (a b c d e : Nat) (f : Bool) : BA (.sl a b c d e f) = true:=rfl
@[simp] theorem oneV_mp (a : Nat) : BA (.mp a) = true:=rfl
@[simp] theorem getB_nil (n : Nat) : getB [] n = none:=rfl
@[simp] theorem De (k : Nat) (x : List V) (r : List (Nat × List V)) (n : Nat) : getB ((k,x) :: r) n = if k = n then some x else getB r n:=by
  simp only [getB,Hg]
  by_cases h : k = n <;> simp [h]
@[simp] theorem setB_nil (n : Nat) (x : List V) : Dw [] n x = [(n,x)]:=rfl
@[simp] theorem DG (k : Nat) (y : List V) (r : List (Nat × List V)) (n : Nat) (x : List V) : Dw ((k,y) :: r) n x = if k = n then (n,x) :: r else if n < k then (n,x) :: (k,y) :: r else (k,y) :: Dw r n x:=by
  simp only [Dw,Hg,He]
  by_cases h : k = n
  · simp [h]
  · by_cases h2 : n < k <;> simp [h,h2]
@[simp] theorem YR (M : Mem) (xs : List V) (d off : Nat) : Es M xs (.fa d off) = (getB M.B d).bind fun cs=>(EW cs off xs).bind fun cs'=>some { M with B:=Dw M.B d cs' }:=rfl
@[simp] theorem putAt_eq (cs : List V) (off : Nat) (xs : List V) : EW cs off xs = gd (decide (off + xs.length <= cs.length)) (some (cs.take off ++ xs ++ cs.drop (off + xs.length))):=by rw [<- AZ]; rfl
@[simp] theorem readA_fa (M : Mem) (sz d off : Nat) : readA M sz (.fa d off) = (getB M.B d).bind fun cs=>CM sz (cs.drop off):=rfl
@[simp] theorem readA_pt (M : Mem) (sz : Nat) (cs : List I) : readA M sz (.m (.pt cs)) = CM sz (cs.map .m):=rfl
@[simp] theorem rx_ld (M : Mem) (ag : Bool) (sz : Nat) (a : V) : readX M (.ld ag sz) [a] = (readA M sz a).bind fun cs=>CL ag cs:=rfl
@[simp] theorem mkAg_eq (cs : List V) : mkAg cs = match Bn cs with
  | some l=>.m (.ag l)
  | none=>.ag cs:=rfl
@[simp] theorem setD_mk (s : St) (n : Nat) (cs : List I) : Cu s (.v n) (.m (.ag cs)) = some { s with E:=BG s.E n (.m (.ag cs)) }:=rfl
@[simp] theorem fill_nil (cs : List V) : Qf cs [] [] = some cs:=rfl
@[simp] theorem ZY (cs : List V) (off sz : Nat) (ps : List (Nat × Nat)) (x : V) (xs : List V) : Qf cs ((off,sz) :: ps) (x :: xs) = (An x).bind fun l=>gd (Nat.beq l.length sz) ((EW cs off l).bind fun cs'=>Qf cs' ps xs):=rfl
@[simp] theorem YA (esz : Nat) (es : List (List V)) : Bw esz es [] [] = some es:=rfl
@[simp] theorem Wd (esz : Nat) (es : List (List V)) (ix : Nat) (ps : List Nat) (x : V) (xs : List V) : Bw esz es (ix :: ps) (x :: xs) = (An x).bind fun l=>gd (Nat.beq l.length esz) ((AD es ix l).bind fun es'=>Bw esz es' ps xs):=rfl
@[simp] theorem Yn {α : Type} (y : α) (r : List α) (x : α) : AD (y :: r) 0 x = some (x :: r):=rfl
@[simp] theorem NT {α : Type} (y : α) (r : List α) (n : Nat) (x : α) : AD (y :: r) (n + 1) x = (AD r n x).bind fun l=>some (y :: l):=rfl
@[simp] theorem px_bsl (esz : Nat) (z : List V) (n : Nat) (p : List Nat) (xs : List V) : Ai (.bsl esz z n p) xs = (Bw esz (List.replicate n z) p xs).bind fun es=>(Ac Bn es).bind fun l=>some (.ls l):=rfl
/- Elements. -/
@[simp] theorem ZN (n : Nat) (k : IntKind) (x : Int) : idx n (.m (.i k x)) = gd (decide (0 <= x /\ x < n)) (some x.toNat):=by
  cases x with
  | ofNat j =>
    show gd (Nat.blt j n) (some j) = _
    rw [He]
    congr 1
    simp
  | negSucc j =>
    have : ¬ (0 <= Int.negSucc j /\ Int.negSucc j < n):=by omega
    rw [Adr this]; rfl
@[simp] theorem Aap (n : Nat) (k : IntKind) (x : Int) : bnd n (.m (.i k x)) = gd (decide (0 <= x /\ x <= n)) (some x.toNat):=by
  cases x with
  | ofNat j =>
    show gd (Nat.ble j n) (some j) = _
    rw [AZ]
    congr 1
    simp
  | negSucc j =>
    have : ¬ (0 <= Int.negSucc j /\ Int.negSucc j <= n):=by omega
    rw [Adr this]; rfl
@[simp] theorem Zk (esz : Nat) (es : List (List I)) (i : V) : Ai (.ixa esz) [.m (.sl es),i] = (idx es.length i).bind fun j=>(nth es j).bind fun e=>gd (Nat.beq e.length esz) (some (.m (.pt e))):=rfl
@[simp] theorem Zl (esz : Nat) (es : List (List I)) (i : V) : Ai (.ixa esz) [.ls es,i] = (idx es.length i).bind fun j=>(nth es j).bind fun e=>gd (Nat.beq e.length esz) (some (.m (.pt e))):=rfl
@[simp] theorem Ys (esz r ver e st len : Nat) (lim : Bool) (i : V) : Ai (.ixa esz) [.sl r ver e st len lim,i] = gd (Nat.beq esz e) ((idx len i).bind fun j=>some (.pt r ver (st + j) 0)):=rfl
@[simp] theorem Yu (n esz d o : Nat) (i : V) : Ai (.ixaA n esz) [.fa d o,i] = (idx n i).bind fun j=>some (.fa d (o + j * esz)):=rfl
@[simp] theorem Yt (n esz : Nat) (cs : List I) (i : V) : Ai (.ixaA n esz) [.m (.pt cs),i] = (idx n i).bind fun j=>some (.m (.pt (cs.drop (j * esz)))):=rfl
@[simp] theorem px_ixv (n esz : Nat) (ag : Bool) (x i : V) : Ai (.ixv n esz ag) [x,i] = (idx n i).bind fun j=>(Wt x).bind fun cs=>(CM esz (cs.drop (j * esz))).bind fun l=>CL ag l:=rfl
@[simp] theorem px_ixs (l : List Nat) (i : V) : Ai .ixs [.m (.s l),i] = (idx l.length i).bind fun j=>(nth l j).bind fun c=>some (.m (.i .u8 (c : Int))):=rfl
theorem AC {α : Type} : ∀ (l : List α) (j : Nat),nth l j = l[j]?
  | [],n=>by cases n <;> rfl
  | _ :: _,0=>rfl
  | _ :: r,n + 1=>by rw [SD,AC r n]; simp
@[simp] theorem px_slc_s (lo hi mx : Bool) (l : List Nat) (vs : List V) : Ai (.slc 0 lo hi mx) (.m (.s l) :: vs) = gd (!mx) ((Ji l.length lo hi mx vs).bind fun p=>some (.m (.s ((l.drop p.1).take (p.2 - p.1))))):=rfl
@[simp] theorem bnds_ff (n : Nat) : Ji n false false false [] = some (0,n):=rfl
@[simp] theorem bnds_tf (n : Nat) (a : V) : Ji n true false false [a] = (bnd n a).bind fun l=>some (l,n):=rfl
@[simp] theorem bnds_ft (n : Nat) (b : V) : Ji n false true false [b] = (bnd n b).bind fun h=>some (0,h):=rfl
@[simp] theorem bnds_tt (n : Nat) (a b : V) : Ji n true true false [a,b] = (bnd n b).bind fun h=>(bnd h a).bind fun l=>some (l,h):=rfl
@[simp] theorem Yp (M : Mem) (n esz : Nat) (lo hi mx : Bool) (cs : List I) (vs : List V) : readX M (.slcA n esz lo hi mx) (.m (.pt cs) :: vs) = gd (Nat.beq cs.length (n * esz) && Nat.ble n 9223372036854775807) ((Ji n lo hi mx vs).bind fun p=>some (match mx || Nat.beq p.2 n with
      | true=>.ls (((BK esz n cs).drop p.1).take (p.2 - p.1))
      | false=>.m (.sl (((BK esz n cs).drop p.1).take (p.2 - p.1))))):=rfl
@[simp] theorem nat_beq (a b : Nat) : Nat.beq a b = decide (a = b):=Hg a b
@[simp] theorem ZI : Er 4 (.m (.nl 4)) = some true:=rfl
@[simp] theorem ZH (es : List (List I)) : Er 4 (.m (.sl es)) = some false:=rfl
@[simp] theorem ZJ (es : List (List I)) : Er 4 (.ls es) = some false:=rfl
@[simp] theorem Yy (a b c d e : Nat) (f : Bool) : Er 4 (.sl a b c d e f) = some false:=rfl
/- Appending to rows. -/
@[simp] theorem Do (c : Ba) (M : Mem) (ty esz b : Nat) (s x : V) : Af c M (.app ty esz b) [s,x] = match x with
    | .m (.s l)=>Ek M ty esz b s (l.map fun c : Nat=>[.m (.i .u8 (Int.ofNat c))])
    | x=>(elems M.H x).bind fun xs=>Ek M ty esz b s xs:=rfl
@[simp] theorem elems_nl (H : Hp) : elems H (.m (.nl 4)) = some []:=rfl
@[simp] theorem elems_sl (H : Hp) (es : List (List I)) : elems H (.m (.sl es)) = some (AY es):=rfl
@[simp] theorem elems_ls (H : Hp) (es : List (List I)) : elems H (.ls es) = some (AY es):=rfl
@[simp] theorem immS_nil : AY [] = []:=rfl
@[simp] theorem ZL (e : List I) (r : List (List I)) : AY (e :: r) = e.map .m :: AY r:=rfl
@[simp] theorem SX : Ey [] [] [] = some true:=rfl
@[simp] theorem Qi (k : Nat) (ks : List Nat) (x y : I) (xs ys : List I) : Ey (k :: ks) (x :: xs) (y :: ys) = (eqC k x y).bind fun r=>(Ey ks xs ys).bind fun rs=>some (r && rs):=rfl
@[simp] theorem Aab (k : IntKind) (x y : Int) : eqC 1 (.i k x) (.i k y) = some (decide (x = y)):=by
  simp only [eqC,IG,Dg]
  rfl
@[simp] theorem eqC_b (x y : Bool) : eqC 0 (.b x) (.b y) = some (x == y):=rfl
@[simp] theorem eqC_s (x y : List Nat) : eqC 2 (.s x) (.s y) = some (decide (x = y)):=by
  simp only [eqC,DN]
  rfl
/- Calls of a function's value. -/
def CavK (G : Cfg) (g : Option V) (vs : Option (List V)) (s : St) (d : Dst) (r : List Op) (k : K) : Prop:=Ck g fun g=>match g with
  | .m (.fn f cap)=>Hv G f (vs.map fun l=>l ++ cap.map .m) s d r k
  | .fn f cap=>Hv G f (vs.map fun l=>l ++ cap) s d r k
  | .yl r0=>Hv G yN (vs.map fun l=>.yl r0 :: l) s d r k
  | _=>False
section
variable {G : Cfg}
theorem TW (hG : Bp G) (d : Dst) (g : Opnd) (az : List Opnd) (s : St) (r : List Op) (k : K) : Bz G (some s) (⟨d,.l .cav,g :: az,none⟩ :: r) k = CavK G (evA s g) (Ac (evA s) az) s d r k:=by
  simp only [Bz,AO,DZ hG,CavK]
  apply propext
  simp only [Gd,Dp,Ao,AcS,AN,gd,evO,Ac,AcL,Ck,Hv,Ret]
  constructor
  · rintro ⟨n,s',⟨vs,⟨gv,hg,as',has,hvs⟩,⟨v,M⟩,hl,hset⟩,hq⟩
    simp only [AcM] at hvs
    subst hvs
    refine ⟨gv,hg,?_⟩
    simp only [Af] at hl
    split at hl
    · rename_i f cap
      simp only [AcL,AcM,AcN] at hl
      obtain ⟨⟨r0,H'⟩,h2,rfl,rfl⟩:=hl
      exact ⟨_,by rw [has]; rfl,n,_,_,h2,s',hset,hq⟩
    · rename_i f cap
      simp only [AcL,AcM,AcN] at hl
      obtain ⟨⟨r0,H'⟩,h2,rfl,rfl⟩:=hl
      exact ⟨_,by rw [has]; rfl,n,_,_,h2,s',hset,hq⟩
    · rename_i r0
      simp only [AcL,AcM,AcN] at hl
      obtain ⟨⟨u0,H'⟩,h2,rfl,rfl⟩:=hl
      exact ⟨_,by rw [has]; rfl,n,_,_,h2,s',hset,hq⟩
    · cases hl
  · rintro ⟨gv,hg,h⟩
    split at h
    · rename_i f cap
      obtain ⟨vs,hvs,n,v,H',h2,s',hset,hq⟩:=h
      cases ha : Ac (evA s) az with
      | none=>rw [ha] at hvs; cases hvs
      | some as' =>
        rw [ha] at hvs
        cases hvs
        refine ⟨n,s',⟨_,⟨_,hg,as',rfl,rfl⟩,(v,{ s.M with H:=H' }),?_,hset⟩,hq⟩
        simp only [Af,AcL]
        exact ⟨(v,H'),h2,rfl⟩
    · rename_i f cap
      obtain ⟨vs,hvs,n,v,H',h2,s',hset,hq⟩:=h
      cases ha : Ac (evA s) az with
      | none=>rw [ha] at hvs; cases hvs
      | some as' =>
        rw [ha] at hvs
        cases hvs
        refine ⟨n,s',⟨_,⟨_,hg,as',rfl,rfl⟩,(v,{ s.M with H:=H' }),?_,hset⟩,hq⟩
        simp only [Af,AcL]
        exact ⟨(v,H'),h2,rfl⟩
    · rename_i r0
      obtain ⟨vs,hvs,n,v,H',h2,s',hset,hq⟩:=h
      cases ha : Ac (evA s) az with
      | none=>rw [ha] at hvs; cases hvs
      | some as' =>
        rw [ha] at hvs
        cases hvs
        refine ⟨n,s',⟨_,⟨_,hg,as',rfl,rfl⟩,(v,{ s.M with H:=H' }),?_,hset⟩,hq⟩
        simp only [Af,AcL]
        exact ⟨(v,H'),h2,rfl⟩
    · exact h.elim
theorem Cs {f : Nat} {is : List I} {vs : List V} {H H0 : Hp} {v : V} (hp : G.prim f = none) (hs : G.sh f = false) (h : Gives G f (is.map .m) H0 v H0) (hv : Ac (view 20 H) vs = some is)
    (hr : (vs.flatMap EJ = [] /\ vs.all Bv = true) \/ (vs.flatMap EJ ≠ [] /\ Hy v = true)) : Gives G f vs H v H:=by
  obtain ⟨n,h⟩:=h
  cases n with
  | zero=>simp [Bg] at h
  | succ n =>
    refine ⟨n + 1,?_⟩
    simp only [Bg,hp,hs] at h ⊢
    cases hfn : G.fn f with
    | none =>
      rw [hfn] at h
      simp only [Ab] at h
      obtain ⟨_,h⟩:=h
      cases is <;> simp [Dx] at h
    | some fn =>
    rw [hfn] at h
    simp only at h ⊢
    have hm : ∀ (l : List I),Ac (view 20 H0) (l.map V.m) = some l:=by
      intro l
      induction l with
      | nil=>rfl
      | cons a r ih=>simp only [Adp,Ac,LX,ih]; rfl
    have hz : (is.map V.m).flatMap EJ = []:=by
      induction is with
      | nil=>rfl
      | cons a r _=>simp [EJ,HK]
    unfold DA at h ⊢
    simp only [hm,hz,AcL] at h
    obtain ⟨is',he,⟨v1,H1⟩,hev,r,hr1,h2⟩:=h
    cases he
    have hrv : r = v:=by
      cases hsh : (is.map V.m).all Bv with
      | false=>rw [hsh] at h2; simp at h2
      | true=>rw [hsh] at h2; simp at h2; exact h2
    subst hrv
    simp only [hv,AcS,hev,hr1]
    rcases hr with ⟨e1,e2⟩ | ⟨e1,e2⟩
    · rw [e1]
      simp [e2]
    · cases hl : vs.flatMap EJ with
      | nil=>exact absurd hl e1
      | cons a b=>simp [e2]
end
/- Shifts, and the last bit. -/
@[simp] theorem Aas : Ko .i64 = 64:=rfl
@[simp] theorem Aar : Ko .u64 = 64:=rfl
@[simp] theorem bx_shr (k k' : IntKind) (x y : Int) : Dj .shr (.m (.i k x)) (.m (.i k' y)) = gd (decide (0 <= y)) (some (.m (.i k (x / ((2 ^ min y.toNat (Ko k) : Nat) : Int))))):=by
  cases y with
  | ofNat n =>
    have : decide (0 <= Int.ofNat n) = true:=by simp
    rw [this,GQ,<- Int.fdiv_eq_ediv_of_nonneg _ (Int.natCast_nonneg _)]
    rfl
  | negSucc n=>rfl
theorem Ul (k : IntKind) (x y : Int) : Dj .and (.m (.i k x)) (.m (.i k y)) = some (.m (.i k (wr k (Int.ofNat (Nat.land (Fp k x) (Fp k y)))))):=by simp [Dj,arX,vi]
@[simp] theorem bx_and1 (x : Int) : Dj .and (.m (.i .i64 x)) (.m (.i .i64 1)) = some (.m (.i .i64 (x % 2))):=by
  have h1 : Fp .i64 1 = 1:=rfl
  have h2 : Nat.land (Fp .i64 x) 1 = Fp .i64 x % 2:=Nat.and_one_is_mod _
  have h3 : ((Fp .i64 x % 2 : Nat) : Int) = x % 2:=by
    cases x with
    | ofNat m=>simp only [Fp,Jh,Int.ofNat_eq_natCast]; omega
    | negSucc m=>simp only [Fp,Jh]; omega
  rw [Ul,h1,h2]
  have h4 : (Int.ofNat (Fp .i64 x % 2)) = x % 2:=h3
  rw [h4,Aa (by omega) (by omega)]
/- Rows of mutable memory. -/
@[simp] theorem ZT (s : St) (a b c : Nat) : AN s (.l (.bxs a b c)) = true:=rfl
@[simp] theorem loud_bxs (c : Ba) (M : Mem) (ty esz n : Nat) (x : V) : Af c M (.bxs ty esz n) [x] = (An x).bind fun cs=>gd (Nat.beq cs.length (n * esz) && Nat.ble 1 esz && Nat.ble 1 n && Nat.ble n 9223372036854775807) (some (.pt M.H.length n 0 0,{ M with H:=M.H ++ [.cs ty esz (BK esz n cs) 0 false] })):=rfl
@[simp] theorem loud_als (c : Ba) (M : Mem) (ty esz n : Nat) (z : List V) : Af c M (.als ty esz n z) [] = gd (Nat.beq z.length (n * esz) && Nat.ble 1 esz && Nat.ble 1 n && Nat.ble n 9223372036854775807) (some (.pt M.H.length n 0 0,{ M with H:=M.H ++ [.cs ty esz (BK esz n z) 0 false] })):=rfl
@[simp] theorem Vy (n esz r ver ix o : Nat) (i : V) : Ai (.ixaA n esz) [.pt r ver ix o,i] = (idx n i).bind fun j=>some (.pt r ver ix (o + j * esz)):=rfl
@[simp] theorem Vq (M : Mem) (n esz r ver : Nat) (lo hi mx : Bool) (vs : List V) : readX M (.slcA n esz lo hi mx) (.pt r ver 0 0 :: vs) = (nth M.H r).bind fun row=>match row with
      | .cs _ esz' es _ _=>gd (Nat.beq esz esz' && Nat.beq es.length n && Nat.beq ver n) ((Ji n lo hi mx vs).bind fun p=>some (.sl r ver esz p.1 (p.2 - p.1) (mx || Nat.beq p.2 n)))
      | _=>none:=rfl
@[simp] theorem Zd (M : Mem) (sz r ver ix off : Nat) : readA M sz (.pt r ver ix off) = (nth M.H r).bind fun row=>match row with
    | .cs _ esz es base _=>gd (Nat.ble base ver && (Nat.ble (off + sz) esz || Nat.beq ver es.length)) (EU esz es ix off sz)
    | _=>none:=rfl
@[simp] theorem nat_ble (a b : Nat) : Nat.ble a b = decide (a <= b):=AZ a b
@[simp] theorem chunk_0 {α : Type} (e : Nat) (l : List α) : BK e 0 l = []:=rfl
@[simp] theorem chunk_s {α : Type} (e n : Nat) (l : List α) : BK e (n + 1) l = l.take e :: BK e n (l.drop e):=rfl
@[simp] theorem MF : ∀ (E : Env) (n : Nat) (x : V),BJ (BG E n x) n = some x
  | [],n,x=>by simp
  | (k,y) :: r,n,x=>by
    rw [Gu]
    by_cases h1 : n < k
    · rw [AcY h1]; simp
    · rw [AcQ h1]
      by_cases h2 : k = n
      · rw [AcY h2]; simp
      · rw [AcQ h2,Cb,AcQ h2,MF r n x]
@[simp] theorem MG : ∀ (B : List (Nat × List V)) (n : Nat) (x : List V),getB (Dw B n x) n = some x
  | [],n,x=>by simp
  | (k,y) :: r,n,x=>by
    rw [DG]
    by_cases h2 : k = n
    · rw [AcY h2]; simp
    · rw [AcQ h2]
      by_cases h3 : n < k
      · rw [AcY h3]; simp
      · rw [AcQ h3,De,AcQ h2,MG r n x]
@[simp] theorem Sd : ∀ (B : List (Nat × List V)) (n : Nat) (x y : List V),Dw (Dw B n x) n y = Dw B n y
  | [],n,x,y=>by simp
  | (k,z) :: r,n,x,y=>by
    rw [DG,DG]
    by_cases h2 : k = n
    · rw [AcY h2,AcY h2]; simp
    · rw [AcQ h2,AcQ h2]
      by_cases h3 : n < k
      · rw [AcY h3,AcY h3]; simp
      · rw [AcQ h3,AcQ h3,DG,AcQ h2,AcQ h3,Sd r n x y]
@[simp] theorem GP : ∀ (E : Env) (m n : Nat) (x : V),m ≠ n -> BJ (BG E m x) n = BJ E n
  | [],m,n,x,h=>by simp [h]
  | (k,y) :: r,m,n,x,h=>by
    rw [Gu]
    by_cases h1 : m < k
    · rw [AcY h1,Cb,AcQ h]
    · rw [AcQ h1]
      by_cases h2 : k = m
      · subst h2
        rw [AcY rfl,Cb,Cb,AcQ h,AcQ h]
      · rw [AcQ h2,Cb,Cb,GP r m n x h]
@[simp] theorem Yl (l : List V) : CM 0 l = some []:=rfl
@[simp] theorem Ym (n : Nat) (x : V) (r : List V) : CM (n + 1) (x :: r) = (CM n r).bind fun l=>some (x :: l):=by
  unfold CM
  simp only [List.take_succ_cons,Ado,Hg]
  by_cases h : (r.take n).length = n
  · have : (r.take n).length + 1 = n + 1:=by omega
    simp only [h,decide_true,GQ,AcS]
  · have : ¬ (r.take n).length + 1 = n + 1:=by omega
    simp only [h,this,decide_false,SQ,Option.bind_none]
/- The greatest and the least. -/
@[simp] theorem px_mm (mx : Bool) (k : IntKind) (x : Int) (r : List V) : Ai (.mm mx) (.m (.i k x) :: r) = mmX mx k x r:=rfl
@[simp] theorem mmX_nil (mx : Bool) (k : IntKind) (x : Int) : mmX mx k x [] = some (.m (.i k x)):=rfl
theorem VN (x y : Int) : Zw x y = max x y:=by
  unfold Zw
  rw [Cm]
  by_cases h : x < y
  · simp only [h,decide_true]; omega
  · simp only [h,decide_false]; omega
theorem VM (x y : Int) : Zu x y = min x y:=by
  unfold Zu
  rw [Cm]
  by_cases h : y < x
  · simp only [h,decide_true]; omega
  · simp only [h,decide_false]; omega
@[simp] theorem mmX_max (k k' : IntKind) (x y : Int) (r : List V) : mmX true k x (.m (.i k' y) :: r) = mmX true k (max x y) r:=by rw [<- VN]; rfl
@[simp] theorem mmX_min (k k' : IntKind) (x y : Int) (r : List V) : mmX false k x (.m (.i k' y) :: r) = mmX false k (min x y) r:=by rw [<- VM]; rfl
end Go.Mx
/- Walking the machine: rules for rows of mutable memory. -/
namespace Go.Mx
/- Rows of one cell an element. -/
@[simp] theorem loud_mks (c : Ba) (M : Mem) (ty esz : Nat) (z : List V) (b : Nat) (a : V) (n : Int) : Af c M (.mks ty esz z b) [a,.m (.i .i64 n)] = (VL n).bind fun c=>(bnd c a).bind fun n=>gd (Nat.ble (c * b) 281474976710656 && Nat.ble c 9223372036854775807 && Nat.ble 1 esz && Nat.beq z.length esz)
      (some (.sl M.H.length n esz 0 n (Nat.beq n c),{ M with H:=M.H ++ [.cs ty esz (List.replicate n z) 0 false] })):=by
  cases n <;> rfl
@[simp] theorem Zt (n : Nat) : VL (n : Int) = some n:=rfl
@[simp] theorem readR_10 (es : List (List V)) (ix : Nat) : EU 1 es ix 0 1 = (nth es ix).bind fun e=>CM 1 e:=rfl
@[simp] theorem Yk (M : Mem) (xs : List V) (r ver ix off : Nat) : Es M xs (.pt r ver ix off) = (nth M.H r).bind fun row=>match row with
    | .cs ty esz es _ fz=>gd (!fz && Nat.beq ver es.length) ((Ct esz es ix off xs).bind fun es'=>(AD M.H r (.cs ty esz es' es.length false)).bind fun H'=>some { M with H:=H' })
    | _=>none:=rfl
@[simp] theorem BM (es : List (List V)) (ix : Nat) (x : V) : Ct 1 es ix 0 [x] = (nth es ix).bind fun e=>(EW e 0 [x]).bind fun e'=>AD es ix e':=rfl
theorem As {α : Type} : ∀ (l : List α) (n : Nat) (x : α),n < l.length -> AD l n x = some (l.set n x)
  | [],n,x,h=>by simp at h
  | _ :: r,0,x,h=>rfl
  | y :: r,n + 1,x,h=>by
    simp only [Ado] at h
    rw [NT,As r n x (by omega)]
    rfl
@[simp] theorem KX : ∀ (B : List (Nat × List V)) (m n : Nat) (x : List V),m ≠ n -> getB (Dw B m x) n = getB B n
  | [],m,n,x,h=>by simp [h]
  | (k,y) :: r,m,n,x,h=>by
    rw [DG]
    by_cases h2 : k = m
    · subst h2
      rw [AcY rfl,De,De,AcQ h,AcQ h]
    · rw [AcQ h2]
      by_cases h3 : m < k
      · rw [AcY h3,De,AcQ h]
      · rw [AcQ h3,De,De,KX r m n x h]
end Go.Mx
/- Walking the machine: appending to rows of ints. -/
namespace Go.Mx
def CV (l : List Int) : List (List I):=l.map fun x=>[.i .i64 x]
theorem CJ (l : List Int) : (CV l).length = l.length:=by simp [CV]
theorem IL {l : List Int} {i : Nat} {x : Int} (h : l[i]? = some x) : nth (CV l) i = some [.i .i64 x]:=by
  rw [AC]; simp [CV,h]
@[simp] theorem appX_nl (M : Mem) (ty esz b : Nat) (x : List V) (xs : List (List V)) : Ek M ty esz b (.m (.nl 4)) (x :: xs) = Bq M ty esz b (x :: xs):=rfl
@[simp] theorem BZ (M : Mem) (ty esz b : Nat) (es : List (List V)) : Bq M ty esz b es = gd (Nat.ble (es.length * b) 140737488355328 && Nat.ble 1 esz && es.all fun e=>Nat.beq e.length esz && e.all BA)
    (some (.sl M.H.length es.length esz 0 es.length false,{ M with H:=M.H ++ [.cs ty esz es 0 false] })):=rfl
end Go.Mx
/- Walking the machine: induction on a measure; slices that may be nil; tests kept as ifs. Nothing here speaks of a program. -/
namespace Go.Mx
theorem Ef {α : Type} (m : α -> Nat) {P : α -> Prop} (h : ∀ a,(∀ b,m b < m a -> P b) -> P a) : ∀ a,P a:=fun a=>(measure m).wf.induction a h
def IsSl (y : I) (es : List (List I)) : Prop:=y = .sl es \/ (y = .nl 4 /\ es = [])
theorem CO (es : List (List I)) : IsSl (.sl es) es:=.inl rfl
theorem BW : IsSl (.nl 4) []:=.inr ⟨rfl,rfl⟩
theorem idx_0 (v : V) : idx 0 v = none:=by
  unfold idx
  split
  · rfl
  · rfl
theorem IsSl.len {y : I} {es : List (List I)} (h : IsSl y es) : Ai (.len false) [.m y] = some (.m (.i .i64 es.length)):=by
  rcases h with rfl | ⟨rfl,rfl⟩ <;> rfl
theorem IsSl.ixa {y : I} {es : List (List I)} (h : IsSl y es) (esz : Nat) (i : V) : Ai (.ixa esz) [.m y,i] = (idx es.length i).bind fun j=>(nth es j).bind fun e=>gd (Nat.beq e.length esz) (some (.m (.pt e))):=by
  rcases h with rfl | ⟨rfl,rfl⟩
  · rfl
  · rw [AdC,idx_0]; rfl
theorem IsSl.elems {y : I} {es : List (List I)} (h : IsSl y es) (H : Hp) : Mx.elems H (.m y) = some (AY es):=by
  rcases h with rfl | ⟨rfl,rfl⟩ <;> rfl
theorem IsSl.rules {y : I} {es : List (List I)} (h : IsSl y es) : (Ai (.len false) [.m y] = some (.m (.i .i64 es.length))) /\ (∀ (esz : Nat) (i : V),Ai (.ixa esz) [.m y,i] = (idx es.length i).bind fun j=>(nth es j).bind fun e=>gd (Nat.beq e.length esz) (some (.m (.pt e)))) /\ (∀ H,Mx.elems H (.m y) = some (AY es)):=⟨h.len,h.ixa,h.elems⟩
/- A region's own slots as a stack: what is set last lies ahead. -/
def canon : Env -> Env
  | []=>[]
  | (n,v) :: r=>BG (canon r) n v
theorem HU : ∀ (L : Env) (n : Nat),BJ (canon L) n = BJ L n
  | [],n=>rfl
  | (k,x) :: r,n=>by
    simp only [canon]
    by_cases h : k = n
    · subst h; rw [MF,Cb,AcY rfl]
    · rw [GP _ _ _ _ h,Cb,AcQ h,HU r n]
theorem PK (d n : Nat) (x : V) (r : Env) (h : BB d ((n,x) :: r) = true) : BB d [(n,x)] = true /\ BB d r = true:=by
  cases x <;> simp_all [BB]
theorem Iq (d n : Nat) (x : V) (r : Env) (h1 : BB d [(n,x)] = true) (h2 : BB d r = true) : BB d ((n,x) :: r) = true:=by
  cases x <;> simp_all [BB]
theorem JE (d n : Nat) (x : V) (hx : BB d [(n,x)] = true) : ∀ (L : Env),BB d L = true -> BB d (BG L n x) = true
  | [],_=>hx
  | (k,y) :: r,h=>by
    obtain ⟨h1,h2⟩:=PK d k y r h
    rw [Gu]
    by_cases a : n < k
    · rw [AcY a]; exact Iq d n x _ hx h
    · rw [AcQ a]
      by_cases b : k = n
      · rw [AcY b]; exact Iq d n x _ hx h2
      · rw [AcQ b]; exact Iq d k y _ h1 (JE d n x hx r h2)
theorem Fq (d : Nat) : ∀ (L : Env),BB d L = true -> BB d (canon L) = true
  | [],_=>rfl
  | (k,x) :: r,h=>by
    obtain ⟨h1,h2⟩:=PK d k x r h
    exact JE d k x h1 _ (Fq d r h2)
def nf1 (d : Nat) : V -> Bool
  | .fa k _=>!Nat.beq k d
  | _=>true
def nf (d : Nat) : Env -> Bool
  | []=>true
  | (_,x) :: r=>nf1 d x && nf d r
theorem KV (d : Nat) : ∀ (L : Env),nf d L = true -> BB d L = true
  | [],_=>rfl
  | (k,x) :: r,h=>by
    simp only [nf,AcP] at h
    refine Iq d k x r ?_ (KV d r h.2)
    have h1:=h.1
    cases x <;> simp_all [BB,nf1]
@[simp] theorem nf_nil (d : Nat) : nf d [] = true:=by simp only [nf]
@[simp] theorem nf_cons (d n : Nat) (x : V) (r : Env) : nf d ((n,x) :: r) = (nf1 d x && nf d r):=by simp only [nf]
@[simp] theorem nf1_m (d : Nat) (x : I) : nf1 d (.m x) = true:=by simp only [nf1]
@[simp] theorem nf1_pt (d a b c e : Nat) : nf1 d (.pt a b c e) = true:=by simp only [nf1]
@[simp] theorem nf1_ag (d : Nat) (a : List V) : nf1 d (.ag a) = true:=by simp only [nf1]
@[simp] theorem nf1_tu (d : Nat) (a : List V) : nf1 d (.tu a) = true:=by simp only [nf1]
def cs (s : St) : St:={ s with L:=canon s.L }
theorem GW (s : St) : evA (cs s) = evA s:=by
  funext o
  cases o with
  | v n=>rfl
  | l n=>exact HU s.L n
  | k x=>rfl
theorem DE (s : St) (g : Option (Opnd × Bool)) : Ao (cs s) g = Ao s g:=by
  cases g with
  | none=>rfl
  | some g=>rw [Gq,Gq,GW]
def CG (s : St) (d : Dst) (x : V) : Option St:=match d with
  | .no=>some s
  | .v n=>gd (DJ n x) (some { s with E:=BG s.E n x })
  | .l n=>some { s with L:=(n,x) :: s.L }
theorem Dl (s : St) (d : Dst) (x : V) : (CG s d x).map cs = Cu (cs s) d x:=by
  cases d with
  | no=>rfl
  | v n =>
    simp only [CG,Cu]
    cases DJ n x <;> rfl
  | l n=>rfl
def Ap (G : Cfg) (s : Option St) (ops : List Op) (k : K) : Prop:=Bz G (s.map cs) ops k
def DD (G : Cfg) (f : Nat) (vs : Option (List V)) (s : St) (d : Dst) (r : List Op) (k : K) : Prop :=
  Ck vs fun vs=>Ret G f vs s.M.H fun v H'=>Ap G (CG { s with M:={ s.M with H:=H' } } d v) r k
def FU (G : Cfg) (q : Option Bool) (f : Nat) (az : List Opnd) (s : St) (d : Dst) (r : List Op) (k : K) : Prop:=Ck q fun q=>if q then DD G f (Ac (evA s) az) s d r k else Ap G (CG s d .un) r k
def RQ (G : Cfg) (g : Option V) (vs : Option (List V)) (s : St) (d : Dst) (r : List Op) (k : K) : Prop:=Ck g fun g=>match g with
  | .m (.fn f cap)=>DD G f (vs.map fun l=>l ++ cap.map .m) s d r k
  | .fn f cap=>DD G f (vs.map fun l=>l ++ cap) s d r k
  | .yl r0=>DD G yN (vs.map fun l=>.yl r0 :: l) s d r k
  | _=>False
def LU (G : Cfg) (q : Option Bool) (g : Opnd) (az : List Opnd) (s : St) (d : Dst) (r : List Op) (k : K) : Prop:=Ck q fun q=>if q then RQ G (evA s g) (Ac (evA s) az) s d r k else Ap G (CG s d .un) r k
def Gs (s : St) (o : OP) (az : List Opnd) (d : Dst) : Option St:=(Ac (evA s) az).bind fun vs=>(Ai o vs).bind fun v=>CG s d v
def Gr (s : St) (o : OR) (az : List Opnd) (d : Dst) : Option St:=(Ac (evA s) az).bind fun vs=>(readX s.M o vs).bind fun v=>CG s d v
def AX (s : St) (o : OL) (az : List Opnd) (d : Dst) : Option St:=(Ac (evA s) az).bind fun vs=>(Af (fun _ _ _=>none) s.M o vs).bind fun p=>CG { s with M:=p.2 } d p.1
theorem Da {α β γ : Type} (x : Option α) (f : α -> Option β) (g : β -> γ) : (x.bind f).map g = x.bind fun a=>(f a).map g:=by cases x <;> rfl
theorem Md (s : St) (o : OP) (az : List Opnd) (d : Dst) : (Gs s o az d).map cs = Jp (cs s) o az d:=by
  simp only [Gs,Jp,Da,Dl,GW]
theorem Mc (s : St) (o : OR) (az : List Opnd) (d : Dst) : (Gr s o az d).map cs = stepR (cs s) o az d:=by
  simp only [Gr,stepR,Da,Dl,GW]
  rfl
theorem Me (s : St) (o : OL) (az : List Opnd) (d : Dst) (hf : AN s (.l o) = true) : (AX s o az d).map cs = DF (cs s) o az d:=by
  have h : AN (cs s) (.l o) = true:=by
    cases o with
    | alp d z=>exact Fq d _ hf
    | bxp d z=>exact Fq d _ hf
    | _=>rfl
  simp only [AX,DF,h,GQ,Da,GW]
  congr 1
  funext vs
  show (Af _ s.M o vs).bind _ = (Af _ s.M o vs).bind _
  congr 1
  funext p
  exact Dl { s with M:=p.2 } d p.1
section
variable {G : Cfg}
theorem Sq (ops : List Op) (E : Env) (M : Mem) (k : K) : Run G (.reg ops) ⟨E,[],M⟩ k = Ap G (some ⟨E,[],M⟩) ops k:=Mk ops _ k
theorem PA (s : St) (k : K) : Ap G (some s) [] k = At' G .nm { s with L:=[] } k:=Mm (cs s) k
theorem HJ (ops : List Op) (k : K) : Ap G none ops k = False:=Jv ops k
theorem Sy (b : Bool) (s : Option St) (ops : List Op) (k : K) : Ap G (gd b s) ops k = (b = true /\ Ap G s ops k):=by
  cases b with
  | true=>simp [gd]
  | false=>simp only [gd,HJ]; simp
theorem Vx (hG : Bp G) (d : Dst) (o : OP) (az : List Opnd) (s : St) (r : List Op) (k : K) : Ap G (some s) (⟨d,.p o,az,none⟩ :: r) k = Ap G (Gs s o az d) r k:=by
  unfold Ap
  rw [Md]
  exact Pz hG d o az (cs s) r k
theorem Vw (hG : Bp G) (d : Dst) (o : OR) (az : List Opnd) (s : St) (r : List Op) (k : K) : Ap G (some s) (⟨d,.r o,az,none⟩ :: r) k = Ap G (Gr s o az d) r k:=by
  unfold Ap
  rw [Mc]
  exact Py hG d o az (cs s) r k
theorem Sw (hG : Bp G) (d : Dst) (o : OP) (az : List Opnd) (g : Opnd) (want : Bool) (s : St) (r : List Op) (k : K) :
    Ap G (some s) (⟨d,.p o,az,some (g,want)⟩ :: r) k = Ap G (Br (Ao s (some (g,want))) (Gs s o az d) (CG s d .un)) r k:=by
  unfold Ap
  have : ∀ q a b,(Br q a b).map cs = Br q (a.map cs) (b.map cs):=fun q a b=>by
    unfold Br
    rw [Da]
    congr 1
    funext q
    cases q <;> rfl
  rw [this,Md,Dl,<- DE]
  exact FL hG d o az g want (cs s) r k
theorem Sv (hG : Bp G) (d : Dst) (o : OR) (az : List Opnd) (g : Opnd) (want : Bool) (s : St) (r : List Op) (k : K) :
    Ap G (some s) (⟨d,.r o,az,some (g,want)⟩ :: r) k = Ap G (Br (Ao s (some (g,want))) (Gr s o az d) (CG s d .un)) r k:=by
  unfold Ap
  have : ∀ q a b,(Br q a b).map cs = Br q (a.map cs) (b.map cs):=fun q a b=>by
    unfold Br
    rw [Da]
    congr 1
    funext q
    cases q <;> rfl
  rw [this,Mc,Dl,<- DE]
  exact FK hG d o az g want (cs s) r k
theorem Fd (f : Nat) (vs : Option (List V)) (s : St) (d : Dst) (r : List Op) (k : K) : Hv G f vs (cs s) d r k = DD G f vs s d r k:=by
  unfold Hv DD Ap
  congr 1
  funext vs
  congr 1
  funext v H'
  rw [Dl]
  rfl
theorem NX (hG : Bp G) (d : Dst) (f : Nat) (az : List Opnd) (s : St) (r : List Op) (k : K) : Ap G (some s) (⟨d,.l (.cal f),az,none⟩ :: r) k = DD G f (Ac (evA s) az) s d r k:=by
  rw [<- Fd,<- GW]
  exact GA hG d f az (cs s) r k
theorem KQ (hG : Bp G) (d : Dst) (f : Nat) (az : List Opnd) (g : Opnd) (want : Bool) (s : St) (r : List Op) (k : K) :
    Ap G (some s) (⟨d,.l (.cal f),az,some (g,want)⟩ :: r) k = FU G (Ao s (some (g,want))) f az s d r k:=by
  have h:=DH hG d f az g want (cs s) r k
  have e : Jg G (Ao (cs s) (some (g,want))) f az (cs s) d r k = FU G (Ao s (some (g,want))) f az s d r k:=by
    unfold Jg FU
    rw [DE,GW]
    congr 1
    funext q
    cases q with
    | true=>simp [Fd]
    | false=>unfold Ap; simp [Dl]
  exact h.trans e
theorem KP (hG : Bp G) (d : Dst) (o : OL) (az : List Opnd) (s : St) (r : List Op) (k : K) (h1 : ∀ f,o ≠ .cal f) (h2 : o ≠ .cav) (hf : AN s (.l o) = true) : Ap G (some s) (⟨d,.l o,az,none⟩ :: r) k = Ap G (AX s o az d) r k:=by
  unfold Ap
  rw [Me s o az d hf]
  exact GJ hG d o az (cs s) r k fun c vs=>It h1 h2 c _ vs
theorem Sx (hG : Bp G) (d : Dst) (o : OL) (az : List Opnd) (g : Opnd) (want : Bool) (s : St) (r : List Op) (k : K) (h1 : ∀ f,o ≠ .cal f) (h2 : o ≠ .cav) (hf : AN s (.l o) = true) :
    Ap G (some s) (⟨d,.l o,az,some (g,want)⟩ :: r) k = Ap G (Br (Ao s (some (g,want))) (AX s o az d) (CG s d .un)) r k:=by
  unfold Ap
  have : ∀ q a b,(Br q a b).map cs = Br q (a.map cs) (b.map cs):=fun q a b=>by
    unfold Br
    rw [Da]
    congr 1
    funext q
    cases q <;> rfl
  rw [this,Me s o az d hf,Dl,<- DE]
  have h:=CX hG d (.l o) az g want (cs s) r k
  refine h.trans ?_
  cases hq : Ao (cs s) (some (g,want)) with
  | none=>simp [Br]
  | some q =>
    cases q with
    | true=>simp [Br,GJ hG d o az (cs s) r k fun c vs=>It h1 h2 c _ vs]
    | false=>simp [Br]
theorem Jw (hG : Bp G) (d : Dst) (g : Opnd) (az : List Opnd) (s : St) (r : List Op) (k : K) : Ap G (some s) (⟨d,.l .cav,g :: az,none⟩ :: r) k = RQ G (evA s g) (Ac (evA s) az) s d r k:=by
  have h:=TW hG d g az (cs s) r k
  refine h.trans ?_
  rw [GW]
  unfold CavK RQ
  congr 1
  funext gv
  cases gv with
  | m x=>cases x <;> simp [Fd]
  | fn f cap=>simp [Fd]
  | yl r0=>simp [Fd]
  | _=>rfl
theorem NW (hG : Bp G) (d : Dst) (g : Opnd) (az : List Opnd) (gg : Opnd) (want : Bool) (s : St) (r : List Op) (k : K) : Ap G (some s) (⟨d,.l .cav,g :: az,some (gg,want)⟩ :: r) k = LU G (Ao s (some (gg,want))) g az s d r k:=by
  have h:=CX hG d (.l .cav) (g :: az) gg want (cs s) r k
  refine h.trans ?_
  unfold LU
  rw [DE]
  congr 1
  funext q
  cases q with
  | true =>
    rw [AcY rfl,AcY rfl]
    exact Jw hG d g az s r k
  | false=>unfold Ap; simp [Dl]
theorem Tg (hG : Bp G) {f : Nat} {vs : List V} {s : St} {d : Dst} {r : List Op} {k : K} {v : V} {H' : Hp} (h : Gives G f vs s.M.H v H') : DD G f (some vs) s d r k = Ap G (CG { s with M:={ s.M with H:=H' } } d v) r k:=by
  unfold DD
  rw [AO,Zc hG h]
theorem Bb (f : Nat) (vs : List V) (s : St) (d : Dst) (r : List Op) (k : K) : DD G f (some vs) s d r k = Ret G f vs s.M.H fun v H'=>Ap G (CG { s with M:={ s.M with H:=H' } } d v) r k:=by simp [DD,AO]
@[simp] theorem cavC_m (f : Nat) (cap : List I) (vs : List V) (s : St) (d : Dst) (r : List Op) (k : K) : RQ G (some (.m (.fn f cap))) (some vs) s d r k = DD G f (some (vs ++ cap.map .m)) s d r k:=by simp [RQ]
@[simp] theorem cavC_f (f : Nat) (cap vs : List V) (s : St) (d : Dst) (r : List Op) (k : K) : RQ G (some (.fn f cap)) (some vs) s d r k = DD G f (some (vs ++ cap)) s d r k:=by simp [RQ]
end
attribute [simp] PA HJ Sy
@[simp] theorem YV (s : St) (o : OP) (az : List Opnd) (d : Dst) : Gs s o az d = (Ac (evA s) az).bind fun vs=>(Ai o vs).bind fun v=>CG s d v:=rfl
@[simp] theorem YU (s : St) (o : OR) (az : List Opnd) (d : Dst) : Gr s o az d = (Ac (evA s) az).bind fun vs=>(readX s.M o vs).bind fun v=>CG s d v:=rfl
@[simp] theorem YW (s : St) (o : OL) (az : List Opnd) (d : Dst) : AX s o az d = (Ac (evA s) az).bind fun vs=>(Af (fun _ _ _=>none) s.M o vs).bind fun p=>CG { s with M:=p.2 } d p.1:=rfl
@[simp] theorem setC_no (s : St) (x : V) : CG s .no x = some s:=rfl
@[simp] theorem setC_l (s : St) (n : Nat) (x : V) : CG s (.l n) x = some { s with L:=(n,x) :: s.L }:=rfl
@[simp] theorem setC_vm (s : St) (n : Nat) (x : I) : CG s (.v n) (.m x) = some { s with E:=BG s.E n (.m x) }:=rfl
@[simp] theorem setC_vun (s : St) (n : Nat) : CG s (.v n) .un = some { s with E:=BG s.E n .un }:=rfl
@[simp] theorem setC_vls (s : St) (n : Nat) (x : List (List I)) : CG s (.v n) (.ls x) = some { s with E:=BG s.E n (.ls x) }:=rfl
@[simp] theorem setC_vsl (s : St) (n a b c d e : Nat) (f : Bool) : CG s (.v n) (.sl a b c d e f) = some { s with E:=BG s.E n (.sl a b c d e f) }:=rfl
@[simp] theorem setC_vpt (s : St) (n a b c d : Nat) : CG s (.v n) (.pt a b c d) = some { s with E:=BG s.E n (.pt a b c d) }:=rfl
@[simp] theorem setC_vmp (s : St) (n a : Nat) : CG s (.v n) (.mp a) = some { s with E:=BG s.E n (.mp a) }:=rfl
@[simp] theorem setC_vtu (s : St) (n : Nat) (a : List V) : CG s (.v n) (.tu a) = some { s with E:=BG s.E n (.tu a) }:=rfl
@[simp] theorem setC_vag (s : St) (n : Nat) (a : List V) : CG s (.v n) (.ag a) = some { s with E:=BG s.E n (.ag a) }:=rfl
@[simp] theorem setC_vfn (s : St) (n f : Nat) (a : List V) : CG s (.v n) (.fn f a) = some { s with E:=BG s.E n (.fn f a) }:=rfl
@[simp] theorem setC_vfa (s : St) (n : Nat) : CG s (.v n) (.fa n 0) = some { s with E:=BG s.E n (.fa n 0) }:=by simp [CG,DJ,gd]
/- simp looks at the state alone, not at the code that is still to come. -/
def cnd (b : Bool) (p q : Prop) : Prop:=match b with
  | true=>p
  | false=>q
@[simp] theorem cnd_true (p q : Prop) : cnd true p q = p:=rfl
theorem Qm {b c : Bool} {p q : Prop} (h : b = c) : cnd b p q = cnd c p q:=by rw [h]
theorem Uj {b : Bool} {p q : Prop} (h : b = true -> q = p) : q = cnd b p q:=by
  cases b with
  | true=>exact h rfl
  | false=>rfl
theorem KR {G : Cfg} {s t : Option St} {r : List Op} {k : K} (h : s = t) : Ap G s r k = Ap G t r k:=by rw [h]
theorem NO {G : Cfg} {x y : Option Bool} {a b : C} {s : St} {k : K} (h : x = y) : Uy G x a b s k = Uy G y a b s k:=by rw [h]
theorem Ln {G : Cfg} {f : Nat} {x y : Option (List V)} {s : St} {d : Dst} {r : List Op} {k : K} (h : x = y) : DD G f x s d r k = DD G f y s d r k:=by rw [h]
theorem Om {G : Cfg} {g g' : Option V} {x y : Option (List V)} {s : St} {d : Dst} {r : List Op} {k : K} (h0 : g = g') (h : x = y) : RQ G g x s d r k = RQ G g' y s d r k:=by rw [h0,h]
theorem JX {G : Cfg} {x y : Option Bool} {f : Nat} {az : List Opnd} {s : St} {d : Dst} {r : List Op} {k : K} (h : x = y) : FU G x f az s d r k = FU G y f az s d r k:=by rw [h]
theorem KY {G : Cfg} {x y : Option Bool} {g : Opnd} {az : List Opnd} {s : St} {d : Dst} {r : List Op} {k : K} (h : x = y) : LU G x g az s d r k = LU G y g az s d r k:=by rw [h]
theorem Pv {G : Cfg} {c : C} {s t : St} {k : K} (h : s = t) : Run G c s k = Run G c t k:=by rw [h]
theorem Tj {G : Cfg} {e : Ex} {s t : St} {k : K} (h : s = t) : At' G e s k = At' G e t k:=by rw [h]
theorem ZM {n : Nat} {k : IntKind} {x : Int} (h1 : 0 <= x) (h2 : x < n) : idx n (.m (.i k x)) = some x.toNat:=by rw [ZN]; simp [h1,h2]
theorem Aao {n : Nat} {k : IntKind} {x : Int} (h1 : 0 <= x) (h2 : x <= n) : bnd n (.m (.i k x)) = some x.toNat:=by rw [Aap]; simp [h1,h2]
theorem Oo {x y : List Nat} (h : x.length + y.length <= 9223372036854775807) : Dj .add (.m (.s x)) (.m (.s y)) = some (.m (.s (x ++ y))):=by rw [Wm]; simp [h]
attribute [simp high] ZM Aao Oo
theorem AT (G : Cfg) (t : Bool) (a b : C) (s : St) (k : K) : Uy G (some t) a b s k = ((t = true -> Run G a s k) /\ (t = false -> Run G b s k)):=by cases t <;> simp
theorem AU (G : Cfg) (c : Bool) (a b : Option St) (r : List Op) (k : K) : Ap G (Br (some c) a b) r k = ((c = true -> Ap G a r k) /\ (c = false -> Ap G b r k)):=by cases c <;> simp
theorem Am (G : Cfg) (c : Bool) (f : Nat) (az : List Opnd) (s : St) (d : Dst) (r : List Op) (k : K) : FU G (some c) f az s d r k = ((c = true -> DD G f (Ac (evA s) az) s d r k) /\ (c = false -> Ap G (CG s d .un) r k)):=by cases c <;> simp [FU]
theorem AV (G : Cfg) (c : Bool) (g : Opnd) (az : List Opnd) (s : St) (d : Dst) (r : List Op) (k : K) : LU G (some c) g az s d r k = ((c = true -> RQ G (evA s g) (Ac (evA s) az) s d r k) /\ (c = false -> Ap G (CG s d .un) r k)):=by cases c <;> simp [LU]
theorem UF (n : Nat) (h : n <= 9223372036854775807) : wr .i64 (n : Int) = n:=Aa (by omega) (by omega)
theorem Eg {α : Type} {p : List α} {i : Nat} {c : α} (h : p[i]? = some c) : i < p.length /\ p.drop i = c :: p.drop (i + 1):=by
  have h1 : i < p.length:=(AcO.1 h).1
  exact ⟨h1,by rw [AdY h1,(AcO.1 h).2]⟩
theorem Bc {α : Type} {p : List α} {i : Nat} {c : α} (h : p[i]? = some c) : p.take (i + 1) = p.take i ++ [c]:=by
  rw [List.take_add_one,h]; rfl
end Go.Mx
/- Walking: guards decided by arithmetic. Nothing here speaks of a program. -/
namespace Go.Mx
theorem Ip {α β : Type} {x y : Option α} {f : α -> Option β} (h : x = y) : x.bind f = y.bind f:=by rw [h]
theorem Ag {α : Type} {p : Prop} [Decidable p] (h : p) (x : Option α) : gd (decide p) x = x:=by rw [Ade h]; rfl
theorem Ae {α : Type} (a b : Bool) (x : Option α) : gd (a && b) x = gd a (gd b x):=by cases a <;> rfl
end Go.Mx
/- Loops over functions. Nothing here speaks of a program. -/
namespace Go.Mx
section
variable {G : Cfg}
@[simp] theorem noFaV_yl (r : Nat) : Av (.yl r) = true:=rfl
@[simp] theorem Aah (r : Nat) : An (.yl r) = some [.yl r]:=rfl
@[simp] theorem oneV_yl (r : Nat) : BA (.yl r) = true:=rfl
@[simp] theorem setD_vyl (s : St) (n r : Nat) : Cu s (.v n) (.yl r) = some { s with E:=BG s.E n (.yl r) }:=rfl
@[simp] theorem Ze (r : Nat) : Ai .nck [.yl r] = some (.yl r):=rfl
@[simp] theorem noFa_yl (d n k : Nat) (r : Env) : BB d ((n,.yl k) :: r) = BB d r:=rfl
@[simp] theorem allM_yl (k : Nat) (r : List V) : Bn (.yl k :: r) = none:=rfl
@[simp] theorem cavF_fn (f : Nat) (cap : List V) : Wj (.fn f cap) = some (f,cap):=rfl
@[simp] theorem cavF_m (f : Nat) (cap : List I) : Wj (.m (.fn f cap)) = some (f,cap.map .m):=rfl
@[simp] theorem ZF : Ep [] = []:=rfl
@[simp] theorem Yx (n : Nat) (x : V) (r : Env) : Ep ((n,x) :: r) = match Av x with
    | true=>(n,x) :: Ep r
    | false=>rmE (Ep r) n:=rfl
@[simp] theorem Yo (e : Env) : EQ e [] [] = e:=rfl
@[simp] theorem Vp (e : Env) (p : Nat) (ps : List Nat) (x : V) (xs : List V) : EQ e (p :: ps) (x :: xs) = EQ (BG e p x) ps xs:=rfl
def RngG (G : Cfg) (fv : Option V) (dr ps : List Nat) (ca cb : C) (s : St) (k : K) : Prop:=Ck (fv.bind Wj) fun gc =>
  Ret G gc.1 (.yl s.M.H.length :: gc.2) (s.M.H ++ [.lp 0 none (Ep (AK dr s.E)) ps ca cb]) fun _ H'=>Ck (SY s.M.H.length H') fun q=>At' G q.1 { s with M:={ s.M with H:=q.2 } } k
theorem Vs (hG : Bp G) (f : Opnd) (dr ps : List Nat) (ca cb : C) (s : St) (k : K) : Run G (.rng f dr ps ca cb) s k = RngG G (evA s f) dr ps ca cb s k:=by
  apply propext
  simp only [Run,Runs,RngG,Ck,evC,AcL,Ret,At',AcM,AcN]
  constructor
  · rintro ⟨n,e,s',⟨fv,hfv,gc,hgc,⟨v,H'⟩,hc,q,hq,rfl,rfl⟩,h⟩
    exact ⟨gc,⟨fv,hfv,hgc⟩,n,v,H',hc,q,hq,h⟩
  · rintro ⟨gc,⟨fv,hfv,hgc⟩,n,v,H',hc,q,hq,h⟩
    exact ⟨n,q.1,_,⟨fv,hfv,gc,hgc,(v,H'),hc,q,hq,rfl,rfl⟩,h⟩
end
end Go.Mx
