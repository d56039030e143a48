/- Walking the machine. Nothing here speaks of a program. -/
import Derived.Test.YtlhjjcaifenlbaaGreatDoorMach
import Derived.Test.YtlhjjcaifenlbaaGreatDoorBa
set_option linter.unusedSimpArgs false
set_option linter.unusedVariables false
set_option linter.unusedSectionVars false
/- Walking the machine: what a piece of code comes to, whatever the fuel. Nothing here speaks of a program. -/
namespace Go.Mx
/- More fuel gives the same. -/
def LeC (c d:Bq):Prop:=∀f vs H r,c f vs H=some r->d f vs H=some r
theorem AL {α β:Type}{x y:Option α}{f g:α->Option β}{r:β}(hx:∀a,x=some a->y=some a)(hf:∀a r,f a=some r->g a=some r)(h:x.bind f=some r):y.bind g=some r:=by
  simp only[Aik]at h ⊢
  obtain⟨a,h1,h2⟩:=h
  exact⟨a,hx a h1,hf a r h2⟩
theorem Wv {c d:Bq}(h:LeC c d){M:Mem}{o:O}{vs:List V}{r:V×Mem}(he:evO c M o vs=some r):evO d M o vs=some r:=by
  cases o with
  | p o=>exact he
  | r o=>exact he
  | l o =>
    simp only[evO]at he ⊢
    cases o with
    | cal f =>
      simp only[An]at he ⊢
      exact AL (fun a=>h f vs M.H a) (fun _ _ h=>h) he
    | cav =>
      match vs,he with
      | .fn f cap::xs,he=>simp only[An]at he ⊢;exact AL (fun a=>h f _ M.H a) (fun _ _ h=>h) he
      | .m (.fn f cap)::xs,he=>simp only[An]at he ⊢;exact AL (fun a=>h f _ M.H a) (fun _ _ h=>h) he
      | .yl r::xs,he=>simp only[An]at he ⊢;exact AL (fun a=>h yN _ M.H a) (fun _ _ h=>h) he
      | .m (.b _)::xs,he=>simp[An]at he
      | .m (.i _ _)::xs,he=>simp[An]at he
      | .m (.s _)::xs,he=>simp[An]at he
      | .m (.nl _)::xs,he=>simp[An]at he
      | .m .er::xs,he=>simp[An]at he
      | .m (.sl _)::xs,he=>simp[An]at he
      | .m (.pt _)::xs,he=>simp[An]at he
      | .m (.ag _)::xs,he=>simp[An]at he
      | .m (.mp _)::xs,he=>simp[An]at he
      | .un::xs,he=>simp[An]at he
      | .ls _::xs,he=>simp[An]at he
      | .sl .. :: xs,he=>simp[An]at he
      | .pt .. :: xs,he=>simp[An]at he
      | .fa .. :: xs,he=>simp[An]at he
      | .mp _::xs,he=>simp[An]at he
      | .ag _::xs,he=>simp[An]at he
      | .tu _::xs,he=>simp[An]at he
      | [],he=>simp[An]at he
    | _ =>
      match vs,he with
      | [],he=>exact he
      | [_],he=>exact he
      | [_,_],he=>exact he
      | [_,_,_],he=>exact he
      | _::_::_::_::_,he=>exact he
theorem Ma {c d:Bq}(h:LeC c d){s s':St}{o:Op}(he:Ea c s o=some s'):Ea d s o=some s':=by
  simp only[Ea,Aik]at he ⊢
  obtain⟨q,hq,he⟩:=he
  refine⟨q,hq,?_⟩
  cases q with
  | true =>
    simp only at he ⊢
    cases hf:Bg s o.op with
    | false=>rw[hf]at he;simp[gd]at he
    | true =>
      rw[hf]at he
      simp only[gd,Aik]at he ⊢
      obtain⟨vs,hvs,p,hp,hs⟩:=he
      exact⟨vs,hvs,p,Wv h hp,hs⟩
  | false=>exact he
theorem GE {c d:Bq}(h:LeC c d):∀ {ops:List Op} {s s':St},BS c ops s=some s'->BS d ops s=some s'
  | [],_,_,he=>he
  | o::r,s,s',he=>by
    simp only[BS]at he ⊢
    exact AL (fun a=>Ma h) (fun a r=>GE h) he
theorem EQ {f g:St->Option (Ex×St)}(h:∀s r,f s=some r->g s=some r):∀ {n m:Nat} {s:St} {r:Ex×St},n<=m->Fg f n s=some r->Fg g m s=some r
  | 0,m,s,r,_,he=>by simp[Fg]at he
  | n+1,0,s,r,hn,_=>by omega
  | n+1,m+1,s,r,hn,he=>by
    simp only[Fg]at he ⊢
    refine AL (fun a=>h s a) (fun a r ha=>?_) he
    obtain⟨e,t⟩:=a
    cases e with
    | nm=>exact EQ h (by omega) ha
    | _=>exact ha
theorem CO {c d:Bq}(h:LeC c d){n m:Nat}(hn:n<=m):∀ {k:C} {s:St} {r:Ex×St},evC c n k s=some r->evC d m k s=some r:=by
  intro k
  induction k with
  | skip=>exact fun h=>h
  | reg ops =>
    intro s r he
    simp only[evC]at he ⊢
    exact AL (fun a=>GE h) (fun _ _ h=>h) he
  | seq a b iha ihb =>
    intro s r he
    simp only[evC]at he ⊢
    refine AL (fun x=>iha) (fun x r hx=>?_) he
    obtain⟨e,t⟩:=x
    cases e with
    | nm=>exact ihb hx
    | _=>exact hx
  | ite c a b iha ihb =>
    intro s r he
    simp only[evC]at he ⊢
    refine AL (fun _ h=>h) (fun x r hx=>?_) he
    split at hx
    · exact iha hx
    · exact ihb hx
    · cases hx
  | blk id c ih =>
    intro s r he
    simp only[evC]at he ⊢
    exact AL (fun x=>ih) (fun _ _ h=>h) he
  | loop dr c ih =>
    intro s r he
    simp only[evC]at he ⊢
    exact EQ (fun t r=>ih) hn he
  | rng f dr ps ca cb _ _ =>
    intro s r he
    simp only[evC]at he ⊢
    exact AL (fun _ h=>h) (fun _ _=>AL (fun _ h=>h) (fun gc _=>AL (fun a=>h gc.1 _ _ a) (fun _ _ h=>h))) he
  | ex id=>exact fun h=>h
  | ret=>exact fun h=>h
theorem EU {c d:Bq}(h:LeC c d){n m:Nat}(hn:n<=m){f:F}{vs:List V}{H:Hp}{r:V×Hp}(he:evF c n f vs H=some r):evF d m f vs H=some r:=by
  unfold evF at he ⊢
  cases hg:(vs.all AA&&Nat.beq vs.length f.np) with
  | false=>rw[hg]at he;simp[gd]at he
  | true =>
    rw[hg]at he
    exact AL (fun a=>CO h hn) (fun _ _ h=>h) he
theorem QR {c d:Bq}(h:LeC c d){n m:Nat}(hn:n<=m){f:F}{vs:List V}{H:Hp}{r:V×Hp}(he:Em c n f vs H=some r):Em d m f vs H=some r:=by
  unfold Em at he ⊢
  exact AL (fun _ h=>h) (fun a r=>AL (fun b=>EU h hn) (fun _ _ h=>h)) he
theorem Fu {c d:Bq}(h:LeC c d){n m:Nat}(hn:n<=m){vs:List V}{H:Hp}{r:V×Hp}(he:Ei c n vs H=some r):Ei d m vs H=some r:=by
  unfold Ei at he ⊢
  split at he
  · refine AL (fun _ h=>h) (fun row r he=>?_) he
    split at he
    · simp only[Ae]at he ⊢
      refine⟨he.1,AL (fun a=>CO h hn) (fun p r he=>?_) he.2⟩
      split at he
      · exact AL (fun _ h=>h) (fun _ _=>AL (fun a=>CO h hn) (fun _ _ h=>h)) he
      · cases he
    · cases he
  · cases he
def BD (G:Cfg):Prop:=∀f p,G.prim f=some p -> ∀c d,LeC c d -> ∀vs H r,p c vs H=some r->p d vs H=some r
theorem Bi {G:Cfg}(hG:BD G):∀ {n m:Nat},n<=m->LeC (BB G n) (BB G m)
  | 0,_,_,f,vs,H,r,h=>by simp[BB]at h
  | n+1,0,hn,_,_,_,_,_=>by omega
  | n+1,m+1,hn,f,vs,H,r,h=>by
    have ih:=Bi hG (n:=n) (m:=m) (by omega)
    unfold BB at h ⊢
    split at h
    · rename_i p hp
      exact hG f p hp _ _ ih vs H r h
    · split at h
      · split at h
        · exact EU ih (by omega) h
        · exact QR ih (by omega) h
      · simp only[Ae]at h ⊢
        exact⟨h.1,Fu ih (by omega) h.2⟩
/- Running, whatever the fuel. -/
def CK {α:Type}(x:Option α)(p:α->Prop):Prop:=∃a,x=some a/\p a
theorem Bh {α:Type}(a:α)(p:α->Prop):CK (some a) p=p a:=by simp[CK]
theorem Ng {α:Type}(b:Bool)(x:Option α)(p:α->Prop):CK (gd b x) p=(b=true/\CK x p):=by cases b <;> simp[CK,gd]
theorem DF {α β:Type}(x:Option α)(f:α->Option β)(p:β->Prop):CK (x.bind f) p=CK x fun a=>CK (f a) p:=by
  apply propext
  simp only[CK,Aik]
  constructor
  · rintro⟨b,⟨a,h1,h2⟩,h3⟩
    exact⟨a,h1,b,h2,h3⟩
  · rintro⟨a,h1,b,h2,h3⟩
    exact⟨b,⟨a,h1,h2⟩,h3⟩
def Runs (G:Cfg)(c:C)(s:St)(Q:Ex->St->Prop):Prop:=∃n e s',evC (BB G n) n c s=some (e,s')/\Q e s'
def GY (G:Cfg)(ops:List Op)(s:St)(Q:St->Prop):Prop:=∃n s',BS (BB G n) ops s=some s'/\Q s'
def Hj (G:Cfg)(o:Op)(s:St)(Q:St->Prop):Prop:=∃n s',Ea (BB G n) s o=some s'/\Q s'
def Ret (G:Cfg)(f:Nat)(vs:List V)(H:Hp)(Q:V->Hp->Prop):Prop:=∃n v H',BB G n f vs H=some (v,H')/\Q v H'
def Gives (G:Cfg)(f:Nat)(vs:List V)(H:Hp)(v:V)(H':Hp):Prop:=∃n,BB G n f vs H=some (v,H')
def thn (A:St->Prop)(Q:Ex->St->Prop):Ex->St->Prop
  | .nm,s=>A s
  | e,s=>Q e s
def inB (id:Nat)(Q:Ex->St->Prop):Ex->St->Prop
  | .ex j,s=>(j=id->Q .nm s)/\(j≠id->Q (.ex j) s)
  | e,s=>Q e s
theorem Aey (id:Nat)(Q:Ex->St->Prop)(s:St)(j:Nat):inB id Q (.ex j) s=if j=id then Q .nm s else Q (.ex j) s:=by
  apply propext
  by_cases h:j=id <;> simp[inB,h]
section
variable {G:Cfg}
theorem Runs.mono {c:C}{s:St}{Q Q':Ex->St->Prop}(h:Runs G c s Q)(hq:∀e s,Q e s->Q' e s):Runs G c s Q':=by
  obtain⟨n,e,s',h1,h2⟩:=h
  exact⟨n,e,s',h1,hq e s' h2⟩
theorem Si (s:St)(Q:Ex->St->Prop):Runs G .skip s Q=Q .nm s:=by
  apply propext
  simp only[Runs,evC,Ail,Aim]
  constructor
  · rintro⟨_,_,_,⟨rfl,rfl⟩,h⟩
    exact h
  · exact fun h=>⟨0,_,_,⟨rfl,rfl⟩,h⟩
theorem ZM (id:Nat)(s:St)(Q:Ex->St->Prop):Runs G (.ex id) s Q=Q (.ex id) s:=by
  apply propext
  simp only[Runs,evC,Ail,Aim]
  constructor
  · rintro⟨_,_,_,⟨rfl,rfl⟩,h⟩
    exact h
  · exact fun h=>⟨0,_,_,⟨rfl,rfl⟩,h⟩
theorem VF (s:St)(Q:Ex->St->Prop):Runs G .ret s Q=Q .ret s:=by
  apply propext
  simp only[Runs,evC,Ail,Aim]
  constructor
  · rintro⟨_,_,_,⟨rfl,rfl⟩,h⟩
    exact h
  · exact fun h=>⟨0,_,_,⟨rfl,rfl⟩,h⟩
theorem VG (ops:List Op)(s:St)(Q:Ex->St->Prop):Runs G (.reg ops) s Q=GY G ops s fun s'=>Q .nm { s' with L:=[] }:=by
  apply propext
  simp only[Runs,GY,evC,Aik,Ail,Aim]
  constructor
  · rintro⟨n,_,_,⟨s',h,rfl,rfl⟩,hq⟩
    exact⟨n,s',h,hq⟩
  · rintro⟨n,s',h,hq⟩
    exact⟨n,_,_,⟨s',h,rfl,rfl⟩,hq⟩
theorem VE (hG:BD G)(a b:C)(s:St)(Q:Ex->St->Prop):Runs G (.seq a b) s Q=Runs G a s (thn (fun s'=>Runs G b s' Q) Q):=by
  apply propext
  constructor
  · rintro⟨n,e,s',h,hq⟩
    simp only[evC,Aik]at h
    obtain⟨⟨e1,s1⟩,h1,h2⟩:=h
    refine⟨n,e1,s1,h1,?_⟩
    cases e1 with
    | nm=>exact⟨n,e,s',h2,hq⟩
    | _ =>
      simp only[Ail,Aim]at h2
      obtain⟨rfl,rfl⟩:=h2
      exact hq
  · rintro⟨n,e1,s1,h1,h2⟩
    cases e1 with
    | nm =>
      obtain⟨m,e,s',h3,hq⟩:=h2
      refine⟨max n m,e,s',?_,hq⟩
      simp only[evC,Aik]
      exact⟨_,CO (Bi hG (Nat.le_max_left n m)) (Nat.le_max_left n m) h1,CO (Bi hG (Nat.le_max_right n m)) (Nat.le_max_right n m) h3⟩
    | ex j=>exact⟨n,.ex j,s1,by simp[evC,h1],h2⟩
    | ret=>exact⟨n,.ret,s1,by simp[evC,h1],h2⟩
def asB:V->Option Bool
  | .m (.b t)=>some t
  | _=>none
theorem VH (o:Opnd)(a b:C)(s:St)(Q:Ex->St->Prop):Runs G (.ite o a b) s Q=CK ((evA s o).bind asB) fun t=>if t then Runs G a s Q else Runs G b s Q:=by
  apply propext
  constructor
  · rintro⟨n,e,s',h,hq⟩
    simp only[evC,Aik]at h
    obtain⟨v,hv,h⟩:=h
    split at h
    · exact⟨true,by simp[hv,asB],n,e,s',h,hq⟩
    · exact⟨false,by simp[hv,asB],n,e,s',h,hq⟩
    · cases h
  · rintro⟨t,ht,h⟩
    simp only[Aik]at ht
    obtain⟨v,hv,ht⟩:=ht
    have:v=.m (.b t):=by
      unfold asB at ht
      split at ht
      · rw[Ail]at ht;rw[ht]
      · cases ht
    subst this
    cases t with
    | true =>
      obtain⟨n,e,s',h,hq⟩:=h
      exact⟨n,e,s',by simp[evC,hv,h],hq⟩
    | false =>
      obtain⟨n,e,s',h,hq⟩:=h
      exact⟨n,e,s',by simp[evC,hv,h],hq⟩
theorem VI (id:Nat)(c:C)(s:St)(Q:Ex->St->Prop):Runs G (.blk id c) s Q=Runs G c s (inB id Q):=by
  apply propext
  constructor
  · rintro⟨n,e,s',h,hq⟩
    simp only[evC,Aik]at h
    obtain⟨⟨e1,s1⟩,h1,h2⟩:=h
    refine⟨n,e1,s1,h1,?_⟩
    cases e1 with
    | ex j =>
      simp only at h2
      split at h2
      · rename_i hb
        have:=Aiz hb
        simp only[Ail,Aim]at h2
        obtain⟨rfl,rfl⟩:=h2
        exact⟨fun _=>hq,fun hne=>absurd this hne⟩
      · rename_i hb
        simp only[Ail,Aim]at h2
        obtain⟨rfl,rfl⟩:=h2
        exact⟨fun e=>(by subst e;simp at hb),fun _=>hq⟩
    | _ =>
      simp only[Ail,Aim]at h2
      obtain⟨rfl,rfl⟩:=h2
      exact hq
  · rintro⟨n,e1,s1,h1,h2⟩
    cases e1 with
    | ex j =>
      cases hb:Nat.beq j id with
      | true=>exact⟨n,.nm,s1,by simp[evC,h1,hb],h2.1 (Aiz hb)⟩
      | false=>exact⟨n,.ex j,s1,by simp[evC,h1,hb],h2.2 (fun e=>by subst e;simp at hb)⟩
    | nm=>exact⟨n,.nm,s1,by simp[evC,h1],h2⟩
    | ret=>exact⟨n,.ret,s1,by simp[evC,h1],h2⟩
theorem Sj (hG:BD G)(dr:List Nat)(c:C)(s:St)(Q:Ex->St->Prop):Runs G (.loop dr c) s Q=Runs G c { s with E:=AF dr s.E } (thn (fun s'=>Runs G (.loop dr c) s' Q) Q):=by
  apply propext
  constructor
  · rintro⟨n,e,s',h,hq⟩
    simp only[evC]at h
    cases n with
    | zero=>simp[Fg]at h
    | succ n =>
      simp only[Fg,Aik]at h
      obtain⟨⟨e1,s1⟩,h1,h2⟩:=h
      refine⟨n+1,e1,s1,h1,?_⟩
      cases e1 with
      | nm=>exact⟨n+1,e,s',by simp only[evC];exact EQ (fun _ _ h=>h) (Nat.le_succ n) h2,hq⟩
      | _ =>
        simp only[Ail,Aim]at h2
        obtain⟨rfl,rfl⟩:=h2
        exact hq
  · rintro⟨n,e1,s1,h1,h2⟩
    cases e1 with
    | nm =>
      obtain⟨m,e,s',h3,hq⟩:=h2
      have hn:n<=max n m+1:=by omega
      have hm:m<=max n m+1:=by omega
      refine⟨max n m+1,e,s',?_,hq⟩
      simp only[evC,Fg,Aik]
      refine⟨_,CO (Bi hG hn) hn h1,?_⟩
      simp only[evC]at h3
      exact EQ (fun t r=>CO (Bi hG hm) hm) (by omega) h3
    | ex j=>exact⟨n+1,.ex j,s1,by simp only[evC,Fg,Aik];exact⟨_,CO (Bi hG (Nat.le_succ n)) (Nat.le_succ n) h1,rfl⟩,h2⟩
    | ret=>exact⟨n+1,.ret,s1,by simp only[evC,Fg,Aik];exact⟨_,CO (Bi hG (Nat.le_succ n)) (Nat.le_succ n) h1,rfl⟩,h2⟩
theorem ZX (s:St)(Q:St->Prop):GY G [] s Q=Q s:=by
  apply propext
  simp only[GY,BS,Ail]
  constructor
  · rintro⟨_,_,rfl,h⟩
    exact h
  · exact fun h=>⟨0,_,rfl,h⟩
theorem EO (hG:BD G)(o:Op)(r:List Op)(s:St)(Q:St->Prop):GY G (o::r) s Q=Hj G o s fun s'=>GY G r s' Q:=by
  apply propext
  simp only[GY,Hj,BS,Aik]
  constructor
  · rintro⟨n,s',⟨s1,h1,h2⟩,hq⟩
    exact⟨n,s1,h1,n,s',h2,hq⟩
  · rintro⟨n,s1,h1,m,s',h2,hq⟩
    exact⟨max n m,s',⟨s1,Ma (Bi hG (Nat.le_max_left n m)) h1,GE (Bi hG (Nat.le_max_right n m)) h2⟩,hq⟩
theorem Aaa (d:Dst)(o:OP)(az:List Opnd)(s:St)(Q:St->Prop):Hj G ⟨d,.p o,az,none⟩ s Q=CK (Af (evA s) az) fun vs=>CK (Ap o vs) fun v=>CK (CW s d v) Q:=by
  apply propext
  simp only[Hj,Ea,Ax,Ait,Bg,gd,evO,Aik,CK]
  constructor
  · rintro⟨_,s',⟨vs,h1,⟨v,M⟩,⟨v',h2,h3⟩,h4⟩,hq⟩
    simp only[Ail,Aim]at h3
    obtain⟨rfl,rfl⟩:=h3
    exact⟨vs,h1,_,h2,s',h4,hq⟩
  · rintro⟨vs,h1,v,h2,s',h4,hq⟩
    exact⟨0,s',⟨vs,h1,(v,s.M),⟨v,h2,rfl⟩,h4⟩,hq⟩
theorem ZZ (d:Dst)(o:OR)(az:List Opnd)(s:St)(Q:St->Prop):Hj G ⟨d,.r o,az,none⟩ s Q=CK (Af (evA s) az) fun vs=>CK (readX s.M o vs) fun v=>CK (CW s d v) Q:=by
  apply propext
  simp only[Hj,Ea,Ax,Ait,Bg,gd,evO,Aik,CK]
  constructor
  · rintro⟨_,s',⟨vs,h1,⟨v,M⟩,⟨v',h2,h3⟩,h4⟩,hq⟩
    simp only[Ail,Aim]at h3
    obtain⟨rfl,rfl⟩:=h3
    exact⟨vs,h1,_,h2,s',h4,hq⟩
  · rintro⟨vs,h1,v,h2,s',h4,hq⟩
    exact⟨0,s',⟨vs,h1,(v,s.M),⟨v,h2,rfl⟩,h4⟩,hq⟩
theorem Aab (d:Dst)(f:Nat)(az:List Opnd)(s:St)(Q:St->Prop):Hj G ⟨d,.l (.cal f),az,none⟩ s Q=CK (Af (evA s) az) fun vs=>Ret G f vs s.M.H fun v H'=>CK (CW { s with M:={ s.M with H:=H' } } d v) Q:=by
  apply propext
  simp only[Hj,Ea,Ax,Ait,Bg,gd,evO,An,Aik,CK,Ret]
  constructor
  · rintro⟨n,s',⟨vs,h1,⟨v,M⟩,⟨⟨r,H'⟩,h2,h3⟩,h4⟩,hq⟩
    simp only[Ail,Aim]at h3
    obtain⟨rfl,rfl⟩:=h3
    exact⟨vs,h1,n,_,_,h2,s',h4,hq⟩
  · rintro⟨vs,h1,n,v,H',h2,s',h4,hq⟩
    exact⟨n,s',⟨vs,h1,_,⟨_,h2,rfl⟩,h4⟩,hq⟩
theorem VZ (d:Dst)(o:O)(az:List Opnd)(g:Opnd)(want:Bool)(s:St)(Q:St->Prop):Hj G ⟨d,o,az,some (g,want)⟩ s Q=CK (Ax s (some (g,want))) fun q=>if q then Hj G ⟨d,o,az,none⟩ s Q else CK (CW s d .un) Q:=by
  apply propext
  constructor
  · rintro⟨n,s',h,hq⟩
    simp only[Ea,Aik]at h
    obtain⟨b,hb,h⟩:=h
    refine⟨b,hb,?_⟩
    cases b with
    | true=>exact⟨n,s',by simpa[Ea,Ax]using h,hq⟩
    | false=>exact⟨s',h,hq⟩
  · rintro⟨b,hb,h⟩
    cases b with
    | true =>
      obtain⟨n,s',h,hq⟩:=h
      exact⟨n,s',by simp only[Ea,hb,Ait];simpa[Ea,Ax]using h,hq⟩
    | false =>
      obtain⟨s',h,hq⟩:=h
      exact⟨0,s',by simp only[Ea,hb,Ait];exact h,hq⟩
/- Calls. -/
theorem AdP {f:Nat}{vs:List V}{H H':Hp}{v:V}{Q:V->Hp->Prop}(hG:BD G)(h:Gives G f vs H v H'):Ret G f vs H Q=Q v H':=by
  apply propext
  obtain⟨n,hn⟩:=h
  constructor
  · rintro⟨m,v2,H2,hm,hq⟩
    have h1:=Bi hG (Nat.le_max_left n m) _ _ _ _ hn
    have h2:=Bi hG (Nat.le_max_right n m) _ _ _ _ hm
    rw[h1]at h2
    cases h2
    exact hq
  · exact fun hq=>⟨n,v,H',hn,hq⟩
theorem Gives.of_ret {f:Nat}{vs:List V}{H H':Hp}{v:V}(h:Ret G f vs H fun v' H2=>v'=v/\H2=H'):Gives G f vs H v H':=by
  obtain⟨n,v2,H2,h,rfl,rfl⟩:=h
  exact⟨n,h⟩
def fin (rs:List Res)(Q:V->Hp->Prop):Ex->St->Prop
  | .ex _,_=>False
  | _,s=>CK (DX s rs) fun v=>Q v s.M.H
theorem Yp {c:C}{np:Nat}{rs:List Res}{vs:List V}{H:Hp}{Q:V->Hp->Prop}(hv:vs.all AA=true)(hl:vs.length=np)(h:Runs G c ⟨Dc 0 vs,[],⟨[],H⟩⟩ (fin rs Q)):
    ∃n v H',evF (BB G n) n ⟨np,rs,c⟩ vs H=some (v,H')/\Q v H':=by
  obtain⟨n,e,s',h1,h2⟩:=h
  have hb:(vs.all AA&&Nat.beq vs.length np)=true:=by rw[hv,hl,Nat.beq_refl];rfl
  have key:CK (DX s' rs) (fun v=>Q v s'.M.H)->(∀id,e ≠ .ex id) -> ∃n v H',evF (BB G n) n ⟨np,rs,c⟩ vs H=some (v,H')/\Q v H':=by
    rintro⟨v,hv,hq⟩ hne
    refine⟨n,v,s'.M.H,?_,hq⟩
    simp only[evF,hb,gd,h1,Ait]
    cases e with
    | ex id=>exact absurd rfl (hne id)
    | _=>simp[hv]
  cases e with
  | ex id=>exact h2.elim
  | nm=>exact key h2 (fun _ h=>by cases h)
  | ret=>exact key h2 (fun _ h=>by cases h)
theorem QA (hG:BD G){f np:Nat}{rs:List Res}{c:C}{vs:List V}{H:Hp}{Q:V->Hp->Prop}(hp:G.prim f=none)(hf:G.fn f=some ⟨np,rs,c⟩)(hs:G.sh f=true)(hv:vs.all AA=true)(hl:vs.length=np) 
    (h:Runs G c ⟨Dc 0 vs,[],⟨[],H⟩⟩ (fin rs Q)):Ret G f vs H Q:=by
  obtain⟨n,v,H',he,hq⟩:=Yp hv hl h
  refine⟨n+1,v,H',?_,hq⟩
  simp[BB,hp,hf,hs,he]
theorem Oq:∀ {vs:List V} {is:List I},Bz vs=some is->vs.flatMap DA=[]/\vs.all BJ=true/\vs.all AA=true/\vs=is.map .m /\ ∀(n:Nat) H,Af (view (n+1) H) vs=some is
  | [],is,h=>by simp only[Bz,Ail]at h;subst h;exact⟨rfl,rfl,rfl,rfl,fun _ _=>rfl⟩
  | .m x::r,is,h=>by
    simp only[Bz,Aik,Ail]at h
    obtain⟨l,hl,rfl⟩:=h
    obtain⟨h1,h2,h3,h4,h5⟩:=Oq hl
    refine⟨by simp[DA,FR,h1],by simp[BJ,CN,h2],by simp[AA,h3],by simp[h4],fun n H=>?_⟩
    simp only[Af,h5 n H]
    rfl
  | .un::_,is,h=>by simp[Bz]at h
  | .ls _::_,is,h=>by simp[Bz]at h
  | .sl .. :: _,is,h=>by simp[Bz]at h
  | .pt .. :: _,is,h=>by simp[Bz]at h
  | .fa .. :: _,is,h=>by simp[Bz]at h
  | .mp _::_,is,h=>by simp[Bz]at h
  | .fn .. :: _,is,h=>by simp[Bz]at h
  | .ag _::_,is,h=>by simp[Bz]at h
  | .tu _::_,is,h=>by simp[Bz]at h
theorem Om {f np:Nat}{rs:List Res}{c:C}{vs:List V}{is:List I}{H:Hp}{Q:V->Hp->Prop}(hp:G.prim f=none)(hf:G.fn f=some ⟨np,rs,c⟩)(hs:G.sh f=false)(hv:Bz vs=some is)(hl:vs.length=np) 
    (h:Runs G c ⟨Dc 0 vs,[],⟨[],[]⟩⟩ (fin rs fun v H'=>CK (viewR H' v) fun r=>Q r H)):Ret G f vs H Q:=by
  obtain⟨h1,h2,h3,h4,h5⟩:=Oq hv
  obtain⟨n,v,H',he,r,hr,hq⟩:=Yp h3 hl h
  refine⟨n+1,r,H,?_,hq⟩
  simp only[BB,hp,hf,hs,Ait,Em,h5 19 H]
  rw[<-h4,he]
  simp only[Ait,hr,h1,h2,gd]
end
end Go.Mx
/- Walking the machine, first order: what follows is kept as data, so that simp looks at the state alone. Nothing here speaks of a program. -/
namespace Go.Mx
inductive K where
  | fin (rs:List Res) (Q:V->Hp->Prop)
  | pur (rs:List Res) (H:Hp) (Q:V->Hp->Prop)
  | st (Q:Ex->St->Prop)
  | seq (b:C) (k:K)
  | blk (id:Nat) (k:K)
def K.sem (G:Cfg):K->Ex->St->Prop
  | .fin rs Q=>Mx.fin rs Q
  | .pur rs H Q=>Mx.fin rs fun v H'=>CK (viewR H' v) fun r=>Q r H
  | .st Q=>Q
  | .seq b k=>thn (fun s=>Runs G b s (k.sem G)) (k.sem G)
  | .blk id k=>inB id (k.sem G)
def Run (G:Cfg)(c:C)(s:St)(k:K):Prop:=Runs G c s (k.sem G)
def At' (G:Cfg)(e:Ex)(s:St)(k:K):Prop:=k.sem G e s
def BO (G:Cfg)(s:Option St)(ops:List Op)(k:K):Prop:=CK s fun s=>GY G ops s fun s'=>k.sem G .nm { s' with L:=[] }
def YU (G:Cfg)(t:Option Bool)(a b:C)(s:St)(k:K):Prop:=CK t fun t=>if t then Runs G a s (k.sem G) else Runs G b s (k.sem G)
def IT (G:Cfg)(f:Nat)(vs:Option (List V))(s:St)(d:Dst)(r:List Op)(k:K):Prop :=
  CK vs fun vs=>Ret G f vs s.M.H fun v H'=>BO G (CW { s with M:={ s.M with H:=H' } } d v) r k
def La (s:St)(o:OP)(az:List Opnd)(d:Dst):Option St:=(Af (evA s) az).bind fun vs=>(Ap o vs).bind fun v=>CW s d v
def stepR (s:St)(o:OR)(az:List Opnd)(d:Dst):Option St:=(Af (evA s) az).bind fun vs=>(readX s.M o vs).bind fun v=>CW s d v
def Er (s:St)(o:OL)(az:List Opnd)(d:Dst):Option St:=gd (Bg s (.l o)) ((Af (evA s) az).bind fun vs=>(An (fun _ _ _=>none) s.M o vs).bind fun p=>CW { s with M:=p.2 } d p.1)
def BE (q:Option Bool)(a b:Option St):Option St:=q.bind fun q=>match q with
  | true=>a
  | false=>b
section
variable {G:Cfg}
theorem Tr (s:St)(b:C)(k:K):At' G .nm s (.seq b k)=Run G b s k:=rfl
theorem Ts (s:St)(b:C)(k:K)(j:Nat):At' G (.ex j) s (.seq b k)=At' G (.ex j) s k:=rfl
theorem QU (s:St)(b:C)(k:K):At' G .ret s (.seq b k)=At' G .ret s k:=rfl
theorem Tv (s:St)(id:Nat)(k:K):At' G .nm s (.blk id k)=At' G .nm s k:=rfl
theorem QX (s:St)(id:Nat)(k:K):At' G .ret s (.blk id k)=At' G .ret s k:=rfl
theorem Tw (s:St)(id:Nat)(k:K)(j:Nat):At' G (.ex j) s (.blk id k)=if j=id then At' G .nm s k else At' G (.ex j) s k:=Aey id _ s j
theorem at_st (e:Ex)(s:St)(Q:Ex->St->Prop):At' G e s (.st Q)=Q e s:=rfl
theorem Tu (s:St)(rs:List Res)(Q:V->Hp->Prop):At' G .nm s (.fin rs Q)=CK (DX s rs) fun v=>Q v s.M.H:=rfl
theorem QW (s:St)(rs:List Res)(Q:V->Hp->Prop):At' G .ret s (.fin rs Q)=CK (DX s rs) fun v=>Q v s.M.H:=rfl
theorem Tt (s:St)(rs:List Res)(H:Hp)(Q:V->Hp->Prop):At' G .nm s (.pur rs H Q)=CK ((DX s rs).bind (viewR s.M.H)) fun r=>Q r H:=by
  rw[DF];rfl
theorem QV (s:St)(rs:List Res)(H:Hp)(Q:V->Hp->Prop):At' G .ret s (.pur rs H Q)=CK ((DX s rs).bind (viewR s.M.H)) fun r=>Q r H:=by
  rw[DF];rfl
theorem Sk (s:St)(k:K):Run G .skip s k=At' G .nm s k:=Si s _
theorem ZO (id:Nat)(s:St)(k:K):Run G (.ex id) s k=At' G (.ex id) s k:=ZM id s _
theorem VK (s:St)(k:K):Run G .ret s k=At' G .ret s k:=VF s _
theorem VJ (hG:BD G)(a b:C)(s:St)(k:K):Run G (.seq a b) s k=Run G a s (.seq b k):=VE hG a b s _
theorem Ol (id:Nat)(c:C)(s:St)(k:K):Run G (.blk id c) s k=Run G c s (.blk id k):=VI id c s _
theorem Oj (ops:List Op)(s:St)(k:K):Run G (.reg ops) s k=BO G (some s) ops k:=by
  unfold Run BO
  rw[Bh]
  exact VG ops s _
theorem VM (o:Opnd)(a b:C)(s:St)(k:K):Run G (.ite o a b) s k=YU G ((evA s o).bind asB) a b s k:=VH o a b s _
theorem Sl (hG:BD G)(dr:List Nat)(c:C)(s:St)(k:K):Run G (.loop dr c) s k=Run G c { s with E:=AF dr s.E } (.seq (.loop dr c) k):=Sj hG dr c s _
theorem RR (a b:C)(s:St)(k:K):YU G (some true) a b s k=Run G a s k:=by simp[YU,Bh,Run]
theorem Qt (a b:C)(s:St)(k:K):YU G (some false) a b s k=Run G b s k:=by simp[YU,Bh,Run]
theorem On (s:St)(k:K):BO G (some s) [] k=At' G .nm { s with L:=[] } k:=by
  simp only[BO,Bh,ZX]
  rfl
theorem Lh (ops:List Op)(k:K):BO G none ops k=False:=by simp[BO,CK]
theorem ZP (b:Bool)(s:Option St)(ops:List Op)(k:K):BO G (gd b s) ops k=(b=true/\BO G s ops k):=Ng b s _
theorem Sp (hG:BD G)(d:Dst)(o:OP)(az:List Opnd)(s:St)(r:List Op)(k:K):BO G (some s) (⟨d,.p o,az,none⟩::r) k=BO G (La s o az d) r k:=by
  simp only[BO,Bh,EO hG,Aaa,La,DF]
theorem So (hG:BD G)(d:Dst)(o:OR)(az:List Opnd)(s:St)(r:List Op)(k:K):BO G (some s) (⟨d,.r o,az,none⟩::r) k=BO G (stepR s o az d) r k:=by
  simp only[BO,Bh,EO hG,ZZ,stepR,DF]
theorem HQ (hG:BD G)(d:Dst)(f:Nat)(az:List Opnd)(s:St)(r:List Op)(k:K):BO G (some s) (⟨d,.l (.cal f),az,none⟩::r) k=IT G f (Af (evA s) az) s d r k:=by
  simp only[BO,Bh,EO hG,Aab,IT]
theorem DD (hG:BD G)(d:Dst)(o:O)(az:List Opnd)(g:Opnd)(want:Bool)(s:St)(r:List Op)(k:K):
    BO G (some s) (⟨d,o,az,some (g,want)⟩::r) k=CK (Ax s (some (g,want))) fun q=>if q then BO G (some s) (⟨d,o,az,none⟩::r) k else BO G (CW s d .un) r k:=by
  simp only[BO,Bh,EO hG,VZ]
theorem GR (hG:BD G)(d:Dst)(o:OP)(az:List Opnd)(g:Opnd)(want:Bool)(s:St)(r:List Op)(k:K):
    BO G (some s) (⟨d,.p o,az,some (g,want)⟩::r) k=BO G (BE (Ax s (some (g,want))) (La s o az d) (CW s d .un)) r k:=by
  rw[DD hG]
  cases hq:Ax s (some (g,want)) with
  | none=>simp[CK,BE,BO]
  | some q=>cases q <;> simp[Bh,BE,Sp hG]
theorem GQ (hG:BD G)(d:Dst)(o:OR)(az:List Opnd)(g:Opnd)(want:Bool)(s:St)(r:List Op)(k:K):
    BO G (some s) (⟨d,.r o,az,some (g,want)⟩::r) k=BO G (BE (Ax s (some (g,want))) (stepR s o az d) (CW s d .un)) r k:=by
  rw[DD hG]
  cases hq:Ax s (some (g,want)) with
  | none=>simp[CK,BE,BO]
  | some q=>cases q <;> simp[Bh,BE,So hG]
def KR (G:Cfg)(q:Option Bool)(f:Nat)(az:List Opnd)(s:St)(d:Dst)(r:List Op)(k:K):Prop:=CK q fun q=>if q then IT G f (Af (evA s) az) s d r k else BO G (CW s d .un) r k
theorem Et (hG:BD G)(d:Dst)(f:Nat)(az:List Opnd)(g:Opnd)(want:Bool)(s:St)(r:List Op)(k:K):
    BO G (some s) (⟨d,.l (.cal f),az,some (g,want)⟩::r) k=KR G (Ax s (some (g,want))) f az s d r k:=by
  rw[DD hG]
  simp only[KR,HQ hG]
theorem QJ (f:Nat)(az:List Opnd)(s:St)(d:Dst)(r:List Op)(k:K):KR G (some true) f az s d r k=IT G f (Af (evA s) az) s d r k:=by simp[KR,Bh]
theorem Nm (f:Nat)(az:List Opnd)(s:St)(d:Dst)(r:List Op)(k:K):KR G (some false) f az s d r k=BO G (CW s d .un) r k:=by simp[KR,Bh]
theorem HY (hG:BD G)(d:Dst)(o:OL)(az:List Opnd)(s:St)(r:List Op)(k:K)(hc:∀call vs,An call s.M o vs=An (fun _ _ _=>none) s.M o vs):BO G (some s) (⟨d,.l o,az,none⟩::r) k=BO G (Er s o az d) r k:=by
  simp only[BO,Bh,EO hG,Er,Ng,DF]
  apply propext
  simp only[Hj,Ea,Ax,Ait,evO,hc,CK]
  constructor
  · rintro⟨n,s',h,hq⟩
    rw[gd_eq]at h
    obtain⟨hf,h⟩:=h
    simp only[Aik]at h
    obtain⟨vs,h1,p,h2,h3⟩:=h
    exact⟨hf,vs,h1,p,h2,s',h3,hq⟩
  · rintro⟨hf,vs,h1,p,h2,s',h3,hq⟩
    refine⟨0,s',?_,hq⟩
    rw[gd_eq]
    simp only[Aik]
    exact⟨hf,vs,h1,p,h2,h3⟩
where gd_eq {α:Type} {b:Bool} {x:Option α} {y:α}:(gd b x=some y)=(b=true/\x=some y):=by cases b <;> simp[gd]
theorem JX {M:Mem}{o:OL}(h1:∀f,o ≠ .cal f)(h2:o ≠ .cav)(c d:Bq)(vs:List V):An c M o vs=An d M o vs:=by
  cases o with
  | cal f=>exact absurd rfl (h1 f)
  | cav=>exact absurd rfl h2
  | _ =>
    match vs with
    | []=>rfl
    | [_]=>rfl
    | [_,_]=>rfl
    | [_,_,_]=>rfl
    | _::_::_::_::_=>rfl
theorem Fv {f np:Nat}{rs:List Res}{c:C}{vs:List V}{is:List I}{H:Hp}{Q:V->Hp->Prop}(hp:G.prim f=none)(hf:G.fn f=some ⟨np,rs,c⟩)(hs:G.sh f=false)(hv:Bz vs=some is)(hl:vs.length=np) 
    (h:Run G c ⟨Dc 0 vs,[],⟨[],[]⟩⟩ (.pur rs H Q)):Ret G f vs H Q:=Om hp hf hs hv hl h
theorem Al {f np:Nat}{rs:List Res}{c:C}{vs:List V}{is:List I}{H:Hp}{v:V}(hp:G.prim f=none)(hf:G.fn f=some ⟨np,rs,c⟩)(hs:G.sh f=false)(hv:Bz vs=some is)(hl:vs.length=np) 
    (h:Run G c ⟨Dc 0 vs,[],⟨[],[]⟩⟩ (.pur rs H fun v' _=>v'=v)):Gives G f vs H v H:=by
  refine .of_ret (Om hp hf hs hv hl (h.mono fun e s hq=>?_))
  cases e with
  | ex j=>exact hq
  | nm =>
    obtain⟨x,h1,r,h2,h3⟩:=hq
    exact⟨x,h1,r,h2,h3,rfl⟩
  | ret =>
    obtain⟨x,h1,r,h2,h3⟩:=hq
    exact⟨x,h1,r,h2,h3,rfl⟩
theorem Bd (hG:BD G){f np:Nat}{rs:List Res}{c:C}{vs:List V}{H:Hp}{Q:V->Hp->Prop}(hp:G.prim f=none)(hf:G.fn f=some ⟨np,rs,c⟩)(hs:G.sh f=true)(hv:vs.all AA=true)(hl:vs.length=np) 
    (h:Run G c ⟨Dc 0 vs,[],⟨[],H⟩⟩ (.fin rs Q)):Ret G f vs H Q:=QA hG hp hf hs hv hl h
end
end Go.Mx
/- Walking the machine: rules for simp. Nothing here speaks of a program. -/
namespace Go.Mx
attribute [simp] Bh Ng DF Tr Ts QU Tv QX Tw at_st Tu QW Tt QV Sk ZO VK Ol Oj VM RR Qt On Lh ZP QJ Nm
@[simp] theorem pickS_t (a b:Option St):BE (some true) a b=a:=rfl
@[simp] theorem pickS_f (a b:Option St):BE (some false) a b=b:=rfl
@[simp] theorem stepP_eq (s:St)(o:OP)(az:List Opnd)(d:Dst):La s o az d=(Af (evA s) az).bind fun vs=>(Ap o vs).bind fun v=>CW s d v:=rfl
@[simp] theorem stepR_eq (s:St)(o:OR)(az:List Opnd)(d:Dst):stepR s o az d=(Af (evA s) az).bind fun vs=>(readX s.M o vs).bind fun v=>CW s d v:=rfl
@[simp] theorem Aec {α:Type}(p:α->Prop):CK none p=False:=by simp[CK]
@[simp] theorem Adi {α β:Type}(f:α->Option β):Af f []=some []:=rfl
@[simp] theorem ZW {α β:Type}(f:α->Option β)(a:α)(r:List α):Af f (a::r)=(f a).bind fun x=>(Af f r).bind fun l=>some (x::l):=rfl
@[simp] theorem getE_nil (n:Nat):BX [] n=none:=rfl
@[simp] theorem CB (k:Nat)(x:V)(r:Env)(n:Nat):BX ((k,x)::r) n=if k=n then some x else BX r n:=by
  simp only[BX]
  by_cases h:k=n
  · subst h;simp
  · rw[Aiq h]
    have:Nat.beq k n=false:=by
      cases hb:Nat.beq k n with
      | false=>rfl
      | true=>exact absurd (Aiz hb) h
    rw[this]
@[simp] theorem setE_nil (n:Nat)(x:V):BV [] n x=[(n,x)]:=rfl
@[simp] theorem HL (k:Nat)(y:V)(r:Env)(n:Nat)(x:V):BV ((k,y)::r) n x=if n<k then (n,x)::(k,y)::r else if k=n then (n,x)::r else (k,y)::BV r n x:=by
  simp only[BV]
  by_cases h:n<k
  · rw[Air h]
    have:Nat.blt n k=true:=by rw[AjE];exact h
    rw[this]
  · rw[Aiq h]
    have:Nat.blt n k=false:=by
      cases hb:Nat.blt n k with
      | false=>rfl
      | true=>rw[AjE]at hb;exact absurd hb h
    rw[this]
    by_cases e:k=n
    · subst e;simp
    · rw[Aiq e]
      have:Nat.beq k n=false:=by
        cases hb:Nat.beq k n with
        | false=>rfl
        | true=>exact absurd (Aiz hb) e
      rw[this]
@[simp] theorem rmE_nil (n:Nat):rmE [] n=[]:=rfl
@[simp] theorem rmE_cons (k:Nat)(x:V)(r:Env)(n:Nat):rmE ((k,x)::r) n=if k=n then rmE r n else (k,x)::rmE r n:=by
  simp only[rmE]
  by_cases h:k=n
  · subst h;simp
  · rw[Aiq h]
    have:Nat.beq k n=false:=by
      cases hb:Nat.beq k n with
      | false=>rfl
      | true=>exact absurd (Aiz hb) h
    rw[this]
@[simp] theorem AeR (e:Env):AF [] e=e:=rfl
@[simp] theorem Ado (n:Nat)(r:List Nat)(e:Env):AF (n::r) e=AF r (rmE e n):=rfl
@[simp] theorem evA_v (s:St)(n:Nat):evA s (.v n)=BX s.E n:=rfl
@[simp] theorem evA_l (s:St)(n:Nat):evA s (.l n)=BX s.L n:=rfl
@[simp] theorem evA_k (s:St)(x:V):evA s (.k x)=some x:=rfl
@[simp] theorem setD_no (s:St)(x:V):CW s .no x=some s:=rfl
@[simp] theorem setD_l (s:St)(n:Nat)(x:V):CW s (.l n) x=some { s with L:=BV s.L n x }:=rfl
@[simp] theorem setD_vm (s:St)(n:Nat)(x:I):CW s (.v n) (.m x)=some { s with E:=BV s.E n (.m x) }:=rfl
@[simp] theorem setD_vun (s:St)(n:Nat):CW s (.v n) .un=some { s with E:=BV s.E n .un }:=rfl
@[simp] theorem setD_vls (s:St)(n:Nat)(x:List (List I)):CW s (.v n) (.ls x)=some { s with E:=BV s.E n (.ls x) }:=rfl
@[simp] theorem setD_vsl (s:St)(n a b c d e:Nat)(f:Bool):CW s (.v n) (.sl a b c d e f)=some { s with E:=BV s.E n (.sl a b c d e f) }:=rfl
@[simp] theorem setD_vpt (s:St)(n a b c d:Nat):CW s (.v n) (.pt a b c d)=some { s with E:=BV s.E n (.pt a b c d) }:=rfl
@[simp] theorem setD_vmp (s:St)(n a:Nat):CW s (.v n) (.mp a)=some { s with E:=BV s.E n (.mp a) }:=rfl
@[simp] theorem setD_vtu (s:St)(n:Nat)(a:List V):CW s (.v n) (.tu a)=some { s with E:=BV s.E n (.tu a) }:=rfl
@[simp] theorem setD_vag (s:St)(n:Nat)(a:List V):CW s (.v n) (.ag a)=some { s with E:=BV s.E n (.ag a) }:=rfl
@[simp] theorem setD_vfn (s:St)(n f:Nat)(a:List V):CW s (.v n) (.fn f a)=some { s with E:=BV s.E n (.fn f a) }:=rfl
@[simp] theorem Za (s:St):Ax s none=some true:=rfl
@[simp] theorem HG (s:St)(a:Opnd)(w:Bool):Ax s (some (a,w))=(evA s a).bind fun v=>match v with
    | .m (.b x)=>some (x==w)
    | .un=>some false
    | _=>none:=rfl
@[simp] theorem asB_b (x:Bool):asB (.m (.b x))=some x:=rfl
@[simp] theorem AeQ (k:Nat):Dc k []=[]:=rfl
@[simp] theorem Adn (k:Nat)(x:V)(r:List V):Dc k (x::r)=(k,x)::Dc (k+1) r:=rfl
@[simp] theorem resOf_eq (s:St)(rs:List Res):DX s rs=(Af (QE s) rs).bind fun vs=>some (tup vs):=rfl
@[simp] theorem resV_t (s:St)(n:Nat):QE s (.t n)=(BX s.E n).bind fun v=>gd (AA v) (some v):=rfl
@[simp] theorem resV_c (s:St)(n sz:Nat)(ag:Bool):QE s (.c n sz ag)=(BX s.E n).bind fun a=>(readA s.M sz a).bind fun cs=>Dk ag cs:=rfl
@[simp] theorem noFaV_m (x:I):AA (.m x)=true:=rfl
@[simp] theorem noFaV_ls (x:List (List I)):AA (.ls x)=true:=rfl
@[simp] theorem noFaV_sl (a b c d e:Nat)(f:Bool):AA (.sl a b c d e f)=true:=rfl
@[simp] theorem noFaV_mp (a:Nat):AA (.mp a)=true:=rfl
@[simp] theorem noFaV_pt (a b c d:Nat):AA (.pt a b c d)=true:=rfl
@[simp] theorem noFaV_ag (a:List V):AA (.ag a)=true:=rfl
@[simp] theorem noFaV_tu (a:List V):AA (.tu a)=true:=rfl
@[simp] theorem noFaV_fn (f:Nat)(a:List V):AA (.fn f a)=true:=rfl
@[simp] theorem tup_1 (v:V):tup [v]=v:=rfl
@[simp] theorem tup_0:tup []=.tu []:=rfl
@[simp] theorem tup_2 (u v:V)(r:List V):tup (u::v::r)=.tu (u::v::r):=rfl
@[simp] theorem viewR_m (H:Hp)(x:I):viewR H (.m x)=some (.m x):=rfl
@[simp] theorem viewR_tu (H:Hp)(vs:List V):viewR H (.tu vs)=(Af (view 20 H) vs).bind fun l=>some (.tu (l.map .m)):=rfl
@[simp] theorem viewR_ls (H:Hp)(x:List (List I)):viewR H (.ls x)=some (.m (.sl x)):=rfl
@[simp] theorem view_m (n:Nat)(H:Hp)(x:I):view (n+1) H (.m x)=some x:=rfl
@[simp] theorem NV (H:Hp)(x:I):view 20 H (.m x)=some x:=rfl
@[simp] theorem AdF (H:Hp)(x:List (List I)):view 20 H (.ls x)=some (.sl x):=rfl
@[simp] theorem allM_nil:Bz []=some []:=rfl
@[simp] theorem Afh (x:I)(r:List V):Bz (.m x::r)=(Bz r).bind fun l=>some (x::l):=rfl
/- Operations on immutable values. -/
@[simp] theorem px_mv (x:V):Ap .mv [x]=some x:=rfl
@[simp] theorem px_pick (c:Bool)(a b:V):Ap .pick [.m (.b c),a,b]=some (if c then a else b):=by cases c <;> rfl
@[simp] theorem px_un (o:UnOp)(x:V):Ap (.un o) [x]=unX o x:=rfl
@[simp] theorem px_bin (o:BinOp)(x y:V):Ap (.bin o) [x,y]=Ek o x y:=rfl
@[simp] theorem px_eqb (n x y:Bool):Ap (.eqb n) [.m (.b x),.m (.b y)]=some (.m (.b (xor n (x==y)))):=rfl
@[simp] theorem px_eqs (n:Bool)(ks:List Nat)(xs ys:List I):Ap (.eqs n ks) [.m (.ag xs),.m (.ag ys)]=(Fp ks xs ys).bind fun r=>some (.m (.b (xor n r))):=rfl
@[simp] theorem px_eqn (n:Bool)(k:Nat)(x:V):Ap (.eqn n k) [x]=(DZ k x).bind fun r=>some (.m (.b (xor n r))):=rfl
@[simp] theorem px_build (z:List V)(p:List (Nat×Nat))(xs:List V):Ap (.build z p) xs=(SV z p xs).bind fun cs=>some (mkAg cs):=rfl
@[simp] theorem px_cv (k k':IntKind)(n:Int):Ap (.cv k) [.m (.i k' n)]=some (.m (.i k (wr k n))):=rfl
@[simp] theorem AdZ (o:Nat)(cs:List I):Ap (.fad o) [.m (.pt cs)]=some (.m (.pt (cs.drop o))):=rfl
@[simp] theorem Aea (o d o':Nat):Ap (.fad o) [.fa d o']=some (.fa d (o'+o)):=rfl
@[simp] theorem Adh (o r v i o':Nat):Ap (.fad o) [.pt r v i o']=some (.pt r v i (o'+o)):=rfl
@[simp] theorem px_ext (j:Nat)(vs:List V):Ap (.ext j) [.tu vs]=nth vs j:=rfl
@[simp] theorem px_mkf (f:Nat)(xs:List V):Ap (.mkf f) xs=gd (xs.all AA) (some (.fn f xs)):=rfl
@[simp] theorem AdT (d o:Nat):Ap .nck [.fa d o]=some (.fa d o):=rfl
@[simp] theorem Adc (r v i o:Nat):Ap .nck [.pt r v i o]=some (.pt r v i o):=rfl
@[simp] theorem AdS (cs:List I):Ap .nck [.m (.pt cs)]=some (.m (.pt cs)):=rfl
@[simp] theorem AdV:Ap (.len false) [.m (.nl 4)]=some (.m (.i .i64 0)):=rfl
@[simp] theorem AdU (es:List (List I)):Ap (.len false) [.m (.sl es)]=some (.m (.i .i64 es.length)):=rfl
@[simp] theorem AdW (es:List (List I)):Ap (.len false) [.ls es]=some (.m (.i .i64 es.length)):=rfl
@[simp] theorem Add (r v e st n:Nat)(l:Bool):Ap (.len false) [.sl r v e st n l]=some (.m (.i .i64 n)):=rfl
@[simp] theorem px_len_s (l:List Nat):Ap (.len true) [.m (.s l)]=some (.m (.i .i64 l.length)):=rfl
@[simp] theorem Kj (k:IntKind):eqK k k=true:=by cases k <;> rfl
@[simp] theorem GC {α:Type}(x:Option α):gd true x=x:=rfl
@[simp] theorem Wo {α:Type}(x:Option α):gd false x=none:=rfl
@[simp] theorem bx_add (k:IntKind)(x y:Int):Ek .add (.m (.i k x)) (.m (.i k y))=some (.m (.i k (wr k (x+y)))):=by simp[Ek,arX,vi]
@[simp] theorem bx_sub (k:IntKind)(x y:Int):Ek .sub (.m (.i k x)) (.m (.i k y))=some (.m (.i k (wr k (x-y)))):=by simp[Ek,arX,vi]
@[simp] theorem bx_mul (k:IntKind)(x y:Int):Ek .mul (.m (.i k x)) (.m (.i k y))=some (.m (.i k (wr k (x*y)))):=by simp[Ek,arX,vi]
theorem Sz (y:Int):(!eqI y 0)=decide (y≠0):=by rw[DL];by_cases h:y=0 <;> simp[h]
@[simp] theorem bx_quo (k:IntKind)(x y:Int):Ek .quo (.m (.i k x)) (.m (.i k y))=gd (decide (y≠0)) (some (.m (.i k (wr k (x.tdiv y))))):=by simp only[Ek,arX,vi,Kj,GC,Sz]
@[simp] theorem bx_rem (k:IntKind)(x y:Int):Ek .rem (.m (.i k x)) (.m (.i k y))=gd (decide (y≠0)) (some (.m (.i k (x.tmod y)))):=by simp only[Ek,arX,vi,Kj,GC,Sz]
@[simp] theorem bx_eql (k:IntKind)(x y:Int):Ek .eql (.m (.i k x)) (.m (.i k y))=some (.m (.b (decide (x=y)))):=by simp[Ek,arX,vb,DL];rfl
@[simp] theorem bx_neq (k:IntKind)(x y:Int):Ek .neq (.m (.i k x)) (.m (.i k y))=some (.m (.b (decide (x≠y)))):=by simp[Ek,arX,vb,DL];rfl
@[simp] theorem bx_lss (k:IntKind)(x y:Int):Ek .lss (.m (.i k x)) (.m (.i k y))=some (.m (.b (decide (x<y)))):=by simp[Ek,arX,vb,CM]
@[simp] theorem bx_leq (k:IntKind)(x y:Int):Ek .leq (.m (.i k x)) (.m (.i k y))=some (.m (.b (decide (x<=y)))):=by simp[Ek,arX,vb,GT]
@[simp] theorem bx_gtr (k:IntKind)(x y:Int):Ek .gtr (.m (.i k x)) (.m (.i k y))=some (.m (.b (decide (y<x)))):=by simp[Ek,arX,vb,CM]
@[simp] theorem bx_geq (k:IntKind)(x y:Int):Ek .geq (.m (.i k x)) (.m (.i k y))=some (.m (.b (decide (y<=x)))):=by simp[Ek,arX,vb,GT]
@[simp] theorem AaE (x y:List Nat):Ek .add (.m (.s x)) (.m (.s y))=gd (decide (x.length+y.length<=9223372036854775807)) (some (.m (.s (x++y)))):=by
  simp only[Ek,stX]
  congr 1
  rw[Ajg];simp
@[simp] theorem ux_neg (k:IntKind)(x:Int):unX .neg (.m (.i k x))=some (.m (.i k (wr k (0-x)))):=rfl
@[simp] theorem ux_not (x:Bool):unX .not (.m (.b x))=some (.m (.b (!x))):=rfl
@[simp] theorem nth_zero {α:Type}(x:α)(r:List α):nth (x::r) 0=some x:=rfl
@[simp] theorem Wa {α:Type}(x:α)(r:List α)(n:Nat):nth (x::r) (n+1)=nth r n:=rfl
@[simp] theorem aggC_m (cs:List I):AaN (.m (.ag cs))=some (cs.map .m):=rfl
@[simp] theorem aggC_a (cs:List V):AaN (.ag cs)=some cs:=rfl
@[simp] theorem valOf_f (x:V):Dk false [x]=some x:=rfl
@[simp] theorem AX (cs:List V):Dk true cs=some (mkAg cs):=rfl
/- Numbers in their kinds. -/
theorem Aa {x:Int}(h1:-9223372036854775808<=x)(h2:x<=9223372036854775807):wr .i64 x=x:=by
  have:okK .i64 x=true:=(Ic _ _ _).2 ⟨by simpa using h1,by simpa using h2⟩
  unfold wr;rw[this]
theorem CU {x:Int}(h1:0<=x)(h2:x<=18446744073709551615):wr .u64 x=x:=by
  have:okK .u64 x=true:=(Ic _ _ _).2 ⟨by simpa using h1,by simpa using h2⟩
  unfold wr;rw[this]
theorem FH {x:Int}(h1:0<=x)(h2:x<=4294967295):wr .u32 x=x:=by
  have:okK .u32 x=true:=(Ic _ _ _).2 ⟨by simpa using h1,by simpa using h2⟩
  unfold wr;rw[this]
theorem KX {x:Int}(h1:0<=x)(h2:x<=255):wr .u8 x=x:=by
  have:okK .u8 x=true:=(Ic _ _ _).2 ⟨by simpa using h1,by simpa using h2⟩
  unfold wr;rw[this]
theorem Gm (x:Int):wr .u64 x=x%18446744073709551616:=by
  rw[Gn]
  simp[IntKind.wrap,IntKind.signed,IntKind.bits]
end Go.Mx
/- Walking the machine: more rules for simp (private boxes, slices that do not change, strings). Nothing here speaks of a program. -/
namespace Go.Mx
theorem Bb (a b:Nat):Nat.ble a b=decide (a<=b):=by
  rw[Ajg];simp
theorem NB (a b:Nat):Nat.blt a b=decide (a<b):=by
  rw[Ajg];simp
theorem FA (a b:Nat):Nat.beq a b=decide (a=b):=by
  rw[Ajg];simp
/- Private boxes. -/
@[simp] theorem stepL_eq (s:St)(o:OL)(az:List Opnd)(d:Dst):Er s o az d=gd (Bg s (.l o)) ((Af (evA s) az).bind fun vs=>(An (fun _ _ _=>none) s.M o vs).bind fun p=>CW { s with M:=p.2 } d p.1):=rfl
@[simp] theorem AeL (s:St)(d:Nat)(z:List V):Bg s (.l (.alp d z))=BQ d s.L:=rfl
@[simp] theorem AeI (s:St)(d z:Nat):Bg s (.l (.bxp d z))=BQ d s.L:=rfl
@[simp] theorem AeK (s:St)(a b c:Nat)(z:List V):Bg s (.l (.als a b c z))=true:=rfl
@[simp] theorem fresh_st (s:St)(n:Nat):Bg s (.l (.st n))=true:=rfl
@[simp] theorem AeC (s:St)(n:Nat):Bg s (.l (.str n))=true:=rfl
@[simp] theorem isFa_fa (d k o:Nat):Wi d (.fa k o)=decide (k=d):=FA k d
@[simp] theorem isFa_m (d:Nat)(x:I):Wi d (.m x)=false:=rfl
@[simp] theorem isFa_pt (d a b c e:Nat):Wi d (.pt a b c e)=false:=rfl
@[simp] theorem AeF (s:St):Bg s (.l .mkm)=true:=rfl
@[simp] theorem AeE (s:St)(a b c:Nat)(z:List V):Bg s (.l (.mks a b z c))=true:=rfl
@[simp] theorem AeJ (s:St)(a b c:Nat):Bg s (.l (.app a b c))=true:=rfl
@[simp] theorem AeD (s:St)(q:KT):Bg s (.l (.mup q))=true:=rfl
@[simp] theorem AeG (s:St)(q:KT):Bg s (.l (.mdl q))=true:=rfl
@[simp] theorem noFa_nil (d:Nat):BQ d []=true:=rfl
@[simp] theorem noFa_fa (d k n o:Nat)(r:Env):BQ d ((n,.fa k o)::r)=(!Nat.beq k d&&BQ d r):=rfl
@[simp] theorem noFa_m (d n:Nat)(x:I)(r:Env):BQ d ((n,.m x)::r)=BQ d r:=rfl
@[simp] theorem noFa_un (d n:Nat)(r:Env):BQ d ((n,.un)::r)=BQ d r:=rfl
@[simp] theorem noFa_ls (d n:Nat)(x:List (List I))(r:Env):BQ d ((n,.ls x)::r)=BQ d r:=rfl
@[simp] theorem noFa_sl (d n a b c e f:Nat)(g:Bool)(r:Env):BQ d ((n,.sl a b c e f g)::r)=BQ d r:=rfl
@[simp] theorem noFa_pt (d n a b c e:Nat)(r:Env):BQ d ((n,.pt a b c e)::r)=BQ d r:=rfl
@[simp] theorem noFa_mp (d n a:Nat)(r:Env):BQ d ((n,.mp a)::r)=BQ d r:=rfl
@[simp] theorem noFa_ag (d n:Nat)(a:List V)(r:Env):BQ d ((n,.ag a)::r)=BQ d r:=rfl
@[simp] theorem noFa_tu (d n:Nat)(a:List V)(r:Env):BQ d ((n,.tu a)::r)=BQ d r:=rfl
@[simp] theorem noFa_fn (d n f:Nat)(a:List V)(r:Env):BQ d ((n,.fn f a)::r)=BQ d r:=rfl
@[simp] theorem loud_alp (c:Bq)(M:Mem)(d:Nat)(z:List V):An c M (.alp d z) []=some (.fa d 0,{ M with B:=Eh M.B d z }):=rfl
@[simp] theorem loud_bxp (c:Bq)(M:Mem)(d sz:Nat)(x:V):An c M (.bxp d sz) [x]=(Au x).bind fun cs=>gd (Nat.beq cs.length sz) (some (.fa d 0,{ M with B:=Eh M.B d cs })):=rfl
@[simp] theorem loud_st (c:Bq)(M:Mem)(sz:Nat)(a x:V):An c M (.st sz) [a,x]=(Au x).bind fun cs=>gd (Nat.beq cs.length sz&&cs.all BM) ((Fk M cs a).bind fun M'=>some (.un,M')):=rfl
@[simp] theorem loud_str (c:Bq)(M:Mem)(sz:Nat)(a x:V):An c M (.str sz) [a,x]=gd (AA a) ((Au x).bind fun cs=>gd (Nat.beq cs.length sz&&cs.all BM) ((Fk M cs a).bind fun M'=>some (.un,M'))):=rfl
@[simp] theorem Afb (cs:List I):Au (.m (.ag cs))=some (cs.map .m):=rfl
@[simp] theorem Afa (cs:List V):Au (.ag cs)=some cs:=rfl
@[simp] theorem cellsV_b (x:Bool):Au (.m (.b x))=some [.m (.b x)]:=rfl
@[simp] theorem cellsV_i (k:IntKind)(x:Int):Au (.m (.i k x))=some [.m (.i k x)]:=rfl
@[simp] theorem cellsV_s (x:List Nat):Au (.m (.s x))=some [.m (.s x)]:=rfl
@[simp] theorem AeX (k:Nat):Au (.m (.nl k))=some [.m (.nl k)]:=rfl
@[simp] theorem Ads (es:List (List I)):Au (.m (.sl es))=some [.m (.sl es)]:=rfl
@[simp] theorem Adt (es:List (List I)):Au (.m (.mp es))=some [.m (.mp es)]:=rfl
@[simp] theorem AeZ (es:List (List I)):Au (.ls es)=some [.ls es]:=rfl
@[simp] theorem AeW (a b c d e:Nat)(f:Bool):Au (.sl a b c d e f)=some [.sl a b c d e f]:=rfl
@[simp] theorem AeY (a:Nat):Au (.mp a)=some [.mp a]:=rfl
@[simp] theorem oneV_b (x:Bool):BM (.m (.b x))=true:=rfl
@[simp] theorem oneV_i (k:IntKind)(x:Int):BM (.m (.i k x))=true:=rfl
@[simp] theorem oneV_s (x:List Nat):BM (.m (.s x))=true:=rfl
@[simp] theorem oneV_nl (k:Nat):BM (.m (.nl k))=true:=rfl
@[simp] theorem oneV_msl (es:List (List I)):BM (.m (.sl es))=true:=rfl
@[simp] theorem oneV_ls (es:List (List I)):BM (.ls es)=true:=rfl
@[simp] theorem oneV_sl (a b c d e:Nat)(f:Bool):BM (.sl a b c d e f)=true:=rfl
@[simp] theorem oneV_mp (a:Nat):BM (.mp a)=true:=rfl
@[simp] theorem getB_nil (n:Nat):getB [] n=none:=rfl
@[simp] theorem DJ (k:Nat)(x:List V)(r:List (Nat×List V))(n:Nat):getB ((k,x)::r) n=if k=n then some x else getB r n:=by
  simp only[getB,FA]
  by_cases h:k=n <;> simp[h]
@[simp] theorem setB_nil (n:Nat)(x:List V):Eh [] n x=[(n,x)]:=rfl
@[simp] theorem Es (k:Nat)(y:List V)(r:List (Nat×List V))(n:Nat)(x:List V):Eh ((k,y)::r) n x=if k=n then (n,x)::r else if n<k then (n,x)::(k,y)::r else (k,y)::Eh r n x:=by
  simp only[Eh,FA,NB]
  by_cases h:k=n
  · simp[h]
  · by_cases h2:n<k <;> simp[h,h2]
@[simp] theorem AdE (M:Mem)(xs:List V)(d off:Nat):Fk M xs (.fa d off)=(getB M.B d).bind fun cs=>(Fw cs off xs).bind fun cs'=>some { M with B:=Eh M.B d cs' }:=rfl
@[simp] theorem VW (cs:List V)(off:Nat)(xs:List V):Fw cs off xs=gd (decide (off+xs.length<=cs.length)) (some (cs.take off++xs++cs.drop (off+xs.length))):=by rw[<-Bb];rfl
theorem Vp (n:Nat)(l:List V):CV n l=gd (decide ((l.take n).length=n)) (some (l.take n)):=by rw[<-FA];rfl
@[simp] theorem readA_fa (M:Mem)(sz d off:Nat):readA M sz (.fa d off)=(getB M.B d).bind fun cs=>CV sz (cs.drop off):=rfl
@[simp] theorem readA_pt (M:Mem)(sz:Nat)(cs:List I):readA M sz (.m (.pt cs))=CV sz (cs.map .m):=rfl
@[simp] theorem rx_ld (M:Mem)(ag:Bool)(sz:Nat)(a:V):readX M (.ld ag sz) [a]=(readA M sz a).bind fun cs=>Dk ag cs:=rfl
@[simp] theorem AY (cs:List V):mkAg cs=match Bz cs with
  | some l=>.m (.ag l)
  | none=>.ag cs:=rfl
@[simp] theorem setD_mk (s:St)(n:Nat)(cs:List I):CW s (.v n) (.m (.ag cs))=some { s with E:=BV s.E n (.m (.ag cs)) }:=rfl
@[simp] theorem fill_nil (cs:List V):SV cs [] []=some cs:=rfl
@[simp] theorem AeM (cs:List V)(off sz:Nat)(ps:List (Nat×Nat))(x:V)(xs:List V):SV cs ((off,sz)::ps) (x::xs)=(Au x).bind fun l=>gd (Nat.beq l.length sz) ((Fw cs off l).bind fun cs'=>SV cs' ps xs):=rfl
@[simp] theorem Adm (esz:Nat)(es:List (List V)):BK esz es [] []=some es:=rfl
@[simp] theorem Aav (esz:Nat)(es:List (List V))(ix:Nat)(ps:List Nat)(x:V)(xs:List V):BK esz es (ix::ps) (x::xs)=(Au x).bind fun l=>gd (Nat.beq l.length esz) ((AN es ix l).bind fun es'=>BK esz es' ps xs):=rfl
@[simp] theorem AcZ {α:Type}(y:α)(r:List α)(x:α):AN (y::r) 0 x=some (x::r):=rfl
@[simp] theorem Qy {α:Type}(y:α)(r:List α)(n:Nat)(x:α):AN (y::r) (n+1) x=(AN r n x).bind fun l=>some (y::l):=rfl
@[simp] theorem px_bsl (esz:Nat)(z:List V)(n:Nat)(p:List Nat)(xs:List V):Ap (.bsl esz z n p) xs=(BK esz (List.replicate n z) p xs).bind fun es=>(Af Bz es).bind fun l=>some (.ls l):=rfl
/- Elements. -/
@[simp] theorem AeB (n:Nat)(k:IntKind)(x:Int):idx n (.m (.i k x))=gd (decide (0<=x/\x<n)) (some x.toNat):=by
  cases x with
  | ofNat j =>
    show gd (Nat.blt j n) (some j)=_
    rw[NB]
    congr 1
    simp
  | negSucc j =>
    have:¬(0<=Int.negSucc j/\Int.negSucc j<n):=by omega
    rw[AiE this];rfl
@[simp] theorem Afd (n:Nat)(k:IntKind)(x:Int):bnd n (.m (.i k x))=gd (decide (0<=x/\x<=n)) (some x.toNat):=by
  cases x with
  | ofNat j =>
    show gd (Nat.ble j n) (some j)=_
    rw[Bb]
    congr 1
    simp
  | negSucc j =>
    have:¬(0<=Int.negSucc j/\Int.negSucc j<=n):=by omega
    rw[AiE this];rfl
@[simp] theorem AdX (esz:Nat)(es:List (List I))(i:V):Ap (.ixa esz) [.m (.sl es),i]=(idx es.length i).bind fun j=>(nth es j).bind fun e=>gd (Nat.beq e.length esz) (some (.m (.pt e))):=rfl
@[simp] theorem AdY (esz:Nat)(es:List (List I))(i:V):Ap (.ixa esz) [.ls es,i]=(idx es.length i).bind fun j=>(nth es j).bind fun e=>gd (Nat.beq e.length esz) (some (.m (.pt e))):=rfl
@[simp] theorem Ade (esz r ver e st len:Nat)(lim:Bool)(i:V):Ap (.ixa esz) [.sl r ver e st len lim,i]=gd (Nat.beq esz e) ((idx len i).bind fun j=>some (.pt r ver (st+j) 0)):=rfl
@[simp] theorem Adg (n esz d o:Nat)(i:V):Ap (.ixaA n esz) [.fa d o,i]=(idx n i).bind fun j=>some (.fa d (o+j*esz)):=rfl
@[simp] theorem Adf (n esz:Nat)(cs:List I)(i:V):Ap (.ixaA n esz) [.m (.pt cs),i]=(idx n i).bind fun j=>some (.m (.pt (cs.drop (j*esz)))):=rfl
@[simp] theorem px_ixv (n esz:Nat)(ag:Bool)(x i:V):Ap (.ixv n esz ag) [x,i]=(idx n i).bind fun j=>(AaN x).bind fun cs=>(CV esz (cs.drop (j*esz))).bind fun l=>Dk ag l:=rfl
@[simp] theorem px_ixs (l:List Nat)(i:V):Ap .ixs [.m (.s l),i]=(idx l.length i).bind fun j=>(nth l j).bind fun c=>some (.m (.i .u8 (c:Int))):=rfl
theorem AP {α:Type}:∀(l:List α) (j:Nat),nth l j=l[j]?
  | [],n=>by cases n <;> rfl
  | _::_,0=>rfl
  | _::r,n+1=>by rw[Wa,AP r n];simp
@[simp] theorem px_slc_s (lo hi mx:Bool)(l:List Nat)(vs:List V):Ap (.slc 0 lo hi mx) (.m (.s l)::vs)=gd (!mx) ((IW l.length lo hi mx vs).bind fun p=>some (.m (.s ((l.drop p.1).take (p.2-p.1))))):=rfl
@[simp] theorem bnds_ff (n:Nat):IW n false false false []=some (0,n):=rfl
@[simp] theorem AaG (n:Nat)(a:V):IW n true false false [a]=(bnd n a).bind fun l=>some (l,n):=rfl
@[simp] theorem bnds_ft (n:Nat)(b:V):IW n false true false [b]=(bnd n b).bind fun h=>some (0,h):=rfl
@[simp] theorem AaF (n:Nat)(a b:V):IW n true true false [a,b]=(bnd n b).bind fun h=>(bnd h a).bind fun l=>some (l,h):=rfl
@[simp] theorem Adb (M:Mem)(n esz:Nat)(lo hi mx:Bool)(cs:List I)(vs:List V):readX M (.slcA n esz lo hi mx) (.m (.pt cs)::vs)=gd (Nat.beq cs.length (n*esz)&&Nat.ble n 9223372036854775807) ((IW n lo hi mx vs).bind fun p=>some (match mx||Nat.beq p.2 n with
      | true=>.ls (((BY esz n cs).drop p.1).take (p.2-p.1))
      | false=>.m (.sl (((BY esz n cs).drop p.1).take (p.2-p.1))))):=rfl
@[simp] theorem nat_beq (a b:Nat):Nat.beq a b=decide (a=b):=FA a b
@[simp] theorem Aew:DZ 4 (.m (.nl 4))=some true:=rfl
@[simp] theorem Aev (es:List (List I)):DZ 4 (.m (.sl es))=some false:=rfl
@[simp] theorem Aex (es:List (List I)):DZ 4 (.ls es)=some false:=rfl
@[simp] theorem Adk (a b c d e:Nat)(f:Bool):DZ 4 (.sl a b c d e f)=some false:=rfl
/- Appending to rows. -/
@[simp] theorem Dl (c:Bq)(M:Mem)(ty esz b:Nat)(s x:V):An c M (.app ty esz b) [s,x]=match x with
    | .m (.s l)=>Fi M ty esz b s (l.map fun c:Nat=>[.m (.i .u8 (Int.ofNat c))])
    | x=>(elems M.H x).bind fun xs=>Fi M ty esz b s xs:=rfl
@[simp] theorem elems_nl (H:Hp):elems H (.m (.nl 4))=some []:=rfl
@[simp] theorem elems_sl (H:Hp)(es:List (List I)):elems H (.m (.sl es))=some (Bj es):=rfl
@[simp] theorem elems_ls (H:Hp)(es:List (List I)):elems H (.ls es)=some (Bj es):=rfl
@[simp] theorem immS_nil:Bj []=[]:=rfl
@[simp] theorem Aez (e:List I)(r:List (List I)):Bj (e::r)=e.map .m::Bj r:=rfl
@[simp] theorem Ww:Fp [] [] []=some true:=rfl
@[simp] theorem SY (k:Nat)(ks:List Nat)(x y:I)(xs ys:List I):Fp (k::ks) (x::xs) (y::ys)=(eqC k x y).bind fun r=>(Fp ks xs ys).bind fun rs=>some (r&&rs):=rfl
@[simp] theorem AeP (k:IntKind)(x y:Int):eqC 1 (.i k x) (.i k y)=some (decide (x=y)):=by
  simp only[eqC,Kj,DL]
  rfl
@[simp] theorem eqC_b (x y:Bool):eqC 0 (.b x) (.b y)=some (x==y):=rfl
@[simp] theorem eqC_s (x y:List Nat):eqC 2 (.s x) (.s y)=some (decide (x=y)):=by
  simp only[eqC,Il]
  rfl
/- Calls of a function's value. -/
def CavK (G:Cfg)(g:Option V)(vs:Option (List V))(s:St)(d:Dst)(r:List Op)(k:K):Prop:=CK g fun g=>match g with
  | .m (.fn f cap)=>IT G f (vs.map fun l=>l++cap.map .m) s d r k
  | .fn f cap=>IT G f (vs.map fun l=>l++cap) s d r k
  | .yl r0=>IT G yN (vs.map fun l=>.yl r0::l) s d r k
  | _=>False
section
variable {G:Cfg}
theorem Yi (hG:BD G)(d:Dst)(g:Opnd)(az:List Opnd)(s:St)(r:List Op)(k:K):BO G (some s) (⟨d,.l .cav,g::az,none⟩::r) k=CavK G (evA s g) (Af (evA s) az) s d r k:=by
  simp only[BO,Bh,EO hG,CavK]
  apply propext
  simp only[Hj,Ea,Ax,Ait,Bg,gd,evO,Af,Aik,CK,IT,Ret]
  constructor
  · rintro⟨n,s',⟨vs,⟨gv,hg,as',has,hvs⟩,⟨v,M⟩,hl,hset⟩,hq⟩
    simp only[Ail]at hvs
    subst hvs
    refine⟨gv,hg,?_⟩
    simp only[An]at hl
    split at hl
    · rename_i f cap
      simp only[Aik,Ail,Aim]at hl
      obtain⟨⟨r0,H'⟩,h2,rfl,rfl⟩:=hl
      exact⟨_,by rw[has];rfl,n,_,_,h2,s',hset,hq⟩
    · rename_i f cap
      simp only[Aik,Ail,Aim]at hl
      obtain⟨⟨r0,H'⟩,h2,rfl,rfl⟩:=hl
      exact⟨_,by rw[has];rfl,n,_,_,h2,s',hset,hq⟩
    · rename_i r0
      simp only[Aik,Ail,Aim]at hl
      obtain⟨⟨u0,H'⟩,h2,rfl,rfl⟩:=hl
      exact⟨_,by rw[has];rfl,n,_,_,h2,s',hset,hq⟩
    · cases hl
  · rintro⟨gv,hg,h⟩
    split at h
    · rename_i f cap
      obtain⟨vs,hvs,n,v,H',h2,s',hset,hq⟩:=h
      cases ha:Af (evA s) az with
      | none=>rw[ha]at hvs;cases hvs
      | some as' =>
        rw[ha]at hvs
        cases hvs
        refine⟨n,s',⟨_,⟨_,hg,as',rfl,rfl⟩,(v,{ s.M with H:=H' }),?_,hset⟩,hq⟩
        simp only[An,Aik]
        exact⟨(v,H'),h2,rfl⟩
    · rename_i f cap
      obtain⟨vs,hvs,n,v,H',h2,s',hset,hq⟩:=h
      cases ha:Af (evA s) az with
      | none=>rw[ha]at hvs;cases hvs
      | some as' =>
        rw[ha]at hvs
        cases hvs
        refine⟨n,s',⟨_,⟨_,hg,as',rfl,rfl⟩,(v,{ s.M with H:=H' }),?_,hset⟩,hq⟩
        simp only[An,Aik]
        exact⟨(v,H'),h2,rfl⟩
    · rename_i r0
      obtain⟨vs,hvs,n,v,H',h2,s',hset,hq⟩:=h
      cases ha:Af (evA s) az with
      | none=>rw[ha]at hvs;cases hvs
      | some as' =>
        rw[ha]at hvs
        cases hvs
        refine⟨n,s',⟨_,⟨_,hg,as',rfl,rfl⟩,(v,{ s.M with H:=H' }),?_,hset⟩,hq⟩
        simp only[An,Aik]
        exact⟨(v,H'),h2,rfl⟩
    · exact h.elim
theorem Ba {f:Nat}{is:List I}{vs:List V}{H H0:Hp}{v:V}(hp:G.prim f=none)(hs:G.sh f=false)(h:Gives G f (is.map .m) H0 v H0)(hv:Af (view 20 H) vs=some is) 
    (hr:(vs.flatMap DA=[]/\vs.all BJ=true)\/(vs.flatMap DA≠[]/\FY v=true)):Gives G f vs H v H:=by
  obtain⟨n,h⟩:=h
  cases n with
  | zero=>simp[BB]at h
  | succ n =>
    refine⟨n+1,?_⟩
    simp only[BB,hp,hs]at h ⊢
    cases hfn:G.fn f with
    | none =>
      rw[hfn]at h
      simp only[Ae]at h
      obtain⟨_,h⟩:=h
      cases is <;> simp[Ei]at h
    | some fn =>
    rw[hfn]at h
    simp only at h ⊢
    have hm:∀(l:List I),Af (view 20 H0) (l.map V.m)=some l:=by
      intro l
      induction l with
      | nil=>rfl
      | cons a r ih=>simp only[AiT,Af,NV,ih];rfl
    have hz:(is.map V.m).flatMap DA=[]:=by
      induction is with
      | nil=>rfl
      | cons a r _=>simp[DA,FR]
    unfold Em at h ⊢
    simp only[hm,hz,Aik]at h
    obtain⟨is',he,⟨v1,H1⟩,hev,r,hr1,h2⟩:=h
    cases he
    have hrv:r=v:=by
      cases hsh:(is.map V.m).all BJ with
      | false=>rw[hsh]at h2;simp at h2
      | true=>rw[hsh]at h2;simp at h2;exact h2
    subst hrv
    simp only[hv,Ait,hev,hr1]
    rcases hr with ⟨e1,e2⟩|⟨e1,e2⟩
    · rw[e1]
      simp[e2]
    · cases hl:vs.flatMap DA with
      | nil=>exact absurd hl e1
      | cons a b=>simp[e2]
end
/- Shifts, and the last bit. -/
@[simp] theorem Afg:Kq .i64=64:=rfl
@[simp] theorem Aff:Kq .u64=64:=rfl
@[simp] theorem bx_shr (k k':IntKind)(x y:Int):Ek .shr (.m (.i k x)) (.m (.i k' y))=gd (decide (0<=y)) (some (.m (.i k (x / ((2 ^ min y.toNat (Kq k):Nat):Int))))):=by
  cases y with
  | ofNat n =>
    have:decide (0<=Int.ofNat n)=true:=by simp
    rw[this,GC,<-Int.fdiv_eq_ediv_of_nonneg _ (Int.natCast_nonneg _)]
    rfl
  | negSucc n=>rfl
@[simp] theorem bx_shl (k k':IntKind)(x y:Int):Ek .shl (.m (.i k x)) (.m (.i k' y))=gd (decide (0<=y)) (some (.m (.i k (wr k (x*((2 ^ min y.toNat (Kq k):Nat):Int)))))):=by
  cases y with
  | ofNat n =>
    have:decide (0<=Int.ofNat n)=true:=by simp
    rw[this,GC]
    rfl
  | negSucc n=>rfl
theorem Ti (k:IntKind)(x y:Int):Ek .and (.m (.i k x)) (.m (.i k y))=some (.m (.i k (wr k (Int.ofNat (Nat.land (Eu k x) (Eu k y)))))):=by simp[Ek,arX,vi]
@[simp] theorem bx_and1 (x:Int):Ek .and (.m (.i .i64 x)) (.m (.i .i64 1))=some (.m (.i .i64 (x%2))):=by
  have h1:Eu .i64 1=1:=rfl
  have h2:Nat.land (Eu .i64 x) 1=Eu .i64 x%2:=Nat.and_one_is_mod _
  have h3:((Eu .i64 x%2:Nat):Int)=x%2:=by
    cases x with
    | ofNat m=>simp only[Eu,KS,Int.ofNat_eq_natCast];omega
    | negSucc m=>simp only[Eu,KS];omega
  rw[Ti,h1,h2]
  have h4:(Int.ofNat (Eu .i64 x%2))=x%2:=h3
  rw[h4,Aa (by omega) (by omega)]
/- Rows of mutable memory. -/
@[simp] theorem AeH (s:St)(a b c:Nat):Bg s (.l (.bxs a b c))=true:=rfl
@[simp] theorem loud_bxs (c:Bq)(M:Mem)(ty esz n:Nat)(x:V):An c M (.bxs ty esz n) [x]=(Au x).bind fun cs=>gd (Nat.beq cs.length (n*esz)&&Nat.ble 1 esz&&Nat.ble 1 n&&Nat.ble n 9223372036854775807) (some (.pt M.H.length n 0 0,{ M with H:=M.H++[.cs ty esz (BY esz n cs) 0 false] })):=rfl
@[simp] theorem loud_als (c:Bq)(M:Mem)(ty esz n:Nat)(z:List V):An c M (.als ty esz n z) []=gd (Nat.beq z.length (n*esz)&&Nat.ble 1 esz&&Nat.ble 1 n&&Nat.ble n 9223372036854775807) (some (.pt M.H.length n 0 0,{ M with H:=M.H++[.cs ty esz (BY esz n z) 0 false] })):=rfl
@[simp] theorem ZS (n esz r ver ix o:Nat)(i:V):Ap (.ixaA n esz) [.pt r ver ix o,i]=(idx n i).bind fun j=>some (.pt r ver ix (o+j*esz)):=rfl
@[simp] theorem ZL (M:Mem)(n esz r ver:Nat)(lo hi mx:Bool)(vs:List V):readX M (.slcA n esz lo hi mx) (.pt r ver 0 0::vs)=(nth M.H r).bind fun row=>match row with
      | .cs _ esz' es _ _=>gd (Nat.beq esz esz'&&Nat.beq es.length n&&Nat.beq ver n) ((IW n lo hi mx vs).bind fun p=>some (.sl r ver esz p.1 (p.2-p.1) (mx||Nat.beq p.2 n)))
      | _=>none:=rfl
@[simp] theorem AdQ (M:Mem)(sz r ver ix off:Nat):readA M sz (.pt r ver ix off)=(nth M.H r).bind fun row=>match row with
    | .cs _ esz es base _=>gd (Nat.ble base ver&&(Nat.ble (off+sz) esz||Nat.beq ver es.length)) (Dq esz es ix off sz)
    | _=>none:=rfl
@[simp] theorem nat_ble (a b:Nat):Nat.ble a b=decide (a<=b):=Bb a b
@[simp] theorem chunk_0 {α:Type}(e:Nat)(l:List α):BY e 0 l=[]:=rfl
@[simp] theorem chunk_s {α:Type}(e n:Nat)(l:List α):BY e (n+1) l=l.take e::BY e n (l.drop e):=rfl
@[simp] theorem OI:∀(E:Env) (n:Nat) (x:V),BX (BV E n x) n=some x
  | [],n,x=>by simp
  | (k,y)::r,n,x=>by
    rw[HL]
    by_cases h1:n<k
    · rw[Air h1];simp
    · rw[Aiq h1]
      by_cases h2:k=n
      · rw[Air h2];simp
      · rw[Aiq h2,CB,Aiq h2,OI r n x]
@[simp] theorem Wn:∀(B:List (Nat×List V)) (n:Nat) (x:List V),getB (Eh B n x) n=some x
  | [],n,x=>by simp
  | (k,y)::r,n,x=>by
    rw[Es]
    by_cases h2:k=n
    · rw[Air h2];simp
    · rw[Aiq h2]
      by_cases h3:n<k
      · rw[Air h3];simp
      · rw[Aiq h3,DJ,Aiq h2,Wn r n x]
@[simp] theorem VB:∀(B:List (Nat×List V)) (n:Nat) (x y:List V),Eh (Eh B n x) n y=Eh B n y
  | [],n,x,y=>by simp
  | (k,z)::r,n,x,y=>by
    rw[Es,Es]
    by_cases h2:k=n
    · rw[Air h2,Air h2];simp
    · rw[Aiq h2,Aiq h2]
      by_cases h3:n<k
      · rw[Air h3,Air h3];simp
      · rw[Aiq h3,Aiq h3,Es,Aiq h2,Aiq h3,VB r n x y]
@[simp] theorem Ie:∀(E:Env) (m n:Nat) (x:V),m≠n->BX (BV E m x) n=BX E n
  | [],m,n,x,h=>by simp[h]
  | (k,y)::r,m,n,x,h=>by
    rw[HL]
    by_cases h1:m<k
    · rw[Air h1,CB,Aiq h]
    · rw[Aiq h1]
      by_cases h2:k=m
      · subst h2
        rw[Air rfl,CB,CB,Aiq h,Aiq h]
      · rw[Aiq h2,CB,CB,Ie r m n x h]
@[simp] theorem AcX (l:List V):CV 0 l=some []:=rfl
@[simp] theorem AcY (n:Nat)(x:V)(r:List V):CV (n+1) (x::r)=(CV n r).bind fun l=>some (x::l):=by
  unfold CV
  simp only[List.take_succ_cons,Ajf,FA]
  by_cases h:(r.take n).length=n
  · have:(r.take n).length+1=n+1:=by omega
    simp only[h,decide_true,GC,Ait]
  · have:¬(r.take n).length+1=n+1:=by omega
    simp only[h,this,decide_false,Wo,Option.bind_none]
/- The greatest and the least. -/
@[simp] theorem px_mm (mx:Bool)(k:IntKind)(x:Int)(r:List V):Ap (.mm mx) (.m (.i k x)::r)=mmX mx k x r:=rfl
@[simp] theorem mmX_nil (mx:Bool)(k:IntKind)(x:Int):mmX mx k x []=some (.m (.i k x)):=rfl
theorem Aag (x y:Int):Aej x y=max x y:=by
  unfold Aej
  rw[CM]
  by_cases h:x<y
  · simp only[h,decide_true];omega
  · simp only[h,decide_false];omega
theorem Aaf (x y:Int):Aeh x y=min x y:=by
  unfold Aeh
  rw[CM]
  by_cases h:y<x
  · simp only[h,decide_true];omega
  · simp only[h,decide_false];omega
@[simp] theorem mmX_max (k k':IntKind)(x y:Int)(r:List V):mmX true k x (.m (.i k' y)::r)=mmX true k (max x y) r:=by rw[<-Aag];rfl
@[simp] theorem mmX_min (k k':IntKind)(x y:Int)(r:List V):mmX false k x (.m (.i k' y)::r)=mmX false k (min x y) r:=by rw[<-Aaf];rfl
end Go.Mx
/- Walking the machine: rules for rows of mutable memory. -/
namespace Go.Mx
/- Rows of one cell an element. -/
@[simp] theorem loud_mks (c:Bq)(M:Mem)(ty esz:Nat)(z:List V)(b:Nat)(a:V)(n:Int):An c M (.mks ty esz z b) [a,.m (.i .i64 n)]=(Aae n).bind fun c=>(bnd c a).bind fun n=>gd (Nat.ble (c*b) 281474976710656&&Nat.ble c 9223372036854775807&&Nat.ble 1 esz&&Nat.beq z.length esz)
      (some (.sl M.H.length n esz 0 n (Nat.beq n c),{ M with H:=M.H++[.cs ty esz (List.replicate n z) 0 false] })):=by
  cases n <;> rfl
@[simp] theorem Aeg (n:Nat):Aae (n:Int)=some n:=rfl
@[simp] theorem readR_10 (es:List (List V))(ix:Nat):Dq 1 es ix 0 1=(nth es ix).bind fun e=>CV 1 e:=rfl
@[simp] theorem AcW (M:Mem)(xs:List V)(r ver ix off:Nat):Fk M xs (.pt r ver ix off)=(nth M.H r).bind fun row=>match row with
    | .cs ty esz es _ fz=>gd (!fz&&Nat.beq ver es.length) ((Cb esz es ix off xs).bind fun es'=>(AN M.H r (.cs ty esz es' es.length false)).bind fun H'=>some { M with H:=H' })
    | _=>none:=rfl
@[simp] theorem Cj (es:List (List V))(ix:Nat)(x:V):Cb 1 es ix 0 [x]=(nth es ix).bind fun e=>(Fw e 0 [x]).bind fun e'=>AN es ix e':=rfl
theorem AE {α:Type}:∀(l:List α) (n:Nat) (x:α),n<l.length->AN l n x=some (l.set n x)
  | [],n,x,h=>by simp at h
  | _::r,0,x,h=>rfl
  | y::r,n+1,x,h=>by
    simp only[Ajf]at h
    rw[Qy,AE r n x (by omega)]
    rfl
@[simp] theorem Nk:∀(B:List (Nat×List V)) (m n:Nat) (x:List V),m≠n->getB (Eh B m x) n=getB B n
  | [],m,n,x,h=>by simp[h]
  | (k,y)::r,m,n,x,h=>by
    rw[Es]
    by_cases h2:k=m
    · subst h2
      rw[Air rfl,DJ,DJ,Aiq h,Aiq h]
    · rw[Aiq h2]
      by_cases h3:m<k
      · rw[Air h3,DJ,Aiq h]
      · rw[Aiq h3,DJ,DJ,Nk r m n x h]
end Go.Mx
/- Walking the machine: appending to rows of ints. -/
namespace Go.Mx
def FP (l:List Int):List (List V):=l.map fun x=>[.m (.i .i64 x)]
def Cr (l:List Int):List (List I):=l.map fun x=>[.i .i64 x]
theorem BT (l:List Int):(Cr l).length=l.length:=by simp[Cr]
theorem Ed {l:List Int}{i:Nat}{x:Int}(h:l[i]? = some x):nth (Cr l) i=some [.i .i64 x]:=by
  rw[AP];simp[Cr,h]
@[simp] theorem appX_nl (M:Mem)(ty esz b:Nat)(x:List V)(xs:List (List V)):Fi M ty esz b (.m (.nl 4)) (x::xs)=Bu M ty esz b (x::xs):=rfl
@[simp] theorem Cz (M:Mem)(ty esz b:Nat)(es:List (List V)):Bu M ty esz b es=gd (Nat.ble (es.length*b) 140737488355328&&Nat.ble 1 esz&&es.all fun e=>Nat.beq e.length esz&&e.all BM)
    (some (.sl M.H.length es.length esz 0 es.length false,{ M with H:=M.H++[.cs ty esz es 0 false] })):=rfl
end Go.Mx
/- Walking the machine: induction on a measure; slices that may be nil; tests kept as ifs. Nothing here speaks of a program. -/
namespace Go.Mx
theorem BN {α:Type}(m:α->Nat){P:α->Prop}(h:∀a,(∀b,m b<m a->P b)->P a):∀a,P a:=fun a=>(measure m).wf.induction a h
def IsSl (y:I)(es:List (List I)):Prop:=y=.sl es\/(y=.nl 4/\es=[])
theorem Bp (es:List (List I)):IsSl (.sl es) es:=.inl rfl
theorem Bc:IsSl (.nl 4) []:=.inr ⟨rfl,rfl⟩
theorem idx_0 (v:V):idx 0 v=none:=by
  unfold idx
  split
  · rfl
  · rfl
theorem IsSl.len {y:I}{es:List (List I)}(h:IsSl y es):Ap (.len false) [.m y]=some (.m (.i .i64 es.length)):=by
  rcases h with rfl|⟨rfl,rfl⟩ <;> rfl
theorem IsSl.ixa {y:I}{es:List (List I)}(h:IsSl y es)(esz:Nat)(i:V):Ap (.ixa esz) [.m y,i]=(idx es.length i).bind fun j=>(nth es j).bind fun e=>gd (Nat.beq e.length esz) (some (.m (.pt e))):=by
  rcases h with rfl|⟨rfl,rfl⟩
  · rfl
  · rw[Ajj,idx_0];rfl
theorem IsSl.elems {y:I}{es:List (List I)}(h:IsSl y es)(H:Hp):Mx.elems H (.m y)=some (Bj es):=by
  rcases h with rfl|⟨rfl,rfl⟩ <;> rfl
theorem IsSl.rules {y:I}{es:List (List I)}(h:IsSl y es):(Ap (.len false) [.m y]=some (.m (.i .i64 es.length)))/\(∀(esz:Nat) (i:V),Ap (.ixa esz) [.m y,i]=(idx es.length i).bind fun j=>(nth es j).bind fun e=>gd (Nat.beq e.length esz) (some (.m (.pt e))))/\(∀H,Mx.elems H (.m y)=some (Bj es)):=⟨h.len,h.ixa,h.elems⟩
def subI (y:I)(a b:Nat):I:=match y with
  | .sl es=>.sl ((es.drop a).take (b-a))
  | z=>z
theorem IsSl.sub {y:I}{es:List (List I)}(h:IsSl y es)(a b:Nat):IsSl (subI y a b) ((es.drop a).take (b-a)):=by
  rcases h with rfl|⟨rfl,rfl⟩
  · exact .inl rfl
  · exact .inr ⟨rfl,by simp⟩
theorem IsSl.slc {y:I}{es:List (List I)}(h:IsSl y es){esz:Nat}(he:Vh esz es=true)(h0:Nat.beq esz 0=false)(lo hi:Bool)(vs:List V):Ap (.slc esz lo hi false) (.m y::vs)=(IW es.length lo hi false vs).bind fun p=>some (.m (subI y p.1 p.2)):=by
  rcases h with rfl|⟨rfl,rfl⟩
  · show gd (eqB false (Nat.beq esz 0)) (gd (Vh esz es) _)=_
    rw[h0,he]
    rfl
  · show gd (eqB false (Nat.beq esz 0)) ((IW 0 lo hi false vs).bind fun _=>some (V.m (.nl 4)))=_
    rw[h0]
    rfl
/- A region's own slots as a stack: what is set last lies ahead. -/
def canon:Env->Env
  | []=>[]
  | (n,v)::r=>BV (canon r) n v
theorem Jq:∀(L:Env) (n:Nat),BX (canon L) n=BX L n
  | [],n=>rfl
  | (k,x)::r,n=>by
    simp only[canon]
    by_cases h:k=n
    · subst h;rw[OI,CB,Air rfl]
    · rw[Ie _ _ _ _ h,CB,Aiq h,Jq r n]
theorem SB (d n:Nat)(x:V)(r:Env)(h:BQ d ((n,x)::r)=true):BQ d [(n,x)]=true/\BQ d r=true:=by
  cases x <;> simp_all [BQ]
theorem JS (d n:Nat)(x:V)(r:Env)(h1:BQ d [(n,x)]=true)(h2:BQ d r=true):BQ d ((n,x)::r)=true:=by
  cases x <;> simp_all [BQ]
theorem Lr (d n:Nat)(x:V)(hx:BQ d [(n,x)]=true):∀(L:Env),BQ d L=true->BQ d (BV L n x)=true
  | [],_=>hx
  | (k,y)::r,h=>by
    obtain⟨h1,h2⟩:=SB d k y r h
    rw[HL]
    by_cases a:n<k
    · rw[Air a];exact JS d n x _ hx h
    · rw[Aiq a]
      by_cases b:k=n
      · rw[Air b];exact JS d n x _ hx h2
      · rw[Aiq b];exact JS d k y _ h1 (Lr d n x hx r h2)
theorem Gt (d:Nat):∀(L:Env),BQ d L=true->BQ d (canon L)=true
  | [],_=>rfl
  | (k,x)::r,h=>by
    obtain⟨h1,h2⟩:=SB d k x r h
    exact Lr d k x h1 _ (Gt d r h2)
def nf1 (d:Nat):V->Bool
  | .fa k _=>!Nat.beq k d
  | _=>true
def nf (d:Nat):Env->Bool
  | []=>true
  | (_,x)::r=>nf1 d x&&nf d r
theorem Ni (d:Nat):∀(L:Env),nf d L=true->BQ d L=true
  | [],_=>rfl
  | (k,x)::r,h=>by
    simp only[nf,Aio]at h
    refine JS d k x r ?_ (Ni d r h.2)
    have h1:=h.1
    cases x <;> simp_all [BQ,nf1]
@[simp] theorem nf_nil (d:Nat):nf d []=true:=by simp only[nf]
@[simp] theorem nf_cons (d n:Nat)(x:V)(r:Env):nf d ((n,x)::r)=(nf1 d x&&nf d r):=by simp only[nf]
@[simp] theorem nf1_m (d:Nat)(x:I):nf1 d (.m x)=true:=by simp only[nf1]
@[simp] theorem nf1_fa (d k o:Nat):nf1 d (.fa k o)=decide (k≠d):=by simp only[nf1];rw[Ajg];simp
@[simp] theorem nf1_pt (d a b c e:Nat):nf1 d (.pt a b c e)=true:=by simp only[nf1]
@[simp] theorem nf1_ag (d:Nat)(a:List V):nf1 d (.ag a)=true:=by simp only[nf1]
@[simp] theorem nf1_tu (d:Nat)(a:List V):nf1 d (.tu a)=true:=by simp only[nf1]
def cs (s:St):St:={ s with L:=canon s.L }
theorem Ik (s:St):evA (cs s)=evA s:=by
  funext o
  cases o with
  | v n=>rfl
  | l n=>exact Jq s.L n
  | k x=>rfl
theorem Ep (s:St)(g:Option (Opnd×Bool)):Ax (cs s) g=Ax s g:=by
  cases g with
  | none=>rfl
  | some g=>rw[HG,HG,Ik]
def Di (s:St)(d:Dst)(x:V):Option St:=match d with
  | .no=>some s
  | .v n=>gd (Ew n x) (some { s with E:=BV s.E n x })
  | .l n=>some { s with L:=(n,x)::s.L }
theorem DW (s:St)(d:Dst)(x:V):(Di s d x).map cs=CW (cs s) d x:=by
  cases d with
  | no=>rfl
  | v n =>
    simp only[Di,CW]
    cases Ew n x <;> rfl
  | l n=>rfl
def Ay (G:Cfg)(s:Option St)(ops:List Op)(k:K):Prop:=BO G (s.map cs) ops k
def Eo (G:Cfg)(f:Nat)(vs:Option (List V))(s:St)(d:Dst)(r:List Op)(k:K):Prop :=
  CK vs fun vs=>Ret G f vs s.M.H fun v H'=>Ay G (Di { s with M:={ s.M with H:=H' } } d v) r k
def GZ (G:Cfg)(q:Option Bool)(f:Nat)(az:List Opnd)(s:St)(d:Dst)(r:List Op)(k:K):Prop:=CK q fun q=>if q then Eo G f (Af (evA s) az) s d r k else Ay G (Di s d .un) r k
def Vg (G:Cfg)(g:Option V)(vs:Option (List V))(s:St)(d:Dst)(r:List Op)(k:K):Prop:=CK g fun g=>match g with
  | .m (.fn f cap)=>Eo G f (vs.map fun l=>l++cap.map .m) s d r k
  | .fn f cap=>Eo G f (vs.map fun l=>l++cap) s d r k
  | .yl r0=>Eo G yN (vs.map fun l=>.yl r0::l) s d r k
  | _=>False
def NT (G:Cfg)(q:Option Bool)(g:Opnd)(az:List Opnd)(s:St)(d:Dst)(r:List Op)(k:K):Prop:=CK q fun q=>if q then Vg G (evA s g) (Af (evA s) az) s d r k else Ay G (Di s d .un) r k
def HJ (s:St)(o:OP)(az:List Opnd)(d:Dst):Option St:=(Af (evA s) az).bind fun vs=>(Ap o vs).bind fun v=>Di s d v
def HI (s:St)(o:OR)(az:List Opnd)(d:Dst):Option St:=(Af (evA s) az).bind fun vs=>(readX s.M o vs).bind fun v=>Di s d v
def Bo (s:St)(o:OL)(az:List Opnd)(d:Dst):Option St:=(Af (evA s) az).bind fun vs=>(An (fun _ _ _=>none) s.M o vs).bind fun p=>Di { s with M:=p.2 } d p.1
theorem DG {α β γ:Type}(x:Option α)(f:α->Option β)(g:β->γ):(x.bind f).map g=x.bind fun a=>(f a).map g:=by cases x <;> rfl
theorem Ob (s:St)(o:OP)(az:List Opnd)(d:Dst):(HJ s o az d).map cs=La (cs s) o az d:=by
  simp only[HJ,La,DG,DW,Ik]
theorem Oa (s:St)(o:OR)(az:List Opnd)(d:Dst):(HI s o az d).map cs=stepR (cs s) o az d:=by
  simp only[HI,stepR,DG,DW,Ik]
  rfl
theorem Oc (s:St)(o:OL)(az:List Opnd)(d:Dst)(hf:Bg s (.l o)=true):(Bo s o az d).map cs=Er (cs s) o az d:=by
  have h:Bg (cs s) (.l o)=true:=by
    cases o with
    | alp d z=>exact Gt d _ hf
    | bxp d z=>exact Gt d _ hf
    | _=>rfl
  simp only[Bo,Er,h,GC,DG,Ik]
  congr 1
  funext vs
  show (An _ s.M o vs).bind _=(An _ s.M o vs).bind _
  congr 1
  funext p
  exact DW { s with M:=p.2 } d p.1
section
variable {G:Cfg}
theorem VN (ops:List Op)(E:Env)(M:Mem)(k:K):Run G (.reg ops) ⟨E,[],M⟩ k=Ay G (some ⟨E,[],M⟩) ops k:=Oj ops _ k
theorem Sq (s:St)(k:K):Ay G (some s) [] k=At' G .nm { s with L:=[] } k:=On (cs s) k
theorem Jh (ops:List Op)(k:K):Ay G none ops k=False:=Lh ops k
theorem VU (b:Bool)(s:Option St)(ops:List Op)(k:K):Ay G (gd b s) ops k=(b=true/\Ay G s ops k):=by
  cases b with
  | true=>simp[gd]
  | false=>simp only[gd,Jh];simp
theorem ZR (hG:BD G)(d:Dst)(o:OP)(az:List Opnd)(s:St)(r:List Op)(k:K):Ay G (some s) (⟨d,.p o,az,none⟩::r) k=Ay G (HJ s o az d) r k:=by
  unfold Ay
  rw[Ob]
  exact Sp hG d o az (cs s) r k
theorem ZQ (hG:BD G)(d:Dst)(o:OR)(az:List Opnd)(s:St)(r:List Op)(k:K):Ay G (some s) (⟨d,.r o,az,none⟩::r) k=Ay G (HI s o az d) r k:=by
  unfold Ay
  rw[Oa]
  exact So hG d o az (cs s) r k
theorem VS (hG:BD G)(d:Dst)(o:OP)(az:List Opnd)(g:Opnd)(want:Bool)(s:St)(r:List Op)(k:K):
    Ay G (some s) (⟨d,.p o,az,some (g,want)⟩::r) k=Ay G (BE (Ax s (some (g,want))) (HJ s o az d) (Di s d .un)) r k:=by
  unfold Ay
  have:∀q a b,(BE q a b).map cs=BE q (a.map cs) (b.map cs):=fun q a b=>by
    unfold BE
    rw[DG]
    congr 1
    funext q
    cases q <;> rfl
  rw[this,Ob,DW,<-Ep]
  exact GR hG d o az g want (cs s) r k
theorem VR (hG:BD G)(d:Dst)(o:OR)(az:List Opnd)(g:Opnd)(want:Bool)(s:St)(r:List Op)(k:K):
    Ay G (some s) (⟨d,.r o,az,some (g,want)⟩::r) k=Ay G (BE (Ax s (some (g,want))) (HI s o az d) (Di s d .un)) r k:=by
  unfold Ay
  have:∀q a b,(BE q a b).map cs=BE q (a.map cs) (b.map cs):=fun q a b=>by
    unfold BE
    rw[DG]
    congr 1
    funext q
    cases q <;> rfl
  rw[this,Oa,DW,<-Ep]
  exact GQ hG d o az g want (cs s) r k
theorem Gc (f:Nat)(vs:Option (List V))(s:St)(d:Dst)(r:List Op)(k:K):IT G f vs (cs s) d r k=Eo G f vs s d r k:=by
  unfold IT Eo Ay
  congr 1
  funext vs
  congr 1
  funext v H'
  rw[DW]
  rfl
theorem QD (hG:BD G)(d:Dst)(f:Nat)(az:List Opnd)(s:St)(r:List Op)(k:K):Ay G (some s) (⟨d,.l (.cal f),az,none⟩::r) k=Eo G f (Af (evA s) az) s d r k:=by
  rw[<-Gc,<-Ik]
  exact HQ hG d f az (cs s) r k
theorem Nc (hG:BD G)(d:Dst)(f:Nat)(az:List Opnd)(g:Opnd)(want:Bool)(s:St)(r:List Op)(k:K):
    Ay G (some s) (⟨d,.l (.cal f),az,some (g,want)⟩::r) k=GZ G (Ax s (some (g,want))) f az s d r k:=by
  have h:=Et hG d f az g want (cs s) r k
  have e:KR G (Ax (cs s) (some (g,want))) f az (cs s) d r k=GZ G (Ax s (some (g,want))) f az s d r k:=by
    unfold KR GZ
    rw[Ep,Ik]
    congr 1
    funext q
    cases q with
    | true=>simp[Gc]
    | false=>unfold Ay;simp[DW]
  exact h.trans e
theorem Nb (hG:BD G)(d:Dst)(o:OL)(az:List Opnd)(s:St)(r:List Op)(k:K)(h1:∀f,o ≠ .cal f)(h2:o ≠ .cav)(hf:Bg s (.l o)=true):Ay G (some s) (⟨d,.l o,az,none⟩::r) k=Ay G (Bo s o az d) r k:=by
  unfold Ay
  rw[Oc s o az d hf]
  exact HY hG d o az (cs s) r k fun c vs=>JX h1 h2 c _ vs
theorem VT (hG:BD G)(d:Dst)(o:OL)(az:List Opnd)(g:Opnd)(want:Bool)(s:St)(r:List Op)(k:K)(h1:∀f,o ≠ .cal f)(h2:o ≠ .cav)(hf:Bg s (.l o)=true):
    Ay G (some s) (⟨d,.l o,az,some (g,want)⟩::r) k=Ay G (BE (Ax s (some (g,want))) (Bo s o az d) (Di s d .un)) r k:=by
  unfold Ay
  have:∀q a b,(BE q a b).map cs=BE q (a.map cs) (b.map cs):=fun q a b=>by
    unfold BE
    rw[DG]
    congr 1
    funext q
    cases q <;> rfl
  rw[this,Oc s o az d hf,DW,<-Ep]
  have h:=DD hG d (.l o) az g want (cs s) r k
  refine h.trans ?_
  cases hq:Ax (cs s) (some (g,want)) with
  | none=>simp[BE]
  | some q =>
    cases q with
    | true=>simp[BE,HY hG d o az (cs s) r k fun c vs=>JX h1 h2 c _ vs]
    | false=>simp[BE]
theorem Li (hG:BD G)(d:Dst)(g:Opnd)(az:List Opnd)(s:St)(r:List Op)(k:K):Ay G (some s) (⟨d,.l .cav,g::az,none⟩::r) k=Vg G (evA s g) (Af (evA s) az) s d r k:=by
  have h:=Yi hG d g az (cs s) r k
  refine h.trans ?_
  rw[Ik]
  unfold CavK Vg
  congr 1
  funext gv
  cases gv with
  | m x=>cases x <;> simp[Gc]
  | fn f cap=>simp[Gc]
  | yl r0=>simp[Gc]
  | _=>rfl
theorem QC (hG:BD G)(d:Dst)(g:Opnd)(az:List Opnd)(gg:Opnd)(want:Bool)(s:St)(r:List Op)(k:K):Ay G (some s) (⟨d,.l .cav,g::az,some (gg,want)⟩::r) k=NT G (Ax s (some (gg,want))) g az s d r k:=by
  have h:=DD hG d (.l .cav) (g::az) gg want (cs s) r k
  refine h.trans ?_
  unfold NT
  rw[Ep]
  congr 1
  funext q
  cases q with
  | true =>
    rw[Air rfl,Air rfl]
    exact Li hG d g az s r k
  | false=>unfold Ay;simp[DW]
theorem WF (hG:BD G){f:Nat}{vs:List V}{s:St}{d:Dst}{r:List Op}{k:K}{v:V}{H':Hp}(h:Gives G f vs s.M.H v H'):Eo G f (some vs) s d r k=Ay G (Di { s with M:={ s.M with H:=H' } } d v) r k:=by
  unfold Eo
  rw[Bh,AdP hG h]
theorem Ao (f:Nat)(vs:List V)(s:St)(d:Dst)(r:List Op)(k:K):Eo G f (some vs) s d r k=Ret G f vs s.M.H fun v H'=>Ay G (Di { s with M:={ s.M with H:=H' } } d v) r k:=by simp[Eo,Bh]
@[simp] theorem cavC_m (f:Nat)(cap:List I)(vs:List V)(s:St)(d:Dst)(r:List Op)(k:K):Vg G (some (.m (.fn f cap))) (some vs) s d r k=Eo G f (some (vs++cap.map .m)) s d r k:=by simp[Vg]
@[simp] theorem cavC_f (f:Nat)(cap vs:List V)(s:St)(d:Dst)(r:List Op)(k:K):Vg G (some (.fn f cap)) (some vs) s d r k=Eo G f (some (vs++cap)) s d r k:=by simp[Vg]
end
attribute [simp] Sq Jh VU
@[simp] theorem AdI (s:St)(o:OP)(az:List Opnd)(d:Dst):HJ s o az d=(Af (evA s) az).bind fun vs=>(Ap o vs).bind fun v=>Di s d v:=rfl
@[simp] theorem AdH (s:St)(o:OR)(az:List Opnd)(d:Dst):HI s o az d=(Af (evA s) az).bind fun vs=>(readX s.M o vs).bind fun v=>Di s d v:=rfl
@[simp] theorem AdJ (s:St)(o:OL)(az:List Opnd)(d:Dst):Bo s o az d=(Af (evA s) az).bind fun vs=>(An (fun _ _ _=>none) s.M o vs).bind fun p=>Di { s with M:=p.2 } d p.1:=rfl
@[simp] theorem setC_no (s:St)(x:V):Di s .no x=some s:=rfl
@[simp] theorem setC_l (s:St)(n:Nat)(x:V):Di s (.l n) x=some { s with L:=(n,x)::s.L }:=rfl
@[simp] theorem setC_vm (s:St)(n:Nat)(x:I):Di s (.v n) (.m x)=some { s with E:=BV s.E n (.m x) }:=rfl
@[simp] theorem setC_vun (s:St)(n:Nat):Di s (.v n) .un=some { s with E:=BV s.E n .un }:=rfl
@[simp] theorem setC_vls (s:St)(n:Nat)(x:List (List I)):Di s (.v n) (.ls x)=some { s with E:=BV s.E n (.ls x) }:=rfl
@[simp] theorem setC_vsl (s:St)(n a b c d e:Nat)(f:Bool):Di s (.v n) (.sl a b c d e f)=some { s with E:=BV s.E n (.sl a b c d e f) }:=rfl
@[simp] theorem setC_vpt (s:St)(n a b c d:Nat):Di s (.v n) (.pt a b c d)=some { s with E:=BV s.E n (.pt a b c d) }:=rfl
@[simp] theorem setC_vmp (s:St)(n a:Nat):Di s (.v n) (.mp a)=some { s with E:=BV s.E n (.mp a) }:=rfl
@[simp] theorem setC_vtu (s:St)(n:Nat)(a:List V):Di s (.v n) (.tu a)=some { s with E:=BV s.E n (.tu a) }:=rfl
@[simp] theorem setC_vag (s:St)(n:Nat)(a:List V):Di s (.v n) (.ag a)=some { s with E:=BV s.E n (.ag a) }:=rfl
@[simp] theorem setC_vfn (s:St)(n f:Nat)(a:List V):Di s (.v n) (.fn f a)=some { s with E:=BV s.E n (.fn f a) }:=rfl
@[simp] theorem setC_vfa (s:St)(n:Nat):Di s (.v n) (.fa n 0)=some { s with E:=BV s.E n (.fa n 0) }:=by simp[Di,Ew,gd]
/- simp looks at the state alone, not at the code that is still to come. -/
def cnd (b:Bool)(p q:Prop):Prop:=match b with
  | true=>p
  | false=>q
@[simp] theorem cnd_true (p q:Prop):cnd true p q=p:=rfl
theorem Tc {b c:Bool}{p q:Prop}(h:b=c):cnd b p q=cnd c p q:=by rw[h]
theorem Yt {b:Bool}{p q:Prop}(h:b=true->q=p):q=cnd b p q:=by
  cases b with
  | true=>exact h rfl
  | false=>rfl
theorem Nf {G:Cfg}{s t:Option St}{r:List Op}{k:K}(h:s=t):Ay G s r k=Ay G t r k:=by rw[h]
theorem Qu {G:Cfg}{x y:Option Bool}{a b:C}{s:St}{k:K}(h:x=y):YU G x a b s k=YU G y a b s k:=by rw[h]
theorem Ny {G:Cfg}{f:Nat}{x y:Option (List V)}{s:St}{d:Dst}{r:List Op}{k:K}(h:x=y):Eo G f x s d r k=Eo G f y s d r k:=by rw[h]
theorem QQ {G:Cfg}{g g':Option V}{x y:Option (List V)}{s:St}{d:Dst}{r:List Op}{k:K}(h0:g=g')(h:x=y):Vg G g x s d r k=Vg G g' y s d r k:=by rw[h0,h]
theorem LP {G:Cfg}{x y:Option Bool}{f:Nat}{az:List Opnd}{s:St}{d:Dst}{r:List Op}{k:K}(h:x=y):GZ G x f az s d r k=GZ G y f az s d r k:=by rw[h]
theorem Nl {G:Cfg}{x y:Option Bool}{g:Opnd}{az:List Opnd}{s:St}{d:Dst}{r:List Op}{k:K}(h:x=y):NT G x g az s d r k=NT G y g az s d r k:=by rw[h]
theorem Sm {G:Cfg}{c:C}{s t:St}{k:K}(h:s=t):Run G c s k=Run G c t k:=by rw[h]
theorem WI {G:Cfg}{e:Ex}{s t:St}{k:K}(h:s=t):At' G e s k=At' G e t k:=by rw[h]
theorem AeA {n:Nat}{k:IntKind}{x:Int}(h1:0<=x)(h2:x<n):idx n (.m (.i k x))=some x.toNat:=by rw[AeB];simp[h1,h2]
theorem Afc {n:Nat}{k:IntKind}{x:Int}(h1:0<=x)(h2:x<=n):bnd n (.m (.i k x))=some x.toNat:=by rw[Afd];simp[h1,h2]
theorem QS {x y:List Nat}(h:x.length+y.length<=9223372036854775807):Ek .add (.m (.s x)) (.m (.s y))=some (.m (.s (x++y))):=by rw[AaE];simp[h]
attribute [simp high] AeA Afc QS
theorem Ag (G:Cfg)(t:Bool)(a b:C)(s:St)(k:K):YU G (some t) a b s k=((t=true->Run G a s k)/\(t=false->Run G b s k)):=by cases t <;> simp
theorem Ah (G:Cfg)(c:Bool)(a b:Option St)(r:List Op)(k:K):Ay G (BE (some c) a b) r k=((c=true->Ay G a r k)/\(c=false->Ay G b r k)):=by cases c <;> simp
theorem Ac (G:Cfg)(c:Bool)(f:Nat)(az:List Opnd)(s:St)(d:Dst)(r:List Op)(k:K):GZ G (some c) f az s d r k=((c=true->Eo G f (Af (evA s) az) s d r k)/\(c=false->Ay G (Di s d .un) r k)):=by cases c <;> simp[GZ]
theorem Ai (G:Cfg)(c:Bool)(g:Opnd)(az:List Opnd)(s:St)(d:Dst)(r:List Op)(k:K):NT G (some c) g az s d r k=((c=true->Vg G (evA s g) (Af (evA s) az) s d r k)/\(c=false->Ay G (Di s d .un) r k)):=by cases c <;> simp[NT]
theorem YZ (n:Nat)(h:n<=9223372036854775807):wr .i64 (n:Int)=n:=Aa (by omega) (by omega)
theorem Aq {α:Type}{p:List α}{i:Nat}{c:α}(h:p[i]? = some c):i<p.length/\p.drop i=c::p.drop (i+1):=by
  have h1:i<p.length:=(Ain.1 h).1
  exact⟨h1,by rw[AjG h1,(Ain.1 h).2]⟩
theorem Az {α:Type}{p:List α}{i:Nat}{c:α}(h:p[i]? = some c):p.take (i+1)=p.take i++[c]:=by
  rw[List.take_add_one,h];rfl
end Go.Mx
/- Walking: guards decided by arithmetic. Nothing here speaks of a program. -/
namespace Go.Mx
theorem JR {α β:Type}{x y:Option α}{f:α->Option β}(h:x=y):x.bind f=y.bind f:=by rw[h]
theorem Ad {α:Type}{p:Prop}[Decidable p](h:p)(x:Option α):gd (decide p) x=x:=by rw[Aiv h];rfl
theorem Ab {α:Type}(a b:Bool)(x:Option α):gd (a&&b) x=gd a (gd b x):=by cases a <;> rfl
end Go.Mx
/- Loops over functions. Nothing here speaks of a program. -/
namespace Go.Mx
section
variable {G:Cfg}
@[simp] theorem noFaV_yl (r:Nat):AA (.yl r)=true:=rfl
@[simp] theorem AeV (r:Nat):Au (.yl r)=some [.yl r]:=rfl
@[simp] theorem oneV_yl (r:Nat):BM (.yl r)=true:=rfl
@[simp] theorem setD_vyl (s:St)(n r:Nat):CW s (.v n) (.yl r)=some { s with E:=BV s.E n (.yl r) }:=rfl
@[simp] theorem AdR (r:Nat):Ap .nck [.yl r]=some (.yl r):=rfl
@[simp] theorem noFa_yl (d n k:Nat)(r:Env):BQ d ((n,.yl k)::r)=BQ d r:=rfl
@[simp] theorem allM_yl (k:Nat)(r:List V):Bz (.yl k::r)=none:=rfl
@[simp] theorem cavF_fn (f:Nat)(cap:List V):AaB (.fn f cap)=some (f,cap):=rfl
@[simp] theorem cavF_m (f:Nat)(cap:List I):AaB (.m (.fn f cap))=some (f,cap.map .m):=rfl
@[simp] theorem Aet:Fh []=[]:=rfl
@[simp] theorem Adj (n:Nat)(x:V)(r:Env):Fh ((n,x)::r)=match AA x with
    | true=>(n,x)::Fh r
    | false=>rmE (Fh r) n:=rfl
@[simp] theorem Ada (e:Env):FM e [] []=e:=rfl
@[simp] theorem ZK (e:Env)(p:Nat)(ps:List Nat)(x:V)(xs:List V):FM e (p::ps) (x::xs)=FM (BV e p x) ps xs:=rfl
def RngG (G:Cfg)(fv:Option V)(dr ps:List Nat)(ca cb:C)(s:St)(k:K):Prop:=CK (fv.bind AaB) fun gc =>
  Ret G gc.1 (.yl s.M.H.length::gc.2) (s.M.H++[.lp 0 none (Fh (AF dr s.E)) ps ca cb]) fun _ H'=>CK (Wx s.M.H.length H') fun q=>At' G q.1 { s with M:={ s.M with H:=q.2 } } k
theorem ZN (hG:BD G)(f:Opnd)(dr ps:List Nat)(ca cb:C)(s:St)(k:K):Run G (.rng f dr ps ca cb) s k=RngG G (evA s f) dr ps ca cb s k:=by
  apply propext
  simp only[Run,Runs,RngG,CK,evC,Aik,Ret,At',Ail,Aim]
  constructor
  · rintro⟨n,e,s',⟨fv,hfv,gc,hgc,⟨v,H'⟩,hc,q,hq,rfl,rfl⟩,h⟩
    exact⟨gc,⟨fv,hfv,hgc⟩,n,v,H',hc,q,hq,h⟩
  · rintro⟨gc,⟨fv,hfv,hgc⟩,n,v,H',hc,q,hq,h⟩
    exact⟨n,q.1,_,⟨fv,hfv,gc,hgc,(v,H'),hc,q,hq,rfl,rfl⟩,h⟩
end
end Go.Mx
