/- strings.Builder at the machine: what is written so far. -/
import Derived.Test.YtpaddecplgomeaaGreatDoorSeav
import Derived.Test.YtpaddecplgomeaaGreatDoorWb
set_option linter.unusedSimpArgs false
set_option linter.unusedVariables false
set_option linter.unusedSectionVars false
set_option maxRecDepth 100000
namespace Go.Mx.Tryz
def Hh (s : List Nat) : List (List V):=s.map fun c : Nat=>[.m (.i .u8 (c : Int))]
@[simp] theorem PA (s : List Nat) : (Hh s).length = s.length:=by simp [Hh]
theorem Wy (s t : List Nat) : Hh s ++ Hh t = Hh (s ++ t):=by simp [Hh]
theorem Jn : ∀ (s : List Nat),(∀ c,c ∈ s -> c < 256) -> Cg (Hh s) = some s
  | [],_=>rfl
  | c :: r,h=>by
    show gd (Nat.blt c 256) ((Cg (Hh r)).bind fun l=>some (c :: l)) = _
    rw [Gk,Afc (h c (by simp)),Jn r fun x hx=>h x (by simp [hx])]
    rfl
theorem TW (s : List Nat) : (Hh s).all (fun e=>Nat.beq e.length 1 && e.all BH) = true:=by
  rw [AeQ]
  intro e he
  obtain ⟨c,_,rfl⟩:=Afb.1 he
  rfl
inductive Buf (H : Hp) : List Nat -> V -> Option Nat -> Prop
  | nil : Buf H [] (.m (.nl 4)) none
  | row {s : List Nat} {q b : Nat} : s ≠ [] -> b <= s.length -> nth H q = some (.cs 5 1 (Hh s) b false) -> Buf H s (.sl q s.length 1 0 s.length false) (some q)
structure Bldr (r : Nat) (qs : Option Nat) (s : List Nat) (H : Hp) : Prop where
  row : ∃ a b bb,nth H r = some (.cs 153 2 [[a,b]] bb false) /\ bb <= 1 /\ (a = .m (.nl 0) \/ a = .pt r 1 0 0) /\ Buf H s b qs
  ne : qs ≠ some r
  bytes : ∀ c,c ∈ s -> c < 256
def Else (r : Nat) (qs : Option Nat) (H H' : Hp) : Prop:=H.length <= H'.length /\ ∀ i,i < H.length -> i ≠ r -> some i ≠ qs -> nth H' i = nth H i
theorem Buf.frame {H H' : Hp} {s : List Nat} {b : V} {qs : Option Nat} (h : Buf H s b qs) (hf : ∀ i,qs = some i -> nth H' i = nth H i) : Buf H' s b qs:=by
  cases h with
  | nil=>exact .nil
  | row e1 e2 e3=>exact .row e1 e2 (by rw [hf _ rfl]; exact e3)
theorem GA {α : Type} {l : List α} {i : Nat} {x : α} (h : nth l i = some x) : i < l.length:=by
  rw [AA] at h
  exact (AeG.1 h).1
theorem BV {α : Type} (l : List α) (i j : Nat) (x : α) (h : i < l.length) : nth (l.set i x) j = if i = j then some x else nth l j:=by
  rw [AA,AA,List.getElem?_set]
  by_cases e : i = j
  · subst e; simp [h]
  · simp [e]
theorem Ti {α : Type} (l m : List α) (j : Nat) (h : j < l.length) : nth (l ++ m) j = nth l j:=by
  rw [AA,AA,AeW h]
theorem Xu {H : Hp} {s t : List Nat} {b : V} {qs : Option Nat} {r : Nat} {rw0 : Row} (hb : Buf H s b qs) (hr : nth H r = some rw0) (hne : qs ≠ some r) (ht : t ≠ []) (hl : s.length + t.length <= 140737488355328) :
    ∃ H1 b1 qs1,(∀ B,FP ⟨B,H⟩ 5 1 1 b (Hh t) = some (b1,⟨B,H1⟩)) /\ Buf H1 (s ++ t) b1 qs1 /\ nth H1 r = some rw0 /\ qs1 ≠ some r /\ H.length <= H1.length /\ (∀ i,i < H.length -> some i ≠ qs -> nth H1 i = nth H i) /\ BH b1 = true /\ (∀ i,qs1 = some i -> qs = some i \/ H.length <= i) /\ Ap b1 = some [b1]:=by
  obtain ⟨c,t',rfl⟩:=Afq ht
  cases hb with
  | nil =>
    refine ⟨H ++ [.cs 5 1 (Hh (c :: t')) 0 false],.sl H.length (c :: t').length 1 0 (c :: t').length false,some H.length,fun B=>?_,?_,?_,?_,by simp,fun i hi _=>Ti _ _ _ hi,rfl,fun i hi=>.inr (by cases hi; exact AeI _),rfl⟩
    · have e : FP ⟨B,H⟩ 5 1 1 (.m (.nl 4)) (Hh (c :: t')) = BA ⟨B,H⟩ 5 1 1 (Hh (c :: t')):=rfl
      rw [e,CJ,TW,PA]
      have : Nat.ble ((c :: t').length * 1) 140737488355328 = true:=by rw [Bd]; simp only [Afe]; simp only [Aft,AfL] at hl; omega
      rw [this]; rfl
    · refine .row (by simp) (AeR _) ?_
      rw [AA]; simp
    · rw [Ti _ _ _ (GA hr)]; exact hr
    · have:=GA hr; simp; omega
  | row hs hbb hq =>
    rename_i q bb
    have hqr : q ≠ r:=fun e=>hne (by rw [e])
    have hql:=GA hq
    refine ⟨H.set q (.cs 5 1 (Hh (s ++ c :: t')) bb false),.sl q (s ++ c :: t').length 1 0 (s ++ c :: t').length false,some q,fun B=>?_,?_,?_,by simpa using hqr,by simp,fun i hi hne'=>?_,rfl,fun i hi=>.inl hi,rfl⟩
    · have e : FP ⟨B,H⟩ 5 1 1 (.sl q s.length 1 0 s.length false) (Hh (c :: t')) = (nth H q).bind fun row=>match row with
          | .cs ty' esz' es base fz=>gd (!fz && Nat.beq 5 ty' && Nat.beq 1 esz' && Nat.beq 1 esz' && Nat.beq 0 0 && Nat.beq s.length es.length && Nat.beq s.length es.length && Nat.ble ((es.length + (Hh (c :: t')).length) * 1) 140737488355328 && (Hh (c :: t')).all fun e=>Nat.beq e.length 1 && e.all BH)
            ((AF H q (.cs ty' esz' (es ++ Hh (c :: t')) base false)).bind fun H'=>some (.sl q (es.length + (Hh (c :: t')).length) esz' 0 (es.length + (Hh (c :: t')).length) false,⟨B,H'⟩))
          | _=>none:=rfl
      rw [e,hq]
      simp only [AeM,TW,PA,Wy]
      have h1 : Nat.ble ((s.length + (c :: t').length) * 1) 140737488355328 = true:=by rw [Bd]; simp only [Afe]; omega
      rw [h1,Am _ _ _ hql]
      simp [AeL]
    · refine .row (b:=bb) (by simp) (by simp; omega) ?_
      rw [BV _ _ _ _ hql,AeJ rfl]
    · rw [BV _ _ _ _ hql,AeF hqr]; exact hr
    · rw [BV _ _ _ _ hql,AeF]
      intro e; subst e; exact hne' rfl
theorem cc_x (r : Nat) (H : Hp) (a b : V) (bb : Nat) (h : nth H r = some (.cs 153 2 [[a,b]] bb false)) (ha : a = .m (.nl 0) \/ a = .pt r 1 0 0) (hb : bb <= 1) : ∃ H' bb',bb' <= 1 /\ Gives G 170 [.pt r 1 0 0] H (.tu []) H' /\ nth H' r = some (.cs 153 2 [[.pt r 1 0 0,b]] bb' false) /\ (∀ i,i ≠ r -> nth H' i = nth H i) /\ H'.length = H.length:=by
  have hl:=GA h
  rcases ha with rfl | rfl
  · refine ⟨H.set r (.cs 153 2 [[.pt r 1 0 0,b]] 1 false),1,AeI _,⟨1,?_⟩,by rw [BV _ _ _ _ hl,AeJ rfl],fun i hi=>by rw [BV _ _ _ _ hl,AeF (fun e=>hi e.symm)],by simp⟩
    show ccX 153 (Bi G 0) [.pt r 1 0 0] H = _
    simp [ccX,h,Am _ _ _ hl]
  · refine ⟨H,bb,hb,⟨1,?_⟩,h,fun _ _=>rfl,rfl⟩
    show ccX 153 (Bi G 0) [.pt r 1 0 0] H = _
    simp [ccX,h]
theorem PB {r : Nat} {qs : Option Nat} {s : List Nat} {H : Hp} (hB : Bldr r qs s H) (c : Nat) (hc : c < 256) (hl : s.length < 140737488355328) :
    ∃ H' qs',Gives G 124 [.pt r 1 0 0,.m (.i .u8 c)] H (.m (.nl 3)) H' /\ Bldr r qs' (s ++ [c]) H' /\ Else r qs H H' /\ ∀ i,qs' = some i -> qs = some i \/ H.length <= i:=by
  obtain ⟨⟨a,b,bb,h1,h2,h3,h4⟩,hne,hby⟩:=hB
  obtain ⟨H1,bb1,k1,k2,k3,k4,k5⟩:=cc_x r H a b bb h1 h3 h2
  have h4' : Buf H1 s b qs:=h4.frame fun i hi=>k4 i fun e=>hne (by rw [hi,e])
  obtain ⟨H2,b1,qs1,j1,j2,j3,j4,j5,j6,j7,j8,j9⟩:=Xu h4' k3 hne (t:=[c]) (by simp) (by simp; omega)
  have hr2:=GA j3
  refine ⟨H2.set r (.cs 153 2 [[.pt r 1 0 0,b1]] 1 false),qs1,?_,⟨⟨.pt r 1 0 0,b1,1,by rw [BV _ _ _ _ hr2,AeJ rfl],AeI _,.inr rfl,?_⟩,j4,?_⟩,⟨by simp; omega,fun i hi hir hn=>?_⟩,fun i hi=>by rw [<- k5]; exact j8 i hi⟩
  · refine .of_ret (AS mono rfl rfl rfl rfl rfl ?_)
    simp only [Hh,Afx,List.map_nil] at j1
    have r2 : ∀ x y : V,CX 2 [[x,y]] 0 1 1 = some [y]:=fun _ _=>rfl
    have w2 : ∀ x y z : V,BD 2 [[x,y]] 0 1 [z] = some [[x,z]]:=fun _ _ _=>rfl
    simp (contextual:=true) (disch:=omega) [cl k2,k3,j1,j9,j7,r2,w2,k1,j3,Am _ _ _ hr2]
  · exact j2.frame fun i hi=>by rw [BV _ _ _ _ hr2,AeF (fun e=>j4 (by rw [hi,e]))]
  · intro x hx
    rcases AfQ.1 hx with hx | hx
    · exact hby x hx
    · simp at hx; omega
  · rw [BV _ _ _ _ hr2,AeF (fun e=>hir e.symm),j6 i (by omega) hn]
    exact k4 i hir
theorem Aas {r : Nat} {qs : Option Nat} {s : List Nat} {H : Hp} (hB : Bldr r qs s H) (t : List Nat) (hc : ∀ c,c ∈ t -> c < 256) (hl : s.length + t.length <= 140737488355328) :
    ∃ H' qs',Gives G 123 [.pt r 1 0 0,.m (.s t)] H (.tu [.m (.i .i64 t.length),.m (.nl 3)]) H' /\ Bldr r qs' (s ++ t) H' /\ Else r qs H H' /\ ∀ i,qs' = some i -> qs = some i \/ H.length <= i:=by
  obtain ⟨⟨a,b,bb,h1,h2,h3,h4⟩,hne,hby⟩:=hB
  obtain ⟨H1,bb1,k1,k2,k3,k4,k5⟩:=cc_x r H a b bb h1 h3 h2
  have h4' : Buf H1 s b qs:=h4.frame fun i hi=>k4 i fun e=>hne (by rw [hi,e])
  have r2 : ∀ x y : V,CX 2 [[x,y]] 0 1 1 = some [y]:=fun _ _=>rfl
  have w2 : ∀ x y z : V,BD 2 [[x,y]] 0 1 [z] = some [[x,z]]:=fun _ _ _=>rfl
  by_cases ht : t = []
  · subst ht
    have hr1:=GA k3
    have e1 : ∀ B,FP ⟨B,H1⟩ 5 1 1 b [] = some (b,⟨B,H1⟩):=fun B=>by cases h4' <;> rfl
    have e2 : Ap b = some [b]:=by cases h4' <;> rfl
    have e3 : BH b = true:=by cases h4' <;> rfl
    refine ⟨H1.set r (.cs 153 2 [[.pt r 1 0 0,b]] 1 false),qs,?_,⟨⟨.pt r 1 0 0,b,1,by rw [BV _ _ _ _ hr1,AeJ rfl],AeI _,.inr rfl,?_⟩,hne,by simpa using hby⟩,⟨by simp; omega,fun i hi hir hn=>?_⟩,fun i hi=>.inl hi⟩
    · refine .of_ret (AS mono rfl rfl rfl rfl rfl ?_)
      simp (contextual:=true) (disch:=omega) [cl k2,k3,e1,e2,e3,r2,w2,k1,Am _ _ _ hr1]
    · rw [Afd]
      exact h4'.frame fun i hi=>by rw [BV _ _ _ _ hr1,AeF (fun e=>hne (by rw [hi,e]))]
    · rw [BV _ _ _ _ hr1,AeF (fun e=>hir e.symm)]
      exact k4 i hir
  · obtain ⟨H2,b1,qs1,j1,j2,j3,j4,j5,j6,j7,j8,j9⟩:=Xu h4' k3 hne ht hl
    have hr2:=GA j3
    refine ⟨H2.set r (.cs 153 2 [[.pt r 1 0 0,b1]] 1 false),qs1,?_,⟨⟨.pt r 1 0 0,b1,1,by rw [BV _ _ _ _ hr2,AeJ rfl],AeI _,.inr rfl,?_⟩,j4,?_⟩,⟨by simp; omega,fun i hi hir hn=>?_⟩,fun i hi=>by rw [<- k5]; exact j8 i hi⟩
    · refine .of_ret (AS mono rfl rfl rfl rfl rfl ?_)
      have j1' : ∀ B,FP ⟨B,H1⟩ 5 1 1 b (t.map fun c : Nat=>[V.m (.i .u8 (Int.ofNat c))]) = some (b1,⟨B,H2⟩):=j1
      simp (contextual:=true) (disch:=omega) [cl k2,k3,j1',j9,j7,r2,w2,k1,j3,Am _ _ _ hr2,-Int.ofNat_eq_natCast]
    · exact j2.frame fun i hi=>by rw [BV _ _ _ _ hr2,AeF (fun e=>j4 (by rw [hi,e]))]
    · intro x hx
      rcases AfQ.1 hx with hx | hx
      · exact hby x hx
      · exact hc x hx
    · rw [BV _ _ _ _ hr2,AeF (fun e=>hir e.symm),j6 i (by omega) hn]
      exact k4 i hir
theorem Aau {r : Nat} {qs : Option Nat} {s : List Nat} {H : Hp} (hB : Bldr r qs s H) (hl : s.length <= 9223372036854775807) :
    ∃ H',Gives G 125 [.pt r 1 0 0] H (.m (.s s)) H' /\ Else r qs H H':=by
  obtain ⟨⟨a,b,bb,h1,h2,h3,h4⟩,hne,hby⟩:=hB
  have r2 : ∀ x y : V,CX 2 [[x,y]] 0 1 1 = some [y]:=fun _ _=>rfl
  cases h4 with
  | nil =>
    refine ⟨H,.of_ret (AS mono rfl rfl rfl rfl rfl ?_),AeI _,fun _ _ _ _=>rfl⟩
    have u1 : Aj .usd [.m (.nl 4)] = some (.m (.nl 0)):=rfl
    have u2 : ∀ c M,Ai c M (.ust 5) [.m (.nl 0),.m (.i .i64 0)] = some (.m (.s []),M):=fun _ _=>rfl
    simp (contextual:=true) (disch:=omega) [h1,r2,h2,u1,u2]
  | row hs hbb hq =>
    rename_i q bq
    have hql:=GA hq
    have hpos : 1 <= s.length:=by cases s with | nil=>exact absurd rfl hs | cons=>simp
    refine ⟨H.set q (.cs 5 1 (Hh s) bq true),.of_ret (AS mono rfl rfl rfl rfl rfl ?_),by simp,fun i hi hir hn=>by rw [BV _ _ _ _ hql,AeF (fun e=>hn (by rw [e]))]⟩
    have u1 : Aj .usd [.sl q s.length 1 0 s.length false] = some (.pt q s.length 0 0):=by
      show gd (Nat.beq 1 1 && Nat.beq 0 0 && Nat.ble 1 s.length) _ = _
      rw [Bd,Afc hpos]; rfl
    have u2 : ∀ c B,Ai c ⟨B,H⟩ (.ust 5) [.pt q s.length 0 0,.m (.i .i64 (s.length : Int))] = some (.m (.s s),⟨B,H.set q (.cs 5 1 (Hh s) bq true)⟩):=fun c B=>by
      show ((nth H q).bind fun row=>match row with
        | .cs ty' esz es base false=>gd (Nat.beq 5 ty' && Nat.beq esz 1 && Nat.ble base s.length && Nat.beq s.length es.length && Nat.beq s.length es.length && Nat.ble 1 s.length) ((Cg es).bind fun l=>(AF H q (.cs 5 esz es base true)).bind fun H'=>some (V.m (.s l),{ (⟨B,H⟩ : Mem) with H:=H' }))
        | _=>none) = _
      rw [hq]
      simp [hbb,hpos,Jn s hby,Am _ _ _ hql]
    simp (contextual:=true) (disch:=omega) [h1,r2,h2,u1,u2]
theorem Aat (H1 H2 : Hp) : Bldr H1.length none [] (H1 ++ .cs 153 2 [[.m (.nl 0),.m (.nl 4)]] 0 false :: H2) :=
  ⟨⟨_,_,0,Au _ _ _,AeR _,.inl rfl,.nil⟩,by simp,fun _ h=>by simp at h⟩
end Go.Mx.Tryz
