/- strings.Builder at the machine: what is written so far. -/
import Derived.Test.YtjjpbhhgeddgjaaGreatDoorSeav
import Derived.Test.YtjjpbhhgeddgjaaGreatDoorWb
set_option linter.unusedSimpArgs false
set_option linter.unusedVariables false
set_option linter.unusedSectionVars false
set_option maxRecDepth 100000
namespace Go.Mx.Tryz
def Hu (s : List Nat) : List (List V):=s.map fun c : Nat=>[.m (.i .u8 (c : Int))]
@[simp] theorem ND (s : List Nat) : (Hu s).length = s.length:=by simp [Hu]
theorem TJ (s t : List Nat) : Hu s ++ Hu t = Hu (s ++ t):=by simp [Hu]
theorem Ij : ∀ (s : List Nat),(∀ c,c ∈ s -> c < 256) -> BQ (Hu s) = some s
  | [],_=>rfl
  | c :: r,h=>by
    show gd (Nat.blt c 256) ((BQ (Hu r)).bind fun l=>some (c :: l)) = _
    rw [He,Ade (h c (by simp)),Ij r fun x hx=>h x (by simp [hx])]
    rfl
theorem RI (s : List Nat) : (Hu s).all (fun e=>Nat.beq e.length 1 && e.all BA) = true:=by
  rw [AcX]
  intro e he
  obtain ⟨c,_,rfl⟩:=Adz.1 he
  rfl
inductive Buf (H : Hp) : List Nat -> V -> Option Nat -> Prop
  | nil : Buf H [] (.m (.nl 4)) none
  | row {s : List Nat} {q b : Nat} : s ≠ [] -> b <= s.length -> nth H q = some (.cs 5 1 (Hu s) b false) -> Buf H s (.sl q s.length 1 0 s.length false) (some q)
structure Bldr (r : Nat) (qs : Option Nat) (s : List Nat) (H : Hp) : Prop where
  row : ∃ a b bb,nth H r = some (.cs 60 2 [[a,b]] bb false) /\ bb <= 1 /\ (a = .m (.nl 0) \/ a = .pt r 1 0 0) /\ Buf H s b qs
  ne : qs ≠ some r
  bytes : ∀ c,c ∈ s -> c < 256
def Else (r : Nat) (qs : Option Nat) (H H' : Hp) : Prop:=H.length <= H'.length /\ ∀ i,i < H.length -> i ≠ r -> some i ≠ qs -> nth H' i = nth H i
theorem Buf.frame {H H' : Hp} {s : List Nat} {b : V} {qs : Option Nat} (h : Buf H s b qs) (hf : ∀ i,qs = some i -> nth H' i = nth H i) : Buf H' s b qs:=by
  cases h with
  | nil=>exact .nil
  | row e1 e2 e3=>exact .row e1 e2 (by rw [hf _ rfl]; exact e3)
theorem Hn {α : Type} {l : List α} {i : Nat} {x : α} (h : nth l i = some x) : i < l.length:=by
  rw [AC] at h
  exact (AcO.1 h).1
theorem Cj {α : Type} (l : List α) (i j : Nat) (x : α) (h : i < l.length) : nth (l.set i x) j = if i = j then some x else nth l j:=by
  rw [AC,AC,List.getElem?_set]
  by_cases e : i = j
  · subst e; simp [h]
  · simp [e]
theorem Rd {α : Type} (l m : List α) (j : Nat) (h : j < l.length) : nth (l ++ m) j = nth l j:=by
  rw [AC,AC,Adb h]
theorem AcG {H : Hp} {s t : List Nat} {b : V} {qs : Option Nat} {r : Nat} {rw0 : Row} (hb : Buf H s b qs) (hr : nth H r = some rw0) (hne : qs ≠ some r) (ht : t ≠ []) (hl : s.length + t.length <= 140737488355328) :
    ∃ H1 b1 qs1,(∀ B,Ek ⟨B,H⟩ 5 1 1 b (Hu t) = some (b1,⟨B,H1⟩)) /\ Buf H1 (s ++ t) b1 qs1 /\ nth H1 r = some rw0 /\ qs1 ≠ some r /\ H.length <= H1.length /\ (∀ i,i < H.length -> some i ≠ qs -> nth H1 i = nth H i) /\ BA b1 = true /\ (∀ i,qs1 = some i -> qs = some i \/ H.length <= i) /\ An b1 = some [b1]:=by
  obtain ⟨c,t',rfl⟩:=List.exists_cons_of_ne_nil ht
  cases hb with
  | nil =>
    refine ⟨H ++ [.cs 5 1 (Hu (c :: t')) 0 false],.sl H.length (c :: t').length 1 0 (c :: t').length false,some H.length,fun B=>?_,?_,?_,?_,by simp,fun i hi _=>Rd _ _ _ hi,rfl,fun i hi=>.inr (by cases hi; exact AcR _),rfl⟩
    · have e : Ek ⟨B,H⟩ 5 1 1 (.m (.nl 4)) (Hu (c :: t')) = Bq ⟨B,H⟩ 5 1 1 (Hu (c :: t')):=rfl
      rw [e,BZ,RI,ND]
      have : Nat.ble ((c :: t').length * 1) 140737488355328 = true:=by rw [AZ]; simp only [Adm]; simp only [AdC,AdU] at hl; omega
      rw [this]; rfl
    · refine .row (by simp) (Adg _) ?_
      rw [AC]; simp
    · rw [Rd _ _ _ (Hn hr)]; exact hr
    · have:=Hn hr; simp; omega
  | row hs hbb hq =>
    rename_i q bb
    have hqr : q ≠ r:=fun e=>hne (by rw [e])
    have hql:=Hn hq
    refine ⟨H.set q (.cs 5 1 (Hu (s ++ c :: t')) bb false),.sl q (s ++ c :: t').length 1 0 (s ++ c :: t').length false,some q,fun B=>?_,?_,?_,by simpa using hqr,by simp,fun i hi hne'=>?_,rfl,fun i hi=>.inl hi,rfl⟩
    · have e : Ek ⟨B,H⟩ 5 1 1 (.sl q s.length 1 0 s.length false) (Hu (c :: t')) = (nth H q).bind fun row=>match row with
          | .cs ty' esz' es base fz=>gd (!fz && Nat.beq 5 ty' && Nat.beq 1 esz' && Nat.beq 1 esz' && Nat.beq 0 0 && Nat.beq s.length es.length && Nat.beq s.length es.length && Nat.ble ((es.length + (Hu (c :: t')).length) * 1) 140737488355328 && (Hu (c :: t')).all fun e=>Nat.beq e.length 1 && e.all BA)
            ((AD H q (.cs ty' esz' (es ++ Hu (c :: t')) base false)).bind fun H'=>some (.sl q (es.length + (Hu (c :: t')).length) esz' 0 (es.length + (Hu (c :: t')).length) false,⟨B,H'⟩))
          | _=>none:=rfl
      rw [e,hq]
      simp only [AcS,RI,ND,TJ]
      have h1 : Nat.ble ((s.length + (c :: t').length) * 1) 140737488355328 = true:=by rw [AZ]; simp only [Adm]; omega
      rw [h1,As _ _ _ hql]
      simp [AcV]
    · refine .row (b:=bb) (by simp) (by simp; omega) ?_
      rw [Cj _ _ _ _ hql,AcY rfl]
    · rw [Cj _ _ _ _ hql,AcQ hqr]; exact hr
    · rw [Cj _ _ _ _ hql,AcQ]
      intro e; subst e; exact hne' rfl
theorem cc_x (r : Nat) (H : Hp) (a b : V) (bb : Nat) (h : nth H r = some (.cs 60 2 [[a,b]] bb false)) (ha : a = .m (.nl 0) \/ a = .pt r 1 0 0) (hb : bb <= 1) : ∃ H' bb',bb' <= 1 /\ Gives G 46 [.pt r 1 0 0] H (.tu []) H' /\ nth H' r = some (.cs 60 2 [[.pt r 1 0 0,b]] bb' false) /\ (∀ i,i ≠ r -> nth H' i = nth H i) /\ H'.length = H.length:=by
  have hl:=Hn h
  rcases ha with rfl | rfl
  · refine ⟨H.set r (.cs 60 2 [[.pt r 1 0 0,b]] 1 false),1,AcR _,⟨1,?_⟩,by rw [Cj _ _ _ _ hl,AcY rfl],fun i hi=>by rw [Cj _ _ _ _ hl,AcQ (fun e=>hi e.symm)],by simp⟩
    show ccX 60 (Bg G 0) [.pt r 1 0 0] H = _
    simp [ccX,h,As _ _ _ hl]
  · refine ⟨H,bb,hb,⟨1,?_⟩,h,fun _ _=>rfl,rfl⟩
    show ccX 60 (Bg G 0) [.pt r 1 0 0] H = _
    simp [ccX,h]
theorem Yc {r : Nat} {qs : Option Nat} {s : List Nat} {H : Hp} (hB : Bldr r qs s H) (t : List Nat) (hc : ∀ c,c ∈ t -> c < 256) (hl : s.length + t.length <= 140737488355328) :
    ∃ H' qs',Gives G 27 [.pt r 1 0 0,.m (.s t)] H (.tu [.m (.i .i64 t.length),.m (.nl 3)]) H' /\ Bldr r qs' (s ++ t) H' /\ Else r qs H H' /\ ∀ i,qs' = some i -> qs = some i \/ H.length <= i:=by
  obtain ⟨⟨a,b,bb,h1,h2,h3,h4⟩,hne,hby⟩:=hB
  obtain ⟨H1,bb1,k1,k2,k3,k4,k5⟩:=cc_x r H a b bb h1 h3 h2
  have h4' : Buf H1 s b qs:=h4.frame fun i hi=>k4 i fun e=>hne (by rw [hi,e])
  have r2 : ∀ x y : V,EU 2 [[x,y]] 0 1 1 = some [y]:=fun _ _=>rfl
  have w2 : ∀ x y z : V,Ct 2 [[x,y]] 0 1 [z] = some [[x,z]]:=fun _ _ _=>rfl
  by_cases ht : t = []
  · subst ht
    have hr1:=Hn k3
    have e1 : ∀ B,Ek ⟨B,H1⟩ 5 1 1 b [] = some (b,⟨B,H1⟩):=fun B=>by cases h4' <;> rfl
    have e2 : An b = some [b]:=by cases h4' <;> rfl
    have e3 : BA b = true:=by cases h4' <;> rfl
    refine ⟨H1.set r (.cs 60 2 [[.pt r 1 0 0,b]] 1 false),qs,?_,⟨⟨.pt r 1 0 0,b,1,by rw [Cj _ _ _ _ hr1,AcY rfl],AcR _,.inr rfl,?_⟩,hne,by simpa using hby⟩,⟨by simp; omega,fun i hi hir hn=>?_⟩,fun i hi=>.inl hi⟩
    · refine .of_ret (BH mono rfl rfl rfl rfl rfl ?_)
      simp (contextual:=true) (maxSteps:=2000000) (disch:=omega) [-Int.not_lt,-Int.not_le,-Nat.not_lt,-Nat.not_le,-List.map_take,cl k2,k3,e1,e2,e3,r2,w2,k1,As _ _ _ hr1]
    · rw [AdZ]
      exact h4'.frame fun i hi=>by rw [Cj _ _ _ _ hr1,AcQ (fun e=>hne (by rw [hi,e]))]
    · rw [Cj _ _ _ _ hr1,AcQ (fun e=>hir e.symm)]
      exact k4 i hir
  · obtain ⟨H2,b1,qs1,j1,j2,j3,j4,j5,j6,j7,j8,j9⟩:=AcG h4' k3 hne ht hl
    have hr2:=Hn j3
    refine ⟨H2.set r (.cs 60 2 [[.pt r 1 0 0,b1]] 1 false),qs1,?_,⟨⟨.pt r 1 0 0,b1,1,by rw [Cj _ _ _ _ hr2,AcY rfl],AcR _,.inr rfl,?_⟩,j4,?_⟩,⟨by simp; omega,fun i hi hir hn=>?_⟩,fun i hi=>by rw [<- k5]; exact j8 i hi⟩
    · refine .of_ret (BH mono rfl rfl rfl rfl rfl ?_)
      have j1' : ∀ B,Ek ⟨B,H1⟩ 5 1 1 b (t.map fun c : Nat=>[V.m (.i .u8 (Int.ofNat c))]) = some (b1,⟨B,H2⟩):=j1
      simp (contextual:=true) (maxSteps:=2000000) (disch:=omega) [-Int.not_lt,-Int.not_le,-Nat.not_lt,-Nat.not_le,-List.map_take,cl k2,k3,j1',j9,j7,r2,w2,k1,j3,As _ _ _ hr2,-Int.ofNat_eq_natCast]
    · exact j2.frame fun i hi=>by rw [Cj _ _ _ _ hr2,AcQ (fun e=>j4 (by rw [hi,e]))]
    · intro x hx
      rcases AdT.1 hx with hx | hx
      · exact hby x hx
      · exact hc x hx
    · rw [Cj _ _ _ _ hr2,AcQ (fun e=>hir e.symm),j6 i (by omega) hn]
      exact k4 i hir
theorem RJ {r : Nat} {qs : Option Nat} {s : List Nat} {H : Hp} (hB : Bldr r qs s H) (hl : s.length <= 9223372036854775807) :
    ∃ H',Gives G 29 [.pt r 1 0 0] H (.m (.s s)) H' /\ Else r qs H H':=by
  obtain ⟨⟨a,b,bb,h1,h2,h3,h4⟩,hne,hby⟩:=hB
  have r2 : ∀ x y : V,EU 2 [[x,y]] 0 1 1 = some [y]:=fun _ _=>rfl
  cases h4 with
  | nil =>
    refine ⟨H,.of_ret (BH mono rfl rfl rfl rfl rfl ?_),AcR _,fun _ _ _ _=>rfl⟩
    have u1 : Ai .usd [.m (.nl 4)] = some (.m (.nl 0)):=rfl
    have u2 : ∀ c M,Af c M (.ust 5) [.m (.nl 0),.m (.i .i64 0)] = some (.m (.s []),M):=fun _ _=>rfl
    simp (contextual:=true) (maxSteps:=2000000) (disch:=omega) [-Int.not_lt,-Int.not_le,-Nat.not_lt,-Nat.not_le,-List.map_take,h1,r2,h2,u1,u2]
  | row hs hbb hq =>
    rename_i q bq
    have hql:=Hn hq
    have hpos : 1 <= s.length:=by cases s with | nil=>exact absurd rfl hs | cons=>simp
    refine ⟨H.set q (.cs 5 1 (Hu s) bq true),.of_ret (BH mono rfl rfl rfl rfl rfl ?_),by simp,fun i hi hir hn=>by rw [Cj _ _ _ _ hql,AcQ (fun e=>hn (by rw [e]))]⟩
    have u1 : Ai .usd [.sl q s.length 1 0 s.length false] = some (.pt q s.length 0 0):=by
      show gd (Nat.beq 1 1 && Nat.beq 0 0 && Nat.ble 1 s.length) _ = _
      rw [AZ,Ade hpos]; rfl
    have u2 : ∀ c B,Af c ⟨B,H⟩ (.ust 5) [.pt q s.length 0 0,.m (.i .i64 (s.length : Int))] = some (.m (.s s),⟨B,H.set q (.cs 5 1 (Hu s) bq true)⟩):=fun c B=>by
      show ((nth H q).bind fun row=>match row with
        | .cs ty' esz es base false=>gd (Nat.beq 5 ty' && Nat.beq esz 1 && Nat.ble base s.length && Nat.beq s.length es.length && Nat.beq s.length es.length && Nat.ble 1 s.length) ((BQ es).bind fun l=>(AD H q (.cs 5 esz es base true)).bind fun H'=>some (V.m (.s l),{ (⟨B,H⟩ : Mem) with H:=H' }))
        | _=>none) = _
      rw [hq]
      simp [hbb,hpos,Ij s hby,As _ _ _ hql]
    simp (contextual:=true) (maxSteps:=2000000) (disch:=omega) [-Int.not_lt,-Int.not_le,-Nat.not_lt,-Nat.not_le,-List.map_take,h1,r2,h2,u1,u2]
theorem Yd (H1 H2 : Hp) : Bldr H1.length none [] (H1 ++ .cs 60 2 [[.m (.nl 0),.m (.nl 4)]] 0 false :: H2) :=
  ⟨⟨_,_,0,Bj _ _ _,Adg _,.inl rfl,.nil⟩,by simp,fun _ h=>by simp at h⟩
end Go.Mx.Tryz
