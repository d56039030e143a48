/- Images of images: plain facts. -/
import Derived.Test.YtpaddecplgomeaaGreatDoorCp
set_option linter.unusedSimpArgs false
set_option linter.unusedVariables false
set_option linter.unusedSectionVars false
set_option maxRecDepth 100000
namespace Go.Mx.Tryz
open Go.Sort Go.Lib Go.Proofs
theorem Xo (g : Ce -> Int) (d : Int) (f : Ce -> Ce) (hf : ∀ c,g (f c) = g c - d) {l : List Ce} (hne : l ≠ []) : Kj g (l.map f) = Kj g l - d:=by
 obtain ⟨a1,a2⟩:=Gq g hne
 obtain ⟨b1,b2⟩:=Gq g (p:=l.map f) (by simpa using hne)
 have h1:=a2 (Kj g (l.map f) + d) fun c hc=>by
  have:=b1 (f c) (List.mem_map_of_mem hc)
  rw [hf] at this
  omega
 have h2:=b2 (Kj g l - d) fun c hc=>by
  obtain ⟨e,he,rfl⟩:=Afb.1 hc
  have:=a1 e he
  rw [hf]
  omega
 omega
theorem Aag (u v : Int) (l : List Ce) : Bt (l.map (mvC u v)) = Bt l:=by
 by_cases hl : l = []
 ·subst hl; rfl
 ·have e1:=Xo Ce.x u (mvC u v) (fun _=>rfl) hl
  have e2:=Xo Ce.y v (mvC u v) (fun _=>rfl) hl
  rw [Ji,Ji] at e1
  rw [Jh,Jh] at e2
  unfold Bt
  rw [e1,e2,AfW]
  refine List.map_congr_left fun c _=>?_
  show mvC _ _ (mvC u v c) = _
  unfold mvC
  congr 1
  ·dsimp only; omega
  ·dsimp only; omega
theorem Aae {p : List Ce} (hp : p.Pairwise (fun a b=>BG a b = true)) : Aee 0 p = Bt p:=by
 unfold Aee
 have e : p.map (tnC 0) = p:=by
  have : ∀ c ∈ p,tnC 0 c = c:=fun c _=>rfl
  rw [List.map_congr_left this,List.map_id']
 rw [e]
 exact SS (NB hp) (JU (GX (NB hp))) (Gm _)
theorem TD (p : List Ce) : Bt (Bt p) = Bt p:=Aag _ _ p
theorem Kn (p : List Ce) : (Bt p).length = p.length:=by unfold Bt; simp
def Io (p : List Ce) : Option Int:=if right p = true then if Cd p = true then some 5 else none else some 2
theorem Gr {p : List Ce} (h : Io p = none) : right p = true /\ Cd p = false:=by
 unfold Io at h
 cases hr : right p <;> cases hl : Cd p <;> simp_all
theorem Zv (a b : Int) {p : List Ce} (h : TY p) : TY (p.map (mvC a b)):=fun c d hc hd=>by
 obtain ⟨x,hx,rfl⟩:=Afb.1 hc
 obtain ⟨y,hy,rfl⟩:=Afb.1 hd
 have:=h x y hx hy
 unfold mvC
 dsimp only
 omega
theorem Wi {p : List Ce} (hp : right p = true) (h : TY p) : Cd p = false:=by
 cases p with
 | nil=>rfl
 | cons a r =>
  obtain ⟨l,hl⟩ : ∃ d,(a :: r)[(a :: r).length - 1]? = some d:=⟨_,AeK (by simp)⟩
  have hla : ∀ h,(a :: r).getLast h = l:=fun h=>by
   rw [List.getLast_eq_getElem,<- AeD,<- hl,AeK]
  have hlm:=AeO hl
  have ham : a ∈ a :: r:=Afh ..
  have bx:=Ki hp
  have bX : mxF a.x ((a :: r).map Ce.x) <= 1048576:=Me _ _ _ ⟨(AZ hp ham).1.2,fun y hy=>by
   obtain ⟨e,he,rfl⟩:=Afb.1 hy
   exact (AZ hp he).1.2⟩
  have hb1:=AZ hp ham
  have hb2:=AZ hp hlm
  have m5 : mnF a.x ((a :: r).map Ce.x) <= a.x:=(FJ ((a :: r).map Ce.x) a.x).1
  have m6 : a.x <= mxF a.x ((a :: r).map Ce.x):=(Mf ((a :: r).map Ce.x) a.x).1
  have bx' : -1048576 <= mnF a.x ((a :: r).map Ce.x):=bx.1
  have k1 : mxF a.x ((a :: r).map Ce.x) <= mnF a.x ((a :: r).map Ce.x) + 1048576:=by
   refine Me _ _ _ ⟨?_,fun y hy=>?_⟩
   ·have : a.x - 1048576 <= mnF a.x ((a :: r).map Ce.x):=GB _ _ _ ⟨by omega,fun z hz=>by
     obtain ⟨e,he,rfl⟩:=Afb.1 hz
     have:=(h a e ham he).1
     omega⟩
    omega
   ·obtain ⟨e,he,rfl⟩:=Afb.1 hy
    have : e.x - 1048576 <= mnF a.x ((a :: r).map Ce.x):=GB _ _ _ ⟨by have:=(h e a he ham).1; omega,fun z hz=>by
     obtain ⟨f,hf,rfl⟩:=Afb.1 hz
     have:=(h e f he hf).1
     omega⟩
    omega
  have k2:=(h l a hlm ham).2
  have k3:=(h a l ham hlm).2
  unfold Cd NE
  dsimp only
  rw [AeJ hp,hla]
  generalize mnF a.x ((a :: r).map Ce.x) = n at *
  generalize mxF a.x ((a :: r).map Ce.x) = m at *
  dsimp only
  rw [wr_i64 (x:=m - n) (by omega) (by omega),wr_i64 (x:=m - n + 1) (by omega) (by omega),wr_i64 (x:=l.y - a.y) (by omega) (by omega),wr_i64 (x:=l.y - a.y + 1) (by omega) (by omega)]
  simp only [decide_eq_false_iff_not]
  omega
end Go.Mx.Tryz
