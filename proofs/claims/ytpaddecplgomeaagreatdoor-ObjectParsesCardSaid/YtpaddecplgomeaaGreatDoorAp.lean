/- The primitive of the machine for strconv.Atoi, at every string; its contract is the kit's, proved over any program that bears the library's own body. -/
import Derived.Test.YtpaddecplgomeaaGreatDoorBd
import Derived.Shelf.Strconv.AtoiAll
set_option linter.unusedSimpArgs false
set_option linter.unusedVariables false
set_option linter.unusedSectionVars false
set_option linter.unusedVariables false
namespace Go.Mx
open Go.Proofs Go.RowKit
variable {P : Program}
def atG (l : List Nat) : I × I:=match Go.Lib.atoiAll (l.map UInt8.ofNat) with
 | .ok v=>(.i .i64 v,.nl 3)
 | .range=>(.i .i64 (Go.Lib.atoiSat (l.map UInt8.ofNat)),.er)
 | _=>(.i .i64 0,.er)
def atX (_ : Bj) (vs : List V) (H : Hp) : Option (V × Hp):=match vs with
 | [.m (.s l)]=>gd (Nat.ble l.length 281474976710656) (some (.tu [.m (atG l).1,.m (atG l).2],H))
 | _=>none
def XB (P : Program) (f gs gr : Nat) : Prop:=∀ (s : ByteArray) (w : World),s.size <= 281474976710656 -> (∃ t p,w.cell? ⟨gs,0,none⟩ = some (.iface t p)) -> (∃ t p,w.cell? ⟨gr,0,none⟩ = some (.iface t p)) ->
 Calls P f #[.string s] w fun e w'=>Below w.heap.size w w' /\ match Go.Lib.atoiAll s.data.toList with
  | .ok v=>e = .returned (.tuple #[.int .i64 v,.nilIface])
  | .range=>∃ t p,e = .returned (.tuple #[.int .i64 (Go.Lib.atoiSat s.data.toList),.iface t p])
  | _=>∃ t p,e = .returned (.tuple #[.int .i64 0,.iface t p])
theorem Zf {ρ : Go.Shelf.Ren} (L : LaysC.n172 P ρ) : XB P (ρ.f 172) (ρ.g 15) (ρ.g 16):=fun s w hs h1 h2=>by
 obtain ⟨t1,p1,h1⟩:=h1
 obtain ⟨t2,p2,h2⟩:=h2
 cases h : Go.Lib.atoiAll s.data.toList with
 | ok v =>
  refine (Any.strconv_Atoi_ok L s (by omega) v h w).mono fun e w' he=>?_
  obtain ⟨rfl,hw⟩:=he
  refine ⟨?_,rfl⟩
  rcases hw with rfl | ⟨t,rfl⟩
  ·exact Below.refl _ _
  ·exact Go.Lib.bytesWorld_below _ _ _
 | range =>
  refine (Any.strconv_Atoi_range L s hs h _ w h2 (.inr ⟨t2,p2,rfl⟩)).mono fun e w' he=>?_
  obtain ⟨N,rfl,_,_,hb⟩:=he
  exact ⟨hb,_,_,rfl⟩
 | _ =>
  refine (Any.strconv_Atoi_syntax L s hs h _ w h1 (.inr ⟨t1,p1,rfl⟩)).mono fun e w' he=>?_
  obtain ⟨N,rfl,_,_,hb⟩:=he
  exact ⟨hb,_,_,rfl⟩
theorem MH {w : World} {S : Nat -> Prop} {ρ : Nat -> Nat} {H : Hp} {x y : I} {a b : Value} (h1 : RepI w S x a) (h2 : RepI w S y b) : RepV w S ρ H (.tu [.m x,.m y]) (.tuple #[a,b]):=by
 refine .tu _ _ rfl (fun j=>match j with | 0=>a | _=>b) (fun j x hx=>?_) (fun j x hx=>?_)
 ·match j,hx with
  | 0,_=>rfl
  | 1,_=>rfl
  | _ + 2,hx=>simp at hx
 ·match j,hx with
  | 0,hx =>
   simp only [List.getElem?_cons_zero,AeD] at hx
   subst hx
   exact .m h1
  | 1,hx =>
   simp only [List.getElem?_cons_succ,List.getElem?_cons_zero,AeD] at hx
   subst hx
   exact .m h2
  | _ + 2,hx=>simp at hx
theorem Acl {gl : Nat -> Option (List I)} {w : World} {S : Nat -> Prop} (hG : GlOk gl w S) {g : Nat} (h : gl g = some [.er]) : ∃ t p,w.cell? ⟨g,0,none⟩ = some (.iface t p):=by
 have:=hG g _ h
 cases this with
 | pt xs b off cs hS hc hr =>
  have h1:=hc 0 .er rfl
  have h2:=hr 0 .er rfl
  generalize cs 0 = c at *
  cases h2 with
  | er t v=>exact ⟨t,v,h1⟩
theorem Zg {f gs gr : Nat} (hD : drawM = false) (hw : XB P f gs gr) {sh : Nat -> Bool} {gl : Nat -> Option (List I)} (hs : gl gs = some [.er]) (hr : gl gr = some [.er]) (hen : GI P f) (hsh : sh f = true) : PrimOk P gl sh f atX where
 shared:=hsh
 enters:=hen
 ok:=by
  intro call vs H v H' _ he w S ρ β B args hok hG hv
  unfold atX at he
  split at he
  ·rename_i l
   simp only [Ad,AeD,AeE,Afn] at he
   obtain ⟨hl,rfl,rfl⟩:=he
   obtain ⟨a,ha,h1⟩ : ∃ a,args.toList = [a] /\ RepI w S (.s l) a:=by
    generalize args.toList = m at hv
    cases hv with
    | cons h1 t =>
     cases t
     exact ⟨_,rfl,RepV.imm (RepX.toV rfl h1)⟩
   cases h1 with
   | s x _ hx =>
    have ha : args = #[.string x]:=by
     apply Array.ext'
     rw [ha]
    subst ha
    have e : l.map UInt8.ofNat = x.data.toList:=by
     rw [<- hx,AfW]
     exact (List.map_congr_left (fun c _=>UInt8.ofNat_toNat)).trans (List.map_id _)
    have hsz : x.size = l.length:=by
     rw [<- hx]
     simp
    refine (hw x w (by omega) (Acl hG hs) (Acl hG hr)).mono fun e' w' he=>?_
    obtain ⟨hb,he⟩:=he
    have hg : Gw w w' none:=⟨⟨hb.os,hb.tape,hb.output,hb.size,fun k hk _=>hb.block k hk⟩,fun h=>by rw [hD] at h; cases h⟩
    obtain ⟨k1,k2⟩:=hok.grow (S':=S) hg (fun _ h=>h) (fun b h=>.inl h) (fun b h=>Agc (hok.lt b h) hb.size)
    unfold atG
    rw [e]
    cases h : Go.Lib.atoiAll x.data.toList with
    | ok v =>
     rw [h] at he
     exact ⟨_,S,ρ,he,k1,k2,MH (.i _ _) .nli⟩
    | range =>
     rw [h] at he
     obtain ⟨t,p,he⟩:=he
     exact ⟨_,S,ρ,he,k1,k2,MH (.i _ _) (.er _ _)⟩
    | _ =>
     rw [h] at he
     obtain ⟨t,p,he⟩:=he
     exact ⟨_,S,ρ,he,k1,k2,MH (.i _ _) (.er _ _)⟩
  ·cases he
end Go.Mx
