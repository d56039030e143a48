/- Sorting at the machine: a row as an array. Nothing here speaks of a program. -/
import Derived.Test.YtlhjjcaifenlbaaGreatDoorWb
import Derived.Sort.AssemblyPlain
set_option linter.unusedSimpArgs false
set_option linter.unusedVariables false
set_option linter.unusedSectionVars false
namespace Go.Mx
open Go.Sort
structure Rw (α:Type)(esz:Nat)(ag:Bool) where
 enc:α->List V
 val:α->V
 len:∀x,(enc x).length=esz
 pos:1<=esz
 one:∀x,(enc x).all BM=true
 ld:∀x,Dk ag (enc x)=some (val x)
 st:∀x,Au (val x)=some (enc x)
section
variable {α:Type} {esz:Nat} {ag:Bool}
def Bk (R:Rw α esz ag)(d:Array α):List (List V):=d.toList.map R.enc
@[simp] theorem rowA_len (R:Rw α esz ag)(d:Array α):(Bk R d).length=d.size:=by simp[Bk]
theorem Rw.rd [Inhabited α](R:Rw α esz ag)(d:Array α){i:Nat}(h:i<d.size):Dq esz (Bk R d) i 0 esz=some (R.enc d[i]!):=by
 have hp:=R.pos
 have h1:Nat.ble (0%esz+esz) esz=true:=by rw[Nat.zero_mod,Bb];simp
 unfold Dq
 rw[h1]
 have h2:nth (Bk R d) i=some (R.enc d[i]!):=by
  rw[AP,Bk,AiL,getElem!_pos d i h]
  simp[h]
 simp only[Nat.zero_mod,Nat.zero_div,Nat.add_zero,h2,Ait,AjP]
 rw[Vp,AiJ (by rw[R.len];omega),R.len]
 simp
theorem Rw.wr [Inhabited α](R:Rw α esz ag)(d:Array α){i:Nat}(x:α)(h:i<d.size):Cb esz (Bk R d) i 0 (R.enc x)=some (Bk R (d.setIfInBounds i x)):=by
 have hp:=R.pos
 have hl:=R.len x
 have h1:Nat.ble (0%esz+(R.enc x).length) esz=true:=by rw[Nat.zero_mod,Bb,hl];simp
 unfold Cb
 rw[h1]
 have h2:nth (Bk R d) i=some (R.enc d[i]!):=by
  rw[AP,Bk,AiL,getElem!_pos d i h]
  simp[h]
 simp only[Nat.zero_mod,Nat.zero_div,Nat.add_zero,h2,Ait]
 have h3:Fw (R.enc d[i]!) 0 (R.enc x)=some (R.enc x):=by
  rw[VW,hl,R.len]
  simp[List.drop_of_length_le,R.len]
 rw[h3,Ait,AE _ _ _ (by simpa[Bk]using h)]
 congr 1
 unfold Bk
 simp[List.map_set]
theorem Rw.all1 (R:Rw α esz ag)(x:α):((R.enc x).all BM)=true:=R.one x
end
theorem FL {α:Type}[Inhabited α](lt:α->α->Bool)(hi first root:Nat)(d:Array α):(siftDown lt hi first root d).size=d.size:=by
 fun_induction siftDown lt hi first root d <;> simp_all [swp]
theorem Vr {α:Type}[Inhabited α](d:Array α)(i j:Nat):(swp d i j).size=d.size:=by simp[swp]
end Go.Mx
