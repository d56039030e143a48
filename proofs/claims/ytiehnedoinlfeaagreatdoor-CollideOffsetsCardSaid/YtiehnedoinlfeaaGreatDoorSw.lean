/- Sorting at the machine: a row as an array. Nothing here speaks of a program. -/
import Derived.Test.YtiehnedoinlfeaaGreatDoorWb
import Derived.Sort.AssemblyPlain
set_option linter.unusedSimpArgs false
set_option linter.unusedVariables false
set_option linter.unusedSectionVars false
namespace Go.Mx
open Go.Sort
structure Rw (α:Type)(esz:Nat)(ag:Bool) where
 enc:α->List V
 val:α->V
 len:∀x,(enc x).length=esz
 pos:1<=esz
 one:∀x,(enc x).all BL=true
 ld:∀x,DF ag (enc x)=some (val x)
 st:∀x,AA (val x)=some (enc x)
section
variable {α:Type} {esz:Nat} {ag:Bool}
def Bl (R:Rw α esz ag)(d:Array α):L0:=d.toList.map R.enc
@[simp] theorem rowA_len (R:Rw α esz ag)(d:Array α):(Bl R d).length=d.size:=by simp[Bl]
theorem Rw.rd [Inhabited α](R:Rw α esz ag)(d:Array α){i:Nat}(h:i<d.size):CZ esz (Bl R d) i 0 esz=some (R.enc d[i]!):=by
 have E:=R.pos
 have z:Nat.ble (0%esz+esz) esz=true:=by rw[Nat.zero_mod,Bg];simp
 unfold CZ
 rw[z]
 have u:nth (Bl R d) i=some (R.enc d[i]!):=by
  rw[AL,Bl,AhN,getElem!_pos d i h]
  simp[h]
 simp only[Nat.zero_mod,Nat.zero_div,Nat.add_zero,u,Ahz,AiA]
 rw[Wz,AhJ (by rw[R.len];omega),R.len]
 simp
theorem Rw.wr [Inhabited α](R:Rw α esz ag)(d:Array α){i:Nat}(x:α)(h:i<d.size):BQ esz (Bl R d) i 0 (R.enc x)=some (Bl R (d.setIfInBounds i x)):=by
 have N:=R.pos
 have u:=R.len x
 have J:Nat.ble (0%esz+(R.enc x).length) esz=true:=by rw[Nat.zero_mod,Bg,u];simp
 unfold BQ
 rw[J]
 have z:nth (Bl R d) i=some (R.enc d[i]!):=by
  rw[AL,Bl,AhN,getElem!_pos d i h]
  simp[h]
 simp only[Nat.zero_mod,Nat.zero_div,Nat.add_zero,z,Ahz]
 have E:FC (R.enc d[i]!) 0 (R.enc x)=some (R.enc x):=by
  rw[Xf,u,R.len]
  simp[List.drop_of_length_le,R.len]
 rw[E,Ahz,AB _ _ _ (by simpa[Bl]using h)]
 congr 1
 unfold Bl
 simp[List.map_set]
theorem Rw.all1 (R:Rw α esz ag)(x:α):((R.enc x).all BL)=true:=R.one x
end
theorem FT {α:Type}[Inhabited α](lt:α->α->Bool)(hi first u:Nat)(d:Array α):(siftDown lt hi first u d).size=d.size:=by
 fun_induction siftDown lt hi first u d <;> simp_all [swp]
theorem WB {α:Type}[Inhabited α](d:Array α)(i j:Nat):(swp d i j).size=d.size:=by simp[swp]
end Go.Mx
