/- Sorting at the machine: a row as an array. Nothing here speaks of a program. -/
import Derived.Test.YtgljapjkjbmicaaGreatDoorWb
import Derived.Sort.AssemblyPlain
set_option linter.unusedSimpArgs false
set_option linter.unusedVariables false
set_option linter.unusedSectionVars false
namespace Go.Mx
open Go.Sort
structure Rw (α : Type) (esz : Nat) (ag : Bool) where
 enc : α -> List V
 val : α -> V
 len : ∀ x,(enc x).length = esz
 pos : 1 <= esz
 one : ∀ x,(enc x).all CS = true
 ld : ∀ x,CD ag (enc x) = some (val x)
 st : ∀ x,Av (val x) = some (enc x)
section
variable {α : Type} {esz : Nat} {ag : Bool}
def AT (R : Rw α esz ag) (d : Array α) : List (List V):=d.toList.map R.enc
@[simp] theorem rowA_len (R : Rw α esz ag) (d : Array α) : (AT R d).length = d.size:=by simp [AT]
theorem Rw.rd [Inhabited α] (R : Rw α esz ag) (d : Array α) {i : Nat} (h : i < d.size) : DF esz (AT R d) i 0 esz = some (R.enc d[i]!):=by
 have hp:=R.pos
 have h1 : Nat.ble (0 % esz + esz) esz = true:=by rw [Nat.zero_mod,Cr]; simp
 unfold DF
 rw [h1]
 have h2 : nth (AT R d) i = some (R.enc d[i]!):=by
  rw [Bb,AT,Abb,getElem!_pos d i h]
  simp [h]
 simp only [Nat.zero_mod,Nat.zero_div,Nat.add_zero,h2,AaR,AbV]
 rw [Sg,Abc (by rw [R.len]; omega),R.len]
 simp
theorem Rw.wr [Inhabited α] (R : Rw α esz ag) (d : Array α) {i : Nat} (x : α) (h : i < d.size) : EN esz (AT R d) i 0 (R.enc x) = some (AT R (d.setIfInBounds i x)):=by
 have hp:=R.pos
 have hl:=R.len x
 have h1 : Nat.ble (0 % esz + (R.enc x).length) esz = true:=by rw [Nat.zero_mod,Cr,hl]; simp
 unfold EN
 rw [h1]
 have h2 : nth (AT R d) i = some (R.enc d[i]!):=by
  rw [Bb,AT,Abb,getElem!_pos d i h]
  simp [h]
 simp only [Nat.zero_mod,Nat.zero_div,Nat.add_zero,h2,AaR]
 have h3 : FA (R.enc d[i]!) 0 (R.enc x) = some (R.enc x):=by
  rw [SI,hl,R.len]
  simp [List.drop_of_length_le,R.len,hl]
 rw [h3,AaR,BX _ _ _ (by simpa [AT] using h)]
 congr 1
 unfold AT
 simp [List.map_set]
theorem Rw.all1 (R : Rw α esz ag) (x : α) : ((R.enc x).all CS) = true:=R.one x
end
theorem ER {α : Type} [Inhabited α] (lt : α -> α -> Bool) (hi first root : Nat) (d : Array α) : (siftDown lt hi first root d).size = d.size:=by
 fun_induction siftDown lt hi first root d <;> simp_all [swp]
theorem Si {α : Type} [Inhabited α] (d : Array α) (i j : Nat) : (swp d i j).size = d.size:=by simp [swp]
end Go.Mx
