/- Sorting at the machine: a row as an array. Nothing here speaks of a program. -/
import Derived.Test.YtlhjjcaifenlbaaGreatDoorWb
import Derived.Sort.AssemblyPlain
set_option linter.unusedSimpArgs false
set_option linter.unusedVariables false
set_option linter.unusedSectionVars false
namespace Go.Mx
open Go.Sort
structure Rw (α : Type) (esz : Nat) (ag : Bool) where
 enc : α -> List V
 val : α -> V
 len : ∀ x,(enc x).length = esz
 pos : 1 <= esz
 one : ∀ x,(enc x).all Cv = true
 ld : ∀ x,Dp ag (enc x) = some (val x)
 st : ∀ x,Au (val x) = some (enc x)
section
variable {α : Type} {esz : Nat} {ag : Bool}
def Bb (R : Rw α esz ag) (d : Array α) : List (List V):=d.toList.map R.enc
@[simp] theorem rowA_len (R : Rw α esz ag) (d : Array α) : (Bb R d).length = d.size:=by simp [Bb]
theorem Rw.rd [Inhabited α] (R : Rw α esz ag) (d : Array α) {i : Nat} (h : i < d.size) : Ej esz (Bb R d) i 0 esz = some (R.enc d[i]!):=by
 have hp:=R.pos
 have h1 : Nat.ble (0 % esz + esz) esz = true:=by rw [Nat.zero_mod,Bc]; simp
 unfold Ej
 rw [h1]
 have h2 : nth (Bb R d) i = some (R.enc d[i]!):=by
  rw [AS,Bb,AdT,getElem!_pos d i h]
  simp [h]
 simp only [Nat.zero_mod,Nat.zero_div,Nat.add_zero,h2,Adx,AeC]
 rw [TK,AdI (by rw [R.len]; omega),R.len]
 simp
theorem Rw.wr [Inhabited α] (R : Rw α esz ag) (d : Array α) {i : Nat} (x : α) (h : i < d.size) : DS esz (Bb R d) i 0 (R.enc x) = some (Bb R (d.setIfInBounds i x)):=by
 have hp:=R.pos
 have hl:=R.len x
 have h1 : Nat.ble (0 % esz + (R.enc x).length) esz = true:=by rw [Nat.zero_mod,Bc,hl]; simp
 unfold DS
 rw [h1]
 have h2 : nth (Bb R d) i = some (R.enc d[i]!):=by
  rw [AS,Bb,AdT,getElem!_pos d i h]
  simp [h]
 simp only [Nat.zero_mod,Nat.zero_div,Nat.add_zero,h2,Adx]
 have h3 : FZ (R.enc d[i]!) 0 (R.enc x) = some (R.enc x):=by
  rw [Um,hl,R.len]
  simp [List.drop_of_length_le,R.len]
 rw [h3,Adx,BA _ _ _ (by simpa [Bb] using h)]
 congr 1
 unfold Bb
 simp [List.map_set]
theorem Rw.all1 (R : Rw α esz ag) (x : α) : ((R.enc x).all Cv) = true:=R.one x
end
theorem Fn {α : Type} [Inhabited α] (lt : α -> α -> Bool) (hi first root : Nat) (d : Array α) : (siftDown lt hi first root d).size = d.size:=by
 fun_induction siftDown lt hi first root d <;> simp_all [swp]
theorem TM {α : Type} [Inhabited α] (d : Array α) (i j : Nat) : (swp d i j).size = d.size:=by simp [swp]
end Go.Mx
