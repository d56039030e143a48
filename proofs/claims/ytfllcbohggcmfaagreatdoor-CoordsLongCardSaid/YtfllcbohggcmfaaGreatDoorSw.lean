/- Sorting at the machine: a row as an array. Nothing here speaks of a program. -/
import Derived.Test.YtfllcbohggcmfaaGreatDoorWb
import Derived.Sort.AssemblyPlain
set_option linter.unusedSimpArgs false
set_option linter.unusedVariables false
set_option linter.unusedSectionVars false
namespace Go.Mx
open Go.Sort

structure Rw (α : Type) (esz : Nat) (ag : Bool) where
 enc : α → List V
 val : α → V
 len : ∀ x, (enc x).length = esz
 pos : 1 ≤ esz
 one : ∀ x, (enc x).all oneV = true
 ld : ∀ x, valOf ag (enc x) = some (val x)
 st : ∀ x, cellsV (val x) = some (enc x)
section
variable {α : Type} {esz : Nat} {ag : Bool}
def rowA (R : Rw α esz ag) (d : Array α) : List (List V) := d.toList.map R.enc
@[simp] theorem rowA_len (R : Rw α esz ag) (d : Array α) : (rowA R d).length = d.size := by simp [rowA]
theorem Rw.rd [Inhabited α] (R : Rw α esz ag) (d : Array α) {i : Nat} (h : i < d.size) : readR esz (rowA R d) i 0 esz = some (R.enc d[i]!) := by
 have hp := R.pos
 have h1 : Nat.ble (0 % esz + esz) esz = true := by rw [Nat.zero_mod, ble_dec]; simp
 unfold readR
 rw [h1]
 have h2 : nth (rowA R d) i = some (R.enc d[i]!) := by
  rw [nth_get, rowA, List.getElem?_map, getElem!_pos d i h]
  simp [h]
 simp only [Nat.zero_mod, Nat.zero_div, Nat.add_zero, h2, Option.bind_some, List.drop_zero]
 rw [takeN_gd, List.take_of_length_le (by rw [R.len]; omega), R.len]
 simp
theorem Rw.wr [Inhabited α] (R : Rw α esz ag) (d : Array α) {i : Nat} (x : α) (h : i < d.size) : writeR esz (rowA R d) i 0 (R.enc x) = some (rowA R (d.setIfInBounds i x)) := by
 have hp := R.pos
 have hl := R.len x
 have h1 : Nat.ble (0 % esz + (R.enc x).length) esz = true := by rw [Nat.zero_mod, ble_dec, hl]; simp
 unfold writeR
 rw [h1]
 have h2 : nth (rowA R d) i = some (R.enc d[i]!) := by
  rw [nth_get, rowA, List.getElem?_map, getElem!_pos d i h]
  simp [h]
 simp only [Nat.zero_mod, Nat.zero_div, Nat.add_zero, h2, Option.bind_some]
 have h3 : putAt (R.enc d[i]!) 0 (R.enc x) = some (R.enc x) := by
  rw [putAt_eq, hl, R.len]
  simp [List.drop_of_length_le, R.len, hl]
 rw [h3, Option.bind_some, setEl_put _ _ _ (by simpa [rowA] using h)]
 congr 1
 unfold rowA
 simp [List.map_set]
theorem Rw.all1 (R : Rw α esz ag) (x : α) : ((R.enc x).all oneV) = true := R.one x
end
theorem siftDown_size {α : Type} [Inhabited α] (lt : α → α → Bool) (hi first root : Nat) (d : Array α) : (siftDown lt hi first root d).size = d.size := by
 fun_induction siftDown lt hi first root d <;> simp_all [swp]
theorem heapBuild_size {α : Type} [Inhabited α] (lt : α → α → Bool) (hi first : Nat) : ∀ (k : Nat) (d : Array α), (heapBuild lt hi first k d).size = d.size
 | 0, _ => rfl
 | k + 1, d => by rw [heapBuild, heapBuild_size lt hi first k, siftDown_size]
theorem swp_size' {α : Type} [Inhabited α] (d : Array α) (i j : Nat) : (swp d i j).size = d.size := by simp [swp]
theorem swp_size {α : Type} [Inhabited α] (d : Array α) (i j : Nat) : (swp d i j).size = d.size := by simp [swp]
end Go.Mx
