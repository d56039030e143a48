/- The primitive of the machine for slices.Sort at ints. -/
import Derived.Test.YtcdcepfigjohfaaGreatDoorPr
import Derived.Shelf.Sort.Plain
import Derived.Shelf.Slices.In.SortNone
set_option linter.unusedSimpArgs false
set_option linter.unusedVariables false
set_option linter.unusedSectionVars false
set_option maxRecDepth 100000
/- slices.Sort at ints. -/
namespace Go.Mx
open Go.Proofs Go.RowKit Go.Sort
variable {P : Program}
def insI (x : Int) : List Int → List Int
 | [] => [x]
 | y :: r => match ltI y x with
  | true => y :: insI x r
  | false => x :: y :: r
def srtI : List Int → List Int
 | [] => []
 | x :: r => insI x (srtI r)
theorem insI_perm (x : Int) : ∀ l : List Int, (insI x l).Perm (x :: l)
 | [] => .refl _
 | y :: r => by
  unfold insI
  split
  ·exact ((insI_perm x r).cons y).trans (List.Perm.swap x y r)
  ·exact .refl _
theorem srtI_perm : ∀ l : List Int, (srtI l).Perm l
 | [] => .refl _
 | x :: r => (insI_perm x _).trans ((srtI_perm r).cons x)
theorem insI_pw (x : Int) : ∀ l : List Int, l.Pairwise (· ≤ ·) → (insI x l).Pairwise (· ≤ ·)
 | [], _ => List.pairwise_singleton _ _
 | y :: r, h => by
  unfold insI
  split
  ·rename_i e
   rw [ltI_eq] at e
   have e := of_decide_eq_true e
   obtain ⟨h1, h2⟩ := List.pairwise_cons.1 h
   refine List.pairwise_cons.2 ⟨fun z hz => ?_, insI_pw x r h2⟩
   rcases List.mem_cons.1 ((insI_perm x r).mem_iff.1 hz) with rfl | hz
   ·omega
   ·exact h1 z hz
  ·rename_i e
   rw [ltI_eq] at e
   have e := of_decide_eq_false e
   obtain ⟨h1, h2⟩ := List.pairwise_cons.1 h
   refine List.pairwise_cons.2 ⟨fun z hz => ?_, h⟩
   rcases List.mem_cons.1 hz with rfl | hz
   ·omega
   ·have := h1 z hz
    omega
theorem srtI_pw : ∀ l : List Int, (srtI l).Pairwise (· ≤ ·)
 | [] => .nil
 | x :: r => insI_pw x _ (srtI_pw r)
theorem srtI_merge (l : List Int) : l.mergeSort (fun x y => decide (x ≤ y)) = srtI l := by
 refine List.Perm.eq_of_pairwise (le := (· ≤ ·)) (fun a b _ _ h1 h2 => by omega) ?_ (srtI_pw l) ((List.mergeSort_perm l _).trans (srtI_perm l).symm)
 have := List.pairwise_mergeSort (le := fun x y : Int => decide (x ≤ y)) (fun a b c h1 h2 => by simp at *; omega) (fun a b => by simp; omega) l
 exact this.imp fun h => by simpa using h

def ints? : List (List V) → Option (List Int)
 | [] => some []
 | e :: r => match e with
  | [.m (.i .i64 x)] => (ints? r).bind fun l => some (x :: l)
  | _ => none
theorem ints_get : ∀ {es : List (List V)} {l : List Int}, ints? es = some l → es = rowsI l
 | [], l, h => by
  simp only [ints?, Option.some.injEq] at h
  subst h
  rfl
 | e :: r, l, h => by
  unfold ints? at h
  split at h
  ·simp only [Option.bind_eq_some_iff, Option.some.injEq] at h
   obtain ⟨m, hm, rfl⟩ := h
   rw [ints_get hm]
   rfl
  ·cases h
def sriX (_ : Call) (vs : List V) (H : Hp) : Option (V × Hp) := match vs with
 | [s] => match s with
  | .m (.nl 4) => some (.tu [], H)
  | .m (.sl []) => some (.tu [], H)
  | .ls [] => some (.tu [], H)
  | .sl r ver esz st len _ => (nth H r).bind fun row => match row with
   | .cs ty esz' es base fz => gd (!fz && Nat.beq ver es.length && Nat.beq esz esz' && Nat.beq esz 1 && Nat.ble len 4611686018427387903 && Nat.ble (st + len) es.length)
    ((ints? ((es.drop st).take len)).bind fun xs => match xs with
     | [] => some (.tu [], H)
     | _ :: _ => (setEl H r (.cs ty esz' (cpyEl es st (rowsI (srtI xs))) es.length false)).bind fun H' => some (.tu [], H'))
   | _ => none
  | _ => none
 | _ => none
def SriWalk (P : Program) (f : Nat) : Prop := ∀ (blk off cap : Nat) (zs : List Int) (w : World), Holds (Value.int .i64) w blk off zs.toArray → blk < w.heap.size → zs.length < 4611686018427387904 →
 Calls P f #[.slice (some ⟨blk, off, none⟩) zs.length cap] w fun e w' => e = .returned (.tuple #[]) ∧ ∃ n os, w' = grow (putRow (Value.int .i64) (Sort.ahead w n) blk off (zs.mergeSort fun x y => decide (x ≤ y)).toArray) os
theorem sri_walk {ρ : Go.Shelf.Ren} (L : Lays.n189 P ρ) : SriWalk P (ρ.f 189) := fun blk off cap zs w hH hblk hsz => Any.slices_Sort_int L blk off cap zs w hH hblk hsz
theorem rowsI_rep {w : World} {S : Nat → Prop} {ρ : Nat → Nat} {H : Hp} : ∀ l : List Int, RepL w S ρ H (rowsI l).flatten (l.map (Value.int .i64))
 | [] => .nil
 | x :: l => .cons (.m (.i _ _)) (rowsI_rep l)
theorem rep_ints {w : World} {S : Nat → Prop} {ρ : Nat → Nat} {H : Hp} : ∀ (l : List Int) {cs : List Value}, RepL w S ρ H (rowsI l).flatten cs → cs = l.map (Value.int .i64)
 | [], cs, h => h.inv_nil
 | x :: l, cs, h => by
  obtain ⟨c, r, rfl, h1, h2⟩ := RepL.inv_cons (x := V.m (.i .i64 x)) (xs := (rowsI l).flatten) h
  rw [rep_ints l h2]
  cases h1.imm with
  | i => rfl

set_option maxHeartbeats 1000000 in
theorem sri_prim {f : Nat} (hw : SriWalk P f) (hno : ∀ (p : Option Addr) (cap : Nat) (w : World), Calls P f #[.slice p 0 cap] w fun e w' => e = .returned (.tuple #[]) ∧ w' = w) {sh : Nat → Bool} {gl : Nat → Option (List I)} (hen : Enters P f) (hsh : sh f = true) : PrimOk P gl sh f sriX where
 shared := hsh
 enters := hen
 ok := by
  intro call vs H v H' hcall he w S ρ β B args hok hG hv
  match vs, he with
  | [s], he =>
   obtain ⟨cs, hargs, h1⟩ : ∃ c, args.toList = [c] ∧ RepX w S ρ β H s c := by
    generalize args.toList = m at hv
    cases hv with
    | cons h1 t =>
     cases t
     exact ⟨_, rfl, h1⟩
   have ha : args = #[cs] := by
    apply Array.ext'
    rw [hargs]
   subst ha
   simp only [sriX] at he
   have done : ∀ (p : Option Addr) (cap : Nat), (v = .tu [] ∧ H' = H) → Calls P f #[.slice p 0 cap] w (RetOk w S ρ β ⟨B, H⟩ v H') := fun p cap e => by
    obtain ⟨rfl, rfl⟩ := e
    refine (hno p cap w).mono fun e w' hh => ?_
    obtain ⟨rfl, rfl⟩ := hh
    exact ⟨_, S, ρ, rfl, hok, Stp.refl _ _ _ _ _, RepL.toTu (cs := #[]) .nil⟩
   split at he
   ·simp only [Option.some.injEq, Prod.mk.injEq] at he
    cases (RepV.imm (RepX.toV rfl h1)) with
    | nls => exact done _ _ ⟨he.1.symm, he.2.symm⟩
   ·simp only [Option.some.injEq, Prod.mk.injEq] at he
    cases (RepV.imm (RepX.toV rfl h1)) with
    | sl => exact done _ _ ⟨he.1.symm, he.2.symm⟩
   ·simp only [Option.some.injEq, Prod.mk.injEq] at he
    cases (RepX.toV rfl h1) with
    | ls => exact done _ _ ⟨he.1.symm, he.2.symm⟩
   ·rename_i r ver esz st len lim
    cases (RepX.toV rfl h1) with
    | sl _ _ _ _ _ _ ty es base fz a cap hrow g1 g2 g3 g4 g5 gn gb ga =>
    simp only [Option.bind_eq_some_iff] at he
    obtain ⟨row, hr1, he⟩ := he
    rw [nth_eq, hrow] at hr1
    cases hr1
    simp only [gd_some, Bool.and_eq_true, Bool.not_eq_true', Nat.beq_eq, Nat.ble_eq, Option.bind_eq_some_iff] at he
    obtain ⟨⟨⟨⟨⟨⟨rfl, rfl⟩, _⟩, rfl⟩, hsz⟩, hst⟩, xs, hxs, he⟩ := he
    have hes := ints_get hxs
    have hxl : xs.length = len := by
     have := congrArg List.length hes
     simp only [rowsI, List.length_map, List.length_take, List.length_drop] at this
     omega
    obtain ⟨hb0, hpos, hU, _, hnS, cur, cap', mk, hheap, hwin, hcs, hle, hcm, hrep⟩ := hok.rows r _ hrow
    have hwin := hwin rfl
    split at he
    ·simp only [Option.some.injEq, Prod.mk.injEq] at he
     have h0 : len = 0 := by rw [← hxl]; rfl
     subst h0
     exact done _ _ ⟨he.1.symm, he.2.symm⟩
    ·rename_i x0 t0
     generalize hxx : x0 :: t0 = xs at *
     have hlen : 0 < len := by rw [← hxl, ← hxx]; simp
     subst hxl
     simp only [Option.bind_eq_some_iff, Option.some.injEq, Prod.mk.injEq] at he
     obtain ⟨H2, hH2, rfl, rfl⟩ := he
     obtain ⟨hrl, rfl⟩ := setEl_set hH2
     obtain ⟨bb, rfl, hAt⟩ := gb hb0 hlen
     have hbb : bb = ρ r := by
      rcases hAt with e | ⟨_, e, _⟩
      ·exact e
      ·exact absurd rfl e
     subst hbb
     have hcc : es.length * 1 ≤ cur.size := by rw [hcs]; exact Nat.mul_le_mul_right _ hle
     have hr0 : RepL w S ρ H (rowsI xs).flatten ((cur.toList.drop st).take xs.length) := by
      have h := (hrep.drop (st * 1)).take (xs.length * 1)
      rw [← flat_drop hU, ← flat_take (fun e he => hU e (List.mem_of_mem_drop he)), hes] at h
      rw [List.drop_take, List.take_take, Nat.min_eq_left (by omega)] at h
      simpa using h
     have hv0 := rep_ints _ hr0
     have hyl : (srtI xs).length = xs.length := (srtI_perm xs).length_eq
     refine (hw (ρ r) (st * 1) cap xs w (fun j hj => ?_) (hok.rlt hrl) (by omega)).mono fun e w' hh => ?_
     ·have hj' : j < xs.length := by simpa using hj
      have hv : ((cur.toList.drop st).take xs.length)[j]? = some (.int .i64 xs[j]) := by rw [hv0]; simp [hj']
      rw [List.getElem?_take, if_pos hj', List.getElem?_drop, Array.getElem?_toList] at hv
      have hlt2 : st * 1 + j < cur.size := by
       have := (Array.getElem?_eq_some_iff.1 hv).1
       omega
      refine ⟨?_, win_frozen hheap hwin hlt2⟩
      rw [getElem!_pos _ j hj]
      simp only [World.cell?, hheap, Nat.mul_one]
      simpa using hv
     ·obtain ⟨rfl, m, os, rfl⟩ := hh
      rw [srtI_merge, putRow_map]
      refine laid hok hrow (by rw [rowsI_len, hyl]; exact hst) (fun e he => by
       simp only [rowsI, List.mem_map] at he
       obtain ⟨x, _, rfl⟩ := he
       rfl) ?_ m os
      simpa using rowsI_rep (srtI xs)
   ·cases he
theorem sortI_gives {G : Cfg} {F : Nat} (hp : G.prim F = some sriX) {H : Hp} {r ty st len base : Nat} {lim : Bool} {es : List (List V)} (hrow : nth H r = some (.cs ty 1 es base false)) (hst : st + len ≤ es.length) (hle : es.length ≤ 4611686018427387903) {xs : List Int} (hxs : (es.drop st).take len = rowsI xs) :
  Gives G F [.sl r es.length 1 st len lim] H (.tu []) (srtH H r ty 1 es st (rowsI (srtI xs))) := by
 have hr : r < H.length := by
  rw [nth_get] at hrow
  exact (List.getElem?_eq_some_iff.1 hrow).1
 refine prim_gives (n := 0) (r := (.tu [], _)) hp ?_
 unfold sriX
 have e1 : (!false && Nat.beq es.length es.length && Nat.beq 1 1 && Nat.beq 1 1 && Nat.ble len 4611686018427387903 && Nat.ble (st + len) es.length) = true := by
  simp only [Nat.beq_refl, Bool.not_false, Bool.and_true, Bool.true_and, Bool.and_eq_true, Nat.ble_eq]
  omega
 have ei : ∀ l : List Int, ints? (rowsI l) = some l := fun l => by
  induction l with
  | nil => rfl
  | cons x l ih =>
   show (ints? (rowsI l)).bind _ = _
   rw [ih]
   rfl
 simp only [Option.bind_some, hrow, e1, gd, hxs, ei]
 cases xs with
 | nil => rfl
 | cons x t =>
  have hsp := srtI_perm (x :: t)
  simp only
  rw [setEl_put _ _ _ hr, Option.bind_some]
  generalize hys : srtI (x :: t) = ys at *
  cases ys with
  | nil =>
   have := hsp.length_eq
   simp at this
  | cons y s => rfl
theorem sortI_nil {G : Cfg} {F : Nat} (hp : G.prim F = some sriX) {o : V} (ho : o = .m (.nl 4) ∨ o = .ls []) (H : Hp) : Gives G F [o] H (.tu []) H :=
 prim_gives (n := 0) (r := (.tu [], H)) hp (by
  unfold sriX
  rcases ho with rfl | rfl <;> rfl)
end Go.Mx
