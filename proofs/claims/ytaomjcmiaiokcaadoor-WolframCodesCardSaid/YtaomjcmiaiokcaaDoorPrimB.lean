/- Primitives of the machine for library functions of immutable values, and their contracts: the library's own body, walked over any program that bears it. -/
import Derived.Test.YtaomjcmiaiokcaaDoorSndT
import Derived.Lib.Bytealg
set_option linter.unusedVariables false
namespace Go.Mx
variable {P : Program}

/-- A function of immutable values that leaves the memory alone. -/
def puX (g : List I → Option I) (_ : Call) (vs : List V) (H : Hp) : Option (V × Hp) := (allM vs).bind fun is => (g is).bind fun i => some (.m i, H)

theorem all2_imm {w : World} {S : Nat → Prop} {ρ β : Nat → Nat} {H : Hp} : ∀ {vs : List V} {is : List I} {l : List Value}, allM vs = some is → All2 (RepX w S ρ β H) vs l → All2 (RepI w S) is l
  | [], is, l, h, hv => by
    simp only [allM, Option.some.injEq] at h
    subst h
    cases hv
    exact .nil
  | .m x :: r, is, l, h, hv => by
    simp only [allM, Option.bind_eq_some_iff, Option.some.injEq] at h
    obtain ⟨l1, hl, rfl⟩ := h
    cases hv with
    | cons h1 h2 => exact .cons (RepV.imm (RepX.toV rfl h1)) (all2_imm hl h2)
  | .un :: _, is, l, h, _ => by simp [allM] at h
  | .ls _ :: _, is, l, h, _ => by simp [allM] at h
  | .sl .. :: _, is, l, h, _ => by simp [allM] at h
  | .pt .. :: _, is, l, h, _ => by simp [allM] at h
  | .fa .. :: _, is, l, h, _ => by simp [allM] at h
  | .mp _ :: _, is, l, h, _ => by simp [allM] at h
  | .fn .. :: _, is, l, h, _ => by simp [allM] at h
  | .ag _ :: _, is, l, h, _ => by simp [allM] at h
  | .tu _ :: _, is, l, h, _ => by simp [allM] at h

/-- What the library's own body does at values that do not change. -/
def PuOk (P : Program) (f : Nat) (g : List I → Option I) : Prop := ∀ (is : List I) (i : I), g is = some i → ∀ (w : World) (S : Nat → Prop) (args : Array Value), All2 (RepI w S) is args.toList → Calls P f args w fun e w' => (∃ c, e = .returned c ∧ RepI w S i c) ∧ w' = w

theorem pu_ok {f : Nat} {g : List I → Option I} (hg : PuOk P f g) {sh : Nat → Bool} {gl : Nat → Option (List I)} (hen : Enters P f) (hsh : sh f = true) : PrimOk P gl sh f (puX g) where
  shared := hsh
  enters := hen
  ok := by
    intro call vs H v H' _ he w S ρ β B args hok hG hv
    simp only [puX, Option.bind_eq_some_iff, Option.some.injEq, Prod.mk.injEq] at he
    obtain ⟨is, his, i, hi, rfl, rfl⟩ := he
    refine (hg is i hi w S args (all2_imm his hv)).mono fun e w' h => ?_
    obtain ⟨⟨c, rfl, hc⟩, rfl⟩ := h
    exact ⟨c, S, ρ, rfl, hok, Stp.refl _ _ _ _ _, .m hc⟩

/-- The first place of a byte. -/
def ixB : List Nat → Nat → Nat → Int
  | [], _, _ => -1
  | x :: r, c, k => match Nat.beq x c with
    | true => Int.ofNat k
    | false => ixB r c (k + 1)

def ibG : List I → Option I
  | [.s l, .i .u8 (.ofNat c)] => gd (Nat.blt c 256) (some (.i .i64 (ixB l c 0)))
  | _ => none

theorem ixB_eq (c : Nat) (hc : c < 256) : ∀ (l : List UInt8) (k : Nat), ixB (l.map UInt8.toNat) c k = (if Lib.indexByte l c.toUInt8 = -1 then -1 else Lib.indexByte l c.toUInt8 + k)
  | [], k => rfl
  | b :: l, k => by
    have ih := ixB_eq c hc l (k + 1)
    have hge := Lib.indexByte_ge l c.toUInt8
    have hb : (b == c.toUInt8) = Nat.beq b.toNat c := by
      rw [Bool.eq_iff_iff]
      simp only [beq_iff_eq, Nat.beq_eq]
      constructor
      · intro h
        subst h
        simp only [Nat.toUInt8, UInt8.toNat_ofNat', Nat.reducePow]
        omega
      · intro h
        subst h
        apply UInt8.toNat.inj
        simp
    simp only [List.map_cons, ixB, Lib.indexByte, hb]
    cases Nat.beq b.toNat c with
    | true => simp
    | false =>
      simp only [ih, Bool.false_eq_true, if_false, beq_iff_eq]
      by_cases h : Lib.indexByte l c.toUInt8 = -1
      · simp [h]
      · simp only [h, if_false]
        have : ¬ Lib.indexByte l c.toUInt8 + 1 = -1 := by omega
        rw [if_neg this]
        omega

/-- What the walk over the library's own body shows. -/
def IbWalk (P : Program) (f : Nat) : Prop := ∀ (s : ByteArray) (c : Int) (w : World), Calls P f #[.string s, .int .u8 c] w fun e w' => e = .returned (.int .i64 (Lib.indexByte s.data.toList c.toNat.toUInt8)) ∧ w' = w

theorem ib_pu {f : Nat} (h : IbWalk P f) : PuOk P f ibG := fun is i hg w S args hv => by
  unfold ibG at hg
  split at hg
  · rename_i l c
    simp only [gd_some, Nat.blt_eq, Option.some.injEq] at hg
    obtain ⟨hc, rfl⟩ := hg
    obtain ⟨a1, hv1⟩ : ∃ a b, args.toList = [a, b] ∧ RepI w S (.s l) a ∧ RepI w S (.i .u8 (.ofNat c)) b := by
      generalize args.toList = m at hv
      cases hv with
      | cons h1 t =>
        cases t with
        | cons h2 t =>
          cases t
          exact ⟨_, _, rfl, h1, h2⟩
    obtain ⟨b1, ha, h1, h2⟩ := hv1
    cases h1 with
    | s x _ hx =>
      cases h2
      have ha : args = #[.string x, .int .u8 (Int.ofNat c)] := by
        apply Array.ext'
        rw [ha]
      subst ha
      refine (h x (Int.ofNat c) w).mono fun e w' he => ?_
      obtain ⟨rfl, rfl⟩ := he
      refine ⟨⟨_, rfl, ?_⟩, rfl⟩
      have e1 := ixB_eq c hc x.data.toList 0
      rw [hx] at e1
      have e2 : (if Lib.indexByte x.data.toList c.toUInt8 = -1 then -1 else Lib.indexByte x.data.toList c.toUInt8 + ((0 : Nat) : Int)) = Lib.indexByte x.data.toList c.toUInt8 := by
        split <;> omega
      rw [e2] at e1
      rw [e1]
      exact .i _ _
  · cases hg
end Go.Mx
