/- The machine's tests and numbers against the model's: comparisons, wraps, bits, strings. -/
import Derived.Test.YtaomjcmiaiokcaaDoorRep
import Derived.Laws.StructEq
import Derived.Laws.Unary
namespace Go.Mx

theorem inR_iff (lo hi : Nat) (n : Int) : inR lo hi n = true ↔ -(lo : Int) ≤ n ∧ n ≤ hi := by
  cases n with
  | ofNat m => simp only [inR, Nat.ble_eq, Int.ofNat_eq_natCast]; omega
  | negSucc m => simp only [inR, Nat.blt_eq]; omega

theorem wrap_in (k : IntKind) (n : Int) (h : okK k n = true) : k.wrap n = n := by
  cases k <;> simp only [okK, inR_iff] at h <;> simp [IntKind.wrap, IntKind.bits, IntKind.signed] <;> omega

theorem wr_eq (k : IntKind) (n : Int) : wr k n = k.wrap n := by
  unfold wr
  cases h : okK k n with
  | true => exact (wrap_in k n h).symm
  | false => rfl

theorem ltI_eq (a b : Int) : ltI a b = decide (a < b) := by
  rw [Bool.eq_iff_iff]
  cases a <;> cases b <;> simp [ltI, Nat.blt_eq] <;> omega

theorem eqI_eq (a b : Int) : eqI a b = (a == b) := by
  rw [Bool.eq_iff_iff]
  cases a <;> cases b <;> simp [eqI, Nat.beq_eq] <;> omega

theorem leI_eq (a b : Int) : leI a b = decide (a ≤ b) := by
  rw [leI, ltI_eq, Bool.eq_iff_iff]
  simp

theorem eqK_eq (a b : IntKind) : eqK a b = true ↔ a = b := by cases a <;> cases b <;> simp [eqK]

theorem bitsK_eq (k : IntKind) : bitsK k = k.bits := by cases k <;> rfl

theorem modK_eq (k : IntKind) : modK k = 2 ^ k.bits := by cases k <;> rfl

theorem patK_eq (k : IntKind) (n : Int) : patK k n = (BitVec.ofInt k.bits n).toNat := by
  rw [BitVec.toNat_ofInt]
  have hm : (modK k : Int) = ((2 ^ k.bits : Nat) : Int) := by rw [modK_eq]
  have hp : 0 < modK k := by cases k <;> decide
  rw [← hm]
  cases n with
  | ofNat m =>
    simp only [patK]
    show _ = ((m : Int) % (modK k : Int)).toNat
    rw [← Int.natCast_emod, Int.toNat_natCast]
  | negSucc m =>
    simp only [patK]
    have h1 : Int.negSucc m % (modK k : Int) = (modK k : Int) - 1 - ((m % modK k : Nat) : Int) := by
      rw [Int.negSucc_emod m (by omega)]
      push_cast
      omega
    rw [h1]
    have h2 : m % modK k < modK k := Nat.mod_lt _ hp
    omega

theorem eqL_eq (a b : List Nat) : eqL a b = decide (a = b) := by
  induction a generalizing b with
  | nil => cases b <;> simp [eqL]
  | cons x a ih =>
    cases b with
    | nil => simp [eqL]
    | cons y b =>
      simp only [eqL, ih]
      rw [Bool.eq_iff_iff]
      simp [Nat.beq_eq]

theorem toNat_map_inj {a b : List UInt8} : a.map UInt8.toNat = b.map UInt8.toNat ↔ a = b := by
  constructor
  · intro h
    exact (List.map_inj_right (fun _ _ h => UInt8.toNat_inj.1 h)).1 h
  · rintro rfl; rfl

theorem ltL_eq (a b : List UInt8) : ltL (a.map UInt8.toNat) (b.map UInt8.toNat) = Op.bytesLess a b := by
  induction a generalizing b with
  | nil => cases b <;> simp [ltL, Op.bytesLess]
  | cons x a ih =>
    cases b with
    | nil => simp [ltL, Op.bytesLess]
    | cons y b =>
      simp only [List.map_cons, ltL, Op.bytesLess, ih]
      have h1 : Nat.blt x.toNat y.toNat = decide (x < y) := by
        rw [Bool.eq_iff_iff]; simp [Nat.blt_eq, UInt8.lt_iff_toNat_lt]
      have h2 : Nat.beq x.toNat y.toNat = (x == y) := by
        rw [Bool.eq_iff_iff]; simp [Nat.beq_eq, UInt8.toNat_inj]
      rw [h1, h2]

theorem run_bin_int {P : Program} (w : World) (t : TypeId) (k : IntKind) (x y : Int) (op : BinOp) (v : V) (hs : op ≠ .shl) (hs' : op ≠ .shr) (h : arX op k x y = some v) :
    ∃ c, (binOp op t (.int k x) (.int k y)).run P w = .ok c w ∧ ∃ i, v = .m i ∧ RepI w (fun _ => False) i c := by
  cases op <;> simp only [arX, vi, vb, gd_some, Option.some.injEq, reduceCtorEq] at h <;> first | contradiction | skip
  case add => exact ⟨.int k (k.wrap (x + y)), by simp [binOp, Op.intArith], _, h.symm, by rw [wr_eq]; exact .i _ _⟩
  case sub => exact ⟨.int k (k.wrap (x - y)), by simp [binOp, Op.intArith], _, h.symm, by rw [wr_eq]; exact .i _ _⟩
  case mul => exact ⟨.int k (k.wrap (x * y)), by simp [binOp, Op.intArith], _, h.symm, by rw [wr_eq]; exact .i _ _⟩
  case quo =>
    have hy : y ≠ 0 := by have := h.1; rw [eqI_eq] at this; simpa using this
    exact ⟨.int k (k.wrap (x.tdiv y)), by simp [binOp, Op.intDiv, hy], _, h.2.symm, by rw [wr_eq]; exact .i _ _⟩
  case rem =>
    have hy : y ≠ 0 := by have := h.1; rw [eqI_eq] at this; simpa using this
    exact ⟨.int k (x.tmod y), by simp [binOp, Op.intDiv, hy], _, h.2.symm, .i _ _⟩
  case eql => exact ⟨.bool (x == y), by simp [binOp, Op.intCmp], _, h.symm, by rw [eqI_eq]; exact .b _⟩
  case neq => exact ⟨.bool (x != y), by simp [binOp, Op.intCmp], _, h.symm, by rw [eqI_eq]; exact .b _⟩
  case lss => exact ⟨.bool (x < y), by simp [binOp, Op.intCmp], _, h.symm, by rw [ltI_eq]; exact .b _⟩
  case leq => exact ⟨.bool (x ≤ y), by simp [binOp, Op.intCmp], _, h.symm, by rw [leI_eq]; exact .b _⟩
  case gtr => exact ⟨.bool (x > y), by simp [binOp, Op.intCmp], _, h.symm, by rw [ltI_eq]; exact .b _⟩
  case geq => exact ⟨.bool (x ≥ y), by simp [binOp, Op.intCmp], _, h.symm, by rw [leI_eq]; exact .b _⟩
  case and => exact ⟨_, by simp only [binOp, ne_eq, not_true_eq_false, if_false]; rfl, _, h.symm, by rw [wr_eq, patK_eq, patK_eq]; exact .i _ _⟩
  case or => exact ⟨_, by simp only [binOp, ne_eq, not_true_eq_false, if_false]; rfl, _, h.symm, by rw [wr_eq, patK_eq, patK_eq]; exact .i _ _⟩
  case xor => exact ⟨_, by simp only [binOp, ne_eq, not_true_eq_false, if_false]; rfl, _, h.symm, by rw [wr_eq, patK_eq, patK_eq]; exact .i _ _⟩

theorem pow2_cast (n : Nat) : Int.ofNat (Nat.pow 2 n) = (2 : Int) ^ n := by
  show ((2 ^ n : Nat) : Int) = _
  push_cast
  rfl

theorem run_bin_shift {P : Program} (w : World) (t : TypeId) (k k' : IntKind) (x : Int) (y : Nat) (op : BinOp) (v : V) (hop : op = .shl ∨ op = .shr) (h : shX op k x y = some v) :
    ∃ c, (binOp op t (.int k x) (.int k' y)).run P w = .ok c w ∧ ∃ i, v = .m i ∧ RepI w (fun _ => False) i c := by
  have h0 : ¬ (y : Int) < 0 := by omega
  rcases hop with rfl | rfl
  · simp only [shX, vi, Option.some.injEq] at h
    refine ⟨.int k (k.wrap (x * 2 ^ min y k.bits)), by simp [binOp, Op.shift, h0], _, h.symm, ?_⟩
    rw [wr_eq, bitsK_eq, pow2_cast]; exact .i _ _
  · simp only [shX, vi, Option.some.injEq] at h
    refine ⟨.int k (x.fdiv (2 ^ min y k.bits)), by simp [binOp, Op.shift, h0], _, h.symm, ?_⟩
    rw [bitsK_eq, pow2_cast]; exact .i _ _

theorem data_append (a b : ByteArray) : (a ++ b).data = a.data ++ b.data := by simp

theorem run_bin_str {P : Program} (w : World) (t : TypeId) (x y : ByteArray) (op : BinOp) (v : V) (h : stX op (x.data.toList.map UInt8.toNat) (y.data.toList.map UInt8.toNat) = some v) :
    ∃ c, (binOp op t (.string x) (.string y)).run P w = .ok c w ∧ ∃ i, v = .m i ∧ RepI w (fun _ => False) i c := by
  have ht : ∀ z : ByteArray, z.toList = z.data.toList := ByteArray.toList_eq
  have he : (x.toList == y.toList) = decide (x.data.toList = y.data.toList) := by rw [ht, ht, Bool.eq_iff_iff]; simp
  cases op <;> simp only [stX, vb, gd_some, Option.some.injEq, reduceCtorEq] at h <;> first | contradiction | skip
  case add =>
    have hl : ¬ ((x.size + y.size : Nat) : Int) > IntKind.i64.max := by
      have := h.1
      simp only [Nat.ble_eq, List.length_map, Array.length_toList] at this
      have hx : x.size = x.data.size := rfl
      have hy : y.size = y.data.size := rfl
      simp only [IntKind.max_i64]
      omega
    refine ⟨.string (x ++ y), by simp only [binOp, Op.stringOp, if_neg hl]; rfl, _, h.2.symm, ?_⟩
    refine .s _ _ ?_
    rw [data_append]; simp
  case eql => exact ⟨.bool (x.toList == y.toList), by simp [binOp, Op.stringOp], _, h.symm, by rw [eqL_eq, he]; simp only [toNat_map_inj]; exact .b _⟩
  case neq => exact ⟨.bool (!(x.toList == y.toList)), by simp [binOp, Op.stringOp], _, h.symm, by rw [eqL_eq, he]; simp only [toNat_map_inj]; exact .b _⟩
  case lss => exact ⟨.bool (Op.bytesLess x.toList y.toList), by simp [binOp, Op.stringOp], _, h.symm, by rw [ltL_eq, ht, ht]; exact .b _⟩
  case leq => exact ⟨.bool (Op.bytesLess x.toList y.toList || x.toList == y.toList), by simp [binOp, Op.stringOp], _, h.symm, by rw [ltL_eq, eqL_eq, he, ht, ht]; simp only [toNat_map_inj]; exact .b _⟩
  case gtr => exact ⟨.bool (!(Op.bytesLess x.toList y.toList || x.toList == y.toList)), by simp [binOp, Op.stringOp], _, h.symm, by rw [ltL_eq, eqL_eq, he, ht, ht]; simp only [toNat_map_inj]; exact .b _⟩
  case geq => exact ⟨.bool (!Op.bytesLess x.toList y.toList), by simp [binOp, Op.stringOp], _, h.symm, by rw [ltL_eq, ht, ht]; exact .b _⟩

theorem run_un {P : Program} {S : Nat → Prop} (w : World) (op : UnOp) (x : V) (c : Value) (v : V) (i : I) (hx : x = .m i) (hr : RepI w S i c) (h : unX op x = some v) :
    ∃ c', (Op.unary op c).run P w = .ok c' w ∧ ∃ j, v = .m j ∧ RepI w (fun _ => False) j c' := by
  subst hx
  cases hr with
  | b x =>
    cases op <;> simp only [unX, vb, Option.some.injEq, reduceCtorEq] at h
    exact ⟨.bool (!x), by simp [Op.unary], _, h.symm, .b _⟩
  | i k n =>
    cases op <;> simp only [unX, vi, Option.some.injEq, reduceCtorEq] at h
    case neg => exact ⟨.int k (k.wrap (0 - n)), by simp [Op.unary, Op.intArith], _, h.symm, by rw [wr_eq]; exact .i _ _⟩
    case xor =>
      refine ⟨.int k (bits .xor k (if k.signed then -1 else k.max) n), rfl, _, h.symm, ?_⟩
      rw [wr_eq]
      have : bits .xor k (if k.signed then -1 else k.max) n = k.wrap (Int.ofNat (modK k - 1 - patK k n)) := by
        have hall : BitVec.ofInt k.bits (if k.signed then -1 else k.max) = BitVec.allOnes k.bits := by cases k <;> decide
        show k.wrap ((BitVec.ofInt k.bits (if k.signed then -1 else k.max) ^^^ BitVec.ofInt k.bits n).toNat : Int) = _
        rw [hall, BitVec.allOnes_xor, BitVec.toNat_not, patK_eq, modK_eq]
        rfl
      rw [this]
      exact .i _ _
  | _ => cases op <;> simp [unX] at h
end Go.Mx
