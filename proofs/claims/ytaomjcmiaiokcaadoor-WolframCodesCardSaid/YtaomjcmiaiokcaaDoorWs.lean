/- Walking the machine: rules for simp. Nothing here speaks of a program. -/
import Derived.Test.YtaomjcmiaiokcaaDoorWk
import Derived.Test.YtaomjcmiaiokcaaDoorArith
namespace Go.Mx

attribute [simp] optP_some optP_gd optP_bind at_seq_nm at_seq_ex at_seq_ret at_blk_nm at_blk_ret at_blk_ex at_st at_fin_nm at_fin_ret at_pur_nm at_pur_ret run_skip' run_ex' run_ret' run_blk' run_reg' run_ite' test_true test_false rest_nil rest_none rest_gd gcall_true gcall_false
@[simp] theorem pickS_t (a b : Option St) : pickS (some true) a b = a := rfl
@[simp] theorem pickS_f (a b : Option St) : pickS (some false) a b = b := rfl
@[simp] theorem stepP_eq (s : St) (o : OP) (as : List Opnd) (d : Dst) : stepP s o as d = (optMap (evA s) as).bind fun vs => (pureX o vs).bind fun v => setD s d v := rfl
@[simp] theorem stepR_eq (s : St) (o : OR) (as : List Opnd) (d : Dst) : stepR s o as d = (optMap (evA s) as).bind fun vs => (readX s.M o vs).bind fun v => setD s d v := rfl

@[simp] theorem optP_none {α : Type} (p : α → Prop) : OptP none p = False := by simp [OptP]
@[simp] theorem optMap_nil {α β : Type} (f : α → Option β) : optMap f [] = some [] := rfl
@[simp] theorem optMap_cons {α β : Type} (f : α → Option β) (a : α) (r : List α) : optMap f (a :: r) = (f a).bind fun x => (optMap f r).bind fun l => some (x :: l) := rfl
@[simp] theorem getE_nil (n : Nat) : getE [] n = none := rfl
@[simp] theorem getE_cons (k : Nat) (x : V) (r : Env) (n : Nat) : getE ((k, x) :: r) n = if k = n then some x else getE r n := by
  simp only [getE]
  by_cases h : k = n
  · subst h; simp
  · rw [if_neg h]
    have : Nat.beq k n = false := by
      cases hb : Nat.beq k n with
      | false => rfl
      | true => exact absurd (Nat.eq_of_beq_eq_true hb) h
    rw [this]
@[simp] theorem setE_nil (n : Nat) (x : V) : setE [] n x = [(n, x)] := rfl
@[simp] theorem setE_cons (k : Nat) (y : V) (r : Env) (n : Nat) (x : V) : setE ((k, y) :: r) n x = if n < k then (n, x) :: (k, y) :: r else if k = n then (n, x) :: r else (k, y) :: setE r n x := by
  simp only [setE]
  by_cases h : n < k
  · rw [if_pos h]
    have : Nat.blt n k = true := by rw [Nat.blt_eq]; exact h
    rw [this]
  · rw [if_neg h]
    have : Nat.blt n k = false := by
      cases hb : Nat.blt n k with
      | false => rfl
      | true => rw [Nat.blt_eq] at hb; exact absurd hb h
    rw [this]
    by_cases e : k = n
    · subst e; simp
    · rw [if_neg e]
      have : Nat.beq k n = false := by
        cases hb : Nat.beq k n with
        | false => rfl
        | true => exact absurd (Nat.eq_of_beq_eq_true hb) e
      rw [this]
@[simp] theorem rmE_nil (n : Nat) : rmE [] n = [] := rfl
@[simp] theorem rmE_cons (k : Nat) (x : V) (r : Env) (n : Nat) : rmE ((k, x) :: r) n = if k = n then rmE r n else (k, x) :: rmE r n := by
  simp only [rmE]
  by_cases h : k = n
  · subst h; simp
  · rw [if_neg h]
    have : Nat.beq k n = false := by
      cases hb : Nat.beq k n with
      | false => rfl
      | true => exact absurd (Nat.eq_of_beq_eq_true hb) h
    rw [this]
@[simp] theorem dropE_nil (e : Env) : dropE [] e = e := rfl
@[simp] theorem dropE_cons (n : Nat) (r : List Nat) (e : Env) : dropE (n :: r) e = dropE r (rmE e n) := rfl
@[simp] theorem evA_v (s : St) (n : Nat) : evA s (.v n) = getE s.E n := rfl
@[simp] theorem evA_l (s : St) (n : Nat) : evA s (.l n) = getE s.L n := rfl
@[simp] theorem evA_k (s : St) (x : V) : evA s (.k x) = some x := rfl
@[simp] theorem setD_no (s : St) (x : V) : setD s .no x = some s := rfl
@[simp] theorem setD_l (s : St) (n : Nat) (x : V) : setD s (.l n) x = some { s with L := setE s.L n x } := rfl
@[simp] theorem setD_vm (s : St) (n : Nat) (x : I) : setD s (.v n) (.m x) = some { s with E := setE s.E n (.m x) } := rfl
@[simp] theorem setD_vun (s : St) (n : Nat) : setD s (.v n) .un = some { s with E := setE s.E n .un } := rfl
@[simp] theorem setD_vls (s : St) (n : Nat) (x : List (List I)) : setD s (.v n) (.ls x) = some { s with E := setE s.E n (.ls x) } := rfl
@[simp] theorem setD_vsl (s : St) (n a b c d e : Nat) (f : Bool) : setD s (.v n) (.sl a b c d e f) = some { s with E := setE s.E n (.sl a b c d e f) } := rfl
@[simp] theorem setD_vpt (s : St) (n a b c d : Nat) : setD s (.v n) (.pt a b c d) = some { s with E := setE s.E n (.pt a b c d) } := rfl
@[simp] theorem setD_vmp (s : St) (n a : Nat) : setD s (.v n) (.mp a) = some { s with E := setE s.E n (.mp a) } := rfl
@[simp] theorem setD_vtu (s : St) (n : Nat) (a : List V) : setD s (.v n) (.tu a) = some { s with E := setE s.E n (.tu a) } := rfl
@[simp] theorem setD_vag (s : St) (n : Nat) (a : List V) : setD s (.v n) (.ag a) = some { s with E := setE s.E n (.ag a) } := rfl
@[simp] theorem setD_vfn (s : St) (n f : Nat) (a : List V) : setD s (.v n) (.fn f a) = some { s with E := setE s.E n (.fn f a) } := rfl
@[simp] theorem setD_vfa (s : St) (n : Nat) : setD s (.v n) (.fa n 0) = some { s with E := setE s.E n (.fa n 0) } := by simp [setD, okDst, gd]
@[simp] theorem wantsD_none (s : St) : wantsD s none = some true := rfl
@[simp] theorem wantsD_some (s : St) (a : Opnd) (w : Bool) : wantsD s (some (a, w)) = (evA s a).bind fun v => match v with
    | .m (.b x) => some (x == w)
    | .un => some false
    | _ => none := rfl
@[simp] theorem asB_b (x : Bool) : asB (.m (.b x)) = some x := rfl
@[simp] theorem envOf_nil (k : Nat) : envOf k [] = [] := rfl
@[simp] theorem envOf_cons (k : Nat) (x : V) (r : List V) : envOf k (x :: r) = (k, x) :: envOf (k + 1) r := rfl
@[simp] theorem resOf_eq (s : St) (rs : List Res) : resOf s rs = (optMap (resV s) rs).bind fun vs => some (tup vs) := rfl
@[simp] theorem resV_t (s : St) (n : Nat) : resV s (.t n) = (getE s.E n).bind fun v => gd (noFaV v) (some v) := rfl
@[simp] theorem resV_c (s : St) (n sz : Nat) (ag : Bool) : resV s (.c n sz ag) = (getE s.E n).bind fun a => (readA s.M sz a).bind fun cs => valOf ag cs := rfl
@[simp] theorem noFaV_m (x : I) : noFaV (.m x) = true := rfl
@[simp] theorem noFaV_ls (x : List (List I)) : noFaV (.ls x) = true := rfl
@[simp] theorem noFaV_sl (a b c d e : Nat) (f : Bool) : noFaV (.sl a b c d e f) = true := rfl
@[simp] theorem noFaV_mp (a : Nat) : noFaV (.mp a) = true := rfl
@[simp] theorem noFaV_pt (a b c d : Nat) : noFaV (.pt a b c d) = true := rfl
@[simp] theorem noFaV_ag (a : List V) : noFaV (.ag a) = true := rfl
@[simp] theorem noFaV_tu (a : List V) : noFaV (.tu a) = true := rfl
@[simp] theorem noFaV_fn (f : Nat) (a : List V) : noFaV (.fn f a) = true := rfl
@[simp] theorem tup_1 (v : V) : tup [v] = v := rfl
@[simp] theorem tup_0 : tup [] = .tu [] := rfl
@[simp] theorem tup_2 (u v : V) (r : List V) : tup (u :: v :: r) = .tu (u :: v :: r) := rfl
@[simp] theorem viewR_m (H : Hp) (x : I) : viewR H (.m x) = some (.m x) := rfl
@[simp] theorem viewR_tu (H : Hp) (vs : List V) : viewR H (.tu vs) = (optMap (view 20 H) vs).bind fun l => some (.tu (l.map .m)) := rfl
@[simp] theorem viewR_ls (H : Hp) (x : List (List I)) : viewR H (.ls x) = some (.m (.sl x)) := rfl
@[simp] theorem view_m (n : Nat) (H : Hp) (x : I) : view (n + 1) H (.m x) = some x := rfl
@[simp] theorem view_m20 (H : Hp) (x : I) : view 20 H (.m x) = some x := rfl
@[simp] theorem view_ls20 (H : Hp) (x : List (List I)) : view 20 H (.ls x) = some (.sl x) := rfl
@[simp] theorem allM_nil : allM [] = some [] := rfl
@[simp] theorem allM_cons (x : I) (r : List V) : allM (.m x :: r) = (allM r).bind fun l => some (x :: l) := rfl

/- Operations on immutable values. -/
@[simp] theorem px_mv (x : V) : pureX .mv [x] = some x := rfl
@[simp] theorem px_pick (c : Bool) (a b : V) : pureX .pick [.m (.b c), a, b] = some (if c then a else b) := by cases c <;> rfl
@[simp] theorem px_un (o : UnOp) (x : V) : pureX (.un o) [x] = unX o x := rfl
@[simp] theorem px_bin (o : BinOp) (x y : V) : pureX (.bin o) [x, y] = binX o x y := rfl
@[simp] theorem px_eqb (n x y : Bool) : pureX (.eqb n) [.m (.b x), .m (.b y)] = some (.m (.b (xor n (x == y)))) := rfl
@[simp] theorem px_eqs (n : Bool) (ks : List Nat) (xs ys : List I) : pureX (.eqs n ks) [.m (.ag xs), .m (.ag ys)] = (eqCs ks xs ys).bind fun r => some (.m (.b (xor n r))) := rfl
@[simp] theorem px_eqn (n : Bool) (k : Nat) (x : V) : pureX (.eqn n k) [x] = (isNil k x).bind fun r => some (.m (.b (xor n r))) := rfl
@[simp] theorem px_build (z : List V) (p : List (Nat × Nat)) (xs : List V) : pureX (.build z p) xs = (fill z p xs).bind fun cs => some (mkAg cs) := rfl
@[simp] theorem px_cv (k k' : IntKind) (n : Int) : pureX (.cv k) [.m (.i k' n)] = some (.m (.i k (wr k n))) := rfl
@[simp] theorem px_cvs (l : List Nat) : pureX .cvs [.m (.s l)] = some (.m (.s l)) := rfl
@[simp] theorem px_fad_pt (o : Nat) (cs : List I) : pureX (.fad o) [.m (.pt cs)] = some (.m (.pt (cs.drop o))) := rfl
@[simp] theorem px_fad_fa (o d o' : Nat) : pureX (.fad o) [.fa d o'] = some (.fa d (o' + o)) := rfl
@[simp] theorem px_fad_ptr (o r v i o' : Nat) : pureX (.fad o) [.pt r v i o'] = some (.pt r v i (o' + o)) := rfl
@[simp] theorem px_fld (ag : Bool) (sz off : Nat) (x : V) : pureX (.fld ag sz off) [x] = (aggC x).bind fun cs => (takeN sz (cs.drop off)).bind fun l => valOf ag l := rfl
@[simp] theorem px_ext (j : Nat) (vs : List V) : pureX (.ext j) [.tu vs] = nth vs j := rfl
@[simp] theorem px_mkf (f : Nat) (xs : List V) : pureX (.mkf f) xs = gd (xs.all noFaV) (some (.fn f xs)) := rfl
@[simp] theorem px_nck_fa (d o : Nat) : pureX .nck [.fa d o] = some (.fa d o) := rfl
@[simp] theorem px_nck_ptr (r v i o : Nat) : pureX .nck [.pt r v i o] = some (.pt r v i o) := rfl
@[simp] theorem px_nck_pt (cs : List I) : pureX .nck [.m (.pt cs)] = some (.m (.pt cs)) := rfl
@[simp] theorem px_len_nl : pureX (.len false) [.m (.nl 4)] = some (.m (.i .i64 0)) := rfl
@[simp] theorem px_len_sl (es : List (List I)) : pureX (.len false) [.m (.sl es)] = some (.m (.i .i64 es.length)) := rfl
@[simp] theorem px_len_ls (es : List (List I)) : pureX (.len false) [.ls es] = some (.m (.i .i64 es.length)) := rfl
@[simp] theorem px_len_row (r v e st n : Nat) (l : Bool) : pureX (.len false) [.sl r v e st n l] = some (.m (.i .i64 n)) := rfl
@[simp] theorem px_len_s (l : List Nat) : pureX (.len true) [.m (.s l)] = some (.m (.i .i64 l.length)) := rfl
@[simp] theorem eqK_self (k : IntKind) : eqK k k = true := by cases k <;> rfl
@[simp] theorem gd_true {α : Type} (x : Option α) : gd true x = x := rfl
@[simp] theorem gd_false {α : Type} (x : Option α) : gd false x = none := rfl
@[simp] theorem bx_add (k : IntKind) (x y : Int) : binX .add (.m (.i k x)) (.m (.i k y)) = some (.m (.i k (wr k (x + y)))) := by simp [binX, arX, vi]
@[simp] theorem bx_sub (k : IntKind) (x y : Int) : binX .sub (.m (.i k x)) (.m (.i k y)) = some (.m (.i k (wr k (x - y)))) := by simp [binX, arX, vi]
@[simp] theorem bx_mul (k : IntKind) (x y : Int) : binX .mul (.m (.i k x)) (.m (.i k y)) = some (.m (.i k (wr k (x * y)))) := by simp [binX, arX, vi]
theorem not_eqI (y : Int) : (!eqI y 0) = decide (y ≠ 0) := by rw [eqI_eq]; by_cases h : y = 0 <;> simp [h]
@[simp] theorem bx_quo (k : IntKind) (x y : Int) : binX .quo (.m (.i k x)) (.m (.i k y)) = gd (decide (y ≠ 0)) (some (.m (.i k (wr k (x.tdiv y))))) := by simp only [binX, arX, vi, eqK_self, gd_true, not_eqI]
@[simp] theorem bx_rem (k : IntKind) (x y : Int) : binX .rem (.m (.i k x)) (.m (.i k y)) = gd (decide (y ≠ 0)) (some (.m (.i k (x.tmod y)))) := by simp only [binX, arX, vi, eqK_self, gd_true, not_eqI]
@[simp] theorem bx_eql (k : IntKind) (x y : Int) : binX .eql (.m (.i k x)) (.m (.i k y)) = some (.m (.b (decide (x = y)))) := by simp [binX, arX, vb, eqI_eq]; rfl
@[simp] theorem bx_neq (k : IntKind) (x y : Int) : binX .neq (.m (.i k x)) (.m (.i k y)) = some (.m (.b (decide (x ≠ y)))) := by simp [binX, arX, vb, eqI_eq]; rfl
@[simp] theorem bx_lss (k : IntKind) (x y : Int) : binX .lss (.m (.i k x)) (.m (.i k y)) = some (.m (.b (decide (x < y)))) := by simp [binX, arX, vb, ltI_eq]
@[simp] theorem bx_leq (k : IntKind) (x y : Int) : binX .leq (.m (.i k x)) (.m (.i k y)) = some (.m (.b (decide (x ≤ y)))) := by simp [binX, arX, vb, leI_eq]
@[simp] theorem bx_gtr (k : IntKind) (x y : Int) : binX .gtr (.m (.i k x)) (.m (.i k y)) = some (.m (.b (decide (y < x)))) := by simp [binX, arX, vb, ltI_eq]
@[simp] theorem bx_geq (k : IntKind) (x y : Int) : binX .geq (.m (.i k x)) (.m (.i k y)) = some (.m (.b (decide (y ≤ x)))) := by simp [binX, arX, vb, leI_eq]
@[simp] theorem bx_sadd (x y : List Nat) : binX .add (.m (.s x)) (.m (.s y)) = gd (decide (x.length + y.length ≤ 9223372036854775807)) (some (.m (.s (x ++ y)))) := by
  simp only [binX, stX]
  congr 1
  rw [Bool.eq_iff_iff]; simp
@[simp] theorem bx_seql (x y : List Nat) : binX .eql (.m (.s x)) (.m (.s y)) = some (.m (.b (decide (x = y)))) := by simp [binX, stX, vb, eqL_eq]
@[simp] theorem bx_sneq (x y : List Nat) : binX .neq (.m (.s x)) (.m (.s y)) = some (.m (.b (decide (x ≠ y)))) := by simp [binX, stX, vb, eqL_eq]
@[simp] theorem ux_neg (k : IntKind) (x : Int) : unX .neg (.m (.i k x)) = some (.m (.i k (wr k (0 - x)))) := rfl
@[simp] theorem ux_not (x : Bool) : unX .not (.m (.b x)) = some (.m (.b (!x))) := rfl
@[simp] theorem nth_zero {α : Type} (x : α) (r : List α) : nth (x :: r) 0 = some x := rfl
@[simp] theorem nth_succ {α : Type} (x : α) (r : List α) (n : Nat) : nth (x :: r) (n + 1) = nth r n := rfl
@[simp] theorem aggC_m (cs : List I) : aggC (.m (.ag cs)) = some (cs.map .m) := rfl
@[simp] theorem aggC_a (cs : List V) : aggC (.ag cs) = some cs := rfl
@[simp] theorem valOf_f (x : V) : valOf false [x] = some x := rfl
@[simp] theorem valOf_t (cs : List V) : valOf true cs = some (mkAg cs) := rfl
theorem takeN_nat (n : Nat) (l : List V) : takeN n l = if (l.take n).length = n then some (l.take n) else none := by
  unfold takeN
  by_cases h : (l.take n).length = n
  · rw [if_pos h, h, Nat.beq_refl]; rfl
  · rw [if_neg h]
    cases hb : Nat.beq (l.take n).length n with
    | false => rfl
    | true => exact absurd (Nat.eq_of_beq_eq_true hb) h

/- Numbers in their kinds. -/
theorem wr_i64 {x : Int} (h1 : -9223372036854775808 ≤ x) (h2 : x ≤ 9223372036854775807) : wr .i64 x = x := by
  have : okK .i64 x = true := (inR_iff _ _ _).2 ⟨by simpa using h1, by simpa using h2⟩
  unfold wr; rw [this]
theorem wr_u64 {x : Int} (h1 : 0 ≤ x) (h2 : x ≤ 18446744073709551615) : wr .u64 x = x := by
  have : okK .u64 x = true := (inR_iff _ _ _).2 ⟨by simpa using h1, by simpa using h2⟩
  unfold wr; rw [this]
theorem wr_i32 {x : Int} (h1 : -2147483648 ≤ x) (h2 : x ≤ 2147483647) : wr .i32 x = x := by
  have : okK .i32 x = true := (inR_iff _ _ _).2 ⟨by simpa using h1, by simpa using h2⟩
  unfold wr; rw [this]
theorem wr_u32 {x : Int} (h1 : 0 ≤ x) (h2 : x ≤ 4294967295) : wr .u32 x = x := by
  have : okK .u32 x = true := (inR_iff _ _ _).2 ⟨by simpa using h1, by simpa using h2⟩
  unfold wr; rw [this]
theorem wr_u8 {x : Int} (h1 : 0 ≤ x) (h2 : x ≤ 255) : wr .u8 x = x := by
  have : okK .u8 x = true := (inR_iff _ _ _).2 ⟨by simpa using h1, by simpa using h2⟩
  unfold wr; rw [this]
theorem wr_mod_i64 (x : Int) : wr .i64 x = (x + 9223372036854775808) % 18446744073709551616 - 9223372036854775808 := by
  rw [wr_eq]
  have h : IntKind.i64.wrap x = if 9223372036854775808 ≤ x % 18446744073709551616 then x % 18446744073709551616 - 18446744073709551616 else x % 18446744073709551616 := by
    simp [IntKind.wrap, IntKind.signed, IntKind.bits]
  rw [h]
  split <;> omega
theorem wr_mod_u64 (x : Int) : wr .u64 x = x % 18446744073709551616 := by
  rw [wr_eq]
  simp [IntKind.wrap, IntKind.signed, IntKind.bits]
end Go.Mx
