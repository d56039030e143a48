/- Decimal numerals: the library's Itoa and the reference's text. -/
import Derived.Test.YtbpkmkgnkpeefaaGreatDoorLoops
import Derived.Test.YtbpkmkgnkpeefaaGreatDoorWa
import Derived.Test.YtbpkmkgnkpeefaaGreatDoorSeat
import Derived.Lib.ItoaMem
import Derived.Lib.ItoaLen
set_option linter.unusedSimpArgs false
set_option linter.unusedVariables false
set_option linter.unusedSectionVars false
namespace Go.Mx.Tryz
attribute [simp high] runC_reg
attribute [congr] cnd_congr restC_congr test_congr callC_congr cavC_congr gcallC_congr gcavC_congr run_congr at_congr
@[simp] theorem v_p (d : Dst) (o : OP) (xs : List Opnd) (s : St) (r : List Op) (k : K) : RestC G (some s) (⟨d,.p o,xs,none⟩ :: r) k = RestC G (stepPC s o xs d) r k:=restC_p mono d o xs s r k
@[simp] theorem v_r (d : Dst) (o : OR) (xs : List Opnd) (s : St) (r : List Op) (k : K) : RestC G (some s) (⟨d,.r o,xs,none⟩ :: r) k = RestC G (stepRC s o xs d) r k:=restC_r mono d o xs s r k
@[simp] theorem v_gp (d : Dst) (o : OP) (xs : List Opnd) (g : Opnd) (want : Bool) (s : St) (r : List Op) (k : K) : RestC G (some s) (⟨d,.p o,xs,some (g,want)⟩ :: r) k = RestC G (pickS (wantsD s (some (g,want))) (stepPC s o xs d) (setC s d .un)) r k:=restC_gp mono d o xs g want s r k
@[simp] theorem v_gr (d : Dst) (o : OR) (xs : List Opnd) (g : Opnd) (want : Bool) (s : St) (r : List Op) (k : K) : RestC G (some s) (⟨d,.r o,xs,some (g,want)⟩ :: r) k = RestC G (pickS (wantsD s (some (g,want))) (stepRC s o xs d) (setC s d .un)) r k:=restC_gr mono d o xs g want s r k
@[simp] theorem v_call (d : Dst) (f : Nat) (xs : List Opnd) (s : St) (r : List Op) (k : K) : RestC G (some s) (⟨d,.l (.cal f),xs,none⟩ :: r) k = CallC G f (optMap (evA s) xs) s d r k:=restC_call mono d f xs s r k
@[simp] theorem v_gcall (d : Dst) (f : Nat) (xs : List Opnd) (g : Opnd) (want : Bool) (s : St) (r : List Op) (k : K) : RestC G (some s) (⟨d,.l (.cal f),xs,some (g,want)⟩ :: r) k = GCallC G (wantsD s (some (g,want))) f xs s d r k:=restC_gcall mono d f xs g want s r k
@[simp] theorem v_cav (d : Dst) (g : Opnd) (xs : List Opnd) (s : St) (r : List Op) (k : K) : RestC G (some s) (⟨d,.l .cav,g :: xs,none⟩ :: r) k = CavC G (evA s g) (optMap (evA s) xs) s d r k:=restC_cav mono d g xs s r k
@[simp] theorem v_gcav (d : Dst) (g : Opnd) (xs : List Opnd) (gg : Opnd) (want : Bool) (s : St) (r : List Op) (k : K) : RestC G (some s) (⟨d,.l .cav,g :: xs,some (gg,want)⟩ :: r) k = GCavC G (wantsD s (some (gg,want))) g xs s d r k:=restC_gcav mono d g xs gg want s r k
@[simp] theorem v_alp (d : Dst) (n : Nat) (z : List V) (xs : List Opnd) (E L : Env) (M : Mem) (r : List Op) (k : K) : RestC G (some ⟨E,L,M⟩) (⟨d,.l (.alp n z),xs,none⟩ :: r) k = cnd (nf n L) (RestC G (stepLC ⟨E,L,M⟩ (.alp n z) xs d) r k) (RestC G (some ⟨E,L,M⟩) (⟨d,.l (.alp n z),xs,none⟩ :: r) k):=cnd_of fun h=>restC_l mono _ _ _ _ _ _ (fun _ h=>by cases h) (fun h=>by cases h) (nf_noFa _ _ h)
@[simp] theorem v_bxp (d : Dst) (n z : Nat) (xs : List Opnd) (E L : Env) (M : Mem) (r : List Op) (k : K) : RestC G (some ⟨E,L,M⟩) (⟨d,.l (.bxp n z),xs,none⟩ :: r) k = cnd (nf n L) (RestC G (stepLC ⟨E,L,M⟩ (.bxp n z) xs d) r k) (RestC G (some ⟨E,L,M⟩) (⟨d,.l (.bxp n z),xs,none⟩ :: r) k):=cnd_of fun h=>restC_l mono _ _ _ _ _ _ (fun _ h=>by cases h) (fun h=>by cases h) (nf_noFa _ _ h)
theorem v_loud (d : Dst) (o : OL) (xs : List Opnd) (s : St) (r : List Op) (k : K) (h1 : ∀ f,o ≠ .cal f) (h2 : o ≠ .cav) (hf : fresh s (.l o) = true) : RestC G (some s) (⟨d,.l o,xs,none⟩ :: r) k = RestC G (stepLC s o xs d) r k:=restC_l mono d o xs s r k h1 h2 hf
theorem v_gloud (d : Dst) (o : OL) (xs : List Opnd) (g : Opnd) (want : Bool) (s : St) (r : List Op) (k : K) (h1 : ∀ f,o ≠ .cal f) (h2 : o ≠ .cav) (hf : fresh s (.l o) = true) : RestC G (some s) (⟨d,.l o,xs,some (g,want)⟩ :: r) k = RestC G (pickS (wantsD s (some (g,want))) (stepLC s o xs d) (setC s d .un)) r k:=restC_gl mono d o xs g want s r k h1 h2 hf
@[simp] theorem v_als (d : Dst) (a b c : Nat) (z : List V) (xs : List Opnd) (s : St) (r : List Op) (k : K) : RestC G (some s) (⟨d,.l (.als a b c z),xs,none⟩ :: r) k = RestC G (stepLC s (.als a b c z) xs d) r k:=v_loud _ _ _ _ _ _ (fun _ h=>by cases h) (fun h=>by cases h) rfl
@[simp] theorem v_gals (d : Dst) (a b c : Nat) (z : List V) (xs : List Opnd) (g : Opnd) (want : Bool) (s : St) (r : List Op) (k : K) : RestC G (some s) (⟨d,.l (.als a b c z),xs,some (g,want)⟩ :: r) k = RestC G (pickS (wantsD s (some (g,want))) (stepLC s (.als a b c z) xs d) (setC s d .un)) r k:=v_gloud _ _ _ _ _ _ _ _ (fun _ h=>by cases h) (fun h=>by cases h) rfl
@[simp] theorem v_st (d : Dst) (n : Nat) (xs : List Opnd) (s : St) (r : List Op) (k : K) : RestC G (some s) (⟨d,.l (.st n),xs,none⟩ :: r) k = RestC G (stepLC s (.st n) xs d) r k:=v_loud _ _ _ _ _ _ (fun _ h=>by cases h) (fun h=>by cases h) rfl
@[simp] theorem v_stb (d : Dst) (e n : Nat) (xs : List Opnd) (s : St) (r : List Op) (k : K) : RestC G (some s) (⟨d,.l (.stb e n),xs,none⟩ :: r) k = RestC G (stepLC s (.stb e n) xs d) r k:=v_loud _ _ _ _ _ _ (fun _ h=>by cases h) (fun h=>by cases h) rfl
@[simp] theorem v_str (d : Dst) (n : Nat) (xs : List Opnd) (s : St) (r : List Op) (k : K) : RestC G (some s) (⟨d,.l (.str n),xs,none⟩ :: r) k = RestC G (stepLC s (.str n) xs d) r k:=v_loud _ _ _ _ _ _ (fun _ h=>by cases h) (fun h=>by cases h) rfl
@[simp] theorem v_gst (d : Dst) (n : Nat) (xs : List Opnd) (g : Opnd) (want : Bool) (s : St) (r : List Op) (k : K) : RestC G (some s) (⟨d,.l (.st n),xs,some (g,want)⟩ :: r) k = RestC G (pickS (wantsD s (some (g,want))) (stepLC s (.st n) xs d) (setC s d .un)) r k:=v_gloud _ _ _ _ _ _ _ _ (fun _ h=>by cases h) (fun h=>by cases h) rfl
@[simp] theorem v_gstb (d : Dst) (e n : Nat) (xs : List Opnd) (g : Opnd) (want : Bool) (s : St) (r : List Op) (k : K) : RestC G (some s) (⟨d,.l (.stb e n),xs,some (g,want)⟩ :: r) k = RestC G (pickS (wantsD s (some (g,want))) (stepLC s (.stb e n) xs d) (setC s d .un)) r k:=v_gloud _ _ _ _ _ _ _ _ (fun _ h=>by cases h) (fun h=>by cases h) rfl
@[simp] theorem v_gstr (d : Dst) (n : Nat) (xs : List Opnd) (g : Opnd) (want : Bool) (s : St) (r : List Op) (k : K) : RestC G (some s) (⟨d,.l (.str n),xs,some (g,want)⟩ :: r) k = RestC G (pickS (wantsD s (some (g,want))) (stepLC s (.str n) xs d) (setC s d .un)) r k:=v_gloud _ _ _ _ _ _ _ _ (fun _ h=>by cases h) (fun h=>by cases h) rfl
@[simp] theorem v_mks (d : Dst) (a b c : Nat) (z : List V) (xs : List Opnd) (s : St) (r : List Op) (k : K) : RestC G (some s) (⟨d,.l (.mks a b z c),xs,none⟩ :: r) k = RestC G (stepLC s (.mks a b z c) xs d) r k:=v_loud _ _ _ _ _ _ (fun _ h=>by cases h) (fun h=>by cases h) rfl
@[simp] theorem v_gmks (d : Dst) (a b c : Nat) (z : List V) (xs : List Opnd) (g : Opnd) (want : Bool) (s : St) (r : List Op) (k : K) : RestC G (some s) (⟨d,.l (.mks a b z c),xs,some (g,want)⟩ :: r) k = RestC G (pickS (wantsD s (some (g,want))) (stepLC s (.mks a b z c) xs d) (setC s d .un)) r k:=v_gloud _ _ _ _ _ _ _ _ (fun _ h=>by cases h) (fun h=>by cases h) rfl
@[simp] theorem v_app (d : Dst) (a b c : Nat) (xs : List Opnd) (s : St) (r : List Op) (k : K) : RestC G (some s) (⟨d,.l (.app a b c),xs,none⟩ :: r) k = RestC G (stepLC s (.app a b c) xs d) r k:=v_loud _ _ _ _ _ _ (fun _ h=>by cases h) (fun h=>by cases h) rfl
@[simp] theorem v_gapp (d : Dst) (a b c : Nat) (xs : List Opnd) (g : Opnd) (want : Bool) (s : St) (r : List Op) (k : K) : RestC G (some s) (⟨d,.l (.app a b c),xs,some (g,want)⟩ :: r) k = RestC G (pickS (wantsD s (some (g,want))) (stepLC s (.app a b c) xs d) (setC s d .un)) r k:=v_gloud _ _ _ _ _ _ _ _ (fun _ h=>by cases h) (fun h=>by cases h) rfl
@[simp] theorem v_mup (d : Dst) (q : KT) (xs : List Opnd) (s : St) (r : List Op) (k : K) : RestC G (some s) (⟨d,.l (.mup q),xs,none⟩ :: r) k = RestC G (stepLC s (.mup q) xs d) r k:=v_loud _ _ _ _ _ _ (fun _ h=>by cases h) (fun h=>by cases h) rfl
@[simp] theorem v_gmup (d : Dst) (q : KT) (xs : List Opnd) (g : Opnd) (want : Bool) (s : St) (r : List Op) (k : K) : RestC G (some s) (⟨d,.l (.mup q),xs,some (g,want)⟩ :: r) k = RestC G (pickS (wantsD s (some (g,want))) (stepLC s (.mup q) xs d) (setC s d .un)) r k:=v_gloud _ _ _ _ _ _ _ _ (fun _ h=>by cases h) (fun h=>by cases h) rfl
@[simp] theorem v_mdl (d : Dst) (q : KT) (xs : List Opnd) (s : St) (r : List Op) (k : K) : RestC G (some s) (⟨d,.l (.mdl q),xs,none⟩ :: r) k = RestC G (stepLC s (.mdl q) xs d) r k:=v_loud _ _ _ _ _ _ (fun _ h=>by cases h) (fun h=>by cases h) rfl
@[simp] theorem v_gmdl (d : Dst) (q : KT) (xs : List Opnd) (g : Opnd) (want : Bool) (s : St) (r : List Op) (k : K) : RestC G (some s) (⟨d,.l (.mdl q),xs,some (g,want)⟩ :: r) k = RestC G (pickS (wantsD s (some (g,want))) (stepLC s (.mdl q) xs d) (setC s d .un)) r k:=v_gloud _ _ _ _ _ _ _ _ (fun _ h=>by cases h) (fun h=>by cases h) rfl
@[simp] theorem v_bxs (d : Dst) (a b c : Nat) (xs : List Opnd) (s : St) (r : List Op) (k : K) : RestC G (some s) (⟨d,.l (.bxs a b c),xs,none⟩ :: r) k = RestC G (stepLC s (.bxs a b c) xs d) r k:=v_loud _ _ _ _ _ _ (fun _ h=>by cases h) (fun h=>by cases h) rfl
@[simp] theorem v_gbxs (d : Dst) (a b c : Nat) (xs : List Opnd) (g : Opnd) (want : Bool) (s : St) (r : List Op) (k : K) : RestC G (some s) (⟨d,.l (.bxs a b c),xs,some (g,want)⟩ :: r) k = RestC G (pickS (wantsD s (some (g,want))) (stepLC s (.bxs a b c) xs d) (setC s d .un)) r k:=v_gloud _ _ _ _ _ _ _ _ (fun _ h=>by cases h) (fun h=>by cases h) rfl
@[simp] theorem v_cpy (d : Dst) (a : Nat) (xs : List Opnd) (s : St) (r : List Op) (k : K) : RestC G (some s) (⟨d,.l (.cpy a),xs,none⟩ :: r) k = RestC G (stepLC s (.cpy a) xs d) r k:=v_loud _ _ _ _ _ _ (fun _ h=>by cases h) (fun h=>by cases h) rfl
@[simp] theorem v_gcpy (d : Dst) (a : Nat) (xs : List Opnd) (g : Opnd) (want : Bool) (s : St) (r : List Op) (k : K) : RestC G (some s) (⟨d,.l (.cpy a),xs,some (g,want)⟩ :: r) k = RestC G (pickS (wantsD s (some (g,want))) (stepLC s (.cpy a) xs d) (setC s d .un)) r k:=v_gloud _ _ _ _ _ _ _ _ (fun _ h=>by cases h) (fun h=>by cases h) rfl
@[simp] theorem v_ust (d : Dst) (a : Nat) (xs : List Opnd) (s : St) (r : List Op) (k : K) : RestC G (some s) (⟨d,.l (.ust a),xs,none⟩ :: r) k = RestC G (stepLC s (.ust a) xs d) r k:=v_loud _ _ _ _ _ _ (fun _ h=>by cases h) (fun h=>by cases h) rfl
@[simp] theorem v_gust (d : Dst) (a : Nat) (xs : List Opnd) (g : Opnd) (want : Bool) (s : St) (r : List Op) (k : K) : RestC G (some s) (⟨d,.l (.ust a),xs,some (g,want)⟩ :: r) k = RestC G (pickS (wantsD s (some (g,want))) (stepLC s (.ust a) xs d) (setC s d .un)) r k:=v_gloud _ _ _ _ _ _ _ _ (fun _ h=>by cases h) (fun h=>by cases h) rfl
@[simp] theorem v_bss (d : Dst) (a b c : Nat) (z : List V) (p : List Nat) (xs : List Opnd) (s : St) (r : List Op) (k : K) : RestC G (some s) (⟨d,.l (.bss a b z c p),xs,none⟩ :: r) k = RestC G (stepLC s (.bss a b z c p) xs d) r k:=v_loud _ _ _ _ _ _ (fun _ h=>by cases h) (fun h=>by cases h) rfl
@[simp] theorem v_gbss (d : Dst) (a b c : Nat) (z : List V) (p : List Nat) (xs : List Opnd) (g : Opnd) (want : Bool) (s : St) (r : List Op) (k : K) : RestC G (some s) (⟨d,.l (.bss a b z c p),xs,some (g,want)⟩ :: r) k = RestC G (pickS (wantsD s (some (g,want))) (stepLC s (.bss a b z c p) xs d) (setC s d .un)) r k:=v_gloud _ _ _ _ _ _ _ _ (fun _ h=>by cases h) (fun h=>by cases h) rfl
@[simp] theorem v_bsw (d : Dst) (a b c : Nat) (z : List V) (p : List Nat) (xs : List Opnd) (s : St) (r : List Op) (k : K) : RestC G (some s) (⟨d,.l (.bsw a b z c p),xs,none⟩ :: r) k = RestC G (stepLC s (.bsw a b z c p) xs d) r k:=v_loud _ _ _ _ _ _ (fun _ h=>by cases h) (fun h=>by cases h) rfl
@[simp] theorem v_gbsw (d : Dst) (a b c : Nat) (z : List V) (p : List Nat) (xs : List Opnd) (g : Opnd) (want : Bool) (s : St) (r : List Op) (k : K) : RestC G (some s) (⟨d,.l (.bsw a b z c p),xs,some (g,want)⟩ :: r) k = RestC G (pickS (wantsD s (some (g,want))) (stepLC s (.bsw a b z c p) xs d) (setC s d .un)) r k:=v_gloud _ _ _ _ _ _ _ _ (fun _ h=>by cases h) (fun h=>by cases h) rfl
@[simp] theorem v_s2w (d : Dst) (xs : List Opnd) (s : St) (r : List Op) (k : K) : RestC G (some s) (⟨d,.l .s2w,xs,none⟩ :: r) k = RestC G (stepLC s .s2w xs d) r k:=v_loud _ _ _ _ _ _ (fun _ h=>by cases h) (fun h=>by cases h) rfl
@[simp] theorem v_bsf (d : Dst) (b c : Nat) (z : List V) (p : List Nat) (xs : List Opnd) (s : St) (r : List Op) (k : K) : RestC G (some s) (⟨d,.l (.bsf b z c p),xs,none⟩ :: r) k = RestC G (stepLC s (.bsf b z c p) xs d) r k:=v_loud _ _ _ _ _ _ (fun _ h=>by cases h) (fun h=>by cases h) rfl
@[simp] theorem v_gbsf (d : Dst) (b c : Nat) (z : List V) (p : List Nat) (xs : List Opnd) (g : Opnd) (want : Bool) (s : St) (r : List Op) (k : K) : RestC G (some s) (⟨d,.l (.bsf b z c p),xs,some (g,want)⟩ :: r) k = RestC G (pickS (wantsD s (some (g,want))) (stepLC s (.bsf b z c p) xs d) (setC s d .un)) r k:=v_gloud _ _ _ _ _ _ _ _ (fun _ h=>by cases h) (fun h=>by cases h) rfl
@[simp] theorem v_mkm (d : Dst) (xs : List Opnd) (s : St) (r : List Op) (k : K) : RestC G (some s) (⟨d,.l .mkm,xs,none⟩ :: r) k = RestC G (stepLC s .mkm xs d) r k:=v_loud _ _ _ _ _ _ (fun _ h=>by cases h) (fun h=>by cases h) rfl
theorem cl {f : Nat} {vs : List V} {E L : Env} {B : List (Nat × List V)} {H : Hp} {d : Dst} {r : List Op} {k : K} {v : V} {H' : Hp} (h : Gives G f vs H v H') : CallC G f (some vs) ⟨E,L,⟨B,H⟩⟩ d r k = RestC G (setC ⟨E,L,⟨B,H'⟩⟩ d v) r k:=callC_of (s:=⟨E,L,⟨B,H⟩⟩) mono h
end Go.Mx.Tryz
set_option linter.unusedSimpArgs false
set_option linter.unusedVariables false
set_option linter.unusedSectionVars false
set_option maxRecDepth 100000
namespace Go.Mx.Tryz

structure Ce where
 x : Int
 y : Int
 s : Int
def Ce.i (c : Ce) : List I:=[.i .i64 c.x,.i .i64 c.y,.i .i64 c.s]
def cells3 (p : List Ce) : List (List I):=p.map Ce.i
@[simp] theorem cells3_len (p : List Ce) : (cells3 p).length = p.length:=by simp [cells3]
def placed (x y : Int) : Bool:=decide (-1048576 ≤ x ∧ x ≤ 1048576 ∧ -1048576 ≤ y ∧ y ≤ 1048576)
def less (a b : Ce) : Bool:=decide (a.y < b.y ∨ (a.y = b.y ∧ a.x < b.x))
def good (c : Ce) : Bool:=placed c.x c.y && decide (1 ≤ c.s) && decide (c.s < 8)
def chain : Option Ce → List Ce → Bool
 | _,[]=>true
 | none,c :: r=>good c && chain (some c) r
 | some a,c :: r=>good c && less a c && chain (some c) r
def right (p : List Ce) : Bool:=decide (p.length ≤ 5000) && chain none p

theorem nan_s (x : Int) (H : Hp) : Gives G 132 [.m (.i .i64 x)] H (.m (.b false)) H:=by
 refine gives_pur rfl rfl rfl rfl rfl ?_
 simp
def cmpI (x y : Int) : Int:=if x < y then -1 else if y < x then 1 else 0
theorem cmp_s (x y : Int) (H : Hp) : Gives G 102 [.m (.i .i64 x),.m (.i .i64 y)] H (.m (.i .i64 (cmpI x y))) H:=by
 refine gives_pur rfl rfl rfl rfl rfl ?_
 simp (contextual:=true) [test_cx,rest_cx,gcall_cx,gcav_cx,-Int.not_lt,-Int.not_le,-Nat.not_lt,-Nat.not_le,-List.map_take,cl (nan_s _ _),cmpI]
theorem or2_s (a b : Int) (H : Hp) : Gives G 101 [.m (.sl [[.i .i64 a],[.i .i64 b]])] H (.m (.i .i64 (if a = 0 then b else a))) H:=by
 refine gives_pur rfl rfl rfl rfl rfl ?_
 simp (contextual:=true) [test_cx,rest_cx,gcall_cx,gcav_cx,-Int.not_lt,-Int.not_le,-Nat.not_lt,-Nat.not_le,-List.map_take,wr_i64,c101_B0]
def cmpP (x y z w : Int) : Int:=if cmpI y w = 0 then cmpI x z else cmpI y w
theorem pcmp_s (x y z w : Int) (H : Hp) : Gives G 59 [.m (.ag [.i .i64 x,.i .i64 y]),.m (.ag [.i .i64 z,.i .i64 w])] H (.m (.i .i64 (cmpP x y z w))) H:=by
 refine gives_pur rfl rfl rfl rfl rfl ?_
 have hv:=gives_view (vs:=[.ls [[.i .i64 (cmpI y w)],[.i .i64 (cmpI x z)]]]) (H:=[]) rfl rfl (or2_s (cmpI y w) (cmpI x z) []) rfl (.inl ⟨rfl,rfl⟩)
 simp [cl (cmp_s _ _ _),cl hv,cmpP]
end Go.Mx.Tryz
set_option linter.unusedSimpArgs false
set_option linter.unusedVariables false
set_option linter.unusedSectionVars false
namespace Go.Mx.Tryz
theorem fit_int {B n : Nat} {l : List I} (h : Fits Go.Proofs.Tryz.prog B (n + 1) 3 l) : ∃ x : Int,l = [.i .i64 x] ∧ -9223372036854775808 ≤ x ∧ x ≤ 9223372036854775807:=by
 unfold Fits at h
 rw [Go.Proofs.Tryz.underlying3] at h
 simp only at h
 obtain ⟨x,rfl,hx⟩:=h
 have e1 : IntKind.i64.min = -9223372036854775808:=by decide
 have e2 : IntKind.i64.max = 9223372036854775807:=by decide
 rw [e1,e2] at hx
 exact ⟨x,rfl,hx⟩
end Go.Mx.Tryz
set_option linter.unusedSimpArgs false
set_option linter.unusedVariables false
set_option linter.unusedSectionVars false
namespace Go.Mx.Tryz

end Go.Mx.Tryz
set_option linter.unusedSimpArgs false
set_option linter.unusedVariables false
set_option linter.unusedSectionVars false
/- Maps: rows of pairs as finite maps. Nothing here speaks of a program. -/
namespace Go.Mx
section
variable {α β : Type} [DecidableEq α]
def mfind : List (α × β) → α → Option β
 | [],_=>none
 | (a,b) :: r,k=>if a = k then some b else mfind r k
def mset : List (α × β) → α → β → List (α × β)
 | [],k,v=>[(k,v)]
 | (a,b) :: r,k,v=>if a = k then (k,v) :: r else (a,b) :: mset r k v
def mdel : List (α × β) → α → List (α × β)
 | [],_=>[]
 | (a,b) :: r,k=>if a = k then r else (a,b) :: mdel r k
theorem mset_new (m : List (α × β)) (k : α) (v : β) (h : k ∉ m.map Prod.fst) : mset m k v = m ++ [(k,v)]:=by
 induction m with
 | nil=>rfl
 | cons p r ih =>
  obtain ⟨a,b⟩:=p
  simp only [List.map_cons,List.mem_cons,not_or] at h
  simp only [mset,if_neg (fun e=>h.1 (Eq.symm e)),ih h.2]
  rfl
theorem mfind_none (m : List (α × β)) (k : α) : mfind m k = none ↔ k ∉ m.map Prod.fst:=by
 induction m with
 | nil=>simp [mfind]
 | cons p r ih =>
  obtain ⟨a,b⟩:=p
  by_cases h : a = k
  ·subst h; simp [mfind]
  ·have h' : ¬ k = a:=fun e=>h e.symm
   simp only [mfind,if_neg h,ih,List.map_cons,List.mem_cons,not_or]
   exact ⟨fun x=>⟨h',x⟩,fun x=>x.2⟩
def mpR (ek : α → I) (ev : β → V) (m : List (α × β)) : Row:=.mp (m.map fun p=>(ek p.1,ev p.2)) false
variable {ek : α → I} {ev : β → V} {kt : KT}
theorem findK_enc (hk : ∀ a b,eqKey kt (ek a) (ek b) = some (decide (a = b))) (m : List (α × β)) (k : α) : findK kt (ek k) (m.map fun p=>(ek p.1,ev p.2)) = some ((mfind m k).map ev):=by
 induction m with
 | nil=>rfl
 | cons p r ih =>
  obtain ⟨a,b⟩:=p
  simp only [List.map_cons,findK,hk,Option.bind_some,mfind]
  by_cases e : k = a
  ·subst e; simp
  ·rw [decide_eq_false e,if_neg (fun h=>e h.symm)]
   exact ih
theorem updK_enc (hk : ∀ a b,eqKey kt (ek a) (ek b) = some (decide (a = b))) (m : List (α × β)) (k : α) (v : β) : updK kt (ek k) (ev v) (m.map fun p=>(ek p.1,ev p.2)) = some ((mset m k v).map fun p=>(ek p.1,ev p.2)):=by
 induction m with
 | nil=>rfl
 | cons p r ih =>
  obtain ⟨a,b⟩:=p
  simp only [List.map_cons,updK,hk,Option.bind_some,mset]
  by_cases e : k = a
  ·subst e; simp
  ·rw [decide_eq_false e,if_neg (fun h=>e h.symm),ih]
   rfl
theorem delK_enc (hk : ∀ a b,eqKey kt (ek a) (ek b) = some (decide (a = b))) (m : List (α × β)) (k : α) : delK kt (ek k) (m.map fun p=>(ek p.1,ev p.2)) = some ((mdel m k).map fun p=>(ek p.1,ev p.2)):=by
 induction m with
 | nil=>rfl
 | cons p r ih =>
  obtain ⟨a,b⟩:=p
  simp only [List.map_cons,delK,hk,Option.bind_some,mdel]
  by_cases e : k = a
  ·subst e; simp
  ·rw [decide_eq_false e,if_neg (fun h=>e h.symm),ih]
   rfl
end

/- What the operations do to a row. -/
def mupR (kt : KT) (row : Row) (k : I) (x : V) : Option Row:=match row with
 | .mp es false=>gd (noFaV x && okKey kt k) ((updK kt k x es).map fun es'=>.mp es' false)
 | _=>none
def mdlR (kt : KT) (row : Row) (k : I) : Option Row:=match row with
 | .mp es false=>(gd (okKey kt k) (delK kt k es)).map fun es'=>.mp es' false
 | _=>none
def lkpRow (kt : KT) (zero : List V) (ag ok : Bool) (row : Row) (k : I) : Option V:=match row with
 | .mp es _=>(gd (okKey kt k) (findK kt k es)).bind fun q=>lkpR zero ag ok q
 | _=>none
def lenR (row : Row) : Option V:=match row with
 | .mp es _=>some (.m (.i .i64 es.length))
 | _=>none
@[simp] theorem loud_mkm0 (c : Call) (M : Mem) : loudX c M .mkm [] = some (.mp M.H.length,{ M with H:=M.H ++ [.mp [] false] }):=rfl
@[simp] theorem loud_mkm1 (c : Call) (M : Mem) (k : IntKind) (n : Int) : loudX c M .mkm [.m (.i k n)] = some (.mp M.H.length,{ M with H:=M.H ++ [.mp [] false] }):=rfl
@[simp] theorem loud_mup (c : Call) (M : Mem) (kt : KT) (r : Nat) (k : I) (x : V) : loudX c M (.mup kt) [.mp r,.m k,x] = (nth M.H r).bind fun row=>(mupR kt row k x).bind fun row'=>(setEl M.H r row').bind fun H'=>some (.un,{ M with H:=H' }):=by
 simp only [loudX]
 congr 1
 funext row
 cases row with
 | cs=>rfl
 | lp=>rfl
 | mp es fz =>
  cases fz with
  | true=>rfl
  | false =>
   simp only [mupR,keyV,Option.bind_some]
   cases (noFaV x && okKey kt k) with
   | false=>rfl
   | true=>simp only [gd]; cases updK kt k x es <;> rfl
@[simp] theorem loud_mdl (c : Call) (M : Mem) (kt : KT) (r : Nat) (k : I) : loudX c M (.mdl kt) [.mp r,.m k] = (nth M.H r).bind fun row=>(mdlR kt row k).bind fun row'=>(setEl M.H r row').bind fun H'=>some (.tu [],{ M with H:=H' }):=by
 simp only [loudX]
 congr 1
 funext row
 cases row with
 | cs=>rfl
 | lp=>rfl
 | mp es fz =>
  cases fz with
  | true=>rfl
  | false =>
   simp only [mdlR,keyV,Option.bind_some]
   cases (gd (okKey kt k) (delK kt k es)) <;> rfl
@[simp] theorem rx_lkp (M : Mem) (kt : KT) (z : List V) (ag ok : Bool) (r : Nat) (k : I) : readX M (.lkp kt z ag ok) [.mp r,.m k] = (nth M.H r).bind fun row=>lkpRow kt z ag ok row k:=by
 simp only [readX,mapOf,keyV]
 cases nth M.H r with
 | none=>rfl
 | some row=>cases row <;> rfl
@[simp] theorem rx_lenm (M : Mem) (r : Nat) : readX M .lenm [.mp r] = (nth M.H r).bind lenR:=by
 simp only [readX,mapOf]
 cases nth M.H r with
 | none=>rfl
 | some row=>cases row <;> rfl
@[simp] theorem okT_t (x : V) (b : Bool) : okT true x b = .tu [x,.m (.b b)]:=rfl
@[simp] theorem okT_f (x : V) (b : Bool) : okT false x b = x:=rfl

section
variable {α β : Type} [DecidableEq α] {ek : α → I} {ev : β → V} {kt : KT}
theorem okKey_enc (hk : ∀ a b,eqKey kt (ek a) (ek b) = some (decide (a = b))) (k : α) : okKey kt (ek k) = true:=by simp [okKey,hk]
theorem mupR_enc (hk : ∀ a b,eqKey kt (ek a) (ek b) = some (decide (a = b))) (hv : ∀ v,noFaV (ev v) = true) (m : List (α × β)) (k : α) (v : β) : mupR kt (mpR ek ev m) (ek k) (ev v) = some (mpR ek ev (mset m k v)):=by
 simp only [mupR,mpR,okKey_enc hk,hv,updK_enc hk,Bool.and_self,gd,Option.map_some]
theorem mdlR_enc (hk : ∀ a b,eqKey kt (ek a) (ek b) = some (decide (a = b))) (m : List (α × β)) (k : α) : mdlR kt (mpR ek ev m) (ek k) = some (mpR ek ev (mdel m k)):=by
 simp only [mdlR,mpR,okKey_enc hk,delK_enc hk,gd,Option.map_some]
theorem lkpRow_enc (hk : ∀ a b,eqKey kt (ek a) (ek b) = some (decide (a = b))) {z : List V} {ag ok : Bool} {z0 : β} (hz : valOf ag z = some (ev z0)) (m : List (α × β)) (k : α) : lkpRow kt z ag ok (mpR ek ev m) (ek k) = some (okT ok (ev ((mfind m k).getD z0)) (mfind m k).isSome):=by
 simp only [lkpRow,mpR,okKey_enc hk,findK_enc hk,gd,Option.bind_some]
 cases mfind m k with
 | none=>simp [lkpR,hz]
 | some v=>rfl
omit [DecidableEq α] in
@[simp] theorem lenR_enc (m : List (α × β)) : lenR (mpR ek ev m) = some (.m (.i .i64 m.length)):=by simp [lenR,mpR]
omit [DecidableEq α] in
end

/- Keys: positions (two ints), ints, texts. Values: ints, bools. -/
def ekP (p : Int × Int) : I:=.ag [.i .i64 p.1,.i .i64 p.2]
def ekI (x : Int) : I:=.i .i64 x
def ekS (x : List Nat) : I:=.s x
def evI (x : Int) : V:=.m (.i .i64 x)
def evB (x : Bool) : V:=.m (.b x)
theorem hkP (a b : Int × Int) : eqKey ⟨true,[1,1]⟩ (ekP a) (ekP b) = some (decide (a = b)):=by
 simp only [eqKey,ekP,eqCs_cons,eqC_i,eqCs_nil,Option.bind_some,Option.some.injEq]
 obtain ⟨a1,a2⟩:=a
 obtain ⟨b1,b2⟩:=b
 rw [Bool.eq_iff_iff]
 simp
theorem hkI (a b : Int) : eqKey ⟨false,[1]⟩ (ekI a) (ekI b) = some (decide (a = b)):=by
 simp only [eqKey,ekI,eqC_i]
theorem hkS (a b : List Nat) : eqKey ⟨false,[2]⟩ (ekS a) (ekS b) = some (decide (a = b)):=by
 simp only [eqKey,ekS,eqC_s]
@[simp] theorem mPI_up (m : List ((Int × Int) × Int)) (x y s : Int) : mupR ⟨true,[1,1]⟩ (mpR ekP evI m) (.ag [.i .i64 x,.i .i64 y]) (.m (.i .i64 s)) = some (mpR ekP evI (mset m (x,y) s)):=mupR_enc hkP (fun _=>rfl) m (x,y) s
@[simp] theorem mPB_up (m : List ((Int × Int) × Bool)) (x y : Int) (s : Bool) : mupR ⟨true,[1,1]⟩ (mpR ekP evB m) (.ag [.i .i64 x,.i .i64 y]) (.m (.b s)) = some (mpR ekP evB (mset m (x,y) s)):=mupR_enc hkP (fun _=>rfl) m (x,y) s
@[simp] theorem mIB_up (m : List (Int × Bool)) (x : Int) (s : Bool) : mupR ⟨false,[1]⟩ (mpR ekI evB m) (.i .i64 x) (.m (.b s)) = some (mpR ekI evB (mset m x s)):=mupR_enc hkI (fun _=>rfl) m x s
@[simp] theorem mSI_up (m : List (List Nat × Int)) (x : List Nat) (s : Int) : mupR ⟨false,[2]⟩ (mpR ekS evI m) (.s x) (.m (.i .i64 s)) = some (mpR ekS evI (mset m x s)):=mupR_enc hkS (fun _=>rfl) m x s
@[simp] theorem mP_del {β : Type} (ev : β → V) (m : List ((Int × Int) × β)) (x y : Int) : mdlR ⟨true,[1,1]⟩ (mpR ekP ev m) (.ag [.i .i64 x,.i .i64 y]) = some (mpR ekP ev (mdel m (x,y))):=mdlR_enc hkP m (x,y)
@[simp] theorem mPI_get (m : List ((Int × Int) × Int)) (x y : Int) (ok : Bool) : lkpRow ⟨true,[1,1]⟩ [.m (.i .i64 0)] false ok (mpR ekP evI m) (.ag [.i .i64 x,.i .i64 y]) = some (okT ok (.m (.i .i64 ((mfind m (x,y)).getD 0))) (mfind m (x,y)).isSome):=lkpRow_enc (z0:=0) hkP rfl m (x,y)
@[simp] theorem mPB_get (m : List ((Int × Int) × Bool)) (x y : Int) (ok : Bool) : lkpRow ⟨true,[1,1]⟩ [.m (.b false)] false ok (mpR ekP evB m) (.ag [.i .i64 x,.i .i64 y]) = some (okT ok (.m (.b ((mfind m (x,y)).getD false))) (mfind m (x,y)).isSome):=lkpRow_enc (z0:=false) hkP rfl m (x,y)
@[simp] theorem mIB_get (m : List (Int × Bool)) (x : Int) (ok : Bool) : lkpRow ⟨false,[1]⟩ [.m (.b false)] false ok (mpR ekI evB m) (.i .i64 x) = some (okT ok (.m (.b ((mfind m x).getD false))) (mfind m x).isSome):=lkpRow_enc (z0:=false) hkI rfl m x
@[simp] theorem mSI_get (m : List (List Nat × Int)) (x : List Nat) (ok : Bool) : lkpRow ⟨false,[2]⟩ [.m (.i .i64 0)] false ok (mpR ekS evI m) (.s x) = some (okT ok (.m (.i .i64 ((mfind m x).getD 0))) (mfind m x).isSome):=lkpRow_enc (z0:=0) hkS rfl m x
end Go.Mx

/- Decimal numerals: what the library's own conversion lays into memory. Nothing here speaks of a program. -/
namespace Go.Mx
open Go.Lib

theorem nth_congr {α : Type} {l : List α} {n m : Nat} (h : n = m) : nth l n = nth l m:=by rw [h]
theorem bl_bounds (x : Nat) (h0 : x ≠ 0) (h : x < 2 ^ 64) : 1 ≤ bitLen x ∧ 2 ^ (bitLen x - 1) ≤ x ∧ x < 2 ^ bitLen x:=bitLenAux_bounds 64 x h h0
theorem bl_unique {x a : Nat} (h1 : 2 ^ a ≤ x) (h2 : x < 2 ^ (a + 1)) (h : x < 2 ^ 64) : bitLen x = a + 1:=by
 have h0 : x ≠ 0:=by have:=Nat.two_pow_pos a; omega
 obtain ⟨b1,b2,b3⟩:=bl_bounds x h0 h
 have c1 : 2 ^ a < 2 ^ bitLen x:=by omega
 have c2 : 2 ^ (bitLen x - 1) < 2 ^ (a + 1):=by omega
 have d1:=(Nat.pow_lt_pow_iff_right (a:=2) (by decide)).1 c1
 have d2:=(Nat.pow_lt_pow_iff_right (a:=2) (by decide)).1 c2
 omega
theorem bl_add {x k : Nat} (h1 : 2 ^ k ≤ x) (h : x < 2 ^ 64) : bitLen x = k + bitLen (x / 2 ^ k):=by
 have hp:=Nat.two_pow_pos k
 have h0 : x / 2 ^ k ≠ 0:=by have:=Nat.div_pos h1 hp; omega
 have hx : x / 2 ^ k ≤ x:=Nat.div_le_self _ _
 obtain ⟨b1,b2,b3⟩:=bl_bounds (x / 2 ^ k) h0 (by omega)
 generalize hL : bitLen (x / 2 ^ k) = L at b1 b2 b3 ⊢
 have e : bitLen x = (L - 1 + k) + 1:=by
  refine bl_unique ?_ ?_ h
  ·rw [Nat.pow_add]
   exact (Nat.le_div_iff_mul_le hp).1 b2
  ·rw [show L - 1 + k + 1 = L + k by omega,Nat.pow_add]
   exact (Nat.div_lt_iff_lt_mul hp).1 b3
 omega
theorem bl_8 {x : Nat} (h : x < 256) : bitLen x = bitLenAux 8 x:=by
 by_cases h0 : x = 0
 ·subst h0; rfl
 ·obtain ⟨b1,b2,b3⟩:=bitLenAux_bounds 8 x h h0
  have:=bl_unique (x:=x) (a:=bitLenAux 8 x - 1) b2 (by rw [show bitLenAux 8 x - 1 + 1 = bitLenAux 8 x by omega]; exact b3) (by omega)
  omega

def encB (x : UInt8) : List V:=[.m (.i .u8 (x.toNat : Int))]
def rowP (pre : List (List V)) (d : Array UInt8) (post : List (List V)) : List (List V):=pre ++ (d.toList.map encB ++ post)
@[simp] theorem rowP_len (pre : List (List V)) (d : Array UInt8) (post : List (List V)) : (rowP pre d post).length = pre.length + (d.size + post.length):=by simp [rowP]
theorem rowP_nth (pre : List (List V)) (d : Array UInt8) (post : List (List V)) {i : Nat} (h : i < d.size) : nth (rowP pre d post) (pre.length + i) = some (encB d[i]):=by
 rw [nth_get,rowP,List.getElem?_append_right (by omega),List.getElem?_append_left (by simp; omega)]
 simp [h]
theorem rowP_set (pre : List (List V)) (d : Array UInt8) (post : List (List V)) {i : Nat} (x : UInt8) (h : i < d.size) : setEl (rowP pre d post) (pre.length + i) (encB x) = some (rowP pre (d.setIfInBounds i x) post):=by
 rw [setEl_put _ _ _ (by simp; omega)]
 congr 1
 unfold rowP
 rw [List.set_append_right _ _ (by omega),List.set_append_left _ _ (by simp; omega)]
 simp [List.map_set]
theorem rowP_write (pre : List (List V)) (d : Array UInt8) (post : List (List V)) {i : Nat} (x : UInt8) (h : i < d.size) : writeR 1 (rowP pre d post) (pre.length + i) 0 [.m (.i .u8 (x.toNat : Int))] = some (rowP pre (d.setIfInBounds i x) post):=by
 rw [writeR_10,rowP_nth pre d post h]
 show (putAt (encB d[i]) 0 [.m (.i .u8 (x.toNat : Int))]).bind _ = _
 have : putAt (encB d[i]) 0 [.m (.i .u8 (x.toNat : Int))] = some (encB x):=by simp [encB]
 rw [this]
 exact rowP_set pre d post x h
theorem rowP_write0 (pre : List (List V)) (d : Array UInt8) (post : List (List V)) (x : UInt8) (h : 0 < d.size) : writeR 1 (rowP pre d post) pre.length 0 [.m (.i .u8 (x.toNat : Int))] = some (rowP pre (d.setIfInBounds 0 x) post):=rowP_write pre d post (i:=0) x h
theorem rowP_last (pre : List (List V)) (d : Array UInt8) (post : List (List V)) (v : Nat) (h : 0 < d.size) (hv : v < 10) : writeR 1 (rowP pre d post) pre.length 0 [.m (.i .u8 (48 + (v : Int)))] = some (rowP pre (d.setIfInBounds 0 (UInt8.ofNat (48 + v))) post):=by
 have:=rowP_write pre d post (i:=0) (UInt8.ofNat (48 + v)) h
 have e : ((UInt8.ofNat (48 + v)).toNat : Int) = 48 + (v : Int):=by simp; omega
 rw [e] at this
 exact this
theorem rowP_shown (pre : List (List V)) (d : Array UInt8) (post : List (List V)) : ((rowP pre d post).drop pre.length).take d.size = d.toList.map encB:=by
 unfold rowP
 rw [List.drop_left,List.take_left' (by simp)]
theorem nth_mid {α : Type} (A : List α) (x : α) (B : List α) : nth (A ++ x :: B) A.length = some x:=by rw [nth_get]; simp
theorem setEl_mid {α : Type} (A : List α) (x y : α) (B : List α) : setEl (A ++ x :: B) A.length y = some (A ++ y :: B):=by
 rw [setEl_put _ _ _ (by simp)]
 congr 1
 rw [List.set_append_right _ _ (by omega)]
 simp

def decN (u : Nat) : List Nat:=(decDigits u).map UInt8.toNat
def itoaN (n : Int) : List Nat:=(Lib.itoa n).map UInt8.toNat
theorem fmt_done {u v' : Nat} {dk : Array UInt8} (h : FmtInv (nDigits u) u 0 v' dk) : dk.toList.map UInt8.toNat = decN u:=by
 have hs : dk.size = (decDigits u).length:=by rw [decDigits_length]; exact h.size
 have : dk.toList = decDigits u:=by
  refine List.ext_getElem (by simpa using hs) fun j h1 h2=>?_
  rw [row_is_numeral h j h2,getElem!_pos dk j (by simpa using h1)]
  simp
 rw [this]; rfl
theorem decN_one {i : Nat} (h : i < 10) : decN i = [48 + i]:=by
 unfold decN
 rw [decDigits_one h]
 simp
 omega
theorem decN_two {i : Nat} (h1 : ¬ i < 10) (h2 : i < 100) : decN i = [48 + i / 10,48 + i % 10]:=by
 unfold decN
 rw [decDigits_two h1 h2]
 simp
 omega
theorem decN_big {u : Nat} (h : ¬ u < 10) : decN u = decN (u / 10) ++ [48 + u % 10]:=by
 unfold decN
 rw [decDigits,dif_neg h]
 simp
 omega
theorem itoaN_pos (u : Nat) : itoaN (u : Int) = decN u:=by unfold itoaN decN; rw [itoa_nonneg]
theorem itoaN_neg (u : Nat) (h : 1 ≤ u) : itoaN (-(u : Int)) = 45 :: decN u:=by unfold itoaN decN; rw [itoa_neg u h]; rfl
theorem gives_of_ret {G : Cfg} {f : Nat} {vs : List V} {H : Hp} {Q : V → Hp → Prop} (h : Ret G f vs H Q) : ∃ v H',Gives G f vs H v H' ∧ Q v H':=by
 obtain ⟨n,v,H',h1,h2⟩:=h
 exact ⟨v,H',⟨n,h1⟩,h2⟩
theorem elems_row (H : Hp) (r ver esz st len : Nat) (lim : Bool) : elems H (.sl r ver esz st len lim) = (nth H r).bind fun row=>match row with
  | .cs _ esz' es base _=>gd (Nat.ble base ver && Nat.beq esz esz') (some ((es.drop st).take len))
  | _=>none:=rfl
end Go.Mx

set_option linter.unusedSimpArgs false
set_option linter.unusedVariables false
set_option linter.unusedSectionVars false
namespace Go.Mx.Tryz
open Go.Lib
attribute [local congr] nth_congr

theorem decN_len (u : Nat) (h : u < 18446744073709551616) : (decN u).length ≤ 20:=by
 unfold decN
 rw [List.length_map,decDigits_length]
 exact nDigits_le20 u h
theorem itoaN_len (n : Int) (h0 : -9223372036854775808 ≤ n) (h1 : n ≤ 9223372036854775807) : (itoaN n).length ≤ 21:=by
 unfold itoaN
 rw [List.length_map]
 exact itoa_length_le n h0 h1
theorem small_tab : ∀ j,¬ j < 10 → j < 100 → (([48,48,48,49,48,50,48,51,48,52,48,53,48,54,48,55,48,56,48,57,49,48,49,49,49,50,49,51,49,52,49,53,49,54,49,55,49,56,49,57,50,48,50,49,50,50,50,51,50,52,50,53,50,54,50,55,50,56,50,57,51,48,51,49,51,50,51,51,51,52,51,53,51,54,51,55,51,56,51,57,52,48,52,49,52,50,52,51,52,52,52,53,52,54,52,55,52,56,52,57,53,48,53,49,53,50,53,51,53,52,53,53,53,54,53,55,53,56,53,57,54,48,54,49,54,50,54,51,54,52,54,53,54,54,54,55,54,56,54,57,55,48,55,49,55,50,55,51,55,52,55,53,55,54,55,55,55,56,55,57,56,48,56,49,56,50,56,51,56,52,56,53,56,54,56,55,56,56,56,57,57,48,57,49,57,50,57,51,57,52,57,53,57,54,57,55,57,56,57,57] : List Nat).drop (j * 2)).take 2 = [48 + j / 10,48 + j % 10]:=by
 have h : ∀ j : Fin 100,(([48,48,48,49,48,50,48,51,48,52,48,53,48,54,48,55,48,56,48,57,49,48,49,49,49,50,49,51,49,52,49,53,49,54,49,55,49,56,49,57,50,48,50,49,50,50,50,51,50,52,50,53,50,54,50,55,50,56,50,57,51,48,51,49,51,50,51,51,51,52,51,53,51,54,51,55,51,56,51,57,52,48,52,49,52,50,52,51,52,52,52,53,52,54,52,55,52,56,52,57,53,48,53,49,53,50,53,51,53,52,53,53,53,54,53,55,53,56,53,57,54,48,54,49,54,50,54,51,54,52,54,53,54,54,54,55,54,56,54,57,55,48,55,49,55,50,55,51,55,52,55,53,55,54,55,55,55,56,55,57,56,48,56,49,56,50,56,51,56,52,56,53,56,54,56,55,56,56,56,57,57,48,57,49,57,50,57,51,57,52,57,53,57,54,57,55,57,56,57,57] : List Nat).drop (j.val * 2)).take 2 = [48 + j.val / 10,48 + j.val % 10]:=by decide +kernel
 exact fun j _ hj=>h ⟨j,hj⟩
theorem dig36 : ∀ j,j < 10 → (([48,49,50,51,52,53,54,55,56,57,97,98,99,100,101,102,103,104,105,106,107,108,109,110,111,112,113,114,115,116,117,118,119,120,121,122] : List Nat).drop j).take 1 = [48 + j]:=by
 have h : ∀ j : Fin 10,(([48,49,50,51,52,53,54,55,56,57,97,98,99,100,101,102,103,104,105,106,107,108,109,110,111,112,113,114,115,116,117,118,119,120,121,122] : List Nat).drop j.val).take 1 = [48 + j.val]:=by decide +kernel
 exact fun j hj=>h ⟨j,hj⟩
section
attribute [local congr] optbind_congr
theorem small100 (u : Nat) (h : u < 100) (H : Hp) : Gives G 173 [.m (.i .i64 u)] H (.m (.s (decN u))) H:=by
 refine gives_pur rfl rfl rfl rfl rfl ?_
 have e1 : ([48,49,50,51,52,53,54,55,56,57,97,98,99,100,101,102,103,104,105,106,107,108,109,110,111,112,113,114,115,116,117,118,119,120,121,122] : List Nat).length = 36:=rfl
 have e2 : ([48,48,48,49,48,50,48,51,48,52,48,53,48,54,48,55,48,56,48,57,49,48,49,49,49,50,49,51,49,52,49,53,49,54,49,55,49,56,49,57,50,48,50,49,50,50,50,51,50,52,50,53,50,54,50,55,50,56,50,57,51,48,51,49,51,50,51,51,51,52,51,53,51,54,51,55,51,56,51,57,52,48,52,49,52,50,52,51,52,52,52,53,52,54,52,55,52,56,52,57,53,48,53,49,53,50,53,51,53,52,53,53,53,54,53,55,53,56,53,57,54,48,54,49,54,50,54,51,54,52,54,53,54,54,54,55,54,56,54,57,55,48,55,49,55,50,55,51,55,52,55,53,55,54,55,55,55,56,55,57,56,48,56,49,56,50,56,51,56,52,56,53,56,54,56,55,56,56,56,57,57,48,57,49,57,50,57,51,57,52,57,53,57,54,57,55,57,56,57,57] : List Nat).length = 200:=rfl
 have s1:=small_tab u
 have s2:=dig36 u
 generalize ([48,49,50,51,52,53,54,55,56,57,97,98,99,100,101,102,103,104,105,106,107,108,109,110,111,112,113,114,115,116,117,118,119,120,121,122] : List Nat) = l1 at e1 s2 ⊢
 generalize ([48,48,48,49,48,50,48,51,48,52,48,53,48,54,48,55,48,56,48,57,49,48,49,49,49,50,49,51,49,52,49,53,49,54,49,55,49,56,49,57,50,48,50,49,50,50,50,51,50,52,50,53,50,54,50,55,50,56,50,57,51,48,51,49,51,50,51,51,51,52,51,53,51,54,51,55,51,56,51,57,52,48,52,49,52,50,52,51,52,52,52,53,52,54,52,55,52,56,52,57,53,48,53,49,53,50,53,51,53,52,53,53,53,54,53,55,53,56,53,57,54,48,54,49,54,50,54,51,54,52,54,53,54,54,54,55,54,56,54,57,55,48,55,49,55,50,55,51,55,52,55,53,55,54,55,55,55,56,55,57,56,48,56,49,56,50,56,51,56,52,56,53,56,54,56,55,56,56,56,57,57,48,57,49,57,50,57,51,57,52,57,53,57,54,57,55,57,56,57,57] : List Nat) = l2 at e2 s1 ⊢
 by_cases h10 : u < 10
 ·have e3 : ((u : Int) + 1).toNat - u = 1:=by omega
  rw [decN_one h10]
  have h10' : (u : Int) < 10:=by omega
  simp (contextual:=true) (maxSteps:=2000000) (disch:=omega) [test_cx,rest_cx,gcall_cx,gcav_cx,-Int.not_lt,-Int.not_le,-Nat.not_lt,-Nat.not_le,-List.map_take,gd_in,gd_and,wr_i64,h10',e1,e3,s2]
 ·have e3 : ((u : Int) * 2 + 2).toNat - u * 2 = 2:=by omega
  have e4 : ((u : Int) * 2).toNat = u * 2:=by omega
  rw [decN_two h10 h]
  have h10' : ¬ (u : Int) < 10:=by omega
  simp (contextual:=true) (maxSteps:=2000000) (disch:=omega) [test_cx,rest_cx,gcall_cx,gcav_cx,-Int.not_lt,-Int.not_le,-Nat.not_lt,-Nat.not_le,-List.map_take,gd_in,gd_and,wr_i64,h10',e2,e3,e4,s1 h10 h]
end
end Go.Mx.Tryz
