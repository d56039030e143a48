/- Lists of immutable values of one cell in rows of their own: what appending, reading, cutting and viewing do. -/
import Derived.Test.YtcdcepfigjohfaaGreatDoorStr
set_option linter.unusedSimpArgs false
set_option linter.unusedVariables false
set_option linter.unusedSectionVars false
set_option maxRecDepth 100000
namespace Go.Mx.Tryz

def onV (xs : List I) : List (List V) := xs.map fun x => [.m x]
@[simp] theorem onV_len (xs : List I) : (onV xs).length = xs.length := by simp [onV]
theorem onV_app (xs ys : List I) : onV xs ++ onV ys = onV (xs ++ ys) := by simp [onV]
theorem onV_nth {xs : List I} {i : Nat} {x : I} (h : xs[i]? = some x) : nth (onV xs) i = some [.m x] := by
 rw [nth_get]
 simp [onV, h]
theorem onV_sub (xs : List I) (a n : Nat) : ((onV xs).drop a).take n = onV ((xs.drop a).take n) := by
 unfold onV
 rw [List.map_take, List.map_drop]
def on1 (xs : List I) : List (List I) := xs.map fun x => [x]
@[simp] theorem on1_len (xs : List I) : (on1 xs).length = xs.length := by simp [on1]
theorem on1_nth {xs : List I} {i : Nat} {x : I} (h : xs[i]? = some x) : nth (on1 xs) i = some [x] := by
 rw [nth_get]
 simp [on1, h]
def noAg (xs : List I) : Prop := ∀ x, x ∈ xs → oneV (.m x) = true
theorem onV_ok {xs : List I} (h : noAg xs) : ((onV xs).all fun e => Nat.beq e.length 1 && e.all oneV) = true := by
 rw [List.all_eq_true]
 intro e he
 obtain ⟨x, hx, rfl⟩ := List.mem_map.1 he
 simp [h x hx]
theorem onV_isM (xs : List I) : ((onV xs).all fun e => e.all isM) = true := by
 rw [List.all_eq_true]
 intro e he
 obtain ⟨x, hx, rfl⟩ := List.mem_map.1 he
 rfl
def LR (ty : Nat) (xs : List I) (o : V) (H : Hp) (ok : Nat → Prop) : Prop := (xs = [] ∧ o = .m (.nl 4)) ∨ (xs ≠ [] ∧ ∃ r, ok r ∧ o = .sl r xs.length 1 0 xs.length false ∧ nth H r = some (.cs ty 1 (onV xs) 0 false))
theorem LR.nil {ty : Nat} {H : Hp} {ok : Nat → Prop} : LR ty [] (.m (.nl 4)) H ok := .inl ⟨rfl, rfl⟩
theorem LR.keep {ty : Nat} {xs : List I} {o : V} {H H' : Hp} {ok ok' : Nat → Prop} (h : LR ty xs o H ok) (hk : ∀ r, ok r → nth H' r = nth H r) (ho : ∀ r, ok r → r < H.length → ok' r) : LR ty xs o H' ok' := by
 rcases h with h | ⟨hne, r, hr, e, h3⟩
 ·exact .inl h
 ·exact .inr ⟨hne, r, ho r hr (nl_lt h3), e, by rw [hk r hr]; exact h3⟩
theorem LR.nf {ty : Nat} {xs : List I} {o : V} {H : Hp} {ok : Nat → Prop} (h : LR ty xs o H ok) : noFaV o = true ∧ cellsV o = some [o] ∧ oneV o = true ∧ pureX (.len false) [o] = some (.m (.i .i64 (xs.length : Nat))) := by
 rcases h with ⟨rfl, rfl⟩ | ⟨hne, r, hr, rfl, h3⟩
 ·exact ⟨rfl, rfl, rfl, rfl⟩
 ·exact ⟨rfl, rfl, rfl, rfl⟩
theorem LR.rd {ty : Nat} {xs : List I} {o : V} {H : Hp} {ok : Nat → Prop} (h : LR ty xs o H ok) {i : Nat} {x : I} (hx : xs[i]? = some x) : ∃ p, pureX (.ixa 1) [o, .m (.i .i64 (i : Int))] = some p ∧ noFaV p = true ∧ ∀ B, readX ⟨B, H⟩ (.ld false 1) [p] = some (.m x) := by
 have hlt := (List.getElem?_eq_some_iff.1 hx).1
 rcases h with ⟨rfl, rfl⟩ | ⟨hne, r, hr, rfl, h3⟩
 ·simp at hlt
 ·refine ⟨.pt r xs.length i 0, ?_, rfl, fun B => ?_⟩
  ·simp (maxSteps := 2000000) (disch := omega) [gd_in, gd_and, wr_i64, hlt, show (i : Int) < xs.length from by omega]
  ·simp (maxSteps := 2000000) (disch := omega) [gd_in, gd_and, wr_i64, onV_nth hx, h3]
theorem LR.elems {ty : Nat} {xs : List I} {o : V} {H : Hp} {ok : Nat → Prop} (h : LR ty xs o H ok) : Mx.elems H o = some (onV xs) := by
 rcases h with ⟨rfl, rfl⟩ | ⟨hne, r, hr, rfl, h3⟩
 ·rfl
 ·rw [elems_row, h3]
  show gd (Nat.ble 0 xs.length && Nat.beq 1 1) (some (((onV xs).drop 0).take xs.length)) = _
  rw [ble_dec, decide_eq_true (Nat.zero_le _), List.drop_zero, List.take_of_length_le (by simp)]
  rfl
theorem LR.from {ty : Nat} {xs : List I} {o : V} {H : Hp} {ok : Nat → Prop} (h : LR ty xs o H ok) {k : Nat} (hk : k ≤ xs.length) : ∃ p, pureX (.slc 1 true false false) [o, .m (.i .i64 (k : Int))] = some p ∧ noFaV p = true ∧ Mx.elems H p = some (onV (xs.drop k)) := by
 rcases h with ⟨rfl, rfl⟩ | ⟨hne, r, hr, rfl, h3⟩
 ·have : k = 0 := by simpa using hk
  subst this
  exact ⟨_, rfl, rfl, rfl⟩
 ·refine ⟨.sl r xs.length 1 (0 + k) (xs.length - k) (false || (false && Nat.beq xs.length xs.length)), ?_, rfl, ?_⟩
  ·simp (maxSteps := 2000000) (disch := omega) [gd_in, gd_and, wr_i64, show (k : Int) ≤ xs.length from by omega, hk]
  ·rw [elems_row, h3]
   show gd (Nat.ble 0 xs.length && Nat.beq 1 1) (some (((onV xs).drop (0 + k)).take (xs.length - k))) = _
   rw [ble_dec, decide_eq_true (Nat.zero_le _), Nat.zero_add, List.take_of_length_le (by simp)]
   show some ((onV xs).drop k) = _
   unfold onV
   rw [List.map_drop]
theorem LR.push {ty b n0 : Nat} {xs : List I} {o : V} {H : Hp} (h : LR ty xs o H (n0 ≤ ·)) (hn : n0 ≤ H.length) (hb : b ≤ 1000) {ys : List I} (hl : xs.length + ys.length ≤ 100000000) (ha : noAg ys) : ∃ o1 H1, (∀ B, appX ⟨B, H⟩ ty 1 b o (onV ys) = some (o1, ⟨B, H1⟩)) ∧ noFaV o1 = true ∧ LR ty (xs ++ ys) o1 H1 (n0 ≤ ·) ∧ n0 ≤ H1.length ∧ H.length ≤ H1.length ∧ ∀ r, r < n0 → nth H1 r = nth H r := by
 have hmul : (xs.length + ys.length) * b ≤ 100000000 * 1000 := Nat.mul_le_mul hl hb
 cases ys with
 | nil =>
  refine ⟨o, H, fun B => ?_, h.nf.1, by rw [List.append_nil]; exact h, hn, Nat.le_refl _, fun _ _ => rfl⟩
  rcases h with ⟨rfl, rfl⟩ | ⟨hne, r, hr, rfl, h3⟩ <;> rfl
 | cons y t =>
  rcases h with ⟨rfl, rfl⟩ | ⟨hne, r, hr, rfl, h3⟩
  ·refine ⟨.sl H.length (y :: t).length 1 0 (y :: t).length false, H ++ [.cs ty 1 (onV (y :: t)) 0 false], fun B => ?_, rfl, .inr ⟨by simp, H.length, hn, rfl, nl_end H _ 0⟩, by simp; omega, by simp, fun r hr => nl_app _ _ _ (by omega)⟩
   show newRow ⟨B, H⟩ ty 1 b (onV (y :: t)) = _
   rw [newRow_eq, onV_ok ha, onV_len]
   have : Nat.ble ((y :: t).length * b) 140737488355328 = true := by
    rw [ble_dec]
    refine decide_eq_true ?_
    simp only [List.length_nil, Nat.zero_add] at hmul
    omega
   rw [this]
   rfl
  ·have ha2 := fun B => app_row (M := ⟨B, H⟩) (bytes := b) (xs := onV (y :: t)) h3 (by simp [onV]) (by simp only [onV_len]; omega) (onV_ok ha)
   simp only [onV_len, onV_app] at ha2
   have el : xs.length + (y :: t).length = (xs ++ y :: t).length := by simp
   rw [el] at ha2
   refine ⟨_, _, ha2, rfl, .inr ⟨by simp, r, hr, rfl, nl_set_eq (nl_lt h3)⟩, by simp; omega, by simp, fun q hq => nl_set_ne fun e => ?_⟩
   subst e
   have : n0 ≤ r := hr
   omega
def zL (xs : List I) : I := if xs = [] then .nl 4 else .sl (on1 xs)
theorem zL_sl (xs : List I) : IsSl (zL xs) (on1 xs) := by
 unfold zL
 split
 ·rename_i h; subst h; exact isSl_nil
 ·exact isSl_sl _
theorem zL_one (xs : List I) : oneV (.m (zL xs)) = true := by
 unfold zL
 split <;> rfl
theorem optV (k : Nat) (H : Hp) : ∀ xs : List I, optMap (fun e => optMap (view (k + 1) H) e) (onV xs) = some (on1 xs)
 | [] => rfl
 | x :: r => by
  show Option.bind (some [x]) _ = _
  simp only [Option.bind_some]
  show Option.bind (optMap _ (onV r)) _ = _
  rw [optV k H r]
  rfl
theorem LR.view {ty : Nat} {xs : List I} {o : V} {H : Hp} {ok : Nat → Prop} (h : LR ty xs o H ok) (k : Nat) : Mx.view (k + 2) H o = some (zL xs) := by
 have he := h.elems
 rcases h with ⟨rfl, rfl⟩ | ⟨hne, r, hr, rfl, h3⟩
 ·rfl
 ·show Option.bind (Mx.elems H (.sl r xs.length 1 0 xs.length false)) _ = _
  rw [he]
  show Option.bind (optMap (fun e => optMap (Mx.view (k + 1) H) e) (onV xs)) _ = _
  rw [optV]
  unfold zL
  rw [if_neg hne]
  rfl
theorem freezeV {H : Hp} {r ty : Nat} {xs : List I} {b : Nat} {fz : Bool} (h : nth H r = some (.cs ty 1 (onV xs) b fz)) : freeze [r] H = some (H.set r (.cs ty 1 (onV xs) b true)) := by
 show Option.bind (nth H r) _ = _
 rw [h]
 show Option.bind (gd ((onV xs).all fun e => e.all isM) (some (Row.cs ty 1 (onV xs) b true))) _ = _
 rw [onV_isM]
 show Option.bind (setEl H r _) _ = _
 rw [setEl_put _ _ _ (nl_lt h)]
 rfl
theorem LR.viewR {ty : Nat} {xs : List I} {o : V} {H : Hp} {ok : Nat → Prop} (h : LR ty xs o H ok) : Mx.viewR H o = some (.m (zL xs)) := by
 have hv := h.view 18
 rcases h with ⟨rfl, rfl⟩ | ⟨hne, r, hr, rfl, h3⟩
 ·rfl
 ·show (Mx.view 20 H (.sl r xs.length 1 0 xs.length false)).bind _ = _
  rw [hv]
  rfl
theorem LR.call {ty : Nat} {xs : List I} {o : V} {H : Hp} {ok : Nat → Prop} (h : LR ty xs o H ok) {F : Nat} {ys : List I} {v : V} {H0 : Hp} (hp : G.prim F = none) (hs : G.sh F = false) (hg : Gives G F ((zL xs :: ys).map .m) H0 v H0) (hf : flatV v = true) : Gives G F (o :: ys.map .m) H v H := by
 obtain ⟨r1, r2, r3, r4, r5⟩ := refs_imm (vs := ys.map .m) (is := ys) (allM_imm ys)
 refine gives_view (is := zL xs :: ys) hp hs hg ?_ ?_
 ·show (Mx.view 20 H o).bind _ = _
  rw [h.view 18, Option.bind_some, r5 19 H]
  rfl
 ·rcases h with ⟨rfl, rfl⟩ | ⟨hne, r, hr, rfl, h3⟩
  ·exact .inl ⟨by simp [refs, ref1], by simp [shallow, shallow1]⟩
  ·exact .inr ⟨by simp [refs, ref1], hf⟩
theorem loud_elems {call : Call} {M : Mem} {ty esz b : Nat} {s x : V} {e : List (List V)} (h : Mx.elems M.H x = some e) : loudX call M (.app ty esz b) [s, x] = appX M ty esz b s e := by
 cases x with
 | m x =>
  cases x with
  | s l => simp [Mx.elems] at h
  | _ => simp only [loudX]; rw [h]; rfl
 | _ => simp only [loudX]; rw [h]; rfl
end Go.Mx.Tryz
