/- copy and append. -/
import Derived.Test.YtaomjcmiaiokcaaDoorSndM
import Derived.Maps.AppendAt
namespace Go.Mx
section
variable {P : Program} {w w1 w2 : World} {S S1 S2 : Nat → Prop} {ρ ρ1 ρ2 β β1 : Nat → Nat} {M M1 M' : Mem} {H H2 : Hp} {o : Oper} {a : Act} {vs : List V} {v : V} {call : Call}

/-- What is appended: m elements, their cells. -/
structure Src (P : Program) (w : World) (size m : Nat) (x : Value) (news : List Value) : Prop where
  len : Builtin.lenOf x = pure m
  get : ∀ w' : World, w'.heap = w.heap → (Builtin.firstCells size m x).run P w' = .ok news.toArray w'

theorem cell_heap {w w' : World} (h : w'.heap = w.heap) (p : Addr) : w'.cell? p = w.cell? p := World.cell?_of_block (by rw [h])

theorem Src.slice {size m cap b off : Nat} {news : List Value} (hl : news.length = m * size) (hc : ∀ (j : Nat) u, news[j]? = some u → w.cell? ⟨b, off + j, none⟩ = some u) : Src P w size m (.slice (some ⟨b, off, none⟩) m cap) news :=
  ⟨rfl, fun w' hw => run_firstCells_some w' size m _ m cap news hl fun j u hj => by rw [cell_heap hw, addr_add]; exact hc j u hj⟩

theorem Src.slice' {size m len cap b off : Nat} {news : List Value} (hl : news.length = m * size) (hlen : len = m) (hc : ∀ (j : Nat) u, news[j]? = some u → w.cell? ⟨b, off + j, none⟩ = some u) : Src P w size m (.slice (some ⟨b, off, none⟩) len cap) news := by
  subst hlen
  exact Src.slice hl hc

theorem Src.none {size cap : Nat} {ad : Option Addr} : Src P w size 0 (.slice ad 0 cap) [] :=
  ⟨rfl, fun w' _ => by
    cases ad with
    | none => simp [Builtin.firstCells]
    | some p => simp [Builtin.firstCells, loadCells, loadCellsFrom]⟩

theorem Src.string {size : Nat} (s : ByteArray) : Src P w size s.size (.string s) (Lib.strCells s) :=
  ⟨rfl, fun w' _ => Lib.run_firstCells_string w' size s⟩

section
variable {ts : Array TypeId} {ty t t1 e : TypeId} {u1 : TypeDesc} {i : TypeInfo} {z x : Value} {m : Nat} {news : List Value}

theorem app_room (h0 : ts[0]? = some t) (h1 : ts[1]? = some t1) (ht : P.underlying t = some (.slice e)) (hu1 : P.underlying t1 = some u1) (hn : (∃ e', u1 = .slice e') ∨ u1 = .string) (hi : P.info? e = some i)
    (hs : Src P w i.size m x news) (hl : news.length = m * i.size) {g sLen sCap : Nat} {cur : Array Value} {T : TypeId} (hg : w.heap[g]? = some (.cells cur T (0, 0))) (hone : ∀ u, u ∈ news → u.oneCell' = true) (hroom : sLen + m ≤ sCap) (hfit : sLen * i.size + news.length ≤ cur.size) :
    (Builtin.append_ ts ty #[.slice (some ⟨g, 0, none⟩) sLen sCap, x]).run P w =
      .ok (.slice (some ⟨g, 0, none⟩) (sLen + m) sCap) (w.setRow g (cur.toList.take (sLen * i.size) ++ news ++ cur.toList.drop (sLen * i.size + news.length)).toArray) := by
  have hf := hs.get w rfl
  have hst := run_storeCells_at P g (sLen * i.size) T news 0 cur w hg (by simpa using hfit) hone
  simp only [Nat.add_zero] at hst
  rcases hn with ⟨e', rfl⟩ | rfl <;> simp [Builtin.append_, h0, h1, run_underlying ht, run_underlying hu1, run_sizeOf hi, hs.len, hroom, hf, Addr.add_lit, hst]

theorem app_none (h0 : ts[0]? = some t) (h1 : ts[1]? = some t1) (ht : P.underlying t = some (.slice e)) (hu1 : P.underlying t1 = some u1) (hn : (∃ e', u1 = .slice e') ∨ u1 = .string) (hi : P.info? e = some i)
    (hs : Src P w i.size 0 x []) {ad : Option Addr} {sLen sCap : Nat} (hroom : sLen ≤ sCap) :
    (Builtin.append_ ts ty #[.slice ad sLen sCap, x]).run P w = .ok (.slice ad sLen sCap) w := by
  have hf := hs.get w rfl
  rcases hn with ⟨e', rfl⟩ | rfl <;> cases ad <;> simp [Builtin.append_, h0, h1, run_underlying ht, run_underlying hu1, run_sizeOf hi, hs.len, hroom, hf, storeCells]

theorem app_grow (h0 : ts[0]? = some t) (h1 : ts[1]? = some t1) (ht : P.underlying t = some (.slice e)) (hu1 : P.underlying t1 = some u1) (hn : (∃ e', u1 = .slice e') ∨ u1 = .string) (hi : P.info? e = some i) (hz : i.zero = some z)
    (hs : Src P w i.size m x news) {ad : Option Addr} {sLen sCap : Nat} {olds : List Value} (ho : Src P w i.size sLen (.slice ad sLen sCap) olds) (hg : sCap < sLen + m) (h63 : sLen + m ≤ maxLen) (hby : (sLen + m) * i.bytes ≤ 140737488355328) :
    (Builtin.append_ ts ty #[.slice ad sLen sCap, x]).run P w =
      .ok (.slice (some ⟨w.heap.size, 0, none⟩) (sLen + m) (grownCap w (sLen + m) sCap e)) (w.drew.alloc (.cells (olds.toArray ++ news.toArray ++ Builtin.zeroCells z.cells (grownCap w (sLen + m) sCap e - (sLen + m))) e)) := by
  have hnr : ¬ (sLen + m ≤ sCap) := by omega
  have h63' : ¬ (9223372036854775807 < ((sLen : Int) + (m : Int))) := by unfold maxLen at h63; omega
  have hfit := growslice_fits hg hby
  have h48 : ¬ (281474976710656 < Builtin.nextslicecap (sLen + m) sCap * i.bytes) := by omega
  have hf := hs.get w.drew rfl
  have hfo := ho.get w.drew rfl
  rcases hn with ⟨e', rfl⟩ | rfl <;> simp [Builtin.append_, h0, h1, run_underlying ht, run_underlying hu1, run_sizeOf hi, run_typeInfo hi, run_zeroValue hi hz, hs.len, hnr, h63', h48, Question.forced, hf, hfo, grownCap, run_newRow] <;> rw [← Array.append_assoc, show olds.toArray ++ news.toArray = (olds ++ news).toArray by simp]
end

theorem strCells_map (s : ByteArray) : Lib.strCells s = (s.data.toList.map UInt8.toNat).map fun c : Nat => Value.int .u8 (c : Int) := by
  simp [Lib.strCells]

/-- What is appended, as the machine has it. -/
theorem src_snd {x : V} {c : Value} {xs : List (List V)} (hok : Ok w S ρ β M) (hx : RepX w S ρ β M.H x c) (h : elems M.H x = some xs) (esz : Nat) (hU : Uni esz xs) : ∃ news, Src P w esz xs.length c news ∧ news.length = xs.length * esz ∧ RepL w S ρ M.H xs.flatten news := by
  obtain ⟨ad, cap, esz1, cells, rfl, hu1, hr, hc⟩ := elems_snd hok hx h
  have hl : cells.length = xs.length * esz := by rw [hr.1, hU.len]
  by_cases hne : xs = []
  · subst hne
    have : cells = [] := List.eq_nil_of_length_eq_zero (by simpa using hl)
    subst this
    exact ⟨[], Src.none, by simp, hr⟩
  · obtain ⟨b, off, rfl, hcell, _⟩ := hc hne
    exact ⟨cells, Src.slice hl hcell, hl, hr⟩

theorem src_str {l : List Nat} {c : Value} (hx : RepX w S ρ β M.H (.m (.s l)) c) (esz : Nat) (h1 : esz = 1) : ∃ news, Src P w esz (l.map fun c : Nat => [V.m (.i .u8 (Int.ofNat c))]).length c news ∧ news.length = (l.map fun c : Nat => [V.m (.i .u8 (Int.ofNat c))]).length * esz ∧
    RepL w S ρ M.H (l.map fun c : Nat => [V.m (.i .u8 (Int.ofNat c))]).flatten news := by
  subst h1
  obtain ⟨s, rfl, rfl⟩ := repI_str (RepX.toV rfl hx)
  refine ⟨Lib.strCells s, by simpa using Src.string s, by simp [Lib.strCells_length], ?_⟩
  rw [strCells_map]
  generalize s.data.toList.map UInt8.toNat = l
  induction l with
  | nil => exact .nil
  | cons c l ih => exact .cons (.m (.i .u8 _)) ih

theorem zc_size (z : Array Value) (n : Nat) : (Builtin.zeroCells z n).size = n * z.size := size_zeroCells z n

/-- Appending where there is no room, to what the machine will not look at again: a new row. -/
theorem app_new {c : Go.Call} {t t1 e : TypeId} {u1 : TypeDesc} {esz bytes : Nat} {z : Value} {i : TypeInfo} {x : Value} {xs es0 : List (List V)} {news olds : List Value} {ad : Option Addr} {sCap : Nat} {val : V} (ho : o.op = .call c) (hb : c.callee = .builtin .append) (h0 : c.argTypes[0]? = some t) (h1 : c.argTypes[1]? = some t1) (ht : P.underlying t = some (.slice e)) (hu1 : P.underlying t1 = some u1) (hn : (∃ e', u1 = .slice e') ∨ u1 = .string)
    (hi : P.info? e = some i) (hz : i.zero = some z) (hzs : z.cells.size = i.size) (hesz : i.size = esz) (hby : i.bytes = bytes) (hb1 : 1 ≤ bytes) (hok : Ok w S ρ β M) (hm : c.args.map a.eval = #[.slice ad es0.length sCap, x])
    (hs : Src P w esz xs.length x news) (hnl : news.length = xs.length * esz) (hnr : RepL w S ρ M.H xs.flatten news) (hos : Src P w esz es0.length (.slice ad es0.length sCap) olds) (hol : olds.length = es0.length * esz) (hor : RepL w S ρ M.H es0.flatten olds)
    (hg : sCap < es0.length + xs.length) (he : newRow M e esz bytes (es0 ++ xs) = some (val, M')) :
    Outc w S ρ β M (.l (.app e esz bytes)) val M' ((execOp a.eval o).run P w) := by
  subst hesz; subst hby
  simp only [newRow, gd_some, Bool.and_eq_true, Nat.ble_eq, Option.some.injEq, Prod.mk.injEq, List.all_eq_true, Nat.beq_eq] at he
  obtain ⟨⟨⟨hbs, hpos⟩, hall⟩, rfl, rfl⟩ := he
  rw [List.length_append] at hbs
  have h47 : es0.length + xs.length ≤ 140737488355328 := by
    have : (es0.length + xs.length) * 1 ≤ (es0.length + xs.length) * i.bytes := Nat.mul_le_mul_left _ hb1
    omega
  have h63 : es0.length + xs.length ≤ maxLen := by unfold maxLen; omega
  have hrun := app_grow (P := P) (w := w) (ty := o.type) h0 h1 ht hu1 hn hi hz hs hos hg h63 hbs
  have hU : Uni i.size (es0 ++ xs) := fun e he => (hall e he).1
  have hcm := grownCap_le_maxLen w _ sCap e h63
  have hge := grownCap_ge w (es0.length + xs.length) sCap e
  have hsize : (olds.toArray ++ news.toArray ++ Builtin.zeroCells z.cells (grownCap w (es0.length + xs.length) sCap e - (es0.length + xs.length))).size = grownCap w (es0.length + xs.length) sCap e * i.size := by
    simp only [Array.size_append, List.size_toArray, zc_size, hzs, hol, hnl, ← Nat.add_mul]
    congr 1
    omega
  have hh := heap_alloc_new w.drew (.cells (olds.toArray ++ news.toArray ++ Builtin.zeroCells z.cells (grownCap w (es0.length + xs.length) sCap e - (es0.length + xs.length))) e)
  refine row_snd (cap := grownCap w (es0.length + xs.length) sCap e) (c := .slice (some ⟨w.heap.size, 0, none⟩) (es0.length + xs.length) (grownCap w (es0.length + xs.length) sCap e)) (w' := w.drew.alloc (.cells (olds.toArray ++ news.toArray ++ Builtin.zeroCells z.cells (grownCap w (es0.length + xs.length) sCap e - (es0.length + xs.length))) e)) hok hpos hU (grown_drew_alloc w _) (by simp) hh (by simpa using hge) hcm hsize ?_ (run_call_builtin ho hb (fun _ => by rw [hm]; rfl) hrun) (fun ρ' hρ => ?_)
  · have : (olds.toArray ++ news.toArray ++ Builtin.zeroCells z.cells (grownCap w (es0.length + xs.length) sCap e - (es0.length + xs.length))).toList.take ((es0 ++ xs).length * i.size) = olds ++ news := by
      simp only [Array.toList_append, List.length_append]
      rw [List.take_append_of_le_length (by simp; rw [hol, hnl, Nat.add_mul]; omega), List.take_of_length_le (by simp; rw [hol, hnl, Nat.add_mul]; omega)]
    rw [this, List.flatten_append]
    exact hor.append hnr
  · rw [List.length_append]
    exact .sl M.H.length (es0.length + xs.length) i.size 0 (es0.length + xs.length) false e (es0 ++ xs) 0 false _ _ (new_get _ _) (by omega) (by simp) hge hcm (fun h => by cases h) (fun _ => ⟨_, rfl⟩) (fun _ _ => ⟨w.heap.size, by simp, .inl hρ.symm⟩) (fun _ _ _ _ => ⟨by rw [hρ], _, (0, 0), by rw [hρ]; exact hh, hsize⟩)
end
end Go.Mx
