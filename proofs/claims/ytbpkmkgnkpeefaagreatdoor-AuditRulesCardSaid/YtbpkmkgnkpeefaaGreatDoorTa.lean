/- Rules: neighbourhoods, trees, values, generations: plain facts. -/
import Derived.Test.YtbpkmkgnkpeefaaGreatDoorDec
import Derived.Test.YtbpkmkgnkpeefaaGreatDoorWa
set_option linter.unusedSimpArgs false
set_option linter.unusedVariables false
set_option linter.unusedSectionVars false
set_option maxRecDepth 100000
namespace Go.Mx.Tryz
open Go.Lib
attribute [local congr] nth_congr

theorem len8_tab : ∀ j,j < 256 → nth ([0,1,2,2,3,3,3,3,4,4,4,4,4,4,4,4,5,5,5,5,5,5,5,5,5,5,5,5,5,5,5,5,6,6,6,6,6,6,6,6,6,6,6,6,6,6,6,6,6,6,6,6,6,6,6,6,6,6,6,6,6,6,6,6,7,7,7,7,7,7,7,7,7,7,7,7,7,7,7,7,7,7,7,7,7,7,7,7,7,7,7,7,7,7,7,7,7,7,7,7,7,7,7,7,7,7,7,7,7,7,7,7,7,7,7,7,7,7,7,7,7,7,7,7,7,7,7,7,8,8,8,8,8,8,8,8,8,8,8,8,8,8,8,8,8,8,8,8,8,8,8,8,8,8,8,8,8,8,8,8,8,8,8,8,8,8,8,8,8,8,8,8,8,8,8,8,8,8,8,8,8,8,8,8,8,8,8,8,8,8,8,8,8,8,8,8,8,8,8,8,8,8,8,8,8,8,8,8,8,8,8,8,8,8,8,8,8,8,8,8,8,8,8,8,8,8,8,8,8,8,8,8,8,8,8,8,8,8,8,8,8,8,8,8,8,8,8,8,8,8,8,8,8,8,8,8] : List Nat) j = some (bitLenAux 8 j):=by
 have h : ∀ j : Fin 256,nth ([0,1,2,2,3,3,3,3,4,4,4,4,4,4,4,4,5,5,5,5,5,5,5,5,5,5,5,5,5,5,5,5,6,6,6,6,6,6,6,6,6,6,6,6,6,6,6,6,6,6,6,6,6,6,6,6,6,6,6,6,6,6,6,6,7,7,7,7,7,7,7,7,7,7,7,7,7,7,7,7,7,7,7,7,7,7,7,7,7,7,7,7,7,7,7,7,7,7,7,7,7,7,7,7,7,7,7,7,7,7,7,7,7,7,7,7,7,7,7,7,7,7,7,7,7,7,7,7,8,8,8,8,8,8,8,8,8,8,8,8,8,8,8,8,8,8,8,8,8,8,8,8,8,8,8,8,8,8,8,8,8,8,8,8,8,8,8,8,8,8,8,8,8,8,8,8,8,8,8,8,8,8,8,8,8,8,8,8,8,8,8,8,8,8,8,8,8,8,8,8,8,8,8,8,8,8,8,8,8,8,8,8,8,8,8,8,8,8,8,8,8,8,8,8,8,8,8,8,8,8,8,8,8,8,8,8,8,8,8,8,8,8,8,8,8,8,8,8,8,8,8,8,8,8,8,8] : List Nat) j.val = some (bitLenAux 8 j.val):=by decide +kernel
 exact fun j hj=>h ⟨j,hj⟩
theorem bl_path {u k : Nat} (h1 : k = 0 ∨ 2 ^ k ≤ u) (h2 : u / 2 ^ k < 256) (h : u < 2 ^ 64) : Lib.bitLen u = k + bitLenAux 8 (u / 2 ^ k):=by
 rcases h1 with rfl | h1
 ·simp only [Nat.pow_zero,Nat.div_one] at h2 ⊢
  rw [bl_8 h2]; omega
 ·rw [bl_add h1 h,bl_8 h2]
theorem len64 (u : Nat) (h : u < 18446744073709551616) (H : Hp) : Gives G 161 [.m (.i .u64 u)] H (.m (.i .i64 (Lib.bitLen u))) H:=by
 refine gives_pur rfl rfl rfl rfl rfl ?_
 have ht:=len8_tab
 have hl : ([0,1,2,2,3,3,3,3,4,4,4,4,4,4,4,4,5,5,5,5,5,5,5,5,5,5,5,5,5,5,5,5,6,6,6,6,6,6,6,6,6,6,6,6,6,6,6,6,6,6,6,6,6,6,6,6,6,6,6,6,6,6,6,6,7,7,7,7,7,7,7,7,7,7,7,7,7,7,7,7,7,7,7,7,7,7,7,7,7,7,7,7,7,7,7,7,7,7,7,7,7,7,7,7,7,7,7,7,7,7,7,7,7,7,7,7,7,7,7,7,7,7,7,7,7,7,7,7,8,8,8,8,8,8,8,8,8,8,8,8,8,8,8,8,8,8,8,8,8,8,8,8,8,8,8,8,8,8,8,8,8,8,8,8,8,8,8,8,8,8,8,8,8,8,8,8,8,8,8,8,8,8,8,8,8,8,8,8,8,8,8,8,8,8,8,8,8,8,8,8,8,8,8,8,8,8,8,8,8,8,8,8,8,8,8,8,8,8,8,8,8,8,8,8,8,8,8,8,8,8,8,8,8,8,8,8,8,8,8,8,8,8,8,8,8,8,8,8,8,8,8,8,8,8,8,8] : List Nat).length = 256:=rfl
 generalize ([0,1,2,2,3,3,3,3,4,4,4,4,4,4,4,4,5,5,5,5,5,5,5,5,5,5,5,5,5,5,5,5,6,6,6,6,6,6,6,6,6,6,6,6,6,6,6,6,6,6,6,6,6,6,6,6,6,6,6,6,6,6,6,6,7,7,7,7,7,7,7,7,7,7,7,7,7,7,7,7,7,7,7,7,7,7,7,7,7,7,7,7,7,7,7,7,7,7,7,7,7,7,7,7,7,7,7,7,7,7,7,7,7,7,7,7,7,7,7,7,7,7,7,7,7,7,7,7,8,8,8,8,8,8,8,8,8,8,8,8,8,8,8,8,8,8,8,8,8,8,8,8,8,8,8,8,8,8,8,8,8,8,8,8,8,8,8,8,8,8,8,8,8,8,8,8,8,8,8,8,8,8,8,8,8,8,8,8,8,8,8,8,8,8,8,8,8,8,8,8,8,8,8,8,8,8,8,8,8,8,8,8,8,8,8,8,8,8,8,8,8,8,8,8,8,8,8,8,8,8,8,8,8,8,8,8,8,8,8,8,8,8,8,8,8,8,8,8,8,8,8,8,8,8,8,8] : List Nat) = tab at ht hl
 have b8 : ∀ j,j < 256 → bitLenAux 8 j ≤ 8:=by
  have h : ∀ j : Fin 256,bitLenAux 8 j.val ≤ 8:=by decide +kernel
  exact fun j hj=>h ⟨j,hj⟩
 have fin : ∀ (k j : Nat) (x : Int),(k = 0 ∨ 2 ^ k ≤ u) → u / 2 ^ k < 256 → x.toNat = u / 2 ^ k → Lib.bitLen u = k + bitLenAux 8 x.toNat:=fun k _ x a b c=>by rw [c]; exact bl_path a b h
 simp (contextual:=true) (maxSteps:=2000000) (disch:=omega) [test_cx,rest_cx,gcall_cx,gcav_cx,-Int.not_lt,-Int.not_le,-Nat.not_lt,-Nat.not_le,-List.map_take,wr_u8,bitsK,ht,hl]
 repeat' first | with_reducible apply And.intro | intro _
 all_goals
  have q:=b8
  first
   | (have e:=fin 56 0 (u / 4294967296 / 65536 / 256) (by omega) (by omega) (by omega); have:=b8 ((u : Int) / 4294967296 / 65536 / 256).toNat (by omega); simp (disch:=omega) only [wr_i64]; omega)
   | (have e:=fin 48 0 (u / 4294967296 / 65536) (by omega) (by omega) (by omega); have:=b8 ((u : Int) / 4294967296 / 65536).toNat (by omega); simp (disch:=omega) only [wr_i64]; omega)
   | (have e:=fin 40 0 (u / 4294967296 / 256) (by omega) (by omega) (by omega); have:=b8 ((u : Int) / 4294967296 / 256).toNat (by omega); simp (disch:=omega) only [wr_i64]; omega)
   | (have e:=fin 32 0 (u / 4294967296) (by omega) (by omega) (by omega); have:=b8 ((u : Int) / 4294967296).toNat (by omega); simp (disch:=omega) only [wr_i64]; omega)
   | (have e:=fin 24 0 (u / 65536 / 256) (by omega) (by omega) (by omega); have:=b8 ((u : Int) / 65536 / 256).toNat (by omega); simp (disch:=omega) only [wr_i64]; omega)
   | (have e:=fin 16 0 (u / 65536) (by omega) (by omega) (by omega); have:=b8 ((u : Int) / 65536).toNat (by omega); simp (disch:=omega) only [wr_i64]; omega)
   | (have e:=fin 8 0 (u / 256) (by omega) (by omega) (by omega); have:=b8 ((u : Int) / 256).toNat (by omega); simp (disch:=omega) only [wr_i64]; omega)
   | (have e:=fin 0 0 u (by omega) (by omega) (by omega); have:=b8 u (by omega); simp only [Int.toNat_natCast] at e; simp (disch:=omega) only [wr_i64]; omega)
   | trace_state

theorem log10 (x : Nat) (h : x ≤ 64) (H : Hp) : Gives G 178 [.m (.i .i64 x)] H (.m (.i .i64 (l10 x))) H:=by
 refine gives_pur rfl rfl rfl rfl rfl ?_
 simp (contextual:=true) (maxSteps:=2000000) (disch:=omega) [test_cx,rest_cx,gcall_cx,gcav_cx,-Int.not_lt,-Int.not_le,-Nat.not_lt,-Nat.not_le,-List.map_take,wr_i64,bitsK,l10]
theorem bool2 (b : Bool) (H : Hp) : Gives G 179 [.m (.b b)] H (.m (.i .i64 (if b = true then 1 else 0))) H:=by
 refine gives_pur rfl rfl rfl rfl rfl ?_
 cases b <;> simp
theorem pow10_at : ∀ j : Nat,j < 20 → takeN 1 ((g1.drop j).map V.m) = some [.m (.i .u64 ((10 ^ j : Nat) : Int))]:=by
 intro j hj
 match j,hj with
 | 0,_=>rfl
 | 1,_=>rfl
 | 2,_=>rfl
 | 3,_=>rfl
 | 4,_=>rfl
 | 5,_=>rfl
 | 6,_=>rfl
 | 7,_=>rfl
 | 8,_=>rfl
 | 9,_=>rfl
 | 10,_=>rfl
 | 11,_=>rfl
 | 12,_=>rfl
 | 13,_=>rfl
 | 14,_=>rfl
 | 15,_=>rfl
 | 16,_=>rfl
 | 17,_=>rfl
 | 18,_=>rfl
 | 19,_=>rfl
 | n + 20,h=>omega
theorem numDig (u : Nat) (h1 : 1 ≤ u) (h : u < 18446744073709551616) (H : Hp) : Gives G 174 [.m (.i .u64 u)] H (.m (.i .i64 (nDigits u))) H:=by
 refine gives_pur rfl rfl rfl rfl rfl ?_
 obtain ⟨e1,e2⟩:=numDigits_eq u h1 h
 have e3 : Lib.bitLen u ≤ 64:=by
  obtain ⟨b1,b2,b3⟩:=bl_bounds u (by omega) h
  have c2 : 2 ^ (Lib.bitLen u - 1) < 2 ^ 64:=by omega
  have:=(Nat.pow_lt_pow_iff_right (a:=2) (by decide)).1 c2
  omega
 have hp:=pow10_at (l10 (Lib.bitLen u)) (by omega)
 rw [List.map_drop] at hp
 generalize hL : l10 (Lib.bitLen u) = L at *
 have hL20 : (L : Int) < 20:=by omega
 simp (contextual:=true) (maxSteps:=2000000) (disch:=omega) [test_cx,rest_cx,gcall_cx,gcav_cx,-Int.not_lt,-Int.not_le,-Nat.not_lt,-Nat.not_le,-List.map_take,cl (len64 u h []),cl (log10 _ e3 []),cl (bool2 _ []),hp,hL,hL20]
 have e4 : ((10 : Int) ^ L ≤ u) = (10 ^ L ≤ u):=propext ⟨fun h=>by exact_mod_cast h,fun h=>by exact_mod_cast h⟩
 by_cases q : 10 ^ L ≤ u
 ·rw [if_pos q] at e1
  rw [if_pos (e4 ▸ q),wr_i64] <;> omega
 ·rw [if_neg q] at e1
  rw [if_neg (e4 ▸ q),wr_i64] <;> omega

theorem sm_tab : ∀ j,j < 200 → nth ([48,48,48,49,48,50,48,51,48,52,48,53,48,54,48,55,48,56,48,57,49,48,49,49,49,50,49,51,49,52,49,53,49,54,49,55,49,56,49,57,50,48,50,49,50,50,50,51,50,52,50,53,50,54,50,55,50,56,50,57,51,48,51,49,51,50,51,51,51,52,51,53,51,54,51,55,51,56,51,57,52,48,52,49,52,50,52,51,52,52,52,53,52,54,52,55,52,56,52,57,53,48,53,49,53,50,53,51,53,52,53,53,53,54,53,55,53,56,53,57,54,48,54,49,54,50,54,51,54,52,54,53,54,54,54,55,54,56,54,57,55,48,55,49,55,50,55,51,55,52,55,53,55,54,55,55,55,56,55,57,56,48,56,49,56,50,56,51,56,52,56,53,56,54,56,55,56,56,56,57,57,48,57,49,57,50,57,51,57,52,57,53,57,54,57,55,57,56,57,57] : List Nat) j = some (sm j).toNat:=by
 have h : ∀ j : Fin 200,nth ([48,48,48,49,48,50,48,51,48,52,48,53,48,54,48,55,48,56,48,57,49,48,49,49,49,50,49,51,49,52,49,53,49,54,49,55,49,56,49,57,50,48,50,49,50,50,50,51,50,52,50,53,50,54,50,55,50,56,50,57,51,48,51,49,51,50,51,51,51,52,51,53,51,54,51,55,51,56,51,57,52,48,52,49,52,50,52,51,52,52,52,53,52,54,52,55,52,56,52,57,53,48,53,49,53,50,53,51,53,52,53,53,53,54,53,55,53,56,53,57,54,48,54,49,54,50,54,51,54,52,54,53,54,54,54,55,54,56,54,57,55,48,55,49,55,50,55,51,55,52,55,53,55,54,55,55,55,56,55,57,56,48,56,49,56,50,56,51,56,52,56,53,56,54,56,55,56,56,56,57,57,48,57,49,57,50,57,51,57,52,57,53,57,54,57,55,57,56,57,57] : List Nat) j.val = some (sm j.val).toNat:=by decide +kernel
 exact fun j hj=>h ⟨j,hj⟩
set_option maxHeartbeats 4000000 in
theorem fmt10 (pre post : List (List V)) (d : Array UInt8) (u n ty b : Nat) (lim : Bool) (H1 H2 : Hp) (hn : n = pre.length + (d.size + post.length)) (h10 : u < 10 ^ d.size) (h64 : u < 18446744073709551616) (hd : 1 ≤ d.size) (hd2 : d.size ≤ 24) (hb : b ≤ n) :
  ∃ d' v',FmtInv d.size u 0 v' d' ∧ Gives G 175 [.sl H1.length n 1 pre.length d.size lim,.m (.i .u64 u)] (H1 ++ .cs ty 1 (rowP pre d post) b false :: H2) (.tu []) (H1 ++ .cs ty 1 (rowP pre d' post) n false :: H2):=by
 suffices h : ∀ Q : V → Hp → Prop,(∀ d' v',FmtInv d.size u 0 v' d' → Q (.tu []) (H1 ++ .cs ty 1 (rowP pre d' post) n false :: H2)) → Ret G 175 [.sl H1.length n 1 pre.length d.size lim,.m (.i .u64 u)] (H1 ++ .cs ty 1 (rowP pre d post) b false :: H2) Q by
  obtain ⟨v,H',h1,d',v',h2,rfl,rfl⟩:=gives_of_ret (h (fun v H'=>∃ d' v',FmtInv d.size u 0 v' d' ∧ v = .tu [] ∧ H' = H1 ++ .cs ty 1 (rowP pre d' post) n false :: H2) fun d' v' h=>⟨d',v',h,rfl,rfl⟩)
  exact ⟨d',v',h2,h1⟩
 intro Q hQ
 refine ret_sh mono rfl rfl rfl rfl rfl ?_
 have ht:=sm_tab
 have hl : ([48,48,48,49,48,50,48,51,48,52,48,53,48,54,48,55,48,56,48,57,49,48,49,49,49,50,49,51,49,52,49,53,49,54,49,55,49,56,49,57,50,48,50,49,50,50,50,51,50,52,50,53,50,54,50,55,50,56,50,57,51,48,51,49,51,50,51,51,51,52,51,53,51,54,51,55,51,56,51,57,52,48,52,49,52,50,52,51,52,52,52,53,52,54,52,55,52,56,52,57,53,48,53,49,53,50,53,51,53,52,53,53,53,54,53,55,53,56,53,57,54,48,54,49,54,50,54,51,54,52,54,53,54,54,54,55,54,56,54,57,55,48,55,49,55,50,55,51,55,52,55,53,55,54,55,55,55,56,55,57,56,48,56,49,56,50,56,51,56,52,56,53,56,54,56,55,56,56,56,57,57,48,57,49,57,50,57,51,57,52,57,53,57,54,57,55,57,56,57,57] : List Nat).length = 200:=rfl
 subst hn
 simp (contextual:=true) (maxSteps:=2000000) (disch:=omega) [test_cx,rest_cx,gcall_cx,gcav_cx,-Int.not_lt,-Int.not_le,-Nat.not_lt,-Nat.not_le,-List.map_take]
 refine (?key : ∀ (nd v : Nat) (d0 : Array UInt8) (b0 : Nat),FmtInv d.size u nd v d0 → v < 18446744073709551616 → b0 ≤ pre.length + (d.size + post.length) → (nd < d.size → b0 = pre.length + (d.size + post.length)) → Run G c175_B0 (S175_0 (.sl H1.length (pre.length + (d.size + post.length)) 1 pre.length d.size lim) (.m (.i .u64 v)) (.m (.i .i64 nd)) [] (H1 ++ .cs ty 1 (rowP pre d0 post) b0 false :: H2)) _) d.size u d b (FmtInv.start d u h10) h64 hb (fun h=>absurd h (Nat.lt_irrefl _))
 refine indM (fun nd : Nat=>nd) fun nd ih v d0 b0 hi hv hb0 hb1=>?_
 by_cases h8 : 8 ≤ nd
 ·obtain ⟨k,rfl⟩ : ∃ k,nd = k + 8:=⟨nd - 8,by omega⟩
  have hs:=hi.size
  have hle:=hi.le
  unfold c175_B0
  generalize ([48,48,48,49,48,50,48,51,48,52,48,53,48,54,48,55,48,56,48,57,49,48,49,49,49,50,49,51,49,52,49,53,49,54,49,55,49,56,49,57,50,48,50,49,50,50,50,51,50,52,50,53,50,54,50,55,50,56,50,57,51,48,51,49,51,50,51,51,51,52,51,53,51,54,51,55,51,56,51,57,52,48,52,49,52,50,52,51,52,52,52,53,52,54,52,55,52,56,52,57,53,48,53,49,53,50,53,51,53,52,53,53,53,54,53,55,53,56,53,57,54,48,54,49,54,50,54,51,54,52,54,53,54,54,54,55,54,56,54,57,55,48,55,49,55,50,55,51,55,52,55,53,55,54,55,55,55,56,55,57,56,48,56,49,56,50,56,51,56,52,56,53,56,54,56,55,56,56,56,57,57,48,57,49,57,50,57,51,57,52,57,53,57,54,57,55,57,56,57,57] : List Nat) = tab at ht hl ih ⊢
  simp (contextual:=true) (maxSteps:=2000000) (disch:=omega) [test_cx,rest_cx,gcall_cx,gcav_cx,-Int.not_lt,-Int.not_le,-Nat.not_lt,-Nat.not_le,-List.map_take,
   wr_u64,
   wr_u32,
   wr_i64,
   (show ∀ a : Nat,(a : Int).tmod 100000000 = ((a % 100000000 : Nat) : Int) from fun a=>rfl),
   (show ∀ a : Nat,(a : Int).tdiv 100000000 = ((a / 100000000 : Nat) : Int) from fun a=>rfl),
   (show ∀ a : Nat,(a : Int).tmod 10000 = ((a % 10000 : Nat) : Int) from fun a=>rfl),
   (show ∀ a : Nat,(a : Int).tdiv 10000 = ((a / 10000 : Nat) : Int) from fun a=>rfl),
   (show ∀ a : Nat,(a : Int).tmod 100 = ((a % 100 : Nat) : Int) from fun a=>rfl),
   (show ∀ a : Nat,(a : Int).tdiv 100 = ((a / 100 : Nat) : Int) from fun a=>rfl),
   ht,
   hl,
   -Int.natCast_ediv,
   -Int.natCast_emod,
   (show v % 100000000 % 10000 % 100 = v % 100 from by omega),
   (show v % 100000000 % 10000 / 100 = v / 100 % 100 from by omega),
   (show v % 100000000 / 10000 % 100 = v / 100 / 100 % 100 from by omega),
   (show v % 100000000 / 10000 / 100 = v / 100 / 100 / 100 % 100 from by omega),
   (show v % 10000 / 100 = v / 100 % 100 from by omega),
   nth_mid,
   setEl_mid,
   (show (8 : Int) ≤ (k : Int) + 8 from by omega),
   (show ∀ a : Nat,((a : Int) * 2 + 1).toNat = a * 2 + 1 from fun a=>by omega),
   (show ∀ a : Nat,((a : Int) * 2).toNat = a * 2 from fun a=>by omega),
   hs,
   (show ((k : Int) + 8 - 1).toNat = k + 7 from by omega),
   (show ((k : Int) + 8 - 2).toNat = k + 6 from by omega),
   (show ((k : Int) + 8 - 3).toNat = k + 5 from by omega),
   (show ((k : Int) + 8 - 4).toNat = k + 4 from by omega),
   (show ((k : Int) + 8 - 5).toNat = k + 3 from by omega),
   (show ((k : Int) + 8 - 6).toNat = k + 2 from by omega),
   (show ((k : Int) + 8 - 7).toNat = k + 1 from by omega),
   (show ((k : Int) + 8 - 8).toNat = k from by omega),
   (show ((k : Int) + 8).toNat - 1 = k + 7 from by omega),
   (rowP_write pre (d0) post (i:=k + 7) (sm (v % 100 * 2 + 1)) (by simp only [Array.size_setIfInBounds,hs]; omega)),
   (rowP_write pre ((d0.setIfInBounds (k + 7) (sm (v % 100 * 2 + 1)))) post (i:=k + 6) (sm (v % 100 * 2)) (by simp only [Array.size_setIfInBounds,hs]; omega)),
   (rowP_write pre (((d0.setIfInBounds (k + 7) (sm (v % 100 * 2 + 1))).setIfInBounds (k + 6) (sm (v % 100 * 2)))) post (i:=k + 5) (sm (v / 100 % 100 * 2 + 1)) (by simp only [Array.size_setIfInBounds,hs]; omega)),
   (rowP_write pre ((((d0.setIfInBounds (k + 7) (sm (v % 100 * 2 + 1))).setIfInBounds (k + 6) (sm (v % 100 * 2))).setIfInBounds (k + 5) (sm (v / 100 % 100 * 2 + 1)))) post (i:=k + 4) (sm (v / 100 % 100 * 2)) (by simp only [Array.size_setIfInBounds,hs]; omega)),
   (rowP_write pre (((((d0.setIfInBounds (k + 7) (sm (v % 100 * 2 + 1))).setIfInBounds (k + 6) (sm (v % 100 * 2))).setIfInBounds (k + 5) (sm (v / 100 % 100 * 2 + 1))).setIfInBounds (k + 4) (sm (v / 100 % 100 * 2)))) post (i:=k + 3) (sm (v / 100 / 100 % 100 * 2 + 1)) (by simp only [Array.size_setIfInBounds,hs]; omega)),
   (rowP_write pre ((((((d0.setIfInBounds (k + 7) (sm (v % 100 * 2 + 1))).setIfInBounds (k + 6) (sm (v % 100 * 2))).setIfInBounds (k + 5) (sm (v / 100 % 100 * 2 + 1))).setIfInBounds (k + 4) (sm (v / 100 % 100 * 2))).setIfInBounds (k + 3) (sm (v / 100 / 100 % 100 * 2 + 1)))) post (i:=k + 2) (sm (v / 100 / 100 % 100 * 2)) (by simp only [Array.size_setIfInBounds,hs]; omega)),
   (rowP_write pre (((((((d0.setIfInBounds (k + 7) (sm (v % 100 * 2 + 1))).setIfInBounds (k + 6) (sm (v % 100 * 2))).setIfInBounds (k + 5) (sm (v / 100 % 100 * 2 + 1))).setIfInBounds (k + 4) (sm (v / 100 % 100 * 2))).setIfInBounds (k + 3) (sm (v / 100 / 100 % 100 * 2 + 1))).setIfInBounds (k + 2) (sm (v / 100 / 100 % 100 * 2)))) post (i:=k + 1) (sm (v / 100 / 100 / 100 % 100 * 2 + 1)) (by simp only [Array.size_setIfInBounds,hs]; omega)),
   (rowP_write pre ((((((((d0.setIfInBounds (k + 7) (sm (v % 100 * 2 + 1))).setIfInBounds (k + 6) (sm (v % 100 * 2))).setIfInBounds (k + 5) (sm (v / 100 % 100 * 2 + 1))).setIfInBounds (k + 4) (sm (v / 100 % 100 * 2))).setIfInBounds (k + 3) (sm (v / 100 / 100 % 100 * 2 + 1))).setIfInBounds (k + 2) (sm (v / 100 / 100 % 100 * 2))).setIfInBounds (k + 1) (sm (v / 100 / 100 / 100 % 100 * 2 + 1)))) post (i:=k) (sm (v / 100 / 100 / 100 % 100 * 2)) (by simp only [Array.size_setIfInBounds,hs]; omega)),
   -writeR_10]
  have i1:=hi.step2'
  have i2:=i1.step2'
  have i3:=i2.step2'
  have i4:=i3.step2'
  have h8' : v / 100000000 = v / 100 / 100 / 100 / 100:=by omega
  simp only [h8']
  have e7 : k + 6 + 1 = k + 7:=rfl
  have e5 : k + 4 + 1 = k + 5:=rfl
  have e3 : k + 2 + 1 = k + 3:=rfl
  simp only [e7,e5,e3] at i4
  exact ih k (by omega) _ _ _ i4 (by omega) (Nat.le_refl _) (fun _=>rfl)
 ·have hs:=hi.size
  have hle:=hi.le
  have h7 : v < 10000000:=hi.lt7 (by omega)
  unfold c175_B0
  generalize ([48,48,48,49,48,50,48,51,48,52,48,53,48,54,48,55,48,56,48,57,49,48,49,49,49,50,49,51,49,52,49,53,49,54,49,55,49,56,49,57,50,48,50,49,50,50,50,51,50,52,50,53,50,54,50,55,50,56,50,57,51,48,51,49,51,50,51,51,51,52,51,53,51,54,51,55,51,56,51,57,52,48,52,49,52,50,52,51,52,52,52,53,52,54,52,55,52,56,52,57,53,48,53,49,53,50,53,51,53,52,53,53,53,54,53,55,53,56,53,57,54,48,54,49,54,50,54,51,54,52,54,53,54,54,54,55,54,56,54,57,55,48,55,49,55,50,55,51,55,52,55,53,55,54,55,55,55,56,55,57,56,48,56,49,56,50,56,51,56,52,56,53,56,54,56,55,56,56,56,57,57,48,57,49,57,50,57,51,57,52,57,53,57,54,57,55,57,56,57,57] : List Nat) = tab at ht hl ⊢
  have hcase : nd = 0 ∨ nd = 1 ∨ nd = 2 ∨ nd = 3 ∨ nd = 4 ∨ nd = 5 ∨ nd = 6 ∨ nd = 7:=by omega
  clear ih h10 h64 hb
  rcases hcase with rfl | rfl | rfl | rfl | rfl | rfl | rfl | rfl
  ·have:=hb1 (by omega)
   subst this
   simp (contextual:=true) (maxSteps:=2000000) (disch:=omega) [test_cx,rest_cx,gcall_cx,gcav_cx,-Int.not_lt,-Int.not_le,-Nat.not_lt,-Nat.not_le,-List.map_take,wr_u64,wr_u32,wr_i64]
   exact hQ d0 v hi
  ·have hv10:=hi.small
   have hsm : v < 10:=by simpa using hv10
   clear hb1 hv10
   simp (contextual:=true) (maxSteps:=2000000) (disch:=omega) [test_cx,rest_cx,gcall_cx,gcav_cx,-Int.not_lt,-Int.not_le,-Nat.not_lt,-Nat.not_le,-List.map_take,wr_u64,wr_u32,wr_u8,wr_i64,(show ∀ a : Nat,(a : Int).tmod 10000 = ((a % 10000 : Nat) : Int) from fun a=>rfl),(show ∀ a : Nat,(a : Int).tdiv 10000 = ((a / 10000 : Nat) : Int) from fun a=>rfl),(show ∀ a : Nat,(a : Int).tmod 100 = ((a % 100 : Nat) : Int) from fun a=>rfl),(show ∀ a : Nat,(a : Int).tdiv 100 = ((a / 100 : Nat) : Int) from fun a=>rfl),ht,hl,-Int.natCast_ediv,-Int.natCast_emod,(show v % 10000 / 100 = v / 100 % 100 from by omega),(show v / 10000 = v / 100 / 100 from by omega),nth_mid,setEl_mid,(show ∀ a : Nat,((a : Int) * 2 + 1).toNat = a * 2 + 1 from fun a=>by omega),(show ∀ a : Nat,((a : Int) * 2).toNat = a * 2 from fun a=>by omega),hs,-writeR_10,-UInt8.ofNat_add,
    (rowP_last pre (d0) post (v) (by simp only [Array.size_setIfInBounds,hs]; omega) (by omega))]
   have i0:=hi
   have i1:=i0.step1
   exact hQ _ _ i1
  ·have hv10:=hi.small
   have hsm : v < 100:=by simpa using hv10
   clear hb1 hv10
   simp (contextual:=true) (maxSteps:=2000000) (disch:=omega) [test_cx,rest_cx,gcall_cx,gcav_cx,-Int.not_lt,-Int.not_le,-Nat.not_lt,-Nat.not_le,-List.map_take,wr_u64,wr_u32,wr_u8,wr_i64,(show ∀ a : Nat,(a : Int).tmod 10000 = ((a % 10000 : Nat) : Int) from fun a=>rfl),(show ∀ a : Nat,(a : Int).tdiv 10000 = ((a / 10000 : Nat) : Int) from fun a=>rfl),(show ∀ a : Nat,(a : Int).tmod 100 = ((a % 100 : Nat) : Int) from fun a=>rfl),(show ∀ a : Nat,(a : Int).tdiv 100 = ((a / 100 : Nat) : Int) from fun a=>rfl),ht,hl,-Int.natCast_ediv,-Int.natCast_emod,(show v % 10000 / 100 = v / 100 % 100 from by omega),(show v / 10000 = v / 100 / 100 from by omega),nth_mid,setEl_mid,(show ∀ a : Nat,((a : Int) * 2 + 1).toNat = a * 2 + 1 from fun a=>by omega),(show ∀ a : Nat,((a : Int) * 2).toNat = a * 2 from fun a=>by omega),hs,-writeR_10,-UInt8.ofNat_add,
    (rowP_write pre (d0) post (i:=1) (sm (v % 100 * 2 + 1)) (by simp only [Array.size_setIfInBounds,hs]; omega)),
    (rowP_write0 pre ((d0.setIfInBounds 1 (sm (v % 100 * 2 + 1)))) post (sm (v % 100 * 2)) (by simp only [Array.size_setIfInBounds,hs]; omega))]
   have i0:=hi
   have i1:=i0.step2'
   exact hQ _ _ i1
  ·have hv10:=hi.small
   have hsm : v < 1000:=by simpa using hv10
   clear hb1 hv10
   simp (contextual:=true) (maxSteps:=2000000) (disch:=omega) [test_cx,rest_cx,gcall_cx,gcav_cx,-Int.not_lt,-Int.not_le,-Nat.not_lt,-Nat.not_le,-List.map_take,wr_u64,wr_u32,wr_u8,wr_i64,(show ∀ a : Nat,(a : Int).tmod 10000 = ((a % 10000 : Nat) : Int) from fun a=>rfl),(show ∀ a : Nat,(a : Int).tdiv 10000 = ((a / 10000 : Nat) : Int) from fun a=>rfl),(show ∀ a : Nat,(a : Int).tmod 100 = ((a % 100 : Nat) : Int) from fun a=>rfl),(show ∀ a : Nat,(a : Int).tdiv 100 = ((a / 100 : Nat) : Int) from fun a=>rfl),ht,hl,-Int.natCast_ediv,-Int.natCast_emod,(show v % 10000 / 100 = v / 100 % 100 from by omega),(show v / 10000 = v / 100 / 100 from by omega),nth_mid,setEl_mid,(show ∀ a : Nat,((a : Int) * 2 + 1).toNat = a * 2 + 1 from fun a=>by omega),(show ∀ a : Nat,((a : Int) * 2).toNat = a * 2 from fun a=>by omega),hs,-writeR_10,-UInt8.ofNat_add,
    (rowP_write pre (d0) post (i:=2) (sm (v % 100 * 2 + 1)) (by simp only [Array.size_setIfInBounds,hs]; omega)),
    (rowP_write pre ((d0.setIfInBounds 2 (sm (v % 100 * 2 + 1)))) post (i:=1) (sm (v % 100 * 2)) (by simp only [Array.size_setIfInBounds,hs]; omega)),
    (rowP_last pre (((d0.setIfInBounds 2 (sm (v % 100 * 2 + 1))).setIfInBounds 1 (sm (v % 100 * 2)))) post (v / 100) (by simp only [Array.size_setIfInBounds,hs]; omega) (by omega))]
   have i0:=hi
   have i1:=i0.step2'
   have i2:=i1.step1
   exact hQ _ _ i2
  ·have hv10:=hi.small
   have hsm : v < 10000:=by simpa using hv10
   clear hb1 hv10
   simp (contextual:=true) (maxSteps:=2000000) (disch:=omega) [test_cx,rest_cx,gcall_cx,gcav_cx,-Int.not_lt,-Int.not_le,-Nat.not_lt,-Nat.not_le,-List.map_take,wr_u64,wr_u32,wr_u8,wr_i64,(show ∀ a : Nat,(a : Int).tmod 10000 = ((a % 10000 : Nat) : Int) from fun a=>rfl),(show ∀ a : Nat,(a : Int).tdiv 10000 = ((a / 10000 : Nat) : Int) from fun a=>rfl),(show ∀ a : Nat,(a : Int).tmod 100 = ((a % 100 : Nat) : Int) from fun a=>rfl),(show ∀ a : Nat,(a : Int).tdiv 100 = ((a / 100 : Nat) : Int) from fun a=>rfl),ht,hl,-Int.natCast_ediv,-Int.natCast_emod,(show v % 10000 / 100 = v / 100 % 100 from by omega),(show v / 10000 = v / 100 / 100 from by omega),nth_mid,setEl_mid,(show ∀ a : Nat,((a : Int) * 2 + 1).toNat = a * 2 + 1 from fun a=>by omega),(show ∀ a : Nat,((a : Int) * 2).toNat = a * 2 from fun a=>by omega),hs,-writeR_10,-UInt8.ofNat_add,
    (rowP_write pre (d0) post (i:=3) (sm (v % 100 * 2 + 1)) (by simp only [Array.size_setIfInBounds,hs]; omega)),
    (rowP_write pre ((d0.setIfInBounds 3 (sm (v % 100 * 2 + 1)))) post (i:=2) (sm (v % 100 * 2)) (by simp only [Array.size_setIfInBounds,hs]; omega)),
    (rowP_write pre (((d0.setIfInBounds 3 (sm (v % 100 * 2 + 1))).setIfInBounds 2 (sm (v % 100 * 2)))) post (i:=1) (sm (v / 100 % 100 * 2 + 1)) (by simp only [Array.size_setIfInBounds,hs]; omega)),
    (rowP_write0 pre ((((d0.setIfInBounds 3 (sm (v % 100 * 2 + 1))).setIfInBounds 2 (sm (v % 100 * 2))).setIfInBounds 1 (sm (v / 100 % 100 * 2 + 1)))) post (sm (v / 100 % 100 * 2)) (by simp only [Array.size_setIfInBounds,hs]; omega))]
   have i0:=hi
   have i1:=i0.step2'
   have i2:=i1.step2'
   exact hQ _ _ i2
  ·have hv10:=hi.small
   have hsm : v < 100000:=by simpa using hv10
   clear hb1 hv10
   simp (contextual:=true) (maxSteps:=2000000) (disch:=omega) [test_cx,rest_cx,gcall_cx,gcav_cx,-Int.not_lt,-Int.not_le,-Nat.not_lt,-Nat.not_le,-List.map_take,wr_u64,wr_u32,wr_u8,wr_i64,(show ∀ a : Nat,(a : Int).tmod 10000 = ((a % 10000 : Nat) : Int) from fun a=>rfl),(show ∀ a : Nat,(a : Int).tdiv 10000 = ((a / 10000 : Nat) : Int) from fun a=>rfl),(show ∀ a : Nat,(a : Int).tmod 100 = ((a % 100 : Nat) : Int) from fun a=>rfl),(show ∀ a : Nat,(a : Int).tdiv 100 = ((a / 100 : Nat) : Int) from fun a=>rfl),ht,hl,-Int.natCast_ediv,-Int.natCast_emod,(show v % 10000 / 100 = v / 100 % 100 from by omega),(show v / 10000 = v / 100 / 100 from by omega),nth_mid,setEl_mid,(show ∀ a : Nat,((a : Int) * 2 + 1).toNat = a * 2 + 1 from fun a=>by omega),(show ∀ a : Nat,((a : Int) * 2).toNat = a * 2 from fun a=>by omega),hs,-writeR_10,-UInt8.ofNat_add,
    (rowP_write pre (d0) post (i:=4) (sm (v % 100 * 2 + 1)) (by simp only [Array.size_setIfInBounds,hs]; omega)),
    (rowP_write pre ((d0.setIfInBounds 4 (sm (v % 100 * 2 + 1)))) post (i:=3) (sm (v % 100 * 2)) (by simp only [Array.size_setIfInBounds,hs]; omega)),
    (rowP_write pre (((d0.setIfInBounds 4 (sm (v % 100 * 2 + 1))).setIfInBounds 3 (sm (v % 100 * 2)))) post (i:=2) (sm (v / 100 % 100 * 2 + 1)) (by simp only [Array.size_setIfInBounds,hs]; omega)),
    (rowP_write pre ((((d0.setIfInBounds 4 (sm (v % 100 * 2 + 1))).setIfInBounds 3 (sm (v % 100 * 2))).setIfInBounds 2 (sm (v / 100 % 100 * 2 + 1)))) post (i:=1) (sm (v / 100 % 100 * 2)) (by simp only [Array.size_setIfInBounds,hs]; omega)),
    (rowP_last pre (((((d0.setIfInBounds 4 (sm (v % 100 * 2 + 1))).setIfInBounds 3 (sm (v % 100 * 2))).setIfInBounds 2 (sm (v / 100 % 100 * 2 + 1))).setIfInBounds 1 (sm (v / 100 % 100 * 2)))) post (v / 100 / 100) (by simp only [Array.size_setIfInBounds,hs]; omega) (by omega))]
   have i0:=hi
   have i1:=i0.step2'
   have i2:=i1.step2'
   have i3:=i2.step1
   exact hQ _ _ i3
  ·have hv10:=hi.small
   have hsm : v < 1000000:=by simpa using hv10
   clear hb1 hv10
   simp (contextual:=true) (maxSteps:=2000000) (disch:=omega) [test_cx,rest_cx,gcall_cx,gcav_cx,-Int.not_lt,-Int.not_le,-Nat.not_lt,-Nat.not_le,-List.map_take,wr_u64,wr_u32,wr_u8,wr_i64,(show ∀ a : Nat,(a : Int).tmod 10000 = ((a % 10000 : Nat) : Int) from fun a=>rfl),(show ∀ a : Nat,(a : Int).tdiv 10000 = ((a / 10000 : Nat) : Int) from fun a=>rfl),(show ∀ a : Nat,(a : Int).tmod 100 = ((a % 100 : Nat) : Int) from fun a=>rfl),(show ∀ a : Nat,(a : Int).tdiv 100 = ((a / 100 : Nat) : Int) from fun a=>rfl),ht,hl,-Int.natCast_ediv,-Int.natCast_emod,(show v % 10000 / 100 = v / 100 % 100 from by omega),(show v / 10000 = v / 100 / 100 from by omega),nth_mid,setEl_mid,(show ∀ a : Nat,((a : Int) * 2 + 1).toNat = a * 2 + 1 from fun a=>by omega),(show ∀ a : Nat,((a : Int) * 2).toNat = a * 2 from fun a=>by omega),hs,-writeR_10,-UInt8.ofNat_add,
    (rowP_write pre (d0) post (i:=5) (sm (v % 100 * 2 + 1)) (by simp only [Array.size_setIfInBounds,hs]; omega)),
    (rowP_write pre ((d0.setIfInBounds 5 (sm (v % 100 * 2 + 1)))) post (i:=4) (sm (v % 100 * 2)) (by simp only [Array.size_setIfInBounds,hs]; omega)),
    (rowP_write pre (((d0.setIfInBounds 5 (sm (v % 100 * 2 + 1))).setIfInBounds 4 (sm (v % 100 * 2)))) post (i:=3) (sm (v / 100 % 100 * 2 + 1)) (by simp only [Array.size_setIfInBounds,hs]; omega)),
    (rowP_write pre ((((d0.setIfInBounds 5 (sm (v % 100 * 2 + 1))).setIfInBounds 4 (sm (v % 100 * 2))).setIfInBounds 3 (sm (v / 100 % 100 * 2 + 1)))) post (i:=2) (sm (v / 100 % 100 * 2)) (by simp only [Array.size_setIfInBounds,hs]; omega)),
    (rowP_write pre (((((d0.setIfInBounds 5 (sm (v % 100 * 2 + 1))).setIfInBounds 4 (sm (v % 100 * 2))).setIfInBounds 3 (sm (v / 100 % 100 * 2 + 1))).setIfInBounds 2 (sm (v / 100 % 100 * 2)))) post (i:=1) (sm (v / 100 / 100 % 100 * 2 + 1)) (by simp only [Array.size_setIfInBounds,hs]; omega)),
    (rowP_write0 pre ((((((d0.setIfInBounds 5 (sm (v % 100 * 2 + 1))).setIfInBounds 4 (sm (v % 100 * 2))).setIfInBounds 3 (sm (v / 100 % 100 * 2 + 1))).setIfInBounds 2 (sm (v / 100 % 100 * 2))).setIfInBounds 1 (sm (v / 100 / 100 % 100 * 2 + 1)))) post (sm (v / 100 / 100 % 100 * 2)) (by simp only [Array.size_setIfInBounds,hs]; omega))]
   have i0:=hi
   have i1:=i0.step2'
   have i2:=i1.step2'
   have i3:=i2.step2'
   exact hQ _ _ i3
  ·have hv10:=hi.small
   have hsm : v < 10000000:=by simpa using hv10
   clear hb1 hv10
   simp (contextual:=true) (maxSteps:=2000000) (disch:=omega) [test_cx,rest_cx,gcall_cx,gcav_cx,-Int.not_lt,-Int.not_le,-Nat.not_lt,-Nat.not_le,-List.map_take,wr_u64,wr_u32,wr_u8,wr_i64,(show ∀ a : Nat,(a : Int).tmod 10000 = ((a % 10000 : Nat) : Int) from fun a=>rfl),(show ∀ a : Nat,(a : Int).tdiv 10000 = ((a / 10000 : Nat) : Int) from fun a=>rfl),(show ∀ a : Nat,(a : Int).tmod 100 = ((a % 100 : Nat) : Int) from fun a=>rfl),(show ∀ a : Nat,(a : Int).tdiv 100 = ((a / 100 : Nat) : Int) from fun a=>rfl),ht,hl,-Int.natCast_ediv,-Int.natCast_emod,(show v % 10000 / 100 = v / 100 % 100 from by omega),(show v / 10000 = v / 100 / 100 from by omega),nth_mid,setEl_mid,(show ∀ a : Nat,((a : Int) * 2 + 1).toNat = a * 2 + 1 from fun a=>by omega),(show ∀ a : Nat,((a : Int) * 2).toNat = a * 2 from fun a=>by omega),hs,-writeR_10,-UInt8.ofNat_add,
    (rowP_write pre (d0) post (i:=6) (sm (v % 100 * 2 + 1)) (by simp only [Array.size_setIfInBounds,hs]; omega)),
    (rowP_write pre ((d0.setIfInBounds 6 (sm (v % 100 * 2 + 1)))) post (i:=5) (sm (v % 100 * 2)) (by simp only [Array.size_setIfInBounds,hs]; omega)),
    (rowP_write pre (((d0.setIfInBounds 6 (sm (v % 100 * 2 + 1))).setIfInBounds 5 (sm (v % 100 * 2)))) post (i:=4) (sm (v / 100 % 100 * 2 + 1)) (by simp only [Array.size_setIfInBounds,hs]; omega)),
    (rowP_write pre ((((d0.setIfInBounds 6 (sm (v % 100 * 2 + 1))).setIfInBounds 5 (sm (v % 100 * 2))).setIfInBounds 4 (sm (v / 100 % 100 * 2 + 1)))) post (i:=3) (sm (v / 100 % 100 * 2)) (by simp only [Array.size_setIfInBounds,hs]; omega)),
    (rowP_write pre (((((d0.setIfInBounds 6 (sm (v % 100 * 2 + 1))).setIfInBounds 5 (sm (v % 100 * 2))).setIfInBounds 4 (sm (v / 100 % 100 * 2 + 1))).setIfInBounds 3 (sm (v / 100 % 100 * 2)))) post (i:=2) (sm (v / 100 / 100 % 100 * 2 + 1)) (by simp only [Array.size_setIfInBounds,hs]; omega)),
    (rowP_write pre ((((((d0.setIfInBounds 6 (sm (v % 100 * 2 + 1))).setIfInBounds 5 (sm (v % 100 * 2))).setIfInBounds 4 (sm (v / 100 % 100 * 2 + 1))).setIfInBounds 3 (sm (v / 100 % 100 * 2))).setIfInBounds 2 (sm (v / 100 / 100 % 100 * 2 + 1)))) post (i:=1) (sm (v / 100 / 100 % 100 * 2)) (by simp only [Array.size_setIfInBounds,hs]; omega)),
    (rowP_last pre (((((((d0.setIfInBounds 6 (sm (v % 100 * 2 + 1))).setIfInBounds 5 (sm (v % 100 * 2))).setIfInBounds 4 (sm (v / 100 % 100 * 2 + 1))).setIfInBounds 3 (sm (v / 100 % 100 * 2))).setIfInBounds 2 (sm (v / 100 / 100 % 100 * 2 + 1))).setIfInBounds 1 (sm (v / 100 / 100 % 100 * 2)))) post (v / 100 / 100 / 100) (by simp only [Array.size_setIfInBounds,hs]; omega) (by omega))]
   have i0:=hi
   have i1:=i0.step2'
   have i2:=i1.step2'
   have i3:=i2.step2'
   have i4:=i3.step1
   exact hQ _ _ i4
end Go.Mx.Tryz
set_option linter.unusedSimpArgs false
set_option linter.unusedVariables false
set_option linter.unusedSectionVars false
namespace Go.Mx.Tryz
open Go.Lib

theorem rx_b2s (M : Mem) (x : V) : readX M .b2s [x] = (elems M.H x).bind fun es=>(bytes? es).bind fun l=>some (.m (.s l)):=rfl
end Go.Mx.Tryz
set_option linter.unusedSimpArgs false
set_option linter.unusedVariables false
set_option linter.unusedSectionVars false
namespace Go.Mx.Tryz

@[simp] theorem rx_ldb (M : Mem) (ag : Bool) (sz d off : Nat) : readX M (.ldb ag sz) [.fa d off] = (readA M sz (.fa d off)).bind fun cs=>valOf ag cs:=rfl
@[simp] theorem px_slc_r (esz : Nat) (lo hi mx : Bool) (r ver e st len : Nat) (lim : Bool) (vs : List V) : pureX (.slc esz lo hi mx) (.sl r ver e st len lim :: vs) = gd (eqB false (Nat.beq esz 0)) (gd (Nat.beq esz e) ((bnds len lo hi mx vs).bind fun p=>some (.sl r ver e (st + p.1) (p.2 - p.1) (mx || (lim && Nat.beq p.2 len))))):=rfl
@[simp] theorem allM_sl (a b c d e : Nat) (f : Bool) (r : List V) : allM (.sl a b c d e f :: r) = none:=rfl
@[simp] theorem view_ag20 (H : Hp) (cs : List V) : view 20 H (.ag cs) = (optMap (view 19 H) cs).bind fun l=>some (.ag l):=rfl
@[simp] theorem eqB_ff : eqB false false = true:=rfl

theorem nl_lt {α : Type} {l : List α} {i : Nat} {x : α} (h : nth l i = some x) : i < l.length:=by
 rw [nth_get] at h
 exact (List.getElem?_eq_some_iff.1 h).1
theorem nl_set {α : Type} (l : List α) (i j : Nat) (x : α) (h : i < l.length) : nth (l.set i x) j = if i = j then some x else nth l j:=by
 rw [nth_get,nth_get,List.getElem?_set]
 by_cases e : i = j
 ·subst e; simp [h]
 ·simp [e]
theorem nl_set_ne {α : Type} {l : List α} {i j : Nat} {x : α} (h : i ≠ j) : nth (l.set i x) j = nth l j:=by
 rw [nth_get,nth_get,List.getElem?_set,if_neg h]
theorem nl_set_eq {α : Type} {l : List α} {i : Nat} {x : α} (h : i < l.length) : nth (l.set i x) i = some x:=by
 rw [nl_set _ _ _ _ h,if_pos rfl]
theorem nl_app {α : Type} (l m : List α) (j : Nat) (h : j < l.length) : nth (l ++ m) j = nth l j:=by
 rw [nth_get,nth_get,List.getElem?_append_left h]
theorem nl_end {α : Type} (l m : List α) (j : Nat) : nth (l ++ m) (l.length + j) = nth m j:=by
 rw [nth_get,nth_get,List.getElem?_append_right (by omega)]
 congr 1
 omega
theorem app_row {M : Mem} {ty esz bytes r base : Nat} {es xs : List (List V)} (h : nth M.H r = some (.cs ty esz es base false)) (hx : xs ≠ []) (hb : (es.length + xs.length) * bytes ≤ 140737488355328) (hal : (xs.all fun e=>Nat.beq e.length esz && e.all oneV) = true) :
  appX M ty esz bytes (.sl r es.length esz 0 es.length false) xs = some (.sl r (es.length + xs.length) esz 0 (es.length + xs.length) false,{ M with H:=M.H.set r (.cs ty esz (es ++ xs) base false) }):=by
 obtain ⟨x,t,rfl⟩:=List.exists_cons_of_ne_nil hx
 have e:=setEl_put M.H r (.cs ty esz (es ++ x :: t) base false) (nl_lt h)
 have h2 : Nat.ble ((es.length + (x :: t).length) * bytes) 140737488355328 = true:=by rw [ble_dec]; exact decide_eq_true hb
 show Option.bind (nth M.H r) _ = _
 rw [h]
 show gd (!false && Nat.beq ty ty && Nat.beq esz esz && Nat.beq esz esz && Nat.beq 0 0 && Nat.beq es.length es.length && Nat.beq es.length es.length && Nat.ble ((es.length + (x :: t).length) * bytes) 140737488355328 && ((x :: t).all fun e=>Nat.beq e.length esz && e.all oneV)) _ = _
 simp only [Nat.beq_refl,h2,hal,Bool.and_self,Bool.not_false,gd]
 rw [e]
 rfl
@[reducible] def strR (s : List Nat) (b : Nat) : Row:=.cs 9 1 [[.m (.s s)]] b false
@[reducible] def zerR (b : Nat) : Row:=.cs 3 1 [[.m (.i .i64 0)]] b false
end Go.Mx.Tryz
set_option linter.unusedSimpArgs false
set_option linter.unusedVariables false
set_option linter.unusedSectionVars false
namespace Go.Mx.Tryz

def rowsS (ws : List (List Nat)) : List (List V):=ws.map fun w=>[.m (.s w)]
def celS (ws : List (List Nat)) : List (List I):=ws.map fun w=>[.s w]
@[simp] theorem rowsS_len (ws : List (List Nat)) : (rowsS ws).length = ws.length:=by simp [rowsS]
@[simp] theorem celS_len (ws : List (List Nat)) : (celS ws).length = ws.length:=by simp [celS]
theorem setC_v {s : St} {n : Nat} {x : V} (h : noFaV x = true) : setC s (.v n) x = some { s with E:=setE s.E n x }:=by
 cases x with
 | fa d o=>cases h
 | _=>first | rfl | simp
end Go.Mx.Tryz
set_option linter.unusedSimpArgs false
set_option linter.unusedVariables false
set_option linter.unusedSectionVars false
namespace Go.Mx.Tryz

theorem allM_imY : ∀ x : List I,allM (x.map .m) = some x
 | []=>rfl
 | a :: r=>by
  show (allM (r.map .m)).bind _ = _
  rw [allM_imY r]
  rfl
def onV (xs : List I) : List (List V):=xs.map fun x=>[.m x]
@[simp] theorem onV_len (xs : List I) : (onV xs).length = xs.length:=by simp [onV]
theorem onV_app (xs ys : List I) : onV xs ++ onV ys = onV (xs ++ ys):=by simp [onV]
theorem onV_nth {xs : List I} {i : Nat} {x : I} (h : xs[i]? = some x) : nth (onV xs) i = some [.m x]:=by
 rw [nth_get]
 simp [onV,h]
theorem onV_sub (xs : List I) (a n : Nat) : ((onV xs).drop a).take n = onV ((xs.drop a).take n):=by
 unfold onV
 rw [List.map_take,List.map_drop]
def on1 (xs : List I) : List (List I):=xs.map fun x=>[x]
@[simp] theorem on1_len (xs : List I) : (on1 xs).length = xs.length:=by simp [on1]
def noAg (xs : List I) : Prop:=∀ x,x ∈ xs → oneV (.m x) = true
theorem onV_ok {xs : List I} (h : noAg xs) : ((onV xs).all fun e=>Nat.beq e.length 1 && e.all oneV) = true:=by
 rw [List.all_eq_true]
 intro e he
 obtain ⟨x,hx,rfl⟩:=List.mem_map.1 he
 simp [h x hx]
theorem onV_isM (xs : List I) : ((onV xs).all fun e=>e.all isM) = true:=by
 rw [List.all_eq_true]
 intro e he
 obtain ⟨x,hx,rfl⟩:=List.mem_map.1 he
 rfl
def LR (ty : Nat) (xs : List I) (o : V) (H : Hp) (ok : Nat → Prop) : Prop:=(xs = [] ∧ o = .m (.nl 4)) ∨ (xs ≠ [] ∧ ∃ r,ok r ∧ o = .sl r xs.length 1 0 xs.length false ∧ nth H r = some (.cs ty 1 (onV xs) 0 false))
theorem LR.nil {ty : Nat} {H : Hp} {ok : Nat → Prop} : LR ty [] (.m (.nl 4)) H ok:=.inl ⟨rfl,rfl⟩
theorem LR.keep {ty : Nat} {xs : List I} {o : V} {H H' : Hp} {ok ok' : Nat → Prop} (h : LR ty xs o H ok) (hk : ∀ r,ok r → nth H' r = nth H r) (ho : ∀ r,ok r → r < H.length → ok' r) : LR ty xs o H' ok':=by
 rcases h with h | ⟨hne,r,hr,e,h3⟩
 ·exact .inl h
 ·exact .inr ⟨hne,r,ho r hr (nl_lt h3),e,by rw [hk r hr]; exact h3⟩
theorem LR.nf {ty : Nat} {xs : List I} {o : V} {H : Hp} {ok : Nat → Prop} (h : LR ty xs o H ok) : noFaV o = true ∧ cellsV o = some [o] ∧ oneV o = true ∧ pureX (.len false) [o] = some (.m (.i .i64 (xs.length : Nat))):=by
 rcases h with ⟨rfl,rfl⟩ | ⟨hne,r,hr,rfl,h3⟩
 ·exact ⟨rfl,rfl,rfl,rfl⟩
 ·exact ⟨rfl,rfl,rfl,rfl⟩
theorem LR.rd {ty : Nat} {xs : List I} {o : V} {H : Hp} {ok : Nat → Prop} (h : LR ty xs o H ok) {i : Nat} {x : I} (hx : xs[i]? = some x) : ∃ p,pureX (.ixa 1) [o,.m (.i .i64 (i : Int))] = some p ∧ noFaV p = true ∧ ∀ B,readX ⟨B,H⟩ (.ld false 1) [p] = some (.m x):=by
 have hlt:=(List.getElem?_eq_some_iff.1 hx).1
 rcases h with ⟨rfl,rfl⟩ | ⟨hne,r,hr,rfl,h3⟩
 ·simp at hlt
 ·refine ⟨.pt r xs.length i 0,?_,rfl,fun B=>?_⟩
  ·simp (maxSteps:=2000000) (disch:=omega) [gd_in,gd_and,wr_i64,hlt,show (i : Int) < xs.length from by omega]
  ·simp (maxSteps:=2000000) (disch:=omega) [gd_in,gd_and,wr_i64,onV_nth hx,h3]
theorem LR.elems {ty : Nat} {xs : List I} {o : V} {H : Hp} {ok : Nat → Prop} (h : LR ty xs o H ok) : Mx.elems H o = some (onV xs):=by
 rcases h with ⟨rfl,rfl⟩ | ⟨hne,r,hr,rfl,h3⟩
 ·rfl
 ·rw [elems_row,h3]
  show gd (Nat.ble 0 xs.length && Nat.beq 1 1) (some (((onV xs).drop 0).take xs.length)) = _
  rw [ble_dec,decide_eq_true (Nat.zero_le _),List.drop_zero,List.take_of_length_le (by simp)]
  rfl
theorem LR.from {ty : Nat} {xs : List I} {o : V} {H : Hp} {ok : Nat → Prop} (h : LR ty xs o H ok) {k : Nat} (hk : k ≤ xs.length) : ∃ p,pureX (.slc 1 true false false) [o,.m (.i .i64 (k : Int))] = some p ∧ noFaV p = true ∧ Mx.elems H p = some (onV (xs.drop k)):=by
 rcases h with ⟨rfl,rfl⟩ | ⟨hne,r,hr,rfl,h3⟩
 ·have : k = 0:=by simpa using hk
  subst this
  exact ⟨_,rfl,rfl,rfl⟩
 ·refine ⟨.sl r xs.length 1 (0 + k) (xs.length - k) (false || (false && Nat.beq xs.length xs.length)),?_,rfl,?_⟩
  ·simp (maxSteps:=2000000) (disch:=omega) [gd_in,gd_and,wr_i64,show (k : Int) ≤ xs.length from by omega,hk]
  ·rw [elems_row,h3]
   show gd (Nat.ble 0 xs.length && Nat.beq 1 1) (some (((onV xs).drop (0 + k)).take (xs.length - k))) = _
   rw [ble_dec,decide_eq_true (Nat.zero_le _),Nat.zero_add,List.take_of_length_le (by simp)]
   show some ((onV xs).drop k) = _
   unfold onV
   rw [List.map_drop]
theorem LR.push {ty b n0 : Nat} {xs : List I} {o : V} {H : Hp} (h : LR ty xs o H (n0 ≤ ·)) (hn : n0 ≤ H.length) (hb : b ≤ 1000) {ys : List I} (hl : xs.length + ys.length ≤ 100000000) (ha : noAg ys) : ∃ o1 H1,(∀ B,appX ⟨B,H⟩ ty 1 b o (onV ys) = some (o1,⟨B,H1⟩)) ∧ noFaV o1 = true ∧ LR ty (xs ++ ys) o1 H1 (n0 ≤ ·) ∧ n0 ≤ H1.length ∧ H.length ≤ H1.length ∧ ∀ r,r < n0 → nth H1 r = nth H r:=by
 have hmul : (xs.length + ys.length) * b ≤ 100000000 * 1000:=Nat.mul_le_mul hl hb
 cases ys with
 | nil =>
  refine ⟨o,H,fun B=>?_,h.nf.1,by rw [List.append_nil]; exact h,hn,Nat.le_refl _,fun _ _=>rfl⟩
  rcases h with ⟨rfl,rfl⟩ | ⟨hne,r,hr,rfl,h3⟩ <;> rfl
 | cons y t =>
  rcases h with ⟨rfl,rfl⟩ | ⟨hne,r,hr,rfl,h3⟩
  ·refine ⟨.sl H.length (y :: t).length 1 0 (y :: t).length false,H ++ [.cs ty 1 (onV (y :: t)) 0 false],fun B=>?_,rfl,.inr ⟨by simp,H.length,hn,rfl,nl_end H _ 0⟩,by simp; omega,by simp,fun r hr=>nl_app _ _ _ (by omega)⟩
   show newRow ⟨B,H⟩ ty 1 b (onV (y :: t)) = _
   rw [newRow_eq,onV_ok ha,onV_len]
   have : Nat.ble ((y :: t).length * b) 140737488355328 = true:=by
    rw [ble_dec]
    refine decide_eq_true ?_
    simp only [List.length_nil,Nat.zero_add] at hmul
    omega
   rw [this]
   rfl
  ·have ha2:=fun B=>app_row (M:=⟨B,H⟩) (bytes:=b) (xs:=onV (y :: t)) h3 (by simp [onV]) (by simp only [onV_len]; omega) (onV_ok ha)
   simp only [onV_len,onV_app] at ha2
   have el : xs.length + (y :: t).length = (xs ++ y :: t).length:=by simp
   rw [el] at ha2
   refine ⟨_,_,ha2,rfl,.inr ⟨by simp,r,hr,rfl,nl_set_eq (nl_lt h3)⟩,by simp; omega,by simp,fun q hq=>nl_set_ne fun e=>?_⟩
   subst e
   have : n0 ≤ r:=hr
   omega
def zL (xs : List I) : I:=if xs = [] then .nl 4 else .sl (on1 xs)
theorem zL_sl (xs : List I) : IsSl (zL xs) (on1 xs):=by
 unfold zL
 split
 ·rename_i h; subst h; exact isSl_nil
 ·exact isSl_sl _
theorem zL_one (xs : List I) : oneV (.m (zL xs)) = true:=by
 unfold zL
 split <;> rfl
theorem optV (k : Nat) (H : Hp) : ∀ xs : List I,optMap (fun e=>optMap (view (k + 1) H) e) (onV xs) = some (on1 xs)
 | []=>rfl
 | x :: r=>by
  show Option.bind (some [x]) _ = _
  simp only [Option.bind_some]
  show Option.bind (optMap _ (onV r)) _ = _
  rw [optV k H r]
  rfl
theorem LR.view {ty : Nat} {xs : List I} {o : V} {H : Hp} {ok : Nat → Prop} (h : LR ty xs o H ok) (k : Nat) : Mx.view (k + 2) H o = some (zL xs):=by
 have he:=h.elems
 rcases h with ⟨rfl,rfl⟩ | ⟨hne,r,hr,rfl,h3⟩
 ·rfl
 ·show Option.bind (Mx.elems H (.sl r xs.length 1 0 xs.length false)) _ = _
  rw [he]
  show Option.bind (optMap (fun e=>optMap (Mx.view (k + 1) H) e) (onV xs)) _ = _
  rw [optV]
  unfold zL
  rw [if_neg hne]
  rfl
theorem freezeV {H : Hp} {r ty : Nat} {xs : List I} {b : Nat} {fz : Bool} (h : nth H r = some (.cs ty 1 (onV xs) b fz)) : freeze [r] H = some (H.set r (.cs ty 1 (onV xs) b true)):=by
 show Option.bind (nth H r) _ = _
 rw [h]
 show Option.bind (gd ((onV xs).all fun e=>e.all isM) (some (Row.cs ty 1 (onV xs) b true))) _ = _
 rw [onV_isM]
 show Option.bind (setEl H r _) _ = _
 rw [setEl_put _ _ _ (nl_lt h)]
 rfl
theorem LR.viewR {ty : Nat} {xs : List I} {o : V} {H : Hp} {ok : Nat → Prop} (h : LR ty xs o H ok) : Mx.viewR H o = some (.m (zL xs)):=by
 have hv:=h.view 18
 rcases h with ⟨rfl,rfl⟩ | ⟨hne,r,hr,rfl,h3⟩
 ·rfl
 ·show (Mx.view 20 H (.sl r xs.length 1 0 xs.length false)).bind _ = _
  rw [hv]
  rfl
theorem LR.call {ty : Nat} {xs : List I} {o : V} {H : Hp} {ok : Nat → Prop} (h : LR ty xs o H ok) {F : Nat} {ys : List I} {v : V} {H0 : Hp} (hp : G.prim F = none) (hs : G.sh F = false) (hg : Gives G F ((zL xs :: ys).map .m) H0 v H0) (hf : flatV v = true) : Gives G F (o :: ys.map .m) H v H:=by
 obtain ⟨r1,r2,r3,r4,r5⟩:=refs_imm (vs:=ys.map .m) (is:=ys) (allM_imY ys)
 refine gives_view (is:=zL xs :: ys) hp hs hg ?_ ?_
 ·show (Mx.view 20 H o).bind _ = _
  rw [h.view 18,Option.bind_some,r5 19 H]
  rfl
 ·rcases h with ⟨rfl,rfl⟩ | ⟨hne,r,hr,rfl,h3⟩
  ·exact .inl ⟨by simp [refs,ref1],by simp [shallow,shallow1]⟩
  ·exact .inr ⟨by simp [refs,ref1],hf⟩
theorem loud_elems {call : Call} {M : Mem} {ty esz b : Nat} {s x : V} {e : List (List V)} (h : Mx.elems M.H x = some e) : loudX call M (.app ty esz b) [s,x] = appX M ty esz b s e:=by
 cases x with
 | m x =>
  cases x with
  | s l=>simp [Mx.elems] at h
  | _=>simp only [loudX]; rw [h]; rfl
 | _=>simp only [loudX]; rw [h]; rfl
end Go.Mx.Tryz
set_option linter.unusedSimpArgs false
set_option linter.unusedVariables false
set_option linter.unusedSectionVars false
namespace Go.Mx.Tryz

def iI (l : List Int) : List I:=l.map (.i .i64)
@[simp] theorem iI_len (l : List Int) : (iI l).length = l.length:=by simp [iI]
theorem iI_get {l : List Int} {i : Nat} {x : Int} (h : l[i]? = some x) : (iI l)[i]? = some (.i .i64 x):=by simp [iI,h]
theorem on1_iI (l : List Int) : on1 (iI l) = celI l:=by
 unfold on1 iI celI
 rw [List.map_map]
 rfl
theorem noAg_iI (l : List Int) : noAg (iI l):=fun x hx=>by
 obtain ⟨y,_,rfl⟩:=List.mem_map.1 hx
 rfl
theorem iI_app (l m : List Int) : iI l ++ iI m = iI (l ++ m):=by simp [iI]
def zI (l : List Int) : I:=zL (iI l)
theorem zI_sl (l : List Int) : IsSl (zI l) (celI l):=by
 have:=zL_sl (iI l)
 rwa [on1_iI] at this
def rowOf : V → Option Nat
 | .sl r _ _ _ _ _=>some r
 | _=>none
abbrev Any1 : Nat → Prop:=fun _=>True
theorem LR.push1 {ty b : Nat} {xs : List I} {o : V} {H : Hp} (h : LR ty xs o H Any1) (hb : b ≤ 1000) {y : I} (hl : xs.length + 1 ≤ 100000000) (ha : oneV (.m y) = true) : ∃ o1 H1,(∀ B,loudX (fun _ _ _=>none) ⟨B,H⟩ (.app ty 1 b) [o,.ls [[y]]] = some (o1,⟨B,H1⟩)) ∧ noFaV o1 = true ∧ LR ty (xs ++ [y]) o1 H1 Any1 ∧ H.length ≤ H1.length ∧ (∀ r,r < H.length → rowOf o ≠ some r → nth H1 r = nth H r) ∧ (∀ r,rowOf o1 = some r → rowOf o = some r ∨ (r = H.length ∧ H1.length = H.length + 1)):=by
 have aq : noAg [y]:=fun u hu=>by rw [List.mem_singleton] at hu; subst hu; exact ha
 have hmul : (xs.length + 1) * b ≤ 100000000 * 1000:=Nat.mul_le_mul hl hb
 rcases h with ⟨rfl,rfl⟩ | ⟨hne,r,hr,rfl,h3⟩
 ·refine ⟨.sl H.length 1 1 0 1 false,H ++ [.cs ty 1 (onV [y]) 0 false],fun B=>(loud_elems rfl).trans ?_,rfl,.inr ⟨by simp,H.length,trivial,rfl,nl_end H _ 0⟩,by simp,fun r hr _=>nl_app _ _ _ hr,fun r hr=>.inr ⟨(Option.some.inj hr).symm,by simp⟩⟩
  show newRow ⟨B,H⟩ ty 1 b (onV [y]) = _
  rw [newRow_eq,onV_ok aq,onV_len]
  have : Nat.ble ([y].length * b) 140737488355328 = true:=by
   rw [ble_dec]
   refine decide_eq_true ?_
   simp only [List.length_nil,List.length_cons,Nat.zero_add] at hmul ⊢
   omega
  rw [this]
  rfl
 ·have ha2:=fun B=>app_row (M:=⟨B,H⟩) (bytes:=b) (xs:=onV [y]) h3 (by simp [onV]) (by simp only [onV_len,List.length_singleton]; omega) (onV_ok aq)
  simp only [onV_len,onV_app] at ha2
  have el : xs.length + [y].length = (xs ++ [y]).length:=by simp
  rw [el] at ha2
  refine ⟨_,_,fun B=>(loud_elems rfl).trans (ha2 B),rfl,.inr ⟨by simp,r,trivial,rfl,nl_set_eq (nl_lt h3)⟩,by simp,fun q hq hne2=>nl_set_ne fun e=>?_,fun q hq=>.inl hq⟩
  subst e
  exact hne2 rfl
theorem LR.keepR {ty : Nat} {xs : List I} {o : V} {H H' : Hp} (h : LR ty xs o H Any1) (hk : ∀ r,rowOf o = some r → r < H.length → nth H' r = nth H r) : LR ty xs o H' Any1:=by
 rcases h with h | ⟨hne,r,hr,e,h3⟩
 ·exact .inl h
 ·subst e
  exact .inr ⟨hne,r,trivial,rfl,by rw [hk r rfl (nl_lt h3)]; exact h3⟩
theorem LR.row_lt {ty : Nat} {xs : List I} {o : V} {H : Hp} {ok : Nat → Prop} (h : LR ty xs o H ok) {r : Nat} (e : rowOf o = some r) : r < H.length:=by
 rcases h with ⟨_,rfl⟩ | ⟨hne,q,hr,rfl,h3⟩
 ·cases e
 ·cases e
  exact nl_lt h3
theorem LR.row {ty : Nat} {xs : List I} {o : V} {H : Hp} {ok : Nat → Prop} (h : LR ty xs o H ok) {r : Nat} (e : rowOf o = some r) : nth H r = some (.cs ty 1 (onV xs) 0 false):=by
 rcases h with ⟨_,rfl⟩ | ⟨hne,q,hr,rfl,h3⟩
 ·cases e
 ·cases e
  exact h3
end Go.Mx.Tryz
set_option linter.unusedSimpArgs false
set_option linter.unusedVariables false
set_option linter.unusedSectionVars false
namespace Go.Mx.Tryz
open Go.Lib

def Kp (H : Hp) (o : V) (H1 : Hp) (o1 : V) : Prop:=H.length ≤ H1.length ∧ (∀ r,r < H.length → rowOf o ≠ some r → nth H1 r = nth H r) ∧ ∀ r,rowOf o1 = some r → rowOf o = some r ∨ H.length ≤ r
theorem Kp.refl (H : Hp) (o : V) : Kp H o H o:=⟨Nat.le_refl _,fun _ _ _=>rfl,fun _ h=>.inl h⟩
theorem Kp.trans {H H1 H2 : Hp} {o o1 o2 : V} (h : Kp H o H1 o1) (k : Kp H1 o1 H2 o2) : Kp H o H2 o2:=by
 obtain ⟨a1,a2,a3⟩:=h
 obtain ⟨b1,b2,b3⟩:=k
 refine ⟨by omega,fun r hr hne=>?_,fun r hr=>?_⟩
 ·rw [b2 r (by omega) fun e=>?_,a2 r hr hne]
  rcases a3 r e with h | h
  ·exact hne h
  ·omega
 ·rcases b3 r hr with h | h
  ·exact a3 r h
  ·exact .inr (by omega)
theorem LR.pushN {ty b : Nat} {xs : List I} {o : V} {H : Hp} (h : LR ty xs o H Any1) (hb : b ≤ 1000) {ys : List I} (hl : xs.length + ys.length ≤ 100000000) (ha : noAg ys) : ∃ o1 H1,(∀ B,appX ⟨B,H⟩ ty 1 b o (onV ys) = some (o1,⟨B,H1⟩)) ∧ noFaV o1 = true ∧ LR ty (xs ++ ys) o1 H1 Any1 ∧ Kp H o H1 o1:=by
 have hmul : (xs.length + ys.length) * b ≤ 100000000 * 1000:=Nat.mul_le_mul hl hb
 cases ys with
 | nil =>
  refine ⟨o,H,fun B=>?_,h.nf.1,by rw [List.append_nil]; exact h,.refl _ _⟩
  rcases h with ⟨rfl,rfl⟩ | ⟨hne,r,hr,rfl,h3⟩ <;> rfl
 | cons y t =>
  rcases h with ⟨rfl,rfl⟩ | ⟨hne,r,hr,rfl,h3⟩
  ·refine ⟨.sl H.length (y :: t).length 1 0 (y :: t).length false,H ++ [.cs ty 1 (onV (y :: t)) 0 false],fun B=>?_,rfl,.inr ⟨by simp,H.length,trivial,rfl,nl_end H _ 0⟩,by simp,fun r hr _=>nl_app _ _ _ hr,fun r hr=>.inr (by cases hr; exact Nat.le_refl _)⟩
   show newRow ⟨B,H⟩ ty 1 b (onV (y :: t)) = _
   rw [newRow_eq,onV_ok ha,onV_len]
   have : Nat.ble ((y :: t).length * b) 140737488355328 = true:=by
    rw [ble_dec]
    refine decide_eq_true ?_
    simp only [List.length_nil,Nat.zero_add] at hmul
    omega
   rw [this]
   rfl
  ·have ha2:=fun B=>app_row (M:=⟨B,H⟩) (bytes:=b) (xs:=onV (y :: t)) h3 (by simp [onV]) (by simp only [onV_len]; omega) (onV_ok ha)
   simp only [onV_len,onV_app] at ha2
   have el : xs.length + (y :: t).length = (xs ++ y :: t).length:=by simp
   rw [el] at ha2
   refine ⟨_,_,ha2,rfl,.inr ⟨by simp,r,trivial,rfl,nl_set_eq (nl_lt h3)⟩,by simp,fun q hq hne2=>nl_set_ne fun e=>?_,fun q hq=>.inl hq⟩
   subst e
   exact hne2 rfl
def bI (s : List Nat) : List I:=s.map fun c : Nat=>.i .u8 (c : Int)
@[simp] theorem bI_len (s : List Nat) : (bI s).length = s.length:=by simp [bI]
theorem bI_app (s t : List Nat) : bI s ++ bI t = bI (s ++ t):=by simp [bI]
theorem noAg_bI (s : List Nat) : noAg (bI s):=fun x hx=>by
 obtain ⟨y,_,rfl⟩:=List.mem_map.1 hx
 rfl
theorem onV_bI (s : List Nat) : (s.map fun c : Nat=>[V.m (.i .u8 (c : Int))]) = onV (bI s):=by simp [onV,bI]
theorem onV_enc : ∀ (d : List UInt8),d.map encB = onV (bI (d.map UInt8.toNat))
 | []=>rfl
 | c :: r=>by
  show encB c :: r.map encB = _
  rw [onV_enc r]
  rfl
theorem bytes_bI : ∀ (s : List Nat),(∀ c,c ∈ s → c < 256) → bytes? (onV (bI s)) = some s
 | [],_=>rfl
 | c :: r,h=>by
  show gd (Nat.blt c 256) ((bytes? (onV (bI r))).bind fun l=>some (c :: l)) = _
  rw [blt_dec,decide_eq_true (h c (by simp)),bytes_bI r fun x hx=>h x (by simp [hx])]
  rfl
theorem row24v (nd : Nat) (h : nd ≤ 24) : ([[V.m (.i .u8 0)],[V.m (.i .u8 0)],[V.m (.i .u8 0)],[V.m (.i .u8 0)],[V.m (.i .u8 0)],[V.m (.i .u8 0)],[V.m (.i .u8 0)],[V.m (.i .u8 0)],[V.m (.i .u8 0)],[V.m (.i .u8 0)],[V.m (.i .u8 0)],[V.m (.i .u8 0)],[V.m (.i .u8 0)],[V.m (.i .u8 0)],[V.m (.i .u8 0)],[V.m (.i .u8 0)],[V.m (.i .u8 0)],[V.m (.i .u8 0)],[V.m (.i .u8 0)],[V.m (.i .u8 0)],[V.m (.i .u8 0)],[V.m (.i .u8 0)],[V.m (.i .u8 0)],[V.m (.i .u8 0)]] : List (List V)) = rowP [] (Array.replicate nd 0) (List.replicate (24 - nd) [.m (.i .u8 0)]):=by
 unfold rowP
 have : (Array.replicate nd (0 : UInt8)).toList.map encB = List.replicate nd [.m (.i .u8 0)]:=by simp [encB]
 rw [this,List.replicate_append_replicate]
 rw [show nd + (24 - nd) = 24 by omega]
 rfl
theorem appUl {H : Hp} {s : List Nat} {o : V} (h : LR 5 (bI s) o H Any1) (hl : s.length ≤ 1000000) (u : Nat) (hu : u < 18446744073709551616) :
  ∃ o1 H1,Gives G 162 [o,.m (.i .u64 u),.m (.i .i64 10)] H o1 H1 ∧ noFaV o1 = true ∧ LR 5 (bI (s ++ decN u)) o1 H1 Any1 ∧ Kp H o H1 o1:=by
 have hd:=decN_len u hu
 have hnf:=h.nf
 by_cases h100 : u < 100
 ·have g:=small100 u h100
  have h100' : (u : Int) < 100:=by omega
  obtain ⟨o1,H1,ha,n1,l1,k1⟩:=h.pushN (b:=1) (by omega) (ys:=bI (decN u)) (by simp only [bI_len]; omega) (noAg_bI _)
  rw [bI_app] at l1
  refine ⟨o1,H1,?_,n1,l1,k1⟩
  have w : wr .i64 (u : Int) = u:=wr_i64n u (by omega)
  rw [← onV_bI] at ha
  refine .of_ret (ret_sh mono rfl rfl rfl ?_ rfl ?_)
  ·simp [hnf.1]
  ·simp [h100',w,cl (g _),ha,setC_v hnf.1,setC_v n1,n1]
 ·have h100' : ¬ (u : Int) < 100:=by omega
  have hnd:=nDigits_le20 u (by omega)
  have hnp:=nDigits_pos u
  obtain ⟨d',v',hi,g2⟩:=fmt10 [] (List.replicate (24 - nDigits u) [.m (.i .u8 0)]) (Array.replicate (nDigits u) 0) u 24 214 0 false H [] (by simp; omega) (by simpa using lt_pow_nDigits u) (by omega) (by simpa using hnp) (by simp; omega) (by omega)
  simp only [Array.size_replicate,List.length_nil] at hi g2
  have hf:=fmt_done hi
  have hsz:=hi.size
  generalize hN : nDigits u = nd at *
  have g1:=fun H=>numDig u (by omega) hu H
  simp only [hN] at g1
  have hrow:=row24v nd (by omega)
  have hb : (rowP [] d' (List.replicate (24 - nd) [.m (.i .u8 0)])).take nd = onV (bI (decN u)):=by
   have:=rowP_shown [] d' (List.replicate (24 - nd) [V.m (.i .u8 0)])
   simp only [List.length_nil,hsz,List.drop_zero] at this
   rw [this,onV_enc,hf]
  have h2 : LR 5 (bI s) o (H ++ [Row.cs 214 1 (rowP [] d' (List.replicate (24 - nd) [.m (.i .u8 0)])) 24 false]) Any1:=h.keepR fun r _ hr=>nl_app _ _ _ hr
  obtain ⟨o1,H1,ha,n1,l1,k1⟩:=h2.pushN (b:=1) (by omega) (ys:=bI (decN u)) (by simp only [bI_len]; omega) (noAg_bI _)
  rw [bI_app] at l1
  refine ⟨o1,H1,?_,n1,l1,?_⟩
  ·have e1 : ¬ nd = 24:=by omega
   have e2 : nd + (24 - nd) = 24:=by omega
   have e3 : (nd : Int) ≤ 24:=by omega
   refine .of_ret (ret_sh mono rfl rfl rfl ?_ rfl ?_)
   ·simp [hnf.1]
   ·simp [h100',cl (g1 _),hrow,e1,e2,e3,cl g2,hsz,hb,ha,elems_row,nth_mid,setC_v hnf.1,setC_v n1,n1]
  ·obtain ⟨a1,a2,a3⟩:=k1
   simp only [List.length_append,List.length_singleton] at a1 a2 a3
   exact ⟨by omega,fun r hr hne=>by rw [a2 r (by omega) hne]; exact nl_app _ _ _ hr,fun r hr=>(a3 r hr).imp_right fun h=>by omega⟩
theorem appIl {H : Hp} {s : List Nat} {o : V} (h : LR 5 (bI s) o H Any1) (hl : s.length ≤ 900000) (n : Int) (h0 : -4611686018427387904 ≤ n) (h1 : n ≤ 4611686018427387904) :
  ∃ o1 H1,Gives G 133 [o,.m (.i .i64 n),.m (.i .i64 10)] H o1 H1 ∧ noFaV o1 = true ∧ LR 5 (bI (s ++ itoaN n)) o1 H1 Any1 ∧ Kp H o H1 o1:=by
 have hnf:=h.nf
 have key : ∃ o1 H1,Gives G 146 [o,.m (.i .i64 n),.m (.i .i64 10)] H o1 H1 ∧ noFaV o1 = true ∧ LR 5 (bI (s ++ itoaN n)) o1 H1 Any1 ∧ Kp H o H1 o1:=by
  by_cases hn : n < 0
  ·have en : itoaN n = 45 :: decN n.natAbs:=by
    have:=itoaN_neg n.natAbs (by omega)
    rwa [show -((n.natAbs : Nat) : Int) = n by omega] at this
   have hneg : wr .u64 (-wr .u64 n) = (n.natAbs : Int):=by rw [wr_mod_u64,wr_mod_u64]; omega
   obtain ⟨o2,H2,ha,n2,l2,k2⟩:=h.pushN (b:=1) (by omega) (ys:=bI [45]) (by simp only [bI_len,List.length_singleton]; omega) (noAg_bI _)
   rw [bI_app] at l2
   obtain ⟨o1,H1,g,n1,l1,k1⟩:=appUl l2 (by simp; omega) n.natAbs (by omega)
   rw [List.append_assoc,List.singleton_append,← en] at l1
   refine ⟨o1,H1,?_,n1,l1,k2.trans k1⟩
   refine .of_ret (ret_sh mono rfl rfl rfl ?_ rfl ?_)
   ·simp [hnf.1]
   ·have hb : onV (bI [45]) = [[V.m (.i .u8 45)]]:=rfl
    rw [hb] at ha
    simp [hn,hneg,ha,cl g,setC_v hnf.1,setC_v n2,setC_v n1,n2,n1]
  ·have ep : itoaN n = decN n.natAbs:=by
    have:=itoaN_pos n.natAbs
    rwa [show ((n.natAbs : Nat) : Int) = n by omega] at this
   have hpos : wr .u64 n = (n.natAbs : Int):=by rw [wr_mod_u64]; omega
   obtain ⟨o1,H1,g,n1,l1,k1⟩:=appUl h (by omega) n.natAbs (by omega)
   rw [← ep] at l1
   refine ⟨o1,H1,?_,n1,l1,k1⟩
   refine .of_ret (ret_sh mono rfl rfl rfl ?_ rfl ?_)
   ·simp [hnf.1]
   ·simp [hn,hpos,cl g,setC_v hnf.1,setC_v n1,n1]
 obtain ⟨o1,H1,g,n1,l1,k1⟩:=key
 refine ⟨o1,H1,?_,n1,l1,k1⟩
 refine .of_ret (ret_sh mono rfl rfl rfl ?_ rfl ?_)
 ·simp [hnf.1]
 ·simp [cl g,setC_v hnf.1,setC_v n1,n1]
end Go.Mx.Tryz
set_option linter.unusedSimpArgs false
set_option linter.unusedVariables false
set_option linter.unusedSectionVars false
namespace Go.Mx.Tryz
open Go.Lib

structure TreeC where
 states : Int
 hood : List (Int × Int)
 nodes : List (Int × List Int)
def lessP (a b : Int × Int) : Bool:=decide (a.2 < b.2 ∨ (a.2 = b.2 ∧ a.1 < b.1))
def offOk (p : Int × Int) : Bool:=decide ((-2 ≤ p.1 ∧ p.1 ≤ 2) ∧ (-2 ≤ p.2 ∧ p.2 ≤ 2))
def chnH : Option (Int × Int) → List (Int × Int) → Bool
 | _,[]=>true
 | none,p :: r=>offOk p && chnH (some p) r
 | some a,p :: r=>offOk p && lessP a p && chnH (some p) r
def hoodOk (l : List (Int × Int)) : Bool:=decide (1 ≤ l.length ∧ l.length ≤ 25) && chnH none l
def levAt (nodes : List (Int × List Int)) (k : Int) : Int:=match nodes[k.toNat]? with
 | some n=>n.1
 | none=>0
def elOk (t : TreeC) (i : Nat) (lev k : Int) : Bool:=decide (¬ k < 0 ∧ ¬ (lev = 1 ∧ t.states ≤ k) ∧ ¬ (1 < lev ∧ ((i : Int) ≤ k ∨ ¬ levAt t.nodes k = lev - 1)))
def nodeOk (t : TreeC) (i : Nat) (n : Int × List Int) : Bool:=decide (1 ≤ n.1 ∧ n.1 ≤ t.hood.length ∧ (n.2.length : Int) = t.states) && n.2.all (elOk t i n.1)
def nodesOk (t : TreeC) : Nat → List (Int × List Int) → Bool
 | _,[]=>true
 | i,n :: r=>nodeOk t i n && nodesOk t (i + 1) r
def treeOk (t : TreeC) : Bool:=decide (2 ≤ t.states ∧ t.states ≤ 8) && (hoodOk t.hood && (decide (1 ≤ t.nodes.length ∧ t.nodes.length ≤ 4096) && (decide (levAt t.nodes (t.nodes.length - 1) = t.hood.length) && nodesOk t 0 t.nodes)))
theorem nodesOk_at (t : TreeC) : ∀ (l : List (Int × List Int)) (i : Nat),nodesOk t i l = true → ∀ (j : Nat) n,l[j]? = some n → nodeOk t (i + j) n = true
 | [],_,_,j,n,h=>by simp at h
 | m :: r,i,h,j,n,hn=>by
  have h : (nodeOk t i m && nodesOk t (i + 1) r) = true:=h
  rw [Bool.and_eq_true] at h
  cases j with
  | zero=>simp at hn; subst hn; exact h.1
  | succ j =>
   have:=nodesOk_at t r (i + 1) h.2 j n (by simpa using hn)
   rw [show i + (j + 1) = i + 1 + j from by omega]
   exact this
structure TreeR (t : TreeC) : Prop where
 s2 : 2 ≤ t.states
 s8 : t.states ≤ 8
 hood : hoodOk t.hood = true
 n1 : 1 ≤ t.nodes.length
 n2 : t.nodes.length ≤ 4096
 root : levAt t.nodes (t.nodes.length - 1) = t.hood.length
 node : ∀ (j : Nat) n,t.nodes[j]? = some n → nodeOk t j n = true
end Go.Mx.Tryz
