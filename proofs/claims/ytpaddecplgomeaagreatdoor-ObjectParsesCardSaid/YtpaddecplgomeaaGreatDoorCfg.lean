/- The machine of this seat is sound. -/
import Derived.Test.YtpaddecplgomeaaGreatDoorCodeK0
import Derived.Test.YtpaddecplgomeaaGreatDoorCodeK1
import Derived.Test.YtpaddecplgomeaaGreatDoorCodeK2
import Derived.Test.YtpaddecplgomeaaGreatDoorBd
import Derived.Test.YtpaddecplgomeaaGreatDoorWa
import Derived.Test.YtpaddecplgomeaaGreatDoorAp
import Derived.Test.YtpaddecplgomeaaGreatDoorLy
import Derived.Lib.Builder
import Derived.Lib.Walk
import Derived.WalkKit
import Derived.Laws.Externs
import Derived.Lib.Strings
import Derived.Lib.Bytealg
set_option maxRecDepth 100000
namespace Go.Mx.Tryz
open Go.Proofs
theorem sizeBuilder : (Tryz.prog.info? 153).map (·.size) = some 2:=by kernel_rfl
set_option maxHeartbeats 1000000 in
theorem cc_used : XA Tryz.prog 170:=fun b w h0=>by
  obtain ⟨j,hj,_⟩:=Option.map_eq_some_iff.1 sizeBuilder
  go_enter Tryz.func170,Tryz.ntmps170
  go_wp2
  rw [Lib.run_neq_ptr_same w _ Tryz.underlying150 hj]
  go_wp2
  go_end0
  exact ⟨rfl,rfl⟩
set_option maxHeartbeats 1000000 in
theorem cc_fresh : Ub Tryz.prog 170 153:=fun b cells w h0 hsh hcells hlies hfz=>by
  obtain ⟨j,hj,hjs⟩:=Option.map_eq_some_iff.1 sizeBuilder
  go_enter Tryz.func170,Tryz.ntmps170
  go_wp2
  rw [Lib.run_to_unsafe w ⟨b,0,none⟩ Tryz.underlying150 Tryz.underlying221 hj (by rw [hjs]; decide) hsh hcells]
  simp only [Result.andThen]
  rw [Oper.upon_value]
  go_wp2
  rw [run_callFunc_extern Tryz.func199 (by kernel_rfl) (by kernel_rfl) (by kernel_rfl) (e:=Extern.AbiNoEscape.same) (by kernel_rfl)]
  rw [Lib.run_noEscape]
  simp only [Result.andThen]
  rw [Oper.upon_value]
  go_wp2
  rw [Lib.run_from_unsafe w ⟨b,0,none⟩ Tryz.underlying221 Tryz.underlying150 hj hsh hlies]
  simp only [Result.andThen]
  rw [Oper.upon_value]
  go_wp2
  go_end0
  exact ⟨rfl,rfl⟩
end Go.Mx.Tryz
namespace Go.Mx.Tryz
open Go.Proofs
set_option maxHeartbeats 1000000 in
theorem ib_walk : Xy Tryz.prog 201:=fun s c w=>by
  go_enter Tryz.func201,Tryz.ntmps201
  go_wp2
  rw [run_callFunc_extern Tryz.func224 (by kernel_rfl) (by kernel_rfl) (by kernel_rfl) (e:=Extern.BytealgIndexByte.indexByte) (by kernel_rfl),Lib.run_indexByteString]
  simp only [Result.andThen]
  rw [Oper.upon_value]
  go_wp2
  go_ret
  exact ⟨rfl,rfl⟩
end Go.Mx.Tryz
namespace Go.Mx.Tryz
open Go.Proofs
set_option maxHeartbeats 1000000 in
theorem ct_walk : Xz Tryz.prog 147:=fun s b w=>by
  go_enter Tryz.func147,Tryz.ntmps147
  go_wp2
  rw [run_callFunc_extern Tryz.func184 (by kernel_rfl) (by kernel_rfl) (by kernel_rfl) (e:=Extern.BytealgCount.count) (by kernel_rfl),Lib.run_countString]
  simp only [Result.andThen]
  rw [Oper.upon_value]
  go_wp2
  go_ret
  exact ⟨rfl,rfl⟩
end Go.Mx.Tryz
namespace Go.Mx.Tryz
open Go.Proofs
def prim (n : Nat) : Option (Bj → List V → Hp → Option (V × Hp)):=match Nat.beq n 170 with | true=>some (ccX 153) | false=>match Nat.beq n 201 with | true=>some (puX ibG) | false=>match Nat.beq n 147 with | true=>some (puX ctG) | false=>match Nat.beq n 54 with | true=>some (atX) | false=>none
noncomputable def G : Cfg:=⟨tbl.look,sh,prim⟩
theorem goods : Goods Tryz.prog gl sh tbl.all:=⟨k5,k6,k9,k10,k16,k17,k18,k19,k20,k21,k22,k24,k26,k27,k28,k29,k30,k31,k32,k33,k34,k37,k38,k40,k43,k44,k46,k48,k49,k50,k51,k52,k53,k55,k56,k57,k58,k59,k60,k61,k62,k63,k64,k65,k66,k67,k68,k69,k70,k71,k72,k73,k74,k75,k76,k79,k81,k82,k83,k84,k87,k88,k90,k91,k92,k94,k95,k96,k99,k100,k101,k102,k103,k104,k105,k106,k107,k108,k109,k110,k111,k112,k113,k114,k115,k116,k117,k118,k119,k120,k121,k122,k123,k124,k125,k126,k131,k134,k135,k139,k140,k141,k143,k144,k145,k146,k148,k154,k155,k156,k157,k158,k159,k160,k161,k162,k163,k164,k165,k166,k167,k168,k169,k174,k175,k177,k178,k179,k180,k181,k185,k189,k190,k191,k192,k193,k194,k195,k196,k197,k198,k202,k203,k204,k205,k206,k213,k214,k215,k216,k217,k218,k219,k220,k221,k222,k223,k225,k226,k228,k229,k230,k231,k232,k233,k234,trivial⟩
theorem sh_G : G.sh = sh:=rfl
theorem mks (n : Nat) : Ua G.sh (Bi G n):=fun f _ h2 vs H v H1 h=>by
  have e : sh (2000000000 + f) = mkr (2000000000 + f):=by
    unfold sh
    rw [Zd]
  rw [sh_G,e] at h2
  unfold mkr at h2
  split at h2
  · rename_i hb
    have hb:=Nat.eq_of_beq_eq_true hb
    have : f = 144:=by omega
    subst this
    exact Si (ty:=60) (esz:=3) (b:=24) (z:=[.m (.i .i64 0),.m (.i .i64 0),.m (.i .i64 0)]) rfl rfl rfl h
  split at h2
  · rename_i hb
    have hb:=Nat.eq_of_beq_eq_true hb
    have : f = 192:=by omega
    subst this
    exact Si (ty:=3) (esz:=1) (b:=8) (z:=[.m (.i .i64 0)]) rfl rfl rfl h
  split at h2
  · rename_i hb
    have hb:=Nat.eq_of_beq_eq_true hb
    have : f = 193:=by omega
    subst this
    exact Si (ty:=70) (esz:=2) (b:=16) (z:=[.m (.i .i64 0),.m (.i .i64 0)]) rfl rfl rfl h
  cases h2
theorem cfgOk : CfgOk Tryz.prog gl G where
  mixed:=by kernel_rfl
  fn:=fun f fn _ h=>goods.mem _ (T.look_mem h)
  shY:=by kernel_rfl
  fnY:=by kernel_rfl
  prY:=by kernel_rfl
  rel:=fun _ _ _ _ h=>h
  ler:=fun _ _ _ _ h=>h
  mks:=mks
  prim:=fun f p h=>by
    simp only [G,prim] at h
    split at h
    · rename_i hb
      have:=Nat.eq_of_beq_eq_true hb
      subst this
      simp only [Option.some.injEq] at h
      subst h
      exact cc_ok cc_fresh cc_used ⟨Tryz.f170,Tryz.func170,by kernel_rfl,by kernel_rfl⟩ (by kernel_rfl) (by kernel_rfl)
    split at h
    · rename_i hb
      have:=Nat.eq_of_beq_eq_true hb
      subst this
      simp only [Option.some.injEq] at h
      subst h
      exact AbM (ib_pu ib_walk) ⟨Tryz.f201,Tryz.func201,by kernel_rfl,by kernel_rfl⟩ (by kernel_rfl)
    split at h
    · rename_i hb
      have:=Nat.eq_of_beq_eq_true hb
      subst this
      simp only [Option.some.injEq] at h
      subst h
      exact AbM (ct_pu ct_walk) ⟨Tryz.f147,Tryz.func147,by kernel_rfl,by kernel_rfl⟩ (by kernel_rfl)
    split at h
    · rename_i hb
      have:=Nat.eq_of_beq_eq_true hb
      subst this
      simp only [Option.some.injEq] at h
      subst h
      exact Zg (gs:=1) (gr:=2) rfl (Zf ZX) rfl rfl ⟨Tryz.f54,Tryz.func54,by kernel_rfl,by kernel_rfl⟩ (by kernel_rfl)
    cases h
theorem mono : Bq G:=fun f p h c d hle vs H r hr=>by
  simp only [G,prim] at h
  split at h
  · simp only [Option.some.injEq] at h
    subst h
    exact hr
  split at h
  · simp only [Option.some.injEq] at h
    subst h
    exact hr
  split at h
  · simp only [Option.some.injEq] at h
    subst h
    exact hr
  split at h
  · simp only [Option.some.injEq] at h
    subst h
    exact hr
  cases h
end Go.Mx.Tryz
