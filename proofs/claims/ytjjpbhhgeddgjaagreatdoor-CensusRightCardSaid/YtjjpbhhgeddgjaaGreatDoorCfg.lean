/- The machine of this seat is sound. -/
import Derived.Test.YtjjpbhhgeddgjaaGreatDoorCodeK0
import Derived.Test.YtjjpbhhgeddgjaaGreatDoorCodeK1
import Derived.Test.YtjjpbhhgeddgjaaGreatDoorCodeK2
import Derived.Test.YtjjpbhhgeddgjaaGreatDoorCodeK3
import Derived.Test.YtjjpbhhgeddgjaaGreatDoorBd
import Derived.Test.YtjjpbhhgeddgjaaGreatDoorWa
import Derived.Test.YtjjpbhhgeddgjaaGreatDoorKy
import Derived.Shelf.SortM.Plain
import Derived.Shelf.SortM.SortNone
import Derived.ProofKit
import Derived.WalkKit
import Derived.Test.YtjjpbhhgeddgjaaGreatDoorLy
import Derived.Lib.Builder
import Derived.Lib.Walk
import Derived.WalkKit
import Derived.Laws.Externs
import Derived.Lib.Strings
import Derived.Lib.Bytealg
set_option maxRecDepth 100000
namespace Go.Mx.Tryz
open Go.Proofs
theorem sizeBuilder : (Tryz.prog.info? 60).map (·.size) = some 2:=by kernel_rfl
set_option maxHeartbeats 1000000 in
theorem cc_used : UD Tryz.prog 46:=fun b w h0=>by
  obtain ⟨j,hj,_⟩:=Option.map_eq_some_iff.1 sizeBuilder
  go_enter Tryz.func46,Tryz.ntmps46
  go_wp2
  rw [Lib.run_neq_ptr_same w _ Tryz.underlying57 hj]
  go_wp2
  go_end0
  exact ⟨rfl,rfl⟩
set_option maxHeartbeats 1000000 in
theorem cc_fresh : RP Tryz.prog 46 60:=fun b cells w h0 hsh hcells hlies hfz=>by
  obtain ⟨j,hj,hjs⟩:=Option.map_eq_some_iff.1 sizeBuilder
  go_enter Tryz.func46,Tryz.ntmps46
  go_wp2
  rw [Lib.run_to_unsafe w ⟨b,0,none⟩ Tryz.underlying57 Tryz.underlying118 hj (by rw [hjs]; decide) hsh hcells]
  simp only [Result.andThen]
  rw [Oper.upon_value]
  go_wp2
  rw [run_callFunc_extern Tryz.func69 (by kernel_rfl) (by kernel_rfl) (by kernel_rfl) (e:=Extern.AbiNoEscape.same) (by kernel_rfl)]
  rw [Lib.run_noEscape]
  simp only [Result.andThen]
  rw [Oper.upon_value]
  go_wp2
  rw [Lib.run_from_unsafe w ⟨b,0,none⟩ Tryz.underlying118 Tryz.underlying57 hj hsh hlies]
  simp only [Result.andThen]
  rw [Oper.upon_value]
  go_wp2
  go_end0
  exact ⟨rfl,rfl⟩
end Go.Mx.Tryz
namespace Go.Mx.Tryz
open Go.Proofs
set_option maxHeartbeats 1000000 in
theorem ib_walk : UB Tryz.prog 209:=fun s c w=>by
  go_enter Tryz.func209,Tryz.ntmps209
  go_wp2
  rw [run_callFunc_extern Tryz.func212 (by kernel_rfl) (by kernel_rfl) (by kernel_rfl) (e:=Extern.BytealgIndexByte.indexByte) (by kernel_rfl),Lib.run_indexByteString]
  simp only [Result.andThen]
  rw [Oper.upon_value]
  go_wp2
  go_ret
  exact ⟨rfl,rfl⟩
end Go.Mx.Tryz
namespace Go.Mx.Tryz
open Go.Proofs Go.RowKit
set_option maxHeartbeats 1000000 in
theorem if_pred (W : World) (x : Nat) (hx : x ≤ 1114111) : FnGives Tryz.prog 26 #[] #[encR x] (.bool (EG x)) W:=by
  unfold FnGives encR
  have e1 : EG x = (decide ((x : Int) < 32) || decide ((126 : Int) < x)):=by
    unfold EG
    rw [Bool.eq_iff_iff]
    simp only [Bool.or_eq_true,Nat.blt_eq,decide_eq_true_eq]
    omega
  rw [e1]
  go_enter Tryz.func26,Tryz.ntmps26
  go_wp2
  all_goals
    go_ret
    refine ⟨?_,0,rfl⟩
    simp_all
theorem if_walk : UA Tryz.prog 68 26:=fun s w=>Any.strings_indexFunc_runes XT 26 #[] (enters_of Tryz.func26 (by kernel_rfl) rfl) EG true s w fun W x hx _=>if_pred W x hx
end Go.Mx.Tryz
namespace Go.Mx.Tryz
open Go.Proofs
def prim (n : Nat) : Option (Ba → List V → Hp → Option (V × Hp)):=match Nat.beq n 46 with | true=>some (ccX 60) | false=>match Nat.beq n 209 with | true=>some (puX ibG) | false=>match Nat.beq n 41 with | true=>some (kyX 67) | false=>match Nat.beq n 68 with | true=>some (puX (ifG 26)) | false=>match Nat.beq n 40 with | true=>some (gwX 32 2) | false=>none
noncomputable def G : Cfg:=⟨tbl.look,sh,prim⟩
theorem goods : Goods Tryz.prog gl sh tbl.all:=⟨k3,k4,k5,k6,k7,k8,k9,k10,k11,k12,k13,k14,k15,k16,k17,k18,k19,k20,k21,k22,k23,k24,k25,k26,k27,k28,k29,k30,k31,k32,k33,k34,k35,k36,k37,k38,k39,k42,k43,k44,k45,k47,k48,k49,k50,k51,k52,k53,k54,k55,k56,k57,k58,k59,k60,k61,k62,k63,k64,k70,k71,k72,k73,k74,k75,k76,k77,k78,k79,k80,k81,k82,k83,k84,k85,k86,k87,k88,k89,k90,k91,k92,k93,k94,k95,k96,k97,k98,k101,k102,k103,k104,k105,k106,k107,k108,k109,k110,k111,k112,k113,k114,k115,k116,k117,k118,k119,k120,k121,k122,k123,k124,k125,k126,k127,k128,k129,k130,k131,k132,k133,k134,k135,k136,k137,k138,k139,k140,k150,k151,k152,k153,k154,k155,k156,k157,k158,k159,k160,k161,k162,k163,k164,k165,k166,k167,k168,k169,k170,k171,k172,k173,k178,k179,k180,k181,k182,k183,k184,k185,k186,k187,k188,k189,k190,k191,k192,k193,k194,k195,k196,k197,k198,k199,k201,k202,k203,k204,k205,k206,k207,k208,k210,k211,k213,trivial⟩
theorem sh_G : G.sh = sh:=rfl
theorem mks (n : Nat) : RO G.sh (Bg G n):=fun f _ h2 vs H v H1 h=>by
  have e : sh (2000000000 + f) = mkr (2000000000 + f):=by
    unfold sh
    rw [Wn]
  rw [sh_G,e] at h2
  unfold mkr at h2
  split at h2
  · rename_i hb
    have hb:=Nat.eq_of_beq_eq_true hb
    have : f = 168:=by omega
    subst this
    exact Qp (ty:=44) (esz:=3) (b:=24) (z:=[.m (.i .i64 0),.m (.i .i64 0),.m (.i .i64 0)]) rfl rfl rfl h
  split at h2
  · rename_i hb
    have hb:=Nat.eq_of_beq_eq_true hb
    have : f = 204:=by omega
    subst this
    exact Qp (ty:=3) (esz:=1) (b:=8) (z:=[.m (.i .i64 0)]) rfl rfl rfl h
  split at h2
  · rename_i hb
    have hb:=Nat.eq_of_beq_eq_true hb
    have : f = 205:=by omega
    subst this
    exact Qp (ty:=70) (esz:=2) (b:=16) (z:=[.m (.i .i64 0),.m (.i .i64 0)]) rfl rfl rfl h
  cases h2
theorem cfgOk : CfgOk Tryz.prog gl G where
  mixed:=by kernel_rfl
  fn:=fun f fn _ h=>goods.mem _ (T.look_mem h)
  shY:=by kernel_rfl
  fnY:=by kernel_rfl
  prY:=by kernel_rfl
  rel:=fun _ _ _ _ h=>h
  ler:=fun _ _ _ _ h=>h
  mks:=mks
  prim:=fun f p h=>by
    simp only [G,prim] at h
    split at h
    · rename_i hb
      have:=Nat.eq_of_beq_eq_true hb
      subst this
      simp only [Option.some.injEq] at h
      subst h
      exact cc_ok cc_fresh cc_used ⟨Tryz.f46,Tryz.func46,by kernel_rfl,by kernel_rfl⟩ (by kernel_rfl) (by kernel_rfl)
    split at h
    · rename_i hb
      have:=Nat.eq_of_beq_eq_true hb
      subst this
      simp only [Option.some.injEq] at h
      subst h
      exact pu_ok (ib_pu ib_walk) ⟨Tryz.f209,Tryz.func209,by kernel_rfl,by kernel_rfl⟩ (by kernel_rfl)
    split at h
    · rename_i hb
      have:=Nat.eq_of_beq_eq_true hb
      subst this
      simp only [Option.some.injEq] at h
      subst h
      exact VS rfl (VR { Uu with } Acv (fun m=>⟨fun blk off cap ss W hH hblk hsz=>callsIn_wide.2 (AnyM.slices_Sort_string Ut blk off cap ss W hH hblk hsz),fun p cap W=>callsIn_wide.2 (AnyM.slices_Sort_string_none Ut p cap W)⟩) (enters_of Tryz.func66 (by kernel_rfl) rfl) Uu.t26) ⟨Tryz.f41,Tryz.func41,by kernel_rfl,by kernel_rfl⟩ (by kernel_rfl)
    split at h
    · rename_i hb
      have:=Nat.eq_of_beq_eq_true hb
      subst this
      simp only [Option.some.injEq] at h
      subst h
      exact VW rfl if_walk ⟨Tryz.f68,Tryz.func68,by kernel_rfl,by kernel_rfl⟩ (by kernel_rfl)
    split at h
    · rename_i hb
      have:=Nat.eq_of_beq_eq_true hb
      subst this
      simp only [Option.some.injEq] at h
      subst h
      exact VY (by decide) (VX XS (by kernel_rfl)) ⟨Tryz.f40,Tryz.func40,by kernel_rfl,by kernel_rfl⟩ (by kernel_rfl)
    cases h
theorem mono : Bp G:=fun f p h c d hle vs H r hr=>by
  simp only [G,prim] at h
  split at h
  · simp only [Option.some.injEq] at h
    subst h
    exact hr
  split at h
  · simp only [Option.some.injEq] at h
    subst h
    exact hr
  split at h
  · simp only [Option.some.injEq] at h
    subst h
    exact hr
  split at h
  · simp only [Option.some.injEq] at h
    subst h
    exact hr
  split at h
  · simp only [Option.some.injEq] at h
    subst h
    exact hr
  cases h
end Go.Mx.Tryz
