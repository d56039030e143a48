/- The machine of this seat is sound. -/
import Derived.Test.YtiehnedoinlfeaaGreatDoorCodeK0
import Derived.Test.YtiehnedoinlfeaaGreatDoorCodeK1
import Derived.Test.YtiehnedoinlfeaaGreatDoorCodeK2
import Derived.Test.YtiehnedoinlfeaaGreatDoorCodeK3
import Derived.Test.YtiehnedoinlfeaaGreatDoorBd
import Derived.Test.YtiehnedoinlfeaaGreatDoorWa
import Derived.Test.YtiehnedoinlfeaaGreatDoorKy
import Derived.Shelf.SortM.Plain
import Derived.Shelf.SortM.SortNone
import Derived.Test.YtiehnedoinlfeaaGreatDoorLy
import Derived.Lib.Builder
import Derived.Lib.Walk
import Derived.WalkKit
import Derived.Laws.Externs
import Derived.Lib.Strings
import Derived.Lib.Bytealg
set_option maxRecDepth 100000
namespace Go.Mx.Tryz
open Go.Proofs
theorem sizeBuilder:(Tryz.prog.info? 232).map (·.size)=some 2:=by kernel_rfl
set_option maxHeartbeats 1000000 in
theorem cc_used:Aat Tryz.prog 227:=fun b w h0=>by
  obtain⟨j,hj,_⟩:=Option.map_eq_some_iff.1 sizeBuilder
  go_enter Tryz.func227,Tryz.ntmps227
  go_wp2
  rw[Lib.run_neq_ptr_same w _ Tryz.underlying229 hj]
  go_wp2
  go_end0
  exact⟨rfl,rfl⟩
set_option maxHeartbeats 1000000 in
theorem cc_fresh:Wq Tryz.prog 227 232:=fun b cells w h0 hsh hcells hlies hfz=>by
  obtain⟨j,hj,hjs⟩:=Option.map_eq_some_iff.1 sizeBuilder
  go_enter Tryz.func227,Tryz.ntmps227
  go_wp2
  rw[Lib.run_to_unsafe w ⟨b,0,none⟩ Tryz.underlying229 Tryz.underlying281 hj (by rw[hjs];decide) hsh hcells]
  simp only[Result.andThen]
  rw[Oper.upon_value]
  go_wp2
  rw[run_callFunc_extern Tryz.func244 (by kernel_rfl) (by kernel_rfl) (by kernel_rfl) (e:=Extern.AbiNoEscape.same) (by kernel_rfl)]
  rw[Lib.run_noEscape]
  simp only[Result.andThen]
  rw[Oper.upon_value]
  go_wp2
  rw[Lib.run_from_unsafe w ⟨b,0,none⟩ Tryz.underlying281 Tryz.underlying229 hj hsh hlies]
  simp only[Result.andThen]
  rw[Oper.upon_value]
  go_wp2
  go_end0
  exact⟨rfl,rfl⟩
end Go.Mx.Tryz
namespace Go.Mx.Tryz
open Go.Proofs
set_option maxHeartbeats 1000000 in
theorem ib_walk:Aas Tryz.prog 245:=fun s c w=>by
  go_enter Tryz.func245,Tryz.ntmps245
  go_wp2
  rw[run_callFunc_extern Tryz.func253 (by kernel_rfl) (by kernel_rfl) (by kernel_rfl) (e:=Extern.BytealgIndexByte.indexByte) (by kernel_rfl),Lib.run_indexByteString]
  simp only[Result.andThen]
  rw[Oper.upon_value]
  go_wp2
  go_ret
  exact⟨rfl,rfl⟩
end Go.Mx.Tryz
namespace Go.Mx.Tryz
open Go.Proofs
def prim (n:Nat):Option (Bt→List V→Hp→Option (V×Hp)):=match Nat.beq n 227 with|true=>some (ccX 232)|false=>match Nat.beq n 245 with|true=>some (puX ibG)|false=>match Nat.beq n 83 with|true=>some (kyX 131)|false=>none
noncomputable def G:Cfg:=⟨tbl.look,sh,prim⟩
theorem goods:Goods Tryz.prog gl sh tbl.all:=⟨k3,k4,k5,k6,k7,k8,k9,k10,k11,k12,k13,k14,k15,k16,k17,k18,k19,k20,k21,k22,k23,k24,k25,k26,k27,k28,k29,k30,k31,k32,k33,k34,k35,k36,k37,k38,k39,k40,k41,k42,k43,k44,k45,k46,k47,k48,k49,k50,k51,k52,k53,k54,k55,k56,k57,k58,k59,k60,k61,k62,k63,k64,k65,k66,k67,k68,k69,k70,k71,k72,k73,k74,k75,k76,k77,k78,k79,k80,k81,k82,k84,k85,k86,k87,k88,k89,k90,k91,k92,k93,k94,k95,k96,k97,k98,k99,k100,k101,k102,k103,k104,k105,k106,k107,k108,k109,k110,k111,k112,k113,k114,k115,k116,k117,k118,k119,k120,k121,k122,k123,k124,k125,k126,k127,k128,k132,k133,k134,k135,k136,k137,k138,k139,k140,k141,k142,k143,k144,k145,k146,k147,k148,k149,k150,k151,k152,k153,k154,k155,k156,k157,k158,k159,k160,k161,k162,k163,k164,k165,k166,k167,k168,k169,k170,k173,k174,k175,k176,k177,k178,k179,k180,k181,k182,k183,k184,k185,k186,k187,k188,k189,k190,k191,k192,k193,k194,k195,k196,k197,k207,k208,k209,k210,k211,k212,k213,k214,k215,k216,k217,k218,k219,k220,k221,k222,k223,k224,k225,k226,k228,k229,k230,k231,k232,k237,k238,k239,k240,k241,k242,k243,k246,k247,k248,k249,k251,k252,k254,k255,k256,trivial⟩
theorem sh_G:G.sh=sh:=rfl
theorem mks (n:Nat):Wp G.sh (BE G n):=fun f _ h2 vs H v H1 h=>by
  have e:sh (2000000000+f)=mkr (2000000000+f):=by
    unfold sh
    rw[Aca]
  rw[sh_G,e]at h2
  unfold mkr at h2
  split at h2
  · rename_i hb
    have hb:=Nat.eq_of_beq_eq_true hb
    have:f=89:=by omega
    subst this
    exact PL (ty:=56) (esz:=3) (b:=24) (z:=[.m (.i .i64 0),.m (.i .i64 0),.m (.i .i64 0)]) rfl rfl rfl h
  split at h2
  · rename_i hb
    have hb:=Nat.eq_of_beq_eq_true hb
    have:f=196:=by omega
    subst this
    exact PL (ty:=56) (esz:=3) (b:=24) (z:=[.m (.i .i64 0),.m (.i .i64 0),.m (.i .i64 0)]) rfl rfl rfl h
  split at h2
  · rename_i hb
    have hb:=Nat.eq_of_beq_eq_true hb
    have:f=240:=by omega
    subst this
    exact PL (ty:=3) (esz:=1) (b:=8) (z:=[.m (.i .i64 0)]) rfl rfl rfl h
  split at h2
  · rename_i hb
    have hb:=Nat.eq_of_beq_eq_true hb
    have:f=241:=by omega
    subst this
    exact PL (ty:=64) (esz:=2) (b:=16) (z:=[.m (.i .i64 0),.m (.i .i64 0)]) rfl rfl rfl h
  cases h2
theorem cfgOk:CfgOk Tryz.prog gl G where
  mixed:=by kernel_rfl
  fn:=fun f fn _ h=>goods.mem _ (T.look_mem h)
  shY:=by kernel_rfl
  fnY:=by kernel_rfl
  prY:=by kernel_rfl
  rel:=fun _ _ _ _ h=>h
  ler:=fun _ _ _ _ h=>h
  mks:=mks
  prim:=fun f p h=>by
    simp only[G,prim]at h
    split at h
    · rename_i hb
      have:=Nat.eq_of_beq_eq_true hb
      subst this
      simp only[Option.some.injEq]at h
      subst h
      exact cc_ok cc_fresh cc_used ⟨Tryz.f227,Tryz.func227,by kernel_rfl,by kernel_rfl⟩ (by kernel_rfl) (by kernel_rfl)
    split at h
    · rename_i hb
      have:=Nat.eq_of_beq_eq_true hb
      subst this
      simp only[Option.some.injEq]at h
      subst h
      exact pu_ok (ib_pu ib_walk) ⟨Tryz.f245,Tryz.func245,by kernel_rfl,by kernel_rfl⟩ (by kernel_rfl)
    split at h
    · rename_i hb
      have:=Nat.eq_of_beq_eq_true hb
      subst this
      simp only[Option.some.injEq]at h
      subst h
      exact AbH rfl (AbG { Aai with } AgK (fun m=>⟨fun blk off cap ss W hH hblk hsz=>callsIn_wide.2 (AnyM.slices_Sort_string Aah blk off cap ss W hH hblk hsz),fun p cap W=>callsIn_wide.2 (AnyM.slices_Sort_string_none Aah p cap W)⟩) (enters_of Tryz.func130 (by kernel_rfl) rfl) Aai.t26) ⟨Tryz.f83,Tryz.func83,by kernel_rfl,by kernel_rfl⟩ (by kernel_rfl)
    cases h
theorem mono:BJ G:=fun f p h c d hle vs H r hr=>by
  simp only[G,prim]at h
  split at h
  · simp only[Option.some.injEq]at h
    subst h
    exact hr
  split at h
  · simp only[Option.some.injEq]at h
    subst h
    exact hr
  split at h
  · simp only[Option.some.injEq]at h
    subst h
    exact hr
  cases h
end Go.Mx.Tryz
