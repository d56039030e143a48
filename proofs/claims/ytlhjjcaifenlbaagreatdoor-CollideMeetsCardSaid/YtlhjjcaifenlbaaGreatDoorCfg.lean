/- The machine of this seat is sound. -/
import Derived.Test.YtlhjjcaifenlbaaGreatDoorCodeK0
import Derived.Test.YtlhjjcaifenlbaaGreatDoorCodeK1
import Derived.Test.YtlhjjcaifenlbaaGreatDoorCodeK2
import Derived.Test.YtlhjjcaifenlbaaGreatDoorCodeK3
import Derived.Test.YtlhjjcaifenlbaaGreatDoorBd
import Derived.Test.YtlhjjcaifenlbaaGreatDoorWa
import Derived.Test.YtlhjjcaifenlbaaGreatDoorKy
import Derived.Shelf.SortM.Plain
import Derived.Shelf.SortM.SortNone
import Derived.Test.YtlhjjcaifenlbaaGreatDoorLy
import Derived.Lib.Builder
import Derived.Lib.Walk
import Derived.WalkKit
import Derived.Laws.Externs
import Derived.Lib.Strings
import Derived.Lib.Bytealg
set_option maxRecDepth 100000
namespace Go.Mx.Tryz
open Go.Proofs
theorem sizeBuilder:(Tryz.prog.info? 268).map (·.size)=some 2:=by kernel_rfl
set_option maxHeartbeats 1000000 in
theorem cc_used:Aao Tryz.prog 261:=fun b w h0=>by
  obtain⟨j,hj,_⟩:=Option.map_eq_some_iff.1 sizeBuilder
  go_enter Tryz.func261,Tryz.ntmps261
  go_wp2
  rw[Lib.run_neq_ptr_same w _ Tryz.underlying266 hj]
  go_wp2
  go_end0
  exact⟨rfl,rfl⟩
set_option maxHeartbeats 1000000 in
theorem cc_fresh:Wu Tryz.prog 261 268:=fun b cells w h0 hsh hcells hlies hfz=>by
  obtain⟨j,hj,hjs⟩:=Option.map_eq_some_iff.1 sizeBuilder
  go_enter Tryz.func261,Tryz.ntmps261
  go_wp2
  rw[Lib.run_to_unsafe w ⟨b,0,none⟩ Tryz.underlying266 Tryz.underlying304 hj (by rw[hjs];decide) hsh hcells]
  simp only[Result.andThen]
  rw[Oper.upon_value]
  go_wp2
  rw[run_callFunc_extern Tryz.func275 (by kernel_rfl) (by kernel_rfl) (by kernel_rfl) (e:=Extern.AbiNoEscape.same) (by kernel_rfl)]
  rw[Lib.run_noEscape]
  simp only[Result.andThen]
  rw[Oper.upon_value]
  go_wp2
  rw[Lib.run_from_unsafe w ⟨b,0,none⟩ Tryz.underlying304 Tryz.underlying266 hj hsh hlies]
  simp only[Result.andThen]
  rw[Oper.upon_value]
  go_wp2
  go_end0
  exact⟨rfl,rfl⟩
end Go.Mx.Tryz
namespace Go.Mx.Tryz
open Go.Proofs
set_option maxHeartbeats 1000000 in
theorem ib_walk:Aan Tryz.prog 276:=fun s c w=>by
  go_enter Tryz.func276,Tryz.ntmps276
  go_wp2
  rw[run_callFunc_extern Tryz.func283 (by kernel_rfl) (by kernel_rfl) (by kernel_rfl) (e:=Extern.BytealgIndexByte.indexByte) (by kernel_rfl),Lib.run_indexByteString]
  simp only[Result.andThen]
  rw[Oper.upon_value]
  go_wp2
  go_ret
  exact⟨rfl,rfl⟩
end Go.Mx.Tryz
namespace Go.Mx.Tryz
open Go.Proofs
def prim (n:Nat):Option (Bt→List V→Hp→Option (V×Hp)):=match Nat.beq n 261 with|true=>some (ccX 268)|false=>match Nat.beq n 276 with|true=>some (puX ibG)|false=>match Nat.beq n 162 with|true=>some (kyX 199)|false=>none
noncomputable def G:Cfg:=⟨tbl.look,sh,prim⟩
theorem goods:Goods Tryz.prog gl sh tbl.all:=⟨k5,k6,k7,k8,k9,k10,k17,k21,k22,k23,k24,k25,k26,k27,k28,k29,k30,k35,k36,k37,k38,k39,k40,k41,k42,k43,k44,k45,k46,k48,k50,k51,k52,k53,k54,k55,k56,k57,k58,k59,k61,k62,k63,k64,k65,k66,k67,k68,k69,k70,k71,k72,k73,k74,k75,k76,k77,k78,k79,k80,k81,k82,k83,k84,k85,k86,k87,k88,k89,k90,k94,k95,k96,k97,k98,k99,k100,k101,k103,k104,k105,k106,k107,k108,k109,k110,k111,k112,k113,k114,k115,k116,k117,k118,k119,k120,k121,k123,k124,k125,k126,k127,k128,k129,k130,k131,k132,k133,k135,k136,k137,k138,k139,k140,k141,k142,k143,k144,k145,k146,k147,k148,k149,k150,k151,k152,k153,k154,k155,k156,k157,k158,k159,k160,k161,k163,k164,k165,k166,k167,k168,k169,k170,k171,k172,k173,k174,k175,k176,k177,k178,k179,k180,k181,k182,k183,k184,k185,k186,k187,k188,k189,k190,k191,k192,k193,k194,k195,k196,k200,k201,k202,k203,k204,k205,k206,k207,k208,k209,k210,k211,k212,k213,k214,k215,k216,k217,k218,k219,k220,k221,k222,k223,k224,k227,k228,k229,k230,k231,k232,k233,k234,k235,k236,k237,k238,k239,k240,k241,k251,k252,k253,k254,k255,k256,k257,k258,k259,k260,k262,k263,k264,k265,k266,k271,k272,k273,k274,k277,k278,k279,k280,k282,k284,k285,trivial⟩
theorem sh_G:G.sh=sh:=rfl
theorem mks (n:Nat):Wt G.sh (BE G n):=fun f _ h2 vs H v H1 h=>by
  have e:sh (2000000000+f)=mkr (2000000000+f):=by
    unfold sh
    rw[AbV]
  rw[sh_G,e]at h2
  unfold mkr at h2
  split at h2
  · rename_i hb
    have hb:=Nat.eq_of_beq_eq_true hb
    have:f=89:=by omega
    subst this
    exact PL (ty:=73) (esz:=3) (b:=24) (z:=[.m (.i .i64 0),.m (.i .i64 0),.m (.i .i64 0)]) rfl rfl rfl h
  split at h2
  · rename_i hb
    have hb:=Nat.eq_of_beq_eq_true hb
    have:f=227:=by omega
    subst this
    exact PL (ty:=3) (esz:=1) (b:=8) (z:=[.m (.i .i64 0)]) rfl rfl rfl h
  split at h2
  · rename_i hb
    have hb:=Nat.eq_of_beq_eq_true hb
    have:f=228:=by omega
    subst this
    exact PL (ty:=43) (esz:=2) (b:=16) (z:=[.m (.i .i64 0),.m (.i .i64 0)]) rfl rfl rfl h
  split at h2
  · rename_i hb
    have hb:=Nat.eq_of_beq_eq_true hb
    have:f=240:=by omega
    subst this
    exact PL (ty:=73) (esz:=3) (b:=24) (z:=[.m (.i .i64 0),.m (.i .i64 0),.m (.i .i64 0)]) rfl rfl rfl h
  cases h2
theorem cfgOk:CfgOk Tryz.prog gl G where
  mixed:=by kernel_rfl
  fn:=fun f fn _ h=>goods.mem _ (T.look_mem h)
  shY:=by kernel_rfl
  fnY:=by kernel_rfl
  prY:=by kernel_rfl
  rel:=fun _ _ _ _ h=>h
  ler:=fun _ _ _ _ h=>h
  mks:=mks
  prim:=fun f p h=>by
    simp only[G,prim]at h
    split at h
    · rename_i hb
      have:=Nat.eq_of_beq_eq_true hb
      subst this
      simp only[Option.some.injEq]at h
      subst h
      exact cc_ok cc_fresh cc_used ⟨Tryz.f261,Tryz.func261,by kernel_rfl,by kernel_rfl⟩ (by kernel_rfl) (by kernel_rfl)
    split at h
    · rename_i hb
      have:=Nat.eq_of_beq_eq_true hb
      subst this
      simp only[Option.some.injEq]at h
      subst h
      exact pu_ok (ib_pu ib_walk) ⟨Tryz.f276,Tryz.func276,by kernel_rfl,by kernel_rfl⟩ (by kernel_rfl)
    split at h
    · rename_i hb
      have:=Nat.eq_of_beq_eq_true hb
      subst this
      simp only[Option.some.injEq]at h
      subst h
      exact AbC rfl (AbB { Aad with } AgA (fun m=>⟨fun blk off cap ss W hH hblk hsz=>callsIn_wide.2 (AnyM.slices_Sort_string Aac blk off cap ss W hH hblk hsz),fun p cap W=>callsIn_wide.2 (AnyM.slices_Sort_string_none Aac p cap W)⟩) (enters_of Tryz.func198 (by kernel_rfl) rfl) Aad.t26) ⟨Tryz.f162,Tryz.func162,by kernel_rfl,by kernel_rfl⟩ (by kernel_rfl)
    cases h
theorem mono:BJ G:=fun f p h c d hle vs H r hr=>by
  simp only[G,prim]at h
  split at h
  · simp only[Option.some.injEq]at h
    subst h
    exact hr
  split at h
  · simp only[Option.some.injEq]at h
    subst h
    exact hr
  split at h
  · simp only[Option.some.injEq]at h
    subst h
    exact hr
  cases h
end Go.Mx.Tryz
