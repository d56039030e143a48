/- The machine of this seat is sound. -/
import Derived.Test.YtgljapjkjbmicaaGreatDoorCodeK0
import Derived.Test.YtgljapjkjbmicaaGreatDoorCodeK1
import Derived.Test.YtgljapjkjbmicaaGreatDoorCodeK2
import Derived.Test.YtgljapjkjbmicaaGreatDoorBd
import Derived.Test.YtgljapjkjbmicaaGreatDoorWa
import Derived.Test.YtgljapjkjbmicaaGreatDoorRo
set_option maxRecDepth 100000
namespace Go.Mx.Tryz
open Go.Proofs
noncomputable def prim (n : Nat) : Option (Bp → List V → Hp → Option (V × Hp)):=match Nat.beq n 50 with | true=>some (rfX apF (Tryz.f50.params.size + Tryz.f50.nfree)) | false=>none
noncomputable def G : Cfg:=⟨tbl.look,sh,prim⟩
theorem goods : Goods Tryz.prog gl sh tbl.all:=⟨k3,k4,k5,k6,k7,k8,k9,k10,k11,k12,k13,k14,k15,k16,k17,k18,k19,k20,k21,k22,k23,k24,k25,k26,k27,k28,k29,k30,k31,k32,k33,k34,k35,k36,k37,k38,k39,k40,k41,k42,k43,k44,k45,k46,k47,k48,k49,k50,k51,k52,k53,k54,k55,k56,k57,k58,k59,k60,k61,k62,k63,k64,k65,k66,k67,k68,k69,k70,k71,k72,k73,k74,k75,k76,k77,k78,k79,k80,k81,k82,k83,k84,k85,k86,k87,k88,k89,k90,k91,k92,k93,k94,k95,k96,k97,k98,k99,k100,k101,k102,k103,k104,k105,k106,k107,k108,k109,k110,k111,k112,k113,k114,k115,k116,k117,k118,k119,k120,k121,k122,k123,k124,k125,k126,k127,k128,k129,k130,k131,k132,k133,k134,k135,k136,k137,k138,k139,k140,k141,k142,k143,k144,k145,k146,k147,k148,k149,k150,k151,k152,k153,k154,k155,k156,k157,k158,k159,k160,k162,k163,k164,trivial⟩
theorem sh_G : G.sh = sh:=rfl
theorem mks (n : Nat) : Sb G.sh (AQ G n):=fun f _ h2 vs H v H1 h=>by
  have e : sh (2000000000 + f) = mkr (2000000000 + f):=by
    unfold sh
    rw [Wp]
  rw [sh_G,e] at h2
  unfold mkr at h2
  split at h2
  · rename_i hb
    have hb:=Nat.eq_of_beq_eq_true hb
    have : f = 105:=by omega
    subst this
    exact Ql (ty:=3) (esz:=1) (b:=8) (z:=[.m (.i .i64 0)]) rfl rfl rfl h
  split at h2
  · rename_i hb
    have hb:=Nat.eq_of_beq_eq_true hb
    have : f = 107:=by omega
    subst this
    exact Ql (ty:=46) (esz:=2) (b:=16) (z:=[.m (.i .i64 0),.m (.i .i64 0)]) rfl rfl rfl h
  split at h2
  · rename_i hb
    have hb:=Nat.eq_of_beq_eq_true hb
    have : f = 114:=by omega
    subst this
    exact Ql (ty:=90) (esz:=3) (b:=24) (z:=[.m (.i .i64 0),.m (.i .i64 0),.m (.i .i64 0)]) rfl rfl rfl h
  cases h2
theorem cfgOk : CfgOk Tryz.prog gl G where
  mixed:=by kernel_rfl
  fn:=fun f fn _ h=>goods.mem _ (T.look_mem h)
  shY:=by kernel_rfl
  fnY:=by kernel_rfl
  prY:=by kernel_rfl
  rel:=fun _ _ _ _ h=>h
  ler:=fun _ _ _ _ h=>h
  mks:=mks
  prim:=fun f p h=>by
    simp only [G,prim] at h
    split at h
    · rename_i hb
      have:=Nat.eq_of_beq_eq_true hb
      subst this
      simp only [Option.some.injEq] at h
      subst h
      exact VJ apOk Tryz.func50 (by kernel_rfl) (fun _ _ _ _ h=>h) ⟨Tryz.f50,Tryz.func50,by kernel_rfl,by kernel_rfl⟩ (by kernel_rfl)
    cases h
theorem mono : BS G:=fun f p h c d hle vs H r hr=>by
  simp only [G,prim] at h
  split at h
  · simp only [Option.some.injEq] at h
    subst h
    exact SC hle hr
  cases h
end Go.Mx.Tryz
