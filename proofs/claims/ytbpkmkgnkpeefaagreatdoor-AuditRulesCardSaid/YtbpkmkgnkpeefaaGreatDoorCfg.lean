/- The machine of this seat is sound. -/
import Derived.Test.YtbpkmkgnkpeefaaGreatDoorCodeK0
import Derived.Test.YtbpkmkgnkpeefaaGreatDoorCodeK1
import Derived.Test.YtbpkmkgnkpeefaaGreatDoorBd
import Derived.Test.YtbpkmkgnkpeefaaGreatDoorWa
set_option maxRecDepth 100000
namespace Go.Mx.Tryz
open Go.Proofs

def prim (_ : Nat) : Option (Call → List V → Hp → Option (V × Hp)):=none

def G : Cfg:=⟨tbl.look,sh,prim⟩

theorem goods : Goods Tryz.prog gl sh tbl.all:=⟨k4,k6,k7,k10,k11,k12,k13,k14,k15,k17,k22,k23,k24,k25,k29,k30,k31,k32,k33,k34,k35,k36,k37,k38,k39,k40,k41,k43,k58,k59,k60,k61,k62,k63,k64,k65,k66,k67,k68,k69,k70,k71,k99,k100,k101,k102,k103,k104,k105,k106,k107,k108,k131,k132,k133,k134,k146,k161,k162,k173,k174,k175,k178,k179,trivial⟩

theorem sh_G : G.sh = sh:=rfl
theorem mks (n : Nat) : MakesC G.sh (callM G n):=fun f _ h2 vs H v H1 h=>by
  have e : sh (2000000000 + f) = mkr (2000000000 + f):=by
    unfold sh
    rw [ble_add]
  rw [sh_G,e] at h2
  unfold mkr at h2
  split at h2
  · rename_i hb
    have hb:=Nat.eq_of_beq_eq_true hb
    have : f = 104:=by omega
    subst this
    exact clo_of (ty:=3) (esz:=1) (b:=8) (z:=[.m (.i .i64 0)]) rfl rfl rfl h
  split at h2
  · rename_i hb
    have hb:=Nat.eq_of_beq_eq_true hb
    have : f = 106:=by omega
    subst this
    exact clo_of (ty:=46) (esz:=2) (b:=16) (z:=[.m (.i .i64 0),.m (.i .i64 0)]) rfl rfl rfl h
  cases h2

theorem cfgOk : CfgOk Tryz.prog gl G where
  mixed:=by kernel_rfl
  fn:=fun f fn _ h=>goods.mem _ (T.look_mem h)
  shY:=by kernel_rfl
  fnY:=by kernel_rfl
  prY:=by kernel_rfl
  rel:=fun _ _ _ _ h=>h
  ler:=fun _ _ _ _ h=>h
  mks:=mks
  prim:=fun f p h=>by cases h

theorem mono : MonoP G:=fun f p h c d hle vs H r hr=>by
  simp only [G,prim] at h
  cases h

end Go.Mx.Tryz
