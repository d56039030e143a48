/- The machine of this seat is sound. -/
import Derived.Test.YtaomjcmiaiokcaaDoorCodeK0
import Derived.Test.YtaomjcmiaiokcaaDoorBd
import Derived.Test.YtaomjcmiaiokcaaDoorWa
import Derived.Test.YtaomjcmiaiokcaaDoorAp
import Derived.Test.YtaomjcmiaiokcaaDoorLy
import Derived.Lib.Builder
import Derived.Lib.Walk
import Derived.WalkKit
import Derived.Laws.Externs
import Derived.Lib.Strings
import Derived.Lib.Bytealg
set_option maxRecDepth 100000
namespace Go.Mx.Tryd
open Go.Proofs
set_option maxHeartbeats 1000000 in
theorem ib_walk : IbWalk Tryd.prog 60 := fun s c w => by
  go_enter Tryd.func60, Tryd.ntmps60
  go_wp2
  rw [run_callFunc_extern Tryd.func71 (by kernel_rfl) (by kernel_rfl) (by kernel_rfl) (e := Extern.BytealgIndexByte.indexByte) (by kernel_rfl), Lib.run_indexByteString]
  simp only [Result.andThen]
  rw [Oper.upon_value]
  go_wp2
  go_ret
  exact ⟨rfl, rfl⟩
end Go.Mx.Tryd
namespace Go.Mx.Tryd
open Go.Proofs

def prim (n : Nat) : Option (Call → List V → Hp → Option (V × Hp)) := match Nat.beq n 60 with | true => some (puX ibG) | false => match Nat.beq n 38 with | true => some (atX) | false => none

def G : Cfg := ⟨tbl.look, sh, prim⟩

theorem goods : Goods Tryd.prog gl sh tbl.all := ⟨k6, k9, k11, k12, k14, k15, k18, k19, k20, k21, k22, k25, k26, k28, k29, k30, k31, k32, k33, k35, k36, k37, k39, k40, k41, k42, k43, k44, k45, k46, k47, k50, k51, k53, k65, k73, trivial⟩

theorem sh_G : G.sh = sh := rfl
theorem mks (n : Nat) : MakesC G.sh (callM G n) := fun f _ h2 vs H v H1 h => by
  have e : sh (2000000000 + f) = mkr (2000000000 + f) := by
    unfold sh
    rw [ble_add]
  rw [sh_G, e] at h2
  unfold mkr at h2
  simp at h2

theorem cfgOk : CfgOk Tryd.prog gl G where
  mixed := by kernel_rfl
  fn := fun f fn _ h => goods.mem _ (T.look_mem h)
  shY := by kernel_rfl
  fnY := by kernel_rfl
  prY := by kernel_rfl
  rel := fun _ _ _ _ h => h
  ler := fun _ _ _ _ h => h
  mks := mks
  prim := fun f p h => by
    simp only [G, prim] at h
    split at h
    · rename_i hb
      have := Nat.eq_of_beq_eq_true hb
      subst this
      simp only [Option.some.injEq] at h
      subst h
      exact pu_ok (ib_pu ib_walk) ⟨Tryd.f60, Tryd.func60, by kernel_rfl, by kernel_rfl⟩ (by kernel_rfl)
    split at h
    · rename_i hb
      have := Nat.eq_of_beq_eq_true hb
      subst this
      simp only [Option.some.injEq] at h
      subst h
      exact at_prim (gs := 1) (gr := 2) (at_walk lays172) rfl rfl ⟨Tryd.f38, Tryd.func38, by kernel_rfl, by kernel_rfl⟩ (by kernel_rfl)
    cases h

theorem mono : MonoP G := fun f p h c d _ vs H r hr => by
  simp only [G, prim] at h
  split at h
  · simp only [Option.some.injEq] at h
    subst h
    exact hr
  split at h
  · simp only [Option.some.injEq] at h
    subst h
    exact hr
  cases h

end Go.Mx.Tryd
