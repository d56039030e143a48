/- The machine of this seat is sound. -/
import Derived.Test.YtcdcepfigjohfaaGreatDoorCodeK0
import Derived.Test.YtcdcepfigjohfaaGreatDoorCodeK1
import Derived.Test.YtcdcepfigjohfaaGreatDoorBd
import Derived.Test.YtcdcepfigjohfaaGreatDoorWa
import Derived.Test.YtcdcepfigjohfaaGreatDoorPq
import Derived.Test.YtcdcepfigjohfaaGreatDoorPi
import Derived.Test.YtcdcepfigjohfaaGreatDoorLy
import Derived.Lib.Builder
import Derived.Lib.Walk
import Derived.WalkKit
import Derived.Laws.Externs
import Derived.Lib.Strings
import Derived.Lib.Bytealg
set_option maxRecDepth 100000
namespace Go.Mx.Tryz
open Go.Proofs
set_option maxHeartbeats 1000000 in
theorem ib_walk : IbWalk Tryz.prog 146 := fun s c w => by
  go_enter Tryz.func146, Tryz.ntmps146
  go_wp2
  rw [run_callFunc_extern Tryz.func152 (by kernel_rfl) (by kernel_rfl) (by kernel_rfl) (e := Extern.BytealgIndexByte.indexByte) (by kernel_rfl), Lib.run_indexByteString]
  simp only [Result.andThen]
  rw [Oper.upon_value]
  go_wp2
  go_ret
  exact ⟨rfl, rfl⟩
end Go.Mx.Tryz
namespace Go.Mx.Tryz
open Go.Proofs

def prim (n : Nat) : Option (Call → List V → Hp → Option (V × Hp)) := match Nat.beq n 146 with | true => some (puX ibG) | false => match Nat.beq n 33 with | true => some (srtX false 1) | false => match Nat.beq n 38 with | true => some (srtX false 1) | false => match Nat.beq n 49 with | true => some (sriX) | false => none

def G : Cfg := ⟨tbl.look, sh, prim⟩

theorem goods : Goods Tryz.prog gl sh tbl.all := ⟨k4, k5, k8, k9, k10, k11, k13, k14, k15, k16, k17, k18, k19, k20, k21, k22, k23, k25, k27, k28, k29, k30, k31, k32, k34, k35, k36, k37, k39, k40, k41, k42, k43, k44, k45, k46, k47, k48, k50, k51, k52, k54, k55, k56, k59, k62, k63, k65, k66, k68, k69, k70, k71, k72, k73, k83, k84, k102, k103, k104, k105, k106, k107, k108, k120, k121, k122, k124, k126, k128, k129, k130, k131, k135, k136, k140, k142, k143, trivial⟩

theorem sh_G : G.sh = sh := rfl
theorem mks (n : Nat) : MakesC G.sh (callM G n) := fun f _ h2 vs H v H1 h => by
  have e : sh (2000000000 + f) = mkr (2000000000 + f) := by
    unfold sh
    rw [ble_add]
  rw [sh_G, e] at h2
  unfold mkr at h2
  split at h2
  · rename_i hb
    have hb := Nat.eq_of_beq_eq_true hb
    have : f = 32 := by omega
    subst this
    exact clo_of (ty := 3) (esz := 1) (b := 8) (z := [.m (.i .i64 0)]) rfl rfl rfl h
  cases h2

theorem cfgOk : CfgOk Tryz.prog gl G where
  mixed := by kernel_rfl
  fn := fun f fn _ h => goods.mem _ (T.look_mem h)
  shY := by kernel_rfl
  fnY := by kernel_rfl
  prY := by kernel_rfl
  rel := fun _ _ _ _ h => h
  ler := fun _ _ _ _ h => h
  mks := mks
  prim := fun f p h => by
    simp only [G, prim] at h
    split at h
    · rename_i hb
      have := Nat.eq_of_beq_eq_true hb
      subst this
      simp only [Option.some.injEq] at h
      subst h
      exact pu_ok (ib_pu ib_walk) ⟨Tryz.f146, Tryz.func146, by kernel_rfl, by kernel_rfl⟩ (by kernel_rfl)
    split at h
    · rename_i hb
      have := Nat.eq_of_beq_eq_true hb
      subst this
      simp only [Option.some.injEq] at h
      subst h
      exact srt_prim rfl (fun _ => rfl) (sw_one laysS33) (fun p cap fv w => AnyF.slices_SortFunc_none { laysS33 with } p cap fv w) ⟨Tryz.f33, Tryz.func33, by kernel_rfl, by kernel_rfl⟩ (by kernel_rfl)
    split at h
    · rename_i hb
      have := Nat.eq_of_beq_eq_true hb
      subst this
      simp only [Option.some.injEq] at h
      subst h
      exact srt_prim rfl (fun _ => rfl) (sw_one laysS38) (fun p cap fv w => AnyF.slices_SortFunc_none { laysS38 with } p cap fv w) ⟨Tryz.f38, Tryz.func38, by kernel_rfl, by kernel_rfl⟩ (by kernel_rfl)
    split at h
    · rename_i hb
      have := Nat.eq_of_beq_eq_true hb
      subst this
      simp only [Option.some.injEq] at h
      subst h
      exact sri_prim (sri_walk lays189) (fun p cap w => Any.slices_Sort_int_none lays189 p cap w) ⟨Tryz.f49, Tryz.func49, by kernel_rfl, by kernel_rfl⟩ (by kernel_rfl)
    cases h

theorem mono : MonoP G := fun f p h c d hle vs H r hr => by
  simp only [G, prim] at h
  split at h
  · simp only [Option.some.injEq] at h
    subst h
    exact hr
  split at h
  · simp only [Option.some.injEq] at h
    subst h
    exact srtX_mono hle hr
  split at h
  · simp only [Option.some.injEq] at h
    subst h
    exact srtX_mono hle hr
  split at h
  · simp only [Option.some.injEq] at h
    subst h
    exact hr
  cases h

end Go.Mx.Tryz
