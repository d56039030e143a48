/- The machine of this seat is sound. -/
import Derived.Test.YtchacpbmpgfblaaDoorCodeK0
import Derived.Test.YtchacpbmpgfblaaDoorCodeK1
import Derived.Test.YtchacpbmpgfblaaDoorBd
import Derived.Test.YtchacpbmpgfblaaDoorWa
import Derived.Lib.Builder
import Derived.Lib.Walk
import Derived.WalkKit
import Derived.Laws.Externs
import Derived.Lib.Strings
import Derived.Lib.Bytealg
set_option maxRecDepth 100000
namespace Go.Mx.Tryd
open Go.Proofs
theorem sizeBuilder : (Tryd.prog.info? 74).map (·.size) = some 2 := by kernel_rfl
set_option maxHeartbeats 1000000 in
theorem cc_used : CcUsed Tryd.prog 67 := fun b w h0 => by
  obtain ⟨j, hj, _⟩ := Option.map_eq_some_iff.1 sizeBuilder
  go_enter Tryd.func67, Tryd.ntmps67
  go_wp2
  rw [Lib.run_neq_ptr_same w _ Tryd.underlying71 hj]
  go_wp2
  go_end0
  exact ⟨rfl, rfl⟩
set_option maxHeartbeats 1000000 in
theorem cc_fresh : CcFresh Tryd.prog 67 74 := fun b cells w h0 hsh hcells hlies hfz => by
  obtain ⟨j, hj, hjs⟩ := Option.map_eq_some_iff.1 sizeBuilder
  go_enter Tryd.func67, Tryd.ntmps67
  go_wp2
  rw [Lib.run_to_unsafe w ⟨b, 0, none⟩ Tryd.underlying71 Tryd.underlying102 hj (by rw [hjs]; decide) hsh hcells]
  simp only [Result.andThen]
  rw [Oper.upon_value]
  go_wp2
  rw [run_callFunc_extern Tryd.func78 (by kernel_rfl) (by kernel_rfl) (by kernel_rfl) (e := Extern.AbiNoEscape.same) (by kernel_rfl)]
  rw [Lib.run_noEscape]
  simp only [Result.andThen]
  rw [Oper.upon_value]
  go_wp2
  rw [Lib.run_from_unsafe w ⟨b, 0, none⟩ Tryd.underlying102 Tryd.underlying71 hj hsh hlies]
  simp only [Result.andThen]
  rw [Oper.upon_value]
  go_wp2
  go_end0
  exact ⟨rfl, rfl⟩
end Go.Mx.Tryd
namespace Go.Mx.Tryd
open Go.Proofs
set_option maxHeartbeats 1000000 in
theorem ib_walk : IbWalk Tryd.prog 70 := fun s c w => by
  go_enter Tryd.func70, Tryd.ntmps70
  go_wp2
  rw [run_callFunc_extern Tryd.func80 (by kernel_rfl) (by kernel_rfl) (by kernel_rfl) (e := Extern.BytealgIndexByte.indexByte) (by kernel_rfl), Lib.run_indexByteString]
  simp only [Result.andThen]
  rw [Oper.upon_value]
  go_wp2
  go_ret
  exact ⟨rfl, rfl⟩
end Go.Mx.Tryd
namespace Go.Mx.Tryd
open Go.Proofs

def prim (n : Nat) : Option (Call → List V → Hp → Option (V × Hp)) := match Nat.beq n 67 with | true => some (ccX 74) | false => match Nat.beq n 70 with | true => some (puX ibG) | false => none

def G : Cfg := ⟨tbl.look, sh, prim⟩

theorem goods : Goods Tryd.prog gl sh tbl.all := ⟨k3, k4, k5, k6, k7, k8, k9, k10, k11, k12, k13, k14, k15, k16, k17, k18, k19, k20, k21, k22, k23, k24, k25, k26, k27, k28, k29, k30, k31, k32, k33, k34, k35, k36, k37, k38, k39, k40, k41, k42, k43, k44, k45, k46, k47, k48, k49, k50, k51, k52, k53, k54, k55, k56, k57, k58, k59, k60, k61, k62, k63, k64, k65, k66, k68, k69, k71, k72, k73, k74, k75, k76, k77, k79, k81, k82, k83, k84, k85, k86, k87, k88, k89, k90, k91, k92, k93, k94, k95, k97, k98, k99, k100, k101, k102, k103, k106, trivial⟩

theorem sh_G : G.sh = sh := rfl
theorem mks (n : Nat) : MakesC G.sh (callM G n) := fun f _ h2 vs H v H1 h => by
  have e : sh (2000000000 + f) = mkr (2000000000 + f) := by
    unfold sh
    rw [ble_add]
  rw [sh_G, e] at h2
  unfold mkr at h2
  split at h2
  · rename_i hb
    have hb := Nat.eq_of_beq_eq_true hb
    have : f = 31 := by omega
    subst this
    exact clo_of (ty := 43) (esz := 3) (b := 24) (z := [.m (.i .i64 0), .m (.i .i64 0), .m (.i .i64 0)]) rfl rfl rfl h
  cases h2

theorem cfgOk : CfgOk Tryd.prog gl G where
  mixed := by kernel_rfl
  fn := fun f fn _ h => goods.mem _ (T.look_mem h)
  shY := by kernel_rfl
  fnY := by kernel_rfl
  prY := by kernel_rfl
  rel := fun _ _ _ _ h => h
  ler := fun _ _ _ _ h => h
  mks := mks
  prim := fun f p h => by
    simp only [G, prim] at h
    split at h
    · rename_i hb
      have := Nat.eq_of_beq_eq_true hb
      subst this
      simp only [Option.some.injEq] at h
      subst h
      exact cc_ok cc_fresh cc_used ⟨Tryd.f67, Tryd.func67, by kernel_rfl, by kernel_rfl⟩ (by kernel_rfl) (by kernel_rfl)
    split at h
    · rename_i hb
      have := Nat.eq_of_beq_eq_true hb
      subst this
      simp only [Option.some.injEq] at h
      subst h
      exact pu_ok (ib_pu ib_walk) ⟨Tryd.f70, Tryd.func70, by kernel_rfl, by kernel_rfl⟩ (by kernel_rfl)
    cases h

theorem mono : MonoP G := fun f p h c d _ vs H r hr => by
  simp only [G, prim] at h
  split at h
  · simp only [Option.some.injEq] at h
    subst h
    exact hr
  split at h
  · simp only [Option.some.injEq] at h
    subst h
    exact hr
  cases h

end Go.Mx.Tryd
