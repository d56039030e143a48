/- The machine of this seat is sound. -/
import Derived.Test.YtfllcbohggcmfaaGreatDoorCodeK0
import Derived.Test.YtfllcbohggcmfaaGreatDoorCodeK1
import Derived.Test.YtfllcbohggcmfaaGreatDoorBd
import Derived.Test.YtfllcbohggcmfaaGreatDoorWa
import Derived.Test.YtfllcbohggcmfaaGreatDoorAp
import Derived.Test.YtfllcbohggcmfaaGreatDoorLy
import Derived.Lib.Builder
import Derived.Lib.Walk
import Derived.WalkKit
import Derived.Laws.Externs
import Derived.Lib.Strings
import Derived.Lib.Bytealg
set_option maxRecDepth 100000
namespace Go.Mx.Tryz
open Go.Proofs
theorem sizeBuilder : (Tryz.prog.info? 61).map (·.size) = some 2 := by kernel_rfl
set_option maxHeartbeats 1000000 in
theorem cc_used : CcUsed Tryz.prog 49 := fun b w h0 => by
  obtain ⟨j, hj, _⟩ := Option.map_eq_some_iff.1 sizeBuilder
  go_enter Tryz.func49, Tryz.ntmps49
  go_wp2
  rw [Lib.run_neq_ptr_same w _ Tryz.underlying59 hj]
  go_wp2
  go_end0
  exact ⟨rfl, rfl⟩
set_option maxHeartbeats 1000000 in
theorem cc_fresh : CcFresh Tryz.prog 49 61 := fun b cells w h0 hsh hcells hlies hfz => by
  obtain ⟨j, hj, hjs⟩ := Option.map_eq_some_iff.1 sizeBuilder
  go_enter Tryz.func49, Tryz.ntmps49
  go_wp2
  rw [Lib.run_to_unsafe w ⟨b, 0, none⟩ Tryz.underlying59 Tryz.underlying92 hj (by rw [hjs]; decide) hsh hcells]
  simp only [Result.andThen]
  rw [Oper.upon_value]
  go_wp2
  rw [run_callFunc_extern Tryz.func61 (by kernel_rfl) (by kernel_rfl) (by kernel_rfl) (e := Extern.AbiNoEscape.same) (by kernel_rfl)]
  rw [Lib.run_noEscape]
  simp only [Result.andThen]
  rw [Oper.upon_value]
  go_wp2
  rw [Lib.run_from_unsafe w ⟨b, 0, none⟩ Tryz.underlying92 Tryz.underlying59 hj hsh hlies]
  simp only [Result.andThen]
  rw [Oper.upon_value]
  go_wp2
  go_end0
  exact ⟨rfl, rfl⟩
end Go.Mx.Tryz
namespace Go.Mx.Tryz
open Go.Proofs
set_option maxHeartbeats 1000000 in
theorem ib_walk : IbWalk Tryz.prog 93 := fun s c w => by
  go_enter Tryz.func93, Tryz.ntmps93
  go_wp2
  rw [run_callFunc_extern Tryz.func118 (by kernel_rfl) (by kernel_rfl) (by kernel_rfl) (e := Extern.BytealgIndexByte.indexByte) (by kernel_rfl), Lib.run_indexByteString]
  simp only [Result.andThen]
  rw [Oper.upon_value]
  go_wp2
  go_ret
  exact ⟨rfl, rfl⟩
end Go.Mx.Tryz
namespace Go.Mx.Tryz
open Go.Proofs
set_option maxHeartbeats 1000000 in
theorem ct_walk : CtWalk Tryz.prog 73 := fun s b w => by
  go_enter Tryz.func73, Tryz.ntmps73
  go_wp2
  rw [run_callFunc_extern Tryz.func102 (by kernel_rfl) (by kernel_rfl) (by kernel_rfl) (e := Extern.BytealgCount.count) (by kernel_rfl), Lib.run_countString]
  simp only [Result.andThen]
  rw [Oper.upon_value]
  go_wp2
  go_ret
  exact ⟨rfl, rfl⟩
end Go.Mx.Tryz
namespace Go.Mx.Tryz
open Go.Proofs

def prim (n : Nat) : Option (Call → List V → Hp → Option (V × Hp)) := match Nat.beq n 49 with | true => some (ccX 61) | false => match Nat.beq n 93 with | true => some (puX ibG) | false => match Nat.beq n 73 with | true => some (puX ctG) | false => match Nat.beq n 57 with | true => some (atX) | false => none

def G : Cfg := ⟨tbl.look, sh, prim⟩

theorem goods : Goods Tryz.prog gl sh tbl.all := ⟨k4, k9, k10, k12, k13, k14, k16, k19, k20, k21, k26, k27, k28, k29, k30, k31, k32, k33, k34, k35, k39, k40, k41, k42, k43, k44, k45, k48, k50, k51, k52, k53, k54, k55, k56, k58, k59, k60, k62, k63, k64, k65, k66, k67, k68, k69, k70, k71, k72, k74, k77, k78, k79, k80, k81, k82, k83, k84, k85, k86, k87, k88, k89, k90, k91, k97, k99, k108, k109, k110, k111, k112, k113, k114, k115, k121, k126, k129, trivial⟩

theorem sh_G : G.sh = sh := rfl
theorem mks (n : Nat) : MakesC G.sh (callM G n) := fun f _ h2 vs H v H1 h => by
  have e : sh (2000000000 + f) = mkr (2000000000 + f) := by
    unfold sh
    rw [ble_add]
  rw [sh_G, e] at h2
  unfold mkr at h2
  simp at h2

theorem cfgOk : CfgOk Tryz.prog gl G where
  mixed := by kernel_rfl
  fn := fun f fn _ h => goods.mem _ (T.look_mem h)
  shY := by kernel_rfl
  fnY := by kernel_rfl
  prY := by kernel_rfl
  rel := fun _ _ _ _ h => h
  ler := fun _ _ _ _ h => h
  mks := mks
  prim := fun f p h => by
    simp only [G, prim] at h
    split at h
    · rename_i hb
      have := Nat.eq_of_beq_eq_true hb
      subst this
      simp only [Option.some.injEq] at h
      subst h
      exact cc_ok cc_fresh cc_used ⟨Tryz.f49, Tryz.func49, by kernel_rfl, by kernel_rfl⟩ (by kernel_rfl) (by kernel_rfl)
    split at h
    · rename_i hb
      have := Nat.eq_of_beq_eq_true hb
      subst this
      simp only [Option.some.injEq] at h
      subst h
      exact pu_ok (ib_pu ib_walk) ⟨Tryz.f93, Tryz.func93, by kernel_rfl, by kernel_rfl⟩ (by kernel_rfl)
    split at h
    · rename_i hb
      have := Nat.eq_of_beq_eq_true hb
      subst this
      simp only [Option.some.injEq] at h
      subst h
      exact pu_ok (ct_pu ct_walk) ⟨Tryz.f73, Tryz.func73, by kernel_rfl, by kernel_rfl⟩ (by kernel_rfl)
    split at h
    · rename_i hb
      have := Nat.eq_of_beq_eq_true hb
      subst this
      simp only [Option.some.injEq] at h
      subst h
      exact at_prim (gs := 2) (gr := 3) rfl (at_walk lays172) rfl rfl ⟨Tryz.f57, Tryz.func57, by kernel_rfl, by kernel_rfl⟩ (by kernel_rfl)
    cases h

theorem mono : MonoP G := fun f p h c d hle vs H r hr => by
  simp only [G, prim] at h
  split at h
  · simp only [Option.some.injEq] at h
    subst h
    exact hr
  split at h
  · simp only [Option.some.injEq] at h
    subst h
    exact hr
  split at h
  · simp only [Option.some.injEq] at h
    subst h
    exact hr
  split at h
  · simp only [Option.some.injEq] at h
    subst h
    exact hr
  cases h

end Go.Mx.Tryz
