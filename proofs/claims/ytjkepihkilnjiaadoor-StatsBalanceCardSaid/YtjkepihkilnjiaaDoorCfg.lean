/- The machine of this seat is sound. -/
import Derived.Test.YtjkepihkilnjiaaDoorCodeK0
import Derived.Test.YtjkepihkilnjiaaDoorCodeK1
import Derived.Test.YtjkepihkilnjiaaDoorBd
import Derived.Test.YtjkepihkilnjiaaDoorWa
import Derived.Lib.Builder
import Derived.Lib.Walk
import Derived.WalkKit
import Derived.Laws.Externs
import Derived.Lib.Strings
import Derived.Lib.Bytealg
set_option maxRecDepth 100000
namespace Go.Mx.Tryd
open Go.Proofs
theorem sizeBuilder : (Tryd.prog.info? 73).map (·.size) = some 2 := by kernel_rfl
set_option maxHeartbeats 1000000 in
theorem cc_used : CcUsed Tryd.prog 53 := fun b w h0 => by
  obtain ⟨j, hj, _⟩ := Option.map_eq_some_iff.1 sizeBuilder
  go_enter Tryd.func53, Tryd.ntmps53
  go_wp2
  rw [Lib.run_neq_ptr_same w _ Tryd.underlying70 hj]
  go_wp2
  go_end0
  exact ⟨rfl, rfl⟩
set_option maxHeartbeats 1000000 in
theorem cc_fresh : CcFresh Tryd.prog 53 73 := fun b cells w h0 hsh hcells hlies hfz => by
  obtain ⟨j, hj, hjs⟩ := Option.map_eq_some_iff.1 sizeBuilder
  go_enter Tryd.func53, Tryd.ntmps53
  go_wp2
  rw [Lib.run_to_unsafe w ⟨b, 0, none⟩ Tryd.underlying70 Tryd.underlying102 hj (by rw [hjs]; decide) hsh hcells]
  simp only [Result.andThen]
  rw [Oper.upon_value]
  go_wp2
  rw [run_callFunc_extern Tryd.func60 (by kernel_rfl) (by kernel_rfl) (by kernel_rfl) (e := Extern.AbiNoEscape.same) (by kernel_rfl)]
  rw [Lib.run_noEscape]
  simp only [Result.andThen]
  rw [Oper.upon_value]
  go_wp2
  rw [Lib.run_from_unsafe w ⟨b, 0, none⟩ Tryd.underlying102 Tryd.underlying70 hj hsh hlies]
  simp only [Result.andThen]
  rw [Oper.upon_value]
  go_wp2
  go_end0
  exact ⟨rfl, rfl⟩
end Go.Mx.Tryd
namespace Go.Mx.Tryd
open Go.Proofs

def prim (n : Nat) : Option (Call → List V → Hp → Option (V × Hp)) := match Nat.beq n 53 with | true => some (ccX 73) | false => none

def G : Cfg := ⟨tbl.look, sh, prim⟩

theorem goods : Goods Tryd.prog gl sh tbl.all := ⟨k7, k8, k9, k11, k13, k15, k16, k18, k20, k21, k22, k23, k24, k25, k26, k29, k31, k32, k35, k37, k38, k39, k40, k42, k43, k44, k45, k46, k47, k48, k49, k50, k51, k54, k56, k57, k58, k59, k61, k62, k63, k64, k65, k66, k67, k68, k69, k70, k71, k73, k74, k75, k76, k77, k78, k79, k82, k83, k84, k87, k88, k89, k90, k91, k92, k93, k94, k95, k96, k97, k98, k99, k100, k101, trivial⟩

theorem sh_G : G.sh = sh := rfl
theorem mks (n : Nat) : MakesC G.sh (callM G n) := fun f _ h2 vs H v H1 h => by
  have e : sh (2000000000 + f) = mkr (2000000000 + f) := by
    unfold sh
    rw [ble_add]
  rw [sh_G, e] at h2
  unfold mkr at h2
  simp at h2

theorem cfgOk : CfgOk Tryd.prog gl G where
  mixed := by kernel_rfl
  fn := fun f fn _ h => goods.mem _ (T.look_mem h)
  shY := by kernel_rfl
  fnY := by kernel_rfl
  prY := by kernel_rfl
  rel := fun _ _ _ _ h => h
  ler := fun _ _ _ _ h => h
  mks := mks
  prim := fun f p h => by
    simp only [G, prim] at h
    split at h
    · rename_i hb
      have := Nat.eq_of_beq_eq_true hb
      subst this
      simp only [Option.some.injEq] at h
      subst h
      exact cc_ok cc_fresh cc_used ⟨Tryd.f53, Tryd.func53, by kernel_rfl, by kernel_rfl⟩ (by kernel_rfl) (by kernel_rfl)
    cases h

theorem mono : MonoP G := fun f p h c d _ vs H r hr => by
  simp only [G, prim] at h
  split at h
  · simp only [Option.some.injEq] at h
    subst h
    exact hr
  cases h

end Go.Mx.Tryd
