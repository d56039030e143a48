/- The statement AuditTimelines: for every input the law returns true, and each argument reads afterwards as it read before. The machine of XMach, shown to be sound for the given program, is walked; nothing is assumed. -/
import Derived.Test.YtgljapjkjbmicaaGreatDoorLaw
import Derived.Test.YtgljapjkjbmicaaGreatDoorSeat
import Derived.Test.YtgljapjkjbmicaaGreatDoorSm
import Derived.Test.YtgljapjkjbmicaaGreatDoorCards
import Derived.Test.YtgljapjkjbmicaaGreatDoorTie
import Derived.WalkKit
import Derived.ProofKit
import Derived.OpenShut
import Derived.Deep.DeepHandedRow
set_option maxRecDepth 100000
namespace Go.Proofs.YtgljapjkjbmicaaGreatDoor.auditTimelines
open Go.ChangeShapes Go.WideShapes Go.ChangeAt Go.RowKit Go.Mx Go.Mx.Tryz
theorem own : ownKnob Tryz.prog.godebug = none:=by kernel_rfl
theorem seatOk : SeatOk Tryz.prog gl G:=⟨cfgOk,by kernel_rfl,by kernel_rfl,by kernel_rfl⟩
theorem glOk {W : World} (h : laidMetH Tryz.prog Rows.auditTimelinesRow.laid W) : GlOk gl W (fun b=>b < W.heap.size):=fun g cs hg=>by
  have h : laidMet Tryz.prog Rows.auditTimelinesRow.laid W:=h
  unfold gl at hg
  split at hg
  · rename_i hb
    have:=Nat.eq_of_beq_eq_true hb
    subst this
    cases hg
    exact SY (n:=8) (j:=3) (t:=179) (sz:=32) h rfl (by kernel_rfl) (by kernel_rfl) (by kernel_rfl) (by kernel_rfl) (by intro e; cases e)
  ·
    split at hg
    · rename_i hb
      have:=Nat.eq_of_beq_eq_true hb
      subst this
      cases hg
      exact SY (n:=8) (j:=2) (t:=215) (sz:=20) h rfl (by kernel_rfl) (by kernel_rfl) (by kernel_rfl) (by kernel_rfl) (by intro e; cases e)
    ·
      split at hg
      · rename_i hb
        have:=Nat.eq_of_beq_eq_true hb
        subst this
        cases hg
        exact SY (n:=8) (j:=0) (t:=217) (sz:=32) h rfl (by kernel_rfl) (by kernel_rfl) (by kernel_rfl) (by kernel_rfl) (by intro e; cases e)
      ·
        split at hg
        · rename_i hb
          have:=Nat.eq_of_beq_eq_true hb
          subst this
          cases hg
          exact SY (n:=8) (j:=1) (t:=218) (sz:=64) h rfl (by kernel_rfl) (by kernel_rfl) (by kernel_rfl) (by kernel_rfl) (by intro e; cases e)
        ·
          cases hg
/-- A world for the witness. -/
noncomputable def laidWorld (os : Os) : World :=
  { World.holding Tryz.prog os ⟨#[],#[],[]⟩ with heap:=(((((World.holding Tryz.prog os ⟨#[],#[],[]⟩).heap.modify 2 fun
      | .cells _ t frozen=>.cells #[.int .u8 0,.int .u8 1,.int .u8 28,.int .u8 2,.int .u8 29,.int .u8 14,.int .u8 24,.int .u8 3,.int .u8 30,.int .u8 22,.int .u8 20,.int .u8 15,.int .u8 25,.int .u8 17,.int .u8 4,.int .u8 8,.int .u8 31,.int .u8 27,.int .u8 13,.int .u8 23,.int .u8 21,.int .u8 19,.int .u8 16,.int .u8 7,.int .u8 26,.int .u8 12,.int .u8 18,.int .u8 6,.int .u8 11,.int .u8 5,.int .u8 10,.int .u8 9] t frozen
      | o=>o).modify 3 fun
      | .cells _ t frozen=>.cells #[.int .u8 0,.int .u8 1,.int .u8 56,.int .u8 2,.int .u8 57,.int .u8 49,.int .u8 28,.int .u8 3,.int .u8 61,.int .u8 58,.int .u8 42,.int .u8 50,.int .u8 38,.int .u8 29,.int .u8 17,.int .u8 4,.int .u8 62,.int .u8 47,.int .u8 59,.int .u8 36,.int .u8 45,.int .u8 43,.int .u8 51,.int .u8 22,.int .u8 53,.int .u8 39,.int .u8 33,.int .u8 30,.int .u8 24,.int .u8 18,.int .u8 12,.int .u8 5,.int .u8 63,.int .u8 55,.int .u8 48,.int .u8 27,.int .u8 60,.int .u8 41,.int .u8 37,.int .u8 16,.int .u8 46,.int .u8 35,.int .u8 44,.int .u8 21,.int .u8 52,.int .u8 32,.int .u8 23,.int .u8 11,.int .u8 54,.int .u8 26,.int .u8 40,.int .u8 15,.int .u8 34,.int .u8 20,.int .u8 31,.int .u8 10,.int .u8 25,.int .u8 14,.int .u8 19,.int .u8 9,.int .u8 13,.int .u8 8,.int .u8 7,.int .u8 6] t frozen
      | o=>o).modify 1 fun
      | .cells _ t frozen=>.cells #[.int .u64 1,.int .u64 10,.int .u64 100,.int .u64 1000,.int .u64 10000,.int .u64 100000,.int .u64 1000000,.int .u64 10000000,.int .u64 100000000,.int .u64 1000000000,.int .u64 10000000000,.int .u64 100000000000,.int .u64 1000000000000,.int .u64 10000000000000,.int .u64 100000000000000,.int .u64 1000000000000000,.int .u64 10000000000000000,.int .u64 100000000000000000,.int .u64 1000000000000000000,.int .u64 10000000000000000000] t frozen
      | o=>o).modify 0 fun
      | .cells _ t frozen=>.cells #[.int .i64 1,.int .i64 0,.int .i64 0,.int .i64 1,.int .i64 0,.int .i64 (-1),.int .i64 1,.int .i64 0,.int .i64 (-1),.int .i64 0,.int .i64 0,.int .i64 (-1),.int .i64 0,.int .i64 1,.int .i64 (-1),.int .i64 0,.int .i64 (-1),.int .i64 0,.int .i64 0,.int .i64 1,.int .i64 0,.int .i64 (-1),.int .i64 (-1),.int .i64 0,.int .i64 1,.int .i64 0,.int .i64 0,.int .i64 (-1),.int .i64 0,.int .i64 1,.int .i64 1,.int .i64 0] t frozen
      | o=>o) }
theorem laid_met (os : Os) : laidMet Tryz.prog Rows.auditTimelinesRow.laid ((laidWorld os).forCall (fun _ _=>0) ⟨#[],#[Value.agg #[.int .i64 0,.slice none 0 0,.slice none 0 0],Value.agg #[.int .i64 0,.slice none 0 0]],[]⟩).memory :=
  laidMet_of_run' 8 (by kernel_rfl) (by kernel_rfl)
theorem reads (os : Os) {H : Type} (enc : TypeId × Value → H) : ∃ places,DataW.whole enc Tryz.prog ((laidWorld os).forCall (fun _ _=>0) ⟨#[],#[Value.agg #[.int .i64 0,.slice none 0 0,.slice none 0 0],Value.agg #[.int .i64 0,.slice none 0 0]],[]⟩).memory Tryz.f3.params.toList Rows.auditTimelinesSpec.vars false (#[Value.agg #[.int .i64 0,.slice none 0 0,.slice none 0 0],Value.agg #[.int .i64 0,.slice none 0 0]] : Array Value).toList 8 = some ([.agg [.lit (.int .i64 0),.nil,.nil],.agg [.lit (.int .i64 0),.nil]],[],places) :=
  ⟨[],by kernel_rfl⟩
theorem par : ∀ t,t ∈ Tryz.f3.params.toList → t < Tryz.prog.types.size ∧ ∃ sz ag,IZ Tryz.prog 8 t = some sz ∧ BZ Tryz.prog t = some ag:=by
  rw [Tryz.params3]
  intro t ht
  simp only [List.mem_cons,List.not_mem_nil,or_false] at ht
  rcases ht with rfl | rfl
  · exact ⟨of_decide_eq_true (by kernel_rfl),3,true,by kernel_rfl,by kernel_rfl⟩
  · exact ⟨of_decide_eq_true (by kernel_rfl),2,true,by kernel_rfl,by kernel_rfl⟩
theorem resT : Tryz.f3.resultTypes = #[4]:=rfl
theorem lifted (os : Os) (started : os.Started) (H : Type) (enc : TypeId × Value → H) (F : Stop.Interp) :
    ReturnsInHanded {} Tryz.checked os 3 .any ((OpenSpec.ofChange Rows.auditTimelinesSpec).preRow enc Tryz.prog Tryz.f3 Rows.auditTimelinesRow.domain false Rows.auditTimelinesRow.laid) (((OpenSpec.ofChange Rows.auditTimelinesSpec).at F).post enc Tryz.prog Tryz.f3 false true false false):=by
  obtain ⟨places,hx⟩:=reads os enc
  refine returnsInHanded_of_row (C:=Tryz.checked) (s:=(OpenSpec.ofChange Rows.auditTimelinesSpec)) own started (by kernel_rfl) Tryz.func3
    (witness_row_at (enc:=enc) (C:=Tryz.checked) false (laidWorld os) #[Value.agg #[.int .i64 0,.slice none 0 0,.slice none 0 0],Value.agg #[.int .i64 0,.slice none 0 0]] rfl (by kernel_rfl) (by kernel_rfl) (by kernel_rfl)
      (OpenSpec.preRow_of_cond 8 hx (by kernel_rfl) (fun k hk=>by cases hk) (by kernel_rfl) (laid_met os))) ?_
  intro W base args ds gs before hval hW _ hcond _ hL _ _
  refine contract (B:=maxLen) (n:=8) (s:=Rows.auditTimelinesSpec) seatOk resT Tryz.underlying4 rfl par (fun ds hds=>?_) LB hval hW (.inl (Nat.le_refl _)) (glOk hL)
  have hds : ds.length = 2:=hds
  match ds,hds with
  | [_,_],_=>rfl
theorem jq1 : (Rows.auditTimelinesRow.inPlace == Tryz.pinned.checked.prog.inPlace 3) = true:=by kernel_rfl
theorem jq2 : (Rows.auditTimelinesRow.unfollowed == Tryz.pinned.checked.prog.unfollowed 3) = true:=by kernel_rfl
theorem jq3 : (Rows.auditTimelinesRow.recurses == Tryz.pinned.checked.prog.recurses 3) = true:=by kernel_rfl
theorem jq4 : (Rows.auditTimelinesRow.named == Tryz.pinned.checked.prog.varsNamed 3) = true:=by kernel_rfl
theorem closed : joinedFacts Tryz.pinned.checked.prog 3 Tryz.f3 (OpenSpec.ofChange Rows.auditTimelinesSpec).bare Rows.auditTimelinesRow = true:=by
  unfold joinedFacts
  rw [jq1,jq2,jq3,jq4]
  kernel_rfl
theorem said : Rows.AuditTimelinesSaid :=
  OpenClaim.holds_of_cond 3 Tryz.f3 rfl rfl rfl rfl rfl rfl rfl ⟨rfl,rfl,rfl,rfl,rfl⟩ rfl rfl rfl rfl rfl (by kernel_rfl) Tryz.func3 closed
    (of_decide_eq_true (by kernel_rfl)) (by unfold Func.isWrapper; first | (rw [if_pos (by decide +kernel)]; kernel_rfl) | (rw [if_neg (by decide +kernel)]; exact ⟨rfl,rfl⟩))
    (fun os started H enc _ F=>by rw [OpenClaim.pre_eq_preRow]; exact lifted os started H enc F)
theorem plain (f : FuncId) (fn : Func) (hf : Tryz.pinned.checked.prog.funcNamed "cellular/cellularlaw58.AuditTimelines" = some f) (hfn : Tryz.pinned.checked.prog.funcs[f]? = some fn) :
    false = Tryz.pinned.checked.prog.looks [] ∧ ∀ (j : Nat) t,fn.params[j]? = some t → Tryz.pinned.checked.prog.wantsStandIn t = false:=by
  obtain rfl : f = 3 := Option.some.inj ((show Tryz.prog.funcNamed "cellular/cellularlaw58.AuditTimelines" = some 3 by kernel_rfl).symm.trans hf) |>.symm
  obtain rfl : fn = Tryz.f3:=(Option.some.inj (Tryz.func3.symm.trans hfn)).symm
  refine ⟨by kernel_rfl,fun j t ht=>?_⟩
  rw [Tryz.params3] at ht
  have:=Array.mem_of_getElem? ht
  have : t = 25 ∨ t = 28:=by simpa using this
  rcases this with rfl | rfl
  · exact (show Tryz.prog.wantsStandIn 25 = false by kernel_rfl)
  · exact (show Tryz.prog.wantsStandIn 28 = false by kernel_rfl)
theorem card : Rows.AuditTimelinesCardSaid :=
  Claim7.holds_tied_plain_at .later [] _ _ _ _ said (fun _ h=>by cases h) (by kernel_rfl) (fun _ h=>by cases h) auditTimelines_row_tie rfl ⟨rfl,rfl⟩ (by kernel_rfl) rfl plain (by kernel_rfl)
#print axioms card
end Go.Proofs.YtgljapjkjbmicaaGreatDoor.auditTimelines
