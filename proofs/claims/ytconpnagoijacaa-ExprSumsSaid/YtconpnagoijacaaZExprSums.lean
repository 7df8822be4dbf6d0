/- ExprSums -/
import Derived.Test.YtconpnagoijacaaRows
import Derived.WalkKit
import Derived.ProofKit
import Derived.OpenShut
import Derived.ShutString
import Derived.ChangeOld
import Derived.Below
import Derived.SizedLaws
import Derived.Test.YtconpnagoijacaaVWords
import Derived.Test.YtconpnagoijacaaVLast
import Derived.Test.YtconpnagoijacaaVApart
import Derived.Test.YtconpnagoijacaaVArr
import Derived.Test.YtconpnagoijacaaVFoot
import Derived.Test.YtconpnagoijacaaVKept
import Derived.Test.YtconpnagoijacaaVShare
import Derived.Test.YtconpnagoijacaaVZeros
import Derived.Test.YtconpnagoijacaaVN
import Derived.Test.YtconpnagoijacaaVFootNe
import Derived.Test.YtconpnagoijacaaVAt
import Derived.Test.YtconpnagoijacaaVEqStruct
import Derived.Test.YtconpnagoijacaaVTab
import Derived.Test.YtconpnagoijacaaVFour
import Derived.Test.YtconpnagoijacaaVGuard
import Derived.Test.YtconpnagoijacaaVInv
import Derived.Test.YtconpnagoijacaaVInvWords
import Derived.Test.YtconpnagoijacaaVQPut
import Derived.Test.YtconpnagoijacaaVNEv
import Derived.Test.YtconpnagoijacaaVMore
import Derived.Test.YtconpnagoijacaaVRepsOne
import Derived.Test.YtconpnagoijacaaVSized
import Derived.Test.YtconpnagoijacaaCExprSums0
import Derived.Test.YtconpnagoijacaaCExprSums1
import Derived.Test.YtconpnagoijacaaCExprSums2
import Derived.Test.YtconpnagoijacaaCExprSums3
import Derived.Test.YtconpnagoijacaaCExprSums4
namespace Go.Proofs.Ytconpnagoijacaa.exprSums
open Go.ChangeShapes Go.WideShapes Go.ChangeAt Go.RowKit Go.Proofs.Ytconpnagoijacaa.P Go.Proofs.YtconpnagoijacaaW.PrintWords
open Go.ChangeMaps (open_string shut_string)
set_option linter.unusedVariables false
theorem own : ownKnob Try.prog.godebug = none := by kernel_rfl
theorem laidOut : laidOutB Try.prog = true := by kernel_rfl
set_option maxRecDepth 100000 in
theorem lifted (os : Os) (started : os.Started) (H : Type) (enc : TypeId × Value → H) :
    ReturnsInHanded {} Try.checked os 12 .any (Rows.exprSumsSpec.pre6 enc Try.prog Try.f12 Rows.exprSumsRow.domain false) (Rows.exprSumsSpec.post enc Try.prog Try.f12 false true false false) := by
  refine returnsInHanded_of_change_sized (C := Try.checked) own started (by kernel_rfl) Try.func12
    (ChangeSpec.witness6 (enc := enc) (C := Try.checked) false ⟨#[], #[.slice none 0 0], []⟩ 8 (by kernel_rfl) (by kernel_rfl) (by kernel_rfl) (by kernel_rfl)) ?_
  intro W base args ds gs before hval0 hW hcnd hsz0 _
  have hsz : (DataW.weightsEach Try.prog (Try.f12.params.toList ++ Rows.exprSumsSpec.plain.varTypes Try.prog) (ds ++ gs)).all (· ≤ reachBytes) = true := hsz0
  have hval : ∀ (j : Nat) t v, Try.f12.params[j]? = some t → args[j]? = some v → Value.okWide Try.prog W .any base t v := hval0
  have hW' := hW
  obtain ⟨p, q, hA0, hV, rfl, hfz, hnd⟩ := hW
  have hA : DataW.TrodAll enc Try.prog W 0 (fun _ => true) true Try.f12.params.toList args.toList ds p := hA0
  rw [Try.params12] at hA hval hsz
  obtain ⟨v0, vs0, d0, ds0, p0, q0, hargs, rfl, rfl, h0, r0⟩ := trodAll_cons hA
  obtain ⟨rfl, rfl, rfl⟩ := trodAll_nil r0
  obtain rfl : args = #[v0] := by cases args; simp_all
  obtain ⟨rfl, rfl⟩ := trodVars_none hV
  obtain ⟨a0, len0, cap0, rfl⟩ := okWide_slice Try.underlying22 (hval 0 22 v0 rfl rfl)
  have k0 := h0
  have lt0 : ∀ x ∈ p0, x.block < W.heap.size := by obtain ⟨m, hm⟩ := k0; exact DataW.trod_lt m _ _ _ hm
  obtain ⟨l0, rfl, hr0, hc0, hz0, ho0⟩ := Opens.arg o3 Try.underlying22 rfl hsz (j := 0) (t := 22) rfl rfl h0
  clear hA0 hval0 hsz0 hsz
  obtain ⟨k, hk⟩ := Pure.ExprSums l0 hz0 ho0
  refine (P.constablelaw07_ExprSums.calls k a0 cap0 l0 true W hr0 hc0 hk rfl).mono fun e W' ⟨he, bel0⟩ => ?_
  have bel := bel0
  subst he
  exact ⟨_, rfl, _, _, _, [], _, [], hW', trodAll_mk1 (shut_bool Try.underlying4 _), (trodAll_cons_mk (Below.trod laidOut (by kernel_rfl) (of_decide_eq_true (by kernel_rfl)) k0 bel lt0) trodAll_mk0), rfl, bel.frame _, fun h => by cases h⟩
theorem over : Rows.exprSumsRow.holds Try.pinned (OpenSpec.ofChange Rows.exprSumsSpec) :=
  OpenClaim.holds_of_wide 12 Try.f12 rfl rfl rfl rfl rfl rfl rfl ⟨rfl, rfl, rfl, rfl, rfl⟩ rfl rfl rfl rfl rfl (by kernel_rfl) Try.func12 (by kernel_rfl)
    (of_decide_eq_true (by kernel_rfl)) (by unfold Func.isWrapper; first | (rw [if_pos (by decide +kernel)]; kernel_rfl) | (rw [if_neg (by decide +kernel)]; exact ⟨rfl, rfl⟩))
    (fun os started H enc _ => lifted os started H enc)
theorem proved : Rows.ExprSumsSaid := over
#print axioms proved
end Go.Proofs.Ytconpnagoijacaa.exprSums
namespace Go.Proofs.Ytconpnagoijacaa
/-- The row, under a short name, for the claim. -/
theorem exprSums_holds : Rows.ExprSumsSaid := exprSums.proved
end Go.Proofs.Ytconpnagoijacaa
