/- FormulaBent: for every input the law returns true; its arguments read as before. No condition beside the given statement's own. -/
import Derived.Test.YtfdopmapaaagoaaGreatDoorM7
import Derived.Test.YtfdopmapaaagoaaGreatDoorRows
import Derived.Test.YtfdopmapaaagoaaGreatDoorCards
import Derived.Test.YtfdopmapaaagoaaGreatDoorTie
import Derived.WalkKit
import Derived.ProofKit
import Derived.OpenShut
import Derived.ShutString
import Derived.ChangeOld
import Derived.Below
import Derived.SizedLaws
import Derived.LaidMore
import Derived.SevenTiedAt
import Derived.MakeChecks
import Derived.Stop.Joined
import Derived.LaidLaws
import Derived.Lay
namespace Go.Proofs.YtfdopmapaaagoaaGreatDoor.formulaBent
open Go.ChangeShapes Go.WideShapes Go.ChangeAt Go.RowKit Go.PV
open Go.ChangeMaps (open_string shut_string)
set_option linter.unusedVariables false
theorem own : ownKnob Tryz.prog.godebug = none := by kernel_rfl
theorem laidOut : laidOutB Tryz.prog = true := by kernel_rfl
set_option maxRecDepth 100000 in
theorem lifted (os : Os) (started : os.Started) (H : Type) (enc : TypeId × Value → H) :
    ReturnsInHanded {} Tryz.checked os 8 .any (fun w args => (Rows.formulaBentSpec.pre enc Tryz.prog Tryz.f8 [] false w args ∧ laidMetH Tryz.prog Rows.formulaBentRow.laid w) ∧ sizedMet enc Tryz.prog Tryz.f8 (OpenSpec.ofChange Rows.formulaBentSpec) false w args) (Rows.formulaBentSpec.post enc Tryz.prog Tryz.f8 false true false false) := by
  refine returnsInHanded_of_change_and (C := Tryz.checked) (X := fun w _ => laidMetH Tryz.prog Rows.formulaBentRow.laid w) (fun _ _ _ hh h => h.of_heap hh) own started (by kernel_rfl) Tryz.func8
    (ChangeSpec.witness_shaped (enc := enc) (C := Tryz.checked) (os := os) (X := fun w _ => laidMetH Tryz.prog Rows.formulaBentRow.laid w) false (World.laidAll Tryz.prog os Rows.formulaBentRow.laid) #[.int .i64 0, .agg #[.string ByteArray.empty, .slice none 0 0]] 8 (World.laidAll_os _ _ _) (World.shaped_of_ZipB (by kernel_rfl) (by kernel_rfl)) (by kernel_rfl) (by kernel_rfl) (by kernel_rfl)
      (by rw [MakeChecks.laidMetH_plain _ _ _ (by kernel_rfl)]; exact laidMet_laidAll _ (by kernel_rfl) (by kernel_rfl))) ?_
  intro W base args ds gs before hval0 hW hcnd hsz0 hL0 _
  have hval : ∀ (j : Nat) t v, Tryz.f8.params[j]? = some t → args[j]? = some v → Value.okWide Tryz.prog W .any base t v := hval0
  have hW' := hW
  obtain ⟨p, q, hA0, hV, rfl, hfz, hnd⟩ := hW
  have hA : DataW.TrodAll enc Tryz.prog W 0 (fun _ => true) true Tryz.f8.params.toList args.toList ds p := hA0
  rw [Tryz.params8] at hA hval
  obtain ⟨v0, vs0, d0, ds0, p0, q0, hargs, rfl, rfl, h0, r0⟩ := trodAll_cons hA
  obtain ⟨v1, vs1, d1, ds1, p1, q1, rfl, rfl, rfl, h1, r1⟩ := trodAll_cons r0
  obtain ⟨rfl, rfl, rfl⟩ := trodAll_nil r1
  obtain rfl : args = #[v0, v1] := by cases args; simp_all
  obtain ⟨rfl, rfl⟩ := trodVars_none hV
  obtain ⟨a0, rfl, rfl, rfl, w0⟩ := open_int Tryz.underlying3 (hval 0 3 v0 rfl rfl) h0
  have k1 := h1
  have lt1 : ∀ x ∈ p1, x.block < W.heap.size := by obtain ⟨m, hm⟩ := k1; exact DataW.trod_lt m _ _ _ hm
  obtain ⟨u1, cs1, rfl, S1, ho1⟩ := OpensV.agg o48 Tryz.underlying48 (hval 1 48 v1 rfl rfl) h1
  clear hA0 hval0 hsz0
  have hL1 : laidMet Tryz.prog Rows.formulaBentRow.laid W := by rw [← MakeChecks.laidMetH_plain _ _ _ (by kernel_rfl)]; exact hL0
  have hZ : LaidZ W := ⟨laidT_of (hL1.tail.tail), globSyn_of (hL1.tail.tail.tail.tail.tail), globRan_of (hL1.tail.tail.tail.tail)⟩
  refine (law_calls (vs := [_, _]) (formulaBent_good a0 u1 w0 ho1) (.cons (ra0 (.int _ _)) (.cons (raAgg S1) .nil)) (glob_size hZ) hZ).mono fun e W' ⟨he, bel⟩ => ?_
  subst he
  exact ⟨_, rfl, _, _, _, [], _, [], hW', trodAll_mk1 (shut_bool Tryz.underlying4 _), (trodAll_cons_mk (shut_int Tryz.underlying3 w0) (trodAll_cons_mk (Below.trod laidOut (by kernel_rfl) (of_decide_eq_true (by kernel_rfl)) k1 bel lt1) trodAll_mk0)), rfl, bel.frame _, fun h => by cases h⟩
set_option maxRecDepth 100000 in
theorem j1 : Rows.formulaBentRow.wf (OpenSpec.ofChange Rows.formulaBentSpec) = true := by kernel_rfl
set_option maxRecDepth 100000 in
theorem j3 : mapsRowed Tryz.prog = true := by kernel_rfl
set_option maxRecDepth 100000 in
theorem j4 : namedTie Tryz.prog Rows.formulaBentRow.named Rows.formulaBentSpec.vars = true := by kernel_rfl
set_option maxRecDepth 100000 in
theorem j5 : (Tryz.prog.stops == []) = true := by kernel_rfl
set_option maxRecDepth 100000 in
theorem j6 : (Tryz.prog.stopKnobs == []) = true := by kernel_rfl
set_option maxRecDepth 100000 in
theorem j7 : (Rows.formulaBentRow.inPlace == Tryz.prog.inPlace 8) = true := by kernel_rfl
set_option maxRecDepth 100000 in
theorem j8 : (Rows.formulaBentRow.unfollowed == Tryz.prog.unfollowed 8) = true := by kernel_rfl
set_option maxRecDepth 100000 in
theorem j9 : (Rows.formulaBentRow.recurses == Tryz.prog.recurses 8) = true := by kernel_rfl
set_option maxRecDepth 100000 in
theorem j10 : (Rows.formulaBentRow.named == Tryz.prog.varsNamed 8) = true := by kernel_rfl
set_option maxRecDepth 100000 in
theorem j11 : (Rows.formulaBentRow.plainKeys == Tryz.prog.plainKeys) = true := by kernel_rfl
set_option maxRecDepth 100000 in
theorem j12 : Tryz.prog.stopsHeard = true := by kernel_rfl
set_option maxRecDepth 100000 in
theorem j13 : Tryz.prog.mayEnter = true := by kernel_rfl
set_option maxRecDepth 100000 in
theorem j14 : (Rows.formulaBentRow.lifted == Tryz.prog.liftsFinal) = true := by kernel_rfl
set_option maxRecDepth 100000 in
theorem j15 : (Tryz.prog.make == some Rows.formulaBentRow.make) = true := by kernel_rfl
set_option maxRecDepth 100000 in
theorem j17 : Tryz.prog.funcNamed "constable/constablelaw12.FormulaBent" = some 8 := by kernel_rfl
set_option maxRecDepth 100000 in
theorem w1 : Rows.formulaBentRow.wfByText (OpenSpec.ofChange Rows.formulaBentSpec) = true := by kernel_rfl
set_option maxRecDepth 100000 in
theorem w2 : Tryz.prog.mainIs = some (true, "f8be040ae68293bc07507022844735a8ec62d05814589fc81fbd2576ea770058".toList) := by kernel_rfl
set_option maxRecDepth 100000 in
theorem w3 : true = Tryz.prog.looks [] := by kernel_rfl
set_option maxRecDepth 100000 in
theorem w4 : false = Rows.formulaBentRow.goesBy Tryz.prog := by kernel_rfl
set_option maxRecDepth 100000 in
theorem w5 : ([3, 48].all fun u => !Tryz.prog.wantsStandIn u) = true := by kernel_rfl
set_option maxRecDepth 100000 in
theorem closed : joinedFacts Tryz.prog 8 Tryz.f8 Rows.formulaBentSpec Rows.formulaBentRow = true := joined_of j1 laidOut j3 j4 j5 j6 j7 j8 j9 j10 j11 j12 j13 j14 j15 (by kernel_rfl)
theorem over : Rows.formulaBentRow.holds Tryz.pinned (OpenSpec.ofChange Rows.formulaBentSpec) :=
  OpenClaim.holds_of_wide 8 Tryz.f8 rfl rfl rfl rfl rfl rfl rfl ⟨rfl, rfl, rfl, rfl, rfl⟩ rfl rfl rfl rfl rfl j17 Tryz.func8 closed
    (of_decide_eq_true (by kernel_rfl)) (by unfold Func.isWrapper; first | (rw [if_pos (by decide +kernel)]; kernel_rfl) | (rw [if_neg (by decide +kernel)]; exact ⟨rfl, rfl⟩))
    (fun os started H enc _ => lifted os started H enc)
theorem proved : Rows.FormulaBentCardSaid :=
  Claim7.holds_tied_plain_at .later [] [.data, .data, .data, .data, .sentinel, .sentinel, .pinned] true (true, "f8be040ae68293bc07507022844735a8ec62d05814589fc81fbd2576ea770058") true
    over (fun _ h => by cases h) w1 (fun _ h => by cases h) formulaBent_row_tie rfl ⟨rfl, rfl⟩ w2 rfl
    (fun f fn hf hfn => by
      obtain rfl : f = 8 := Option.some.inj (j17.symm.trans hf) |>.symm
      obtain rfl : fn = Tryz.f8 := (Option.some.inj (Tryz.func8.symm.trans hfn)).symm
      exact ⟨w3, fun j t ht => by
        rw [Tryz.params8] at ht
        have hm : t ∈ [3, 48] := by simpa using Array.mem_of_getElem? ht
        exact (show Tryz.prog.wantsStandIn t = false by simpa using List.all_eq_true.1 w5 t hm)⟩)
    w4
#print axioms proved
end Go.Proofs.YtfdopmapaaagoaaGreatDoor.formulaBent
namespace Go.Proofs.YtfdopmapaaagoaaGreatDoor
/-- The statement, under a short name, for the claim. -/
theorem formulaBent_holds : Rows.FormulaBentCardSaid := formulaBent.proved
end Go.Proofs.YtfdopmapaaagoaaGreatDoor
