/- Part 2 of the proof of ValExact: words, contracts of functions of the program (what a call answers), and what the answers say. -/
import Derived.Test.YtaopajmpifenoaaDoorVWords
import Derived.Test.YtaopajmpifenoaaDoorVLast
import Derived.Test.YtaopajmpifenoaaDoorVApart
import Derived.Test.YtaopajmpifenoaaDoorVArr
import Derived.Test.YtaopajmpifenoaaDoorVFoot
import Derived.Test.YtaopajmpifenoaaDoorVKept
import Derived.Test.YtaopajmpifenoaaDoorVShare
import Derived.Test.YtaopajmpifenoaaDoorVZeros
import Derived.Test.YtaopajmpifenoaaDoorVN
import Derived.Test.YtaopajmpifenoaaDoorVFootNe
import Derived.Test.YtaopajmpifenoaaDoorVAt
import Derived.Test.YtaopajmpifenoaaDoorVEqStruct
import Derived.Test.YtaopajmpifenoaaDoorVTab
import Derived.Test.YtaopajmpifenoaaDoorVFour
import Derived.Test.YtaopajmpifenoaaDoorVGuard
import Derived.Test.YtaopajmpifenoaaDoorVInv
import Derived.Test.YtaopajmpifenoaaDoorVInvWords
import Derived.Test.YtaopajmpifenoaaDoorVQPut
import Derived.Test.YtaopajmpifenoaaDoorVNEv
import Derived.Test.YtaopajmpifenoaaDoorVMore
import Derived.Test.YtaopajmpifenoaaDoorVRepsOne
import Derived.Test.YtaopajmpifenoaaDoorVSized
import Derived.Test.YtaopajmpifenoaaDoorCValExact0
section
namespace Go.Proofs.YtaopajmpifenoaaDoor.P
open Go.RowKit Go.Proofs.YtaopajmpifenoaaDoorW.PrintWords Go.Proofs.YtaopajmpifenoaaDoorW.PrintLast Go.Proofs.YtaopajmpifenoaaDoorW.PrintMore
attribute [local go_sem] max2_int min2_int max_two min_two max_three min_three max_four min_four
set_option linter.unusedVariables false
set_option linter.unusedSimpArgs false
def val_bare.l0 : Nat → ByteArray → List Int → Int → Option (ByteArray)
  | 0, _, _, _ => none
  | k + 1, x0, x3, x4 => if x4 < (wrap64 ((x0.size : Int) - 1)) then (if 0 ≤ x4 then (if x4 < (x0.size : Int) then (if (bt x0 x4) = 92 then (if (wrap64 (x4 + 1)) < (wrap64 ((x0.size : Int) - 1)) then (if 0 ≤ (wrap64 (x4 + 1)) then (if (wrap64 (x4 + 1)) < (x0.size : Int) then (if x3.length < 140737488355328 then (val_bare.l0 k x0 (x3 ++ [bt x0 (wrap64 (x4 + 1))]) (wrap64 ((wrap64 (x4 + 1)) + 1))) else (none)) else (none)) else (none)) else (if x3.length < 140737488355328 then (val_bare.l0 k x0 (x3 ++ [bt x0 x4]) (wrap64 (x4 + 1))) else (none))) else (if x3.length < 140737488355328 then (val_bare.l0 k x0 (x3 ++ [bt x0 x4]) (wrap64 (x4 + 1))) else (none))) else (none)) else (none)) else (some (strOfNums x3))
def val_bare.f (k : Nat) (a0 : ByteArray) : Option (ByteArray) := val_bare.l0 k a0 ([] : List Int) 1
theorem val_bare.mono_l : ∀ k, (∀ y0 y1 y2, LeO (val_bare.l0 k y0 y1 y2) (val_bare.l0 (k + 1) y0 y1 y2))
  | 0 => fun _ _ _ r h => by simp [val_bare.l0] at h
  | k + 1 => by
    have ih0 := val_bare.mono_l k
    · intro y0 y1 y2
      unfold val_bare.l0
      repeat' first
      | (with_reducible exact ih0 _ _ _)
      | (with_reducible exact LeO.refl _)
      | (with_reducible exact LeO.none _)
      | (with_reducible refine LeO.ite ?_ ?_)
      | (with_reducible refine LeO.bind ?_ (fun _ => ?_))
      | exact ih0 _ _ _
      | exact LeO.none _
      | refine LeO.ite ?_ ?_
      | refine LeO.bind ?_ (fun _ => ?_)
theorem val_bare.mono : ∀ a0 k, LeO (val_bare.f k a0) (val_bare.f (k + 1) a0) := by
  intro a0 k
  have ih0 := val_bare.mono_l k
  unfold val_bare.f
  repeat' first
      | (with_reducible exact ih0 _ _ _)
      | (with_reducible exact LeO.refl _)
      | (with_reducible exact LeO.none _)
      | (with_reducible refine LeO.ite ?_ ?_)
      | (with_reducible refine LeO.bind ?_ (fun _ => ?_))
      | exact ih0 _ _ _
      | exact LeO.none _
      | refine LeO.ite ?_ ?_
      | refine LeO.bind ?_ (fun _ => ?_)
set_option maxHeartbeats 8000000 in
set_option maxRecDepth 100000 in
theorem val_bare.calls (k : Nat) (a0 : ByteArray) (r : ByteArray) (w : World) (h : val_bare.f k a0 = some r) :
    Calls Tryd.prog 50 #[.string a0] w fun e w' => e = .returned (.string r) ∧ Below w.heap.size w w' := by
  have HB := Aside0.mk (Below.refl w.heap.size w)
  have H : (val_bare.l0 k a0 ([] : List Int) 1) = some r := h
  clear h
  have H' := Aside0.mk H
  clear H
  go_enter Tryd.func50, Tryd.ntmps50
  go_wp2
  go_loopg [3, 4] k (fun kq v3 v4 w' => ∃ (x3_1 : List Int) (x4_1 : Int), v4 = .int .i64 x4_1 ∧ Aside0 (val_bare.l0 kq a0 x3_1 x4_1 = some r) ∧ Aside0 (kq ≤ k) ∧ Aside0 (Kd.R (Kd.int .u8) 5 w' w.heap.size (fun _ => True) v3 x3_1) ∧ Aside0 (Below w.heap.size w w'))
  case atStart => exact ⟨(([] : List Int)), (1), ra_, H', ⟨Nat.le_refl _⟩, ⟨by first | exact Kd.R_nil _ _ _ _ _ | exact Kd.N_nil _ _ _ _ _ | exact Kd.V_nil _ _ _ _ _ | exact Kd.Q_nil _ _ _ _ _ | exact Kd.S_nil _ _ _ _ _⟩, ⟨by repeat (first | (with_reducible first | exact HB.out | apply below_alloc | apply pw_below_drewN | apply below_drew1) | exact HB.out)⟩⟩
  case round =>
    clear H'
    obtain ⟨x3_1, x4_1, rfl, HA, HK1, HO_3, HB⟩ := hrel
    cases gk with
    | zero => exact absurd HA.out (by simp [val_bare.l0])
    | succ k1 =>
      have H := HA.out
      clear HA
      simp only [val_bare.l0] at H
      by_cases c2 : x4_1 < (wrap64 ((a0.size : Int) - 1))
      · rw [if_pos c2] at H
        have c2b0 : decide (x4_1 < (wrap64 ((a0.size : Int) - 1))) = true := decide_eq_true c2
        clear c2
        by_cases c3 : 0 ≤ x4_1
        · rw [if_pos c3] at H
          have c3b0 : decide (0 ≤ x4_1) = true := decide_eq_true c3
          clear c3
          by_cases c4 : x4_1 < (a0.size : Int)
          · rw [if_pos c4] at H
            have c4b0 : decide (x4_1 < (a0.size : Int)) = true := decide_eq_true c4
            clear c4
            by_cases c6 : (bt a0 x4_1) = 92
            · rw [if_pos c6] at H
              obtain ⟨c6b0, c6b1⟩ := eqB_ c6
              clear c6
              by_cases c7 : (wrap64 (x4_1 + 1)) < (wrap64 ((a0.size : Int) - 1))
              · rw [if_pos c7] at H
                have c7b0 : decide ((wrap64 (x4_1 + 1)) < (wrap64 ((a0.size : Int) - 1))) = true := decide_eq_true c7
                clear c7
                obtain ⟨ji8, hji8⟩ : ∃ j_ : Int, (wrap64 (x4_1 + 1)) = j_ := ⟨_, rfl⟩
                replace H : (if 0 ≤ (ji8) then (if (ji8) < (a0.size : Int) then (if x3_1.length < 140737488355328 then (val_bare.l0 k1 a0 (x3_1 ++ [bt a0 (ji8)]) (wrap64 ((ji8) + 1))) else (none)) else (none)) else (none)) = some r := by first | (rw [hji8] at H; exact H) | (simp only [hji8] at H ⊢; exact H)
                (try rw [hji8] at c7b0)
                have hji8w : (IntKind.i64.wrap (x4_1 + 1)) = ji8 := (i64_w _).trans hji8
                by_cases c9 : 0 ≤ (ji8)
                · rw [if_pos c9] at H
                  have c9b0 : decide (0 ≤ (ji8)) = true := decide_eq_true c9
                  clear c9
                  by_cases c10 : (ji8) < (a0.size : Int)
                  · rw [if_pos c10] at H
                    have c10b0 : decide ((ji8) < (a0.size : Int)) = true := decide_eq_true c10
                    clear c10
                    by_cases c12 : x3_1.length < 140737488355328
                    · rw [if_pos c12] at H
                      have LMc12 := Aside0.mk c12
                      clear c12
                      obtain ⟨y331, hy331⟩ : ∃ y_ : List Int, y_ = (x3_1 ++ [bt a0 (ji8)]) := ⟨_, rfl⟩
                      replace H : (val_bare.l0 k1 a0 y331 (wrap64 ((ji8) + 1))) = some r := by first | (rw [hy331]; with_reducible exact H) | (have H2_ := (Option.bind_some _ _).symm.trans H; rw [hy331]; with_reducible exact H2_) | (have H2_ := (Option.bind_some _ _).symm.trans H; with_reducible exact H2_) | with_reducible exact H | (rw [hy331]; exact H) | exact H
                      have Ny331 := Aside0.mk hy331
                      clear hy331
                      have H' := Aside0.mk H
                      clear H
                      have p5 : 0 ≤ (x4_1 : Int) := dt_
                      have q5 : x4_1 < (a0.size : Int) := dt_
                      have hx5 := bt_at a0 x4_1
                      replace p5 := eq_true p5
                      replace q5 := eq_true q5
                      have p11 : 0 ≤ ((ji8) : Int) := dt_
                      have q11 : (ji8) < (a0.size : Int) := dt_
                      have hx11 := bt_at a0 (ji8)
                      replace p11 := eq_true p11
                      replace q11 := eq_true q11
                      go_wp2_with (first | ((with_reducible refine gate_builtin (b := .append) (xs := #[.tmp 26, .tmp 30]) rfl ?_); (try (refine gate_guard (by rfl) ?_; dsimp only)); at_builtin; refine Kd.R_append (Kd.int .u8) (w0 := w) w.heap.size rfl (.tmp 26) (.tmp 30) 81 5 (.int .u8 0) 1 rfl Tryd.underlying81 info5 rfl (by decide) (by omega) u3 x3_1 (bt a0 (ji8)) [.int .u8 (bt a0 (ji8))] (fun _ => True) (fun _ => False) rfl rfl ?aP (fun _ hk => hk.elim) ?aF ?aO ?aB ?aS ?aL ?_; (case aP => exact rfl); (case aB => exact (be_ HB)); (case aF => exact (fun _ _ => trivial)); (case aO => exact (ku_ HO_3.out)); (case aS => exact (below_size (be_ HB))); (case aL => have := LMc12.out; omega); intro v332 w13 ho hb hg hat; rw [← Ny331.out] at ho; have n0_ := Aside0.mk (hb); have n1_ := Aside0.mk (ho); clear HB; clear HO_3; have HB := n0_; have HO333 := n1_; clear n0_ n1_; clear ho hb hg hat))
                      go_roundg k1
                      case measure => have := HK1.out; omega
                      case rel => exact ⟨(y331), (wrap64 ((ji8) + 1)), (by first | rfl | (simp; done) | (simp only [← hji8] <;> (first | rfl | simp)) | (simp [*]; done)), H', ⟨by have := HK1.out; omega⟩, ⟨by (with_reducible repeat (first | apply Kd.R_alloc | apply Kd.R_drewN | apply Kd.R_drew)); exact HO333.out⟩, ⟨by repeat (first | (with_reducible first | exact HB.out | apply below_alloc | apply pw_below_drewN | apply below_drew1) | exact HB.out)⟩⟩
                    · rw [if_neg c12] at H
                      exact absurd H (by simp)
                  · rw [if_neg c10] at H
                    exact absurd H (by simp)
                · rw [if_neg c9] at H
                  exact absurd H (by simp)
              · rw [if_neg c7] at H
                have c7b0 : decide ((wrap64 (x4_1 + 1)) < (wrap64 ((a0.size : Int) - 1))) = false := decide_eq_false c7
                clear c7
                by_cases c15 : x3_1.length < 140737488355328
                · rw [if_pos c15] at H
                  have LMc15 := Aside0.mk c15
                  clear c15
                  obtain ⟨y334, hy334⟩ : ∃ y_ : List Int, y_ = (x3_1 ++ [bt a0 x4_1]) := ⟨_, rfl⟩
                  replace H : (val_bare.l0 k1 a0 y334 (wrap64 (x4_1 + 1))) = some r := by first | (rw [hy334]; with_reducible exact H) | (have H2_ := (Option.bind_some _ _).symm.trans H; rw [hy334]; with_reducible exact H2_) | (have H2_ := (Option.bind_some _ _).symm.trans H; with_reducible exact H2_) | with_reducible exact H | (rw [hy334]; exact H) | exact H
                  have Ny334 := Aside0.mk hy334
                  clear hy334
                  have H' := Aside0.mk H
                  clear H
                  have p5 : 0 ≤ (x4_1 : Int) := dt_
                  have q5 : x4_1 < (a0.size : Int) := dt_
                  have hx5 := bt_at a0 x4_1
                  replace p5 := eq_true p5
                  replace q5 := eq_true q5
                  have p14 : 0 ≤ (x4_1 : Int) := dt_
                  have q14 : x4_1 < (a0.size : Int) := dt_
                  have hx14 := bt_at a0 x4_1
                  replace p14 := eq_true p14
                  replace q14 := eq_true q14
                  go_wp2_with (first | ((with_reducible refine gate_builtin (b := .append) (xs := #[.tmp 26, .tmp 30]) rfl ?_); (try (refine gate_guard (by rfl) ?_; dsimp only)); at_builtin; refine Kd.R_append (Kd.int .u8) (w0 := w) w.heap.size rfl (.tmp 26) (.tmp 30) 81 5 (.int .u8 0) 1 rfl Tryd.underlying81 info5 rfl (by decide) (by omega) u3 x3_1 (bt a0 x4_1) [.int .u8 (bt a0 x4_1)] (fun _ => True) (fun _ => False) rfl rfl ?aP (fun _ hk => hk.elim) ?aF ?aO ?aB ?aS ?aL ?_; (case aP => exact rfl); (case aB => exact (be_ HB)); (case aF => exact (fun _ _ => trivial)); (case aO => exact (ku_ HO_3.out)); (case aS => exact (below_size (be_ HB))); (case aL => have := LMc15.out; omega); intro v335 w16 ho hb hg hat; rw [← Ny334.out] at ho; have n0_ := Aside0.mk (hb); have n1_ := Aside0.mk (ho); clear HB; clear HO_3; have HB := n0_; have HO336 := n1_; clear n0_ n1_; clear ho hb hg hat))
                  go_roundg k1
                  case measure => have := HK1.out; omega
                  case rel => exact ⟨(y334), (wrap64 (x4_1 + 1)), ra_, H', ⟨by have := HK1.out; omega⟩, ⟨by (with_reducible repeat (first | apply Kd.R_alloc | apply Kd.R_drewN | apply Kd.R_drew)); exact HO336.out⟩, ⟨by repeat (first | (with_reducible first | exact HB.out | apply below_alloc | apply pw_below_drewN | apply below_drew1) | exact HB.out)⟩⟩
                · rw [if_neg c15] at H
                  exact absurd H (by simp)
            · rw [if_neg c6] at H
              obtain ⟨c6b0, c6b1⟩ := neB_ c6
              by_cases c18 : x3_1.length < 140737488355328
              · rw [if_pos c18] at H
                have LMc18 := Aside0.mk c18
                clear c18
                obtain ⟨y337, hy337⟩ : ∃ y_ : List Int, y_ = (x3_1 ++ [bt a0 x4_1]) := ⟨_, rfl⟩
                replace H : (val_bare.l0 k1 a0 y337 (wrap64 (x4_1 + 1))) = some r := by first | (rw [hy337]; with_reducible exact H) | (have H2_ := (Option.bind_some _ _).symm.trans H; rw [hy337]; with_reducible exact H2_) | (have H2_ := (Option.bind_some _ _).symm.trans H; with_reducible exact H2_) | with_reducible exact H | (rw [hy337]; exact H) | exact H
                have Ny337 := Aside0.mk hy337
                clear hy337
                have H' := Aside0.mk H
                clear H
                have p5 : 0 ≤ (x4_1 : Int) := dt_
                have q5 : x4_1 < (a0.size : Int) := dt_
                have hx5 := bt_at a0 x4_1
                replace p5 := eq_true p5
                replace q5 := eq_true q5
                have p17 : 0 ≤ (x4_1 : Int) := dt_
                have q17 : x4_1 < (a0.size : Int) := dt_
                have hx17 := bt_at a0 x4_1
                replace p17 := eq_true p17
                replace q17 := eq_true q17
                go_wp2_with (first | ((with_reducible refine gate_builtin (b := .append) (xs := #[.tmp 26, .tmp 30]) rfl ?_); (try (refine gate_guard (by rfl) ?_; dsimp only)); at_builtin; refine Kd.R_append (Kd.int .u8) (w0 := w) w.heap.size rfl (.tmp 26) (.tmp 30) 81 5 (.int .u8 0) 1 rfl Tryd.underlying81 info5 rfl (by decide) (by omega) u3 x3_1 (bt a0 x4_1) [.int .u8 (bt a0 x4_1)] (fun _ => True) (fun _ => False) rfl rfl ?aP (fun _ hk => hk.elim) ?aF ?aO ?aB ?aS ?aL ?_; (case aP => exact rfl); (case aB => exact (be_ HB)); (case aF => exact (fun _ _ => trivial)); (case aO => exact (ku_ HO_3.out)); (case aS => exact (below_size (be_ HB))); (case aL => have := LMc18.out; omega); intro v338 w19 ho hb hg hat; rw [← Ny337.out] at ho; have n0_ := Aside0.mk (hb); have n1_ := Aside0.mk (ho); clear HB; clear HO_3; have HB := n0_; have HO339 := n1_; clear n0_ n1_; clear ho hb hg hat))
                go_roundg k1
                case measure => have := HK1.out; omega
                case rel => exact ⟨(y337), (wrap64 (x4_1 + 1)), ra_, H', ⟨by have := HK1.out; omega⟩, ⟨by (with_reducible repeat (first | apply Kd.R_alloc | apply Kd.R_drewN | apply Kd.R_drew)); exact HO339.out⟩, ⟨by repeat (first | (with_reducible first | exact HB.out | apply below_alloc | apply pw_below_drewN | apply below_drew1) | exact HB.out)⟩⟩
              · rw [if_neg c18] at H
                exact absurd H (by simp)
          · rw [if_neg c4] at H
            exact absurd H (by simp)
        · rw [if_neg c3] at H
          exact absurd H (by simp)
      · rw [if_neg c2] at H
        have c2b0 : decide (x4_1 < (wrap64 ((a0.size : Int) - 1))) = false := decide_eq_false c2
        clear c2
        obtain rfl := Option.some.inj H
        have hcv20 := own_string (P := Tryd.prog) Tryd.underlying81 Tryd.underlying5 Tryd.underlying9 (Kd.own_of_R HO_3.out)
        go_wp2
        go_ret
        exact ⟨by first | rfl | (simp [errW_none, errW_some] <;> rfl) | (simp [*, errW_none, errW_some] <;> rfl), by repeat (first | (with_reducible first | exact HB.out | apply below_alloc | apply pw_below_drewN | apply below_drew1) | exact HB.out)⟩
end Go.Proofs.YtaopajmpifenoaaDoor.P
end
section
namespace Go.Proofs.YtaopajmpifenoaaDoor.P
open Go.RowKit Go.Proofs.YtaopajmpifenoaaDoorW.PrintWords Go.Proofs.YtaopajmpifenoaaDoorW.PrintLast Go.Proofs.YtaopajmpifenoaaDoorW.PrintMore
attribute [local go_sem] max2_int min2_int max_two min_two max_three min_three max_four min_four
set_option linter.unusedVariables false
set_option linter.unusedSimpArgs false
def strconv_Atoi.f (a0 : ByteArray) : Option (Int × Option Int) := if a0.size ≤ 281474976710656 then (match Lib.atoiAll a0.data.toList with | .ok v => some (v, none) | .«syntax» => some (0, some 0) | .range => some (Lib.atoiSat a0.data.toList, some 0)) else none
theorem strconv_Atoi.calls0 (a0 : ByteArray) (r1 : Int) (w : World) (h : strconv_Atoi.f a0 = some (r1, none)) (hl_ : LaidE w) :
    Calls Tryd.prog 52 #[.string a0] w fun e w' => e = .returned (.tuple #[.int .i64 r1, .nilIface]) ∧ Below w.heap.size w w' := by
  unfold strconv_Atoi.f at h
  split at h
  · split at h
    · simp only [Option.some.injEq, Prod.mk.injEq, and_true] at h
      obtain rfl := h
      refine (Tryd.strconv_Atoi_ok a0 (by omega) _ (by assumption) w).mono ?_
      rintro e w' ⟨rfl, hw⟩
      refine ⟨rfl, ?_⟩
      rcases hw with rfl | ⟨t, rfl⟩
      · exact Below.refl _ _
      · exact Lib.bytesWorld_below _ _ _
    · simp at h
    · simp at h
  · cases h
theorem strconv_Atoi.calls1 (a0 : ByteArray) (r1 q : Int) (w : World) (h : strconv_Atoi.f a0 = some (r1, some q)) (hl_ : LaidE w) :
    Calls Tryd.prog 52 #[.string a0] w fun e w' => (∃ N : Nat, e = .returned (.tuple #[.int .i64 r1, .iface 96 (.pointer (some ⟨N, 0, none⟩))])) ∧ Below w.heap.size w w' := by
  unfold strconv_Atoi.f at h
  split at h
  · rename_i hs
    obtain ⟨_, ⟨tp, p, hsyn⟩, ⟨tp2, p2, hran⟩⟩ := hl_
    split at h
    · simp at h
    · simp only [Option.some.injEq, Prod.mk.injEq] at h
      obtain ⟨rfl, rfl⟩ := h
      refine (Tryd.strconv_Atoi_syntax_var a0 hs (by assumption) tp p w hsyn).mono ?_
      rintro e w' ⟨N, rfl, _, _, hb⟩
      exact ⟨⟨N, rfl⟩, hb⟩
    · simp only [Option.some.injEq, Prod.mk.injEq] at h
      obtain ⟨rfl, rfl⟩ := h
      refine (Tryd.strconv_Atoi_range_var a0 hs (by assumption) tp2 p2 w hran).mono ?_
      rintro e w' ⟨N, rfl, _, _, hb⟩
      exact ⟨⟨N, rfl⟩, hb⟩
  · cases h
end Go.Proofs.YtaopajmpifenoaaDoor.P
end
section
namespace Go.Proofs.YtaopajmpifenoaaDoor.P
open Go.RowKit Go.Proofs.YtaopajmpifenoaaDoorW.PrintWords Go.Proofs.YtaopajmpifenoaaDoorW.PrintLast Go.Proofs.YtaopajmpifenoaaDoorW.PrintMore
attribute [local go_sem] max2_int min2_int max_two min_two max_three min_three max_four min_four
set_option linter.unusedVariables false
set_option linter.unusedSimpArgs false
def val_Parse.j0 : Nat → ByteArray → Bool → Int → Int → ByteArray → Option (Int × Int × ByteArray × Int)
  | 0, _, _, _, _, _ => none
  | k + 1, x0, x22, x342000, x342001, x342002 => if x22 = true then ((strconv_Atoi.f x0).bind fun bt346 => (if bt346.2.isNone = true then ((val_Text.f k 1 bt346.1 (⟨#[]⟩ : ByteArray)).bind fun bt349 => (if bt349.2 = 0 then (if bt349.1.toList = x0.toList then (some (1, bt346.1, (⟨#[]⟩ : ByteArray), 0)) else (some (0, 0, (⟨#[]⟩ : ByteArray), 7))) else (some (0, 0, (⟨#[]⟩ : ByteArray), 7)))) else (some (0, 0, (⟨#[]⟩ : ByteArray), 7)))) else ((val_Text.f k x342000 x342001 x342002).bind fun bt351 => (if bt351.2 = 0 then (if bt351.1.toList = x0.toList then (some (x342000, x342001, x342002, 0)) else (some (0, 0, (⟨#[]⟩ : ByteArray), 7))) else (some (0, 0, (⟨#[]⟩ : ByteArray), 7))))
def val_Parse.f (k : Nat) (a0 : ByteArray) : Option (Int × Int × ByteArray × Int) := if a0.toList = ([] : List UInt8) then (some (0, 0, (⟨#[]⟩ : ByteArray), 7)) else (if 0 < (a0.size : Int) then (if (bt a0 0) = 34 then ((val_bare.f k a0).bind fun t342 => ((val_Text.f k 3 0 t342).bind fun bt343 => (if bt343.2 = 0 then (if bt343.1.toList = a0.toList then (some (3, 0, t342, 0)) else (some (0, 0, (⟨#[]⟩ : ByteArray), 7))) else (some (0, 0, (⟨#[]⟩ : ByteArray), 7))))) else (if (bt a0 0) = 45 then (val_Parse.j0 k a0 true 2 0 a0) else ((val_digit.f (bt a0 0)).bind fun t345 => (val_Parse.j0 k a0 t345 2 0 a0)))) else (none))
theorem val_Parse.mono_l : ∀ k, (∀ y0 y1 y2 y3 y4, LeO (val_Parse.j0 k y0 y1 y2 y3 y4) (val_Parse.j0 (k + 1) y0 y1 y2 y3 y4))
  | 0 => fun _ _ _ _ _ r h => by simp [val_Parse.j0] at h
  | k + 1 => by
    have ih0 := val_Parse.mono_l k
    · intro y0 y1 y2 y3 y4
      unfold val_Parse.j0
      repeat' first
      | (with_reducible exact ih0 _ _ _ _ _)
      | (with_reducible exact val_Text.mono _ _ _ _)
      | (with_reducible exact val_bare.mono _ _)
      | (with_reducible exact LeO.refl _)
      | (with_reducible exact LeO.none _)
      | (with_reducible refine LeO.ite ?_ ?_)
      | (with_reducible refine LeO.bind ?_ (fun _ => ?_))
      | exact ih0 _ _ _ _ _
      | exact val_Text.mono _ _ _ _
      | exact val_bare.mono _ _
      | exact LeO.none _
      | refine LeO.ite ?_ ?_
      | refine LeO.bind ?_ (fun _ => ?_)
theorem val_Parse.mono : ∀ a0 k, LeO (val_Parse.f k a0) (val_Parse.f (k + 1) a0) := by
  intro a0 k
  have ih0 := val_Parse.mono_l k
  unfold val_Parse.f
  repeat' first
      | (with_reducible exact ih0 _ _ _ _ _)
      | (with_reducible exact val_Text.mono _ _ _ _)
      | (with_reducible exact val_bare.mono _ _)
      | (with_reducible exact LeO.refl _)
      | (with_reducible exact LeO.none _)
      | (with_reducible refine LeO.ite ?_ ?_)
      | (with_reducible refine LeO.bind ?_ (fun _ => ?_))
      | exact ih0 _ _ _ _ _
      | exact val_Text.mono _ _ _ _
      | exact val_bare.mono _ _
      | exact LeO.none _
      | refine LeO.ite ?_ ?_
      | refine LeO.bind ?_ (fun _ => ?_)
set_option maxHeartbeats 8000000 in
set_option maxRecDepth 100000 in
theorem val_Parse.calls (k : Nat) (a0 : ByteArray) (r1 : Int) (r2 : Int) (r3 : ByteArray) (r4 : Int) (w : World) (h : val_Parse.f k a0 = some (r1, r2, r3, r4)) (hl_ : LaidE w) :
    Calls Tryd.prog 27 #[.string a0] w fun e w' => e = .returned (.tuple #[.agg #[.int .i64 r1, .int .i64 r2, .string r3], .int .i64 r4]) ∧ Below w.heap.size w w' := by
  have hu44 := Tryd.underlying44
  have hu72 := Tryd.underlying72
  have HB := Aside0.mk (Below.refl w.heap.size w)
  have H : (if a0.toList = ([] : List UInt8) then (some (0, 0, (⟨#[]⟩ : ByteArray), 7)) else (if 0 < (a0.size : Int) then (if (bt a0 0) = 34 then ((val_bare.f k a0).bind fun t342 => ((val_Text.f k 3 0 t342).bind fun bt343 => (if bt343.2 = 0 then (if bt343.1.toList = a0.toList then (some (3, 0, t342, 0)) else (some (0, 0, (⟨#[]⟩ : ByteArray), 7))) else (some (0, 0, (⟨#[]⟩ : ByteArray), 7))))) else (if (bt a0 0) = 45 then (val_Parse.j0 k a0 true 2 0 a0) else ((val_digit.f (bt a0 0)).bind fun t345 => (val_Parse.j0 k a0 t345 2 0 a0)))) else (none))) = some (r1, r2, r3, r4) := h
  clear h
  have HL_ := Aside0.mk hl_
  clear hl_
  by_cases c2 : a0.toList = ([] : List UInt8)
  · rw [if_pos c2] at H
    obtain ⟨c2b0, c2b1⟩ := eqB_ c2
    clear c2
    simp only [Option.some.injEq, Prod.mk.injEq] at H
    obtain ⟨rfl, rfl, rfl, rfl⟩ := H
    go_enter Tryd.func27, Tryd.ntmps27
    go_wp2_with (first | ((with_reducible refine gate_dst (N := 2) rfl ?_); refine box_event ?hg (N := 2) ?hd (cs := #[.int .i64 0, .int .i64 0, .string (⟨#[]⟩ : ByteArray)]) (t := 44) ?hr ?_; (case hd => rfl); (case hg => rfl); (case hr => first | (go_simp; done) | (go_simp; rfl)); intro gb340 hg w3 hbox hb; have n0_ := bs_ (be_ HB) hb; have n1_ := Aside0.mk (hbox); have n2_ := gs_ hg (be_ HB); have n3_ := gs_ hg (be_ HB); clear HB; have HB := n0_; have BK340 := n1_; have GW340 := n2_; have GE340 := n3_; clear n0_ n1_ n2_ n3_; clear hb hbox hg) | ((with_reducible refine gate_dst (N := 4) rfl ?_); refine box_event ?hg (N := 4) ?hd (cs := #[.int .i64 0, .int .i64 0, .string (⟨#[]⟩ : ByteArray)]) (t := 44) ?hr ?_; (case hd => rfl); (case hg => rfl); (case hr => first | (go_simp; done) | (go_simp; rfl)); intro gb341 hg w4 hbox hb; have n0_ := bb_ (bu_ BK340) hb; have n1_ := bs_ (be_ HB) hb; have n2_ := Aside0.mk (hbox); have n3_ := gs_ hg (be_ HB); have n4_ := gs_ hg (be_ HB); have n5_ := nl_ hg (bu_ BK340); have n6_ := ng_ hg (bu_ BK340); clear BK340; clear HB; have BK340 := n0_; have HB := n1_; have BK341 := n2_; have GW341 := n3_; have GE341 := n4_; have NB340_341 := n5_; have NB341_340 := n6_; clear n0_ n1_ n2_ n3_ n4_ n5_ n6_; clear hb hbox hg; have hnb5 := NB341_340.out; have hnc5 := NB340_341.out; have hcz6_0 : w4.cell? ⟨gb341, 0, none⟩ = some (.int .i64 0) := (blk_cell BK341.out 0).trans rfl; have hcz6_1 : w4.cell? ⟨gb341, 1, none⟩ = some (.int .i64 0) := (blk_cell BK341.out 1).trans rfl; have hcz6_2 : w4.cell? ⟨gb341, 2, none⟩ = some (.string (⟨#[]⟩ : ByteArray)) := (blk_cell BK341.out 2).trans rfl; have hfz6_0 := blk_frozen BK341.out 0; have hfz6_1 := blk_frozen BK341.out 1; have hfz6_2 := blk_frozen BK341.out 2; have hcz7_0 : w4.cell? ⟨gb340, 0, none⟩ = some (.int .i64 0) := (blk_cell BK340.out 0).trans rfl; have hcz7_1 : w4.cell? ⟨gb340, 1, none⟩ = some (.int .i64 0) := (blk_cell BK340.out 1).trans rfl; have hcz7_2 : w4.cell? ⟨gb340, 2, none⟩ = some (.string (⟨#[]⟩ : ByteArray)) := (blk_cell BK340.out 2).trans rfl; have hfz7_0 := blk_frozen BK340.out 0; have hfz7_1 := blk_frozen BK340.out 1; have hfz7_2 := blk_frozen BK340.out 2))
    refine bodyPost_ret (results_ct rfl _ _ gb340 44 #[.int .i64 0, .int .i64 0, .string (⟨#[]⟩ : ByteArray)] (0, 0) _ rfl (bp_ BK340) Tryd.underlying44 rfl (by kernel_rfl)) rfl ?_
    exact ⟨by first | rfl | (simp [errW_none, errW_some] <;> rfl) | (simp [*, errW_none, errW_some] <;> rfl), by repeat (first | (with_reducible first | exact HB.out | apply below_alloc | apply pw_below_drewN | apply below_drew1 | refine below_set ?_ GE340.out | refine below_set ?_ GE341.out) | exact HB.out)⟩
  · rw [if_neg c2] at H
    obtain ⟨c2b0, c2b1⟩ := neB_ c2
    by_cases c8 : 0 < (a0.size : Int)
    · rw [if_pos c8] at H
      have c8b0 : decide (0 < (a0.size : Int)) = true := decide_eq_true c8
      have c8b1 : decide (0 < a0.size) = true := decide_eq_true (by omega)
      clear c8
      by_cases c10 : (bt a0 0) = 34
      · rw [if_pos c10] at H
        obtain ⟨c10b0, c10b1⟩ := eqB_ c10
        clear c10
        replace H := Option.bind_eq_some_iff.mp H
        obtain ⟨t342, A110, H⟩ := H
        replace H : ((val_Text.f k 3 0 t342).bind fun bt343 => (if bt343.2 = 0 then (if bt343.1.toList = a0.toList then (some (3, 0, t342, 0)) else (some (0, 0, (⟨#[]⟩ : ByteArray), 7))) else (some (0, 0, (⟨#[]⟩ : ByteArray), 7)))) = some (r1, r2, r3, r4) := H
        have A11 := Aside0.mk A110
        clear A110
        replace H := Option.bind_eq_some_iff.mp H
        obtain ⟨⟨t343, t344⟩, A120, H⟩ := H
        replace H : (if t344 = 0 then (if t343.toList = a0.toList then (some (3, 0, t342, 0)) else (some (0, 0, (⟨#[]⟩ : ByteArray), 7))) else (some (0, 0, (⟨#[]⟩ : ByteArray), 7))) = some (r1, r2, r3, r4) := H
        have A12 := Aside0.mk A120
        clear A120
        by_cases c13 : t344 = 0
        · rw [if_pos c13] at H
          obtain ⟨c13b0, c13b1⟩ := eqB_ c13
          clear c13
          by_cases c14 : t343.toList = a0.toList
          · rw [if_pos c14] at H
            obtain ⟨c14b0, c14b1⟩ := eqB_ c14
            clear c14
            simp only [Option.some.injEq, Prod.mk.injEq] at H
            obtain ⟨rfl, rfl, rfl, rfl⟩ := H
            go_enter Tryd.func27, Tryd.ntmps27
            go_wp2_with (first | ((with_reducible refine gate_dst (N := 2) rfl ?_); refine box_event ?hg (N := 2) ?hd (cs := #[.int .i64 0, .int .i64 0, .string (⟨#[]⟩ : ByteArray)]) (t := 44) ?hr ?_; (case hd => rfl); (case hg => rfl); (case hr => first | (go_simp; done) | (go_simp; rfl)); intro gb340 hg w15 hbox hb; have n0_ := bs_ (be_ HB) hb; have n1_ := Aside0.mk (hbox); have n2_ := gs_ hg (be_ HB); have n3_ := gs_ hg (be_ HB); clear HB; have HB := n0_; have BK340 := n1_; have GW340 := n2_; have GE340 := n3_; clear n0_ n1_ n2_ n3_; clear hb hbox hg) | ((with_reducible refine gate_dst (N := 4) rfl ?_); refine box_event ?hg (N := 4) ?hd (cs := #[.int .i64 0, .int .i64 0, .string (⟨#[]⟩ : ByteArray)]) (t := 44) ?hr ?_; (case hd => rfl); (case hg => rfl); (case hr => first | (go_simp; done) | (go_simp; rfl)); intro gb341 hg w16 hbox hb; have n0_ := bb_ (bu_ BK340) hb; have n1_ := bs_ (be_ HB) hb; have n2_ := Aside0.mk (hbox); have n3_ := gs_ hg (be_ HB); have n4_ := gs_ hg (be_ HB); have n5_ := nl_ hg (bu_ BK340); have n6_ := ng_ hg (bu_ BK340); clear BK340; clear HB; have BK340 := n0_; have HB := n1_; have BK341 := n2_; have GW341 := n3_; have GE341 := n4_; have NB340_341 := n5_; have NB341_340 := n6_; clear n0_ n1_ n2_ n3_ n4_ n5_ n6_; clear hb hbox hg; have hnb17 := NB341_340.out; have hnc17 := NB340_341.out; have hcz18_0 : w16.cell? ⟨gb341, 0, none⟩ = some (.int .i64 0) := (blk_cell BK341.out 0).trans rfl; have hcz18_1 : w16.cell? ⟨gb341, 1, none⟩ = some (.int .i64 0) := (blk_cell BK341.out 1).trans rfl; have hcz18_2 : w16.cell? ⟨gb341, 2, none⟩ = some (.string (⟨#[]⟩ : ByteArray)) := (blk_cell BK341.out 2).trans rfl; have hfz18_0 := blk_frozen BK341.out 0; have hfz18_1 := blk_frozen BK341.out 1; have hfz18_2 := blk_frozen BK341.out 2; have p9 : 0 ≤ (0 : Int) := (by omega); have q9 : 0 < a0.size := (by have : (0 : Int) < (a0.size : Int) := dt_; omega); have hx9 : ∀ h : 0 < a0.size, ((a0[0]'h).toNat : Int) = bt a0 0 := bt_at a0 0; clear p9; have qi9 : (0 < (a0.size : Int)) = True := eq_true dt_; replace q9 := eq_true q9) | ((with_reducible refine gate_callee (f := 50) rfl ?_); refine goesL_ (some 20) rfl rfl Tryd.func50 (by kernel_rfl) rfl #[.string a0] rfl ga_ ?_; (with_reducible refine (val_bare.calls k a0 t342 _ A11.out).mono ?_); rintro e w19 ⟨rfl, hb⟩; refine ⟨_, rfl, ?_⟩; have n0_ := bb_ (bu_ BK340) hb; have n1_ := Aside0.mk (blk_below (o := .cells #[.int .i64 2, .int .i64 0, .string a0] 44 (0, 0)) (bp_ BK341) hb); have n2_ := bs_ (be_ HB) hb; clear BK340; clear BK341; clear HB; have BK340 := n0_; have BK341 := n1_; have HB := n2_; clear n0_ n1_ n2_; (try clear hcz18_0 hcz18_1 hcz18_2 hfz18_0 hfz18_1 hfz18_2); (try clear hb); (try clear hb2); (try clear hk); (try clear hi); have hcz20_0 : w19.cell? ⟨gb341, 0, none⟩ = some (.int .i64 2) := (blk_cell BK341.out 0).trans rfl; have hcz20_1 : w19.cell? ⟨gb341, 1, none⟩ = some (.int .i64 0) := (blk_cell BK341.out 1).trans rfl; have hcz20_2 : w19.cell? ⟨gb341, 2, none⟩ = some (.string a0) := (blk_cell BK341.out 2).trans rfl; have hfz20_0 := blk_frozen BK341.out 0; have hfz20_1 := blk_frozen BK341.out 1; have hfz20_2 := blk_frozen BK341.out 2) | ((with_reducible refine gate_callee (f := 26) rfl ?_); refine goesL_ (some 43) rfl rfl Tryd.func26 (by kernel_rfl) rfl #[.agg #[.int .i64 3, .int .i64 0, .string t342]] rfl ga_ ?_; (with_reducible refine (val_Text.calls k 3 0 t342 t343 t344 _ A12.out (et_ HL_ (be_ HB))).mono ?_); rintro e w21 ⟨rfl, hb⟩; refine ⟨_, rfl, ?_⟩; have n0_ := bb_ (bu_ BK340) hb; have n1_ := Aside0.mk (blk_below (o := .cells #[.int .i64 3, .int .i64 0, .string t342] 44 (0, 0)) (bp_ BK341) hb); have n2_ := bs_ (be_ HB) hb; clear BK340; clear BK341; clear HB; have BK340 := n0_; have BK341 := n1_; have HB := n2_; clear n0_ n1_ n2_; (try clear hcz20_0 hcz20_1 hcz20_2 hfz20_0 hfz20_1 hfz20_2); (try clear hb); (try clear hb2); (try clear hk); (try clear hi); have hcz22_0 : w21.cell? ⟨gb341, 0, none⟩ = some (.int .i64 3) := (blk_cell BK341.out 0).trans rfl; have hcz22_1 : w21.cell? ⟨gb341, 1, none⟩ = some (.int .i64 0) := (blk_cell BK341.out 1).trans rfl; have hcz22_2 : w21.cell? ⟨gb341, 2, none⟩ = some (.string t342) := (blk_cell BK341.out 2).trans rfl; have hfz22_0 := blk_frozen BK341.out 0; have hfz22_1 := blk_frozen BK341.out 1; have hfz22_2 := blk_frozen BK341.out 2; have hcz23_0 : w21.cell? ⟨gb340, 0, none⟩ = some (.int .i64 0) := (blk_cell BK340.out 0).trans rfl; have hcz23_1 : w21.cell? ⟨gb340, 1, none⟩ = some (.int .i64 0) := (blk_cell BK340.out 1).trans rfl; have hcz23_2 : w21.cell? ⟨gb340, 2, none⟩ = some (.string (⟨#[]⟩ : ByteArray)) := (blk_cell BK340.out 2).trans rfl; have hfz23_0 := blk_frozen BK340.out 0; have hfz23_1 := blk_frozen BK340.out 1; have hfz23_2 := blk_frozen BK340.out 2))
            refine bodyPost_ret (results_ct rfl _ _ gb340 44 #[.int .i64 3, .int .i64 0, .string t342] (0, 0) _ rfl (bp_ BK340) Tryd.underlying44 rfl (by kernel_rfl)) rfl ?_
            exact ⟨by first | rfl | (simp [errW_none, errW_some] <;> rfl) | (simp [*, errW_none, errW_some] <;> rfl), by repeat (first | (with_reducible first | exact HB.out | apply below_alloc | apply pw_below_drewN | apply below_drew1 | refine below_set ?_ GE340.out | refine below_set ?_ GE341.out) | exact HB.out)⟩
          · rw [if_neg c14] at H
            obtain ⟨c14b0, c14b1⟩ := neB_ c14
            simp only [Option.some.injEq, Prod.mk.injEq] at H
            obtain ⟨rfl, rfl, rfl, rfl⟩ := H
            go_enter Tryd.func27, Tryd.ntmps27
            go_wp2_with (first | ((with_reducible refine gate_dst (N := 2) rfl ?_); refine box_event ?hg (N := 2) ?hd (cs := #[.int .i64 0, .int .i64 0, .string (⟨#[]⟩ : ByteArray)]) (t := 44) ?hr ?_; (case hd => rfl); (case hg => rfl); (case hr => first | (go_simp; done) | (go_simp; rfl)); intro gb340 hg w24 hbox hb; have n0_ := bs_ (be_ HB) hb; have n1_ := Aside0.mk (hbox); have n2_ := gs_ hg (be_ HB); have n3_ := gs_ hg (be_ HB); clear HB; have HB := n0_; have BK340 := n1_; have GW340 := n2_; have GE340 := n3_; clear n0_ n1_ n2_ n3_; clear hb hbox hg) | ((with_reducible refine gate_dst (N := 4) rfl ?_); refine box_event ?hg (N := 4) ?hd (cs := #[.int .i64 0, .int .i64 0, .string (⟨#[]⟩ : ByteArray)]) (t := 44) ?hr ?_; (case hd => rfl); (case hg => rfl); (case hr => first | (go_simp; done) | (go_simp; rfl)); intro gb341 hg w25 hbox hb; have n0_ := bb_ (bu_ BK340) hb; have n1_ := bs_ (be_ HB) hb; have n2_ := Aside0.mk (hbox); have n3_ := gs_ hg (be_ HB); have n4_ := gs_ hg (be_ HB); have n5_ := nl_ hg (bu_ BK340); have n6_ := ng_ hg (bu_ BK340); clear BK340; clear HB; have BK340 := n0_; have HB := n1_; have BK341 := n2_; have GW341 := n3_; have GE341 := n4_; have NB340_341 := n5_; have NB341_340 := n6_; clear n0_ n1_ n2_ n3_ n4_ n5_ n6_; clear hb hbox hg; have hnb26 := NB341_340.out; have hnc26 := NB340_341.out; have hcz27_0 : w25.cell? ⟨gb341, 0, none⟩ = some (.int .i64 0) := (blk_cell BK341.out 0).trans rfl; have hcz27_1 : w25.cell? ⟨gb341, 1, none⟩ = some (.int .i64 0) := (blk_cell BK341.out 1).trans rfl; have hcz27_2 : w25.cell? ⟨gb341, 2, none⟩ = some (.string (⟨#[]⟩ : ByteArray)) := (blk_cell BK341.out 2).trans rfl; have hfz27_0 := blk_frozen BK341.out 0; have hfz27_1 := blk_frozen BK341.out 1; have hfz27_2 := blk_frozen BK341.out 2; have p9 : 0 ≤ (0 : Int) := (by omega); have q9 : 0 < a0.size := (by have : (0 : Int) < (a0.size : Int) := dt_; omega); have hx9 : ∀ h : 0 < a0.size, ((a0[0]'h).toNat : Int) = bt a0 0 := bt_at a0 0; clear p9; have qi9 : (0 < (a0.size : Int)) = True := eq_true dt_; replace q9 := eq_true q9) | ((with_reducible refine gate_callee (f := 50) rfl ?_); refine goesL_ (some 20) rfl rfl Tryd.func50 (by kernel_rfl) rfl #[.string a0] rfl ga_ ?_; (with_reducible refine (val_bare.calls k a0 t342 _ A11.out).mono ?_); rintro e w28 ⟨rfl, hb⟩; refine ⟨_, rfl, ?_⟩; have n0_ := bb_ (bu_ BK340) hb; have n1_ := Aside0.mk (blk_below (o := .cells #[.int .i64 2, .int .i64 0, .string a0] 44 (0, 0)) (bp_ BK341) hb); have n2_ := bs_ (be_ HB) hb; clear BK340; clear BK341; clear HB; have BK340 := n0_; have BK341 := n1_; have HB := n2_; clear n0_ n1_ n2_; (try clear hcz27_0 hcz27_1 hcz27_2 hfz27_0 hfz27_1 hfz27_2); (try clear hb); (try clear hb2); (try clear hk); (try clear hi); have hcz29_0 : w28.cell? ⟨gb341, 0, none⟩ = some (.int .i64 2) := (blk_cell BK341.out 0).trans rfl; have hcz29_1 : w28.cell? ⟨gb341, 1, none⟩ = some (.int .i64 0) := (blk_cell BK341.out 1).trans rfl; have hcz29_2 : w28.cell? ⟨gb341, 2, none⟩ = some (.string a0) := (blk_cell BK341.out 2).trans rfl; have hfz29_0 := blk_frozen BK341.out 0; have hfz29_1 := blk_frozen BK341.out 1; have hfz29_2 := blk_frozen BK341.out 2) | ((with_reducible refine gate_callee (f := 26) rfl ?_); refine goesL_ (some 43) rfl rfl Tryd.func26 (by kernel_rfl) rfl #[.agg #[.int .i64 3, .int .i64 0, .string t342]] rfl ga_ ?_; (with_reducible refine (val_Text.calls k 3 0 t342 t343 t344 _ A12.out (et_ HL_ (be_ HB))).mono ?_); rintro e w30 ⟨rfl, hb⟩; refine ⟨_, rfl, ?_⟩; have n0_ := bb_ (bu_ BK340) hb; have n1_ := Aside0.mk (blk_below (o := .cells #[.int .i64 3, .int .i64 0, .string t342] 44 (0, 0)) (bp_ BK341) hb); have n2_ := bs_ (be_ HB) hb; clear BK340; clear BK341; clear HB; have BK340 := n0_; have BK341 := n1_; have HB := n2_; clear n0_ n1_ n2_; (try clear hcz29_0 hcz29_1 hcz29_2 hfz29_0 hfz29_1 hfz29_2); (try clear hb); (try clear hb2); (try clear hk); (try clear hi); have hcz31_0 : w30.cell? ⟨gb340, 0, none⟩ = some (.int .i64 0) := (blk_cell BK340.out 0).trans rfl; have hcz31_1 : w30.cell? ⟨gb340, 1, none⟩ = some (.int .i64 0) := (blk_cell BK340.out 1).trans rfl; have hcz31_2 : w30.cell? ⟨gb340, 2, none⟩ = some (.string (⟨#[]⟩ : ByteArray)) := (blk_cell BK340.out 2).trans rfl; have hfz31_0 := blk_frozen BK340.out 0; have hfz31_1 := blk_frozen BK340.out 1; have hfz31_2 := blk_frozen BK340.out 2))
            refine bodyPost_ret (results_ct rfl _ _ gb340 44 #[.int .i64 0, .int .i64 0, .string (⟨#[]⟩ : ByteArray)] (0, 0) _ rfl (bp_ BK340) Tryd.underlying44 rfl (by kernel_rfl)) rfl ?_
            exact ⟨by first | rfl | (simp [errW_none, errW_some] <;> rfl) | (simp [*, errW_none, errW_some] <;> rfl), by repeat (first | (with_reducible first | exact HB.out | apply below_alloc | apply pw_below_drewN | apply below_drew1 | refine below_set ?_ GE340.out | refine below_set ?_ GE341.out) | exact HB.out)⟩
        · rw [if_neg c13] at H
          obtain ⟨c13b0, c13b1⟩ := neB_ c13
          simp only [Option.some.injEq, Prod.mk.injEq] at H
          obtain ⟨rfl, rfl, rfl, rfl⟩ := H
          go_enter Tryd.func27, Tryd.ntmps27
          go_wp2_with (first | ((with_reducible refine gate_dst (N := 2) rfl ?_); refine box_event ?hg (N := 2) ?hd (cs := #[.int .i64 0, .int .i64 0, .string (⟨#[]⟩ : ByteArray)]) (t := 44) ?hr ?_; (case hd => rfl); (case hg => rfl); (case hr => first | (go_simp; done) | (go_simp; rfl)); intro gb340 hg w32 hbox hb; have n0_ := bs_ (be_ HB) hb; have n1_ := Aside0.mk (hbox); have n2_ := gs_ hg (be_ HB); have n3_ := gs_ hg (be_ HB); clear HB; have HB := n0_; have BK340 := n1_; have GW340 := n2_; have GE340 := n3_; clear n0_ n1_ n2_ n3_; clear hb hbox hg) | ((with_reducible refine gate_dst (N := 4) rfl ?_); refine box_event ?hg (N := 4) ?hd (cs := #[.int .i64 0, .int .i64 0, .string (⟨#[]⟩ : ByteArray)]) (t := 44) ?hr ?_; (case hd => rfl); (case hg => rfl); (case hr => first | (go_simp; done) | (go_simp; rfl)); intro gb341 hg w33 hbox hb; have n0_ := bb_ (bu_ BK340) hb; have n1_ := bs_ (be_ HB) hb; have n2_ := Aside0.mk (hbox); have n3_ := gs_ hg (be_ HB); have n4_ := gs_ hg (be_ HB); have n5_ := nl_ hg (bu_ BK340); have n6_ := ng_ hg (bu_ BK340); clear BK340; clear HB; have BK340 := n0_; have HB := n1_; have BK341 := n2_; have GW341 := n3_; have GE341 := n4_; have NB340_341 := n5_; have NB341_340 := n6_; clear n0_ n1_ n2_ n3_ n4_ n5_ n6_; clear hb hbox hg; have hnb34 := NB341_340.out; have hnc34 := NB340_341.out; have hcz35_0 : w33.cell? ⟨gb341, 0, none⟩ = some (.int .i64 0) := (blk_cell BK341.out 0).trans rfl; have hcz35_1 : w33.cell? ⟨gb341, 1, none⟩ = some (.int .i64 0) := (blk_cell BK341.out 1).trans rfl; have hcz35_2 : w33.cell? ⟨gb341, 2, none⟩ = some (.string (⟨#[]⟩ : ByteArray)) := (blk_cell BK341.out 2).trans rfl; have hfz35_0 := blk_frozen BK341.out 0; have hfz35_1 := blk_frozen BK341.out 1; have hfz35_2 := blk_frozen BK341.out 2; have p9 : 0 ≤ (0 : Int) := (by omega); have q9 : 0 < a0.size := (by have : (0 : Int) < (a0.size : Int) := dt_; omega); have hx9 : ∀ h : 0 < a0.size, ((a0[0]'h).toNat : Int) = bt a0 0 := bt_at a0 0; clear p9; have qi9 : (0 < (a0.size : Int)) = True := eq_true dt_; replace q9 := eq_true q9) | ((with_reducible refine gate_callee (f := 50) rfl ?_); refine goesL_ (some 20) rfl rfl Tryd.func50 (by kernel_rfl) rfl #[.string a0] rfl ga_ ?_; (with_reducible refine (val_bare.calls k a0 t342 _ A11.out).mono ?_); rintro e w36 ⟨rfl, hb⟩; refine ⟨_, rfl, ?_⟩; have n0_ := bb_ (bu_ BK340) hb; have n1_ := Aside0.mk (blk_below (o := .cells #[.int .i64 2, .int .i64 0, .string a0] 44 (0, 0)) (bp_ BK341) hb); have n2_ := bs_ (be_ HB) hb; clear BK340; clear BK341; clear HB; have BK340 := n0_; have BK341 := n1_; have HB := n2_; clear n0_ n1_ n2_; (try clear hcz35_0 hcz35_1 hcz35_2 hfz35_0 hfz35_1 hfz35_2); (try clear hb); (try clear hb2); (try clear hk); (try clear hi); have hcz37_0 : w36.cell? ⟨gb341, 0, none⟩ = some (.int .i64 2) := (blk_cell BK341.out 0).trans rfl; have hcz37_1 : w36.cell? ⟨gb341, 1, none⟩ = some (.int .i64 0) := (blk_cell BK341.out 1).trans rfl; have hcz37_2 : w36.cell? ⟨gb341, 2, none⟩ = some (.string a0) := (blk_cell BK341.out 2).trans rfl; have hfz37_0 := blk_frozen BK341.out 0; have hfz37_1 := blk_frozen BK341.out 1; have hfz37_2 := blk_frozen BK341.out 2) | ((with_reducible refine gate_callee (f := 26) rfl ?_); refine goesL_ (some 43) rfl rfl Tryd.func26 (by kernel_rfl) rfl #[.agg #[.int .i64 3, .int .i64 0, .string t342]] rfl ga_ ?_; (with_reducible refine (val_Text.calls k 3 0 t342 t343 t344 _ A12.out (et_ HL_ (be_ HB))).mono ?_); rintro e w38 ⟨rfl, hb⟩; refine ⟨_, rfl, ?_⟩; have n0_ := bb_ (bu_ BK340) hb; have n1_ := Aside0.mk (blk_below (o := .cells #[.int .i64 3, .int .i64 0, .string t342] 44 (0, 0)) (bp_ BK341) hb); have n2_ := bs_ (be_ HB) hb; clear BK340; clear BK341; clear HB; have BK340 := n0_; have BK341 := n1_; have HB := n2_; clear n0_ n1_ n2_; (try clear hcz37_0 hcz37_1 hcz37_2 hfz37_0 hfz37_1 hfz37_2); (try clear hb); (try clear hb2); (try clear hk); (try clear hi); have hcz39_0 : w38.cell? ⟨gb340, 0, none⟩ = some (.int .i64 0) := (blk_cell BK340.out 0).trans rfl; have hcz39_1 : w38.cell? ⟨gb340, 1, none⟩ = some (.int .i64 0) := (blk_cell BK340.out 1).trans rfl; have hcz39_2 : w38.cell? ⟨gb340, 2, none⟩ = some (.string (⟨#[]⟩ : ByteArray)) := (blk_cell BK340.out 2).trans rfl; have hfz39_0 := blk_frozen BK340.out 0; have hfz39_1 := blk_frozen BK340.out 1; have hfz39_2 := blk_frozen BK340.out 2))
          refine bodyPost_ret (results_ct rfl _ _ gb340 44 #[.int .i64 0, .int .i64 0, .string (⟨#[]⟩ : ByteArray)] (0, 0) _ rfl (bp_ BK340) Tryd.underlying44 rfl (by kernel_rfl)) rfl ?_
          exact ⟨by first | rfl | (simp [errW_none, errW_some] <;> rfl) | (simp [*, errW_none, errW_some] <;> rfl), by repeat (first | (with_reducible first | exact HB.out | apply below_alloc | apply pw_below_drewN | apply below_drew1 | refine below_set ?_ GE340.out | refine below_set ?_ GE341.out) | exact HB.out)⟩
      · rw [if_neg c10] at H
        obtain ⟨c10b0, c10b1⟩ := neB_ c10
        have HC40 := Aside0.mk H
        clear H
        go_enter Tryd.func27, Tryd.ntmps27
        go_upto_region 6 with (first | ((with_reducible refine gate_dst (N := 2) rfl ?_); refine box_event ?hg (N := 2) ?hd (cs := #[.int .i64 0, .int .i64 0, .string (⟨#[]⟩ : ByteArray)]) (t := 44) ?hr ?_; (case hd => rfl); (case hg => rfl); (case hr => first | (go_simp; done) | (go_simp; rfl)); intro gb340 hg w41 hbox hb; have n0_ := bs_ (be_ HB) hb; have n1_ := Aside0.mk (hbox); have n2_ := gs_ hg (be_ HB); have n3_ := gs_ hg (be_ HB); clear HB; have HB := n0_; have BK340 := n1_; have GW340 := n2_; have GE340 := n3_; clear n0_ n1_ n2_ n3_; clear hb hbox hg) | ((with_reducible refine gate_dst (N := 4) rfl ?_); refine box_event ?hg (N := 4) ?hd (cs := #[.int .i64 0, .int .i64 0, .string (⟨#[]⟩ : ByteArray)]) (t := 44) ?hr ?_; (case hd => rfl); (case hg => rfl); (case hr => first | (go_simp; done) | (go_simp; rfl)); intro gb341 hg w42 hbox hb; have n0_ := bb_ (bu_ BK340) hb; have n1_ := bs_ (be_ HB) hb; have n2_ := Aside0.mk (hbox); have n3_ := gs_ hg (be_ HB); have n4_ := gs_ hg (be_ HB); have n5_ := nl_ hg (bu_ BK340); have n6_ := ng_ hg (bu_ BK340); clear BK340; clear HB; have BK340 := n0_; have HB := n1_; have BK341 := n2_; have GW341 := n3_; have GE341 := n4_; have NB340_341 := n5_; have NB341_340 := n6_; clear n0_ n1_ n2_ n3_ n4_ n5_ n6_; clear hb hbox hg; have hnb43 := NB341_340.out; have hnc43 := NB340_341.out; have hcz44_0 : w42.cell? ⟨gb341, 0, none⟩ = some (.int .i64 0) := (blk_cell BK341.out 0).trans rfl; have hcz44_1 : w42.cell? ⟨gb341, 1, none⟩ = some (.int .i64 0) := (blk_cell BK341.out 1).trans rfl; have hcz44_2 : w42.cell? ⟨gb341, 2, none⟩ = some (.string (⟨#[]⟩ : ByteArray)) := (blk_cell BK341.out 2).trans rfl; have hfz44_0 := blk_frozen BK341.out 0; have hfz44_1 := blk_frozen BK341.out 1; have hfz44_2 := blk_frozen BK341.out 2; have p9 : 0 ≤ (0 : Int) := (by omega); have q9 : 0 < a0.size := (by have : (0 : Int) < (a0.size : Int) := dt_; omega); have hx9 : ∀ h : 0 < a0.size, ((a0[0]'h).toNat : Int) = bt a0 0 := bt_at a0 0; clear p9; have qi9 : (0 < (a0.size : Int)) = True := eq_true dt_; replace q9 := eq_true q9))
        (try simp only [Act.put, List.setIfInBounds_toArray, List.set_cons_zero, List.set_cons_succ])
        go_cut [22] (fun v22 wc => ∃ (kq : Nat) (x22_39 : Bool), v22 = .bool x22_39 ∧ Aside0 (val_Parse.j0 kq a0 x22_39 2 0 a0 = some (r1, r2, r3, r4)) ∧ Aside0 (kq ≤ k) ∧ Aside0 (wc.heap[gb340]? = some (.cells #[.int .i64 0, .int .i64 0, .string (⟨#[]⟩ : ByteArray)] 44 (0, 0))) ∧ Aside0 (wc.heap[gb341]? = some (.cells #[.int .i64 2, .int .i64 0, .string a0] 44 (0, 0))) ∧ Aside0 (Below w.heap.size w wc))
        case first =>
          have H := HC40.out
          clear HC40
          by_cases c46 : (bt a0 0) = 45
          · rw [if_pos c46] at H
            obtain ⟨c46b0, c46b1⟩ := eqB_ c46
            clear c46
            (first | rw [c46b0] | (simp only [i64_w, i32_w]; rw [c46b0]) | skip)
            have H' := Aside0.mk H
            clear H
            have p45 : 0 ≤ (0 : Int) := (by omega)
            have q45 : 0 < a0.size := (by have : (0 : Int) < (a0.size : Int) := dt_; omega)
            have hx45 : ∀ h : 0 < a0.size, ((a0[0]'h).toNat : Int) = bt a0 0 := bt_at a0 0
            clear p45
            have qi45 : (0 < (a0.size : Int)) = True := eq_true dt_
            replace q45 := eq_true q45
            go_wp2
            go_meet
            case rel => exact ⟨_, (true), ra_, H', ⟨by first | omega | exact Nat.le_refl _⟩, ⟨by (with_reducible repeat (first | refine blk_drewN ?_ _ | refine blk_drew ?_ | refine blk_alloc ?_ _)); refine blk_far ?_ NB340_341.out _; (with_reducible repeat (first | refine blk_drewN ?_ _ | refine blk_drew ?_ | refine blk_alloc ?_ _)); refine blk_far ?_ NB340_341.out _; (with_reducible repeat (first | refine blk_drewN ?_ _ | refine blk_drew ?_ | refine blk_alloc ?_ _)); refine blk_far ?_ NB340_341.out _; (with_reducible repeat (first | refine blk_drewN ?_ _ | refine blk_drew ?_ | refine blk_alloc ?_ _)); exact BK340.out⟩, ⟨by (with_reducible repeat (first | refine blk_drewN ?_ _ | refine blk_drew ?_ | refine blk_alloc ?_ _)); refine blk_put (cs := #[.int .i64 2, .int .i64 0, .string (⟨#[]⟩ : ByteArray)]) ?_ 2 _ rfl; (with_reducible repeat (first | refine blk_drewN ?_ _ | refine blk_drew ?_ | refine blk_alloc ?_ _)); refine blk_put (cs := #[.int .i64 2, .int .i64 0, .string (⟨#[]⟩ : ByteArray)]) ?_ 1 _ rfl; (with_reducible repeat (first | refine blk_drewN ?_ _ | refine blk_drew ?_ | refine blk_alloc ?_ _)); refine blk_put (cs := #[.int .i64 0, .int .i64 0, .string (⟨#[]⟩ : ByteArray)]) ?_ 0 _ rfl; (with_reducible repeat (first | refine blk_drewN ?_ _ | refine blk_drew ?_ | refine blk_alloc ?_ _)); exact BK341.out⟩, ⟨by repeat (first | (with_reducible first | exact HB.out | apply below_alloc | apply pw_below_drewN | apply below_drew1 | refine below_set ?_ GE340.out | refine below_set ?_ GE341.out) | exact HB.out)⟩⟩
          · rw [if_neg c46] at H
            obtain ⟨c46b0, c46b1⟩ := neB_ c46
            (first | rw [c46b0] | (simp only [i64_w, i32_w]; rw [c46b0]) | skip)
            replace H := Option.bind_eq_some_iff.mp H
            obtain ⟨t345, A480, H⟩ := H
            replace H : (val_Parse.j0 k a0 t345 2 0 a0) = some (r1, r2, r3, r4) := H
            have A48 := Aside0.mk A480
            clear A480
            have H' := Aside0.mk H
            clear H
            have p45 : 0 ≤ (0 : Int) := (by omega)
            have q45 : 0 < a0.size := (by have : (0 : Int) < (a0.size : Int) := dt_; omega)
            have hx45 : ∀ h : 0 < a0.size, ((a0[0]'h).toNat : Int) = bt a0 0 := bt_at a0 0
            clear p45
            have qi45 : (0 < (a0.size : Int)) = True := eq_true dt_
            replace q45 := eq_true q45
            have p47 : 0 ≤ (0 : Int) := (by omega)
            have q47 : 0 < a0.size := (by have : (0 : Int) < (a0.size : Int) := dt_; omega)
            have hx47 : ∀ h : 0 < a0.size, ((a0[0]'h).toNat : Int) = bt a0 0 := bt_at a0 0
            clear p47
            have qi47 : (0 < (a0.size : Int)) = True := eq_true dt_
            replace q47 := eq_true q47
            go_wp2_with (first | (go_at_call 51; (with_reducible refine (val_digit.calls (bt a0 0) t345 _ A48.out).mono ?_); rintro e w' ⟨rfl, ⟨nd, rfl⟩⟩))
            go_meet
            case rel => exact ⟨_, (t345), ra_, H', ⟨by first | omega | exact Nat.le_refl _⟩, ⟨by (with_reducible repeat (first | refine blk_drewN ?_ _ | refine blk_drew ?_ | refine blk_alloc ?_ _)); refine blk_far ?_ NB340_341.out _; (with_reducible repeat (first | refine blk_drewN ?_ _ | refine blk_drew ?_ | refine blk_alloc ?_ _)); refine blk_far ?_ NB340_341.out _; (with_reducible repeat (first | refine blk_drewN ?_ _ | refine blk_drew ?_ | refine blk_alloc ?_ _)); refine blk_far ?_ NB340_341.out _; (with_reducible repeat (first | refine blk_drewN ?_ _ | refine blk_drew ?_ | refine blk_alloc ?_ _)); exact BK340.out⟩, ⟨by (with_reducible repeat (first | refine blk_drewN ?_ _ | refine blk_drew ?_ | refine blk_alloc ?_ _)); refine blk_put (cs := #[.int .i64 2, .int .i64 0, .string (⟨#[]⟩ : ByteArray)]) ?_ 2 _ rfl; (with_reducible repeat (first | refine blk_drewN ?_ _ | refine blk_drew ?_ | refine blk_alloc ?_ _)); refine blk_put (cs := #[.int .i64 2, .int .i64 0, .string (⟨#[]⟩ : ByteArray)]) ?_ 1 _ rfl; (with_reducible repeat (first | refine blk_drewN ?_ _ | refine blk_drew ?_ | refine blk_alloc ?_ _)); refine blk_put (cs := #[.int .i64 0, .int .i64 0, .string (⟨#[]⟩ : ByteArray)]) ?_ 0 _ rfl; (with_reducible repeat (first | refine blk_drewN ?_ _ | refine blk_drew ?_ | refine blk_alloc ?_ _)); exact BK341.out⟩, ⟨by repeat (first | (with_reducible first | exact HB.out | apply below_alloc | apply pw_below_drewN | apply below_drew1 | refine below_set ?_ GE340.out | refine below_set ?_ GE341.out) | exact HB.out)⟩⟩
        case rest =>
          clear HC40
          try clear c1
          try clear c2
          try clear c2b0
          try clear c2b1
          try clear p2
          try clear c3
          try clear c4
          try clear p4
          try clear q4
          try clear hx4
          try clear qi4
          try clear c5
          try clear c8
          try clear c8b0
          try clear c8b1
          try clear p9
          try clear q9
          try clear hx9
          try clear qi9
          try clear c10
          try clear c10b0
          try clear c10b1
          try clear c13
          try clear c13b0
          try clear c13b1
          try clear c14
          try clear c14b0
          try clear c14b1
          try clear c17
          try clear c26
          try clear c27
          try clear c34
          try clear c43
          try clear p45
          try clear q45
          try clear hx45
          try clear qi45
          try clear c46
          try clear c46b0
          try clear c46b1
          try clear p47
          try clear q47
          try clear hx47
          try clear qi47
          try clear hcz18_0
          try clear hcz18_1
          try clear hcz18_2
          try clear hcz20_0
          try clear hcz20_1
          try clear hcz20_2
          try clear hcz22_0
          try clear hcz22_1
          try clear hcz22_2
          try clear hcz23_0
          try clear hcz23_1
          try clear hcz23_2
          try clear hcz27_0
          try clear hcz27_1
          try clear hcz27_2
          try clear hcz29_0
          try clear hcz29_1
          try clear hcz29_2
          try clear hcz31_0
          try clear hcz31_1
          try clear hcz31_2
          try clear hcz35_0
          try clear hcz35_1
          try clear hcz35_2
          try clear hcz37_0
          try clear hcz37_1
          try clear hcz37_2
          try clear hcz39_0
          try clear hcz39_1
          try clear hcz39_2
          try clear hcz44_0
          try clear hcz44_1
          try clear hcz44_2
          try clear hcz6_0
          try clear hcz6_1
          try clear hcz6_2
          try clear hcz7_0
          try clear hcz7_1
          try clear hcz7_2
          try clear hfz18_0
          try clear hfz18_1
          try clear hfz18_2
          try clear hfz20_0
          try clear hfz20_1
          try clear hfz20_2
          try clear hfz22_0
          try clear hfz22_1
          try clear hfz22_2
          try clear hfz23_0
          try clear hfz23_1
          try clear hfz23_2
          try clear hfz27_0
          try clear hfz27_1
          try clear hfz27_2
          try clear hfz29_0
          try clear hfz29_1
          try clear hfz29_2
          try clear hfz31_0
          try clear hfz31_1
          try clear hfz31_2
          try clear hfz35_0
          try clear hfz35_1
          try clear hfz35_2
          try clear hfz37_0
          try clear hfz37_1
          try clear hfz37_2
          try clear hfz39_0
          try clear hfz39_1
          try clear hfz39_2
          try clear hfz44_0
          try clear hfz44_1
          try clear hfz44_2
          try clear hfz6_0
          try clear hfz6_1
          try clear hfz6_2
          try clear hfz7_0
          try clear hfz7_1
          try clear hfz7_2
          try clear p45
          try clear p47
          try clear p9
          try clear q45
          try clear q47
          try clear q9
          obtain ⟨kq, x22_39, rfl, HA, HJ39, BK340, BK341, HB⟩ := hcut
          cases kq with
          | zero => exact absurd HA.out (by simp [val_Parse.j0])
          | succ kj39 =>
            have H := HA.out
            clear HA
            simp only [val_Parse.j0] at H
            by_cases c49 : x22_39 = true
            · subst c49
              have H1 : ((strconv_Atoi.f a0).bind fun bt346 => (if bt346.2.isNone = true then ((val_Text.f kj39 1 bt346.1 (⟨#[]⟩ : ByteArray)).bind fun bt349 => (if bt349.2 = 0 then (if bt349.1.toList = a0.toList then (some (1, bt346.1, (⟨#[]⟩ : ByteArray), 0)) else (some (0, 0, (⟨#[]⟩ : ByteArray), 7))) else (some (0, 0, (⟨#[]⟩ : ByteArray), 7)))) else (some (0, 0, (⟨#[]⟩ : ByteArray), 7)))) = some (r1, r2, r3, r4) := by rw [if_pos rfl] at H; exact H
              clear H
              have H := H1
              clear H1
              replace H := Option.bind_eq_some_iff.mp H
              obtain ⟨⟨t346, t347⟩, A500, H⟩ := H
              replace H : (if t347.isNone = true then ((val_Text.f kj39 1 t346 (⟨#[]⟩ : ByteArray)).bind fun bt349 => (if bt349.2 = 0 then (if bt349.1.toList = a0.toList then (some (1, t346, (⟨#[]⟩ : ByteArray), 0)) else (some (0, 0, (⟨#[]⟩ : ByteArray), 7))) else (some (0, 0, (⟨#[]⟩ : ByteArray), 7)))) else (some (0, 0, (⟨#[]⟩ : ByteArray), 7))) = some (r1, r2, r3, r4) := H
              have A50 := Aside0.mk A500
              clear A500
              rcases t347 with _ | q348
              · have H1 : ((val_Text.f kj39 1 t346 (⟨#[]⟩ : ByteArray)).bind fun bt349 => (if bt349.2 = 0 then (if bt349.1.toList = a0.toList then (some (1, t346, (⟨#[]⟩ : ByteArray), 0)) else (some (0, 0, (⟨#[]⟩ : ByteArray), 7))) else (some (0, 0, (⟨#[]⟩ : ByteArray), 7)))) = some (r1, r2, r3, r4) := by rw [if_pos (show (none : Option Int).isNone = true by rfl)] at H; exact H
                clear H
                have H := H1
                clear H1
                try simp only [errW_none, errW_some]
                replace H := Option.bind_eq_some_iff.mp H
                obtain ⟨⟨t349, t350⟩, A510, H⟩ := H
                replace H : (if t350 = 0 then (if t349.toList = a0.toList then (some (1, t346, (⟨#[]⟩ : ByteArray), 0)) else (some (0, 0, (⟨#[]⟩ : ByteArray), 7))) else (some (0, 0, (⟨#[]⟩ : ByteArray), 7))) = some (r1, r2, r3, r4) := H
                have A51 := Aside0.mk A510
                clear A510
                by_cases c52 : t350 = 0
                · rw [if_pos c52] at H
                  obtain ⟨c52b0, c52b1⟩ := eqB_ c52
                  clear c52
                  by_cases c53 : t349.toList = a0.toList
                  · rw [if_pos c53] at H
                    obtain ⟨c53b0, c53b1⟩ := eqB_ c53
                    clear c53
                    simp only [Option.some.injEq, Prod.mk.injEq] at H
                    obtain ⟨rfl, rfl, rfl, rfl⟩ := H
                    go_wp2_with (first | ((with_reducible refine gate_callee (f := 52) rfl ?_); refine goesL_ (some 33) rfl rfl Tryd.func52 (by kernel_rfl) rfl #[.string a0] rfl ga_ ?_; (with_reducible refine (strconv_Atoi.calls0 a0 t346 _ A50.out (ee_ HL_ (be_ HB))).mono ?_); rintro e w54 ⟨rfl, hb⟩; refine ⟨_, rfl, ?_⟩; have n0_ := bb_ (bu_ BK340) hb; have n1_ := bb_ (bu_ BK341) hb; have n2_ := bs_ (be_ HB) hb; clear BK340; clear BK341; clear HB; have BK340 := n0_; have BK341 := n1_; have HB := n2_; clear n0_ n1_ n2_; (try clear hb); (try clear hb2); (try clear hk); (try clear hi); (try simp only [errW_none, errW_some]); have hnb55 := NB341_340.out; have hnc55 := NB340_341.out; have hcz56_0 : w54.cell? ⟨gb341, 0, none⟩ = some (.int .i64 2) := (blk_cell BK341.out 0).trans rfl; have hcz56_1 : w54.cell? ⟨gb341, 1, none⟩ = some (.int .i64 0) := (blk_cell BK341.out 1).trans rfl; have hcz56_2 : w54.cell? ⟨gb341, 2, none⟩ = some (.string a0) := (blk_cell BK341.out 2).trans rfl; have hfz56_0 := blk_frozen BK341.out 0; have hfz56_1 := blk_frozen BK341.out 1; have hfz56_2 := blk_frozen BK341.out 2) | ((with_reducible refine gate_callee (f := 26) rfl ?_); refine goesL_ (some 43) rfl rfl Tryd.func26 (by kernel_rfl) rfl #[.agg #[.int .i64 1, .int .i64 t346, .string (⟨#[]⟩ : ByteArray)]] rfl ga_ ?_; (with_reducible refine (val_Text.calls kj39 1 t346 (⟨#[]⟩ : ByteArray) t349 t350 _ A51.out (et_ HL_ (be_ HB))).mono ?_); rintro e w57 ⟨rfl, hb⟩; refine ⟨_, rfl, ?_⟩; have n0_ := bb_ (bu_ BK340) hb; have n1_ := Aside0.mk (blk_below (o := .cells #[.int .i64 1, .int .i64 t346, .string (⟨#[]⟩ : ByteArray)] 44 (0, 0)) (bp_ BK341) hb); have n2_ := bs_ (be_ HB) hb; clear BK340; clear BK341; clear HB; have BK340 := n0_; have BK341 := n1_; have HB := n2_; clear n0_ n1_ n2_; (try clear hcz56_0 hcz56_1 hcz56_2 hfz56_0 hfz56_1 hfz56_2); (try clear hb); (try clear hb2); (try clear hk); (try clear hi); have hcz58_0 : w57.cell? ⟨gb341, 0, none⟩ = some (.int .i64 1) := (blk_cell BK341.out 0).trans rfl; have hcz58_1 : w57.cell? ⟨gb341, 1, none⟩ = some (.int .i64 t346) := (blk_cell BK341.out 1).trans rfl; have hcz58_2 : w57.cell? ⟨gb341, 2, none⟩ = some (.string (⟨#[]⟩ : ByteArray)) := (blk_cell BK341.out 2).trans rfl; have hfz58_0 := blk_frozen BK341.out 0; have hfz58_1 := blk_frozen BK341.out 1; have hfz58_2 := blk_frozen BK341.out 2; have hcz59_0 : w57.cell? ⟨gb340, 0, none⟩ = some (.int .i64 0) := (blk_cell BK340.out 0).trans rfl; have hcz59_1 : w57.cell? ⟨gb340, 1, none⟩ = some (.int .i64 0) := (blk_cell BK340.out 1).trans rfl; have hcz59_2 : w57.cell? ⟨gb340, 2, none⟩ = some (.string (⟨#[]⟩ : ByteArray)) := (blk_cell BK340.out 2).trans rfl; have hfz59_0 := blk_frozen BK340.out 0; have hfz59_1 := blk_frozen BK340.out 1; have hfz59_2 := blk_frozen BK340.out 2))
                    refine bodyPost_ret (results_ct rfl _ _ gb340 44 #[.int .i64 1, .int .i64 t346, .string (⟨#[]⟩ : ByteArray)] (0, 0) _ rfl (bp_ BK340) Tryd.underlying44 rfl (by kernel_rfl)) rfl ?_
                    exact ⟨by first | rfl | (simp [errW_none, errW_some] <;> rfl) | (simp [*, errW_none, errW_some] <;> rfl), by repeat (first | (with_reducible first | exact HB.out | apply below_alloc | apply pw_below_drewN | apply below_drew1 | refine below_set ?_ GE340.out | refine below_set ?_ GE341.out) | exact HB.out)⟩
                  · rw [if_neg c53] at H
                    obtain ⟨c53b0, c53b1⟩ := neB_ c53
                    simp only [Option.some.injEq, Prod.mk.injEq] at H
                    obtain ⟨rfl, rfl, rfl, rfl⟩ := H
                    go_wp2_with (first | ((with_reducible refine gate_callee (f := 52) rfl ?_); refine goesL_ (some 33) rfl rfl Tryd.func52 (by kernel_rfl) rfl #[.string a0] rfl ga_ ?_; (with_reducible refine (strconv_Atoi.calls0 a0 t346 _ A50.out (ee_ HL_ (be_ HB))).mono ?_); rintro e w60 ⟨rfl, hb⟩; refine ⟨_, rfl, ?_⟩; have n0_ := bb_ (bu_ BK340) hb; have n1_ := bb_ (bu_ BK341) hb; have n2_ := bs_ (be_ HB) hb; clear BK340; clear BK341; clear HB; have BK340 := n0_; have BK341 := n1_; have HB := n2_; clear n0_ n1_ n2_; (try clear hb); (try clear hb2); (try clear hk); (try clear hi); (try simp only [errW_none, errW_some]); have hnb61 := NB341_340.out; have hnc61 := NB340_341.out; have hcz62_0 : w60.cell? ⟨gb341, 0, none⟩ = some (.int .i64 2) := (blk_cell BK341.out 0).trans rfl; have hcz62_1 : w60.cell? ⟨gb341, 1, none⟩ = some (.int .i64 0) := (blk_cell BK341.out 1).trans rfl; have hcz62_2 : w60.cell? ⟨gb341, 2, none⟩ = some (.string a0) := (blk_cell BK341.out 2).trans rfl; have hfz62_0 := blk_frozen BK341.out 0; have hfz62_1 := blk_frozen BK341.out 1; have hfz62_2 := blk_frozen BK341.out 2) | ((with_reducible refine gate_callee (f := 26) rfl ?_); refine goesL_ (some 43) rfl rfl Tryd.func26 (by kernel_rfl) rfl #[.agg #[.int .i64 1, .int .i64 t346, .string (⟨#[]⟩ : ByteArray)]] rfl ga_ ?_; (with_reducible refine (val_Text.calls kj39 1 t346 (⟨#[]⟩ : ByteArray) t349 t350 _ A51.out (et_ HL_ (be_ HB))).mono ?_); rintro e w63 ⟨rfl, hb⟩; refine ⟨_, rfl, ?_⟩; have n0_ := bb_ (bu_ BK340) hb; have n1_ := Aside0.mk (blk_below (o := .cells #[.int .i64 1, .int .i64 t346, .string (⟨#[]⟩ : ByteArray)] 44 (0, 0)) (bp_ BK341) hb); have n2_ := bs_ (be_ HB) hb; clear BK340; clear BK341; clear HB; have BK340 := n0_; have BK341 := n1_; have HB := n2_; clear n0_ n1_ n2_; (try clear hcz62_0 hcz62_1 hcz62_2 hfz62_0 hfz62_1 hfz62_2); (try clear hb); (try clear hb2); (try clear hk); (try clear hi); have hcz64_0 : w63.cell? ⟨gb340, 0, none⟩ = some (.int .i64 0) := (blk_cell BK340.out 0).trans rfl; have hcz64_1 : w63.cell? ⟨gb340, 1, none⟩ = some (.int .i64 0) := (blk_cell BK340.out 1).trans rfl; have hcz64_2 : w63.cell? ⟨gb340, 2, none⟩ = some (.string (⟨#[]⟩ : ByteArray)) := (blk_cell BK340.out 2).trans rfl; have hfz64_0 := blk_frozen BK340.out 0; have hfz64_1 := blk_frozen BK340.out 1; have hfz64_2 := blk_frozen BK340.out 2))
                    refine bodyPost_ret (results_ct rfl _ _ gb340 44 #[.int .i64 0, .int .i64 0, .string (⟨#[]⟩ : ByteArray)] (0, 0) _ rfl (bp_ BK340) Tryd.underlying44 rfl (by kernel_rfl)) rfl ?_
                    exact ⟨by first | rfl | (simp [errW_none, errW_some] <;> rfl) | (simp [*, errW_none, errW_some] <;> rfl), by repeat (first | (with_reducible first | exact HB.out | apply below_alloc | apply pw_below_drewN | apply below_drew1 | refine below_set ?_ GE340.out | refine below_set ?_ GE341.out) | exact HB.out)⟩
                · rw [if_neg c52] at H
                  obtain ⟨c52b0, c52b1⟩ := neB_ c52
                  simp only [Option.some.injEq, Prod.mk.injEq] at H
                  obtain ⟨rfl, rfl, rfl, rfl⟩ := H
                  go_wp2_with (first | ((with_reducible refine gate_callee (f := 52) rfl ?_); refine goesL_ (some 33) rfl rfl Tryd.func52 (by kernel_rfl) rfl #[.string a0] rfl ga_ ?_; (with_reducible refine (strconv_Atoi.calls0 a0 t346 _ A50.out (ee_ HL_ (be_ HB))).mono ?_); rintro e w65 ⟨rfl, hb⟩; refine ⟨_, rfl, ?_⟩; have n0_ := bb_ (bu_ BK340) hb; have n1_ := bb_ (bu_ BK341) hb; have n2_ := bs_ (be_ HB) hb; clear BK340; clear BK341; clear HB; have BK340 := n0_; have BK341 := n1_; have HB := n2_; clear n0_ n1_ n2_; (try clear hb); (try clear hb2); (try clear hk); (try clear hi); (try simp only [errW_none, errW_some]); have hnb66 := NB341_340.out; have hnc66 := NB340_341.out; have hcz67_0 : w65.cell? ⟨gb341, 0, none⟩ = some (.int .i64 2) := (blk_cell BK341.out 0).trans rfl; have hcz67_1 : w65.cell? ⟨gb341, 1, none⟩ = some (.int .i64 0) := (blk_cell BK341.out 1).trans rfl; have hcz67_2 : w65.cell? ⟨gb341, 2, none⟩ = some (.string a0) := (blk_cell BK341.out 2).trans rfl; have hfz67_0 := blk_frozen BK341.out 0; have hfz67_1 := blk_frozen BK341.out 1; have hfz67_2 := blk_frozen BK341.out 2) | ((with_reducible refine gate_callee (f := 26) rfl ?_); refine goesL_ (some 43) rfl rfl Tryd.func26 (by kernel_rfl) rfl #[.agg #[.int .i64 1, .int .i64 t346, .string (⟨#[]⟩ : ByteArray)]] rfl ga_ ?_; (with_reducible refine (val_Text.calls kj39 1 t346 (⟨#[]⟩ : ByteArray) t349 t350 _ A51.out (et_ HL_ (be_ HB))).mono ?_); rintro e w68 ⟨rfl, hb⟩; refine ⟨_, rfl, ?_⟩; have n0_ := bb_ (bu_ BK340) hb; have n1_ := Aside0.mk (blk_below (o := .cells #[.int .i64 1, .int .i64 t346, .string (⟨#[]⟩ : ByteArray)] 44 (0, 0)) (bp_ BK341) hb); have n2_ := bs_ (be_ HB) hb; clear BK340; clear BK341; clear HB; have BK340 := n0_; have BK341 := n1_; have HB := n2_; clear n0_ n1_ n2_; (try clear hcz67_0 hcz67_1 hcz67_2 hfz67_0 hfz67_1 hfz67_2); (try clear hb); (try clear hb2); (try clear hk); (try clear hi); have hcz69_0 : w68.cell? ⟨gb340, 0, none⟩ = some (.int .i64 0) := (blk_cell BK340.out 0).trans rfl; have hcz69_1 : w68.cell? ⟨gb340, 1, none⟩ = some (.int .i64 0) := (blk_cell BK340.out 1).trans rfl; have hcz69_2 : w68.cell? ⟨gb340, 2, none⟩ = some (.string (⟨#[]⟩ : ByteArray)) := (blk_cell BK340.out 2).trans rfl; have hfz69_0 := blk_frozen BK340.out 0; have hfz69_1 := blk_frozen BK340.out 1; have hfz69_2 := blk_frozen BK340.out 2))
                  refine bodyPost_ret (results_ct rfl _ _ gb340 44 #[.int .i64 0, .int .i64 0, .string (⟨#[]⟩ : ByteArray)] (0, 0) _ rfl (bp_ BK340) Tryd.underlying44 rfl (by kernel_rfl)) rfl ?_
                  exact ⟨by first | rfl | (simp [errW_none, errW_some] <;> rfl) | (simp [*, errW_none, errW_some] <;> rfl), by repeat (first | (with_reducible first | exact HB.out | apply below_alloc | apply pw_below_drewN | apply below_drew1 | refine below_set ?_ GE340.out | refine below_set ?_ GE341.out) | exact HB.out)⟩
              · have H1 : (some (0, 0, (⟨#[]⟩ : ByteArray), 7)) = some (r1, r2, r3, r4) := by rw [if_neg (show ¬ (some q348).isNone = true by simp)] at H; exact H
                clear H
                have H := H1
                clear H1
                try simp only [errW_none, errW_some]
                simp only [Option.some.injEq, Prod.mk.injEq] at H
                obtain ⟨rfl, rfl, rfl, rfl⟩ := H
                go_wp2_with (first | ((with_reducible refine gate_callee (f := 52) rfl ?_); refine goesL_ (some 33) rfl rfl Tryd.func52 (by kernel_rfl) rfl #[.string a0] rfl ga_ ?_; (with_reducible refine (strconv_Atoi.calls1 a0 t346 q348 _ A50.out (ee_ HL_ (be_ HB))).mono ?_); rintro e w70 ⟨⟨N_, rfl⟩, hb⟩; refine ⟨_, rfl, ?_⟩; have n0_ := bb_ (bu_ BK340) hb; have n1_ := bb_ (bu_ BK341) hb; have n2_ := bs_ (be_ HB) hb; clear BK340; clear BK341; clear HB; have BK340 := n0_; have BK341 := n1_; have HB := n2_; clear n0_ n1_ n2_; (try clear hb); (try clear hb2); (try clear hk); (try clear hi); (try simp only [errW_none, errW_some]); have hnb71 := NB340_341.out; have hnc71 := NB341_340.out; have hcz72_0 : w70.cell? ⟨gb340, 0, none⟩ = some (.int .i64 0) := (blk_cell BK340.out 0).trans rfl; have hcz72_1 : w70.cell? ⟨gb340, 1, none⟩ = some (.int .i64 0) := (blk_cell BK340.out 1).trans rfl; have hcz72_2 : w70.cell? ⟨gb340, 2, none⟩ = some (.string (⟨#[]⟩ : ByteArray)) := (blk_cell BK340.out 2).trans rfl; have hfz72_0 := blk_frozen BK340.out 0; have hfz72_1 := blk_frozen BK340.out 1; have hfz72_2 := blk_frozen BK340.out 2))
                refine bodyPost_ret (results_ct rfl _ _ gb340 44 #[.int .i64 0, .int .i64 0, .string (⟨#[]⟩ : ByteArray)] (0, 0) _ rfl (bp_ BK340) Tryd.underlying44 rfl (by kernel_rfl)) rfl ?_
                exact ⟨by first | rfl | (simp [errW_none, errW_some] <;> rfl) | (simp [*, errW_none, errW_some] <;> rfl), by repeat (first | (with_reducible first | exact HB.out | apply below_alloc | apply pw_below_drewN | apply below_drew1 | refine below_set ?_ GE340.out | refine below_set ?_ GE341.out) | exact HB.out)⟩
            · replace c49 := Bool.eq_false_iff.mpr c49
              subst c49
              have H1 : ((val_Text.f kj39 2 0 a0).bind fun bt351 => (if bt351.2 = 0 then (if bt351.1.toList = a0.toList then (some (2, 0, a0, 0)) else (some (0, 0, (⟨#[]⟩ : ByteArray), 7))) else (some (0, 0, (⟨#[]⟩ : ByteArray), 7)))) = some (r1, r2, r3, r4) := by rw [if_neg (show ¬ (false = true) by decide)] at H; exact H
              clear H
              have H := H1
              clear H1
              replace H := Option.bind_eq_some_iff.mp H
              obtain ⟨⟨t351, t352⟩, A730, H⟩ := H
              replace H : (if t352 = 0 then (if t351.toList = a0.toList then (some (2, 0, a0, 0)) else (some (0, 0, (⟨#[]⟩ : ByteArray), 7))) else (some (0, 0, (⟨#[]⟩ : ByteArray), 7))) = some (r1, r2, r3, r4) := H
              have A73 := Aside0.mk A730
              clear A730
              by_cases c74 : t352 = 0
              · rw [if_pos c74] at H
                obtain ⟨c74b0, c74b1⟩ := eqB_ c74
                clear c74
                by_cases c75 : t351.toList = a0.toList
                · rw [if_pos c75] at H
                  obtain ⟨c75b0, c75b1⟩ := eqB_ c75
                  clear c75
                  simp only [Option.some.injEq, Prod.mk.injEq] at H
                  obtain ⟨rfl, rfl, rfl, rfl⟩ := H
                  have hnb76 := NB341_340.out
                  have hnc76 := NB340_341.out
                  have hcz77_0 : wc.cell? ⟨gb341, 0, none⟩ = some (.int .i64 2) := (blk_cell BK341.out 0).trans rfl
                  have hcz77_1 : wc.cell? ⟨gb341, 1, none⟩ = some (.int .i64 0) := (blk_cell BK341.out 1).trans rfl
                  have hcz77_2 : wc.cell? ⟨gb341, 2, none⟩ = some (.string a0) := (blk_cell BK341.out 2).trans rfl
                  have hfz77_0 := blk_frozen BK341.out 0
                  have hfz77_1 := blk_frozen BK341.out 1
                  have hfz77_2 := blk_frozen BK341.out 2
                  go_wp2_with (first | ((with_reducible refine gate_callee (f := 26) rfl ?_); refine goesL_ (some 43) rfl rfl Tryd.func26 (by kernel_rfl) rfl #[.agg #[.int .i64 2, .int .i64 0, .string a0]] rfl ga_ ?_; (with_reducible refine (val_Text.calls kj39 2 0 a0 t351 t352 _ A73.out (et_ HL_ (be_ HB))).mono ?_); rintro e w78 ⟨rfl, hb⟩; refine ⟨_, rfl, ?_⟩; have n0_ := bb_ (bu_ BK340) hb; have n1_ := bb_ (bu_ BK341) hb; have n2_ := bs_ (be_ HB) hb; clear BK340; clear BK341; clear HB; have BK340 := n0_; have BK341 := n1_; have HB := n2_; clear n0_ n1_ n2_; (try clear hb); (try clear hb2); (try clear hk); (try clear hi); have hcz79_0 : w78.cell? ⟨gb341, 0, none⟩ = some (.int .i64 2) := (blk_cell BK341.out 0).trans rfl; have hcz79_1 : w78.cell? ⟨gb341, 1, none⟩ = some (.int .i64 0) := (blk_cell BK341.out 1).trans rfl; have hcz79_2 : w78.cell? ⟨gb341, 2, none⟩ = some (.string a0) := (blk_cell BK341.out 2).trans rfl; have hfz79_0 := blk_frozen BK341.out 0; have hfz79_1 := blk_frozen BK341.out 1; have hfz79_2 := blk_frozen BK341.out 2; have hcz80_0 : w78.cell? ⟨gb340, 0, none⟩ = some (.int .i64 0) := (blk_cell BK340.out 0).trans rfl; have hcz80_1 : w78.cell? ⟨gb340, 1, none⟩ = some (.int .i64 0) := (blk_cell BK340.out 1).trans rfl; have hcz80_2 : w78.cell? ⟨gb340, 2, none⟩ = some (.string (⟨#[]⟩ : ByteArray)) := (blk_cell BK340.out 2).trans rfl; have hfz80_0 := blk_frozen BK340.out 0; have hfz80_1 := blk_frozen BK340.out 1; have hfz80_2 := blk_frozen BK340.out 2))
                  refine bodyPost_ret (results_ct rfl _ _ gb340 44 #[.int .i64 2, .int .i64 0, .string a0] (0, 0) _ rfl (bp_ BK340) Tryd.underlying44 rfl (by kernel_rfl)) rfl ?_
                  exact ⟨by first | rfl | (simp [errW_none, errW_some] <;> rfl) | (simp [*, errW_none, errW_some] <;> rfl), by repeat (first | (with_reducible first | exact HB.out | apply below_alloc | apply pw_below_drewN | apply below_drew1 | refine below_set ?_ GE340.out | refine below_set ?_ GE341.out) | exact HB.out)⟩
                · rw [if_neg c75] at H
                  obtain ⟨c75b0, c75b1⟩ := neB_ c75
                  simp only [Option.some.injEq, Prod.mk.injEq] at H
                  obtain ⟨rfl, rfl, rfl, rfl⟩ := H
                  have hnb81 := NB341_340.out
                  have hnc81 := NB340_341.out
                  have hcz82_0 : wc.cell? ⟨gb341, 0, none⟩ = some (.int .i64 2) := (blk_cell BK341.out 0).trans rfl
                  have hcz82_1 : wc.cell? ⟨gb341, 1, none⟩ = some (.int .i64 0) := (blk_cell BK341.out 1).trans rfl
                  have hcz82_2 : wc.cell? ⟨gb341, 2, none⟩ = some (.string a0) := (blk_cell BK341.out 2).trans rfl
                  have hfz82_0 := blk_frozen BK341.out 0
                  have hfz82_1 := blk_frozen BK341.out 1
                  have hfz82_2 := blk_frozen BK341.out 2
                  go_wp2_with (first | ((with_reducible refine gate_callee (f := 26) rfl ?_); refine goesL_ (some 43) rfl rfl Tryd.func26 (by kernel_rfl) rfl #[.agg #[.int .i64 2, .int .i64 0, .string a0]] rfl ga_ ?_; (with_reducible refine (val_Text.calls kj39 2 0 a0 t351 t352 _ A73.out (et_ HL_ (be_ HB))).mono ?_); rintro e w83 ⟨rfl, hb⟩; refine ⟨_, rfl, ?_⟩; have n0_ := bb_ (bu_ BK340) hb; have n1_ := bb_ (bu_ BK341) hb; have n2_ := bs_ (be_ HB) hb; clear BK340; clear BK341; clear HB; have BK340 := n0_; have BK341 := n1_; have HB := n2_; clear n0_ n1_ n2_; (try clear hb); (try clear hb2); (try clear hk); (try clear hi); have hcz84_0 : w83.cell? ⟨gb340, 0, none⟩ = some (.int .i64 0) := (blk_cell BK340.out 0).trans rfl; have hcz84_1 : w83.cell? ⟨gb340, 1, none⟩ = some (.int .i64 0) := (blk_cell BK340.out 1).trans rfl; have hcz84_2 : w83.cell? ⟨gb340, 2, none⟩ = some (.string (⟨#[]⟩ : ByteArray)) := (blk_cell BK340.out 2).trans rfl; have hfz84_0 := blk_frozen BK340.out 0; have hfz84_1 := blk_frozen BK340.out 1; have hfz84_2 := blk_frozen BK340.out 2))
                  refine bodyPost_ret (results_ct rfl _ _ gb340 44 #[.int .i64 0, .int .i64 0, .string (⟨#[]⟩ : ByteArray)] (0, 0) _ rfl (bp_ BK340) Tryd.underlying44 rfl (by kernel_rfl)) rfl ?_
                  exact ⟨by first | rfl | (simp [errW_none, errW_some] <;> rfl) | (simp [*, errW_none, errW_some] <;> rfl), by repeat (first | (with_reducible first | exact HB.out | apply below_alloc | apply pw_below_drewN | apply below_drew1 | refine below_set ?_ GE340.out | refine below_set ?_ GE341.out) | exact HB.out)⟩
              · rw [if_neg c74] at H
                obtain ⟨c74b0, c74b1⟩ := neB_ c74
                simp only [Option.some.injEq, Prod.mk.injEq] at H
                obtain ⟨rfl, rfl, rfl, rfl⟩ := H
                have hnb85 := NB341_340.out
                have hnc85 := NB340_341.out
                have hcz86_0 : wc.cell? ⟨gb341, 0, none⟩ = some (.int .i64 2) := (blk_cell BK341.out 0).trans rfl
                have hcz86_1 : wc.cell? ⟨gb341, 1, none⟩ = some (.int .i64 0) := (blk_cell BK341.out 1).trans rfl
                have hcz86_2 : wc.cell? ⟨gb341, 2, none⟩ = some (.string a0) := (blk_cell BK341.out 2).trans rfl
                have hfz86_0 := blk_frozen BK341.out 0
                have hfz86_1 := blk_frozen BK341.out 1
                have hfz86_2 := blk_frozen BK341.out 2
                go_wp2_with (first | ((with_reducible refine gate_callee (f := 26) rfl ?_); refine goesL_ (some 43) rfl rfl Tryd.func26 (by kernel_rfl) rfl #[.agg #[.int .i64 2, .int .i64 0, .string a0]] rfl ga_ ?_; (with_reducible refine (val_Text.calls kj39 2 0 a0 t351 t352 _ A73.out (et_ HL_ (be_ HB))).mono ?_); rintro e w87 ⟨rfl, hb⟩; refine ⟨_, rfl, ?_⟩; have n0_ := bb_ (bu_ BK340) hb; have n1_ := bb_ (bu_ BK341) hb; have n2_ := bs_ (be_ HB) hb; clear BK340; clear BK341; clear HB; have BK340 := n0_; have BK341 := n1_; have HB := n2_; clear n0_ n1_ n2_; (try clear hb); (try clear hb2); (try clear hk); (try clear hi); have hcz88_0 : w87.cell? ⟨gb340, 0, none⟩ = some (.int .i64 0) := (blk_cell BK340.out 0).trans rfl; have hcz88_1 : w87.cell? ⟨gb340, 1, none⟩ = some (.int .i64 0) := (blk_cell BK340.out 1).trans rfl; have hcz88_2 : w87.cell? ⟨gb340, 2, none⟩ = some (.string (⟨#[]⟩ : ByteArray)) := (blk_cell BK340.out 2).trans rfl; have hfz88_0 := blk_frozen BK340.out 0; have hfz88_1 := blk_frozen BK340.out 1; have hfz88_2 := blk_frozen BK340.out 2))
                refine bodyPost_ret (results_ct rfl _ _ gb340 44 #[.int .i64 0, .int .i64 0, .string (⟨#[]⟩ : ByteArray)] (0, 0) _ rfl (bp_ BK340) Tryd.underlying44 rfl (by kernel_rfl)) rfl ?_
                exact ⟨by first | rfl | (simp [errW_none, errW_some] <;> rfl) | (simp [*, errW_none, errW_some] <;> rfl), by repeat (first | (with_reducible first | exact HB.out | apply below_alloc | apply pw_below_drewN | apply below_drew1 | refine below_set ?_ GE340.out | refine below_set ?_ GE341.out) | exact HB.out)⟩
    · rw [if_neg c8] at H
      exact absurd H (by simp)
end Go.Proofs.YtaopajmpifenoaaDoor.P
end
section
namespace Go.Proofs.YtaopajmpifenoaaDoor.P
open Go.RowKit Go.Proofs.YtaopajmpifenoaaDoorW.PrintWords Go.Proofs.YtaopajmpifenoaaDoorW.PrintLast Go.Proofs.YtaopajmpifenoaaDoorW.PrintMore
attribute [local go_sem] max2_int min2_int max_two min_two max_three min_three max_four min_four
set_option linter.unusedVariables false
set_option linter.unusedSimpArgs false
mutual
def constableref01_Number.j0 : Nat → ByteArray → Bool → Option (Int × Bool)
  | 0, _, _ => none
  | k + 1, x0, x4 => if x4 = true then (if 1 ≤ (x0.size : Int) then (constableref01_Number.j1 k (x0.extract 1 x0.size) x4) else (none)) else (constableref01_Number.j1 k x0 x4)
def constableref01_Number.j1 : Nat → ByteArray → Bool → Option (Int × Bool)
  | 0, _, _ => none
  | k + 1, x0, x4 => if (x0.size : Int) = 0 then (some (0, false)) else (constableref01_Number.l0 k x0 x4 0 false 0)
def constableref01_Number.l0 : Nat → ByteArray → Bool → Int → Bool → Int → Option (Int × Bool)
  | 0, _, _, _, _, _ => none
  | k + 1, x0, x4, x5, x6, x7 => if x7 < (x0.size : Int) then (if 0 ≤ x7 then ((constableref01_Digit.f (bt x0 x7)).bind fun t353 => (if t353 = true then (if x6 = true then (constableref01_Number.l0 k x0 x4 x5 true (wrap64 (x7 + 1))) else (if (x5 > ((4611686018427387904 - (((bt x0 x7) - 48) % 256)) / 10)) then (constableref01_Number.l0 k x0 x4 x5 (decide (x5 > ((4611686018427387904 - (((bt x0 x7) - 48) % 256)) / 10))) (wrap64 (x7 + 1))) else (constableref01_Number.l0 k x0 x4 (wrap64 ((wrap64 (10 * x5)) + (((bt x0 x7) - 48) % 256))) (decide (x5 > ((4611686018427387904 - (((bt x0 x7) - 48) % 256)) / 10))) (wrap64 (x7 + 1))))) else (some (0, false)))) else (none)) else (if x6 = true then (some (0, false)) else (if x4 = true then (some (wrap64 (-x5), true)) else (some (x5, true))))
end
def constableref01_Number.f (k : Nat) (a0 : ByteArray) : Option (Int × Bool) := if (a0.size : Int) > 0 then (if 0 < (a0.size : Int) then (constableref01_Number.j0 k a0 ((bt a0 0) == 45)) else (none)) else (constableref01_Number.j0 k a0 false)
theorem constableref01_Number.mono_l : ∀ k, (∀ y0 y1, LeO (constableref01_Number.j0 k y0 y1) (constableref01_Number.j0 (k + 1) y0 y1)) ∧ (∀ y0 y1, LeO (constableref01_Number.j1 k y0 y1) (constableref01_Number.j1 (k + 1) y0 y1)) ∧ (∀ y0 y1 y2 y3 y4, LeO (constableref01_Number.l0 k y0 y1 y2 y3 y4) (constableref01_Number.l0 (k + 1) y0 y1 y2 y3 y4))
  | 0 => ⟨fun _ _ r h => by simp [constableref01_Number.j0] at h, fun _ _ r h => by simp [constableref01_Number.j1] at h, fun _ _ _ _ _ r h => by simp [constableref01_Number.l0] at h⟩
  | k + 1 => by
    obtain ⟨ih0, ih1, ih2⟩ := constableref01_Number.mono_l k
    refine ⟨?_, ?_, ?_⟩
    · intro y0 y1
      unfold constableref01_Number.j0
      repeat' first
      | (with_reducible exact ih0 _ _)
      | (with_reducible exact ih1 _ _)
      | (with_reducible exact ih2 _ _ _ _ _)
      | (with_reducible exact LeO.refl _)
      | (with_reducible exact LeO.none _)
      | (with_reducible refine LeO.ite ?_ ?_)
      | (with_reducible refine LeO.bind ?_ (fun _ => ?_))
      | exact ih0 _ _
      | exact ih1 _ _
      | exact ih2 _ _ _ _ _
      | exact LeO.none _
      | refine LeO.ite ?_ ?_
      | refine LeO.bind ?_ (fun _ => ?_)
    · intro y0 y1
      unfold constableref01_Number.j1
      repeat' first
      | (with_reducible exact ih0 _ _)
      | (with_reducible exact ih1 _ _)
      | (with_reducible exact ih2 _ _ _ _ _)
      | (with_reducible exact LeO.refl _)
      | (with_reducible exact LeO.none _)
      | (with_reducible refine LeO.ite ?_ ?_)
      | (with_reducible refine LeO.bind ?_ (fun _ => ?_))
      | exact ih0 _ _
      | exact ih1 _ _
      | exact ih2 _ _ _ _ _
      | exact LeO.none _
      | refine LeO.ite ?_ ?_
      | refine LeO.bind ?_ (fun _ => ?_)
    · intro y0 y1 y2 y3 y4
      unfold constableref01_Number.l0
      repeat' first
      | (with_reducible exact ih0 _ _)
      | (with_reducible exact ih1 _ _)
      | (with_reducible exact ih2 _ _ _ _ _)
      | (with_reducible exact LeO.refl _)
      | (with_reducible exact LeO.none _)
      | (with_reducible refine LeO.ite ?_ ?_)
      | (with_reducible refine LeO.bind ?_ (fun _ => ?_))
      | exact ih0 _ _
      | exact ih1 _ _
      | exact ih2 _ _ _ _ _
      | exact LeO.none _
      | refine LeO.ite ?_ ?_
      | refine LeO.bind ?_ (fun _ => ?_)
theorem constableref01_Number.mono : ∀ a0 k, LeO (constableref01_Number.f k a0) (constableref01_Number.f (k + 1) a0) := by
  intro a0 k
  obtain ⟨ih0, ih1, ih2⟩ := constableref01_Number.mono_l k
  unfold constableref01_Number.f
  repeat' first
      | (with_reducible exact ih0 _ _)
      | (with_reducible exact ih1 _ _)
      | (with_reducible exact ih2 _ _ _ _ _)
      | (with_reducible exact LeO.refl _)
      | (with_reducible exact LeO.none _)
      | (with_reducible refine LeO.ite ?_ ?_)
      | (with_reducible refine LeO.bind ?_ (fun _ => ?_))
      | exact ih0 _ _
      | exact ih1 _ _
      | exact ih2 _ _ _ _ _
      | exact LeO.none _
      | refine LeO.ite ?_ ?_
      | refine LeO.bind ?_ (fun _ => ?_)
set_option maxHeartbeats 8000000 in
set_option maxRecDepth 100000 in
theorem constableref01_Number.calls (k : Nat) (a0 : ByteArray) (r1 : Int) (r2 : Bool) (w : World) (h : constableref01_Number.f k a0 = some (r1, r2)) :
    Calls Tryd.prog 53 #[.string a0] w fun e w' => e = .returned (.tuple #[.int .i64 r1, .bool r2]) ∧ Drawn0 w w' := by
  have H : (if (a0.size : Int) > 0 then (if 0 < (a0.size : Int) then (constableref01_Number.j0 k a0 ((bt a0 0) == 45)) else (none)) else (constableref01_Number.j0 k a0 false)) = some (r1, r2) := h
  clear h
  have HC2 := Aside0.mk H
  clear H
  go_enter Tryd.func53, Tryd.ntmps53
  go_upto_region 1 with (fail)
  go_cut [4] (fun v4 wc => ∃ (kq : Nat) (x4_1 : Bool), v4 = .bool x4_1 ∧ Aside0 (constableref01_Number.j0 kq a0 x4_1 = some (r1, r2)) ∧ Aside0 (kq ≤ k) ∧ Drawn0 w wc)
  case first =>
    have H := HC2.out
    clear HC2
    by_cases c3 : (a0.size : Int) > 0
    · rw [if_pos c3] at H
      have c3b0 : decide (0 < (a0.size : Int)) = true := decide_eq_true c3
      have c3b1 : decide (0 < a0.size) = true := decide_eq_true (by omega)
      clear c3
      (first | rw [c3b0] | (simp only [i64_w, i32_w]; rw [c3b0]) | skip)
      by_cases c4 : 0 < (a0.size : Int)
      · rw [if_pos c4] at H
        have c4b0 : decide (0 < (a0.size : Int)) = true := decide_eq_true c4
        have c4b1 : decide (0 < a0.size) = true := decide_eq_true (by omega)
        clear c4
        have H' := Aside0.mk H
        clear H
        have p5 : 0 ≤ (0 : Int) := (by omega)
        have q5 : 0 < a0.size := (by have : (0 : Int) < (a0.size : Int) := dt_; omega)
        have hx5 : ∀ h : 0 < a0.size, ((a0[0]'h).toNat : Int) = bt a0 0 := bt_at a0 0
        clear p5
        have qi5 : (0 < (a0.size : Int)) = True := eq_true dt_
        replace q5 := eq_true q5
        go_wp2
        go_meet
        case rel => exact ⟨_, (((bt a0 0) == 45)), ra_, H', ⟨by first | omega | exact Nat.le_refl _⟩, dz_⟩
      · rw [if_neg c4] at H
        exact absurd H (by simp)
    · rw [if_neg c3] at H
      have c3b0 : decide (0 < (a0.size : Int)) = false := decide_eq_false c3
      have c3b1 : decide (0 < a0.size) = false := decide_eq_false (by omega)
      clear c3
      (first | rw [c3b0] | (simp only [i64_w, i32_w]; rw [c3b0]) | skip)
      have H' := Aside0.mk H
      clear H
      go_wp2
      go_meet
      case rel => exact ⟨_, (false), ra_, H', ⟨by first | omega | exact Nat.le_refl _⟩, dz_⟩
  case rest =>
    clear HC2
    try clear p2
    try clear c3
    try clear c3b0
    try clear c3b1
    try clear c4
    try clear c4b0
    try clear c4b1
    try clear c5
    try clear p5
    try clear q5
    try clear hx5
    try clear qi5
    try clear p5
    try clear q5
    obtain ⟨kq, x4_1, rfl, HA, HJ1, ⟨mc1, rfl⟩⟩ := hcut
    cases kq with
    | zero => exact absurd HA.out (by simp [constableref01_Number.j0])
    | succ kj1 =>
      have H := HA.out
      clear HA
      simp only [constableref01_Number.j0] at H
      have HC6 := Aside0.mk H
      clear H
      go_upto_if 17 with (fail)
      go_cut [0] (fun v0 wc => ∃ (kq : Nat) (x0_5 : ByteArray), v0 = .string x0_5 ∧ Aside0 (constableref01_Number.j1 kq x0_5 x4_1 = some (r1, r2)) ∧ Aside0 (kq ≤ kj1) ∧ Drawn0 w wc)
      case first =>
        have H := HC6.out
        clear HC6
        by_cases c7 : x4_1 = true
        · subst c7
          have H1 : (if 1 ≤ (a0.size : Int) then (constableref01_Number.j1 kj1 (a0.extract 1 a0.size) true) else (none)) = some (r1, r2) := by rw [if_pos rfl] at H; exact H
          clear H
          have H := H1
          clear H1
          by_cases c8 : 1 ≤ (a0.size : Int)
          · rw [if_pos c8] at H
            have c8b0 := eq_true c8
            have c8b1 : decide (1 ≤ (a0.size : Int)) = true := decide_eq_true c8
            clear c8
            have H' := Aside0.mk H
            clear H
            go_wp2
            go_meet
            case rel => exact ⟨_, (a0.extract 1 a0.size), ra_, H', ⟨by have := HJ1.out; first | omega | exact Nat.le_refl _⟩, dz_⟩
          · rw [if_neg c8] at H
            exact absurd H (by simp)
        · replace c7 := Bool.eq_false_iff.mpr c7
          subst c7
          have H1 : (constableref01_Number.j1 kj1 a0 false) = some (r1, r2) := by rw [if_neg (show ¬ (false = true) by decide)] at H; exact H
          clear H
          have H := H1
          clear H1
          have H' := Aside0.mk H
          clear H
          go_wp2
          go_meet
          case rel => exact ⟨_, (a0), ra_, H', ⟨by have := HJ1.out; first | omega | exact Nat.le_refl _⟩, dz_⟩
      case rest =>
        clear HC6
        try clear c1
        try clear p2
        try clear c3
        try clear c3b0
        try clear c3b1
        try clear c4
        try clear c4b0
        try clear c4b1
        try clear c5
        try clear p5
        try clear q5
        try clear hx5
        try clear qi5
        try clear c7
        try clear c8
        try clear c8b0
        try clear c8b1
        try clear p2
        try clear p5
        try clear q5
        obtain ⟨kq, x0_5, rfl, HA, HJ5, ⟨mc5, rfl⟩⟩ := hcut
        cases kq with
        | zero => exact absurd HA.out (by simp [constableref01_Number.j1])
        | succ kj5 =>
          have H := HA.out
          clear HA
          simp only [constableref01_Number.j1] at H
          by_cases c9 : (x0_5.size : Int) = 0
          · rw [if_pos c9] at H
            obtain ⟨c9b0, c9b1⟩ := eqB_ c9
            clear c9
            simp only [Option.some.injEq, Prod.mk.injEq] at H
            obtain ⟨rfl, rfl⟩ := H
            go_wp2
            go_ret2
            exact rz_
          · rw [if_neg c9] at H
            obtain ⟨c9b0, c9b1⟩ := neB_ c9
            have H' := Aside0.mk H
            clear H
            go_wp2
            go_loopg [5, 6, 7] kj5 (fun kq v5 v6 v7 w' => ∃ (x5_3 : Int) (x6_3 : Bool) (x7_3 : Int), v5 = .int .i64 x5_3 ∧ v6 = .bool x6_3 ∧ v7 = .int .i64 x7_3 ∧ Aside0 (constableref01_Number.l0 kq x0_5 x4_1 x5_3 x6_3 x7_3 = some (r1, r2)) ∧ Aside0 (kq ≤ kj5) ∧ Drawn0 w w')
            case atStart => exact ⟨(0), (false), (0), ra_, ra_, ra_, H', ⟨Nat.le_refl _⟩, dz_⟩
            case round =>
              clear H'
              try clear c1
              try clear p2
              try clear c3
              try clear c3b0
              try clear c3b1
              try clear c4
              try clear c4b0
              try clear c4b1
              try clear c5
              try clear p5
              try clear q5
              try clear hx5
              try clear qi5
              try clear c7
              try clear c8
              try clear c8b0
              try clear c8b1
              try clear c9
              try clear c9b0
              try clear c9b1
              try clear p2
              try clear p5
              try clear q5
              obtain ⟨x5_3, x6_3, x7_3, rfl, rfl, rfl, HA, HK3, ⟨m3, rfl⟩⟩ := hrel
              cases gk with
              | zero => exact absurd HA.out (by simp [constableref01_Number.l0])
              | succ k3 =>
                have H := HA.out
                clear HA
                simp only [constableref01_Number.l0] at H
                by_cases c10 : x7_3 < (x0_5.size : Int)
                · rw [if_pos c10] at H
                  have c10b0 : decide (x7_3 < (x0_5.size : Int)) = true := decide_eq_true c10
                  clear c10
                  by_cases c11 : 0 ≤ x7_3
                  · rw [if_pos c11] at H
                    have c11b0 : decide (0 ≤ x7_3) = true := decide_eq_true c11
                    clear c11
                    replace H := Option.bind_eq_some_iff.mp H
                    obtain ⟨t353, A130, H⟩ := H
                    replace H : (if t353 = true then (if x6_3 = true then (constableref01_Number.l0 k3 x0_5 x4_1 x5_3 true (wrap64 (x7_3 + 1))) else (if (x5_3 > ((4611686018427387904 - (((bt x0_5 x7_3) - 48) % 256)) / 10)) then (constableref01_Number.l0 k3 x0_5 x4_1 x5_3 (decide (x5_3 > ((4611686018427387904 - (((bt x0_5 x7_3) - 48) % 256)) / 10))) (wrap64 (x7_3 + 1))) else (constableref01_Number.l0 k3 x0_5 x4_1 (wrap64 ((wrap64 (10 * x5_3)) + (((bt x0_5 x7_3) - 48) % 256))) (decide (x5_3 > ((4611686018427387904 - (((bt x0_5 x7_3) - 48) % 256)) / 10))) (wrap64 (x7_3 + 1))))) else (some (0, false))) = some (r1, r2) := H
                    have A13 := Aside0.mk A130
                    clear A130
                    by_cases c14 : t353 = true
                    · subst c14
                      have H1 : (if x6_3 = true then (constableref01_Number.l0 k3 x0_5 x4_1 x5_3 true (wrap64 (x7_3 + 1))) else (if (x5_3 > ((4611686018427387904 - (((bt x0_5 x7_3) - 48) % 256)) / 10)) then (constableref01_Number.l0 k3 x0_5 x4_1 x5_3 (decide (x5_3 > ((4611686018427387904 - (((bt x0_5 x7_3) - 48) % 256)) / 10))) (wrap64 (x7_3 + 1))) else (constableref01_Number.l0 k3 x0_5 x4_1 (wrap64 ((wrap64 (10 * x5_3)) + (((bt x0_5 x7_3) - 48) % 256))) (decide (x5_3 > ((4611686018427387904 - (((bt x0_5 x7_3) - 48) % 256)) / 10))) (wrap64 (x7_3 + 1))))) = some (r1, r2) := by rw [if_pos rfl] at H; exact H
                      clear H
                      have H := H1
                      clear H1
                      by_cases c16 : x6_3 = true
                      · subst c16
                        have H1 : (constableref01_Number.l0 k3 x0_5 x4_1 x5_3 true (wrap64 (x7_3 + 1))) = some (r1, r2) := by rw [if_pos rfl] at H; exact H
                        clear H
                        have H := H1
                        clear H1
                        have H' := Aside0.mk H
                        clear H
                        have p12 : 0 ≤ (x7_3 : Int) := dt_
                        have q12 : x7_3 < (x0_5.size : Int) := dt_
                        have hx12 := bt_at x0_5 x7_3
                        replace p12 := eq_true p12
                        replace q12 := eq_true q12
                        go_wp2_with (first | ((with_reducible refine gate_callee (f := 72) rfl ?_); refine goesL_ (some 32) rfl rfl Tryd.func72 (by kernel_rfl) rfl #[.int .u8 (bt x0_5 x7_3)] rfl ga_ ?_; (with_reducible refine (constableref01_Digit.calls (bt x0_5 x7_3) true _ A13.out).mono ?_); rintro e w' ⟨rfl, ⟨nd, rfl⟩⟩; refine ⟨_, rfl, ?_⟩; have p15 : 0 ≤ (x7_3 : Int) := dt_; have q15 : x7_3 < (x0_5.size : Int) := dt_; have hx15 := bt_at x0_5 x7_3; replace p15 := eq_true p15; replace q15 := eq_true q15))
                        go_roundg k3
                        case measure => have := HJ1.out; have := HJ5.out; have := HK3.out; omega
                        case rel => exact ⟨(x5_3), (true), (wrap64 (x7_3 + 1)), ra_, ra_, ra_, H', ⟨by have := HJ1.out; have := HJ5.out; have := HK3.out; omega⟩, dz_⟩
                      · replace c16 := Bool.eq_false_iff.mpr c16
                        subst c16
                        have H1 : (if (x5_3 > ((4611686018427387904 - (((bt x0_5 x7_3) - 48) % 256)) / 10)) then (constableref01_Number.l0 k3 x0_5 x4_1 x5_3 (decide (x5_3 > ((4611686018427387904 - (((bt x0_5 x7_3) - 48) % 256)) / 10))) (wrap64 (x7_3 + 1))) else (constableref01_Number.l0 k3 x0_5 x4_1 (wrap64 ((wrap64 (10 * x5_3)) + (((bt x0_5 x7_3) - 48) % 256))) (decide (x5_3 > ((4611686018427387904 - (((bt x0_5 x7_3) - 48) % 256)) / 10))) (wrap64 (x7_3 + 1)))) = some (r1, r2) := by rw [if_neg (show ¬ (false = true) by decide)] at H; exact H
                        clear H
                        have H := H1
                        clear H1
                        by_cases c17 : (x5_3 > ((4611686018427387904 - (((bt x0_5 x7_3) - 48) % 256)) / 10))
                        · rw [if_pos c17] at H
                          have c17b0 : decide (((4611686018427387904 - (((bt x0_5 x7_3) - 48) % 256)) / 10) < x5_3) = true := decide_eq_true c17
                          clear c17
                          have H' := Aside0.mk H
                          clear H
                          have p12 : 0 ≤ (x7_3 : Int) := dt_
                          have q12 : x7_3 < (x0_5.size : Int) := dt_
                          have hx12 := bt_at x0_5 x7_3
                          replace p12 := eq_true p12
                          replace q12 := eq_true q12
                          go_wp2_with (first | ((with_reducible refine gate_callee (f := 72) rfl ?_); refine goesL_ (some 32) rfl rfl Tryd.func72 (by kernel_rfl) rfl #[.int .u8 (bt x0_5 x7_3)] rfl ga_ ?_; (with_reducible refine (constableref01_Digit.calls (bt x0_5 x7_3) true _ A13.out).mono ?_); rintro e w' ⟨rfl, ⟨nd, rfl⟩⟩; refine ⟨_, rfl, ?_⟩; have p15 : 0 ≤ (x7_3 : Int) := dt_; have q15 : x7_3 < (x0_5.size : Int) := dt_; have hx15 := bt_at x0_5 x7_3; replace p15 := eq_true p15; replace q15 := eq_true q15))
                          go_roundg k3
                          case measure => have := HJ1.out; have := HJ5.out; have := HK3.out; omega
                          case rel => exact ⟨(x5_3), (decide (x5_3 > ((4611686018427387904 - (((bt x0_5 x7_3) - 48) % 256)) / 10))), (wrap64 (x7_3 + 1)), ra_, ra_, ra_, H', ⟨by have := HJ1.out; have := HJ5.out; have := HK3.out; omega⟩, dz_⟩
                        · rw [if_neg c17] at H
                          have c17b0 : decide (((4611686018427387904 - (((bt x0_5 x7_3) - 48) % 256)) / 10) < x5_3) = false := decide_eq_false c17
                          clear c17
                          have H' := Aside0.mk H
                          clear H
                          have p12 : 0 ≤ (x7_3 : Int) := dt_
                          have q12 : x7_3 < (x0_5.size : Int) := dt_
                          have hx12 := bt_at x0_5 x7_3
                          replace p12 := eq_true p12
                          replace q12 := eq_true q12
                          go_wp2_with (first | ((with_reducible refine gate_callee (f := 72) rfl ?_); refine goesL_ (some 32) rfl rfl Tryd.func72 (by kernel_rfl) rfl #[.int .u8 (bt x0_5 x7_3)] rfl ga_ ?_; (with_reducible refine (constableref01_Digit.calls (bt x0_5 x7_3) true _ A13.out).mono ?_); rintro e w' ⟨rfl, ⟨nd, rfl⟩⟩; refine ⟨_, rfl, ?_⟩; have p15 : 0 ≤ (x7_3 : Int) := dt_; have q15 : x7_3 < (x0_5.size : Int) := dt_; have hx15 := bt_at x0_5 x7_3; replace p15 := eq_true p15; replace q15 := eq_true q15))
                          go_roundg k3
                          case measure => have := HJ1.out; have := HJ5.out; have := HK3.out; omega
                          case rel => exact ⟨(wrap64 ((wrap64 (10 * x5_3)) + (((bt x0_5 x7_3) - 48) % 256))), (decide (x5_3 > ((4611686018427387904 - (((bt x0_5 x7_3) - 48) % 256)) / 10))), (wrap64 (x7_3 + 1)), ra_, ra_, ra_, H', ⟨by have := HJ1.out; have := HJ5.out; have := HK3.out; omega⟩, dz_⟩
                    · replace c14 := Bool.eq_false_iff.mpr c14
                      subst c14
                      have H1 : (some (0, false)) = some (r1, r2) := by rw [if_neg (show ¬ (false = true) by decide)] at H; exact H
                      clear H
                      have H := H1
                      clear H1
                      simp only [Option.some.injEq, Prod.mk.injEq] at H
                      obtain ⟨rfl, rfl⟩ := H
                      have p12 : 0 ≤ (x7_3 : Int) := dt_
                      have q12 : x7_3 < (x0_5.size : Int) := dt_
                      have hx12 := bt_at x0_5 x7_3
                      replace p12 := eq_true p12
                      replace q12 := eq_true q12
                      go_wp2_with (first | ((with_reducible refine gate_callee (f := 72) rfl ?_); refine goesL_ (some 32) rfl rfl Tryd.func72 (by kernel_rfl) rfl #[.int .u8 (bt x0_5 x7_3)] rfl ga_ ?_; (with_reducible refine (constableref01_Digit.calls (bt x0_5 x7_3) false _ A13.out).mono ?_); rintro e w' ⟨rfl, ⟨nd, rfl⟩⟩; refine ⟨_, rfl, ?_⟩))
                      go_ret2
                      exact rz_
                  · rw [if_neg c11] at H
                    exact absurd H (by simp)
                · rw [if_neg c10] at H
                  have c10b0 : decide (x7_3 < (x0_5.size : Int)) = false := decide_eq_false c10
                  clear c10
                  by_cases c18 : x6_3 = true
                  · subst c18
                    have H1 : (some (0, false)) = some (r1, r2) := by rw [if_pos rfl] at H; exact H
                    clear H
                    have H := H1
                    clear H1
                    simp only [Option.some.injEq, Prod.mk.injEq] at H
                    obtain ⟨rfl, rfl⟩ := H
                    go_wp2
                    go_ret2
                    exact rz_
                  · replace c18 := Bool.eq_false_iff.mpr c18
                    subst c18
                    have H1 : (if x4_1 = true then (some (wrap64 (-x5_3), true)) else (some (x5_3, true))) = some (r1, r2) := by rw [if_neg (show ¬ (false = true) by decide)] at H; exact H
                    clear H
                    have H := H1
                    clear H1
                    by_cases c19 : x4_1 = true
                    · subst c19
                      have H1 : (some (wrap64 (-x5_3), true)) = some (r1, r2) := by rw [if_pos rfl] at H; exact H
                      clear H
                      have H := H1
                      clear H1
                      simp only [Option.some.injEq, Prod.mk.injEq] at H
                      obtain ⟨rfl, rfl⟩ := H
                      go_wp2
                      go_ret2
                      exact rz_
                    · replace c19 := Bool.eq_false_iff.mpr c19
                      subst c19
                      have H1 : (some (x5_3, true)) = some (r1, r2) := by rw [if_neg (show ¬ (false = true) by decide)] at H; exact H
                      clear H
                      have H := H1
                      clear H1
                      simp only [Option.some.injEq, Prod.mk.injEq] at H
                      obtain ⟨rfl, rfl⟩ := H
                      go_wp2
                      go_ret2
                      exact rz_
end Go.Proofs.YtaopajmpifenoaaDoor.P
end
section
namespace Go.Proofs.YtaopajmpifenoaaDoor.P
open Go.RowKit Go.Proofs.YtaopajmpifenoaaDoorW.PrintWords Go.Proofs.YtaopajmpifenoaaDoorW.PrintLast Go.Proofs.YtaopajmpifenoaaDoorW.PrintMore
attribute [local go_sem] max2_int min2_int max_two min_two max_three min_three max_four min_four
set_option linter.unusedVariables false
set_option linter.unusedSimpArgs false
mutual
def constableref01_Quoted.j0 : Nat → ByteArray → Bool → Option (ByteArray × Bool)
  | 0, _, _ => none
  | k + 1, x0, x13 => if x13 = true then (some ((⟨#[]⟩ : ByteArray), false)) else (constableref01_Quoted.l0 k x0 (⟨#[]⟩ : ByteArray) 1)
def constableref01_Quoted.l0 : Nat → ByteArray → ByteArray → Int → Option (ByteArray × Bool)
  | 0, _, _, _ => none
  | k + 1, x0, x4, x5 => if x5 < (x0.size : Int) then (if 0 ≤ x5 then (if (bt x0 x5) = 34 then (if x5 = (wrap64 ((x0.size : Int) - 1)) then (some (x4, decide ((x4.size : Int) ≤ 60))) else (some (x4, false))) else (if (bt x0 x5) = 92 then (if (wrap64 (x5 + 1)) ≥ (x0.size : Int) then (some ((⟨#[]⟩ : ByteArray), false)) else (if 0 ≤ (wrap64 (x5 + 1)) then (if (wrap64 (x5 + 1)) < (x0.size : Int) then (if (bt x0 (wrap64 (x5 + 1))) = 34 then (if (wrap64 (x5 + 1)) ≤ (wrap64 ((wrap64 (x5 + 1)) + 1)) then (if (wrap64 ((wrap64 (x5 + 1)) + 1)) ≤ (x0.size : Int) then (if x4.size + (x0.extract ((wrap64 (x5 + 1)) : Int).toNat ((wrap64 ((wrap64 (x5 + 1)) + 1)) : Int).toNat).size ≤ 9223372036854775807 then (constableref01_Quoted.l0 k x0 (x4 ++ (x0.extract ((wrap64 (x5 + 1)) : Int).toNat ((wrap64 ((wrap64 (x5 + 1)) + 1)) : Int).toNat)) (wrap64 ((wrap64 (x5 + 1)) + 1))) else (none)) else (none)) else (none)) else (if (bt x0 (wrap64 (x5 + 1))) = 92 then (if (wrap64 (x5 + 1)) ≤ (wrap64 ((wrap64 (x5 + 1)) + 1)) then (if (wrap64 ((wrap64 (x5 + 1)) + 1)) ≤ (x0.size : Int) then (if x4.size + (x0.extract ((wrap64 (x5 + 1)) : Int).toNat ((wrap64 ((wrap64 (x5 + 1)) + 1)) : Int).toNat).size ≤ 9223372036854775807 then (constableref01_Quoted.l0 k x0 (x4 ++ (x0.extract ((wrap64 (x5 + 1)) : Int).toNat ((wrap64 ((wrap64 (x5 + 1)) + 1)) : Int).toNat)) (wrap64 ((wrap64 (x5 + 1)) + 1))) else (none)) else (none)) else (none)) else (some ((⟨#[]⟩ : ByteArray), false)))) else (none)) else (none))) else ((constableref01_In.f (wrap64 (bt x0 x5)) 32 126).bind fun t354 => (if t354 = true then (if x5 ≤ (wrap64 (x5 + 1)) then (if (wrap64 (x5 + 1)) ≤ (x0.size : Int) then (if x4.size + (x0.extract (x5 : Int).toNat ((wrap64 (x5 + 1)) : Int).toNat).size ≤ 9223372036854775807 then (constableref01_Quoted.l0 k x0 (x4 ++ (x0.extract (x5 : Int).toNat ((wrap64 (x5 + 1)) : Int).toNat)) (wrap64 (x5 + 1))) else (none)) else (none)) else (none)) else (some ((⟨#[]⟩ : ByteArray), false)))))) else (none)) else (some ((⟨#[]⟩ : ByteArray), false))
end
def constableref01_Quoted.f (k : Nat) (a0 : ByteArray) : Option (ByteArray × Bool) := if (a0.size : Int) < 2 then (constableref01_Quoted.j0 k a0 true) else (if 0 < (a0.size : Int) then (constableref01_Quoted.j0 k a0 ((bt a0 0) != 34)) else (none))
theorem constableref01_Quoted.mono_l : ∀ k, (∀ y0 y1, LeO (constableref01_Quoted.j0 k y0 y1) (constableref01_Quoted.j0 (k + 1) y0 y1)) ∧ (∀ y0 y1 y2, LeO (constableref01_Quoted.l0 k y0 y1 y2) (constableref01_Quoted.l0 (k + 1) y0 y1 y2))
  | 0 => ⟨fun _ _ r h => by simp [constableref01_Quoted.j0] at h, fun _ _ _ r h => by simp [constableref01_Quoted.l0] at h⟩
  | k + 1 => by
    obtain ⟨ih0, ih1⟩ := constableref01_Quoted.mono_l k
    refine ⟨?_, ?_⟩
    · intro y0 y1
      unfold constableref01_Quoted.j0
      repeat' first
      | (with_reducible exact ih0 _ _)
      | (with_reducible exact ih1 _ _ _)
      | (with_reducible exact LeO.refl _)
      | (with_reducible exact LeO.none _)
      | (with_reducible refine LeO.ite ?_ ?_)
      | (with_reducible refine LeO.bind ?_ (fun _ => ?_))
      | exact ih0 _ _
      | exact ih1 _ _ _
      | exact LeO.none _
      | refine LeO.ite ?_ ?_
      | refine LeO.bind ?_ (fun _ => ?_)
    · intro y0 y1 y2
      unfold constableref01_Quoted.l0
      repeat' first
      | (with_reducible exact ih0 _ _)
      | (with_reducible exact ih1 _ _ _)
      | (with_reducible exact LeO.refl _)
      | (with_reducible exact LeO.none _)
      | (with_reducible refine LeO.ite ?_ ?_)
      | (with_reducible refine LeO.bind ?_ (fun _ => ?_))
      | exact ih0 _ _
      | exact ih1 _ _ _
      | exact LeO.none _
      | refine LeO.ite ?_ ?_
      | refine LeO.bind ?_ (fun _ => ?_)
theorem constableref01_Quoted.mono : ∀ a0 k, LeO (constableref01_Quoted.f k a0) (constableref01_Quoted.f (k + 1) a0) := by
  intro a0 k
  obtain ⟨ih0, ih1⟩ := constableref01_Quoted.mono_l k
  unfold constableref01_Quoted.f
  repeat' first
      | (with_reducible exact ih0 _ _)
      | (with_reducible exact ih1 _ _ _)
      | (with_reducible exact LeO.refl _)
      | (with_reducible exact LeO.none _)
      | (with_reducible refine LeO.ite ?_ ?_)
      | (with_reducible refine LeO.bind ?_ (fun _ => ?_))
      | exact ih0 _ _
      | exact ih1 _ _ _
      | exact LeO.none _
      | refine LeO.ite ?_ ?_
      | refine LeO.bind ?_ (fun _ => ?_)
set_option maxHeartbeats 8000000 in
set_option maxRecDepth 100000 in
theorem constableref01_Quoted.calls (k : Nat) (a0 : ByteArray) (r1 : ByteArray) (r2 : Bool) (w : World) (h : constableref01_Quoted.f k a0 = some (r1, r2)) :
    Calls Tryd.prog 54 #[.string a0] w fun e w' => e = .returned (.tuple #[.string r1, .bool r2]) ∧ Drawn0 w w' := by
  have H : (if (a0.size : Int) < 2 then (constableref01_Quoted.j0 k a0 true) else (if 0 < (a0.size : Int) then (constableref01_Quoted.j0 k a0 ((bt a0 0) != 34)) else (none))) = some (r1, r2) := h
  clear h
  have HC2 := Aside0.mk H
  clear H
  go_enter Tryd.func54, Tryd.ntmps54
  go_upto_region 1 with (fail)
  go_cut [13] (fun v13 wc => ∃ (kq : Nat) (x13_1 : Bool), v13 = .bool x13_1 ∧ Aside0 (constableref01_Quoted.j0 kq a0 x13_1 = some (r1, r2)) ∧ Aside0 (kq ≤ k) ∧ Drawn0 w wc)
  case first =>
    have H := HC2.out
    clear HC2
    by_cases c3 : (a0.size : Int) < 2
    · rw [if_pos c3] at H
      have c3b0 : decide ((a0.size : Int) < 2) = true := decide_eq_true c3
      have c3b1 : decide (a0.size < 2) = true := decide_eq_true (by omega)
      clear c3
      (first | rw [c3b0] | (simp only [i64_w, i32_w]; rw [c3b0]) | skip)
      have H' := Aside0.mk H
      clear H
      go_wp2
      go_meet
      case rel => exact ⟨_, (true), ra_, H', ⟨by first | omega | exact Nat.le_refl _⟩, dz_⟩
    · rw [if_neg c3] at H
      have c3b0 : decide ((a0.size : Int) < 2) = false := decide_eq_false c3
      have c3b1 : decide (a0.size < 2) = false := decide_eq_false (by omega)
      clear c3
      (first | rw [c3b0] | (simp only [i64_w, i32_w]; rw [c3b0]) | skip)
      by_cases c4 : 0 < (a0.size : Int)
      · rw [if_pos c4] at H
        have c4b0 : decide (0 < (a0.size : Int)) = true := decide_eq_true c4
        have c4b1 : decide (0 < a0.size) = true := decide_eq_true (by omega)
        clear c4
        have H' := Aside0.mk H
        clear H
        have p5 : 0 ≤ (0 : Int) := (by omega)
        have q5 : 0 < a0.size := (by have : (0 : Int) < (a0.size : Int) := dt_; omega)
        have hx5 : ∀ h : 0 < a0.size, ((a0[0]'h).toNat : Int) = bt a0 0 := bt_at a0 0
        clear p5
        have qi5 : (0 < (a0.size : Int)) = True := eq_true dt_
        replace q5 := eq_true q5
        go_wp2
        go_meet
        case rel => exact ⟨_, (((bt a0 0) != 34)), ra_, H', ⟨by first | omega | exact Nat.le_refl _⟩, dz_⟩
      · rw [if_neg c4] at H
        exact absurd H (by simp)
  case rest =>
    clear HC2
    try clear p2
    try clear c3
    try clear c3b0
    try clear c3b1
    try clear c4
    try clear c4b0
    try clear c4b1
    try clear c5
    try clear p5
    try clear q5
    try clear hx5
    try clear qi5
    try clear p5
    try clear q5
    obtain ⟨kq, x13_1, rfl, HA, HJ1, ⟨mc1, rfl⟩⟩ := hcut
    cases kq with
    | zero => exact absurd HA.out (by simp [constableref01_Quoted.j0])
    | succ kj1 =>
      have H := HA.out
      clear HA
      simp only [constableref01_Quoted.j0] at H
      by_cases c6 : x13_1 = true
      · subst c6
        have H1 : (some ((⟨#[]⟩ : ByteArray), false)) = some (r1, r2) := by rw [if_pos rfl] at H; exact H
        clear H
        have H := H1
        clear H1
        simp only [Option.some.injEq, Prod.mk.injEq] at H
        obtain ⟨rfl, rfl⟩ := H
        go_wp2
        go_ret2
        exact rz_
      · replace c6 := Bool.eq_false_iff.mpr c6
        subst c6
        have H1 : (constableref01_Quoted.l0 kj1 a0 (⟨#[]⟩ : ByteArray) 1) = some (r1, r2) := by rw [if_neg (show ¬ (false = true) by decide)] at H; exact H
        clear H
        have H := H1
        clear H1
        have H' := Aside0.mk H
        clear H
        go_wp2
        go_loopg [4, 5] kj1 (fun kq v4 v5 w' => ∃ (x4_2 : ByteArray) (x5_2 : Int), v4 = .string x4_2 ∧ v5 = .int .i64 x5_2 ∧ Aside0 (constableref01_Quoted.l0 kq a0 x4_2 x5_2 = some (r1, r2)) ∧ Aside0 (kq ≤ kj1) ∧ Drawn0 w w')
        case atStart => exact ⟨((⟨#[]⟩ : ByteArray)), (1), ra_, ra_, H', ⟨Nat.le_refl _⟩, dz_⟩
        case round =>
          clear H'
          try clear c1
          try clear p2
          try clear c3
          try clear c3b0
          try clear c3b1
          try clear c4
          try clear c4b0
          try clear c4b1
          try clear c5
          try clear p5
          try clear q5
          try clear hx5
          try clear qi5
          try clear c6
          try clear p2
          try clear p5
          try clear q5
          obtain ⟨x4_2, x5_2, rfl, rfl, HA, HK2, ⟨m2, rfl⟩⟩ := hrel
          cases gk with
          | zero => exact absurd HA.out (by simp [constableref01_Quoted.l0])
          | succ k2 =>
            have H := HA.out
            clear HA
            simp only [constableref01_Quoted.l0] at H
            by_cases c7 : x5_2 < (a0.size : Int)
            · rw [if_pos c7] at H
              have c7b0 : decide (x5_2 < (a0.size : Int)) = true := decide_eq_true c7
              clear c7
              by_cases c8 : 0 ≤ x5_2
              · rw [if_pos c8] at H
                have c8b0 : decide (0 ≤ x5_2) = true := decide_eq_true c8
                clear c8
                by_cases c10 : (bt a0 x5_2) = 34
                · rw [if_pos c10] at H
                  obtain ⟨c10b0, c10b1⟩ := eqB_ c10
                  clear c10
                  by_cases c11 : x5_2 = (wrap64 ((a0.size : Int) - 1))
                  · rw [if_pos c11] at H
                    obtain ⟨c11b0, c11b1⟩ := eqB_ c11
                    clear c11
                    simp only [Option.some.injEq, Prod.mk.injEq] at H
                    obtain ⟨rfl, rfl⟩ := H
                    have p9 : 0 ≤ (x5_2 : Int) := dt_
                    have q9 : x5_2 < (a0.size : Int) := dt_
                    have hx9 := bt_at a0 x5_2
                    replace p9 := eq_true p9
                    replace q9 := eq_true q9
                    go_wp2
                    go_ret2
                    exact rz_
                  · rw [if_neg c11] at H
                    obtain ⟨c11b0, c11b1⟩ := neB_ c11
                    simp only [Option.some.injEq, Prod.mk.injEq] at H
                    obtain ⟨rfl, rfl⟩ := H
                    have p9 : 0 ≤ (x5_2 : Int) := dt_
                    have q9 : x5_2 < (a0.size : Int) := dt_
                    have hx9 := bt_at a0 x5_2
                    replace p9 := eq_true p9
                    replace q9 := eq_true q9
                    go_wp2
                    go_ret2
                    exact rz_
                · rw [if_neg c10] at H
                  obtain ⟨c10b0, c10b1⟩ := neB_ c10
                  by_cases c13 : (bt a0 x5_2) = 92
                  · rw [if_pos c13] at H
                    obtain ⟨c13b0, c13b1⟩ := eqB_ c13
                    clear c13
                    by_cases c14 : (wrap64 (x5_2 + 1)) ≥ (a0.size : Int)
                    · rw [if_pos c14] at H
                      have c14b0 : decide ((a0.size : Int) ≤ (wrap64 (x5_2 + 1))) = true := decide_eq_true c14
                      clear c14
                      simp only [Option.some.injEq, Prod.mk.injEq] at H
                      obtain ⟨rfl, rfl⟩ := H
                      have p9 : 0 ≤ (x5_2 : Int) := dt_
                      have q9 : x5_2 < (a0.size : Int) := dt_
                      have hx9 := bt_at a0 x5_2
                      replace p9 := eq_true p9
                      replace q9 := eq_true q9
                      have p12 : 0 ≤ (x5_2 : Int) := dt_
                      have q12 : x5_2 < (a0.size : Int) := dt_
                      have hx12 := bt_at a0 x5_2
                      replace p12 := eq_true p12
                      replace q12 := eq_true q12
                      go_wp2
                      go_ret2
                      exact rz_
                    · rw [if_neg c14] at H
                      have c14b0 : decide ((a0.size : Int) ≤ (wrap64 (x5_2 + 1))) = false := decide_eq_false c14
                      clear c14
                      obtain ⟨ji15, hji15⟩ : ∃ j_ : Int, (wrap64 (x5_2 + 1)) = j_ := ⟨_, rfl⟩
                      replace H : (if 0 ≤ (ji15) then (if (ji15) < (a0.size : Int) then (if (bt a0 (ji15)) = 34 then (if (ji15) ≤ (wrap64 ((ji15) + 1)) then (if (wrap64 ((ji15) + 1)) ≤ (a0.size : Int) then (if x4_2.size + (a0.extract ((ji15) : Int).toNat ((wrap64 ((ji15) + 1)) : Int).toNat).size ≤ 9223372036854775807 then (constableref01_Quoted.l0 k2 a0 (x4_2 ++ (a0.extract ((ji15) : Int).toNat ((wrap64 ((ji15) + 1)) : Int).toNat)) (wrap64 ((ji15) + 1))) else (none)) else (none)) else (none)) else (if (bt a0 (ji15)) = 92 then (if (ji15) ≤ (wrap64 ((ji15) + 1)) then (if (wrap64 ((ji15) + 1)) ≤ (a0.size : Int) then (if x4_2.size + (a0.extract ((ji15) : Int).toNat ((wrap64 ((ji15) + 1)) : Int).toNat).size ≤ 9223372036854775807 then (constableref01_Quoted.l0 k2 a0 (x4_2 ++ (a0.extract ((ji15) : Int).toNat ((wrap64 ((ji15) + 1)) : Int).toNat)) (wrap64 ((ji15) + 1))) else (none)) else (none)) else (none)) else (some ((⟨#[]⟩ : ByteArray), false)))) else (none)) else (none)) = some (r1, r2) := by first | (rw [hji15] at H; exact H) | (simp only [hji15] at H ⊢; exact H)
                      (try rw [hji15] at c14b0)
                      have hji15w : (IntKind.i64.wrap (x5_2 + 1)) = ji15 := (i64_w _).trans hji15
                      by_cases c16 : 0 ≤ (ji15)
                      · rw [if_pos c16] at H
                        have c16b0 : decide (0 ≤ (ji15)) = true := decide_eq_true c16
                        clear c16
                        by_cases c17 : (ji15) < (a0.size : Int)
                        · rw [if_pos c17] at H
                          have c17b0 : decide ((ji15) < (a0.size : Int)) = true := decide_eq_true c17
                          clear c17
                          by_cases c19 : (bt a0 (ji15)) = 34
                          · rw [if_pos c19] at H
                            obtain ⟨c19b0, c19b1⟩ := eqB_ c19
                            clear c19
                            have c20b0 := eq_true (of_decide_eq_true (by first | (with_reducible assumption) | assumption) : 0 ≤ (ji15))
                            by_cases c21 : (ji15) ≤ (wrap64 ((ji15) + 1))
                            · rw [if_pos c21] at H
                              have c21b0 := eq_true c21
                              have c21b1 : decide ((ji15) ≤ (wrap64 ((ji15) + 1))) = true := decide_eq_true c21
                              by_cases c22 : (wrap64 ((ji15) + 1)) ≤ (a0.size : Int)
                              · rw [if_pos c22] at H
                                have c22b0 := eq_true c22
                                have c22b1 : decide ((wrap64 ((ji15) + 1)) ≤ (a0.size : Int)) = true := decide_eq_true c22
                                by_cases c23 : x4_2.size + (a0.extract ((ji15) : Int).toNat ((wrap64 ((ji15) + 1)) : Int).toNat).size ≤ 9223372036854775807
                                · rw [if_pos c23] at H
                                  have c23b0 := eq_true c23
                                  have c23b1 : decide (x4_2.size + (a0.extract ((ji15) : Int).toNat ((wrap64 ((ji15) + 1)) : Int).toNat).size ≤ 9223372036854775807) = true := decide_eq_true c23
                                  try have c23b2 : (9223372036854775807 < x4_2.size + (a0.extract ((ji15) : Int).toNat ((wrap64 ((ji15) + 1)) : Int).toNat).size) = False := eq_false (Nat.not_lt.2 c23)
                                  have H' := Aside0.mk H
                                  clear H
                                  have p9 : 0 ≤ (x5_2 : Int) := dt_
                                  have q9 : x5_2 < (a0.size : Int) := dt_
                                  have hx9 := bt_at a0 x5_2
                                  replace p9 := eq_true p9
                                  replace q9 := eq_true q9
                                  have p12 : 0 ≤ (x5_2 : Int) := dt_
                                  have q12 : x5_2 < (a0.size : Int) := dt_
                                  have hx12 := bt_at a0 x5_2
                                  replace p12 := eq_true p12
                                  replace q12 := eq_true q12
                                  have p18 : 0 ≤ ((ji15) : Int) := dt_
                                  have q18 : (ji15) < (a0.size : Int) := dt_
                                  have hx18 := bt_at a0 (ji15)
                                  replace p18 := eq_true p18
                                  replace q18 := eq_true q18
                                  go_wp2
                                  go_roundg k2
                                  case measure => have := HJ1.out; have := HK2.out; omega
                                  case rel => exact ⟨(x4_2 ++ (a0.extract ((ji15) : Int).toNat ((wrap64 ((ji15) + 1)) : Int).toNat)), (wrap64 ((ji15) + 1)), (by first | rfl | (simp; done) | (simp only [← hji15] <;> (first | rfl | simp)) | (simp [*]; done)), (by first | rfl | (simp; done) | (simp only [← hji15] <;> (first | rfl | simp)) | (simp [*]; done)), H', ⟨by have := HJ1.out; have := HK2.out; omega⟩, dz_⟩
                                · rw [if_neg c23] at H
                                  exact absurd H (by simp)
                              · rw [if_neg c22] at H
                                exact absurd H (by simp)
                            · rw [if_neg c21] at H
                              exact absurd H (by simp)
                          · rw [if_neg c19] at H
                            obtain ⟨c19b0, c19b1⟩ := neB_ c19
                            by_cases c25 : (bt a0 (ji15)) = 92
                            · rw [if_pos c25] at H
                              obtain ⟨c25b0, c25b1⟩ := eqB_ c25
                              clear c25
                              have c26b0 := eq_true (of_decide_eq_true (by first | (with_reducible assumption) | assumption) : 0 ≤ (ji15))
                              by_cases c27 : (ji15) ≤ (wrap64 ((ji15) + 1))
                              · rw [if_pos c27] at H
                                have c27b0 := eq_true c27
                                have c27b1 : decide ((ji15) ≤ (wrap64 ((ji15) + 1))) = true := decide_eq_true c27
                                by_cases c28 : (wrap64 ((ji15) + 1)) ≤ (a0.size : Int)
                                · rw [if_pos c28] at H
                                  have c28b0 := eq_true c28
                                  have c28b1 : decide ((wrap64 ((ji15) + 1)) ≤ (a0.size : Int)) = true := decide_eq_true c28
                                  by_cases c29 : x4_2.size + (a0.extract ((ji15) : Int).toNat ((wrap64 ((ji15) + 1)) : Int).toNat).size ≤ 9223372036854775807
                                  · rw [if_pos c29] at H
                                    have c29b0 := eq_true c29
                                    have c29b1 : decide (x4_2.size + (a0.extract ((ji15) : Int).toNat ((wrap64 ((ji15) + 1)) : Int).toNat).size ≤ 9223372036854775807) = true := decide_eq_true c29
                                    try have c29b2 : (9223372036854775807 < x4_2.size + (a0.extract ((ji15) : Int).toNat ((wrap64 ((ji15) + 1)) : Int).toNat).size) = False := eq_false (Nat.not_lt.2 c29)
                                    have H' := Aside0.mk H
                                    clear H
                                    have p9 : 0 ≤ (x5_2 : Int) := dt_
                                    have q9 : x5_2 < (a0.size : Int) := dt_
                                    have hx9 := bt_at a0 x5_2
                                    replace p9 := eq_true p9
                                    replace q9 := eq_true q9
                                    have p12 : 0 ≤ (x5_2 : Int) := dt_
                                    have q12 : x5_2 < (a0.size : Int) := dt_
                                    have hx12 := bt_at a0 x5_2
                                    replace p12 := eq_true p12
                                    replace q12 := eq_true q12
                                    have p18 : 0 ≤ ((ji15) : Int) := dt_
                                    have q18 : (ji15) < (a0.size : Int) := dt_
                                    have hx18 := bt_at a0 (ji15)
                                    replace p18 := eq_true p18
                                    replace q18 := eq_true q18
                                    have p24 : 0 ≤ ((ji15) : Int) := dt_
                                    have q24 : (ji15) < (a0.size : Int) := dt_
                                    have hx24 := bt_at a0 (ji15)
                                    replace p24 := eq_true p24
                                    replace q24 := eq_true q24
                                    go_wp2
                                    go_roundg k2
                                    case measure => have := HJ1.out; have := HK2.out; omega
                                    case rel => exact ⟨(x4_2 ++ (a0.extract ((ji15) : Int).toNat ((wrap64 ((ji15) + 1)) : Int).toNat)), (wrap64 ((ji15) + 1)), (by first | rfl | (simp; done) | (simp only [← hji15] <;> (first | rfl | simp)) | (simp [*]; done)), (by first | rfl | (simp; done) | (simp only [← hji15] <;> (first | rfl | simp)) | (simp [*]; done)), H', ⟨by have := HJ1.out; have := HK2.out; omega⟩, dz_⟩
                                  · rw [if_neg c29] at H
                                    exact absurd H (by simp)
                                · rw [if_neg c28] at H
                                  exact absurd H (by simp)
                              · rw [if_neg c27] at H
                                exact absurd H (by simp)
                            · rw [if_neg c25] at H
                              obtain ⟨c25b0, c25b1⟩ := neB_ c25
                              simp only [Option.some.injEq, Prod.mk.injEq] at H
                              obtain ⟨rfl, rfl⟩ := H
                              have p9 : 0 ≤ (x5_2 : Int) := dt_
                              have q9 : x5_2 < (a0.size : Int) := dt_
                              have hx9 := bt_at a0 x5_2
                              replace p9 := eq_true p9
                              replace q9 := eq_true q9
                              have p12 : 0 ≤ (x5_2 : Int) := dt_
                              have q12 : x5_2 < (a0.size : Int) := dt_
                              have hx12 := bt_at a0 x5_2
                              replace p12 := eq_true p12
                              replace q12 := eq_true q12
                              have p18 : 0 ≤ ((ji15) : Int) := dt_
                              have q18 : (ji15) < (a0.size : Int) := dt_
                              have hx18 := bt_at a0 (ji15)
                              replace p18 := eq_true p18
                              replace q18 := eq_true q18
                              have p24 : 0 ≤ ((ji15) : Int) := dt_
                              have q24 : (ji15) < (a0.size : Int) := dt_
                              have hx24 := bt_at a0 (ji15)
                              replace p24 := eq_true p24
                              replace q24 := eq_true q24
                              go_wp2
                              go_ret2
                              exact ⟨by first | rfl | (simp; done) | (simp only [← hji15] <;> (first | rfl | simp)) | (simp [*]; done), dz_⟩
                        · rw [if_neg c17] at H
                          exact absurd H (by simp)
                      · rw [if_neg c16] at H
                        exact absurd H (by simp)
                  · rw [if_neg c13] at H
                    obtain ⟨c13b0, c13b1⟩ := neB_ c13
                    replace H := Option.bind_eq_some_iff.mp H
                    obtain ⟨t354, A310, H⟩ := H
                    replace H : (if t354 = true then (if x5_2 ≤ (wrap64 (x5_2 + 1)) then (if (wrap64 (x5_2 + 1)) ≤ (a0.size : Int) then (if x4_2.size + (a0.extract (x5_2 : Int).toNat ((wrap64 (x5_2 + 1)) : Int).toNat).size ≤ 9223372036854775807 then (constableref01_Quoted.l0 k2 a0 (x4_2 ++ (a0.extract (x5_2 : Int).toNat ((wrap64 (x5_2 + 1)) : Int).toNat)) (wrap64 (x5_2 + 1))) else (none)) else (none)) else (none)) else (some ((⟨#[]⟩ : ByteArray), false))) = some (r1, r2) := H
                    have A31 := Aside0.mk A310
                    clear A310
                    by_cases c32 : t354 = true
                    · subst c32
                      have H1 : (if x5_2 ≤ (wrap64 (x5_2 + 1)) then (if (wrap64 (x5_2 + 1)) ≤ (a0.size : Int) then (if x4_2.size + (a0.extract (x5_2 : Int).toNat ((wrap64 (x5_2 + 1)) : Int).toNat).size ≤ 9223372036854775807 then (constableref01_Quoted.l0 k2 a0 (x4_2 ++ (a0.extract (x5_2 : Int).toNat ((wrap64 (x5_2 + 1)) : Int).toNat)) (wrap64 (x5_2 + 1))) else (none)) else (none)) else (none)) = some (r1, r2) := by rw [if_pos rfl] at H; exact H
                      clear H
                      have H := H1
                      clear H1
                      have c33b0 := eq_true (of_decide_eq_true (by first | (with_reducible assumption) | assumption) : 0 ≤ x5_2)
                      by_cases c34 : x5_2 ≤ (wrap64 (x5_2 + 1))
                      · rw [if_pos c34] at H
                        have c34b0 := eq_true c34
                        have c34b1 : decide (x5_2 ≤ (wrap64 (x5_2 + 1))) = true := decide_eq_true c34
                        by_cases c35 : (wrap64 (x5_2 + 1)) ≤ (a0.size : Int)
                        · rw [if_pos c35] at H
                          have c35b0 := eq_true c35
                          have c35b1 : decide ((wrap64 (x5_2 + 1)) ≤ (a0.size : Int)) = true := decide_eq_true c35
                          by_cases c36 : x4_2.size + (a0.extract (x5_2 : Int).toNat ((wrap64 (x5_2 + 1)) : Int).toNat).size ≤ 9223372036854775807
                          · rw [if_pos c36] at H
                            have c36b0 := eq_true c36
                            have c36b1 : decide (x4_2.size + (a0.extract (x5_2 : Int).toNat ((wrap64 (x5_2 + 1)) : Int).toNat).size ≤ 9223372036854775807) = true := decide_eq_true c36
                            try have c36b2 : (9223372036854775807 < x4_2.size + (a0.extract (x5_2 : Int).toNat ((wrap64 (x5_2 + 1)) : Int).toNat).size) = False := eq_false (Nat.not_lt.2 c36)
                            have H' := Aside0.mk H
                            clear H
                            have p9 : 0 ≤ (x5_2 : Int) := dt_
                            have q9 : x5_2 < (a0.size : Int) := dt_
                            have hx9 := bt_at a0 x5_2
                            replace p9 := eq_true p9
                            replace q9 := eq_true q9
                            have p12 : 0 ≤ (x5_2 : Int) := dt_
                            have q12 : x5_2 < (a0.size : Int) := dt_
                            have hx12 := bt_at a0 x5_2
                            replace p12 := eq_true p12
                            replace q12 := eq_true q12
                            have p30 : 0 ≤ (x5_2 : Int) := dt_
                            have q30 : x5_2 < (a0.size : Int) := dt_
                            have hx30 := bt_at a0 x5_2
                            replace p30 := eq_true p30
                            replace q30 := eq_true q30
                            go_wp2_with (first | ((with_reducible refine gate_callee (f := 55) rfl ?_); refine goesL_ (some 64) rfl rfl Tryd.func55 (by kernel_rfl) rfl #[.int .i64 (wrap64 (bt a0 x5_2)), .int .i64 32, .int .i64 126] rfl ga_ ?_; (with_reducible refine (constableref01_In.calls (wrap64 (bt a0 x5_2)) 32 126 true _ A31.out).mono ?_); rintro e w' ⟨rfl, ⟨nd, rfl⟩⟩; refine ⟨_, rfl, ?_⟩))
                            go_roundg k2
                            case measure => have := HJ1.out; have := HK2.out; omega
                            case rel => exact ⟨(x4_2 ++ (a0.extract (x5_2 : Int).toNat ((wrap64 (x5_2 + 1)) : Int).toNat)), (wrap64 (x5_2 + 1)), ra_, ra_, H', ⟨by have := HJ1.out; have := HK2.out; omega⟩, dz_⟩
                          · rw [if_neg c36] at H
                            exact absurd H (by simp)
                        · rw [if_neg c35] at H
                          exact absurd H (by simp)
                      · rw [if_neg c34] at H
                        exact absurd H (by simp)
                    · replace c32 := Bool.eq_false_iff.mpr c32
                      subst c32
                      have H1 : (some ((⟨#[]⟩ : ByteArray), false)) = some (r1, r2) := by rw [if_neg (show ¬ (false = true) by decide)] at H; exact H
                      clear H
                      have H := H1
                      clear H1
                      simp only [Option.some.injEq, Prod.mk.injEq] at H
                      obtain ⟨rfl, rfl⟩ := H
                      have p9 : 0 ≤ (x5_2 : Int) := dt_
                      have q9 : x5_2 < (a0.size : Int) := dt_
                      have hx9 := bt_at a0 x5_2
                      replace p9 := eq_true p9
                      replace q9 := eq_true q9
                      have p12 : 0 ≤ (x5_2 : Int) := dt_
                      have q12 : x5_2 < (a0.size : Int) := dt_
                      have hx12 := bt_at a0 x5_2
                      replace p12 := eq_true p12
                      replace q12 := eq_true q12
                      have p30 : 0 ≤ (x5_2 : Int) := dt_
                      have q30 : x5_2 < (a0.size : Int) := dt_
                      have hx30 := bt_at a0 x5_2
                      replace p30 := eq_true p30
                      replace q30 := eq_true q30
                      go_wp2_with (first | ((with_reducible refine gate_callee (f := 55) rfl ?_); refine goesL_ (some 64) rfl rfl Tryd.func55 (by kernel_rfl) rfl #[.int .i64 (wrap64 (bt a0 x5_2)), .int .i64 32, .int .i64 126] rfl ga_ ?_; (with_reducible refine (constableref01_In.calls (wrap64 (bt a0 x5_2)) 32 126 false _ A31.out).mono ?_); rintro e w' ⟨rfl, ⟨nd, rfl⟩⟩; refine ⟨_, rfl, ?_⟩))
                      go_ret2
                      exact rz_
              · rw [if_neg c8] at H
                exact absurd H (by simp)
            · rw [if_neg c7] at H
              have c7b0 : decide (x5_2 < (a0.size : Int)) = false := decide_eq_false c7
              clear c7
              simp only [Option.some.injEq, Prod.mk.injEq] at H
              obtain ⟨rfl, rfl⟩ := H
              go_wp2
              go_ret2
              exact rz_
end Go.Proofs.YtaopajmpifenoaaDoor.P
end
section
namespace Go.Proofs.YtaopajmpifenoaaDoor.P
open Go.RowKit Go.Proofs.YtaopajmpifenoaaDoorW.PrintWords Go.Proofs.YtaopajmpifenoaaDoorW.PrintLast Go.Proofs.YtaopajmpifenoaaDoorW.PrintMore
attribute [local go_sem] max2_int min2_int max_two min_two max_three min_three max_four min_four
set_option linter.unusedVariables false
set_option linter.unusedSimpArgs false
def constableref01_ParseValue.j0 : Nat → ByteArray → Int → Int → ByteArray → Option (Int × Int × ByteArray × Bool)
  | 0, _, _, _, _ => none
  | k + 1, x0, x357000, x357001, x357002 => (constableref01_Value.f k x357000 x357001 x357002).bind fun t361 => (if t361 = true then ((constableref01_ValueText.f k x357000 x357001 x357002).bind fun t362 => (if t362.toList = x0.toList then (some (x357000, x357001, x357002, true)) else (some (0, 0, (⟨#[]⟩ : ByteArray), false)))) else (some (0, 0, (⟨#[]⟩ : ByteArray), false)))
def constableref01_ParseValue.f (k : Nat) (a0 : ByteArray) : Option (Int × Int × ByteArray × Bool) := (constableref01_Number.f k a0).bind fun bt357 => (if bt357.2 = true then (constableref01_ParseValue.j0 k a0 1 bt357.1 (⟨#[]⟩ : ByteArray)) else ((constableref01_Quoted.f k a0).bind fun bt359 => (if bt359.2 = true then (constableref01_ParseValue.j0 k a0 3 0 bt359.1) else (constableref01_ParseValue.j0 k a0 2 0 a0))))
theorem constableref01_ParseValue.mono_l : ∀ k, (∀ y0 y1 y2 y3, LeO (constableref01_ParseValue.j0 k y0 y1 y2 y3) (constableref01_ParseValue.j0 (k + 1) y0 y1 y2 y3))
  | 0 => fun _ _ _ _ r h => by simp [constableref01_ParseValue.j0] at h
  | k + 1 => by
    have ih0 := constableref01_ParseValue.mono_l k
    · intro y0 y1 y2 y3
      unfold constableref01_ParseValue.j0
      repeat' first
      | (with_reducible exact ih0 _ _ _ _)
      | (with_reducible exact constableref01_Number.mono _ _)
      | (with_reducible exact constableref01_Quoted.mono _ _)
      | (with_reducible exact constableref01_Value.mono _ _ _ _)
      | (with_reducible exact constableref01_ValueText.mono _ _ _ _)
      | (with_reducible exact LeO.refl _)
      | (with_reducible exact LeO.none _)
      | (with_reducible refine LeO.ite ?_ ?_)
      | (with_reducible refine LeO.bind ?_ (fun _ => ?_))
      | exact ih0 _ _ _ _
      | exact constableref01_Number.mono _ _
      | exact constableref01_Quoted.mono _ _
      | exact constableref01_Value.mono _ _ _ _
      | exact constableref01_ValueText.mono _ _ _ _
      | exact LeO.none _
      | refine LeO.ite ?_ ?_
      | refine LeO.bind ?_ (fun _ => ?_)
theorem constableref01_ParseValue.mono : ∀ a0 k, LeO (constableref01_ParseValue.f k a0) (constableref01_ParseValue.f (k + 1) a0) := by
  intro a0 k
  have ih0 := constableref01_ParseValue.mono_l k
  unfold constableref01_ParseValue.f
  repeat' first
      | (with_reducible exact ih0 _ _ _ _)
      | (with_reducible exact constableref01_Number.mono _ _)
      | (with_reducible exact constableref01_Quoted.mono _ _)
      | (with_reducible exact constableref01_Value.mono _ _ _ _)
      | (with_reducible exact constableref01_ValueText.mono _ _ _ _)
      | (with_reducible exact LeO.refl _)
      | (with_reducible exact LeO.none _)
      | (with_reducible refine LeO.ite ?_ ?_)
      | (with_reducible refine LeO.bind ?_ (fun _ => ?_))
      | exact ih0 _ _ _ _
      | exact constableref01_Number.mono _ _
      | exact constableref01_Quoted.mono _ _
      | exact constableref01_Value.mono _ _ _ _
      | exact constableref01_ValueText.mono _ _ _ _
      | exact LeO.none _
      | refine LeO.ite ?_ ?_
      | refine LeO.bind ?_ (fun _ => ?_)
set_option maxHeartbeats 8000000 in
set_option maxRecDepth 100000 in
theorem constableref01_ParseValue.calls (k : Nat) (a0 : ByteArray) (r1 : Int) (r2 : Int) (r3 : ByteArray) (r4 : Bool) (w : World) (h : constableref01_ParseValue.f k a0 = some (r1, r2, r3, r4)) :
    Calls Tryd.prog 28 #[.string a0] w fun e w' => e = .returned (.tuple #[.agg #[.int .i64 r1, .int .i64 r2, .string r3], .bool r4]) ∧ Below w.heap.size w w' := by
  have hu44 := Tryd.underlying44
  have HB := Aside0.mk (Below.refl w.heap.size w)
  have H : ((constableref01_Number.f k a0).bind fun bt357 => (if bt357.2 = true then (constableref01_ParseValue.j0 k a0 1 bt357.1 (⟨#[]⟩ : ByteArray)) else ((constableref01_Quoted.f k a0).bind fun bt359 => (if bt359.2 = true then (constableref01_ParseValue.j0 k a0 3 0 bt359.1) else (constableref01_ParseValue.j0 k a0 2 0 a0))))) = some (r1, r2, r3, r4) := h
  clear h
  replace H := Option.bind_eq_some_iff.mp H
  obtain ⟨⟨t357, t358⟩, A20, H⟩ := H
  replace H : (if t358 = true then (constableref01_ParseValue.j0 k a0 1 t357 (⟨#[]⟩ : ByteArray)) else ((constableref01_Quoted.f k a0).bind fun bt359 => (if bt359.2 = true then (constableref01_ParseValue.j0 k a0 3 0 bt359.1) else (constableref01_ParseValue.j0 k a0 2 0 a0)))) = some (r1, r2, r3, r4) := H
  have A2 := Aside0.mk A20
  clear A20
  have HC3 := Aside0.mk H
  clear H
  go_enter Tryd.func28, Tryd.ntmps28
  go_upto_if 15 with (first | ((with_reducible refine gate_dst (N := 2) rfl ?_); refine box_event ?hg (N := 2) ?hd (cs := #[.int .i64 0, .int .i64 0, .string (⟨#[]⟩ : ByteArray)]) (t := 44) ?hr ?_; (case hd => rfl); (case hg => rfl); (case hr => first | (go_simp; done) | (go_simp; rfl)); intro gb355 hg w4 hbox hb; have n0_ := bs_ (be_ HB) hb; have n1_ := Aside0.mk (hbox); have n2_ := gs_ hg (be_ HB); have n3_ := gs_ hg (be_ HB); clear HB; have HB := n0_; have BK355 := n1_; have GW355 := n2_; have GE355 := n3_; clear n0_ n1_ n2_ n3_; clear hb hbox hg) | ((with_reducible refine gate_dst (N := 4) rfl ?_); refine box_event ?hg (N := 4) ?hd (cs := #[.int .i64 0, .int .i64 0, .string (⟨#[]⟩ : ByteArray)]) (t := 44) ?hr ?_; (case hd => rfl); (case hg => rfl); (case hr => first | (go_simp; done) | (go_simp; rfl)); intro gb356 hg w5 hbox hb; have n0_ := bb_ (bu_ BK355) hb; have n1_ := bs_ (be_ HB) hb; have n2_ := Aside0.mk (hbox); have n3_ := gs_ hg (be_ HB); have n4_ := gs_ hg (be_ HB); have n5_ := nl_ hg (bu_ BK355); have n6_ := ng_ hg (bu_ BK355); clear BK355; clear HB; have BK355 := n0_; have HB := n1_; have BK356 := n2_; have GW356 := n3_; have GE356 := n4_; have NB355_356 := n5_; have NB356_355 := n6_; clear n0_ n1_ n2_ n3_ n4_ n5_ n6_; clear hb hbox hg; have hnb6 := NB356_355.out; have hnc6 := NB355_356.out; have hcz7_0 : w5.cell? ⟨gb356, 0, none⟩ = some (.int .i64 0) := (blk_cell BK356.out 0).trans rfl; have hcz7_1 : w5.cell? ⟨gb356, 1, none⟩ = some (.int .i64 0) := (blk_cell BK356.out 1).trans rfl; have hcz7_2 : w5.cell? ⟨gb356, 2, none⟩ = some (.string (⟨#[]⟩ : ByteArray)) := (blk_cell BK356.out 2).trans rfl; have hfz7_0 := blk_frozen BK356.out 0; have hfz7_1 := blk_frozen BK356.out 1; have hfz7_2 := blk_frozen BK356.out 2) | ((with_reducible refine gate_callee (f := 53) rfl ?_); refine goesL_ (some 12) rfl rfl Tryd.func53 (by kernel_rfl) rfl #[.string a0] rfl ga_ ?_; (with_reducible refine (constableref01_Number.calls k a0 t357 t358 _ A2.out).mono ?_); rintro e w' ⟨rfl, ⟨nd, rfl⟩⟩; refine ⟨_, rfl, ?_⟩))
  (try simp only [Act.put, List.setIfInBounds_toArray, List.set_cons_zero, List.set_cons_succ])
  go_cut [] (fun wc => ∃ (kq : Nat) (x357000_2 : Int) (x357001_2 : Int) (x357002_2 : ByteArray), Aside0 (constableref01_ParseValue.j0 kq a0 x357000_2 x357001_2 x357002_2 = some (r1, r2, r3, r4)) ∧ Aside0 (kq ≤ k) ∧ Aside0 (wc.heap[gb355]? = some (.cells #[.int .i64 0, .int .i64 0, .string (⟨#[]⟩ : ByteArray)] 44 (0, 0))) ∧ Aside0 (wc.heap[gb356]? = some (.cells #[.int .i64 x357000_2, .int .i64 x357001_2, .string x357002_2] 44 (0, 0))) ∧ Aside0 (Below w.heap.size w wc))
  case first =>
    have H := HC3.out
    clear HC3
    by_cases c8 : t358 = true
    · subst c8
      have H1 : (constableref01_ParseValue.j0 k a0 1 t357 (⟨#[]⟩ : ByteArray)) = some (r1, r2, r3, r4) := by rw [if_pos rfl] at H; exact H
      clear H
      have H := H1
      clear H1
      have H' := Aside0.mk H
      clear H
      have hnb9 := NB356_355.out
      have hnc9 := NB355_356.out
      have hcz10_0 : w5.cell? ⟨gb356, 0, none⟩ = some (.int .i64 0) := (blk_cell BK356.out 0).trans rfl
      have hcz10_1 : w5.cell? ⟨gb356, 1, none⟩ = some (.int .i64 0) := (blk_cell BK356.out 1).trans rfl
      have hcz10_2 : w5.cell? ⟨gb356, 2, none⟩ = some (.string (⟨#[]⟩ : ByteArray)) := (blk_cell BK356.out 2).trans rfl
      have hfz10_0 := blk_frozen BK356.out 0
      have hfz10_1 := blk_frozen BK356.out 1
      have hfz10_2 := blk_frozen BK356.out 2
      go_wp2
      go_meet
      case rel => exact ⟨_, (1), (t357), ((⟨#[]⟩ : ByteArray)), H', ⟨by first | omega | exact Nat.le_refl _⟩, ⟨by (with_reducible repeat (first | refine blk_drewN ?_ _ | refine blk_drew ?_ | refine blk_alloc ?_ _)); refine blk_far ?_ NB355_356.out _; (with_reducible repeat (first | refine blk_drewN ?_ _ | refine blk_drew ?_ | refine blk_alloc ?_ _)); refine blk_far ?_ NB355_356.out _; (with_reducible repeat (first | refine blk_drewN ?_ _ | refine blk_drew ?_ | refine blk_alloc ?_ _)); refine blk_far ?_ NB355_356.out _; (with_reducible repeat (first | refine blk_drewN ?_ _ | refine blk_drew ?_ | refine blk_alloc ?_ _)); refine blk_far ?_ NB355_356.out _; (with_reducible repeat (first | refine blk_drewN ?_ _ | refine blk_drew ?_ | refine blk_alloc ?_ _)); refine blk_far ?_ NB355_356.out _; (with_reducible repeat (first | refine blk_drewN ?_ _ | refine blk_drew ?_ | refine blk_alloc ?_ _)); refine blk_far ?_ NB355_356.out _; (with_reducible repeat (first | refine blk_drewN ?_ _ | refine blk_drew ?_ | refine blk_alloc ?_ _)); exact BK355.out⟩, ⟨by (with_reducible repeat (first | refine blk_drewN ?_ _ | refine blk_drew ?_ | refine blk_alloc ?_ _)); refine blk_put (cs := #[.int .i64 1, .int .i64 t357, .string (⟨#[]⟩ : ByteArray)]) ?_ 2 _ rfl; (with_reducible repeat (first | refine blk_drewN ?_ _ | refine blk_drew ?_ | refine blk_alloc ?_ _)); refine blk_put (cs := #[.int .i64 1, .int .i64 0, .string (⟨#[]⟩ : ByteArray)]) ?_ 1 _ rfl; (with_reducible repeat (first | refine blk_drewN ?_ _ | refine blk_drew ?_ | refine blk_alloc ?_ _)); refine blk_put (cs := #[.int .i64 0, .int .i64 0, .string (⟨#[]⟩ : ByteArray)]) ?_ 0 _ rfl; (with_reducible repeat (first | refine blk_drewN ?_ _ | refine blk_drew ?_ | refine blk_alloc ?_ _)); refine blk_put (cs := #[.int .i64 0, .int .i64 0, .string (⟨#[]⟩ : ByteArray)]) ?_ 2 _ rfl; (with_reducible repeat (first | refine blk_drewN ?_ _ | refine blk_drew ?_ | refine blk_alloc ?_ _)); refine blk_put (cs := #[.int .i64 0, .int .i64 0, .string (⟨#[]⟩ : ByteArray)]) ?_ 1 _ rfl; (with_reducible repeat (first | refine blk_drewN ?_ _ | refine blk_drew ?_ | refine blk_alloc ?_ _)); refine blk_put (cs := #[.int .i64 0, .int .i64 0, .string (⟨#[]⟩ : ByteArray)]) ?_ 0 _ rfl; (with_reducible repeat (first | refine blk_drewN ?_ _ | refine blk_drew ?_ | refine blk_alloc ?_ _)); exact BK356.out⟩, ⟨by repeat (first | (with_reducible first | exact HB.out | apply below_alloc | apply pw_below_drewN | apply below_drew1 | refine below_set ?_ GE355.out | refine below_set ?_ GE356.out) | exact HB.out)⟩⟩
    · replace c8 := Bool.eq_false_iff.mpr c8
      subst c8
      have H1 : ((constableref01_Quoted.f k a0).bind fun bt359 => (if bt359.2 = true then (constableref01_ParseValue.j0 k a0 3 0 bt359.1) else (constableref01_ParseValue.j0 k a0 2 0 a0))) = some (r1, r2, r3, r4) := by rw [if_neg (show ¬ (false = true) by decide)] at H; exact H
      clear H
      have H := H1
      clear H1
      replace H := Option.bind_eq_some_iff.mp H
      obtain ⟨⟨t359, t360⟩, A110, H⟩ := H
      replace H : (if t360 = true then (constableref01_ParseValue.j0 k a0 3 0 t359) else (constableref01_ParseValue.j0 k a0 2 0 a0)) = some (r1, r2, r3, r4) := H
      have A11 := Aside0.mk A110
      clear A110
      by_cases c12 : t360 = true
      · subst c12
        have H1 : (constableref01_ParseValue.j0 k a0 3 0 t359) = some (r1, r2, r3, r4) := by rw [if_pos rfl] at H; exact H
        clear H
        have H := H1
        clear H1
        have H' := Aside0.mk H
        clear H
        go_wp2_with (first | ((with_reducible refine gate_callee (f := 54) rfl ?_); refine goesL_ (some 20) rfl rfl Tryd.func54 (by kernel_rfl) rfl #[.string a0] rfl ga_ ?_; (with_reducible refine (constableref01_Quoted.calls k a0 t359 true _ A11.out).mono ?_); rintro e w' ⟨rfl, ⟨nd, rfl⟩⟩; refine ⟨_, rfl, ?_⟩; have hnb13 := NB356_355.out; have hnc13 := NB355_356.out; have hcz14_0 : w5.cell? ⟨gb356, 0, none⟩ = some (.int .i64 0) := (blk_cell BK356.out 0).trans rfl; have hcz14_1 : w5.cell? ⟨gb356, 1, none⟩ = some (.int .i64 0) := (blk_cell BK356.out 1).trans rfl; have hcz14_2 : w5.cell? ⟨gb356, 2, none⟩ = some (.string (⟨#[]⟩ : ByteArray)) := (blk_cell BK356.out 2).trans rfl; have hfz14_0 := blk_frozen BK356.out 0; have hfz14_1 := blk_frozen BK356.out 1; have hfz14_2 := blk_frozen BK356.out 2))
        go_meet
        case rel => exact ⟨_, (3), (0), (t359), H', ⟨by first | omega | exact Nat.le_refl _⟩, ⟨by (with_reducible repeat (first | refine blk_drewN ?_ _ | refine blk_drew ?_ | refine blk_alloc ?_ _)); refine blk_far ?_ NB355_356.out _; (with_reducible repeat (first | refine blk_drewN ?_ _ | refine blk_drew ?_ | refine blk_alloc ?_ _)); refine blk_far ?_ NB355_356.out _; (with_reducible repeat (first | refine blk_drewN ?_ _ | refine blk_drew ?_ | refine blk_alloc ?_ _)); refine blk_far ?_ NB355_356.out _; (with_reducible repeat (first | refine blk_drewN ?_ _ | refine blk_drew ?_ | refine blk_alloc ?_ _)); refine blk_far ?_ NB355_356.out _; (with_reducible repeat (first | refine blk_drewN ?_ _ | refine blk_drew ?_ | refine blk_alloc ?_ _)); refine blk_far ?_ NB355_356.out _; (with_reducible repeat (first | refine blk_drewN ?_ _ | refine blk_drew ?_ | refine blk_alloc ?_ _)); refine blk_far ?_ NB355_356.out _; (with_reducible repeat (first | refine blk_drewN ?_ _ | refine blk_drew ?_ | refine blk_alloc ?_ _)); exact BK355.out⟩, ⟨by (with_reducible repeat (first | refine blk_drewN ?_ _ | refine blk_drew ?_ | refine blk_alloc ?_ _)); refine blk_put (cs := #[.int .i64 3, .int .i64 0, .string (⟨#[]⟩ : ByteArray)]) ?_ 2 _ rfl; (with_reducible repeat (first | refine blk_drewN ?_ _ | refine blk_drew ?_ | refine blk_alloc ?_ _)); refine blk_put (cs := #[.int .i64 3, .int .i64 0, .string (⟨#[]⟩ : ByteArray)]) ?_ 1 _ rfl; (with_reducible repeat (first | refine blk_drewN ?_ _ | refine blk_drew ?_ | refine blk_alloc ?_ _)); refine blk_put (cs := #[.int .i64 0, .int .i64 0, .string (⟨#[]⟩ : ByteArray)]) ?_ 0 _ rfl; (with_reducible repeat (first | refine blk_drewN ?_ _ | refine blk_drew ?_ | refine blk_alloc ?_ _)); refine blk_put (cs := #[.int .i64 0, .int .i64 0, .string (⟨#[]⟩ : ByteArray)]) ?_ 2 _ rfl; (with_reducible repeat (first | refine blk_drewN ?_ _ | refine blk_drew ?_ | refine blk_alloc ?_ _)); refine blk_put (cs := #[.int .i64 0, .int .i64 0, .string (⟨#[]⟩ : ByteArray)]) ?_ 1 _ rfl; (with_reducible repeat (first | refine blk_drewN ?_ _ | refine blk_drew ?_ | refine blk_alloc ?_ _)); refine blk_put (cs := #[.int .i64 0, .int .i64 0, .string (⟨#[]⟩ : ByteArray)]) ?_ 0 _ rfl; (with_reducible repeat (first | refine blk_drewN ?_ _ | refine blk_drew ?_ | refine blk_alloc ?_ _)); exact BK356.out⟩, ⟨by repeat (first | (with_reducible first | exact HB.out | apply below_alloc | apply pw_below_drewN | apply below_drew1 | refine below_set ?_ GE355.out | refine below_set ?_ GE356.out) | exact HB.out)⟩⟩
      · replace c12 := Bool.eq_false_iff.mpr c12
        subst c12
        have H1 : (constableref01_ParseValue.j0 k a0 2 0 a0) = some (r1, r2, r3, r4) := by rw [if_neg (show ¬ (false = true) by decide)] at H; exact H
        clear H
        have H := H1
        clear H1
        have H' := Aside0.mk H
        clear H
        go_wp2_with (first | ((with_reducible refine gate_callee (f := 54) rfl ?_); refine goesL_ (some 20) rfl rfl Tryd.func54 (by kernel_rfl) rfl #[.string a0] rfl ga_ ?_; (with_reducible refine (constableref01_Quoted.calls k a0 t359 false _ A11.out).mono ?_); rintro e w' ⟨rfl, ⟨nd, rfl⟩⟩; refine ⟨_, rfl, ?_⟩; have hnb15 := NB356_355.out; have hnc15 := NB355_356.out; have hcz16_0 : w5.cell? ⟨gb356, 0, none⟩ = some (.int .i64 0) := (blk_cell BK356.out 0).trans rfl; have hcz16_1 : w5.cell? ⟨gb356, 1, none⟩ = some (.int .i64 0) := (blk_cell BK356.out 1).trans rfl; have hcz16_2 : w5.cell? ⟨gb356, 2, none⟩ = some (.string (⟨#[]⟩ : ByteArray)) := (blk_cell BK356.out 2).trans rfl; have hfz16_0 := blk_frozen BK356.out 0; have hfz16_1 := blk_frozen BK356.out 1; have hfz16_2 := blk_frozen BK356.out 2))
        go_meet
        case rel => exact ⟨_, (2), (0), (a0), H', ⟨by first | omega | exact Nat.le_refl _⟩, ⟨by (with_reducible repeat (first | refine blk_drewN ?_ _ | refine blk_drew ?_ | refine blk_alloc ?_ _)); refine blk_far ?_ NB355_356.out _; (with_reducible repeat (first | refine blk_drewN ?_ _ | refine blk_drew ?_ | refine blk_alloc ?_ _)); refine blk_far ?_ NB355_356.out _; (with_reducible repeat (first | refine blk_drewN ?_ _ | refine blk_drew ?_ | refine blk_alloc ?_ _)); refine blk_far ?_ NB355_356.out _; (with_reducible repeat (first | refine blk_drewN ?_ _ | refine blk_drew ?_ | refine blk_alloc ?_ _)); refine blk_far ?_ NB355_356.out _; (with_reducible repeat (first | refine blk_drewN ?_ _ | refine blk_drew ?_ | refine blk_alloc ?_ _)); refine blk_far ?_ NB355_356.out _; (with_reducible repeat (first | refine blk_drewN ?_ _ | refine blk_drew ?_ | refine blk_alloc ?_ _)); refine blk_far ?_ NB355_356.out _; (with_reducible repeat (first | refine blk_drewN ?_ _ | refine blk_drew ?_ | refine blk_alloc ?_ _)); exact BK355.out⟩, ⟨by (with_reducible repeat (first | refine blk_drewN ?_ _ | refine blk_drew ?_ | refine blk_alloc ?_ _)); refine blk_put (cs := #[.int .i64 2, .int .i64 0, .string (⟨#[]⟩ : ByteArray)]) ?_ 2 _ rfl; (with_reducible repeat (first | refine blk_drewN ?_ _ | refine blk_drew ?_ | refine blk_alloc ?_ _)); refine blk_put (cs := #[.int .i64 2, .int .i64 0, .string (⟨#[]⟩ : ByteArray)]) ?_ 1 _ rfl; (with_reducible repeat (first | refine blk_drewN ?_ _ | refine blk_drew ?_ | refine blk_alloc ?_ _)); refine blk_put (cs := #[.int .i64 0, .int .i64 0, .string (⟨#[]⟩ : ByteArray)]) ?_ 0 _ rfl; (with_reducible repeat (first | refine blk_drewN ?_ _ | refine blk_drew ?_ | refine blk_alloc ?_ _)); refine blk_put (cs := #[.int .i64 0, .int .i64 0, .string (⟨#[]⟩ : ByteArray)]) ?_ 2 _ rfl; (with_reducible repeat (first | refine blk_drewN ?_ _ | refine blk_drew ?_ | refine blk_alloc ?_ _)); refine blk_put (cs := #[.int .i64 0, .int .i64 0, .string (⟨#[]⟩ : ByteArray)]) ?_ 1 _ rfl; (with_reducible repeat (first | refine blk_drewN ?_ _ | refine blk_drew ?_ | refine blk_alloc ?_ _)); refine blk_put (cs := #[.int .i64 0, .int .i64 0, .string (⟨#[]⟩ : ByteArray)]) ?_ 0 _ rfl; (with_reducible repeat (first | refine blk_drewN ?_ _ | refine blk_drew ?_ | refine blk_alloc ?_ _)); exact BK356.out⟩, ⟨by repeat (first | (with_reducible first | exact HB.out | apply below_alloc | apply pw_below_drewN | apply below_drew1 | refine below_set ?_ GE355.out | refine below_set ?_ GE356.out) | exact HB.out)⟩⟩
  case rest =>
    clear HC3
    try clear c1
    try clear c2
    try clear p2
    try clear c5
    try clear c6
    try clear c8
    try clear c9
    try clear c12
    try clear c13
    try clear c15
    try clear hcz10_0
    try clear hcz10_1
    try clear hcz10_2
    try clear hcz14_0
    try clear hcz14_1
    try clear hcz14_2
    try clear hcz16_0
    try clear hcz16_1
    try clear hcz16_2
    try clear hcz7_0
    try clear hcz7_1
    try clear hcz7_2
    try clear hfz10_0
    try clear hfz10_1
    try clear hfz10_2
    try clear hfz14_0
    try clear hfz14_1
    try clear hfz14_2
    try clear hfz16_0
    try clear hfz16_1
    try clear hfz16_2
    try clear hfz7_0
    try clear hfz7_1
    try clear hfz7_2
    obtain ⟨kq, x357000_2, x357001_2, x357002_2, HA, HJ2, BK355, BK356, HB⟩ := hcut
    cases kq with
    | zero => exact absurd HA.out (by simp [constableref01_ParseValue.j0])
    | succ kj2 =>
      have H := HA.out
      clear HA
      simp only [constableref01_ParseValue.j0] at H
      replace H := Option.bind_eq_some_iff.mp H
      obtain ⟨t361, A170, H⟩ := H
      replace H : (if t361 = true then ((constableref01_ValueText.f kj2 x357000_2 x357001_2 x357002_2).bind fun t362 => (if t362.toList = a0.toList then (some (x357000_2, x357001_2, x357002_2, true)) else (some (0, 0, (⟨#[]⟩ : ByteArray), false)))) else (some (0, 0, (⟨#[]⟩ : ByteArray), false))) = some (r1, r2, r3, r4) := H
      have A17 := Aside0.mk A170
      clear A170
      by_cases c18 : t361 = true
      · subst c18
        have H1 : ((constableref01_ValueText.f kj2 x357000_2 x357001_2 x357002_2).bind fun t362 => (if t362.toList = a0.toList then (some (x357000_2, x357001_2, x357002_2, true)) else (some (0, 0, (⟨#[]⟩ : ByteArray), false)))) = some (r1, r2, r3, r4) := by rw [if_pos rfl] at H; exact H
        clear H
        have H := H1
        clear H1
        replace H := Option.bind_eq_some_iff.mp H
        obtain ⟨t362, A190, H⟩ := H
        replace H : (if t362.toList = a0.toList then (some (x357000_2, x357001_2, x357002_2, true)) else (some (0, 0, (⟨#[]⟩ : ByteArray), false))) = some (r1, r2, r3, r4) := H
        have A19 := Aside0.mk A190
        clear A190
        by_cases c20 : t362.toList = a0.toList
        · rw [if_pos c20] at H
          obtain ⟨c20b0, c20b1⟩ := eqB_ c20
          clear c20
          simp only [Option.some.injEq, Prod.mk.injEq] at H
          obtain ⟨rfl, rfl, rfl, rfl⟩ := H
          have hnb21 := NB356_355.out
          have hnc21 := NB355_356.out
          have hcz22_0 : wc.cell? ⟨gb356, 0, none⟩ = some (.int .i64 x357000_2) := (blk_cell BK356.out 0).trans rfl
          have hcz22_1 : wc.cell? ⟨gb356, 1, none⟩ = some (.int .i64 x357001_2) := (blk_cell BK356.out 1).trans rfl
          have hcz22_2 : wc.cell? ⟨gb356, 2, none⟩ = some (.string x357002_2) := (blk_cell BK356.out 2).trans rfl
          have hfz22_0 := blk_frozen BK356.out 0
          have hfz22_1 := blk_frozen BK356.out 1
          have hfz22_2 := blk_frozen BK356.out 2
          go_wp2_with (first | ((with_reducible refine gate_callee (f := 31) rfl ?_); refine goesL_ (some 29) rfl rfl Tryd.func31 (by kernel_rfl) rfl #[.agg #[.int .i64 x357000_2, .int .i64 x357001_2, .string x357002_2]] rfl ga_ ?_; (with_reducible refine (constableref01_Value.calls kj2 x357000_2 x357001_2 x357002_2 true _ A17.out).mono ?_); rintro e w23 ⟨rfl, hb⟩; refine ⟨_, rfl, ?_⟩; have n0_ := bb_ (bu_ BK355) hb; have n1_ := bb_ (bu_ BK356) hb; have n2_ := bs_ (be_ HB) hb; clear BK355; clear BK356; clear HB; have BK355 := n0_; have BK356 := n1_; have HB := n2_; clear n0_ n1_ n2_; (try clear hb); (try clear hb2); (try clear hk); (try clear hi); have hcz24_0 : w23.cell? ⟨gb356, 0, none⟩ = some (.int .i64 x357000_2) := (blk_cell BK356.out 0).trans rfl; have hcz24_1 : w23.cell? ⟨gb356, 1, none⟩ = some (.int .i64 x357001_2) := (blk_cell BK356.out 1).trans rfl; have hcz24_2 : w23.cell? ⟨gb356, 2, none⟩ = some (.string x357002_2) := (blk_cell BK356.out 2).trans rfl; have hfz24_0 := blk_frozen BK356.out 0; have hfz24_1 := blk_frozen BK356.out 1; have hfz24_2 := blk_frozen BK356.out 2) | (go_at_call 34; (with_reducible refine (constableref01_ValueText.calls kj2 x357000_2 x357001_2 x357002_2 t362 _ A19.out).mono ?_); rintro e w25 ⟨rfl, hb⟩; have n0_ := bb_ (bu_ BK355) hb; have n1_ := bb_ (bu_ BK356) hb; have n2_ := bs_ (be_ HB) hb; clear BK355; clear BK356; clear HB; have BK355 := n0_; have BK356 := n1_; have HB := n2_; clear n0_ n1_ n2_; (try clear hcz24_0 hcz24_1 hcz24_2 hfz24_0 hfz24_1 hfz24_2); (try clear hb); (try clear hb2); (try clear hk); (try clear hi); have hcz26_0 : w25.cell? ⟨gb356, 0, none⟩ = some (.int .i64 x357000_2) := (blk_cell BK356.out 0).trans rfl; have hcz26_1 : w25.cell? ⟨gb356, 1, none⟩ = some (.int .i64 x357001_2) := (blk_cell BK356.out 1).trans rfl; have hcz26_2 : w25.cell? ⟨gb356, 2, none⟩ = some (.string x357002_2) := (blk_cell BK356.out 2).trans rfl; have hfz26_0 := blk_frozen BK356.out 0; have hfz26_1 := blk_frozen BK356.out 1; have hfz26_2 := blk_frozen BK356.out 2; have hcz27_0 : w25.cell? ⟨gb355, 0, none⟩ = some (.int .i64 0) := (blk_cell BK355.out 0).trans rfl; have hcz27_1 : w25.cell? ⟨gb355, 1, none⟩ = some (.int .i64 0) := (blk_cell BK355.out 1).trans rfl; have hcz27_2 : w25.cell? ⟨gb355, 2, none⟩ = some (.string (⟨#[]⟩ : ByteArray)) := (blk_cell BK355.out 2).trans rfl; have hfz27_0 := blk_frozen BK355.out 0; have hfz27_1 := blk_frozen BK355.out 1; have hfz27_2 := blk_frozen BK355.out 2))
          refine bodyPost_ret (results_ct rfl _ _ gb355 44 #[.int .i64 x357000_2, .int .i64 x357001_2, .string x357002_2] (0, 0) _ rfl (bp_ BK355) Tryd.underlying44 rfl (by kernel_rfl)) rfl ?_
          exact ⟨by first | rfl | (simp [errW_none, errW_some] <;> rfl) | (simp [*, errW_none, errW_some] <;> rfl), by repeat (first | (with_reducible first | exact HB.out | apply below_alloc | apply pw_below_drewN | apply below_drew1 | refine below_set ?_ GE355.out | refine below_set ?_ GE356.out) | exact HB.out)⟩
        · rw [if_neg c20] at H
          obtain ⟨c20b0, c20b1⟩ := neB_ c20
          simp only [Option.some.injEq, Prod.mk.injEq] at H
          obtain ⟨rfl, rfl, rfl, rfl⟩ := H
          have hnb28 := NB356_355.out
          have hnc28 := NB355_356.out
          have hcz29_0 : wc.cell? ⟨gb356, 0, none⟩ = some (.int .i64 x357000_2) := (blk_cell BK356.out 0).trans rfl
          have hcz29_1 : wc.cell? ⟨gb356, 1, none⟩ = some (.int .i64 x357001_2) := (blk_cell BK356.out 1).trans rfl
          have hcz29_2 : wc.cell? ⟨gb356, 2, none⟩ = some (.string x357002_2) := (blk_cell BK356.out 2).trans rfl
          have hfz29_0 := blk_frozen BK356.out 0
          have hfz29_1 := blk_frozen BK356.out 1
          have hfz29_2 := blk_frozen BK356.out 2
          go_wp2_with (first | ((with_reducible refine gate_callee (f := 31) rfl ?_); refine goesL_ (some 29) rfl rfl Tryd.func31 (by kernel_rfl) rfl #[.agg #[.int .i64 x357000_2, .int .i64 x357001_2, .string x357002_2]] rfl ga_ ?_; (with_reducible refine (constableref01_Value.calls kj2 x357000_2 x357001_2 x357002_2 true _ A17.out).mono ?_); rintro e w30 ⟨rfl, hb⟩; refine ⟨_, rfl, ?_⟩; have n0_ := bb_ (bu_ BK355) hb; have n1_ := bb_ (bu_ BK356) hb; have n2_ := bs_ (be_ HB) hb; clear BK355; clear BK356; clear HB; have BK355 := n0_; have BK356 := n1_; have HB := n2_; clear n0_ n1_ n2_; (try clear hb); (try clear hb2); (try clear hk); (try clear hi); have hcz31_0 : w30.cell? ⟨gb356, 0, none⟩ = some (.int .i64 x357000_2) := (blk_cell BK356.out 0).trans rfl; have hcz31_1 : w30.cell? ⟨gb356, 1, none⟩ = some (.int .i64 x357001_2) := (blk_cell BK356.out 1).trans rfl; have hcz31_2 : w30.cell? ⟨gb356, 2, none⟩ = some (.string x357002_2) := (blk_cell BK356.out 2).trans rfl; have hfz31_0 := blk_frozen BK356.out 0; have hfz31_1 := blk_frozen BK356.out 1; have hfz31_2 := blk_frozen BK356.out 2) | (go_at_call 34; (with_reducible refine (constableref01_ValueText.calls kj2 x357000_2 x357001_2 x357002_2 t362 _ A19.out).mono ?_); rintro e w32 ⟨rfl, hb⟩; have n0_ := bb_ (bu_ BK355) hb; have n1_ := bb_ (bu_ BK356) hb; have n2_ := bs_ (be_ HB) hb; clear BK355; clear BK356; clear HB; have BK355 := n0_; have BK356 := n1_; have HB := n2_; clear n0_ n1_ n2_; (try clear hcz31_0 hcz31_1 hcz31_2 hfz31_0 hfz31_1 hfz31_2); (try clear hb); (try clear hb2); (try clear hk); (try clear hi); have hcz33_0 : w32.cell? ⟨gb355, 0, none⟩ = some (.int .i64 0) := (blk_cell BK355.out 0).trans rfl; have hcz33_1 : w32.cell? ⟨gb355, 1, none⟩ = some (.int .i64 0) := (blk_cell BK355.out 1).trans rfl; have hcz33_2 : w32.cell? ⟨gb355, 2, none⟩ = some (.string (⟨#[]⟩ : ByteArray)) := (blk_cell BK355.out 2).trans rfl; have hfz33_0 := blk_frozen BK355.out 0; have hfz33_1 := blk_frozen BK355.out 1; have hfz33_2 := blk_frozen BK355.out 2))
          refine bodyPost_ret (results_ct rfl _ _ gb355 44 #[.int .i64 0, .int .i64 0, .string (⟨#[]⟩ : ByteArray)] (0, 0) _ rfl (bp_ BK355) Tryd.underlying44 rfl (by kernel_rfl)) rfl ?_
          exact ⟨by first | rfl | (simp [errW_none, errW_some] <;> rfl) | (simp [*, errW_none, errW_some] <;> rfl), by repeat (first | (with_reducible first | exact HB.out | apply below_alloc | apply pw_below_drewN | apply below_drew1 | refine below_set ?_ GE355.out | refine below_set ?_ GE356.out) | exact HB.out)⟩
      · replace c18 := Bool.eq_false_iff.mpr c18
        subst c18
        have H1 : (some (0, 0, (⟨#[]⟩ : ByteArray), false)) = some (r1, r2, r3, r4) := by rw [if_neg (show ¬ (false = true) by decide)] at H; exact H
        clear H
        have H := H1
        clear H1
        simp only [Option.some.injEq, Prod.mk.injEq] at H
        obtain ⟨rfl, rfl, rfl, rfl⟩ := H
        have hnb34 := NB356_355.out
        have hnc34 := NB355_356.out
        have hcz35_0 : wc.cell? ⟨gb356, 0, none⟩ = some (.int .i64 x357000_2) := (blk_cell BK356.out 0).trans rfl
        have hcz35_1 : wc.cell? ⟨gb356, 1, none⟩ = some (.int .i64 x357001_2) := (blk_cell BK356.out 1).trans rfl
        have hcz35_2 : wc.cell? ⟨gb356, 2, none⟩ = some (.string x357002_2) := (blk_cell BK356.out 2).trans rfl
        have hfz35_0 := blk_frozen BK356.out 0
        have hfz35_1 := blk_frozen BK356.out 1
        have hfz35_2 := blk_frozen BK356.out 2
        go_wp2_with (first | ((with_reducible refine gate_callee (f := 31) rfl ?_); refine goesL_ (some 29) rfl rfl Tryd.func31 (by kernel_rfl) rfl #[.agg #[.int .i64 x357000_2, .int .i64 x357001_2, .string x357002_2]] rfl ga_ ?_; (with_reducible refine (constableref01_Value.calls kj2 x357000_2 x357001_2 x357002_2 false _ A17.out).mono ?_); rintro e w36 ⟨rfl, hb⟩; refine ⟨_, rfl, ?_⟩; have n0_ := bb_ (bu_ BK355) hb; have n1_ := bb_ (bu_ BK356) hb; have n2_ := bs_ (be_ HB) hb; clear BK355; clear BK356; clear HB; have BK355 := n0_; have BK356 := n1_; have HB := n2_; clear n0_ n1_ n2_; (try clear hb); (try clear hb2); (try clear hk); (try clear hi); have hcz37_0 : w36.cell? ⟨gb355, 0, none⟩ = some (.int .i64 0) := (blk_cell BK355.out 0).trans rfl; have hcz37_1 : w36.cell? ⟨gb355, 1, none⟩ = some (.int .i64 0) := (blk_cell BK355.out 1).trans rfl; have hcz37_2 : w36.cell? ⟨gb355, 2, none⟩ = some (.string (⟨#[]⟩ : ByteArray)) := (blk_cell BK355.out 2).trans rfl; have hfz37_0 := blk_frozen BK355.out 0; have hfz37_1 := blk_frozen BK355.out 1; have hfz37_2 := blk_frozen BK355.out 2))
        refine bodyPost_ret (results_ct rfl _ _ gb355 44 #[.int .i64 0, .int .i64 0, .string (⟨#[]⟩ : ByteArray)] (0, 0) _ rfl (bp_ BK355) Tryd.underlying44 rfl (by kernel_rfl)) rfl ?_
        exact ⟨by first | rfl | (simp [errW_none, errW_some] <;> rfl) | (simp [*, errW_none, errW_some] <;> rfl), by repeat (first | (with_reducible first | exact HB.out | apply below_alloc | apply pw_below_drewN | apply below_drew1 | refine below_set ?_ GE355.out | refine below_set ?_ GE356.out) | exact HB.out)⟩
end Go.Proofs.YtaopajmpifenoaaDoor.P
end
section
namespace Go.Proofs.YtaopajmpifenoaaDoor.P
open Go.RowKit Go.Proofs.YtaopajmpifenoaaDoorW.PrintWords Go.Proofs.YtaopajmpifenoaaDoorW.PrintLast Go.Proofs.YtaopajmpifenoaaDoorW.PrintMore
attribute [local go_sem] max2_int min2_int max_two min_two max_three min_three max_four min_four
set_option linter.unusedVariables false
set_option linter.unusedSimpArgs false
def constablelaw01_wakes.f (k : Nat)  : Option (Bool) := (val_Text.f k 3 0 (⟨#[97, 34, 98]⟩ : ByteArray)).bind fun bt363 => ((val_Parse.f k (⟨#[45, 52, 50]⟩ : ByteArray)).bind fun bt365 => ((val_Parse.f k (⟨#[48, 48, 55]⟩ : ByteArray)).bind fun bt370 => (if bt363.2 = 0 then (if bt363.1.toList = ([34, 97, 92, 34, 98, 34] : List UInt8) then (if bt365.2.2.2 = 0 then (if bt365.2.1 = (-42) then (if bt370.2.2.2 = 7 then ((val_Compare.f k 1 2 (⟨#[]⟩ : ByteArray) 2 0 (⟨#[97]⟩ : ByteArray)).bind fun t375 => (if t375 = (-1) then ((val_Check.f k 0 0 (⟨#[]⟩ : ByteArray)).bind fun t376 => (some (t376 == 1))) else (some false))) else (some false)) else (some false)) else (some false)) else (some false)) else (some false))))
theorem constablelaw01_wakes.mono : ∀ k, LeO (constablelaw01_wakes.f k ) (constablelaw01_wakes.f (k + 1) ) := by
  intro  k
  unfold constablelaw01_wakes.f
  repeat' first
      | (with_reducible exact val_Check.mono _ _ _ _)
      | (with_reducible exact val_Compare.mono _ _ _ _ _ _ _)
      | (with_reducible exact val_Parse.mono _ _)
      | (with_reducible exact val_Text.mono _ _ _ _)
      | (with_reducible exact LeO.refl _)
      | (with_reducible exact LeO.none _)
      | (with_reducible refine LeO.ite ?_ ?_)
      | (with_reducible refine LeO.bind ?_ (fun _ => ?_))
      | exact val_Check.mono _ _ _ _
      | exact val_Compare.mono _ _ _ _ _ _ _
      | exact val_Parse.mono _ _
      | exact val_Text.mono _ _ _ _
      | exact LeO.none _
      | refine LeO.ite ?_ ?_
      | refine LeO.bind ?_ (fun _ => ?_)
set_option maxHeartbeats 8000000 in
set_option maxRecDepth 100000 in
theorem constablelaw01_wakes.calls (k : Nat)  (r : Bool) (w : World) (h : constablelaw01_wakes.f k  = some r) (hr_ : r = true) (hl_ : LaidE w) :
    Calls Tryd.prog 33 #[] w fun e w' => e = .returned (.bool r) ∧ Below w.heap.size w w' := by
  have hu44 := Tryd.underlying44
  have HB := Aside0.mk (Below.refl w.heap.size w)
  have H : ((val_Text.f k 3 0 (⟨#[97, 34, 98]⟩ : ByteArray)).bind fun bt363 => ((val_Parse.f k (⟨#[45, 52, 50]⟩ : ByteArray)).bind fun bt365 => ((val_Parse.f k (⟨#[48, 48, 55]⟩ : ByteArray)).bind fun bt370 => (if bt363.2 = 0 then (if bt363.1.toList = ([34, 97, 92, 34, 98, 34] : List UInt8) then (if bt365.2.2.2 = 0 then (if bt365.2.1 = (-42) then (if bt370.2.2.2 = 7 then ((val_Compare.f k 1 2 (⟨#[]⟩ : ByteArray) 2 0 (⟨#[97]⟩ : ByteArray)).bind fun t375 => (if t375 = (-1) then ((val_Check.f k 0 0 (⟨#[]⟩ : ByteArray)).bind fun t376 => (some (t376 == 1))) else (some false))) else (some false)) else (some false)) else (some false)) else (some false)) else (some false))))) = some r := h
  clear h
  have HL_ := Aside0.mk hl_
  clear hl_
  have HR_ := Aside0.mk hr_
  clear hr_
  replace H := Option.bind_eq_some_iff.mp H
  obtain ⟨⟨t363, t364⟩, A10, H⟩ := H
  replace H : ((val_Parse.f k (⟨#[45, 52, 50]⟩ : ByteArray)).bind fun bt365 => ((val_Parse.f k (⟨#[48, 48, 55]⟩ : ByteArray)).bind fun bt370 => (if t364 = 0 then (if t363.toList = ([34, 97, 92, 34, 98, 34] : List UInt8) then (if bt365.2.2.2 = 0 then (if bt365.2.1 = (-42) then (if bt370.2.2.2 = 7 then ((val_Compare.f k 1 2 (⟨#[]⟩ : ByteArray) 2 0 (⟨#[97]⟩ : ByteArray)).bind fun t375 => (if t375 = (-1) then ((val_Check.f k 0 0 (⟨#[]⟩ : ByteArray)).bind fun t376 => (some (t376 == 1))) else (some false))) else (some false)) else (some false)) else (some false)) else (some false)) else (some false)))) = some r := H
  have A1 := Aside0.mk A10
  clear A10
  replace H := Option.bind_eq_some_iff.mp H
  obtain ⟨⟨t365, t366, t367, t368⟩, A20, H⟩ := H
  replace H : ((val_Parse.f k (⟨#[48, 48, 55]⟩ : ByteArray)).bind fun bt370 => (if t364 = 0 then (if t363.toList = ([34, 97, 92, 34, 98, 34] : List UInt8) then (if t368 = 0 then (if t366 = (-42) then (if bt370.2.2.2 = 7 then ((val_Compare.f k 1 2 (⟨#[]⟩ : ByteArray) 2 0 (⟨#[97]⟩ : ByteArray)).bind fun t375 => (if t375 = (-1) then ((val_Check.f k 0 0 (⟨#[]⟩ : ByteArray)).bind fun t376 => (some (t376 == 1))) else (some false))) else (some false)) else (some false)) else (some false)) else (some false)) else (some false))) = some r := H
  have A2 := Aside0.mk A20
  clear A20
  replace H := Option.bind_eq_some_iff.mp H
  obtain ⟨⟨t370, t371, t372, t373⟩, A30, H⟩ := H
  replace H : (if t364 = 0 then (if t363.toList = ([34, 97, 92, 34, 98, 34] : List UInt8) then (if t368 = 0 then (if t366 = (-42) then (if t373 = 7 then ((val_Compare.f k 1 2 (⟨#[]⟩ : ByteArray) 2 0 (⟨#[97]⟩ : ByteArray)).bind fun t375 => (if t375 = (-1) then ((val_Check.f k 0 0 (⟨#[]⟩ : ByteArray)).bind fun t376 => (some (t376 == 1))) else (some false))) else (some false)) else (some false)) else (some false)) else (some false)) else (some false)) = some r := H
  have A3 := Aside0.mk A30
  clear A30
  by_cases c4 : t364 = 0
  · rw [if_pos c4] at H
    obtain ⟨c4b0, c4b1⟩ := eqB_ c4
    clear c4
    by_cases c5 : t363.toList = ([34, 97, 92, 34, 98, 34] : List UInt8)
    · rw [if_pos c5] at H
      obtain ⟨c5b0, c5b1⟩ := eqB_ c5
      clear c5
      by_cases c6 : t368 = 0
      · rw [if_pos c6] at H
        obtain ⟨c6b0, c6b1⟩ := eqB_ c6
        clear c6
        by_cases c7 : t366 = (-42)
        · rw [if_pos c7] at H
          obtain ⟨c7b0, c7b1⟩ := eqB_ c7
          clear c7
          by_cases c8 : t373 = 7
          · rw [if_pos c8] at H
            obtain ⟨c8b0, c8b1⟩ := eqB_ c8
            clear c8
            replace H := Option.bind_eq_some_iff.mp H
            obtain ⟨t375, A90, H⟩ := H
            replace H : (if t375 = (-1) then ((val_Check.f k 0 0 (⟨#[]⟩ : ByteArray)).bind fun t376 => (some (t376 == 1))) else (some false)) = some r := H
            have A9 := Aside0.mk A90
            clear A90
            by_cases c10 : t375 = (-1)
            · rw [if_pos c10] at H
              obtain ⟨c10b0, c10b1⟩ := eqB_ c10
              clear c10
              replace H := Option.bind_eq_some_iff.mp H
              obtain ⟨t376, A110, H⟩ := H
              replace H : (some (t376 == 1)) = some r := H
              have A11 := Aside0.mk A110
              clear A110
              obtain rfl := Option.some.inj H
              go_enter Tryd.func33, Tryd.ntmps33
              go_wp2_with (first | ((with_reducible refine gate_callee (f := 26) rfl ?_); refine goesL_ (some 9) rfl rfl Tryd.func26 (by kernel_rfl) rfl #[.agg #[.int .i64 3, .int .i64 0, .string (⟨#[97, 34, 98]⟩ : ByteArray)]] rfl ga_ ?_; (with_reducible refine (val_Text.calls k 3 0 (⟨#[97, 34, 98]⟩ : ByteArray) t363 t364 _ A1.out (et_ HL_ (be_ HB))).mono ?_); rintro e w12 ⟨rfl, hb⟩; refine ⟨_, rfl, ?_⟩; have n0_ := bs_ (be_ HB) hb; clear HB; have HB := n0_; clear n0_; (try clear hb); (try clear hb2); (try clear hk); (try clear hi)) | ((with_reducible refine gate_callee (f := 27) rfl ?_); refine goesL_ (some 13) rfl rfl Tryd.func27 (by kernel_rfl) rfl #[.string (⟨#[45, 52, 50]⟩ : ByteArray)] rfl ga_ ?_; (with_reducible refine (val_Parse.calls k (⟨#[45, 52, 50]⟩ : ByteArray) t365 t366 t367 t368 _ A2.out (ee_ HL_ (be_ HB))).mono ?_); rintro e w13 ⟨rfl, hb⟩; refine ⟨_, rfl, ?_⟩; have n0_ := bs_ (be_ HB) hb; clear HB; have HB := n0_; clear n0_; (try clear hb); (try clear hb2); (try clear hk); (try clear hi)) | ((with_reducible refine gate_dst (N := 3) rfl ?_); refine box_event ?hg (N := 3) ?hd (cs := #[.int .i64 0, .int .i64 0, .string (⟨#[]⟩ : ByteArray)]) (t := 44) ?hr ?_; (case hd => rfl); (case hg => rfl); (case hr => first | (go_simp; done) | (go_simp; rfl)); intro gb369 hg w14 hbox hb; have n0_ := bs_ (be_ HB) hb; have n1_ := Aside0.mk (hbox); have n2_ := gs_ hg (be_ HB); have n3_ := gs_ hg (be_ HB); clear HB; have HB := n0_; have BK369 := n1_; have GW369 := n2_; have GE369 := n3_; clear n0_ n1_ n2_ n3_; clear hb hbox hg; have hcz15_0 : w14.cell? ⟨gb369, 0, none⟩ = some (.int .i64 0) := (blk_cell BK369.out 0).trans rfl; have hcz15_1 : w14.cell? ⟨gb369, 1, none⟩ = some (.int .i64 0) := (blk_cell BK369.out 1).trans rfl; have hcz15_2 : w14.cell? ⟨gb369, 2, none⟩ = some (.string (⟨#[]⟩ : ByteArray)) := (blk_cell BK369.out 2).trans rfl; have hfz15_0 := blk_frozen BK369.out 0; have hfz15_1 := blk_frozen BK369.out 1; have hfz15_2 := blk_frozen BK369.out 2) | ((with_reducible refine gate_callee (f := 27) rfl ?_); refine goesL_ (some 17) rfl rfl Tryd.func27 (by kernel_rfl) rfl #[.string (⟨#[48, 48, 55]⟩ : ByteArray)] rfl ga_ ?_; (with_reducible refine (val_Parse.calls k (⟨#[48, 48, 55]⟩ : ByteArray) t370 t371 t372 t373 _ A3.out (ee_ HL_ (be_ HB))).mono ?_); rintro e w16 ⟨rfl, hb⟩; refine ⟨_, rfl, ?_⟩; have n0_ := Aside0.mk (blk_below (o := .cells #[.int .i64 t365, .int .i64 t366, .string t367] 44 (0, 0)) (bp_ BK369) hb); have n1_ := bs_ (be_ HB) hb; clear BK369; clear HB; have BK369 := n0_; have HB := n1_; clear n0_ n1_; (try clear hcz15_0 hcz15_1 hcz15_2 hfz15_0 hfz15_1 hfz15_2); (try clear hb); (try clear hb2); (try clear hk); (try clear hi)) | ((with_reducible refine gate_dst (N := 5) rfl ?_); refine box_event ?hg (N := 5) ?hd (cs := #[.int .i64 0, .int .i64 0, .string (⟨#[]⟩ : ByteArray)]) (t := 44) ?hr ?_; (case hd => rfl); (case hg => rfl); (case hr => first | (go_simp; done) | (go_simp; rfl)); intro gb374 hg w17 hbox hb; have n0_ := bb_ (bu_ BK369) hb; have n1_ := bs_ (be_ HB) hb; have n2_ := Aside0.mk (hbox); have n3_ := gs_ hg (be_ HB); have n4_ := gs_ hg (be_ HB); have n5_ := nl_ hg (bu_ BK369); have n6_ := ng_ hg (bu_ BK369); clear BK369; clear HB; have BK369 := n0_; have HB := n1_; have BK374 := n2_; have GW374 := n3_; have GE374 := n4_; have NB369_374 := n5_; have NB374_369 := n6_; clear n0_ n1_ n2_ n3_ n4_ n5_ n6_; clear hb hbox hg; have hnb18 := NB374_369.out; have hnc18 := NB369_374.out; have hcz19_0 : w17.cell? ⟨gb374, 0, none⟩ = some (.int .i64 0) := (blk_cell BK374.out 0).trans rfl; have hcz19_1 : w17.cell? ⟨gb374, 1, none⟩ = some (.int .i64 0) := (blk_cell BK374.out 1).trans rfl; have hcz19_2 : w17.cell? ⟨gb374, 2, none⟩ = some (.string (⟨#[]⟩ : ByteArray)) := (blk_cell BK374.out 2).trans rfl; have hfz19_0 := blk_frozen BK374.out 0; have hfz19_1 := blk_frozen BK374.out 1; have hfz19_2 := blk_frozen BK374.out 2; have hcz20_0 : w17.cell? ⟨gb369, 0, none⟩ = some (.int .i64 t365) := (blk_cell BK369.out 0).trans rfl; have hcz20_1 : w17.cell? ⟨gb369, 1, none⟩ = some (.int .i64 t366) := (blk_cell BK369.out 1).trans rfl; have hcz20_2 : w17.cell? ⟨gb369, 2, none⟩ = some (.string t367) := (blk_cell BK369.out 2).trans rfl; have hfz20_0 := blk_frozen BK369.out 0; have hfz20_1 := blk_frozen BK369.out 1; have hfz20_2 := blk_frozen BK369.out 2) | (go_at_call 29; (with_reducible refine (val_Compare.calls k 1 2 (⟨#[]⟩ : ByteArray) 2 0 (⟨#[97]⟩ : ByteArray) t375 _ A9.out).mono ?_); rintro e w21 ⟨rfl, hb⟩; have n0_ := bb_ (bu_ BK369) hb; have n1_ := Aside0.mk (blk_below (o := .cells #[.int .i64 t370, .int .i64 t371, .string t372] 44 (0, 0)) (bp_ BK374) hb); have n2_ := bs_ (be_ HB) hb; clear BK369; clear BK374; clear HB; have BK369 := n0_; have BK374 := n1_; have HB := n2_; clear n0_ n1_ n2_; (try clear hcz19_0 hcz19_1 hcz19_2 hfz19_0 hfz19_1 hfz19_2 hcz20_0 hcz20_1 hcz20_2 hfz20_0 hfz20_1 hfz20_2); (try clear hb); (try clear hb2); (try clear hk); (try clear hi)) | (go_at_call 32; (with_reducible refine (val_Check.calls k 0 0 (⟨#[]⟩ : ByteArray) t376 _ A11.out).mono ?_); rintro e w22 ⟨rfl, hb⟩; have n0_ := bb_ (bu_ BK369) hb; have n1_ := bb_ (bu_ BK374) hb; have n2_ := bs_ (be_ HB) hb; clear BK369; clear BK374; clear HB; have BK369 := n0_; have BK374 := n1_; have HB := n2_; clear n0_ n1_ n2_; (try clear hb); (try clear hb2); (try clear hk); (try clear hi)))
              go_ret
              exact ⟨by first | rfl | (simp [errW_none, errW_some] <;> rfl) | (simp [*, errW_none, errW_some] <;> rfl), by repeat (first | (with_reducible first | exact HB.out | apply below_alloc | apply pw_below_drewN | apply below_drew1 | refine below_set ?_ GE369.out | refine below_set ?_ GE374.out) | exact HB.out)⟩
            · rw [if_neg c10] at H
              obtain ⟨c10b0, c10b1⟩ := neB_ c10
              exact absurd ((Option.some.inj H).trans HR_.out) (by decide)
          · rw [if_neg c8] at H
            obtain ⟨c8b0, c8b1⟩ := neB_ c8
            exact absurd ((Option.some.inj H).trans HR_.out) (by decide)
        · rw [if_neg c7] at H
          obtain ⟨c7b0, c7b1⟩ := neB_ c7
          exact absurd ((Option.some.inj H).trans HR_.out) (by decide)
      · rw [if_neg c6] at H
        obtain ⟨c6b0, c6b1⟩ := neB_ c6
        exact absurd ((Option.some.inj H).trans HR_.out) (by decide)
    · rw [if_neg c5] at H
      obtain ⟨c5b0, c5b1⟩ := neB_ c5
      exact absurd ((Option.some.inj H).trans HR_.out) (by decide)
  · rw [if_neg c4] at H
    obtain ⟨c4b0, c4b1⟩ := neB_ c4
    exact absurd ((Option.some.inj H).trans HR_.out) (by decide)
end Go.Proofs.YtaopajmpifenoaaDoor.P
end
section
namespace Go.Proofs.YtaopajmpifenoaaDoor.P
open Go.RowKit Go.Proofs.YtaopajmpifenoaaDoorW.PrintWords Go.Proofs.YtaopajmpifenoaaDoorW.PrintLast Go.Proofs.YtaopajmpifenoaaDoorW.PrintMore
attribute [local go_sem] max2_int min2_int max_two min_two max_three min_three max_four min_four
set_option linter.unusedVariables false
set_option linter.unusedSimpArgs false
attribute [local go_sem high] eqA44
mutual
def constablelaw01_ValExact.j0 : Nat → ByteArray → Bool → Int → Int → ByteArray → Int → Int → ByteArray → Option (Bool)
  | 0, _, _, _, _, _, _, _, _ => none
  | k + 1, x2, x27, x378000, x378001, x378002, x379000, x379001, x379002 => if x27 = true then (some true) else ((val_Text.f k x378000 x378001 x378002).bind fun bt379 => ((val_Parse.f k x2).bind fun bt381 => ((constableref01_ParseValue.f k x2).bind fun bt386 => ((val_Compare.f k x378000 x378001 x378002 x379000 x379001 x379002).bind fun t391 => ((constableref01_Values.f k x378000 x378001 x378002 x379000 x379001 x379002).bind fun t392 => (if t391 = t392 then (if (bt386.2.2.2 != (bt381.2.2.2 == 0)) = true then (constablelaw01_ValExact.j1 k bt379.1 bt379.2 true x378000 x378001 x378002) else (if bt386.2.2.2 = true then (constablelaw01_ValExact.j1 k bt379.1 bt379.2 (!(bt381.1 == bt386.1) || (!(bt381.2.1 == bt386.2.1) || (!(bt381.2.2.1.toList == bt386.2.2.1.toList)))) x378000 x378001 x378002) else (if bt381.2.2.2 = 7 then (constablelaw01_ValExact.j1 k bt379.1 bt379.2 (!(bt381.1 == bt386.1) || (!(bt381.2.1 == bt386.2.1) || (!(bt381.2.2.1.toList == bt386.2.2.1.toList)))) x378000 x378001 x378002) else (constablelaw01_ValExact.j1 k bt379.1 bt379.2 true x378000 x378001 x378002)))) else (constablelaw01_ValExact.j1 k bt379.1 bt379.2 true x378000 x378001 x378002)))))))
def constablelaw01_ValExact.j1 : Nat → ByteArray → Int → Bool → Int → Int → ByteArray → Option (Bool)
  | 0, _, _, _, _, _, _ => none
  | k + 1, x7, x8, x68, x378000, x378001, x378002 => if x68 = true then (some false) else ((constableref01_Value.f k x378000 x378001 x378002).bind fun t393 => (if t393 = true then ((val_Check.f k x378000 x378001 x378002).bind fun t394 => (if t394 = 0 then (if x8 = 0 then ((constableref01_ValueText.f k x378000 x378001 x378002).bind fun t395 => (if x7.toList = t395.toList then ((constablelaw01_wakes.f k).bind fun t396 => (some t396)) else (some false))) else (some false)) else (some false))) else ((val_Check.f k x378000 x378001 x378002).bind fun t397 => (if t397 = 1 then (if x8 = 1 then (if x7.toList = ([] : List UInt8) then ((constablelaw01_wakes.f k).bind fun t398 => (some t398)) else (some false)) else (some false)) else (some false)))))
end
def constablelaw01_ValExact.f (k : Nat) (a0_0 : Int) (a0_1 : Int) (a0_2 : ByteArray) (a1_0 : Int) (a1_1 : Int) (a1_2 : ByteArray) (a2 : ByteArray) : Option (Bool) := if (a0_2.size : Int) > 200 then (constablelaw01_ValExact.j0 k a2 true a0_0 a0_1 a0_2 a1_0 a1_1 a1_2) else (if (a1_2.size : Int) > 200 then (constablelaw01_ValExact.j0 k a2 true a0_0 a0_1 a0_2 a1_0 a1_1 a1_2) else (constablelaw01_ValExact.j0 k a2 (decide ((a2.size : Int) > 200)) a0_0 a0_1 a0_2 a1_0 a1_1 a1_2))
theorem constablelaw01_ValExact.mono_l : ∀ k, (∀ y0 y1 y2 y3 y4 y5 y6 y7, LeO (constablelaw01_ValExact.j0 k y0 y1 y2 y3 y4 y5 y6 y7) (constablelaw01_ValExact.j0 (k + 1) y0 y1 y2 y3 y4 y5 y6 y7)) ∧ (∀ y0 y1 y2 y3 y4 y5, LeO (constablelaw01_ValExact.j1 k y0 y1 y2 y3 y4 y5) (constablelaw01_ValExact.j1 (k + 1) y0 y1 y2 y3 y4 y5))
  | 0 => ⟨fun _ _ _ _ _ _ _ _ r h => by simp [constablelaw01_ValExact.j0] at h, fun _ _ _ _ _ _ r h => by simp [constablelaw01_ValExact.j1] at h⟩
  | k + 1 => by
    obtain ⟨ih0, ih1⟩ := constablelaw01_ValExact.mono_l k
    refine ⟨?_, ?_⟩
    · intro y0 y1 y2 y3 y4 y5 y6 y7
      unfold constablelaw01_ValExact.j0
      repeat' first
      | (with_reducible exact ih0 _ _ _ _ _ _ _ _)
      | (with_reducible exact ih1 _ _ _ _ _ _)
      | (with_reducible exact constablelaw01_wakes.mono _)
      | (with_reducible exact constableref01_ParseValue.mono _ _)
      | (with_reducible exact constableref01_Value.mono _ _ _ _)
      | (with_reducible exact constableref01_ValueText.mono _ _ _ _)
      | (with_reducible exact constableref01_Values.mono _ _ _ _ _ _ _)
      | (with_reducible exact val_Check.mono _ _ _ _)
      | (with_reducible exact val_Compare.mono _ _ _ _ _ _ _)
      | (with_reducible exact val_Parse.mono _ _)
      | (with_reducible exact val_Text.mono _ _ _ _)
      | (with_reducible exact LeO.refl _)
      | (with_reducible exact LeO.none _)
      | (with_reducible refine LeO.ite ?_ ?_)
      | (with_reducible refine LeO.bind ?_ (fun _ => ?_))
      | exact ih0 _ _ _ _ _ _ _ _
      | exact ih1 _ _ _ _ _ _
      | exact constablelaw01_wakes.mono _
      | exact constableref01_ParseValue.mono _ _
      | exact constableref01_Value.mono _ _ _ _
      | exact constableref01_ValueText.mono _ _ _ _
      | exact constableref01_Values.mono _ _ _ _ _ _ _
      | exact val_Check.mono _ _ _ _
      | exact val_Compare.mono _ _ _ _ _ _ _
      | exact val_Parse.mono _ _
      | exact val_Text.mono _ _ _ _
      | exact LeO.none _
      | refine LeO.ite ?_ ?_
      | refine LeO.bind ?_ (fun _ => ?_)
    · intro y0 y1 y2 y3 y4 y5
      unfold constablelaw01_ValExact.j1
      repeat' first
      | (with_reducible exact ih0 _ _ _ _ _ _ _ _)
      | (with_reducible exact ih1 _ _ _ _ _ _)
      | (with_reducible exact constablelaw01_wakes.mono _)
      | (with_reducible exact constableref01_ParseValue.mono _ _)
      | (with_reducible exact constableref01_Value.mono _ _ _ _)
      | (with_reducible exact constableref01_ValueText.mono _ _ _ _)
      | (with_reducible exact constableref01_Values.mono _ _ _ _ _ _ _)
      | (with_reducible exact val_Check.mono _ _ _ _)
      | (with_reducible exact val_Compare.mono _ _ _ _ _ _ _)
      | (with_reducible exact val_Parse.mono _ _)
      | (with_reducible exact val_Text.mono _ _ _ _)
      | (with_reducible exact LeO.refl _)
      | (with_reducible exact LeO.none _)
      | (with_reducible refine LeO.ite ?_ ?_)
      | (with_reducible refine LeO.bind ?_ (fun _ => ?_))
      | exact ih0 _ _ _ _ _ _ _ _
      | exact ih1 _ _ _ _ _ _
      | exact constablelaw01_wakes.mono _
      | exact constableref01_ParseValue.mono _ _
      | exact constableref01_Value.mono _ _ _ _
      | exact constableref01_ValueText.mono _ _ _ _
      | exact constableref01_Values.mono _ _ _ _ _ _ _
      | exact val_Check.mono _ _ _ _
      | exact val_Compare.mono _ _ _ _ _ _ _
      | exact val_Parse.mono _ _
      | exact val_Text.mono _ _ _ _
      | exact LeO.none _
      | refine LeO.ite ?_ ?_
      | refine LeO.bind ?_ (fun _ => ?_)
theorem constablelaw01_ValExact.mono : ∀ a0 a1 a2 a3 a4 a5 a6 k, LeO (constablelaw01_ValExact.f k a0 a1 a2 a3 a4 a5 a6) (constablelaw01_ValExact.f (k + 1) a0 a1 a2 a3 a4 a5 a6) := by
  intro a0 a1 a2 a3 a4 a5 a6 k
  obtain ⟨ih0, ih1⟩ := constablelaw01_ValExact.mono_l k
  unfold constablelaw01_ValExact.f
  repeat' first
      | (with_reducible exact ih0 _ _ _ _ _ _ _ _)
      | (with_reducible exact ih1 _ _ _ _ _ _)
      | (with_reducible exact constablelaw01_wakes.mono _)
      | (with_reducible exact constableref01_ParseValue.mono _ _)
      | (with_reducible exact constableref01_Value.mono _ _ _ _)
      | (with_reducible exact constableref01_ValueText.mono _ _ _ _)
      | (with_reducible exact constableref01_Values.mono _ _ _ _ _ _ _)
      | (with_reducible exact val_Check.mono _ _ _ _)
      | (with_reducible exact val_Compare.mono _ _ _ _ _ _ _)
      | (with_reducible exact val_Parse.mono _ _)
      | (with_reducible exact val_Text.mono _ _ _ _)
      | (with_reducible exact LeO.refl _)
      | (with_reducible exact LeO.none _)
      | (with_reducible refine LeO.ite ?_ ?_)
      | (with_reducible refine LeO.bind ?_ (fun _ => ?_))
      | exact ih0 _ _ _ _ _ _ _ _
      | exact ih1 _ _ _ _ _ _
      | exact constablelaw01_wakes.mono _
      | exact constableref01_ParseValue.mono _ _
      | exact constableref01_Value.mono _ _ _ _
      | exact constableref01_ValueText.mono _ _ _ _
      | exact constableref01_Values.mono _ _ _ _ _ _ _
      | exact val_Check.mono _ _ _ _
      | exact val_Compare.mono _ _ _ _ _ _ _
      | exact val_Parse.mono _ _
      | exact val_Text.mono _ _ _ _
      | exact LeO.none _
      | refine LeO.ite ?_ ?_
      | refine LeO.bind ?_ (fun _ => ?_)
def constablelaw01_ValExact.T6 : Bool × List (List Nat × List Nat) := (true, [([], []), ([], []), ([0, 1], [0, 1]), ([], []), ([], []), ([3, 4, 2], [3, 4]), ([2, 5], [2, 5]), ([6, 5], [6]), ([7], [7]), ([7], [7]), ([9, 7], [7, 9]), ([8, 10, 7], [7, 8, 10]), ([7, 11], [7, 11]), ([12, 7], [12]), ([13], [13]), ([14, 13], [13, 14]), ([15, 13, 13], [13, 15]), ([16], [16]), ([17, 16], [16, 17]), ([16, 18, 13], [13, 16, 18]), ([13, 19], [13, 19]), ([20, 16], [20]), ([21], [21]), ([21], [21]), ([22, 23, 21], [21, 22, 23]), ([21, 24], [21, 24])])
def constablelaw01_ValExact.B6 : List Nat := [0, 0, 3, 0, 0, 31, 63, 127, 255, 255, 767, 2047, 4095, 8191, 16383, 32767, 65535, 131071, 262143, 524287, 1048575, 2097151, 4194303, 4194303, 16777215, 33554431]
theorem constablelaw01_ValExact.tab6 : rtab .any (opsOf Tryd.f6 6) = constablelaw01_ValExact.T6 := by kernel_rfl
theorem constablelaw01_ValExact.bits6 : waitsOk constablelaw01_ValExact.T6.2 constablelaw01_ValExact.B6 = true := by kernel_rfl
set_option maxHeartbeats 8000000 in
set_option maxRecDepth 100000 in
theorem constablelaw01_ValExact.calls (k : Nat) (a0_0 : Int) (a0_1 : Int) (a0_2 : ByteArray) (a1_0 : Int) (a1_1 : Int) (a1_2 : ByteArray) (a2 : ByteArray) (r : Bool) (w : World) (h : constablelaw01_ValExact.f k a0_0 a0_1 a0_2 a1_0 a1_1 a1_2 a2 = some r) (hr_ : r = true) (hl_ : LaidE w) :
    Calls Tryd.prog 6 #[.agg #[.int .i64 a0_0, .int .i64 a0_1, .string a0_2], .agg #[.int .i64 a1_0, .int .i64 a1_1, .string a1_2], .string a2] w fun e w' => e = .returned (.bool r) ∧ Below w.heap.size w w' := by
  have hu44 := Tryd.underlying44
  have HB := Aside0.mk (Below.refl w.heap.size w)
  have H : (if (a0_2.size : Int) > 200 then (constablelaw01_ValExact.j0 k a2 true a0_0 a0_1 a0_2 a1_0 a1_1 a1_2) else (if (a1_2.size : Int) > 200 then (constablelaw01_ValExact.j0 k a2 true a0_0 a0_1 a0_2 a1_0 a1_1 a1_2) else (constablelaw01_ValExact.j0 k a2 (decide ((a2.size : Int) > 200)) a0_0 a0_1 a0_2 a1_0 a1_1 a1_2))) = some r := h
  clear h
  have HL_ := Aside0.mk hl_
  clear hl_
  have HR_ := Aside0.mk hr_
  clear hr_
  have HC4 := Aside0.mk H
  clear H
  go_enter Tryd.func6, Tryd.ntmps6
  go_upto_region 1 with (first | ((with_reducible refine gate_dst (N := 3) rfl ?_); (try (refine gate_guard (by rfl) ?_; dsimp only)); refine box_event ?hg (N := 3) ?hd (cs := #[.int .i64 a0_0, .int .i64 a0_1, .string a0_2]) (t := 44) ?hr ?_; (case hd => rfl); (case hg => rfl); (case hr => first | (go_simp; done) | (go_simp; rfl)); intro gb377 hg w5 hbox hb; have n0_ := bs_ (be_ HB) hb; have n1_ := Aside0.mk (hbox); have n2_ := gs_ hg (be_ HB); have n3_ := gs_ hg (be_ HB); clear HB; have HB := n0_; have BK377 := n1_; have GW377 := n2_; have GE377 := n3_; clear n0_ n1_ n2_ n3_; clear hb hbox hg) | ((with_reducible refine gate_dst (N := 4) rfl ?_); (try (refine gate_guard (by rfl) ?_; dsimp only)); refine box_event ?hg (N := 4) ?hd (cs := #[.int .i64 a1_0, .int .i64 a1_1, .string a1_2]) (t := 44) ?hr ?_; (case hd => rfl); (case hg => rfl); (case hr => first | (go_simp; done) | (go_simp; rfl)); intro gb378 hg w6 hbox hb; have n0_ := bb_ (bu_ BK377) hb; have n1_ := bs_ (be_ HB) hb; have n2_ := Aside0.mk (hbox); have n3_ := gs_ hg (be_ HB); have n4_ := gs_ hg (be_ HB); have n5_ := nl_ hg (bu_ BK377); have n6_ := ng_ hg (bu_ BK377); clear BK377; clear HB; have BK377 := n0_; have HB := n1_; have BK378 := n2_; have GW378 := n3_; have GE378 := n4_; have NB377_378 := n5_; have NB378_377 := n6_; clear n0_ n1_ n2_ n3_ n4_ n5_ n6_; clear hb hbox hg))
  (try simp only [Act.put, List.setIfInBounds_toArray, List.set_cons_zero, List.set_cons_succ])
  go_cut [27] (fun v27 wc => ∃ (kq : Nat) (x27_3 : Bool), v27 = .bool x27_3 ∧ Aside0 (constablelaw01_ValExact.j0 kq a2 x27_3 a0_0 a0_1 a0_2 a1_0 a1_1 a1_2 = some r) ∧ Aside0 (kq ≤ k) ∧ Aside0 (wc.heap[gb377]? = some (.cells #[.int .i64 a0_0, .int .i64 a0_1, .string a0_2] 44 (0, 0))) ∧ Aside0 (wc.heap[gb378]? = some (.cells #[.int .i64 a1_0, .int .i64 a1_1, .string a1_2] 44 (0, 0))) ∧ Aside0 (Below w.heap.size w wc))
  case first =>
    have H := HC4.out
    clear HC4
    by_cases c7 : (a0_2.size : Int) > 200
    · rw [if_pos c7] at H
      have c7b0 : decide (200 < (a0_2.size : Int)) = true := decide_eq_true c7
      have c7b1 : decide (200 < a0_2.size) = true := decide_eq_true (by omega)
      clear c7
      (first | rw [c7b0] | (simp only [i64_w, i32_w]; rw [c7b0]) | skip)
      have H' := Aside0.mk H
      clear H
      have hnb8 := NB377_378.out
      have hnc8 := NB378_377.out
      have hcz9_0 : w6.cell? ⟨gb377, 0, none⟩ = some (.int .i64 a0_0) := (blk_cell BK377.out 0).trans rfl
      have hcz9_1 : w6.cell? ⟨gb377, 1, none⟩ = some (.int .i64 a0_1) := (blk_cell BK377.out 1).trans rfl
      have hcz9_2 : w6.cell? ⟨gb377, 2, none⟩ = some (.string a0_2) := (blk_cell BK377.out 2).trans rfl
      have hfz9_0 := blk_frozen BK377.out 0
      have hfz9_1 := blk_frozen BK377.out 1
      have hfz9_2 := blk_frozen BK377.out 2
      go_wp2
      go_meet
      case rel => exact ⟨_, (true), ra_, H', ⟨by first | omega | exact Nat.le_refl _⟩, ⟨by (with_reducible repeat (first | refine blk_drewN ?_ _ | refine blk_drew ?_ | refine blk_alloc ?_ _)); exact BK377.out⟩, ⟨by (with_reducible repeat (first | refine blk_drewN ?_ _ | refine blk_drew ?_ | refine blk_alloc ?_ _)); exact BK378.out⟩, ⟨by repeat (first | (with_reducible first | exact HB.out | apply below_alloc | apply pw_below_drewN | apply below_drew1 | refine below_set ?_ GE377.out | refine below_set ?_ GE378.out) | exact HB.out)⟩⟩
    · rw [if_neg c7] at H
      have c7b0 : decide (200 < (a0_2.size : Int)) = false := decide_eq_false c7
      have c7b1 : decide (200 < a0_2.size) = false := decide_eq_false (by omega)
      clear c7
      (first | rw [c7b0] | (simp only [i64_w, i32_w]; rw [c7b0]) | skip)
      by_cases c10 : (a1_2.size : Int) > 200
      · rw [if_pos c10] at H
        have c10b0 : decide (200 < (a1_2.size : Int)) = true := decide_eq_true c10
        have c10b1 : decide (200 < a1_2.size) = true := decide_eq_true (by omega)
        clear c10
        have H' := Aside0.mk H
        clear H
        have hnb11 := NB377_378.out
        have hnc11 := NB378_377.out
        have hcz12_0 : w6.cell? ⟨gb377, 0, none⟩ = some (.int .i64 a0_0) := (blk_cell BK377.out 0).trans rfl
        have hcz12_1 : w6.cell? ⟨gb377, 1, none⟩ = some (.int .i64 a0_1) := (blk_cell BK377.out 1).trans rfl
        have hcz12_2 : w6.cell? ⟨gb377, 2, none⟩ = some (.string a0_2) := (blk_cell BK377.out 2).trans rfl
        have hfz12_0 := blk_frozen BK377.out 0
        have hfz12_1 := blk_frozen BK377.out 1
        have hfz12_2 := blk_frozen BK377.out 2
        have hcz13_0 : w6.cell? ⟨gb378, 0, none⟩ = some (.int .i64 a1_0) := (blk_cell BK378.out 0).trans rfl
        have hcz13_1 : w6.cell? ⟨gb378, 1, none⟩ = some (.int .i64 a1_1) := (blk_cell BK378.out 1).trans rfl
        have hcz13_2 : w6.cell? ⟨gb378, 2, none⟩ = some (.string a1_2) := (blk_cell BK378.out 2).trans rfl
        have hfz13_0 := blk_frozen BK378.out 0
        have hfz13_1 := blk_frozen BK378.out 1
        have hfz13_2 := blk_frozen BK378.out 2
        go_wp2
        go_meet
        case rel => exact ⟨_, (true), ra_, H', ⟨by first | omega | exact Nat.le_refl _⟩, ⟨by (with_reducible repeat (first | refine blk_drewN ?_ _ | refine blk_drew ?_ | refine blk_alloc ?_ _)); exact BK377.out⟩, ⟨by (with_reducible repeat (first | refine blk_drewN ?_ _ | refine blk_drew ?_ | refine blk_alloc ?_ _)); exact BK378.out⟩, ⟨by repeat (first | (with_reducible first | exact HB.out | apply below_alloc | apply pw_below_drewN | apply below_drew1 | refine below_set ?_ GE377.out | refine below_set ?_ GE378.out) | exact HB.out)⟩⟩
      · rw [if_neg c10] at H
        have c10b0 : decide (200 < (a1_2.size : Int)) = false := decide_eq_false c10
        have c10b1 : decide (200 < a1_2.size) = false := decide_eq_false (by omega)
        clear c10
        have H' := Aside0.mk H
        clear H
        have hnb14 := NB377_378.out
        have hnc14 := NB378_377.out
        have hcz15_0 : w6.cell? ⟨gb377, 0, none⟩ = some (.int .i64 a0_0) := (blk_cell BK377.out 0).trans rfl
        have hcz15_1 : w6.cell? ⟨gb377, 1, none⟩ = some (.int .i64 a0_1) := (blk_cell BK377.out 1).trans rfl
        have hcz15_2 : w6.cell? ⟨gb377, 2, none⟩ = some (.string a0_2) := (blk_cell BK377.out 2).trans rfl
        have hfz15_0 := blk_frozen BK377.out 0
        have hfz15_1 := blk_frozen BK377.out 1
        have hfz15_2 := blk_frozen BK377.out 2
        have hcz16_0 : w6.cell? ⟨gb378, 0, none⟩ = some (.int .i64 a1_0) := (blk_cell BK378.out 0).trans rfl
        have hcz16_1 : w6.cell? ⟨gb378, 1, none⟩ = some (.int .i64 a1_1) := (blk_cell BK378.out 1).trans rfl
        have hcz16_2 : w6.cell? ⟨gb378, 2, none⟩ = some (.string a1_2) := (blk_cell BK378.out 2).trans rfl
        have hfz16_0 := blk_frozen BK378.out 0
        have hfz16_1 := blk_frozen BK378.out 1
        have hfz16_2 := blk_frozen BK378.out 2
        go_wp2
        go_meet
        case rel => exact ⟨_, (decide ((a2.size : Int) > 200)), ra_, H', ⟨by first | omega | exact Nat.le_refl _⟩, ⟨by (with_reducible repeat (first | refine blk_drewN ?_ _ | refine blk_drew ?_ | refine blk_alloc ?_ _)); exact BK377.out⟩, ⟨by (with_reducible repeat (first | refine blk_drewN ?_ _ | refine blk_drew ?_ | refine blk_alloc ?_ _)); exact BK378.out⟩, ⟨by repeat (first | (with_reducible first | exact HB.out | apply below_alloc | apply pw_below_drewN | apply below_drew1 | refine below_set ?_ GE377.out | refine below_set ?_ GE378.out) | exact HB.out)⟩⟩
  case rest =>
    clear HC4
    try clear c1
    try clear p2
    try clear c6
    try clear c7
    try clear c7b0
    try clear c7b1
    try clear c8
    try clear c10
    try clear c10b0
    try clear c10b1
    try clear c11
    try clear c14
    try clear hcz12_0
    try clear hcz12_1
    try clear hcz12_2
    try clear hcz13_0
    try clear hcz13_1
    try clear hcz13_2
    try clear hcz15_0
    try clear hcz15_1
    try clear hcz15_2
    try clear hcz16_0
    try clear hcz16_1
    try clear hcz16_2
    try clear hcz9_0
    try clear hcz9_1
    try clear hcz9_2
    try clear hfz12_0
    try clear hfz12_1
    try clear hfz12_2
    try clear hfz13_0
    try clear hfz13_1
    try clear hfz13_2
    try clear hfz15_0
    try clear hfz15_1
    try clear hfz15_2
    try clear hfz16_0
    try clear hfz16_1
    try clear hfz16_2
    try clear hfz9_0
    try clear hfz9_1
    try clear hfz9_2
    obtain ⟨kq, x27_3, rfl, HA, HJ3, BK377, BK378, HB⟩ := hcut
    cases kq with
    | zero => exact absurd HA.out (by simp [constablelaw01_ValExact.j0])
    | succ kj3 =>
      have H := HA.out
      clear HA
      simp only [constablelaw01_ValExact.j0] at H
      by_cases c17 : x27_3 = true
      · subst c17
        have H1 : (some true) = some r := by rw [if_pos rfl] at H; exact H
        clear H
        have H := H1
        clear H1
        obtain rfl := Option.some.inj H
        go_wp2
        go_ret
        exact ⟨by first | rfl | (simp [errW_none, errW_some] <;> rfl) | (simp [*, errW_none, errW_some] <;> rfl), by repeat (first | (with_reducible first | exact HB.out | apply below_alloc | apply pw_below_drewN | apply below_drew1 | refine below_set ?_ GE377.out | refine below_set ?_ GE378.out) | exact HB.out)⟩
      · replace c17 := Bool.eq_false_iff.mpr c17
        subst c17
        have H1 : ((val_Text.f kj3 a0_0 a0_1 a0_2).bind fun bt379 => ((val_Parse.f kj3 a2).bind fun bt381 => ((constableref01_ParseValue.f kj3 a2).bind fun bt386 => ((val_Compare.f kj3 a0_0 a0_1 a0_2 a1_0 a1_1 a1_2).bind fun t391 => ((constableref01_Values.f kj3 a0_0 a0_1 a0_2 a1_0 a1_1 a1_2).bind fun t392 => (if t391 = t392 then (if (bt386.2.2.2 != (bt381.2.2.2 == 0)) = true then (constablelaw01_ValExact.j1 kj3 bt379.1 bt379.2 true a0_0 a0_1 a0_2) else (if bt386.2.2.2 = true then (constablelaw01_ValExact.j1 kj3 bt379.1 bt379.2 (!(bt381.1 == bt386.1) || (!(bt381.2.1 == bt386.2.1) || (!(bt381.2.2.1.toList == bt386.2.2.1.toList)))) a0_0 a0_1 a0_2) else (if bt381.2.2.2 = 7 then (constablelaw01_ValExact.j1 kj3 bt379.1 bt379.2 (!(bt381.1 == bt386.1) || (!(bt381.2.1 == bt386.2.1) || (!(bt381.2.2.1.toList == bt386.2.2.1.toList)))) a0_0 a0_1 a0_2) else (constablelaw01_ValExact.j1 kj3 bt379.1 bt379.2 true a0_0 a0_1 a0_2)))) else (constablelaw01_ValExact.j1 kj3 bt379.1 bt379.2 true a0_0 a0_1 a0_2))))))) = some r := by rw [if_neg (show ¬ (false = true) by decide)] at H; exact H
        clear H
        have H := H1
        clear H1
        replace H := Option.bind_eq_some_iff.mp H
        obtain ⟨⟨t379, t380⟩, A180, H⟩ := H
        replace H : ((val_Parse.f kj3 a2).bind fun bt381 => ((constableref01_ParseValue.f kj3 a2).bind fun bt386 => ((val_Compare.f kj3 a0_0 a0_1 a0_2 a1_0 a1_1 a1_2).bind fun t391 => ((constableref01_Values.f kj3 a0_0 a0_1 a0_2 a1_0 a1_1 a1_2).bind fun t392 => (if t391 = t392 then (if (bt386.2.2.2 != (bt381.2.2.2 == 0)) = true then (constablelaw01_ValExact.j1 kj3 t379 t380 true a0_0 a0_1 a0_2) else (if bt386.2.2.2 = true then (constablelaw01_ValExact.j1 kj3 t379 t380 (!(bt381.1 == bt386.1) || (!(bt381.2.1 == bt386.2.1) || (!(bt381.2.2.1.toList == bt386.2.2.1.toList)))) a0_0 a0_1 a0_2) else (if bt381.2.2.2 = 7 then (constablelaw01_ValExact.j1 kj3 t379 t380 (!(bt381.1 == bt386.1) || (!(bt381.2.1 == bt386.2.1) || (!(bt381.2.2.1.toList == bt386.2.2.1.toList)))) a0_0 a0_1 a0_2) else (constablelaw01_ValExact.j1 kj3 t379 t380 true a0_0 a0_1 a0_2)))) else (constablelaw01_ValExact.j1 kj3 t379 t380 true a0_0 a0_1 a0_2)))))) = some r := H
        have A18 := Aside0.mk A180
        clear A180
        replace H := Option.bind_eq_some_iff.mp H
        obtain ⟨⟨t381, t382, t383, t384⟩, A190, H⟩ := H
        replace H : ((constableref01_ParseValue.f kj3 a2).bind fun bt386 => ((val_Compare.f kj3 a0_0 a0_1 a0_2 a1_0 a1_1 a1_2).bind fun t391 => ((constableref01_Values.f kj3 a0_0 a0_1 a0_2 a1_0 a1_1 a1_2).bind fun t392 => (if t391 = t392 then (if (bt386.2.2.2 != (t384 == 0)) = true then (constablelaw01_ValExact.j1 kj3 t379 t380 true a0_0 a0_1 a0_2) else (if bt386.2.2.2 = true then (constablelaw01_ValExact.j1 kj3 t379 t380 (!(t381 == bt386.1) || (!(t382 == bt386.2.1) || (!(t383.toList == bt386.2.2.1.toList)))) a0_0 a0_1 a0_2) else (if t384 = 7 then (constablelaw01_ValExact.j1 kj3 t379 t380 (!(t381 == bt386.1) || (!(t382 == bt386.2.1) || (!(t383.toList == bt386.2.2.1.toList)))) a0_0 a0_1 a0_2) else (constablelaw01_ValExact.j1 kj3 t379 t380 true a0_0 a0_1 a0_2)))) else (constablelaw01_ValExact.j1 kj3 t379 t380 true a0_0 a0_1 a0_2))))) = some r := H
        have A19 := Aside0.mk A190
        clear A190
        replace H := Option.bind_eq_some_iff.mp H
        obtain ⟨⟨t386, t387, t388, t389⟩, A200, H⟩ := H
        replace H : ((val_Compare.f kj3 a0_0 a0_1 a0_2 a1_0 a1_1 a1_2).bind fun t391 => ((constableref01_Values.f kj3 a0_0 a0_1 a0_2 a1_0 a1_1 a1_2).bind fun t392 => (if t391 = t392 then (if (t389 != (t384 == 0)) = true then (constablelaw01_ValExact.j1 kj3 t379 t380 true a0_0 a0_1 a0_2) else (if t389 = true then (constablelaw01_ValExact.j1 kj3 t379 t380 (!(t381 == t386) || (!(t382 == t387) || (!(t383.toList == t388.toList)))) a0_0 a0_1 a0_2) else (if t384 = 7 then (constablelaw01_ValExact.j1 kj3 t379 t380 (!(t381 == t386) || (!(t382 == t387) || (!(t383.toList == t388.toList)))) a0_0 a0_1 a0_2) else (constablelaw01_ValExact.j1 kj3 t379 t380 true a0_0 a0_1 a0_2)))) else (constablelaw01_ValExact.j1 kj3 t379 t380 true a0_0 a0_1 a0_2)))) = some r := H
        have A20 := Aside0.mk A200
        clear A200
        have HC21 := Aside0.mk H
        clear H
        have hnb22 := NB377_378.out
        have hnc22 := NB378_377.out
        have hcz23_0 : wc.cell? ⟨gb377, 0, none⟩ = some (.int .i64 a0_0) := (blk_cell BK377.out 0).trans rfl
        have hcz23_1 : wc.cell? ⟨gb377, 1, none⟩ = some (.int .i64 a0_1) := (blk_cell BK377.out 1).trans rfl
        have hcz23_2 : wc.cell? ⟨gb377, 2, none⟩ = some (.string a0_2) := (blk_cell BK377.out 2).trans rfl
        have hfz23_0 := blk_frozen BK377.out 0
        have hfz23_1 := blk_frozen BK377.out 1
        have hfz23_2 := blk_frozen BK377.out 2
        go_upto_region 6 with (first | ((with_reducible refine gate_callee (f := 26) rfl ?_); refine goesL_ (some 30) rfl rfl Tryd.func26 (by kernel_rfl) rfl #[.agg #[.int .i64 a0_0, .int .i64 a0_1, .string a0_2]] rfl ga_ ?_; (with_reducible refine (val_Text.calls kj3 a0_0 a0_1 a0_2 t379 t380 _ A18.out (et_ HL_ (be_ HB))).mono ?_); rintro e w24 ⟨rfl, hb⟩; refine ⟨_, rfl, ?_⟩; have n0_ := bb_ (bu_ BK377) hb; have n1_ := bb_ (bu_ BK378) hb; have n2_ := bs_ (be_ HB) hb; clear BK377; clear BK378; clear HB; have BK377 := n0_; have BK378 := n1_; have HB := n2_; clear n0_ n1_ n2_; (try clear hb); (try clear hb2); (try clear hk); (try clear hi)) | ((with_reducible refine gate_callee (f := 27) rfl ?_); refine goesL_ (some 35) rfl rfl Tryd.func27 (by kernel_rfl) rfl #[.string a2] rfl ga_ ?_; (with_reducible refine (val_Parse.calls kj3 a2 t381 t382 t383 t384 _ A19.out (ee_ HL_ (be_ HB))).mono ?_); rintro e w25 ⟨rfl, hb⟩; refine ⟨_, rfl, ?_⟩; have n0_ := bb_ (bu_ BK377) hb; have n1_ := bb_ (bu_ BK378) hb; have n2_ := bs_ (be_ HB) hb; clear BK377; clear BK378; clear HB; have BK377 := n0_; have BK378 := n1_; have HB := n2_; clear n0_ n1_ n2_; (try clear hb); (try clear hb2); (try clear hk); (try clear hi)) | ((with_reducible refine gate_dst (N := 9) rfl ?_); (try (refine gate_guard (by rfl) ?_; dsimp only)); refine box_event ?hg (N := 9) ?hd (cs := #[.int .i64 0, .int .i64 0, .string (⟨#[]⟩ : ByteArray)]) (t := 44) ?hr ?_; (case hd => rfl); (case hg => rfl); (case hr => first | (go_simp; done) | (go_simp; rfl)); intro gb385 hg w26 hbox hb; have n0_ := bb_ (bu_ BK377) hb; have n1_ := bb_ (bu_ BK378) hb; have n2_ := bs_ (be_ HB) hb; have n3_ := Aside0.mk (hbox); have n4_ := gs_ hg (be_ HB); have n5_ := gs_ hg (be_ HB); have n6_ := nl_ hg (bu_ BK377); have n7_ := ng_ hg (bu_ BK377); have n8_ := nl_ hg (bu_ BK378); have n9_ := ng_ hg (bu_ BK378); clear BK377; clear BK378; clear HB; have BK377 := n0_; have BK378 := n1_; have HB := n2_; have BK385 := n3_; have GW385 := n4_; have GE385 := n5_; have NB377_385 := n6_; have NB385_377 := n7_; have NB378_385 := n8_; have NB385_378 := n9_; clear n0_ n1_ n2_ n3_ n4_ n5_ n6_ n7_ n8_ n9_; clear hb hbox hg; have hnb27 := NB385_377.out; have hnc27 := NB377_385.out; have hnb28 := NB385_378.out; have hnc28 := NB378_385.out; have hcz29_0 : w26.cell? ⟨gb385, 0, none⟩ = some (.int .i64 0) := (blk_cell BK385.out 0).trans rfl; have hcz29_1 : w26.cell? ⟨gb385, 1, none⟩ = some (.int .i64 0) := (blk_cell BK385.out 1).trans rfl; have hcz29_2 : w26.cell? ⟨gb385, 2, none⟩ = some (.string (⟨#[]⟩ : ByteArray)) := (blk_cell BK385.out 2).trans rfl; have hfz29_0 := blk_frozen BK385.out 0; have hfz29_1 := blk_frozen BK385.out 1; have hfz29_2 := blk_frozen BK385.out 2) | ((with_reducible refine gate_callee (f := 28) rfl ?_); refine goesL_ (some 40) rfl rfl Tryd.func28 (by kernel_rfl) rfl #[.string a2] rfl ga_ ?_; (with_reducible refine (constableref01_ParseValue.calls kj3 a2 t386 t387 t388 t389 _ A20.out).mono ?_); rintro e w30 ⟨rfl, hb⟩; refine ⟨_, rfl, ?_⟩; have n0_ := bb_ (bu_ BK377) hb; have n1_ := bb_ (bu_ BK378) hb; have n2_ := Aside0.mk (blk_below (o := .cells #[.int .i64 t381, .int .i64 t382, .string t383] 44 (0, 0)) (bp_ BK385) hb); have n3_ := bs_ (be_ HB) hb; clear BK377; clear BK378; clear BK385; clear HB; have BK377 := n0_; have BK378 := n1_; have BK385 := n2_; have HB := n3_; clear n0_ n1_ n2_ n3_; (try clear hcz29_0 hcz29_1 hcz29_2 hfz29_0 hfz29_1 hfz29_2); (try clear hb); (try clear hb2); (try clear hk); (try clear hi)) | ((with_reducible refine gate_dst (N := 11) rfl ?_); (try (refine gate_guard (by rfl) ?_; dsimp only)); refine box_event ?hg (N := 11) ?hd (cs := #[.int .i64 0, .int .i64 0, .string (⟨#[]⟩ : ByteArray)]) (t := 44) ?hr ?_; (case hd => rfl); (case hg => rfl); (case hr => first | (go_simp; done) | (go_simp; rfl)); intro gb390 hg w31 hbox hb; have n0_ := bb_ (bu_ BK377) hb; have n1_ := bb_ (bu_ BK378) hb; have n2_ := bb_ (bu_ BK385) hb; have n3_ := bs_ (be_ HB) hb; have n4_ := Aside0.mk (hbox); have n5_ := gs_ hg (be_ HB); have n6_ := gs_ hg (be_ HB); have n7_ := nl_ hg (bu_ BK377); have n8_ := ng_ hg (bu_ BK377); have n9_ := nl_ hg (bu_ BK378); have n10_ := ng_ hg (bu_ BK378); have n11_ := nl_ hg (bu_ BK385); have n12_ := ng_ hg (bu_ BK385); clear BK377; clear BK378; clear BK385; clear HB; have BK377 := n0_; have BK378 := n1_; have BK385 := n2_; have HB := n3_; have BK390 := n4_; have GW390 := n5_; have GE390 := n6_; have NB377_390 := n7_; have NB390_377 := n8_; have NB378_390 := n9_; have NB390_378 := n10_; have NB385_390 := n11_; have NB390_385 := n12_; clear n0_ n1_ n2_ n3_ n4_ n5_ n6_ n7_ n8_ n9_ n10_ n11_ n12_; clear hb hbox hg; have hnb32 := NB390_377.out; have hnc32 := NB377_390.out; have hnb33 := NB390_378.out; have hnc33 := NB378_390.out; have hnb34 := NB390_385.out; have hnc34 := NB385_390.out; have hcz35_0 : w31.cell? ⟨gb390, 0, none⟩ = some (.int .i64 0) := (blk_cell BK390.out 0).trans rfl; have hcz35_1 : w31.cell? ⟨gb390, 1, none⟩ = some (.int .i64 0) := (blk_cell BK390.out 1).trans rfl; have hcz35_2 : w31.cell? ⟨gb390, 2, none⟩ = some (.string (⟨#[]⟩ : ByteArray)) := (blk_cell BK390.out 2).trans rfl; have hfz35_0 := blk_frozen BK390.out 0; have hfz35_1 := blk_frozen BK390.out 1; have hfz35_2 := blk_frozen BK390.out 2))
        (try simp only [Act.put, List.setIfInBounds_toArray, List.set_cons_zero, List.set_cons_succ])
        go_cut [68] (fun v68 wc => ∃ (kq : Nat) (x68_20 : Bool), v68 = .bool x68_20 ∧ Aside0 (constablelaw01_ValExact.j1 kq t379 t380 x68_20 a0_0 a0_1 a0_2 = some r) ∧ Aside0 (kq ≤ kj3) ∧ Aside0 (wc.heap[gb377]? = some (.cells #[.int .i64 a0_0, .int .i64 a0_1, .string a0_2] 44 (0, 0))) ∧ Aside0 (wc.heap[gb378]? = some (.cells #[.int .i64 a1_0, .int .i64 a1_1, .string a1_2] 44 (0, 0))) ∧ Aside0 (wc.heap[gb385]? = some (.cells #[.int .i64 t381, .int .i64 t382, .string t383] 44 (0, 0))) ∧ Aside0 (wc.heap[gb390]? = some (.cells #[.int .i64 t386, .int .i64 t387, .string t388] 44 (0, 0))) ∧ Aside0 (Below w.heap.size w wc))
        case first =>
          have H := HC21.out
          clear HC21
          replace H := Option.bind_eq_some_iff.mp H
          obtain ⟨t391, A360, H⟩ := H
          replace H : ((constableref01_Values.f kj3 a0_0 a0_1 a0_2 a1_0 a1_1 a1_2).bind fun t392 => (if t391 = t392 then (if (t389 != (t384 == 0)) = true then (constablelaw01_ValExact.j1 kj3 t379 t380 true a0_0 a0_1 a0_2) else (if t389 = true then (constablelaw01_ValExact.j1 kj3 t379 t380 (!(t381 == t386) || (!(t382 == t387) || (!(t383.toList == t388.toList)))) a0_0 a0_1 a0_2) else (if t384 = 7 then (constablelaw01_ValExact.j1 kj3 t379 t380 (!(t381 == t386) || (!(t382 == t387) || (!(t383.toList == t388.toList)))) a0_0 a0_1 a0_2) else (constablelaw01_ValExact.j1 kj3 t379 t380 true a0_0 a0_1 a0_2)))) else (constablelaw01_ValExact.j1 kj3 t379 t380 true a0_0 a0_1 a0_2))) = some r := H
          have A36 := Aside0.mk A360
          clear A360
          replace H := Option.bind_eq_some_iff.mp H
          obtain ⟨t392, A370, H⟩ := H
          replace H : (if t391 = t392 then (if (t389 != (t384 == 0)) = true then (constablelaw01_ValExact.j1 kj3 t379 t380 true a0_0 a0_1 a0_2) else (if t389 = true then (constablelaw01_ValExact.j1 kj3 t379 t380 (!(t381 == t386) || (!(t382 == t387) || (!(t383.toList == t388.toList)))) a0_0 a0_1 a0_2) else (if t384 = 7 then (constablelaw01_ValExact.j1 kj3 t379 t380 (!(t381 == t386) || (!(t382 == t387) || (!(t383.toList == t388.toList)))) a0_0 a0_1 a0_2) else (constablelaw01_ValExact.j1 kj3 t379 t380 true a0_0 a0_1 a0_2)))) else (constablelaw01_ValExact.j1 kj3 t379 t380 true a0_0 a0_1 a0_2)) = some r := H
          have A37 := Aside0.mk A370
          clear A370
          by_cases c38 : t391 = t392
          · rw [if_pos c38] at H
            obtain ⟨c38b0, c38b1⟩ := eqB_ c38
            clear c38
            (first | rw [c38b0] | (simp only [i64_w, i32_w]; rw [c38b0]) | skip)
            by_cases c39 : (t389 != (t384 == 0)) = true
            · rw [if_pos c39] at H
              have c39b0 : (t389 != (t384 == 0)) = true := c39
              (try (have c39b1 : decide (t389 = (t384 == 0)) = false := by simpa using c39))
              (try (have c39b2 : (t389 == (t384 == 0)) = false := by simpa using c39))
              (try (have c39b3 : ¬ (t389 = (t384 == 0)) := by simpa using c39))
              clear c39
              have H' := Aside0.mk H
              clear H
              try go_wp2
              have n0_ : Aside0 ((((w31.setCell ⟨gb390, 0, none⟩ (.int .i64 t386)).setCell ⟨gb390, 1, none⟩ (.int .i64 t387)).setCell ⟨gb390, 2, none⟩ (.string t388)).heap[gb377]? = some (.cells #[.int .i64 a0_0, .int .i64 a0_1, .string a0_2] 44 (0, 0))) := ⟨by (with_reducible repeat (first | refine blk_drewN ?_ _ | refine blk_drew ?_ | refine blk_alloc ?_ _)); refine blk_far ?_ NB377_390.out _; (with_reducible repeat (first | refine blk_drewN ?_ _ | refine blk_drew ?_ | refine blk_alloc ?_ _)); refine blk_far ?_ NB377_390.out _; (with_reducible repeat (first | refine blk_drewN ?_ _ | refine blk_drew ?_ | refine blk_alloc ?_ _)); refine blk_far ?_ NB377_390.out _; (with_reducible repeat (first | refine blk_drewN ?_ _ | refine blk_drew ?_ | refine blk_alloc ?_ _)); exact BK377.out⟩
              have n1_ : Aside0 ((((w31.setCell ⟨gb390, 0, none⟩ (.int .i64 t386)).setCell ⟨gb390, 1, none⟩ (.int .i64 t387)).setCell ⟨gb390, 2, none⟩ (.string t388)).heap[gb378]? = some (.cells #[.int .i64 a1_0, .int .i64 a1_1, .string a1_2] 44 (0, 0))) := ⟨by (with_reducible repeat (first | refine blk_drewN ?_ _ | refine blk_drew ?_ | refine blk_alloc ?_ _)); refine blk_far ?_ NB378_390.out _; (with_reducible repeat (first | refine blk_drewN ?_ _ | refine blk_drew ?_ | refine blk_alloc ?_ _)); refine blk_far ?_ NB378_390.out _; (with_reducible repeat (first | refine blk_drewN ?_ _ | refine blk_drew ?_ | refine blk_alloc ?_ _)); refine blk_far ?_ NB378_390.out _; (with_reducible repeat (first | refine blk_drewN ?_ _ | refine blk_drew ?_ | refine blk_alloc ?_ _)); exact BK378.out⟩
              have n2_ : Aside0 ((((w31.setCell ⟨gb390, 0, none⟩ (.int .i64 t386)).setCell ⟨gb390, 1, none⟩ (.int .i64 t387)).setCell ⟨gb390, 2, none⟩ (.string t388)).heap[gb385]? = some (.cells #[.int .i64 t381, .int .i64 t382, .string t383] 44 (0, 0))) := ⟨by (with_reducible repeat (first | refine blk_drewN ?_ _ | refine blk_drew ?_ | refine blk_alloc ?_ _)); refine blk_far ?_ NB385_390.out _; (with_reducible repeat (first | refine blk_drewN ?_ _ | refine blk_drew ?_ | refine blk_alloc ?_ _)); refine blk_far ?_ NB385_390.out _; (with_reducible repeat (first | refine blk_drewN ?_ _ | refine blk_drew ?_ | refine blk_alloc ?_ _)); refine blk_far ?_ NB385_390.out _; (with_reducible repeat (first | refine blk_drewN ?_ _ | refine blk_drew ?_ | refine blk_alloc ?_ _)); exact BK385.out⟩
              have n3_ : Aside0 ((((w31.setCell ⟨gb390, 0, none⟩ (.int .i64 t386)).setCell ⟨gb390, 1, none⟩ (.int .i64 t387)).setCell ⟨gb390, 2, none⟩ (.string t388)).heap[gb390]? = some (.cells #[.int .i64 t386, .int .i64 t387, .string t388] 44 (0, 0))) := ⟨by (with_reducible repeat (first | refine blk_drewN ?_ _ | refine blk_drew ?_ | refine blk_alloc ?_ _)); refine blk_put (cs := #[.int .i64 t386, .int .i64 t387, .string (⟨#[]⟩ : ByteArray)]) ?_ 2 _ rfl; (with_reducible repeat (first | refine blk_drewN ?_ _ | refine blk_drew ?_ | refine blk_alloc ?_ _)); refine blk_put (cs := #[.int .i64 t386, .int .i64 0, .string (⟨#[]⟩ : ByteArray)]) ?_ 1 _ rfl; (with_reducible repeat (first | refine blk_drewN ?_ _ | refine blk_drew ?_ | refine blk_alloc ?_ _)); refine blk_put (cs := #[.int .i64 0, .int .i64 0, .string (⟨#[]⟩ : ByteArray)]) ?_ 0 _ rfl; (with_reducible repeat (first | refine blk_drewN ?_ _ | refine blk_drew ?_ | refine blk_alloc ?_ _)); exact BK390.out⟩
              have n4_ : Aside0 (Below w.heap.size w (((w31.setCell ⟨gb390, 0, none⟩ (.int .i64 t386)).setCell ⟨gb390, 1, none⟩ (.int .i64 t387)).setCell ⟨gb390, 2, none⟩ (.string t388))) := ⟨by repeat (first | (with_reducible first | exact HB.out | apply below_alloc | apply pw_below_drewN | apply below_drew1 | refine below_set ?_ GE377.out | refine below_set ?_ GE378.out | refine below_set ?_ GE385.out | refine below_set ?_ GE390.out) | exact HB.out)⟩
              (try clear BK377)
              (try clear BK378)
              (try clear BK385)
              (try clear BK390)
              (try clear HB)
              generalize (((w31.setCell ⟨gb390, 0, none⟩ (.int .i64 t386)).setCell ⟨gb390, 1, none⟩ (.int .i64 t387)).setCell ⟨gb390, 2, none⟩ (.string t388)) = w40 at n0_ n1_ n2_ n3_ n4_ ⊢
              have BK377 := n0_
              have BK378 := n1_
              have BK385 := n2_
              have BK390 := n3_
              have HB := n4_
              clear n0_ n1_ n2_ n3_ n4_
              have n0_ := Aside0.mk (blk_drew BK377.out)
              have n1_ := Aside0.mk (blk_drew BK378.out)
              have n2_ := Aside0.mk (blk_drew BK385.out)
              have n3_ := Aside0.mk (blk_drew BK390.out)
              have n4_ := Aside0.mk (below_drew1 HB.out)
              clear BK377
              clear BK378
              clear BK385
              clear BK390
              clear HB
              have BK377 := n0_
              have BK378 := n1_
              have BK385 := n2_
              have BK390 := n3_
              have HB := n4_
              clear n0_ n1_ n2_ n3_ n4_
              refine start_ (n := 26) (S := fun w' => w'.cell? ⟨gb377, 0, none⟩ = some (.int .i64 a0_0) ∧ w'.cell? ⟨gb377, 1, none⟩ = some (.int .i64 a0_1) ∧ w'.cell? ⟨gb377, 2, none⟩ = some (.string a0_2) ∧ w'.cell? ⟨gb378, 0, none⟩ = some (.int .i64 a1_0) ∧ w'.cell? ⟨gb378, 1, none⟩ = some (.int .i64 a1_1) ∧ w'.cell? ⟨gb378, 2, none⟩ = some (.string a1_2)) (ds := []) (mk_ 26 0) (by kernel_rfl) rfl rfl ⟨(blk_cell BK377.out 0).trans rfl, (blk_cell BK377.out 1).trans rfl, (blk_cell BK377.out 2).trans rfl, (blk_cell BK378.out 0).trans rfl, (blk_cell BK378.out 1).trans rfl, (blk_cell BK378.out 2).trans rfl⟩ (fun hHeld => ?_); refine with_tabW constablelaw01_ValExact.tab6 constablelaw01_ValExact.bits6 (fun HT_ HW_ => ?_)
              generalize w40.drew = w41 at BK377 BK378 BK385 BK390 HB hHeld ⊢
              refine tk_ 0 43 1 HT_ HW_ hHeld ?_; refine tk_ 1 44 3 HT_ HW_ hHeld ?_; refine tk_ 3 46 11 HT_ HW_ hHeld ?_; refine tk_ 4 47 27 HT_ HW_ hHeld ?_
              refine one_ (i := 2) (N := some 45) (mk_ 26 31) rfl rfl (one_of HT_.out (by kernel_rfl)) (by decide) (fun K hK => ?_)
              refine goes_ Tryd.func29 (by kernel_rfl) rfl #[.agg #[.int .i64 a0_0, .int .i64 a0_1, .string a0_2], .agg #[.int .i64 a1_0, .int .i64 a1_1, .string a1_2]] (by rfl) rfl rfl ga_ ?_
              with_reducible refine (val_Compare.calls kj3 a0_0 a0_1 a0_2 a1_0 a1_1 a1_2 t391 _ A36.out).mono ?_
              rintro e w42 ⟨rfl, hb⟩
              refine ⟨_, rfl, ?_⟩
              have n0_ := bb_ (bu_ BK377) hb
              have n1_ := bb_ (bu_ BK378) hb
              have n2_ := bb_ (bu_ BK385) hb
              have n3_ := bb_ (bu_ BK390) hb
              have n4_ := bs_ (be_ HB) hb
              clear BK377
              clear BK378
              clear BK385
              clear BK390
              clear HB
              have BK377 := n0_
              have BK378 := n1_
              have BK385 := n2_
              have BK390 := n3_
              have HB := n4_
              clear n0_ n1_ n2_ n3_ n4_
              (try clear hb)
              (try clear hb2)
              (try clear hk)
              (try clear hi)
              refine hK.out _ _ ⟨(blk_cell BK377.out 0).trans rfl, (blk_cell BK377.out 1).trans rfl, (blk_cell BK377.out 2).trans rfl, (blk_cell BK378.out 0).trans rfl, (blk_cell BK378.out 1).trans rfl, (blk_cell BK378.out 2).trans rfl⟩ (fun hHeld => ?_)
              clear hK K
              refine nm_ 45 ?_
              refine one_ (i := 5) (N := some 48) (mk_ 26 63) rfl rfl (one_of HT_.out (by kernel_rfl)) (by decide) (fun K hK => ?_)
              refine goes_ Tryd.func30 (by kernel_rfl) rfl #[.agg #[.int .i64 a0_0, .int .i64 a0_1, .string a0_2], .agg #[.int .i64 a1_0, .int .i64 a1_1, .string a1_2]] (by rfl) rfl rfl ga_ ?_
              with_reducible refine (constableref01_Values.calls kj3 a0_0 a0_1 a0_2 a1_0 a1_1 a1_2 t392 _ A37.out).mono ?_
              rintro e w43 ⟨rfl, hb⟩
              refine ⟨_, rfl, ?_⟩
              have n0_ := bb_ (bu_ BK377) hb
              have n1_ := bb_ (bu_ BK378) hb
              have n2_ := bb_ (bu_ BK385) hb
              have n3_ := bb_ (bu_ BK390) hb
              have n4_ := bs_ (be_ HB) hb
              clear BK377
              clear BK378
              clear BK385
              clear BK390
              clear HB
              have BK377 := n0_
              have BK378 := n1_
              have BK385 := n2_
              have BK390 := n3_
              have HB := n4_
              clear n0_ n1_ n2_ n3_ n4_
              (try clear hb)
              (try clear hb2)
              (try clear hk)
              (try clear hi)
              refine hK.out _ _ ⟨(blk_cell BK377.out 0).trans rfl, (blk_cell BK377.out 1).trans rfl, (blk_cell BK377.out 2).trans rfl, (blk_cell BK378.out 0).trans rfl, (blk_cell BK378.out 1).trans rfl, (blk_cell BK378.out 2).trans rfl⟩ (fun hHeld => ?_)
              clear hK K
              refine nm_ 48 ?_; refine pu_ 6 49 127 HT_ ?_; refine pu_ 7 50 255 HT_ ?_; refine pu_ 8 51 511 HT_ ?_; refine pu_ 9 52 1023 HT_ ?_; refine pu_ 10 53 2047 HT_ ?_; refine pu_ 11 54 4095 HT_ ?_; refine pu_ 12 55 8191 HT_ ?_; refine pu_ 13 56 16383 HT_ ?_; refine pn_ 14 57 32767 HT_ ?_; refine pn_ 15 58 65535 HT_ ?_; refine pn_ 16 59 131071 HT_ ?_; refine pn_ 17 60 262143 HT_ ?_; refine pn_ 18 61 524287 HT_ ?_; refine pn_ 19 62 1048575 HT_ ?_; refine pu_ 20 63 2097151 HT_ ?_; refine pu_ 21 64 4194303 HT_ ?_; refine pn_ 22 65 8388607 HT_ ?_; refine pn_ 23 66 16777215 HT_ ?_; refine pn_ 24 67 33554431 HT_ ?_; refine pu_ 25 68 67108863 HT_ ?_
              refine done_ (done_of HT_.out (by kernel_rfl)) ?_
              try go_wp2
              go_meet
              case rel => exact ⟨_, (true), ra_, H', ⟨by have := HJ3.out; first | omega | exact Nat.le_refl _⟩, ⟨by (with_reducible repeat (first | refine blk_drewN ?_ _ | refine blk_drew ?_ | refine blk_alloc ?_ _)); exact BK377.out⟩, ⟨by (with_reducible repeat (first | refine blk_drewN ?_ _ | refine blk_drew ?_ | refine blk_alloc ?_ _)); exact BK378.out⟩, ⟨by (with_reducible repeat (first | refine blk_drewN ?_ _ | refine blk_drew ?_ | refine blk_alloc ?_ _)); exact BK385.out⟩, ⟨by (with_reducible repeat (first | refine blk_drewN ?_ _ | refine blk_drew ?_ | refine blk_alloc ?_ _)); exact BK390.out⟩, ⟨by repeat (first | (with_reducible first | exact HB.out | apply below_alloc | apply pw_below_drewN | apply below_drew1 | refine below_set ?_ GE377.out | refine below_set ?_ GE378.out | refine below_set ?_ GE385.out | refine below_set ?_ GE390.out) | exact HB.out)⟩⟩
            · rw [if_neg c39] at H
              have c39b0 : (t389 != (t384 == 0)) = false := by simpa using c39
              (try (have c39b1 : decide (t389 = (t384 == 0)) = true := by simpa using c39))
              (try (have c39b2 : (t389 == (t384 == 0)) = true := by simpa using c39))
              clear c39
              by_cases c44 : t389 = true
              · subst c44
                have H1 : (constablelaw01_ValExact.j1 kj3 t379 t380 (!(t381 == t386) || (!(t382 == t387) || (!(t383.toList == t388.toList)))) a0_0 a0_1 a0_2) = some r := by rw [if_pos rfl] at H; exact H
                clear H
                have H := H1
                clear H1
                have H' := Aside0.mk H
                clear H
                try go_wp2
                have n0_ : Aside0 ((((w31.setCell ⟨gb390, 0, none⟩ (.int .i64 t386)).setCell ⟨gb390, 1, none⟩ (.int .i64 t387)).setCell ⟨gb390, 2, none⟩ (.string t388)).heap[gb377]? = some (.cells #[.int .i64 a0_0, .int .i64 a0_1, .string a0_2] 44 (0, 0))) := ⟨by (with_reducible repeat (first | refine blk_drewN ?_ _ | refine blk_drew ?_ | refine blk_alloc ?_ _)); refine blk_far ?_ NB377_390.out _; (with_reducible repeat (first | refine blk_drewN ?_ _ | refine blk_drew ?_ | refine blk_alloc ?_ _)); refine blk_far ?_ NB377_390.out _; (with_reducible repeat (first | refine blk_drewN ?_ _ | refine blk_drew ?_ | refine blk_alloc ?_ _)); refine blk_far ?_ NB377_390.out _; (with_reducible repeat (first | refine blk_drewN ?_ _ | refine blk_drew ?_ | refine blk_alloc ?_ _)); exact BK377.out⟩
                have n1_ : Aside0 ((((w31.setCell ⟨gb390, 0, none⟩ (.int .i64 t386)).setCell ⟨gb390, 1, none⟩ (.int .i64 t387)).setCell ⟨gb390, 2, none⟩ (.string t388)).heap[gb378]? = some (.cells #[.int .i64 a1_0, .int .i64 a1_1, .string a1_2] 44 (0, 0))) := ⟨by (with_reducible repeat (first | refine blk_drewN ?_ _ | refine blk_drew ?_ | refine blk_alloc ?_ _)); refine blk_far ?_ NB378_390.out _; (with_reducible repeat (first | refine blk_drewN ?_ _ | refine blk_drew ?_ | refine blk_alloc ?_ _)); refine blk_far ?_ NB378_390.out _; (with_reducible repeat (first | refine blk_drewN ?_ _ | refine blk_drew ?_ | refine blk_alloc ?_ _)); refine blk_far ?_ NB378_390.out _; (with_reducible repeat (first | refine blk_drewN ?_ _ | refine blk_drew ?_ | refine blk_alloc ?_ _)); exact BK378.out⟩
                have n2_ : Aside0 ((((w31.setCell ⟨gb390, 0, none⟩ (.int .i64 t386)).setCell ⟨gb390, 1, none⟩ (.int .i64 t387)).setCell ⟨gb390, 2, none⟩ (.string t388)).heap[gb385]? = some (.cells #[.int .i64 t381, .int .i64 t382, .string t383] 44 (0, 0))) := ⟨by (with_reducible repeat (first | refine blk_drewN ?_ _ | refine blk_drew ?_ | refine blk_alloc ?_ _)); refine blk_far ?_ NB385_390.out _; (with_reducible repeat (first | refine blk_drewN ?_ _ | refine blk_drew ?_ | refine blk_alloc ?_ _)); refine blk_far ?_ NB385_390.out _; (with_reducible repeat (first | refine blk_drewN ?_ _ | refine blk_drew ?_ | refine blk_alloc ?_ _)); refine blk_far ?_ NB385_390.out _; (with_reducible repeat (first | refine blk_drewN ?_ _ | refine blk_drew ?_ | refine blk_alloc ?_ _)); exact BK385.out⟩
                have n3_ : Aside0 ((((w31.setCell ⟨gb390, 0, none⟩ (.int .i64 t386)).setCell ⟨gb390, 1, none⟩ (.int .i64 t387)).setCell ⟨gb390, 2, none⟩ (.string t388)).heap[gb390]? = some (.cells #[.int .i64 t386, .int .i64 t387, .string t388] 44 (0, 0))) := ⟨by (with_reducible repeat (first | refine blk_drewN ?_ _ | refine blk_drew ?_ | refine blk_alloc ?_ _)); refine blk_put (cs := #[.int .i64 t386, .int .i64 t387, .string (⟨#[]⟩ : ByteArray)]) ?_ 2 _ rfl; (with_reducible repeat (first | refine blk_drewN ?_ _ | refine blk_drew ?_ | refine blk_alloc ?_ _)); refine blk_put (cs := #[.int .i64 t386, .int .i64 0, .string (⟨#[]⟩ : ByteArray)]) ?_ 1 _ rfl; (with_reducible repeat (first | refine blk_drewN ?_ _ | refine blk_drew ?_ | refine blk_alloc ?_ _)); refine blk_put (cs := #[.int .i64 0, .int .i64 0, .string (⟨#[]⟩ : ByteArray)]) ?_ 0 _ rfl; (with_reducible repeat (first | refine blk_drewN ?_ _ | refine blk_drew ?_ | refine blk_alloc ?_ _)); exact BK390.out⟩
                have n4_ : Aside0 (Below w.heap.size w (((w31.setCell ⟨gb390, 0, none⟩ (.int .i64 t386)).setCell ⟨gb390, 1, none⟩ (.int .i64 t387)).setCell ⟨gb390, 2, none⟩ (.string t388))) := ⟨by repeat (first | (with_reducible first | exact HB.out | apply below_alloc | apply pw_below_drewN | apply below_drew1 | refine below_set ?_ GE377.out | refine below_set ?_ GE378.out | refine below_set ?_ GE385.out | refine below_set ?_ GE390.out) | exact HB.out)⟩
                (try clear BK377)
                (try clear BK378)
                (try clear BK385)
                (try clear BK390)
                (try clear HB)
                generalize (((w31.setCell ⟨gb390, 0, none⟩ (.int .i64 t386)).setCell ⟨gb390, 1, none⟩ (.int .i64 t387)).setCell ⟨gb390, 2, none⟩ (.string t388)) = w45 at n0_ n1_ n2_ n3_ n4_ ⊢
                have BK377 := n0_
                have BK378 := n1_
                have BK385 := n2_
                have BK390 := n3_
                have HB := n4_
                clear n0_ n1_ n2_ n3_ n4_
                have n0_ := Aside0.mk (blk_drew BK377.out)
                have n1_ := Aside0.mk (blk_drew BK378.out)
                have n2_ := Aside0.mk (blk_drew BK385.out)
                have n3_ := Aside0.mk (blk_drew BK390.out)
                have n4_ := Aside0.mk (below_drew1 HB.out)
                clear BK377
                clear BK378
                clear BK385
                clear BK390
                clear HB
                have BK377 := n0_
                have BK378 := n1_
                have BK385 := n2_
                have BK390 := n3_
                have HB := n4_
                clear n0_ n1_ n2_ n3_ n4_
                refine start_ (n := 26) (S := fun w' => w'.cell? ⟨gb377, 0, none⟩ = some (.int .i64 a0_0) ∧ w'.cell? ⟨gb377, 1, none⟩ = some (.int .i64 a0_1) ∧ w'.cell? ⟨gb377, 2, none⟩ = some (.string a0_2) ∧ w'.cell? ⟨gb378, 0, none⟩ = some (.int .i64 a1_0) ∧ w'.cell? ⟨gb378, 1, none⟩ = some (.int .i64 a1_1) ∧ w'.cell? ⟨gb378, 2, none⟩ = some (.string a1_2) ∧ w'.cell? ⟨gb385, 0, none⟩ = some (.int .i64 t381) ∧ w'.cell? ⟨gb385, 1, none⟩ = some (.int .i64 t382) ∧ w'.cell? ⟨gb385, 2, none⟩ = some (.string t383) ∧ w'.cell? ⟨gb390, 0, none⟩ = some (.int .i64 t386) ∧ w'.cell? ⟨gb390, 1, none⟩ = some (.int .i64 t387) ∧ w'.cell? ⟨gb390, 2, none⟩ = some (.string t388)) (ds := []) (mk_ 26 0) (by kernel_rfl) rfl rfl ⟨(blk_cell BK377.out 0).trans rfl, (blk_cell BK377.out 1).trans rfl, (blk_cell BK377.out 2).trans rfl, (blk_cell BK378.out 0).trans rfl, (blk_cell BK378.out 1).trans rfl, (blk_cell BK378.out 2).trans rfl, (blk_cell BK385.out 0).trans rfl, (blk_cell BK385.out 1).trans rfl, (blk_cell BK385.out 2).trans rfl, (blk_cell BK390.out 0).trans rfl, (blk_cell BK390.out 1).trans rfl, (blk_cell BK390.out 2).trans rfl⟩ (fun hHeld => ?_); refine with_tabW constablelaw01_ValExact.tab6 constablelaw01_ValExact.bits6 (fun HT_ HW_ => ?_)
                generalize w45.drew = w46 at BK377 BK378 BK385 BK390 HB hHeld ⊢
                refine tk_ 0 43 1 HT_ HW_ hHeld ?_; refine tk_ 1 44 3 HT_ HW_ hHeld ?_; refine tk_ 3 46 11 HT_ HW_ hHeld ?_; refine tk_ 4 47 27 HT_ HW_ hHeld ?_
                refine one_ (i := 2) (N := some 45) (mk_ 26 31) rfl rfl (one_of HT_.out (by kernel_rfl)) (by decide) (fun K hK => ?_)
                refine goes_ Tryd.func29 (by kernel_rfl) rfl #[.agg #[.int .i64 a0_0, .int .i64 a0_1, .string a0_2], .agg #[.int .i64 a1_0, .int .i64 a1_1, .string a1_2]] (by rfl) rfl rfl ga_ ?_
                with_reducible refine (val_Compare.calls kj3 a0_0 a0_1 a0_2 a1_0 a1_1 a1_2 t391 _ A36.out).mono ?_
                rintro e w47 ⟨rfl, hb⟩
                refine ⟨_, rfl, ?_⟩
                have n0_ := bb_ (bu_ BK377) hb
                have n1_ := bb_ (bu_ BK378) hb
                have n2_ := bb_ (bu_ BK385) hb
                have n3_ := bb_ (bu_ BK390) hb
                have n4_ := bs_ (be_ HB) hb
                clear BK377
                clear BK378
                clear BK385
                clear BK390
                clear HB
                have BK377 := n0_
                have BK378 := n1_
                have BK385 := n2_
                have BK390 := n3_
                have HB := n4_
                clear n0_ n1_ n2_ n3_ n4_
                (try clear hb)
                (try clear hb2)
                (try clear hk)
                (try clear hi)
                refine hK.out _ _ ⟨(blk_cell BK377.out 0).trans rfl, (blk_cell BK377.out 1).trans rfl, (blk_cell BK377.out 2).trans rfl, (blk_cell BK378.out 0).trans rfl, (blk_cell BK378.out 1).trans rfl, (blk_cell BK378.out 2).trans rfl, (blk_cell BK385.out 0).trans rfl, (blk_cell BK385.out 1).trans rfl, (blk_cell BK385.out 2).trans rfl, (blk_cell BK390.out 0).trans rfl, (blk_cell BK390.out 1).trans rfl, (blk_cell BK390.out 2).trans rfl⟩ (fun hHeld => ?_)
                clear hK K
                refine nm_ 45 ?_
                refine one_ (i := 5) (N := some 48) (mk_ 26 63) rfl rfl (one_of HT_.out (by kernel_rfl)) (by decide) (fun K hK => ?_)
                refine goes_ Tryd.func30 (by kernel_rfl) rfl #[.agg #[.int .i64 a0_0, .int .i64 a0_1, .string a0_2], .agg #[.int .i64 a1_0, .int .i64 a1_1, .string a1_2]] (by rfl) rfl rfl ga_ ?_
                with_reducible refine (constableref01_Values.calls kj3 a0_0 a0_1 a0_2 a1_0 a1_1 a1_2 t392 _ A37.out).mono ?_
                rintro e w48 ⟨rfl, hb⟩
                refine ⟨_, rfl, ?_⟩
                have n0_ := bb_ (bu_ BK377) hb
                have n1_ := bb_ (bu_ BK378) hb
                have n2_ := bb_ (bu_ BK385) hb
                have n3_ := bb_ (bu_ BK390) hb
                have n4_ := bs_ (be_ HB) hb
                clear BK377
                clear BK378
                clear BK385
                clear BK390
                clear HB
                have BK377 := n0_
                have BK378 := n1_
                have BK385 := n2_
                have BK390 := n3_
                have HB := n4_
                clear n0_ n1_ n2_ n3_ n4_
                (try clear hb)
                (try clear hb2)
                (try clear hk)
                (try clear hi)
                refine hK.out _ _ ⟨(blk_cell BK377.out 0).trans rfl, (blk_cell BK377.out 1).trans rfl, (blk_cell BK377.out 2).trans rfl, (blk_cell BK378.out 0).trans rfl, (blk_cell BK378.out 1).trans rfl, (blk_cell BK378.out 2).trans rfl, (blk_cell BK385.out 0).trans rfl, (blk_cell BK385.out 1).trans rfl, (blk_cell BK385.out 2).trans rfl, (blk_cell BK390.out 0).trans rfl, (blk_cell BK390.out 1).trans rfl, (blk_cell BK390.out 2).trans rfl⟩ (fun hHeld => ?_)
                clear hK K
                refine nm_ 48 ?_; refine pu_ 6 49 127 HT_ ?_; refine pu_ 7 50 255 HT_ ?_; refine pu_ 8 51 511 HT_ ?_; refine pu_ 9 52 1023 HT_ ?_; refine pu_ 10 53 2047 HT_ ?_; refine pu_ 11 54 4095 HT_ ?_; refine pu_ 12 55 8191 HT_ ?_; refine pu_ 13 56 16383 HT_ ?_; refine pu_ 14 57 32767 HT_ ?_; refine pu_ 15 58 65535 HT_ ?_; refine pu_ 16 59 131071 HT_ ?_; refine pn_ 17 60 262143 HT_ ?_; refine pn_ 18 61 524287 HT_ ?_; refine pu_ 19 62 1048575 HT_ ?_; refine pu_ 20 63 2097151 HT_ ?_; refine pu_ 21 64 4194303 HT_ ?_; refine tk_ 22 65 8388607 HT_ HW_ hHeld ?_; refine tk_ 23 66 16777215 HT_ HW_ hHeld ?_; refine pu_ 24 67 33554431 HT_ ?_; refine pu_ 25 68 67108863 HT_ ?_
                refine done_ (done_of HT_.out (by kernel_rfl)) ?_
                try go_wp2
                go_meet
                case rel => exact ⟨_, ((!(t381 == t386) || (!(t382 == t387) || (!(t383.toList == t388.toList))))), ra_, H', ⟨by have := HJ3.out; first | omega | exact Nat.le_refl _⟩, ⟨by (with_reducible repeat (first | refine blk_drewN ?_ _ | refine blk_drew ?_ | refine blk_alloc ?_ _)); exact BK377.out⟩, ⟨by (with_reducible repeat (first | refine blk_drewN ?_ _ | refine blk_drew ?_ | refine blk_alloc ?_ _)); exact BK378.out⟩, ⟨by (with_reducible repeat (first | refine blk_drewN ?_ _ | refine blk_drew ?_ | refine blk_alloc ?_ _)); exact BK385.out⟩, ⟨by (with_reducible repeat (first | refine blk_drewN ?_ _ | refine blk_drew ?_ | refine blk_alloc ?_ _)); exact BK390.out⟩, ⟨by repeat (first | (with_reducible first | exact HB.out | apply below_alloc | apply pw_below_drewN | apply below_drew1 | refine below_set ?_ GE377.out | refine below_set ?_ GE378.out | refine below_set ?_ GE385.out | refine below_set ?_ GE390.out) | exact HB.out)⟩⟩
              · replace c44 := Bool.eq_false_iff.mpr c44
                subst c44
                have H1 : (if t384 = 7 then (constablelaw01_ValExact.j1 kj3 t379 t380 (!(t381 == t386) || (!(t382 == t387) || (!(t383.toList == t388.toList)))) a0_0 a0_1 a0_2) else (constablelaw01_ValExact.j1 kj3 t379 t380 true a0_0 a0_1 a0_2)) = some r := by rw [if_neg (show ¬ (false = true) by decide)] at H; exact H
                clear H
                have H := H1
                clear H1
                by_cases c49 : t384 = 7
                · rw [if_pos c49] at H
                  obtain ⟨c49b0, c49b1⟩ := eqB_ c49
                  clear c49
                  have H' := Aside0.mk H
                  clear H
                  try go_wp2
                  have n0_ : Aside0 ((((w31.setCell ⟨gb390, 0, none⟩ (.int .i64 t386)).setCell ⟨gb390, 1, none⟩ (.int .i64 t387)).setCell ⟨gb390, 2, none⟩ (.string t388)).heap[gb377]? = some (.cells #[.int .i64 a0_0, .int .i64 a0_1, .string a0_2] 44 (0, 0))) := ⟨by (with_reducible repeat (first | refine blk_drewN ?_ _ | refine blk_drew ?_ | refine blk_alloc ?_ _)); refine blk_far ?_ NB377_390.out _; (with_reducible repeat (first | refine blk_drewN ?_ _ | refine blk_drew ?_ | refine blk_alloc ?_ _)); refine blk_far ?_ NB377_390.out _; (with_reducible repeat (first | refine blk_drewN ?_ _ | refine blk_drew ?_ | refine blk_alloc ?_ _)); refine blk_far ?_ NB377_390.out _; (with_reducible repeat (first | refine blk_drewN ?_ _ | refine blk_drew ?_ | refine blk_alloc ?_ _)); exact BK377.out⟩
                  have n1_ : Aside0 ((((w31.setCell ⟨gb390, 0, none⟩ (.int .i64 t386)).setCell ⟨gb390, 1, none⟩ (.int .i64 t387)).setCell ⟨gb390, 2, none⟩ (.string t388)).heap[gb378]? = some (.cells #[.int .i64 a1_0, .int .i64 a1_1, .string a1_2] 44 (0, 0))) := ⟨by (with_reducible repeat (first | refine blk_drewN ?_ _ | refine blk_drew ?_ | refine blk_alloc ?_ _)); refine blk_far ?_ NB378_390.out _; (with_reducible repeat (first | refine blk_drewN ?_ _ | refine blk_drew ?_ | refine blk_alloc ?_ _)); refine blk_far ?_ NB378_390.out _; (with_reducible repeat (first | refine blk_drewN ?_ _ | refine blk_drew ?_ | refine blk_alloc ?_ _)); refine blk_far ?_ NB378_390.out _; (with_reducible repeat (first | refine blk_drewN ?_ _ | refine blk_drew ?_ | refine blk_alloc ?_ _)); exact BK378.out⟩
                  have n2_ : Aside0 ((((w31.setCell ⟨gb390, 0, none⟩ (.int .i64 t386)).setCell ⟨gb390, 1, none⟩ (.int .i64 t387)).setCell ⟨gb390, 2, none⟩ (.string t388)).heap[gb385]? = some (.cells #[.int .i64 t381, .int .i64 t382, .string t383] 44 (0, 0))) := ⟨by (with_reducible repeat (first | refine blk_drewN ?_ _ | refine blk_drew ?_ | refine blk_alloc ?_ _)); refine blk_far ?_ NB385_390.out _; (with_reducible repeat (first | refine blk_drewN ?_ _ | refine blk_drew ?_ | refine blk_alloc ?_ _)); refine blk_far ?_ NB385_390.out _; (with_reducible repeat (first | refine blk_drewN ?_ _ | refine blk_drew ?_ | refine blk_alloc ?_ _)); refine blk_far ?_ NB385_390.out _; (with_reducible repeat (first | refine blk_drewN ?_ _ | refine blk_drew ?_ | refine blk_alloc ?_ _)); exact BK385.out⟩
                  have n3_ : Aside0 ((((w31.setCell ⟨gb390, 0, none⟩ (.int .i64 t386)).setCell ⟨gb390, 1, none⟩ (.int .i64 t387)).setCell ⟨gb390, 2, none⟩ (.string t388)).heap[gb390]? = some (.cells #[.int .i64 t386, .int .i64 t387, .string t388] 44 (0, 0))) := ⟨by (with_reducible repeat (first | refine blk_drewN ?_ _ | refine blk_drew ?_ | refine blk_alloc ?_ _)); refine blk_put (cs := #[.int .i64 t386, .int .i64 t387, .string (⟨#[]⟩ : ByteArray)]) ?_ 2 _ rfl; (with_reducible repeat (first | refine blk_drewN ?_ _ | refine blk_drew ?_ | refine blk_alloc ?_ _)); refine blk_put (cs := #[.int .i64 t386, .int .i64 0, .string (⟨#[]⟩ : ByteArray)]) ?_ 1 _ rfl; (with_reducible repeat (first | refine blk_drewN ?_ _ | refine blk_drew ?_ | refine blk_alloc ?_ _)); refine blk_put (cs := #[.int .i64 0, .int .i64 0, .string (⟨#[]⟩ : ByteArray)]) ?_ 0 _ rfl; (with_reducible repeat (first | refine blk_drewN ?_ _ | refine blk_drew ?_ | refine blk_alloc ?_ _)); exact BK390.out⟩
                  have n4_ : Aside0 (Below w.heap.size w (((w31.setCell ⟨gb390, 0, none⟩ (.int .i64 t386)).setCell ⟨gb390, 1, none⟩ (.int .i64 t387)).setCell ⟨gb390, 2, none⟩ (.string t388))) := ⟨by repeat (first | (with_reducible first | exact HB.out | apply below_alloc | apply pw_below_drewN | apply below_drew1 | refine below_set ?_ GE377.out | refine below_set ?_ GE378.out | refine below_set ?_ GE385.out | refine below_set ?_ GE390.out) | exact HB.out)⟩
                  (try clear BK377)
                  (try clear BK378)
                  (try clear BK385)
                  (try clear BK390)
                  (try clear HB)
                  generalize (((w31.setCell ⟨gb390, 0, none⟩ (.int .i64 t386)).setCell ⟨gb390, 1, none⟩ (.int .i64 t387)).setCell ⟨gb390, 2, none⟩ (.string t388)) = w50 at n0_ n1_ n2_ n3_ n4_ ⊢
                  have BK377 := n0_
                  have BK378 := n1_
                  have BK385 := n2_
                  have BK390 := n3_
                  have HB := n4_
                  clear n0_ n1_ n2_ n3_ n4_
                  have n0_ := Aside0.mk (blk_drew BK377.out)
                  have n1_ := Aside0.mk (blk_drew BK378.out)
                  have n2_ := Aside0.mk (blk_drew BK385.out)
                  have n3_ := Aside0.mk (blk_drew BK390.out)
                  have n4_ := Aside0.mk (below_drew1 HB.out)
                  clear BK377
                  clear BK378
                  clear BK385
                  clear BK390
                  clear HB
                  have BK377 := n0_
                  have BK378 := n1_
                  have BK385 := n2_
                  have BK390 := n3_
                  have HB := n4_
                  clear n0_ n1_ n2_ n3_ n4_
                  refine start_ (n := 26) (S := fun w' => w'.cell? ⟨gb377, 0, none⟩ = some (.int .i64 a0_0) ∧ w'.cell? ⟨gb377, 1, none⟩ = some (.int .i64 a0_1) ∧ w'.cell? ⟨gb377, 2, none⟩ = some (.string a0_2) ∧ w'.cell? ⟨gb378, 0, none⟩ = some (.int .i64 a1_0) ∧ w'.cell? ⟨gb378, 1, none⟩ = some (.int .i64 a1_1) ∧ w'.cell? ⟨gb378, 2, none⟩ = some (.string a1_2) ∧ w'.cell? ⟨gb385, 0, none⟩ = some (.int .i64 t381) ∧ w'.cell? ⟨gb385, 1, none⟩ = some (.int .i64 t382) ∧ w'.cell? ⟨gb385, 2, none⟩ = some (.string t383) ∧ w'.cell? ⟨gb390, 0, none⟩ = some (.int .i64 t386) ∧ w'.cell? ⟨gb390, 1, none⟩ = some (.int .i64 t387) ∧ w'.cell? ⟨gb390, 2, none⟩ = some (.string t388)) (ds := []) (mk_ 26 0) (by kernel_rfl) rfl rfl ⟨(blk_cell BK377.out 0).trans rfl, (blk_cell BK377.out 1).trans rfl, (blk_cell BK377.out 2).trans rfl, (blk_cell BK378.out 0).trans rfl, (blk_cell BK378.out 1).trans rfl, (blk_cell BK378.out 2).trans rfl, (blk_cell BK385.out 0).trans rfl, (blk_cell BK385.out 1).trans rfl, (blk_cell BK385.out 2).trans rfl, (blk_cell BK390.out 0).trans rfl, (blk_cell BK390.out 1).trans rfl, (blk_cell BK390.out 2).trans rfl⟩ (fun hHeld => ?_); refine with_tabW constablelaw01_ValExact.tab6 constablelaw01_ValExact.bits6 (fun HT_ HW_ => ?_)
                  generalize w50.drew = w51 at BK377 BK378 BK385 BK390 HB hHeld ⊢
                  refine tk_ 0 43 1 HT_ HW_ hHeld ?_; refine tk_ 1 44 3 HT_ HW_ hHeld ?_; refine tk_ 3 46 11 HT_ HW_ hHeld ?_; refine tk_ 4 47 27 HT_ HW_ hHeld ?_
                  refine one_ (i := 2) (N := some 45) (mk_ 26 31) rfl rfl (one_of HT_.out (by kernel_rfl)) (by decide) (fun K hK => ?_)
                  refine goes_ Tryd.func29 (by kernel_rfl) rfl #[.agg #[.int .i64 a0_0, .int .i64 a0_1, .string a0_2], .agg #[.int .i64 a1_0, .int .i64 a1_1, .string a1_2]] (by rfl) rfl rfl ga_ ?_
                  with_reducible refine (val_Compare.calls kj3 a0_0 a0_1 a0_2 a1_0 a1_1 a1_2 t391 _ A36.out).mono ?_
                  rintro e w52 ⟨rfl, hb⟩
                  refine ⟨_, rfl, ?_⟩
                  have n0_ := bb_ (bu_ BK377) hb
                  have n1_ := bb_ (bu_ BK378) hb
                  have n2_ := bb_ (bu_ BK385) hb
                  have n3_ := bb_ (bu_ BK390) hb
                  have n4_ := bs_ (be_ HB) hb
                  clear BK377
                  clear BK378
                  clear BK385
                  clear BK390
                  clear HB
                  have BK377 := n0_
                  have BK378 := n1_
                  have BK385 := n2_
                  have BK390 := n3_
                  have HB := n4_
                  clear n0_ n1_ n2_ n3_ n4_
                  (try clear hb)
                  (try clear hb2)
                  (try clear hk)
                  (try clear hi)
                  refine hK.out _ _ ⟨(blk_cell BK377.out 0).trans rfl, (blk_cell BK377.out 1).trans rfl, (blk_cell BK377.out 2).trans rfl, (blk_cell BK378.out 0).trans rfl, (blk_cell BK378.out 1).trans rfl, (blk_cell BK378.out 2).trans rfl, (blk_cell BK385.out 0).trans rfl, (blk_cell BK385.out 1).trans rfl, (blk_cell BK385.out 2).trans rfl, (blk_cell BK390.out 0).trans rfl, (blk_cell BK390.out 1).trans rfl, (blk_cell BK390.out 2).trans rfl⟩ (fun hHeld => ?_)
                  clear hK K
                  refine nm_ 45 ?_
                  refine one_ (i := 5) (N := some 48) (mk_ 26 63) rfl rfl (one_of HT_.out (by kernel_rfl)) (by decide) (fun K hK => ?_)
                  refine goes_ Tryd.func30 (by kernel_rfl) rfl #[.agg #[.int .i64 a0_0, .int .i64 a0_1, .string a0_2], .agg #[.int .i64 a1_0, .int .i64 a1_1, .string a1_2]] (by rfl) rfl rfl ga_ ?_
                  with_reducible refine (constableref01_Values.calls kj3 a0_0 a0_1 a0_2 a1_0 a1_1 a1_2 t392 _ A37.out).mono ?_
                  rintro e w53 ⟨rfl, hb⟩
                  refine ⟨_, rfl, ?_⟩
                  have n0_ := bb_ (bu_ BK377) hb
                  have n1_ := bb_ (bu_ BK378) hb
                  have n2_ := bb_ (bu_ BK385) hb
                  have n3_ := bb_ (bu_ BK390) hb
                  have n4_ := bs_ (be_ HB) hb
                  clear BK377
                  clear BK378
                  clear BK385
                  clear BK390
                  clear HB
                  have BK377 := n0_
                  have BK378 := n1_
                  have BK385 := n2_
                  have BK390 := n3_
                  have HB := n4_
                  clear n0_ n1_ n2_ n3_ n4_
                  (try clear hb)
                  (try clear hb2)
                  (try clear hk)
                  (try clear hi)
                  refine hK.out _ _ ⟨(blk_cell BK377.out 0).trans rfl, (blk_cell BK377.out 1).trans rfl, (blk_cell BK377.out 2).trans rfl, (blk_cell BK378.out 0).trans rfl, (blk_cell BK378.out 1).trans rfl, (blk_cell BK378.out 2).trans rfl, (blk_cell BK385.out 0).trans rfl, (blk_cell BK385.out 1).trans rfl, (blk_cell BK385.out 2).trans rfl, (blk_cell BK390.out 0).trans rfl, (blk_cell BK390.out 1).trans rfl, (blk_cell BK390.out 2).trans rfl⟩ (fun hHeld => ?_)
                  clear hK K
                  refine nm_ 48 ?_; refine pu_ 6 49 127 HT_ ?_; refine pu_ 7 50 255 HT_ ?_; refine pu_ 8 51 511 HT_ ?_; refine pu_ 9 52 1023 HT_ ?_; refine pu_ 10 53 2047 HT_ ?_; refine pu_ 11 54 4095 HT_ ?_; refine pu_ 12 55 8191 HT_ ?_; refine pu_ 13 56 16383 HT_ ?_; refine pu_ 14 57 32767 HT_ ?_; refine pu_ 15 58 65535 HT_ ?_; refine pu_ 16 59 131071 HT_ ?_; refine pu_ 17 60 262143 HT_ ?_; refine pu_ 18 61 524287 HT_ ?_; refine pu_ 19 62 1048575 HT_ ?_; refine pu_ 20 63 2097151 HT_ ?_; refine pu_ 21 64 4194303 HT_ ?_; refine tk_ 22 65 8388607 HT_ HW_ hHeld ?_; refine tk_ 23 66 16777215 HT_ HW_ hHeld ?_; refine pu_ 24 67 33554431 HT_ ?_; refine pu_ 25 68 67108863 HT_ ?_
                  refine done_ (done_of HT_.out (by kernel_rfl)) ?_
                  try go_wp2
                  go_meet
                  case rel => exact ⟨_, ((!(t381 == t386) || (!(t382 == t387) || (!(t383.toList == t388.toList))))), ra_, H', ⟨by have := HJ3.out; first | omega | exact Nat.le_refl _⟩, ⟨by (with_reducible repeat (first | refine blk_drewN ?_ _ | refine blk_drew ?_ | refine blk_alloc ?_ _)); exact BK377.out⟩, ⟨by (with_reducible repeat (first | refine blk_drewN ?_ _ | refine blk_drew ?_ | refine blk_alloc ?_ _)); exact BK378.out⟩, ⟨by (with_reducible repeat (first | refine blk_drewN ?_ _ | refine blk_drew ?_ | refine blk_alloc ?_ _)); exact BK385.out⟩, ⟨by (with_reducible repeat (first | refine blk_drewN ?_ _ | refine blk_drew ?_ | refine blk_alloc ?_ _)); exact BK390.out⟩, ⟨by repeat (first | (with_reducible first | exact HB.out | apply below_alloc | apply pw_below_drewN | apply below_drew1 | refine below_set ?_ GE377.out | refine below_set ?_ GE378.out | refine below_set ?_ GE385.out | refine below_set ?_ GE390.out) | exact HB.out)⟩⟩
                · rw [if_neg c49] at H
                  obtain ⟨c49b0, c49b1⟩ := neB_ c49
                  have H' := Aside0.mk H
                  clear H
                  try go_wp2
                  have n0_ : Aside0 ((((w31.setCell ⟨gb390, 0, none⟩ (.int .i64 t386)).setCell ⟨gb390, 1, none⟩ (.int .i64 t387)).setCell ⟨gb390, 2, none⟩ (.string t388)).heap[gb377]? = some (.cells #[.int .i64 a0_0, .int .i64 a0_1, .string a0_2] 44 (0, 0))) := ⟨by (with_reducible repeat (first | refine blk_drewN ?_ _ | refine blk_drew ?_ | refine blk_alloc ?_ _)); refine blk_far ?_ NB377_390.out _; (with_reducible repeat (first | refine blk_drewN ?_ _ | refine blk_drew ?_ | refine blk_alloc ?_ _)); refine blk_far ?_ NB377_390.out _; (with_reducible repeat (first | refine blk_drewN ?_ _ | refine blk_drew ?_ | refine blk_alloc ?_ _)); refine blk_far ?_ NB377_390.out _; (with_reducible repeat (first | refine blk_drewN ?_ _ | refine blk_drew ?_ | refine blk_alloc ?_ _)); exact BK377.out⟩
                  have n1_ : Aside0 ((((w31.setCell ⟨gb390, 0, none⟩ (.int .i64 t386)).setCell ⟨gb390, 1, none⟩ (.int .i64 t387)).setCell ⟨gb390, 2, none⟩ (.string t388)).heap[gb378]? = some (.cells #[.int .i64 a1_0, .int .i64 a1_1, .string a1_2] 44 (0, 0))) := ⟨by (with_reducible repeat (first | refine blk_drewN ?_ _ | refine blk_drew ?_ | refine blk_alloc ?_ _)); refine blk_far ?_ NB378_390.out _; (with_reducible repeat (first | refine blk_drewN ?_ _ | refine blk_drew ?_ | refine blk_alloc ?_ _)); refine blk_far ?_ NB378_390.out _; (with_reducible repeat (first | refine blk_drewN ?_ _ | refine blk_drew ?_ | refine blk_alloc ?_ _)); refine blk_far ?_ NB378_390.out _; (with_reducible repeat (first | refine blk_drewN ?_ _ | refine blk_drew ?_ | refine blk_alloc ?_ _)); exact BK378.out⟩
                  have n2_ : Aside0 ((((w31.setCell ⟨gb390, 0, none⟩ (.int .i64 t386)).setCell ⟨gb390, 1, none⟩ (.int .i64 t387)).setCell ⟨gb390, 2, none⟩ (.string t388)).heap[gb385]? = some (.cells #[.int .i64 t381, .int .i64 t382, .string t383] 44 (0, 0))) := ⟨by (with_reducible repeat (first | refine blk_drewN ?_ _ | refine blk_drew ?_ | refine blk_alloc ?_ _)); refine blk_far ?_ NB385_390.out _; (with_reducible repeat (first | refine blk_drewN ?_ _ | refine blk_drew ?_ | refine blk_alloc ?_ _)); refine blk_far ?_ NB385_390.out _; (with_reducible repeat (first | refine blk_drewN ?_ _ | refine blk_drew ?_ | refine blk_alloc ?_ _)); refine blk_far ?_ NB385_390.out _; (with_reducible repeat (first | refine blk_drewN ?_ _ | refine blk_drew ?_ | refine blk_alloc ?_ _)); exact BK385.out⟩
                  have n3_ : Aside0 ((((w31.setCell ⟨gb390, 0, none⟩ (.int .i64 t386)).setCell ⟨gb390, 1, none⟩ (.int .i64 t387)).setCell ⟨gb390, 2, none⟩ (.string t388)).heap[gb390]? = some (.cells #[.int .i64 t386, .int .i64 t387, .string t388] 44 (0, 0))) := ⟨by (with_reducible repeat (first | refine blk_drewN ?_ _ | refine blk_drew ?_ | refine blk_alloc ?_ _)); refine blk_put (cs := #[.int .i64 t386, .int .i64 t387, .string (⟨#[]⟩ : ByteArray)]) ?_ 2 _ rfl; (with_reducible repeat (first | refine blk_drewN ?_ _ | refine blk_drew ?_ | refine blk_alloc ?_ _)); refine blk_put (cs := #[.int .i64 t386, .int .i64 0, .string (⟨#[]⟩ : ByteArray)]) ?_ 1 _ rfl; (with_reducible repeat (first | refine blk_drewN ?_ _ | refine blk_drew ?_ | refine blk_alloc ?_ _)); refine blk_put (cs := #[.int .i64 0, .int .i64 0, .string (⟨#[]⟩ : ByteArray)]) ?_ 0 _ rfl; (with_reducible repeat (first | refine blk_drewN ?_ _ | refine blk_drew ?_ | refine blk_alloc ?_ _)); exact BK390.out⟩
                  have n4_ : Aside0 (Below w.heap.size w (((w31.setCell ⟨gb390, 0, none⟩ (.int .i64 t386)).setCell ⟨gb390, 1, none⟩ (.int .i64 t387)).setCell ⟨gb390, 2, none⟩ (.string t388))) := ⟨by repeat (first | (with_reducible first | exact HB.out | apply below_alloc | apply pw_below_drewN | apply below_drew1 | refine below_set ?_ GE377.out | refine below_set ?_ GE378.out | refine below_set ?_ GE385.out | refine below_set ?_ GE390.out) | exact HB.out)⟩
                  (try clear BK377)
                  (try clear BK378)
                  (try clear BK385)
                  (try clear BK390)
                  (try clear HB)
                  generalize (((w31.setCell ⟨gb390, 0, none⟩ (.int .i64 t386)).setCell ⟨gb390, 1, none⟩ (.int .i64 t387)).setCell ⟨gb390, 2, none⟩ (.string t388)) = w54 at n0_ n1_ n2_ n3_ n4_ ⊢
                  have BK377 := n0_
                  have BK378 := n1_
                  have BK385 := n2_
                  have BK390 := n3_
                  have HB := n4_
                  clear n0_ n1_ n2_ n3_ n4_
                  have n0_ := Aside0.mk (blk_drew BK377.out)
                  have n1_ := Aside0.mk (blk_drew BK378.out)
                  have n2_ := Aside0.mk (blk_drew BK385.out)
                  have n3_ := Aside0.mk (blk_drew BK390.out)
                  have n4_ := Aside0.mk (below_drew1 HB.out)
                  clear BK377
                  clear BK378
                  clear BK385
                  clear BK390
                  clear HB
                  have BK377 := n0_
                  have BK378 := n1_
                  have BK385 := n2_
                  have BK390 := n3_
                  have HB := n4_
                  clear n0_ n1_ n2_ n3_ n4_
                  refine start_ (n := 26) (S := fun w' => w'.cell? ⟨gb377, 0, none⟩ = some (.int .i64 a0_0) ∧ w'.cell? ⟨gb377, 1, none⟩ = some (.int .i64 a0_1) ∧ w'.cell? ⟨gb377, 2, none⟩ = some (.string a0_2) ∧ w'.cell? ⟨gb378, 0, none⟩ = some (.int .i64 a1_0) ∧ w'.cell? ⟨gb378, 1, none⟩ = some (.int .i64 a1_1) ∧ w'.cell? ⟨gb378, 2, none⟩ = some (.string a1_2)) (ds := []) (mk_ 26 0) (by kernel_rfl) rfl rfl ⟨(blk_cell BK377.out 0).trans rfl, (blk_cell BK377.out 1).trans rfl, (blk_cell BK377.out 2).trans rfl, (blk_cell BK378.out 0).trans rfl, (blk_cell BK378.out 1).trans rfl, (blk_cell BK378.out 2).trans rfl⟩ (fun hHeld => ?_); refine with_tabW constablelaw01_ValExact.tab6 constablelaw01_ValExact.bits6 (fun HT_ HW_ => ?_)
                  generalize w54.drew = w55 at BK377 BK378 BK385 BK390 HB hHeld ⊢
                  refine tk_ 0 43 1 HT_ HW_ hHeld ?_; refine tk_ 1 44 3 HT_ HW_ hHeld ?_; refine tk_ 3 46 11 HT_ HW_ hHeld ?_; refine tk_ 4 47 27 HT_ HW_ hHeld ?_
                  refine one_ (i := 2) (N := some 45) (mk_ 26 31) rfl rfl (one_of HT_.out (by kernel_rfl)) (by decide) (fun K hK => ?_)
                  refine goes_ Tryd.func29 (by kernel_rfl) rfl #[.agg #[.int .i64 a0_0, .int .i64 a0_1, .string a0_2], .agg #[.int .i64 a1_0, .int .i64 a1_1, .string a1_2]] (by rfl) rfl rfl ga_ ?_
                  with_reducible refine (val_Compare.calls kj3 a0_0 a0_1 a0_2 a1_0 a1_1 a1_2 t391 _ A36.out).mono ?_
                  rintro e w56 ⟨rfl, hb⟩
                  refine ⟨_, rfl, ?_⟩
                  have n0_ := bb_ (bu_ BK377) hb
                  have n1_ := bb_ (bu_ BK378) hb
                  have n2_ := bb_ (bu_ BK385) hb
                  have n3_ := bb_ (bu_ BK390) hb
                  have n4_ := bs_ (be_ HB) hb
                  clear BK377
                  clear BK378
                  clear BK385
                  clear BK390
                  clear HB
                  have BK377 := n0_
                  have BK378 := n1_
                  have BK385 := n2_
                  have BK390 := n3_
                  have HB := n4_
                  clear n0_ n1_ n2_ n3_ n4_
                  (try clear hb)
                  (try clear hb2)
                  (try clear hk)
                  (try clear hi)
                  refine hK.out _ _ ⟨(blk_cell BK377.out 0).trans rfl, (blk_cell BK377.out 1).trans rfl, (blk_cell BK377.out 2).trans rfl, (blk_cell BK378.out 0).trans rfl, (blk_cell BK378.out 1).trans rfl, (blk_cell BK378.out 2).trans rfl⟩ (fun hHeld => ?_)
                  clear hK K
                  refine nm_ 45 ?_
                  refine one_ (i := 5) (N := some 48) (mk_ 26 63) rfl rfl (one_of HT_.out (by kernel_rfl)) (by decide) (fun K hK => ?_)
                  refine goes_ Tryd.func30 (by kernel_rfl) rfl #[.agg #[.int .i64 a0_0, .int .i64 a0_1, .string a0_2], .agg #[.int .i64 a1_0, .int .i64 a1_1, .string a1_2]] (by rfl) rfl rfl ga_ ?_
                  with_reducible refine (constableref01_Values.calls kj3 a0_0 a0_1 a0_2 a1_0 a1_1 a1_2 t392 _ A37.out).mono ?_
                  rintro e w57 ⟨rfl, hb⟩
                  refine ⟨_, rfl, ?_⟩
                  have n0_ := bb_ (bu_ BK377) hb
                  have n1_ := bb_ (bu_ BK378) hb
                  have n2_ := bb_ (bu_ BK385) hb
                  have n3_ := bb_ (bu_ BK390) hb
                  have n4_ := bs_ (be_ HB) hb
                  clear BK377
                  clear BK378
                  clear BK385
                  clear BK390
                  clear HB
                  have BK377 := n0_
                  have BK378 := n1_
                  have BK385 := n2_
                  have BK390 := n3_
                  have HB := n4_
                  clear n0_ n1_ n2_ n3_ n4_
                  (try clear hb)
                  (try clear hb2)
                  (try clear hk)
                  (try clear hi)
                  refine hK.out _ _ ⟨(blk_cell BK377.out 0).trans rfl, (blk_cell BK377.out 1).trans rfl, (blk_cell BK377.out 2).trans rfl, (blk_cell BK378.out 0).trans rfl, (blk_cell BK378.out 1).trans rfl, (blk_cell BK378.out 2).trans rfl⟩ (fun hHeld => ?_)
                  clear hK K
                  refine nm_ 48 ?_; refine pu_ 6 49 127 HT_ ?_; refine pu_ 7 50 255 HT_ ?_; refine pu_ 8 51 511 HT_ ?_; refine pu_ 9 52 1023 HT_ ?_; refine pu_ 10 53 2047 HT_ ?_; refine pu_ 11 54 4095 HT_ ?_; refine pu_ 12 55 8191 HT_ ?_; refine pu_ 13 56 16383 HT_ ?_; refine pu_ 14 57 32767 HT_ ?_; refine pu_ 15 58 65535 HT_ ?_; refine pu_ 16 59 131071 HT_ ?_; refine pu_ 17 60 262143 HT_ ?_; refine pu_ 18 61 524287 HT_ ?_; refine pu_ 19 62 1048575 HT_ ?_; refine pu_ 20 63 2097151 HT_ ?_; refine pu_ 21 64 4194303 HT_ ?_; refine pn_ 22 65 8388607 HT_ ?_; refine pn_ 23 66 16777215 HT_ ?_; refine pn_ 24 67 33554431 HT_ ?_; refine pu_ 25 68 67108863 HT_ ?_
                  refine done_ (done_of HT_.out (by kernel_rfl)) ?_
                  try go_wp2
                  go_meet
                  case rel => exact ⟨_, (true), ra_, H', ⟨by have := HJ3.out; first | omega | exact Nat.le_refl _⟩, ⟨by (with_reducible repeat (first | refine blk_drewN ?_ _ | refine blk_drew ?_ | refine blk_alloc ?_ _)); exact BK377.out⟩, ⟨by (with_reducible repeat (first | refine blk_drewN ?_ _ | refine blk_drew ?_ | refine blk_alloc ?_ _)); exact BK378.out⟩, ⟨by (with_reducible repeat (first | refine blk_drewN ?_ _ | refine blk_drew ?_ | refine blk_alloc ?_ _)); exact BK385.out⟩, ⟨by (with_reducible repeat (first | refine blk_drewN ?_ _ | refine blk_drew ?_ | refine blk_alloc ?_ _)); exact BK390.out⟩, ⟨by repeat (first | (with_reducible first | exact HB.out | apply below_alloc | apply pw_below_drewN | apply below_drew1 | refine below_set ?_ GE377.out | refine below_set ?_ GE378.out | refine below_set ?_ GE385.out | refine below_set ?_ GE390.out) | exact HB.out)⟩⟩
          · rw [if_neg c38] at H
            obtain ⟨c38b0, c38b1⟩ := neB_ c38
            (first | rw [c38b0] | (simp only [i64_w, i32_w]; rw [c38b0]) | skip)
            have H' := Aside0.mk H
            clear H
            try go_wp2
            have n0_ : Aside0 ((((w31.setCell ⟨gb390, 0, none⟩ (.int .i64 t386)).setCell ⟨gb390, 1, none⟩ (.int .i64 t387)).setCell ⟨gb390, 2, none⟩ (.string t388)).heap[gb377]? = some (.cells #[.int .i64 a0_0, .int .i64 a0_1, .string a0_2] 44 (0, 0))) := ⟨by (with_reducible repeat (first | refine blk_drewN ?_ _ | refine blk_drew ?_ | refine blk_alloc ?_ _)); refine blk_far ?_ NB377_390.out _; (with_reducible repeat (first | refine blk_drewN ?_ _ | refine blk_drew ?_ | refine blk_alloc ?_ _)); refine blk_far ?_ NB377_390.out _; (with_reducible repeat (first | refine blk_drewN ?_ _ | refine blk_drew ?_ | refine blk_alloc ?_ _)); refine blk_far ?_ NB377_390.out _; (with_reducible repeat (first | refine blk_drewN ?_ _ | refine blk_drew ?_ | refine blk_alloc ?_ _)); exact BK377.out⟩
            have n1_ : Aside0 ((((w31.setCell ⟨gb390, 0, none⟩ (.int .i64 t386)).setCell ⟨gb390, 1, none⟩ (.int .i64 t387)).setCell ⟨gb390, 2, none⟩ (.string t388)).heap[gb378]? = some (.cells #[.int .i64 a1_0, .int .i64 a1_1, .string a1_2] 44 (0, 0))) := ⟨by (with_reducible repeat (first | refine blk_drewN ?_ _ | refine blk_drew ?_ | refine blk_alloc ?_ _)); refine blk_far ?_ NB378_390.out _; (with_reducible repeat (first | refine blk_drewN ?_ _ | refine blk_drew ?_ | refine blk_alloc ?_ _)); refine blk_far ?_ NB378_390.out _; (with_reducible repeat (first | refine blk_drewN ?_ _ | refine blk_drew ?_ | refine blk_alloc ?_ _)); refine blk_far ?_ NB378_390.out _; (with_reducible repeat (first | refine blk_drewN ?_ _ | refine blk_drew ?_ | refine blk_alloc ?_ _)); exact BK378.out⟩
            have n2_ : Aside0 ((((w31.setCell ⟨gb390, 0, none⟩ (.int .i64 t386)).setCell ⟨gb390, 1, none⟩ (.int .i64 t387)).setCell ⟨gb390, 2, none⟩ (.string t388)).heap[gb385]? = some (.cells #[.int .i64 t381, .int .i64 t382, .string t383] 44 (0, 0))) := ⟨by (with_reducible repeat (first | refine blk_drewN ?_ _ | refine blk_drew ?_ | refine blk_alloc ?_ _)); refine blk_far ?_ NB385_390.out _; (with_reducible repeat (first | refine blk_drewN ?_ _ | refine blk_drew ?_ | refine blk_alloc ?_ _)); refine blk_far ?_ NB385_390.out _; (with_reducible repeat (first | refine blk_drewN ?_ _ | refine blk_drew ?_ | refine blk_alloc ?_ _)); refine blk_far ?_ NB385_390.out _; (with_reducible repeat (first | refine blk_drewN ?_ _ | refine blk_drew ?_ | refine blk_alloc ?_ _)); exact BK385.out⟩
            have n3_ : Aside0 ((((w31.setCell ⟨gb390, 0, none⟩ (.int .i64 t386)).setCell ⟨gb390, 1, none⟩ (.int .i64 t387)).setCell ⟨gb390, 2, none⟩ (.string t388)).heap[gb390]? = some (.cells #[.int .i64 t386, .int .i64 t387, .string t388] 44 (0, 0))) := ⟨by (with_reducible repeat (first | refine blk_drewN ?_ _ | refine blk_drew ?_ | refine blk_alloc ?_ _)); refine blk_put (cs := #[.int .i64 t386, .int .i64 t387, .string (⟨#[]⟩ : ByteArray)]) ?_ 2 _ rfl; (with_reducible repeat (first | refine blk_drewN ?_ _ | refine blk_drew ?_ | refine blk_alloc ?_ _)); refine blk_put (cs := #[.int .i64 t386, .int .i64 0, .string (⟨#[]⟩ : ByteArray)]) ?_ 1 _ rfl; (with_reducible repeat (first | refine blk_drewN ?_ _ | refine blk_drew ?_ | refine blk_alloc ?_ _)); refine blk_put (cs := #[.int .i64 0, .int .i64 0, .string (⟨#[]⟩ : ByteArray)]) ?_ 0 _ rfl; (with_reducible repeat (first | refine blk_drewN ?_ _ | refine blk_drew ?_ | refine blk_alloc ?_ _)); exact BK390.out⟩
            have n4_ : Aside0 (Below w.heap.size w (((w31.setCell ⟨gb390, 0, none⟩ (.int .i64 t386)).setCell ⟨gb390, 1, none⟩ (.int .i64 t387)).setCell ⟨gb390, 2, none⟩ (.string t388))) := ⟨by repeat (first | (with_reducible first | exact HB.out | apply below_alloc | apply pw_below_drewN | apply below_drew1 | refine below_set ?_ GE377.out | refine below_set ?_ GE378.out | refine below_set ?_ GE385.out | refine below_set ?_ GE390.out) | exact HB.out)⟩
            (try clear BK377)
            (try clear BK378)
            (try clear BK385)
            (try clear BK390)
            (try clear HB)
            generalize (((w31.setCell ⟨gb390, 0, none⟩ (.int .i64 t386)).setCell ⟨gb390, 1, none⟩ (.int .i64 t387)).setCell ⟨gb390, 2, none⟩ (.string t388)) = w58 at n0_ n1_ n2_ n3_ n4_ ⊢
            have BK377 := n0_
            have BK378 := n1_
            have BK385 := n2_
            have BK390 := n3_
            have HB := n4_
            clear n0_ n1_ n2_ n3_ n4_
            have n0_ := Aside0.mk (blk_drew BK377.out)
            have n1_ := Aside0.mk (blk_drew BK378.out)
            have n2_ := Aside0.mk (blk_drew BK385.out)
            have n3_ := Aside0.mk (blk_drew BK390.out)
            have n4_ := Aside0.mk (below_drew1 HB.out)
            clear BK377
            clear BK378
            clear BK385
            clear BK390
            clear HB
            have BK377 := n0_
            have BK378 := n1_
            have BK385 := n2_
            have BK390 := n3_
            have HB := n4_
            clear n0_ n1_ n2_ n3_ n4_
            refine start_ (n := 26) (S := fun w' => w'.cell? ⟨gb377, 0, none⟩ = some (.int .i64 a0_0) ∧ w'.cell? ⟨gb377, 1, none⟩ = some (.int .i64 a0_1) ∧ w'.cell? ⟨gb377, 2, none⟩ = some (.string a0_2) ∧ w'.cell? ⟨gb378, 0, none⟩ = some (.int .i64 a1_0) ∧ w'.cell? ⟨gb378, 1, none⟩ = some (.int .i64 a1_1) ∧ w'.cell? ⟨gb378, 2, none⟩ = some (.string a1_2)) (ds := []) (mk_ 26 0) (by kernel_rfl) rfl rfl ⟨(blk_cell BK377.out 0).trans rfl, (blk_cell BK377.out 1).trans rfl, (blk_cell BK377.out 2).trans rfl, (blk_cell BK378.out 0).trans rfl, (blk_cell BK378.out 1).trans rfl, (blk_cell BK378.out 2).trans rfl⟩ (fun hHeld => ?_); refine with_tabW constablelaw01_ValExact.tab6 constablelaw01_ValExact.bits6 (fun HT_ HW_ => ?_)
            generalize w58.drew = w59 at BK377 BK378 BK385 BK390 HB hHeld ⊢
            refine tk_ 0 43 1 HT_ HW_ hHeld ?_; refine tk_ 1 44 3 HT_ HW_ hHeld ?_; refine tk_ 3 46 11 HT_ HW_ hHeld ?_; refine tk_ 4 47 27 HT_ HW_ hHeld ?_
            refine one_ (i := 2) (N := some 45) (mk_ 26 31) rfl rfl (one_of HT_.out (by kernel_rfl)) (by decide) (fun K hK => ?_)
            refine goes_ Tryd.func29 (by kernel_rfl) rfl #[.agg #[.int .i64 a0_0, .int .i64 a0_1, .string a0_2], .agg #[.int .i64 a1_0, .int .i64 a1_1, .string a1_2]] (by rfl) rfl rfl ga_ ?_
            with_reducible refine (val_Compare.calls kj3 a0_0 a0_1 a0_2 a1_0 a1_1 a1_2 t391 _ A36.out).mono ?_
            rintro e w60 ⟨rfl, hb⟩
            refine ⟨_, rfl, ?_⟩
            have n0_ := bb_ (bu_ BK377) hb
            have n1_ := bb_ (bu_ BK378) hb
            have n2_ := bb_ (bu_ BK385) hb
            have n3_ := bb_ (bu_ BK390) hb
            have n4_ := bs_ (be_ HB) hb
            clear BK377
            clear BK378
            clear BK385
            clear BK390
            clear HB
            have BK377 := n0_
            have BK378 := n1_
            have BK385 := n2_
            have BK390 := n3_
            have HB := n4_
            clear n0_ n1_ n2_ n3_ n4_
            (try clear hb)
            (try clear hb2)
            (try clear hk)
            (try clear hi)
            refine hK.out _ _ ⟨(blk_cell BK377.out 0).trans rfl, (blk_cell BK377.out 1).trans rfl, (blk_cell BK377.out 2).trans rfl, (blk_cell BK378.out 0).trans rfl, (blk_cell BK378.out 1).trans rfl, (blk_cell BK378.out 2).trans rfl⟩ (fun hHeld => ?_)
            clear hK K
            refine nm_ 45 ?_
            refine one_ (i := 5) (N := some 48) (mk_ 26 63) rfl rfl (one_of HT_.out (by kernel_rfl)) (by decide) (fun K hK => ?_)
            refine goes_ Tryd.func30 (by kernel_rfl) rfl #[.agg #[.int .i64 a0_0, .int .i64 a0_1, .string a0_2], .agg #[.int .i64 a1_0, .int .i64 a1_1, .string a1_2]] (by rfl) rfl rfl ga_ ?_
            with_reducible refine (constableref01_Values.calls kj3 a0_0 a0_1 a0_2 a1_0 a1_1 a1_2 t392 _ A37.out).mono ?_
            rintro e w61 ⟨rfl, hb⟩
            refine ⟨_, rfl, ?_⟩
            have n0_ := bb_ (bu_ BK377) hb
            have n1_ := bb_ (bu_ BK378) hb
            have n2_ := bb_ (bu_ BK385) hb
            have n3_ := bb_ (bu_ BK390) hb
            have n4_ := bs_ (be_ HB) hb
            clear BK377
            clear BK378
            clear BK385
            clear BK390
            clear HB
            have BK377 := n0_
            have BK378 := n1_
            have BK385 := n2_
            have BK390 := n3_
            have HB := n4_
            clear n0_ n1_ n2_ n3_ n4_
            (try clear hb)
            (try clear hb2)
            (try clear hk)
            (try clear hi)
            refine hK.out _ _ ⟨(blk_cell BK377.out 0).trans rfl, (blk_cell BK377.out 1).trans rfl, (blk_cell BK377.out 2).trans rfl, (blk_cell BK378.out 0).trans rfl, (blk_cell BK378.out 1).trans rfl, (blk_cell BK378.out 2).trans rfl⟩ (fun hHeld => ?_)
            clear hK K
            refine nm_ 48 ?_; refine pu_ 6 49 127 HT_ ?_; refine pu_ 7 50 255 HT_ ?_; refine pn_ 8 51 511 HT_ ?_; refine pn_ 9 52 1023 HT_ ?_; refine pn_ 10 53 2047 HT_ ?_; refine pn_ 11 54 4095 HT_ ?_; refine pu_ 12 55 8191 HT_ ?_; refine pu_ 13 56 16383 HT_ ?_; refine pn_ 14 57 32767 HT_ ?_; refine pn_ 15 58 65535 HT_ ?_; refine pn_ 16 59 131071 HT_ ?_; refine pn_ 17 60 262143 HT_ ?_; refine pn_ 18 61 524287 HT_ ?_; refine pn_ 19 62 1048575 HT_ ?_; refine pu_ 20 63 2097151 HT_ ?_; refine pu_ 21 64 4194303 HT_ ?_; refine pn_ 22 65 8388607 HT_ ?_; refine pn_ 23 66 16777215 HT_ ?_; refine pn_ 24 67 33554431 HT_ ?_; refine pu_ 25 68 67108863 HT_ ?_
            refine done_ (done_of HT_.out (by kernel_rfl)) ?_
            try go_wp2
            go_meet
            case rel => exact ⟨_, (true), ra_, H', ⟨by have := HJ3.out; first | omega | exact Nat.le_refl _⟩, ⟨by (with_reducible repeat (first | refine blk_drewN ?_ _ | refine blk_drew ?_ | refine blk_alloc ?_ _)); exact BK377.out⟩, ⟨by (with_reducible repeat (first | refine blk_drewN ?_ _ | refine blk_drew ?_ | refine blk_alloc ?_ _)); exact BK378.out⟩, ⟨by (with_reducible repeat (first | refine blk_drewN ?_ _ | refine blk_drew ?_ | refine blk_alloc ?_ _)); exact BK385.out⟩, ⟨by (with_reducible repeat (first | refine blk_drewN ?_ _ | refine blk_drew ?_ | refine blk_alloc ?_ _)); exact BK390.out⟩, ⟨by repeat (first | (with_reducible first | exact HB.out | apply below_alloc | apply pw_below_drewN | apply below_drew1 | refine below_set ?_ GE377.out | refine below_set ?_ GE378.out | refine below_set ?_ GE385.out | refine below_set ?_ GE390.out) | exact HB.out)⟩⟩
        case rest =>
          clear HC21
          try clear c2
          try clear p2
          try clear c3
          try clear c4
          try clear c29
          try clear c30
          try clear c38
          try clear c38b0
          try clear c38b1
          try clear c49
          try clear c49b0
          try clear c49b1
          obtain ⟨kq, x68_20, rfl, HA, HJ20, BK377, BK378, BK385, BK390, HB⟩ := hcut
          cases kq with
          | zero => exact absurd HA.out (by simp [constablelaw01_ValExact.j1])
          | succ kj20 =>
            have H := HA.out
            clear HA
            simp only [constablelaw01_ValExact.j1] at H
            by_cases c62 : x68_20 = true
            · subst c62
              have H1 : (some false) = some r := by rw [if_pos rfl] at H; exact H
              clear H
              have H := H1
              clear H1
              exact absurd ((Option.some.inj H).trans HR_.out) (by decide)
            · replace c62 := Bool.eq_false_iff.mpr c62
              subst c62
              have H1 : ((constableref01_Value.f kj20 a0_0 a0_1 a0_2).bind fun t393 => (if t393 = true then ((val_Check.f kj20 a0_0 a0_1 a0_2).bind fun t394 => (if t394 = 0 then (if t380 = 0 then ((constableref01_ValueText.f kj20 a0_0 a0_1 a0_2).bind fun t395 => (if t379.toList = t395.toList then ((constablelaw01_wakes.f kj20).bind fun t396 => (some t396)) else (some false))) else (some false)) else (some false))) else ((val_Check.f kj20 a0_0 a0_1 a0_2).bind fun t397 => (if t397 = 1 then (if t380 = 1 then (if t379.toList = ([] : List UInt8) then ((constablelaw01_wakes.f kj20).bind fun t398 => (some t398)) else (some false)) else (some false)) else (some false))))) = some r := by rw [if_neg (show ¬ (false = true) by decide)] at H; exact H
              clear H
              have H := H1
              clear H1
              replace H := Option.bind_eq_some_iff.mp H
              obtain ⟨t393, A630, H⟩ := H
              replace H : (if t393 = true then ((val_Check.f kj20 a0_0 a0_1 a0_2).bind fun t394 => (if t394 = 0 then (if t380 = 0 then ((constableref01_ValueText.f kj20 a0_0 a0_1 a0_2).bind fun t395 => (if t379.toList = t395.toList then ((constablelaw01_wakes.f kj20).bind fun t396 => (some t396)) else (some false))) else (some false)) else (some false))) else ((val_Check.f kj20 a0_0 a0_1 a0_2).bind fun t397 => (if t397 = 1 then (if t380 = 1 then (if t379.toList = ([] : List UInt8) then ((constablelaw01_wakes.f kj20).bind fun t398 => (some t398)) else (some false)) else (some false)) else (some false)))) = some r := H
              have A63 := Aside0.mk A630
              clear A630
              by_cases c64 : t393 = true
              · subst c64
                have H1 : ((val_Check.f kj20 a0_0 a0_1 a0_2).bind fun t394 => (if t394 = 0 then (if t380 = 0 then ((constableref01_ValueText.f kj20 a0_0 a0_1 a0_2).bind fun t395 => (if t379.toList = t395.toList then ((constablelaw01_wakes.f kj20).bind fun t396 => (some t396)) else (some false))) else (some false)) else (some false))) = some r := by rw [if_pos rfl] at H; exact H
                clear H
                have H := H1
                clear H1
                replace H := Option.bind_eq_some_iff.mp H
                obtain ⟨t394, A650, H⟩ := H
                replace H : (if t394 = 0 then (if t380 = 0 then ((constableref01_ValueText.f kj20 a0_0 a0_1 a0_2).bind fun t395 => (if t379.toList = t395.toList then ((constablelaw01_wakes.f kj20).bind fun t396 => (some t396)) else (some false))) else (some false)) else (some false)) = some r := H
                have A65 := Aside0.mk A650
                clear A650
                by_cases c66 : t394 = 0
                · rw [if_pos c66] at H
                  obtain ⟨c66b0, c66b1⟩ := eqB_ c66
                  clear c66
                  by_cases c67 : t380 = 0
                  · rw [if_pos c67] at H
                    obtain ⟨c67b0, c67b1⟩ := eqB_ c67
                    clear c67
                    replace H := Option.bind_eq_some_iff.mp H
                    obtain ⟨t395, A680, H⟩ := H
                    replace H : (if t379.toList = t395.toList then ((constablelaw01_wakes.f kj20).bind fun t396 => (some t396)) else (some false)) = some r := H
                    have A68 := Aside0.mk A680
                    clear A680
                    by_cases c69 : t379.toList = t395.toList
                    · rw [if_pos c69] at H
                      obtain ⟨c69b0, c69b1⟩ := eqB_ c69
                      clear c69
                      replace H := Option.bind_eq_some_iff.mp H
                      obtain ⟨t396, A700, H⟩ := H
                      replace H : (some t396) = some r := H
                      have A70 := Aside0.mk A700
                      clear A700
                      obtain rfl := Option.some.inj H
                      have hnb71 := NB377_378.out
                      have hnc71 := NB378_377.out
                      have hnb72 := NB377_385.out
                      have hnc72 := NB385_377.out
                      have hnb73 := NB377_390.out
                      have hnc73 := NB390_377.out
                      have hcz74_0 : wc.cell? ⟨gb377, 0, none⟩ = some (.int .i64 a0_0) := (blk_cell BK377.out 0).trans rfl
                      have hcz74_1 : wc.cell? ⟨gb377, 1, none⟩ = some (.int .i64 a0_1) := (blk_cell BK377.out 1).trans rfl
                      have hcz74_2 : wc.cell? ⟨gb377, 2, none⟩ = some (.string a0_2) := (blk_cell BK377.out 2).trans rfl
                      have hfz74_0 := blk_frozen BK377.out 0
                      have hfz74_1 := blk_frozen BK377.out 1
                      have hfz74_2 := blk_frozen BK377.out 2
                      go_wp2_with (first | ((with_reducible refine gate_callee (f := 31) rfl ?_); refine goesL_ (some 70) rfl rfl Tryd.func31 (by kernel_rfl) rfl #[.agg #[.int .i64 a0_0, .int .i64 a0_1, .string a0_2]] rfl ga_ ?_; (with_reducible refine (constableref01_Value.calls kj20 a0_0 a0_1 a0_2 true _ A63.out).mono ?_); rintro e w75 ⟨rfl, hb⟩; refine ⟨_, rfl, ?_⟩; have n0_ := bb_ (bu_ BK377) hb; have n1_ := bb_ (bu_ BK378) hb; have n2_ := bb_ (bu_ BK385) hb; have n3_ := bb_ (bu_ BK390) hb; have n4_ := bs_ (be_ HB) hb; clear BK377; clear BK378; clear BK385; clear BK390; clear HB; have BK377 := n0_; have BK378 := n1_; have BK385 := n2_; have BK390 := n3_; have HB := n4_; clear n0_ n1_ n2_ n3_ n4_; (try clear hb); (try clear hb2); (try clear hk); (try clear hi); have hcz76_0 : w75.cell? ⟨gb377, 0, none⟩ = some (.int .i64 a0_0) := (blk_cell BK377.out 0).trans rfl; have hcz76_1 : w75.cell? ⟨gb377, 1, none⟩ = some (.int .i64 a0_1) := (blk_cell BK377.out 1).trans rfl; have hcz76_2 : w75.cell? ⟨gb377, 2, none⟩ = some (.string a0_2) := (blk_cell BK377.out 2).trans rfl; have hfz76_0 := blk_frozen BK377.out 0; have hfz76_1 := blk_frozen BK377.out 1; have hfz76_2 := blk_frozen BK377.out 2) | ((with_reducible refine gate_callee (f := 32) rfl ?_); refine goesL_ (some 87) rfl rfl Tryd.func32 (by kernel_rfl) rfl #[.agg #[.int .i64 a0_0, .int .i64 a0_1, .string a0_2]] rfl ga_ ?_; (with_reducible refine (val_Check.calls kj20 a0_0 a0_1 a0_2 t394 _ A65.out).mono ?_); rintro e w77 ⟨rfl, hb⟩; refine ⟨_, rfl, ?_⟩; have n0_ := bb_ (bu_ BK377) hb; have n1_ := bb_ (bu_ BK378) hb; have n2_ := bb_ (bu_ BK385) hb; have n3_ := bb_ (bu_ BK390) hb; have n4_ := bs_ (be_ HB) hb; clear BK377; clear BK378; clear BK385; clear BK390; clear HB; have BK377 := n0_; have BK378 := n1_; have BK385 := n2_; have BK390 := n3_; have HB := n4_; clear n0_ n1_ n2_ n3_ n4_; (try clear hcz76_0 hcz76_1 hcz76_2 hfz76_0 hfz76_1 hfz76_2); (try clear hb); (try clear hb2); (try clear hk); (try clear hi); have hcz78_0 : w77.cell? ⟨gb377, 0, none⟩ = some (.int .i64 a0_0) := (blk_cell BK377.out 0).trans rfl; have hcz78_1 : w77.cell? ⟨gb377, 1, none⟩ = some (.int .i64 a0_1) := (blk_cell BK377.out 1).trans rfl; have hcz78_2 : w77.cell? ⟨gb377, 2, none⟩ = some (.string a0_2) := (blk_cell BK377.out 2).trans rfl; have hfz78_0 := blk_frozen BK377.out 0; have hfz78_1 := blk_frozen BK377.out 1; have hfz78_2 := blk_frozen BK377.out 2) | (go_at_call 34; (with_reducible refine (constableref01_ValueText.calls kj20 a0_0 a0_1 a0_2 t395 _ A68.out).mono ?_); rintro e w79 ⟨rfl, hb⟩; have n0_ := bb_ (bu_ BK377) hb; have n1_ := bb_ (bu_ BK378) hb; have n2_ := bb_ (bu_ BK385) hb; have n3_ := bb_ (bu_ BK390) hb; have n4_ := bs_ (be_ HB) hb; clear BK377; clear BK378; clear BK385; clear BK390; clear HB; have BK377 := n0_; have BK378 := n1_; have BK385 := n2_; have BK390 := n3_; have HB := n4_; clear n0_ n1_ n2_ n3_ n4_; (try clear hcz78_0 hcz78_1 hcz78_2 hfz78_0 hfz78_1 hfz78_2); (try clear hb); (try clear hb2); (try clear hk); (try clear hi)) | (go_at_call 33; (with_reducible refine (constablelaw01_wakes.calls kj20  t396 _ A70.out HR_.out (ee_ HL_ (be_ HB))).mono ?_); rintro e w80 ⟨rfl, hb⟩; have n0_ := bb_ (bu_ BK377) hb; have n1_ := bb_ (bu_ BK378) hb; have n2_ := bb_ (bu_ BK385) hb; have n3_ := bb_ (bu_ BK390) hb; have n4_ := bs_ (be_ HB) hb; clear BK377; clear BK378; clear BK385; clear BK390; clear HB; have BK377 := n0_; have BK378 := n1_; have BK385 := n2_; have BK390 := n3_; have HB := n4_; clear n0_ n1_ n2_ n3_ n4_; (try clear hb); (try clear hb2); (try clear hk); (try clear hi)))
                      go_ret
                      exact ⟨by first | rfl | (simp [errW_none, errW_some] <;> rfl) | (simp [*, errW_none, errW_some] <;> rfl), by repeat (first | (with_reducible first | exact HB.out | apply below_alloc | apply pw_below_drewN | apply below_drew1 | refine below_set ?_ GE377.out | refine below_set ?_ GE378.out | refine below_set ?_ GE385.out | refine below_set ?_ GE390.out) | exact HB.out)⟩
                    · rw [if_neg c69] at H
                      obtain ⟨c69b0, c69b1⟩ := neB_ c69
                      exact absurd ((Option.some.inj H).trans HR_.out) (by decide)
                  · rw [if_neg c67] at H
                    obtain ⟨c67b0, c67b1⟩ := neB_ c67
                    exact absurd ((Option.some.inj H).trans HR_.out) (by decide)
                · rw [if_neg c66] at H
                  obtain ⟨c66b0, c66b1⟩ := neB_ c66
                  exact absurd ((Option.some.inj H).trans HR_.out) (by decide)
              · replace c64 := Bool.eq_false_iff.mpr c64
                subst c64
                have H1 : ((val_Check.f kj20 a0_0 a0_1 a0_2).bind fun t397 => (if t397 = 1 then (if t380 = 1 then (if t379.toList = ([] : List UInt8) then ((constablelaw01_wakes.f kj20).bind fun t398 => (some t398)) else (some false)) else (some false)) else (some false))) = some r := by rw [if_neg (show ¬ (false = true) by decide)] at H; exact H
                clear H
                have H := H1
                clear H1
                replace H := Option.bind_eq_some_iff.mp H
                obtain ⟨t397, A810, H⟩ := H
                replace H : (if t397 = 1 then (if t380 = 1 then (if t379.toList = ([] : List UInt8) then ((constablelaw01_wakes.f kj20).bind fun t398 => (some t398)) else (some false)) else (some false)) else (some false)) = some r := H
                have A81 := Aside0.mk A810
                clear A810
                by_cases c82 : t397 = 1
                · rw [if_pos c82] at H
                  obtain ⟨c82b0, c82b1⟩ := eqB_ c82
                  clear c82
                  by_cases c83 : t380 = 1
                  · rw [if_pos c83] at H
                    obtain ⟨c83b0, c83b1⟩ := eqB_ c83
                    clear c83
                    by_cases c84 : t379.toList = ([] : List UInt8)
                    · rw [if_pos c84] at H
                      obtain ⟨c84b0, c84b1⟩ := eqB_ c84
                      clear c84
                      replace H := Option.bind_eq_some_iff.mp H
                      obtain ⟨t398, A850, H⟩ := H
                      replace H : (some t398) = some r := H
                      have A85 := Aside0.mk A850
                      clear A850
                      obtain rfl := Option.some.inj H
                      have hnb86 := NB377_378.out
                      have hnc86 := NB378_377.out
                      have hnb87 := NB377_385.out
                      have hnc87 := NB385_377.out
                      have hnb88 := NB377_390.out
                      have hnc88 := NB390_377.out
                      have hcz89_0 : wc.cell? ⟨gb377, 0, none⟩ = some (.int .i64 a0_0) := (blk_cell BK377.out 0).trans rfl
                      have hcz89_1 : wc.cell? ⟨gb377, 1, none⟩ = some (.int .i64 a0_1) := (blk_cell BK377.out 1).trans rfl
                      have hcz89_2 : wc.cell? ⟨gb377, 2, none⟩ = some (.string a0_2) := (blk_cell BK377.out 2).trans rfl
                      have hfz89_0 := blk_frozen BK377.out 0
                      have hfz89_1 := blk_frozen BK377.out 1
                      have hfz89_2 := blk_frozen BK377.out 2
                      go_wp2_with (first | ((with_reducible refine gate_callee (f := 31) rfl ?_); refine goesL_ (some 70) rfl rfl Tryd.func31 (by kernel_rfl) rfl #[.agg #[.int .i64 a0_0, .int .i64 a0_1, .string a0_2]] rfl ga_ ?_; (with_reducible refine (constableref01_Value.calls kj20 a0_0 a0_1 a0_2 false _ A63.out).mono ?_); rintro e w90 ⟨rfl, hb⟩; refine ⟨_, rfl, ?_⟩; have n0_ := bb_ (bu_ BK377) hb; have n1_ := bb_ (bu_ BK378) hb; have n2_ := bb_ (bu_ BK385) hb; have n3_ := bb_ (bu_ BK390) hb; have n4_ := bs_ (be_ HB) hb; clear BK377; clear BK378; clear BK385; clear BK390; clear HB; have BK377 := n0_; have BK378 := n1_; have BK385 := n2_; have BK390 := n3_; have HB := n4_; clear n0_ n1_ n2_ n3_ n4_; (try clear hb); (try clear hb2); (try clear hk); (try clear hi); have hcz91_0 : w90.cell? ⟨gb377, 0, none⟩ = some (.int .i64 a0_0) := (blk_cell BK377.out 0).trans rfl; have hcz91_1 : w90.cell? ⟨gb377, 1, none⟩ = some (.int .i64 a0_1) := (blk_cell BK377.out 1).trans rfl; have hcz91_2 : w90.cell? ⟨gb377, 2, none⟩ = some (.string a0_2) := (blk_cell BK377.out 2).trans rfl; have hfz91_0 := blk_frozen BK377.out 0; have hfz91_1 := blk_frozen BK377.out 1; have hfz91_2 := blk_frozen BK377.out 2) | ((with_reducible refine gate_callee (f := 32) rfl ?_); refine goesL_ (some 73) rfl rfl Tryd.func32 (by kernel_rfl) rfl #[.agg #[.int .i64 a0_0, .int .i64 a0_1, .string a0_2]] rfl ga_ ?_; (with_reducible refine (val_Check.calls kj20 a0_0 a0_1 a0_2 t397 _ A81.out).mono ?_); rintro e w92 ⟨rfl, hb⟩; refine ⟨_, rfl, ?_⟩; have n0_ := bb_ (bu_ BK377) hb; have n1_ := bb_ (bu_ BK378) hb; have n2_ := bb_ (bu_ BK385) hb; have n3_ := bb_ (bu_ BK390) hb; have n4_ := bs_ (be_ HB) hb; clear BK377; clear BK378; clear BK385; clear BK390; clear HB; have BK377 := n0_; have BK378 := n1_; have BK385 := n2_; have BK390 := n3_; have HB := n4_; clear n0_ n1_ n2_ n3_ n4_; (try clear hcz91_0 hcz91_1 hcz91_2 hfz91_0 hfz91_1 hfz91_2); (try clear hb); (try clear hb2); (try clear hk); (try clear hi)) | (go_at_call 33; (with_reducible refine (constablelaw01_wakes.calls kj20  t398 _ A85.out HR_.out (ee_ HL_ (be_ HB))).mono ?_); rintro e w93 ⟨rfl, hb⟩; have n0_ := bb_ (bu_ BK377) hb; have n1_ := bb_ (bu_ BK378) hb; have n2_ := bb_ (bu_ BK385) hb; have n3_ := bb_ (bu_ BK390) hb; have n4_ := bs_ (be_ HB) hb; clear BK377; clear BK378; clear BK385; clear BK390; clear HB; have BK377 := n0_; have BK378 := n1_; have BK385 := n2_; have BK390 := n3_; have HB := n4_; clear n0_ n1_ n2_ n3_ n4_; (try clear hb); (try clear hb2); (try clear hk); (try clear hi)))
                      go_ret
                      exact ⟨by first | rfl | (simp [errW_none, errW_some] <;> rfl) | (simp [*, errW_none, errW_some] <;> rfl), by repeat (first | (with_reducible first | exact HB.out | apply below_alloc | apply pw_below_drewN | apply below_drew1 | refine below_set ?_ GE377.out | refine below_set ?_ GE378.out | refine below_set ?_ GE385.out | refine below_set ?_ GE390.out) | exact HB.out)⟩
                    · rw [if_neg c84] at H
                      obtain ⟨c84b0, c84b1⟩ := neB_ c84
                      exact absurd ((Option.some.inj H).trans HR_.out) (by decide)
                  · rw [if_neg c83] at H
                    obtain ⟨c83b0, c83b1⟩ := neB_ c83
                    exact absurd ((Option.some.inj H).trans HR_.out) (by decide)
                · rw [if_neg c82] at H
                  obtain ⟨c82b0, c82b1⟩ := neB_ c82
                  exact absurd ((Option.some.inj H).trans HR_.out) (by decide)
end Go.Proofs.YtaopajmpifenoaaDoor.P
end
section
namespace Go.Proofs.YtaopajmpifenoaaDoor.P
open Go.RowKit Go.Proofs.YtaopajmpifenoaaDoorW.PrintWords Go.Proofs.YtaopajmpifenoaaDoorW.PrintLast Go.Proofs.YtaopajmpifenoaaDoorW.PrintMore
theorem evPos {α : Type} {c : Prop} [Decidable c] {f g : Nat → Option α} {r : α} (h : c) (k : Ev f r) : Ev (fun n => if c then f n else g n) r := Ev.congr (fun _ => if_pos h) k
theorem evNeg {α : Type} {c : Prop} [Decidable c] {f g : Nat → Option α} {r : α} (h : ¬ c) (k : Ev g r) : Ev (fun n => if c then f n else g n) r := Ev.congr (fun _ => if_neg h) k
theorem evSome {α : Type} {a r : α} (h : a = r) : Ev (fun _ => some a) r := ⟨0, fun _ _ => by rw [h]⟩
theorem evShift {α : Type} {g : Nat → Option α} {r : α} (k : Ev (fun n => g (n + 1)) r) : Ev g r := Ev.step (fun _ => rfl) k
theorem evBind0 {α β : Type} {g : Option α} {f : Nat → α → Option β} {a : α} {r : β} (h : g = some a) (k : Ev (fun n => f n a) r) : Ev (fun n => g.bind (f n)) r := by subst h; exact k
theorem evCond {α : Type} {b : Bool} {f g : Nat → Option α} {r : α} (h1 : b = true → Ev f r) (h2 : b = false → Ev g r) : Ev (fun n => if b = true then f n else g n) r := by
  cases b with
  | true => exact evPos rfl (h1 rfl)
  | false => exact evNeg (by decide) (h2 rfl)
theorem evIf {α : Type} {c : Prop} [Decidable c] {f g : Nat → Option α} {r : α} (h1 : c → Ev f r) (h2 : ¬ c → Ev g r) : Ev (fun n => if c then f n else g n) r := by
  by_cases h : c
  · exact evPos h (h1 h)
  · exact evNeg h (h2 h)
end Go.Proofs.YtaopajmpifenoaaDoor.P
end
