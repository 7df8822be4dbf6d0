-- written by a program of this work (wip/myprint.sh) out of the translation; Lean checks it.
import Derived.Test.YtconpnagoijacaaPx0
import Derived.Test.YtconpnagoijacaaPx9
import Derived.Test.YtconpnagoijacaaPx13
namespace Go.Proofs.Ytconpnagoijacaa.P
open Go.RowKit Go.Proofs.YtconpnagoijacaaW.PrintWords Go.Proofs.YtconpnagoijacaaW.PrintLast Go.Proofs.YtconpnagoijacaaW.PrintMore
attribute [local go_sem] max2_int min2_int max_two min_two max_three min_three max_four min_four   -- for this text's walks alone
set_option linter.unusedVariables false
set_option linter.unusedSimpArgs false

/-! ### constablelaw02_NumTurn: function 5 -/
mutual
def constablelaw02_NumTurn.j0 : Nat → Int → Int → Int → Int → Bool → Option (Bool)
  | 0, _, _, _, _, _ => none
  | k + 1, x0, x1, x5, x6, x80 => if x80 = true then (some false) else (if x1 < (-4611686018427387904) then (constablelaw02_NumTurn.j1 k x0 x1 x5 x6 true) else (constablelaw02_NumTurn.j1 k x0 x1 x5 x6 (decide (x1 > 4611686018427387904))))
def constablelaw02_NumTurn.j1 : Nat → Int → Int → Int → Int → Bool → Option (Bool)
  | 0, _, _, _, _, _ => none
  | k + 1, x0, x1, x5, x6, x86 => if x86 = true then (if x6 = 4 then ((constablelaw02_wakes.f k).bind fun t171 => (some t171)) else (some false)) else ((num_Do.f k 4 x0 (wrap64 (-x1))).bind fun bt172 => (if bt172.1 = x5 then (if bt172.2 = x6 then ((constablelaw02_wakes.f k).bind fun t174 => (some t174)) else (some false)) else (some false)))
end
def constablelaw02_NumTurn.f (k : Nat) (a0 : Int) (a1 : Int) : Option (Bool) := (num_Do.f k 3 a0 a1).bind fun bt159 => ((num_Do.f k 3 a1 a0).bind fun bt161 => ((num_Do.f k 5 a0 a1).bind fun bt163 => ((num_Do.f k 5 a1 a0).bind fun bt165 => ((num_Do.f k 0 a0 a1).bind fun bt167 => ((num_Do.f k 2 a0 a1).bind fun bt169 => (if bt159.1 = bt161.1 then (if bt159.2 = bt161.2 then (if bt163.1 = bt165.1 then (if bt163.2 = bt165.2 then (if bt167.2 = 3 then (constablelaw02_NumTurn.j0 k a0 a1 bt159.1 bt159.2 (bt169.2 != 3)) else (constablelaw02_NumTurn.j0 k a0 a1 bt159.1 bt159.2 true)) else (constablelaw02_NumTurn.j0 k a0 a1 bt159.1 bt159.2 true)) else (constablelaw02_NumTurn.j0 k a0 a1 bt159.1 bt159.2 true)) else (constablelaw02_NumTurn.j0 k a0 a1 bt159.1 bt159.2 true)) else (constablelaw02_NumTurn.j0 k a0 a1 bt159.1 bt159.2 true)))))))
theorem constablelaw02_NumTurn.mono_l : ∀ k, (∀ y0 y1 y2 y3 y4, LeO (constablelaw02_NumTurn.j0 k y0 y1 y2 y3 y4) (constablelaw02_NumTurn.j0 (k + 1) y0 y1 y2 y3 y4)) ∧ (∀ y0 y1 y2 y3 y4, LeO (constablelaw02_NumTurn.j1 k y0 y1 y2 y3 y4) (constablelaw02_NumTurn.j1 (k + 1) y0 y1 y2 y3 y4))
  | 0 => ⟨fun _ _ _ _ _ r h => by simp [constablelaw02_NumTurn.j0] at h, fun _ _ _ _ _ r h => by simp [constablelaw02_NumTurn.j1] at h⟩
  | k + 1 => by
    obtain ⟨ih0, ih1⟩ := constablelaw02_NumTurn.mono_l k
    refine ⟨?_, ?_⟩
    · intro y0 y1 y2 y3 y4
      unfold constablelaw02_NumTurn.j0
      repeat' first
      | (with_reducible exact ih0 _ _ _ _ _)
      | (with_reducible exact ih1 _ _ _ _ _)
      | (with_reducible exact constablelaw02_wakes.mono _)
      | (with_reducible exact num_Do.mono _ _ _ _)
      | (with_reducible exact LeO.refl _)
      | (with_reducible exact LeO.none _)
      | (with_reducible refine LeO.ite ?_ ?_)
      | (with_reducible refine LeO.bind ?_ (fun _ => ?_))
      | exact ih0 _ _ _ _ _
      | exact ih1 _ _ _ _ _
      | exact constablelaw02_wakes.mono _
      | exact num_Do.mono _ _ _ _
      | exact LeO.none _
      | refine LeO.ite ?_ ?_
      | refine LeO.bind ?_ (fun _ => ?_)
    · intro y0 y1 y2 y3 y4
      unfold constablelaw02_NumTurn.j1
      repeat' first
      | (with_reducible exact ih0 _ _ _ _ _)
      | (with_reducible exact ih1 _ _ _ _ _)
      | (with_reducible exact constablelaw02_wakes.mono _)
      | (with_reducible exact num_Do.mono _ _ _ _)
      | (with_reducible exact LeO.refl _)
      | (with_reducible exact LeO.none _)
      | (with_reducible refine LeO.ite ?_ ?_)
      | (with_reducible refine LeO.bind ?_ (fun _ => ?_))
      | exact ih0 _ _ _ _ _
      | exact ih1 _ _ _ _ _
      | exact constablelaw02_wakes.mono _
      | exact num_Do.mono _ _ _ _
      | exact LeO.none _
      | refine LeO.ite ?_ ?_
      | refine LeO.bind ?_ (fun _ => ?_)
theorem constablelaw02_NumTurn.mono : ∀ a0 a1 k, LeO (constablelaw02_NumTurn.f k a0 a1) (constablelaw02_NumTurn.f (k + 1) a0 a1) := by
  intro a0 a1 k
  obtain ⟨ih0, ih1⟩ := constablelaw02_NumTurn.mono_l k
  unfold constablelaw02_NumTurn.f
  repeat' first
      | (with_reducible exact ih0 _ _ _ _ _)
      | (with_reducible exact ih1 _ _ _ _ _)
      | (with_reducible exact constablelaw02_wakes.mono _)
      | (with_reducible exact num_Do.mono _ _ _ _)
      | (with_reducible exact LeO.refl _)
      | (with_reducible exact LeO.none _)
      | (with_reducible refine LeO.ite ?_ ?_)
      | (with_reducible refine LeO.bind ?_ (fun _ => ?_))
      | exact ih0 _ _ _ _ _
      | exact ih1 _ _ _ _ _
      | exact constablelaw02_wakes.mono _
      | exact num_Do.mono _ _ _ _
      | exact LeO.none _
      | refine LeO.ite ?_ ?_
      | refine LeO.bind ?_ (fun _ => ?_)
set_option maxHeartbeats 8000000 in
set_option maxRecDepth 100000 in
theorem constablelaw02_NumTurn.calls (k : Nat) (a0 : Int) (a1 : Int) (r : Bool) (w : World) (h : constablelaw02_NumTurn.f k a0 a1 = some r) :
    Calls Try.prog 5 #[.int .i64 a0, .int .i64 a1] w fun e w' => e = .returned (.bool r) ∧ Below w.heap.size w w' := by
  have HB := Aside0.mk (Below.refl w.heap.size w)
  have H : ((num_Do.f k 3 a0 a1).bind fun bt159 => ((num_Do.f k 3 a1 a0).bind fun bt161 => ((num_Do.f k 5 a0 a1).bind fun bt163 => ((num_Do.f k 5 a1 a0).bind fun bt165 => ((num_Do.f k 0 a0 a1).bind fun bt167 => ((num_Do.f k 2 a0 a1).bind fun bt169 => (if bt159.1 = bt161.1 then (if bt159.2 = bt161.2 then (if bt163.1 = bt165.1 then (if bt163.2 = bt165.2 then (if bt167.2 = 3 then (constablelaw02_NumTurn.j0 k a0 a1 bt159.1 bt159.2 (bt169.2 != 3)) else (constablelaw02_NumTurn.j0 k a0 a1 bt159.1 bt159.2 true)) else (constablelaw02_NumTurn.j0 k a0 a1 bt159.1 bt159.2 true)) else (constablelaw02_NumTurn.j0 k a0 a1 bt159.1 bt159.2 true)) else (constablelaw02_NumTurn.j0 k a0 a1 bt159.1 bt159.2 true)) else (constablelaw02_NumTurn.j0 k a0 a1 bt159.1 bt159.2 true)))))))) = some r := h
  clear h
  replace H := Option.bind_eq_some_iff.mp H
  obtain ⟨⟨t159, t160⟩, A30, H⟩ := H
  replace H : ((num_Do.f k 3 a1 a0).bind fun bt161 => ((num_Do.f k 5 a0 a1).bind fun bt163 => ((num_Do.f k 5 a1 a0).bind fun bt165 => ((num_Do.f k 0 a0 a1).bind fun bt167 => ((num_Do.f k 2 a0 a1).bind fun bt169 => (if t159 = bt161.1 then (if t160 = bt161.2 then (if bt163.1 = bt165.1 then (if bt163.2 = bt165.2 then (if bt167.2 = 3 then (constablelaw02_NumTurn.j0 k a0 a1 t159 t160 (bt169.2 != 3)) else (constablelaw02_NumTurn.j0 k a0 a1 t159 t160 true)) else (constablelaw02_NumTurn.j0 k a0 a1 t159 t160 true)) else (constablelaw02_NumTurn.j0 k a0 a1 t159 t160 true)) else (constablelaw02_NumTurn.j0 k a0 a1 t159 t160 true)) else (constablelaw02_NumTurn.j0 k a0 a1 t159 t160 true))))))) = some r := H
  have A3 := Aside0.mk A30
  clear A30
  replace H := Option.bind_eq_some_iff.mp H
  obtain ⟨⟨t161, t162⟩, A40, H⟩ := H
  replace H : ((num_Do.f k 5 a0 a1).bind fun bt163 => ((num_Do.f k 5 a1 a0).bind fun bt165 => ((num_Do.f k 0 a0 a1).bind fun bt167 => ((num_Do.f k 2 a0 a1).bind fun bt169 => (if t159 = t161 then (if t160 = t162 then (if bt163.1 = bt165.1 then (if bt163.2 = bt165.2 then (if bt167.2 = 3 then (constablelaw02_NumTurn.j0 k a0 a1 t159 t160 (bt169.2 != 3)) else (constablelaw02_NumTurn.j0 k a0 a1 t159 t160 true)) else (constablelaw02_NumTurn.j0 k a0 a1 t159 t160 true)) else (constablelaw02_NumTurn.j0 k a0 a1 t159 t160 true)) else (constablelaw02_NumTurn.j0 k a0 a1 t159 t160 true)) else (constablelaw02_NumTurn.j0 k a0 a1 t159 t160 true)))))) = some r := H
  have A4 := Aside0.mk A40
  clear A40
  replace H := Option.bind_eq_some_iff.mp H
  obtain ⟨⟨t163, t164⟩, A50, H⟩ := H
  replace H : ((num_Do.f k 5 a1 a0).bind fun bt165 => ((num_Do.f k 0 a0 a1).bind fun bt167 => ((num_Do.f k 2 a0 a1).bind fun bt169 => (if t159 = t161 then (if t160 = t162 then (if t163 = bt165.1 then (if t164 = bt165.2 then (if bt167.2 = 3 then (constablelaw02_NumTurn.j0 k a0 a1 t159 t160 (bt169.2 != 3)) else (constablelaw02_NumTurn.j0 k a0 a1 t159 t160 true)) else (constablelaw02_NumTurn.j0 k a0 a1 t159 t160 true)) else (constablelaw02_NumTurn.j0 k a0 a1 t159 t160 true)) else (constablelaw02_NumTurn.j0 k a0 a1 t159 t160 true)) else (constablelaw02_NumTurn.j0 k a0 a1 t159 t160 true))))) = some r := H
  have A5 := Aside0.mk A50
  clear A50
  replace H := Option.bind_eq_some_iff.mp H
  obtain ⟨⟨t165, t166⟩, A60, H⟩ := H
  replace H : ((num_Do.f k 0 a0 a1).bind fun bt167 => ((num_Do.f k 2 a0 a1).bind fun bt169 => (if t159 = t161 then (if t160 = t162 then (if t163 = t165 then (if t164 = t166 then (if bt167.2 = 3 then (constablelaw02_NumTurn.j0 k a0 a1 t159 t160 (bt169.2 != 3)) else (constablelaw02_NumTurn.j0 k a0 a1 t159 t160 true)) else (constablelaw02_NumTurn.j0 k a0 a1 t159 t160 true)) else (constablelaw02_NumTurn.j0 k a0 a1 t159 t160 true)) else (constablelaw02_NumTurn.j0 k a0 a1 t159 t160 true)) else (constablelaw02_NumTurn.j0 k a0 a1 t159 t160 true)))) = some r := H
  have A6 := Aside0.mk A60
  clear A60
  replace H := Option.bind_eq_some_iff.mp H
  obtain ⟨⟨t167, t168⟩, A70, H⟩ := H
  replace H : ((num_Do.f k 2 a0 a1).bind fun bt169 => (if t159 = t161 then (if t160 = t162 then (if t163 = t165 then (if t164 = t166 then (if t168 = 3 then (constablelaw02_NumTurn.j0 k a0 a1 t159 t160 (bt169.2 != 3)) else (constablelaw02_NumTurn.j0 k a0 a1 t159 t160 true)) else (constablelaw02_NumTurn.j0 k a0 a1 t159 t160 true)) else (constablelaw02_NumTurn.j0 k a0 a1 t159 t160 true)) else (constablelaw02_NumTurn.j0 k a0 a1 t159 t160 true)) else (constablelaw02_NumTurn.j0 k a0 a1 t159 t160 true))) = some r := H
  have A7 := Aside0.mk A70
  clear A70
  replace H := Option.bind_eq_some_iff.mp H
  obtain ⟨⟨t169, t170⟩, A80, H⟩ := H
  replace H : (if t159 = t161 then (if t160 = t162 then (if t163 = t165 then (if t164 = t166 then (if t168 = 3 then (constablelaw02_NumTurn.j0 k a0 a1 t159 t160 (t170 != 3)) else (constablelaw02_NumTurn.j0 k a0 a1 t159 t160 true)) else (constablelaw02_NumTurn.j0 k a0 a1 t159 t160 true)) else (constablelaw02_NumTurn.j0 k a0 a1 t159 t160 true)) else (constablelaw02_NumTurn.j0 k a0 a1 t159 t160 true)) else (constablelaw02_NumTurn.j0 k a0 a1 t159 t160 true)) = some r := H
  have A8 := Aside0.mk A80
  clear A80
  have HC9 := Aside0.mk H
  clear H
  go_enter Try.func5, Try.ntmps5
  go_upto_region 7 with (first | ((with_reducible refine gate_callee (f := 13) rfl ?_); refine goesL_ (some 22) rfl rfl Try.func13 (by kernel_rfl) rfl #[.int .i64 3, .int .i64 a0, .int .i64 a1] rfl (by (try simp only [List.map_toArray, List.map_cons, List.map_nil]); first | done | rfl | (simp only [List.length_drop, List.length_take]; rfl)) ?_; (with_reducible refine (num_Do.calls k 3 a0 a1 t159 t160 _ A3.out).mono ?_); rintro e w' ⟨rfl, ⟨nd, rfl⟩⟩; refine ⟨_, rfl, ?_⟩) | ((with_reducible refine gate_callee (f := 13) rfl ?_); refine goesL_ (some 28) rfl rfl Try.func13 (by kernel_rfl) rfl #[.int .i64 3, .int .i64 a1, .int .i64 a0] rfl (by (try simp only [List.map_toArray, List.map_cons, List.map_nil]); first | done | rfl | (simp only [List.length_drop, List.length_take]; rfl)) ?_; (with_reducible refine (num_Do.calls k 3 a1 a0 t161 t162 _ A4.out).mono ?_); rintro e w' ⟨rfl, ⟨nd, rfl⟩⟩; refine ⟨_, rfl, ?_⟩) | ((with_reducible refine gate_callee (f := 13) rfl ?_); refine goesL_ (some 34) rfl rfl Try.func13 (by kernel_rfl) rfl #[.int .i64 5, .int .i64 a0, .int .i64 a1] rfl (by (try simp only [List.map_toArray, List.map_cons, List.map_nil]); first | done | rfl | (simp only [List.length_drop, List.length_take]; rfl)) ?_; (with_reducible refine (num_Do.calls k 5 a0 a1 t163 t164 _ A5.out).mono ?_); rintro e w' ⟨rfl, ⟨nd, rfl⟩⟩; refine ⟨_, rfl, ?_⟩) | ((with_reducible refine gate_callee (f := 13) rfl ?_); refine goesL_ (some 40) rfl rfl Try.func13 (by kernel_rfl) rfl #[.int .i64 5, .int .i64 a1, .int .i64 a0] rfl (by (try simp only [List.map_toArray, List.map_cons, List.map_nil]); first | done | rfl | (simp only [List.length_drop, List.length_take]; rfl)) ?_; (with_reducible refine (num_Do.calls k 5 a1 a0 t165 t166 _ A6.out).mono ?_); rintro e w' ⟨rfl, ⟨nd, rfl⟩⟩; refine ⟨_, rfl, ?_⟩) | ((with_reducible refine gate_callee (f := 13) rfl ?_); refine goesL_ (some 46) rfl rfl Try.func13 (by kernel_rfl) rfl #[.int .i64 0, .int .i64 a0, .int .i64 a1] rfl (by (try simp only [List.map_toArray, List.map_cons, List.map_nil]); first | done | rfl | (simp only [List.length_drop, List.length_take]; rfl)) ?_; (with_reducible refine (num_Do.calls k 0 a0 a1 t167 t168 _ A7.out).mono ?_); rintro e w' ⟨rfl, ⟨nd, rfl⟩⟩; refine ⟨_, rfl, ?_⟩) | ((with_reducible refine gate_callee (f := 13) rfl ?_); refine goesL_ (some 52) rfl rfl Try.func13 (by kernel_rfl) rfl #[.int .i64 2, .int .i64 a0, .int .i64 a1] rfl (by (try simp only [List.map_toArray, List.map_cons, List.map_nil]); first | done | rfl | (simp only [List.length_drop, List.length_take]; rfl)) ?_; (with_reducible refine (num_Do.calls k 2 a0 a1 t169 t170 _ A8.out).mono ?_); rintro e w' ⟨rfl, ⟨nd, rfl⟩⟩; refine ⟨_, rfl, ?_⟩))
  (try simp only [Act.put, List.setIfInBounds_toArray, List.set_cons_zero, List.set_cons_succ])
  go_cut [80] (fun v80 wc => ∃ (kq : Nat) (x80_8 : Bool), v80 = .bool x80_8 ∧ Aside0 (constablelaw02_NumTurn.j0 kq a0 a1 t159 t160 x80_8 = some r) ∧ Aside0 (kq ≤ k) ∧ Aside0 (Below w.heap.size w wc))
  case first =>
    have H := HC9.out
    clear HC9
    by_cases c10 : t159 = t161
    · rw [if_pos c10] at H
      have c10b0 : (t159 == t161) = true := beq_iff_eq.mpr c10
      have c10b1 : (t159 != t161) = false := bne_eq_false_iff_eq.mpr c10
      clear c10
      (first | rw [c10b0] | (simp only [i64_w, i32_w]; rw [c10b0]) | skip)
      by_cases c11 : t160 = t162
      · rw [if_pos c11] at H
        have c11b0 : (t160 == t162) = true := beq_iff_eq.mpr c11
        have c11b1 : (t160 != t162) = false := bne_eq_false_iff_eq.mpr c11
        clear c11
        by_cases c12 : t163 = t165
        · rw [if_pos c12] at H
          have c12b0 : (t163 == t165) = true := beq_iff_eq.mpr c12
          have c12b1 : (t163 != t165) = false := bne_eq_false_iff_eq.mpr c12
          clear c12
          by_cases c13 : t164 = t166
          · rw [if_pos c13] at H
            have c13b0 : (t164 == t166) = true := beq_iff_eq.mpr c13
            have c13b1 : (t164 != t166) = false := bne_eq_false_iff_eq.mpr c13
            clear c13
            by_cases c14 : t168 = 3
            · rw [if_pos c14] at H
              have c14b0 : (t168 == 3) = true := beq_iff_eq.mpr c14
              have c14b1 : (t168 != 3) = false := bne_eq_false_iff_eq.mpr c14
              clear c14
              have H' := Aside0.mk H
              clear H
              go_wp2
              go_meet
              case rel => exact ⟨_, ((t170 != 3)), (by first | rfl | (simp; done) | (simp [*]; done)), H', ⟨by first | omega | exact Nat.le_refl _⟩, ⟨by repeat (first | (with_reducible first | exact HB.out | apply below_alloc | apply pw_below_drewN | apply below_drew1) | exact HB.out)⟩⟩
            · rw [if_neg c14] at H
              have c14b0 : (t168 == 3) = false := beq_eq_false_iff_ne.mpr c14
              have c14b1 : (t168 != 3) = true := bne_iff_ne.mpr c14
              have H' := Aside0.mk H
              clear H
              go_wp2
              go_meet
              case rel => exact ⟨_, (true), (by first | rfl | (simp; done) | (simp [*]; done)), H', ⟨by first | omega | exact Nat.le_refl _⟩, ⟨by repeat (first | (with_reducible first | exact HB.out | apply below_alloc | apply pw_below_drewN | apply below_drew1) | exact HB.out)⟩⟩
          · rw [if_neg c13] at H
            have c13b0 : (t164 == t166) = false := beq_eq_false_iff_ne.mpr c13
            have c13b1 : (t164 != t166) = true := bne_iff_ne.mpr c13
            have H' := Aside0.mk H
            clear H
            go_wp2
            go_meet
            case rel => exact ⟨_, (true), (by first | rfl | (simp; done) | (simp [*]; done)), H', ⟨by first | omega | exact Nat.le_refl _⟩, ⟨by repeat (first | (with_reducible first | exact HB.out | apply below_alloc | apply pw_below_drewN | apply below_drew1) | exact HB.out)⟩⟩
        · rw [if_neg c12] at H
          have c12b0 : (t163 == t165) = false := beq_eq_false_iff_ne.mpr c12
          have c12b1 : (t163 != t165) = true := bne_iff_ne.mpr c12
          have H' := Aside0.mk H
          clear H
          go_wp2
          go_meet
          case rel => exact ⟨_, (true), (by first | rfl | (simp; done) | (simp [*]; done)), H', ⟨by first | omega | exact Nat.le_refl _⟩, ⟨by repeat (first | (with_reducible first | exact HB.out | apply below_alloc | apply pw_below_drewN | apply below_drew1) | exact HB.out)⟩⟩
      · rw [if_neg c11] at H
        have c11b0 : (t160 == t162) = false := beq_eq_false_iff_ne.mpr c11
        have c11b1 : (t160 != t162) = true := bne_iff_ne.mpr c11
        have H' := Aside0.mk H
        clear H
        go_wp2
        go_meet
        case rel => exact ⟨_, (true), (by first | rfl | (simp; done) | (simp [*]; done)), H', ⟨by first | omega | exact Nat.le_refl _⟩, ⟨by repeat (first | (with_reducible first | exact HB.out | apply below_alloc | apply pw_below_drewN | apply below_drew1) | exact HB.out)⟩⟩
    · rw [if_neg c10] at H
      have c10b0 : (t159 == t161) = false := beq_eq_false_iff_ne.mpr c10
      have c10b1 : (t159 != t161) = true := bne_iff_ne.mpr c10
      (first | rw [c10b0] | (simp only [i64_w, i32_w]; rw [c10b0]) | skip)
      have H' := Aside0.mk H
      clear H
      go_wp2
      go_meet
      case rel => exact ⟨_, (true), (by first | rfl | (simp; done) | (simp [*]; done)), H', ⟨by first | omega | exact Nat.le_refl _⟩, ⟨by repeat (first | (with_reducible first | exact HB.out | apply below_alloc | apply pw_below_drewN | apply below_drew1) | exact HB.out)⟩⟩
  case rest =>
    clear HC9
    try clear c1
    try clear p2
    try clear c5
    try clear c10
    try clear c10b0
    try clear c10b1
    try clear c11
    try clear c11b0
    try clear c11b1
    try clear c12
    try clear c12b0
    try clear c12b1
    try clear c13
    try clear c13b0
    try clear c13b1
    try clear c14
    try clear c14b0
    try clear c14b1
    obtain ⟨kq, x80_8, rfl, HA, HJ8, HB⟩ := hcut
    cases kq with
    | zero => exact absurd HA.out (by simp [constablelaw02_NumTurn.j0])
    | succ kj8 =>
      have H := HA.out
      clear HA
      simp only [constablelaw02_NumTurn.j0] at H
      by_cases c15 : x80_8 = true
      · subst c15
        have H1 : (some false) = some r := by rw [if_pos rfl] at H; exact H
        clear H
        have H := H1
        clear H1
        obtain rfl := Option.some.inj H
        go_wp2
        go_ret
        exact ⟨by first | rfl | (simp [errW_none, errW_some] <;> rfl) | (simp [*, errW_none, errW_some] <;> rfl), by repeat (first | (with_reducible first | exact HB.out | apply below_alloc | apply pw_below_drewN | apply below_drew1) | exact HB.out)⟩
      · replace c15 := Bool.eq_false_iff.mpr c15
        subst c15
        have H1 : (if a1 < (-4611686018427387904) then (constablelaw02_NumTurn.j1 kj8 a0 a1 t159 t160 true) else (constablelaw02_NumTurn.j1 kj8 a0 a1 t159 t160 (decide (a1 > 4611686018427387904)))) = some r := by rw [if_neg (show ¬ (false = true) by decide)] at H; exact H
        clear H
        have H := H1
        clear H1
        have HC16 := Aside0.mk H
        clear H
        go_upto_region 9 with (fail)
        go_cut [86] (fun v86 wc => ∃ (kq : Nat) (x86_15 : Bool), v86 = .bool x86_15 ∧ Aside0 (constablelaw02_NumTurn.j1 kq a0 a1 t159 t160 x86_15 = some r) ∧ Aside0 (kq ≤ kj8) ∧ Aside0 (Below w.heap.size w wc))
        case first =>
          have H := HC16.out
          clear HC16
          by_cases c17 : a1 < (-4611686018427387904)
          · rw [if_pos c17] at H
            have c17b0 : decide (a1 < (-4611686018427387904)) = true := decide_eq_true c17
            clear c17
            (first | rw [c17b0] | (simp only [i64_w, i32_w]; rw [c17b0]) | skip)
            have H' := Aside0.mk H
            clear H
            go_wp2
            go_meet
            case rel => exact ⟨_, (true), (by first | rfl | (simp; done) | (simp [*]; done)), H', ⟨by have := HJ8.out; first | omega | exact Nat.le_refl _⟩, ⟨by repeat (first | (with_reducible first | exact HB.out | apply below_alloc | apply pw_below_drewN | apply below_drew1) | exact HB.out)⟩⟩
          · rw [if_neg c17] at H
            have c17b0 : decide (a1 < (-4611686018427387904)) = false := decide_eq_false c17
            clear c17
            (first | rw [c17b0] | (simp only [i64_w, i32_w]; rw [c17b0]) | skip)
            have H' := Aside0.mk H
            clear H
            go_wp2
            go_meet
            case rel => exact ⟨_, (decide (a1 > 4611686018427387904)), (by first | rfl | (simp; done) | (simp [*]; done)), H', ⟨by have := HJ8.out; first | omega | exact Nat.le_refl _⟩, ⟨by repeat (first | (with_reducible first | exact HB.out | apply below_alloc | apply pw_below_drewN | apply below_drew1) | exact HB.out)⟩⟩
        case rest =>
          clear HC16
          try clear c1
          try clear p2
          try clear c5
          try clear c10
          try clear c10b0
          try clear c10b1
          try clear c11
          try clear c11b0
          try clear c11b1
          try clear c12
          try clear c12b0
          try clear c12b1
          try clear c13
          try clear c13b0
          try clear c13b1
          try clear c14
          try clear c14b0
          try clear c14b1
          try clear c15
          try clear c17
          try clear c17b0
          try clear p2
          obtain ⟨kq, x86_15, rfl, HA, HJ15, HB⟩ := hcut
          cases kq with
          | zero => exact absurd HA.out (by simp [constablelaw02_NumTurn.j1])
          | succ kj15 =>
            have H := HA.out
            clear HA
            simp only [constablelaw02_NumTurn.j1] at H
            by_cases c18 : x86_15 = true
            · subst c18
              have H1 : (if t160 = 4 then ((constablelaw02_wakes.f kj15).bind fun t171 => (some t171)) else (some false)) = some r := by rw [if_pos rfl] at H; exact H
              clear H
              have H := H1
              clear H1
              by_cases c19 : t160 = 4
              · rw [if_pos c19] at H
                have c19b0 : (t160 == 4) = true := beq_iff_eq.mpr c19
                have c19b1 : (t160 != 4) = false := bne_eq_false_iff_eq.mpr c19
                clear c19
                replace H := Option.bind_eq_some_iff.mp H
                obtain ⟨t171, A200, H⟩ := H
                replace H : (some t171) = some r := H
                have A20 := Aside0.mk A200
                clear A200
                obtain rfl := Option.some.inj H
                go_wp2_with (first | (go_at_call 16; (with_reducible refine (constablelaw02_wakes.calls kj15  t171 _ A20.out).mono ?_); rintro e w21 ⟨rfl, hb⟩; have n0_ := Aside0.mk (below_step (by repeat (first | (with_reducible first | exact HB.out | apply below_alloc | apply pw_below_drewN | apply below_drew1) | exact HB.out)) hb); clear HB; have HB := n0_; clear n0_; (try clear hb); (try clear hb2); (try clear hk); (try clear hi)))
                go_ret
                exact ⟨by first | rfl | (simp [errW_none, errW_some] <;> rfl) | (simp [*, errW_none, errW_some] <;> rfl), by repeat (first | (with_reducible first | exact HB.out | apply below_alloc | apply pw_below_drewN | apply below_drew1) | exact HB.out)⟩
              · rw [if_neg c19] at H
                have c19b0 : (t160 == 4) = false := beq_eq_false_iff_ne.mpr c19
                have c19b1 : (t160 != 4) = true := bne_iff_ne.mpr c19
                obtain rfl := Option.some.inj H
                go_wp2
                go_ret
                exact ⟨by first | rfl | (simp [errW_none, errW_some] <;> rfl) | (simp [*, errW_none, errW_some] <;> rfl), by repeat (first | (with_reducible first | exact HB.out | apply below_alloc | apply pw_below_drewN | apply below_drew1) | exact HB.out)⟩
            · replace c18 := Bool.eq_false_iff.mpr c18
              subst c18
              have H1 : ((num_Do.f kj15 4 a0 (wrap64 (-a1))).bind fun bt172 => (if bt172.1 = t159 then (if bt172.2 = t160 then ((constablelaw02_wakes.f kj15).bind fun t174 => (some t174)) else (some false)) else (some false))) = some r := by rw [if_neg (show ¬ (false = true) by decide)] at H; exact H
              clear H
              have H := H1
              clear H1
              replace H := Option.bind_eq_some_iff.mp H
              obtain ⟨⟨t172, t173⟩, A220, H⟩ := H
              replace H : (if t172 = t159 then (if t173 = t160 then ((constablelaw02_wakes.f kj15).bind fun t174 => (some t174)) else (some false)) else (some false)) = some r := H
              have A22 := Aside0.mk A220
              clear A220
              by_cases c23 : t172 = t159
              · rw [if_pos c23] at H
                have c23b0 : (t172 == t159) = true := beq_iff_eq.mpr c23
                have c23b1 : (t172 != t159) = false := bne_eq_false_iff_eq.mpr c23
                clear c23
                by_cases c24 : t173 = t160
                · rw [if_pos c24] at H
                  have c24b0 : (t173 == t160) = true := beq_iff_eq.mpr c24
                  have c24b1 : (t173 != t160) = false := bne_eq_false_iff_eq.mpr c24
                  clear c24
                  replace H := Option.bind_eq_some_iff.mp H
                  obtain ⟨t174, A250, H⟩ := H
                  replace H : (some t174) = some r := H
                  have A25 := Aside0.mk A250
                  clear A250
                  obtain rfl := Option.some.inj H
                  go_wp2_with (first | ((with_reducible refine gate_callee (f := 13) rfl ?_); refine goesL_ (some 96) rfl rfl Try.func13 (by kernel_rfl) rfl #[.int .i64 4, .int .i64 a0, .int .i64 (wrap64 (-a1))] rfl (by (try simp only [List.map_toArray, List.map_cons, List.map_nil]); first | done | rfl | (simp only [List.length_drop, List.length_take]; rfl)) ?_; (with_reducible refine (num_Do.calls kj15 4 a0 (wrap64 (-a1)) t172 t173 _ A22.out).mono ?_); rintro e w' ⟨rfl, ⟨nd, rfl⟩⟩; refine ⟨_, rfl, ?_⟩) | (go_at_call 16; (with_reducible refine (constablelaw02_wakes.calls kj15  t174 _ A25.out).mono ?_); rintro e w26 ⟨rfl, hb⟩; have n0_ := Aside0.mk (below_step (by repeat (first | (with_reducible first | exact HB.out | apply below_alloc | apply pw_below_drewN | apply below_drew1) | exact HB.out)) hb); clear HB; have HB := n0_; clear n0_; (try clear hb); (try clear hb2); (try clear hk); (try clear hi)))
                  go_ret
                  exact ⟨by first | rfl | (simp [errW_none, errW_some] <;> rfl) | (simp [*, errW_none, errW_some] <;> rfl), by repeat (first | (with_reducible first | exact HB.out | apply below_alloc | apply pw_below_drewN | apply below_drew1) | exact HB.out)⟩
                · rw [if_neg c24] at H
                  have c24b0 : (t173 == t160) = false := beq_eq_false_iff_ne.mpr c24
                  have c24b1 : (t173 != t160) = true := bne_iff_ne.mpr c24
                  obtain rfl := Option.some.inj H
                  go_wp2_with (first | ((with_reducible refine gate_callee (f := 13) rfl ?_); refine goesL_ (some 96) rfl rfl Try.func13 (by kernel_rfl) rfl #[.int .i64 4, .int .i64 a0, .int .i64 (wrap64 (-a1))] rfl (by (try simp only [List.map_toArray, List.map_cons, List.map_nil]); first | done | rfl | (simp only [List.length_drop, List.length_take]; rfl)) ?_; (with_reducible refine (num_Do.calls kj15 4 a0 (wrap64 (-a1)) t172 t173 _ A22.out).mono ?_); rintro e w' ⟨rfl, ⟨nd, rfl⟩⟩; refine ⟨_, rfl, ?_⟩))
                  go_ret
                  exact ⟨by first | rfl | (simp [errW_none, errW_some] <;> rfl) | (simp [*, errW_none, errW_some] <;> rfl), by repeat (first | (with_reducible first | exact HB.out | apply below_alloc | apply pw_below_drewN | apply below_drew1) | exact HB.out)⟩
              · rw [if_neg c23] at H
                have c23b0 : (t172 == t159) = false := beq_eq_false_iff_ne.mpr c23
                have c23b1 : (t172 != t159) = true := bne_iff_ne.mpr c23
                obtain rfl := Option.some.inj H
                go_wp2_with (first | ((with_reducible refine gate_callee (f := 13) rfl ?_); refine goesL_ (some 96) rfl rfl Try.func13 (by kernel_rfl) rfl #[.int .i64 4, .int .i64 a0, .int .i64 (wrap64 (-a1))] rfl (by (try simp only [List.map_toArray, List.map_cons, List.map_nil]); first | done | rfl | (simp only [List.length_drop, List.length_take]; rfl)) ?_; (with_reducible refine (num_Do.calls kj15 4 a0 (wrap64 (-a1)) t172 t173 _ A22.out).mono ?_); rintro e w' ⟨rfl, ⟨nd, rfl⟩⟩; refine ⟨_, rfl, ?_⟩))
                go_ret
                exact ⟨by first | rfl | (simp [errW_none, errW_some] <;> rfl) | (simp [*, errW_none, errW_some] <;> rfl), by repeat (first | (with_reducible first | exact HB.out | apply below_alloc | apply pw_below_drewN | apply below_drew1) | exact HB.out)⟩

/-- THE ONE PURE STATEMENT of constablelaw02_NumTurn: yours. -/
def constablelaw02_NumTurn.Pure : Prop := ∀ (a0 : Int) (a1 : Int), (Lit.int .i64 a0).wf = true → (Lit.int .i64 a1).wf = true → ∃ k, constablelaw02_NumTurn.f k a0 a1 = some true
theorem constablelaw02_NumTurn.walk (P : constablelaw02_NumTurn.Pure) (a0 : Int) (a1 : Int) (w : World) (w0 : (Lit.int .i64 a0).wf = true) (w1 : (Lit.int .i64 a1).wf = true) :
    Calls Try.prog 5 #[.int .i64 a0, .int .i64 a1] w fun e w' => e = .returned (.bool true) ∧ Below w.heap.size w w' := by
  obtain ⟨k, h⟩ := P a0 a1 w0 w1
  refine (constablelaw02_NumTurn.calls k a0 a1 true w h).mono ?_
  rintro e w' ⟨rfl, hd⟩
  exact ⟨rfl, hd⟩

end Go.Proofs.Ytconpnagoijacaa.P
