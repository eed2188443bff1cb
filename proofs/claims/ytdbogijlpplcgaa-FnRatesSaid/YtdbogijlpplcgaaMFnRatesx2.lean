/- The walks of what FnRates reaches: lines of the kit's print for this claim, turned by hand where they did not build. -/
import Derived.Test.YtdbogijlpplcgaaMFnRatesx0
import Derived.Test.YtdbogijlpplcgaaMFnRatesx1
namespace Go.Proofs.Ytdbogijlpplcgaa.PFnRates
open Go.RowKit Go.Proofs.YtdbogijlpplcgaaW.PrintWords Go.Proofs.YtdbogijlpplcgaaW.PrintLast Go.Proofs.YtdbogijlpplcgaaW.PrintMore
attribute [local go_sem] max2_int min2_int max_two min_two max_three min_three max_four min_four   -- for this text's walks alone
set_option linter.unusedVariables false
set_option linter.unusedSimpArgs false

/-! ### laws_FnRates: function 9 -/
def laws_FnRates.f (k : Nat) (l0 : List Int) : Option (Bool) := (laws_big.f l0).bind fun t150 => (if t150 = true then (some true) else ((spec_DrawPlaces.f k l0).bind fun t151 => (if 0 < (t151.length : Int) then (if 1 < (t151.length : Int) then (if 2 < (t151.length : Int) then (if (wrap64 (1 + (Int.tmod (rd t151 1) 60))) = 0 then (none) else (if 3 < (t151.length : Int) then ((impl_RunRate.f k (Int.tmod (rd t151 0) 90) (wrap64 (1 + (Int.tmod (rd t151 1) 60))) (Int.tmod (rd t151 2) (wrap64 (1 + (Int.tmod (rd t151 1) 60)))) (Int.tmod (rd t151 3) 300)).bind fun bt159 => ((impl_RateOk.f (Int.tmod (rd t151 0) 90) (wrap64 (1 + (Int.tmod (rd t151 1) 60))) (Int.tmod (rd t151 2) (wrap64 (1 + (Int.tmod (rd t151 1) 60))))).bind fun t164 => (if t164 = true then ((impl_RateOk.f bt159.1 bt159.2.1 bt159.2.2.1).bind fun t165 => (if t165 = true then (if bt159.2.2.2 = (wrap64 (Int.tdiv (wrap64 ((Int.tmod (rd t151 2) (wrap64 (1 + (Int.tmod (rd t151 1) 60)))) + (wrap64 ((Int.tmod (rd t151 3) 300) * (Int.tmod (rd t151 0) 90))))) (wrap64 (1 + (Int.tmod (rd t151 1) 60))))) then (if bt159.2.2.1 = (Int.tmod (wrap64 ((Int.tmod (rd t151 2) (wrap64 (1 + (Int.tmod (rd t151 1) 60)))) + (wrap64 ((Int.tmod (rd t151 3) 300) * (Int.tmod (rd t151 0) 90))))) (wrap64 (1 + (Int.tmod (rd t151 1) 60)))) then (some (bt159.1 == (Int.tmod (rd t151 0) 90))) else (some false)) else (some false)) else (some false))) else (some false)))) else (none))) else (none)) else (none)) else (none))))
theorem laws_FnRates.mono : ∀ a0 k, LeO (laws_FnRates.f k a0) (laws_FnRates.f (k + 1) a0) := by
  intro a0 k
  unfold laws_FnRates.f
  repeat' first
      | (with_reducible exact impl_RunRate.mono _ _ _ _ _)
      | (with_reducible exact spec_DrawPlaces.mono _ _)
      | (with_reducible exact LeO.refl _)
      | (with_reducible exact LeO.none _)
      | (with_reducible refine LeO.ite ?_ ?_)
      | (with_reducible refine LeO.bind ?_ (fun _ => ?_))
      | exact impl_RunRate.mono _ _ _ _ _
      | exact spec_DrawPlaces.mono _ _
      | exact LeO.none _
      | refine LeO.ite ?_ ?_
      | refine LeO.bind ?_ (fun _ => ?_)
def laws_FnRates.T4 : Bool × List (List Nat × List Nat) := (true, [([], []), ([0], [0]), ([1], [1]), ([2], [2]), ([], []), ([4], [4]), ([5], [5]), ([6], [6]), ([7], [7]), ([3, 8], [3, 8]), ([], []), ([10, 9, 0, 1, 2, 3, 4, 5, 6, 7, 8, 9, 10], [9, 10])])
def laws_FnRates.B4 : List Nat := [0, 1, 3, 7, 0, 16, 48, 112, 240, 511, 0, 2047]
theorem laws_FnRates.tab4 : rtab .any (opsOf Try.f9 4) = laws_FnRates.T4 := by kernel_rfl
theorem laws_FnRates.bits4 : waitsOk laws_FnRates.T4.2 laws_FnRates.B4 = true := by kernel_rfl
def laws_FnRates.T5 : Bool × List (List Nat × List Nat) := (true, [([], []), ([0], [0]), ([1], [1]), ([], []), ([3], [3]), ([2, 4], [2, 4]), ([0, 1, 2, 3, 4, 5], []), ([6, 5, 0, 1, 2, 3, 4, 5], [5, 6])])
def laws_FnRates.B5 : List Nat := [0, 1, 3, 0, 8, 31, 63, 127]
theorem laws_FnRates.tab5 : rtab .any (opsOf Try.f9 5) = laws_FnRates.T5 := by kernel_rfl
theorem laws_FnRates.bits5 : waitsOk laws_FnRates.T5.2 laws_FnRates.B5 = true := by kernel_rfl
def laws_FnRates.T8 : Bool × List (List Nat × List Nat) := (true, [([], []), ([0], [0]), ([1, 1], [1]), ([2], [2]), ([3, 2, 2], [2, 3]), ([2, 4], [2, 4]), ([5, 4], [5]), ([6], [6]), ([6], [6]), ([8, 6], [6, 8]), ([6], [6]), ([6], [6]), ([11, 6], [6, 11]), ([10, 12, 6], [6, 10, 12]), ([9, 13, 6], [6, 9, 13]), ([6], [6]), ([15, 6], [6, 15]), ([14, 16, 6], [6, 14, 16]), ([7, 17, 6], [6, 7, 17]), ([6, 18], [6, 18]), ([19, 6], [19]), ([20], [20]), ([21, 20], [20, 21]), ([20], [20]), ([23, 20], [20, 23]), ([20], [20]), ([20], [20]), ([26, 20], [20, 26]), ([25, 27, 20], [20, 25, 27]), ([24, 28, 20], [20, 24, 28]), ([20], [20]), ([30, 20], [20, 30]), ([29, 31, 20], [20, 29, 31]), ([22, 32, 20], [20, 22, 32]), ([20, 33], [20, 33]), ([34, 20], [34]), ([35], [35]), ([36, 35], [35, 36]), ([35], [35]), ([38, 35], [35, 38]), ([37, 39, 35], [35, 37, 39]), ([35, 40], [35, 40]), ([41, 35, 0, 1, 2, 3, 4, 5, 6, 7, 8, 9, 10, 11, 12, 13, 14, 15, 16, 17, 18, 19, 20, 21, 22, 23, 24, 25, 26, 27, 28, 29, 30, 31, 32, 33, 34, 35, 36, 37, 38, 39, 40, 41], [41])])
def laws_FnRates.B8 : List Nat := [0, 1, 3, 7, 15, 31, 63, 127, 127, 383, 127, 127, 2175, 7295, 16255, 127, 32895, 130943, 262143, 524287, 1048575, 2097151, 4194303, 2097151, 10485759, 2097151, 2097151, 69206015, 236978175, 530579455, 2097151, 1075838975, 4288675839, 8589934591, 17179869183, 34359738367, 68719476735, 137438953471, 68719476735, 343597383679, 1099511627775, 2199023255551, 4398046511103]
theorem laws_FnRates.tab8 : rtab .any (opsOf Try.f9 8) = laws_FnRates.T8 := by kernel_rfl
theorem laws_FnRates.bits8 : waitsOk laws_FnRates.T8.2 laws_FnRates.B8 = true := by kernel_rfl
set_option maxHeartbeats 8000000 in
set_option maxRecDepth 100000 in
theorem laws_FnRates.calls (k : Nat) (A0 : Option Addr) (c0 : Nat) (l0 : List Int) (r : Bool) (hrt : Aside0 (r = true)) (w : World) (hr0 : Kd.C (Kd.int .u8) w A0 l0.length l0) (hc0 : l0.length ≤ c0) (h : laws_FnRates.f k l0 = some r) :
    Calls Try.prog 9 #[.slice A0 l0.length c0] w fun e w' => e = .returned (.bool r) ∧ Below w.heap.size w w' := by
  have hu48 := Try.underlying48
  have HR0 := Aside0.mk hr0
  have HC0 := Aside0.mk hc0
  clear hr0 hc0
  have HB := Aside0.mk (Below.refl w.heap.size w)
  have H : ((laws_big.f l0).bind fun t150 => (if t150 = true then (some true) else ((spec_DrawPlaces.f k l0).bind fun t151 => (if 0 < (t151.length : Int) then (if 1 < (t151.length : Int) then (if 2 < (t151.length : Int) then (if (wrap64 (1 + (Int.tmod (rd t151 1) 60))) = 0 then (none) else (if 3 < (t151.length : Int) then ((impl_RunRate.f k (Int.tmod (rd t151 0) 90) (wrap64 (1 + (Int.tmod (rd t151 1) 60))) (Int.tmod (rd t151 2) (wrap64 (1 + (Int.tmod (rd t151 1) 60)))) (Int.tmod (rd t151 3) 300)).bind fun bt159 => ((impl_RateOk.f (Int.tmod (rd t151 0) 90) (wrap64 (1 + (Int.tmod (rd t151 1) 60))) (Int.tmod (rd t151 2) (wrap64 (1 + (Int.tmod (rd t151 1) 60))))).bind fun t164 => (if t164 = true then ((impl_RateOk.f bt159.1 bt159.2.1 bt159.2.2.1).bind fun t165 => (if t165 = true then (if bt159.2.2.2 = (wrap64 (Int.tdiv (wrap64 ((Int.tmod (rd t151 2) (wrap64 (1 + (Int.tmod (rd t151 1) 60)))) + (wrap64 ((Int.tmod (rd t151 3) 300) * (Int.tmod (rd t151 0) 90))))) (wrap64 (1 + (Int.tmod (rd t151 1) 60))))) then (if bt159.2.2.1 = (Int.tmod (wrap64 ((Int.tmod (rd t151 2) (wrap64 (1 + (Int.tmod (rd t151 1) 60)))) + (wrap64 ((Int.tmod (rd t151 3) 300) * (Int.tmod (rd t151 0) 90))))) (wrap64 (1 + (Int.tmod (rd t151 1) 60)))) then (some (bt159.1 == (Int.tmod (rd t151 0) 90))) else (some false)) else (some false)) else (some false))) else (some false)))) else (none))) else (none)) else (none)) else (none))))) = some r := h
  clear h
  replace H := Option.bind_eq_some_iff.mp H
  obtain ⟨t150, A20, H⟩ := H
  replace H : (if t150 = true then (some true) else ((spec_DrawPlaces.f k l0).bind fun t151 => (if 0 < (t151.length : Int) then (if 1 < (t151.length : Int) then (if 2 < (t151.length : Int) then (if (wrap64 (1 + (Int.tmod (rd t151 1) 60))) = 0 then (none) else (if 3 < (t151.length : Int) then ((impl_RunRate.f k (Int.tmod (rd t151 0) 90) (wrap64 (1 + (Int.tmod (rd t151 1) 60))) (Int.tmod (rd t151 2) (wrap64 (1 + (Int.tmod (rd t151 1) 60)))) (Int.tmod (rd t151 3) 300)).bind fun bt159 => ((impl_RateOk.f (Int.tmod (rd t151 0) 90) (wrap64 (1 + (Int.tmod (rd t151 1) 60))) (Int.tmod (rd t151 2) (wrap64 (1 + (Int.tmod (rd t151 1) 60))))).bind fun t164 => (if t164 = true then ((impl_RateOk.f bt159.1 bt159.2.1 bt159.2.2.1).bind fun t165 => (if t165 = true then (if bt159.2.2.2 = (wrap64 (Int.tdiv (wrap64 ((Int.tmod (rd t151 2) (wrap64 (1 + (Int.tmod (rd t151 1) 60)))) + (wrap64 ((Int.tmod (rd t151 3) 300) * (Int.tmod (rd t151 0) 90))))) (wrap64 (1 + (Int.tmod (rd t151 1) 60))))) then (if bt159.2.2.1 = (Int.tmod (wrap64 ((Int.tmod (rd t151 2) (wrap64 (1 + (Int.tmod (rd t151 1) 60)))) + (wrap64 ((Int.tmod (rd t151 3) 300) * (Int.tmod (rd t151 0) 90))))) (wrap64 (1 + (Int.tmod (rd t151 1) 60)))) then (some (bt159.1 == (Int.tmod (rd t151 0) 90))) else (some false)) else (some false)) else (some false))) else (some false)))) else (none))) else (none)) else (none)) else (none)))) = some r := H
  have A2 := Aside0.mk A20
  clear A20
  by_cases c3 : t150 = true
  · subst c3
    have H1 : (some true) = some r := by rw [if_pos rfl] at H; exact H
    clear H
    have H := H1
    clear H1
    obtain rfl := Option.some.inj H
    go_enter Try.func9, Try.ntmps9
    go_wp2_with (first | ((with_reducible refine gate_callee (f := 31) rfl ?_); refine goesL_ (some 9) rfl rfl Try.func31 (by kernel_rfl) rfl #[.slice A0 l0.length c0] rfl (by (try simp only [List.map_toArray, List.map_cons, List.map_nil]); first | done | rfl | (simp only [List.length_drop, List.length_take]; rfl)) ?_; (with_reducible refine (laws_big.calls _ _ l0 true _ ?side1 ?side2 A2.out).mono ?_); (case side1 => repeat (first | exact HR0.out | (with_reducible refine Kd.C_alloc ?_ _) | (with_reducible refine Kd.C_drewN ?_ _) | (with_reducible refine Kd.C_drew ?_))); (case side2 => exact HC0.out); rintro e w' ⟨rfl, ⟨nd, rfl⟩⟩; refine ⟨_, rfl, ?_⟩))
    go_ret
    exact ⟨by first | rfl | (simp [errW_none, errW_some] <;> rfl) | (simp [*, errW_none, errW_some] <;> rfl), by repeat (first | (with_reducible first | exact HB.out | apply below_alloc | apply pw_below_drewN | apply below_drew1) | exact HB.out)⟩
  · replace c3 := Bool.eq_false_iff.mpr c3
    subst c3
    have H1 : ((spec_DrawPlaces.f k l0).bind fun t151 => (if 0 < (t151.length : Int) then (if 1 < (t151.length : Int) then (if 2 < (t151.length : Int) then (if (wrap64 (1 + (Int.tmod (rd t151 1) 60))) = 0 then (none) else (if 3 < (t151.length : Int) then ((impl_RunRate.f k (Int.tmod (rd t151 0) 90) (wrap64 (1 + (Int.tmod (rd t151 1) 60))) (Int.tmod (rd t151 2) (wrap64 (1 + (Int.tmod (rd t151 1) 60)))) (Int.tmod (rd t151 3) 300)).bind fun bt159 => ((impl_RateOk.f (Int.tmod (rd t151 0) 90) (wrap64 (1 + (Int.tmod (rd t151 1) 60))) (Int.tmod (rd t151 2) (wrap64 (1 + (Int.tmod (rd t151 1) 60))))).bind fun t164 => (if t164 = true then ((impl_RateOk.f bt159.1 bt159.2.1 bt159.2.2.1).bind fun t165 => (if t165 = true then (if bt159.2.2.2 = (wrap64 (Int.tdiv (wrap64 ((Int.tmod (rd t151 2) (wrap64 (1 + (Int.tmod (rd t151 1) 60)))) + (wrap64 ((Int.tmod (rd t151 3) 300) * (Int.tmod (rd t151 0) 90))))) (wrap64 (1 + (Int.tmod (rd t151 1) 60))))) then (if bt159.2.2.1 = (Int.tmod (wrap64 ((Int.tmod (rd t151 2) (wrap64 (1 + (Int.tmod (rd t151 1) 60)))) + (wrap64 ((Int.tmod (rd t151 3) 300) * (Int.tmod (rd t151 0) 90))))) (wrap64 (1 + (Int.tmod (rd t151 1) 60)))) then (some (bt159.1 == (Int.tmod (rd t151 0) 90))) else (some false)) else (some false)) else (some false))) else (some false)))) else (none))) else (none)) else (none)) else (none))) = some r := by rw [if_neg (show ¬ (false = true) by decide)] at H; exact H
    clear H
    have H := H1
    clear H1
    replace H := Option.bind_eq_some_iff.mp H
    obtain ⟨t151, A40, H⟩ := H
    replace H : (if 0 < (t151.length : Int) then (if 1 < (t151.length : Int) then (if 2 < (t151.length : Int) then (if (wrap64 (1 + (Int.tmod (rd t151 1) 60))) = 0 then (none) else (if 3 < (t151.length : Int) then ((impl_RunRate.f k (Int.tmod (rd t151 0) 90) (wrap64 (1 + (Int.tmod (rd t151 1) 60))) (Int.tmod (rd t151 2) (wrap64 (1 + (Int.tmod (rd t151 1) 60)))) (Int.tmod (rd t151 3) 300)).bind fun bt159 => ((impl_RateOk.f (Int.tmod (rd t151 0) 90) (wrap64 (1 + (Int.tmod (rd t151 1) 60))) (Int.tmod (rd t151 2) (wrap64 (1 + (Int.tmod (rd t151 1) 60))))).bind fun t164 => (if t164 = true then ((impl_RateOk.f bt159.1 bt159.2.1 bt159.2.2.1).bind fun t165 => (if t165 = true then (if bt159.2.2.2 = (wrap64 (Int.tdiv (wrap64 ((Int.tmod (rd t151 2) (wrap64 (1 + (Int.tmod (rd t151 1) 60)))) + (wrap64 ((Int.tmod (rd t151 3) 300) * (Int.tmod (rd t151 0) 90))))) (wrap64 (1 + (Int.tmod (rd t151 1) 60))))) then (if bt159.2.2.1 = (Int.tmod (wrap64 ((Int.tmod (rd t151 2) (wrap64 (1 + (Int.tmod (rd t151 1) 60)))) + (wrap64 ((Int.tmod (rd t151 3) 300) * (Int.tmod (rd t151 0) 90))))) (wrap64 (1 + (Int.tmod (rd t151 1) 60)))) then (some (bt159.1 == (Int.tmod (rd t151 0) 90))) else (some false)) else (some false)) else (some false))) else (some false)))) else (none))) else (none)) else (none)) else (none)) = some r := H
    have A4 := Aside0.mk A40
    clear A40
    by_cases c5 : 0 < (t151.length : Int)
    · rw [if_pos c5] at H
      have c5b0 : decide (0 < (t151.length : Int)) = true := decide_eq_true c5
      have c5b1 : decide (0 < t151.length) = true := decide_eq_true (by omega)
      clear c5
      by_cases c6 : 1 < (t151.length : Int)
      · rw [if_pos c6] at H
        have c6b0 : decide (1 < (t151.length : Int)) = true := decide_eq_true c6
        have c6b1 : decide (1 < t151.length) = true := decide_eq_true (by omega)
        clear c6
        by_cases c7 : 2 < (t151.length : Int)
        · rw [if_pos c7] at H
          have c7b0 : decide (2 < (t151.length : Int)) = true := decide_eq_true c7
          have c7b1 : decide (2 < t151.length) = true := decide_eq_true (by omega)
          clear c7
          by_cases c8 : (wrap64 (1 + (Int.tmod (rd t151 1) 60))) = 0
          · rw [if_pos c8] at H
            exact absurd H (by simp)
          · rw [if_neg c8] at H
            have c8b0 : ((wrap64 (1 + (Int.tmod (rd t151 1) 60))) == 0) = false := beq_eq_false_iff_ne.mpr c8
            have c8b1 : ((wrap64 (1 + (Int.tmod (rd t151 1) 60))) != 0) = true := bne_iff_ne.mpr c8
            by_cases c9 : 3 < (t151.length : Int)
            · rw [if_pos c9] at H
              have c9b0 : decide (3 < (t151.length : Int)) = true := decide_eq_true c9
              have c9b1 : decide (3 < t151.length) = true := decide_eq_true (by omega)
              clear c9
              replace H := Option.bind_eq_some_iff.mp H
              obtain ⟨⟨t159, t160, t161, t162⟩, A100, H⟩ := H
              replace H : ((impl_RateOk.f (Int.tmod (rd t151 0) 90) (wrap64 (1 + (Int.tmod (rd t151 1) 60))) (Int.tmod (rd t151 2) (wrap64 (1 + (Int.tmod (rd t151 1) 60))))).bind fun t164 => (if t164 = true then ((impl_RateOk.f t159 t160 t161).bind fun t165 => (if t165 = true then (if t162 = (wrap64 (Int.tdiv (wrap64 ((Int.tmod (rd t151 2) (wrap64 (1 + (Int.tmod (rd t151 1) 60)))) + (wrap64 ((Int.tmod (rd t151 3) 300) * (Int.tmod (rd t151 0) 90))))) (wrap64 (1 + (Int.tmod (rd t151 1) 60))))) then (if t161 = (Int.tmod (wrap64 ((Int.tmod (rd t151 2) (wrap64 (1 + (Int.tmod (rd t151 1) 60)))) + (wrap64 ((Int.tmod (rd t151 3) 300) * (Int.tmod (rd t151 0) 90))))) (wrap64 (1 + (Int.tmod (rd t151 1) 60)))) then (some (t159 == (Int.tmod (rd t151 0) 90))) else (some false)) else (some false)) else (some false))) else (some false))) = some r := H
              have A10 := Aside0.mk A100
              clear A100
              replace H := Option.bind_eq_some_iff.mp H
              obtain ⟨t164, A110, H⟩ := H
              replace H : (if t164 = true then ((impl_RateOk.f t159 t160 t161).bind fun t165 => (if t165 = true then (if t162 = (wrap64 (Int.tdiv (wrap64 ((Int.tmod (rd t151 2) (wrap64 (1 + (Int.tmod (rd t151 1) 60)))) + (wrap64 ((Int.tmod (rd t151 3) 300) * (Int.tmod (rd t151 0) 90))))) (wrap64 (1 + (Int.tmod (rd t151 1) 60))))) then (if t161 = (Int.tmod (wrap64 ((Int.tmod (rd t151 2) (wrap64 (1 + (Int.tmod (rd t151 1) 60)))) + (wrap64 ((Int.tmod (rd t151 3) 300) * (Int.tmod (rd t151 0) 90))))) (wrap64 (1 + (Int.tmod (rd t151 1) 60)))) then (some (t159 == (Int.tmod (rd t151 0) 90))) else (some false)) else (some false)) else (some false))) else (some false)) = some r := H
              have A11 := Aside0.mk A110
              clear A110
              by_cases c12 : t164 = true
              · subst c12
                have H1 : ((impl_RateOk.f t159 t160 t161).bind fun t165 => (if t165 = true then (if t162 = (wrap64 (Int.tdiv (wrap64 ((Int.tmod (rd t151 2) (wrap64 (1 + (Int.tmod (rd t151 1) 60)))) + (wrap64 ((Int.tmod (rd t151 3) 300) * (Int.tmod (rd t151 0) 90))))) (wrap64 (1 + (Int.tmod (rd t151 1) 60))))) then (if t161 = (Int.tmod (wrap64 ((Int.tmod (rd t151 2) (wrap64 (1 + (Int.tmod (rd t151 1) 60)))) + (wrap64 ((Int.tmod (rd t151 3) 300) * (Int.tmod (rd t151 0) 90))))) (wrap64 (1 + (Int.tmod (rd t151 1) 60)))) then (some (t159 == (Int.tmod (rd t151 0) 90))) else (some false)) else (some false)) else (some false))) = some r := by rw [if_pos rfl] at H; exact H
                clear H
                have H := H1
                clear H1
                replace H := Option.bind_eq_some_iff.mp H
                obtain ⟨t165, A130, H⟩ := H
                replace H : (if t165 = true then (if t162 = (wrap64 (Int.tdiv (wrap64 ((Int.tmod (rd t151 2) (wrap64 (1 + (Int.tmod (rd t151 1) 60)))) + (wrap64 ((Int.tmod (rd t151 3) 300) * (Int.tmod (rd t151 0) 90))))) (wrap64 (1 + (Int.tmod (rd t151 1) 60))))) then (if t161 = (Int.tmod (wrap64 ((Int.tmod (rd t151 2) (wrap64 (1 + (Int.tmod (rd t151 1) 60)))) + (wrap64 ((Int.tmod (rd t151 3) 300) * (Int.tmod (rd t151 0) 90))))) (wrap64 (1 + (Int.tmod (rd t151 1) 60)))) then (some (t159 == (Int.tmod (rd t151 0) 90))) else (some false)) else (some false)) else (some false)) = some r := H
                have A13 := Aside0.mk A130
                clear A130
                by_cases c14 : t165 = true
                · subst c14
                  have H1 : (if t162 = (wrap64 (Int.tdiv (wrap64 ((Int.tmod (rd t151 2) (wrap64 (1 + (Int.tmod (rd t151 1) 60)))) + (wrap64 ((Int.tmod (rd t151 3) 300) * (Int.tmod (rd t151 0) 90))))) (wrap64 (1 + (Int.tmod (rd t151 1) 60))))) then (if t161 = (Int.tmod (wrap64 ((Int.tmod (rd t151 2) (wrap64 (1 + (Int.tmod (rd t151 1) 60)))) + (wrap64 ((Int.tmod (rd t151 3) 300) * (Int.tmod (rd t151 0) 90))))) (wrap64 (1 + (Int.tmod (rd t151 1) 60)))) then (some (t159 == (Int.tmod (rd t151 0) 90))) else (some false)) else (some false)) = some r := by rw [if_pos rfl] at H; exact H
                  clear H
                  have H := H1
                  clear H1
                  by_cases c15 : t162 = (wrap64 (Int.tdiv (wrap64 ((Int.tmod (rd t151 2) (wrap64 (1 + (Int.tmod (rd t151 1) 60)))) + (wrap64 ((Int.tmod (rd t151 3) 300) * (Int.tmod (rd t151 0) 90))))) (wrap64 (1 + (Int.tmod (rd t151 1) 60)))))
                  · rw [if_pos c15] at H
                    have c15b0 : (t162 == (wrap64 (Int.tdiv (wrap64 ((Int.tmod (rd t151 2) (wrap64 (1 + (Int.tmod (rd t151 1) 60)))) + (wrap64 ((Int.tmod (rd t151 3) 300) * (Int.tmod (rd t151 0) 90))))) (wrap64 (1 + (Int.tmod (rd t151 1) 60)))))) = true := beq_iff_eq.mpr c15
                    have c15b1 : (t162 != (wrap64 (Int.tdiv (wrap64 ((Int.tmod (rd t151 2) (wrap64 (1 + (Int.tmod (rd t151 1) 60)))) + (wrap64 ((Int.tmod (rd t151 3) 300) * (Int.tmod (rd t151 0) 90))))) (wrap64 (1 + (Int.tmod (rd t151 1) 60)))))) = false := bne_eq_false_iff_eq.mpr c15
                    clear c15
                    by_cases c16 : t161 = (Int.tmod (wrap64 ((Int.tmod (rd t151 2) (wrap64 (1 + (Int.tmod (rd t151 1) 60)))) + (wrap64 ((Int.tmod (rd t151 3) 300) * (Int.tmod (rd t151 0) 90))))) (wrap64 (1 + (Int.tmod (rd t151 1) 60))))
                    · rw [if_pos c16] at H
                      have c16b0 : (t161 == (Int.tmod (wrap64 ((Int.tmod (rd t151 2) (wrap64 (1 + (Int.tmod (rd t151 1) 60)))) + (wrap64 ((Int.tmod (rd t151 3) 300) * (Int.tmod (rd t151 0) 90))))) (wrap64 (1 + (Int.tmod (rd t151 1) 60))))) = true := beq_iff_eq.mpr c16
                      have c16b1 : (t161 != (Int.tmod (wrap64 ((Int.tmod (rd t151 2) (wrap64 (1 + (Int.tmod (rd t151 1) 60)))) + (wrap64 ((Int.tmod (rd t151 3) 300) * (Int.tmod (rd t151 0) 90))))) (wrap64 (1 + (Int.tmod (rd t151 1) 60))))) = false := bne_eq_false_iff_eq.mpr c16
                      clear c16
                      obtain rfl := Option.some.inj H
                      go_enter Try.func9, Try.ntmps9
                      try go_wp2_with (first | ((with_reducible refine gate_callee (f := 31) rfl ?_); refine goesL_ (some 9) rfl rfl Try.func31 (by kernel_rfl) rfl #[.slice A0 l0.length c0] rfl (by (try simp only [List.map_toArray, List.map_cons, List.map_nil]); first | done | rfl | (simp only [List.length_drop, List.length_take]; rfl)) ?_; (with_reducible refine (laws_big.calls _ _ l0 false _ ?side1 ?side2 A2.out).mono ?_); (case side1 => repeat (first | exact HR0.out | (with_reducible refine Kd.C_alloc ?_ _) | (with_reducible refine Kd.C_drewN ?_ _) | (with_reducible refine Kd.C_drew ?_))); (case side2 => exact HC0.out); rintro e w' ⟨rfl, ⟨nd, rfl⟩⟩; refine ⟨_, rfl, ?_⟩) | ((with_reducible refine gate_callee (f := 32) rfl ?_); refine goesL_ (some 11) rfl rfl Try.func32 (by kernel_rfl) rfl #[.slice A0 l0.length c0] rfl (by (try simp only [List.map_toArray, List.map_cons, List.map_nil]); first | done | rfl | (simp only [List.length_drop, List.length_take]; rfl)) ?_; (with_reducible refine (spec_DrawPlaces.calls k _ _ l0 t151 _ ?side1 ?side2 A4.out).mono ?_); (case side1 => repeat (first | exact HR0.out | (with_reducible refine Kd.C_alloc ?_ _) | (with_reducible refine Kd.C_drewN ?_ _) | (with_reducible refine Kd.C_drew ?_))); (case side2 => exact HC0.out); rintro e w17 ⟨v152, rfl, ho0, hb⟩; refine ⟨_, rfl, ?_⟩; have n0_ := Aside0.mk (Kd.R_lower ho0 (below_size (by repeat (first | (with_reducible first | exact HB.out | apply below_alloc | apply pw_below_drewN | apply below_drew1) | exact HB.out)))); have n1_ := Aside0.mk (below_step (by repeat (first | (with_reducible first | exact HB.out | apply below_alloc | apply pw_below_drewN | apply below_drew1) | exact HB.out)) hb); clear HB; have HO153 := n0_; have HB := n1_; clear n0_ n1_; (try clear hb); (try clear hb2); (try clear hk); (try clear hi); (try clear ho0)))
                      have n0_ := Aside0.mk (Kd.R_drew HO153.out)
                      have n1_ := Aside0.mk (below_drew1 HB.out)
                      clear HO153
                      clear HB
                      have HO153 := n0_
                      have HB := n1_
                      clear n0_ n1_
                      obtain ⟨Ao19, co19, eo19⟩ := Kd.R_slice HO153.out
                      (first | subst eo19 | (injection eo19 with f1_ f2_ f3_; have f4_ := f1_.symm; have f5_ := f3_.symm; clear f1_ f2_ f3_; subst f4_; subst f5_))
                      have p154 : 0 ≤ (0 : Int) := (by omega)
                      have q154 : 0 < (t151.length : Int) := of_decide_eq_true (by first | (with_reducible assumption) | assumption)
                      obtain ⟨ad154, e154, hx154_0⟩ := Kd.at_int (Kd.R_reads' HO153.out).2.2 0 p154 q154
                      cases e154
                      have qi154 : (0 < t151.length) = True := eq_true (by omega)
                      (try rw [show ((0 : Int)).toNat = 0 from rfl] at hx154_0)
                      (try rw [Addr.add_zero'] at hx154_0)
                      replace p154 := eq_true p154
                      replace q154 := eq_true q154
                      have p155 : 0 ≤ (1 : Int) := (by omega)
                      have q155 : 1 < (t151.length : Int) := of_decide_eq_true (by first | (with_reducible assumption) | assumption)
                      obtain ⟨ad155, e155, hx155_0⟩ := Kd.at_int (Kd.R_reads' HO153.out).2.2 1 p155 q155
                      obtain rfl : ad154 = ad155 := (by injection e155)
                      (try simp only [show (1 : Int).toNat = 1 from rfl, Nat.reduceMul, Nat.reduceEqDiff, Go.Addr.add, ↓reduceIte] at hx155_0)
                      have qi155 : (1 < t151.length) = True := eq_true (by omega)
                      (try rw [show ((1 : Int)).toNat = 1 from rfl] at hx155_0)
                      replace p155 := eq_true p155
                      replace q155 := eq_true q155
                      refine start_ (n := 12) (S := fun w' => w'.cell? ad154 = some (.int .i64 (rd t151 0)) ∧ w'.cell? ⟨ad154.block, ad154.off + 1, none⟩ = some (.int .i64 (rd t151 1))) (ds := []) #[false, false, false, false, false, false, false, false, false, false, false, false] (by kernel_rfl) rfl rfl ⟨hx154_0, hx155_0⟩ (fun hHeld => ?_); refine with_tabW laws_FnRates.tab4 laws_FnRates.bits4 (fun HT_ HW_ => ?_)
                      generalize w17.drew = w18 at HO153 HB hx154_0 hx155_0 hHeld ⊢
                      refine pure_ (i := 0) (N := some 12) (v := ?_) (a' := ?_) #[true, false, false, false, false, false, false, false, false, false, false, false] rfl rfl (any_of HT_.out (by kernel_rfl)) (fun _ _ _ h => h) (Or.inl ⟨by rfl, ?_⟩) ?_ ?_
                      rotate_left
                      · intro w'
                        go_simp
                        with_reducible rfl
                      rotate_left
                      · simp only [Act.put, List.setIfInBounds_toArray, List.set_cons_zero, List.set_cons_succ, i64_w, i32_w]
                        rfl
                      refine pure_ (i := 1) (N := some 13) (v := ?_) (a' := ?_) #[true, true, false, false, false, false, false, false, false, false, false, false] rfl rfl (any_of HT_.out (by kernel_rfl)) (fun _ _ _ h => h) (Or.inl ⟨by rfl, ?_⟩) ?_ ?_
                      rotate_left
                      · intro w'
                        go_simp
                        with_reducible rfl
                      rotate_left
                      · simp only [Act.put, List.setIfInBounds_toArray, List.set_cons_zero, List.set_cons_succ, i64_w, i32_w]
                        rfl
                      refine pure_ (i := 4) (N := some 16) (v := ?_) (a' := ?_) #[true, true, false, false, true, false, false, false, false, false, false, false] rfl rfl (any_of HT_.out (by kernel_rfl)) (fun _ _ _ h => h) (Or.inl ⟨by rfl, ?_⟩) ?_ ?_
                      rotate_left
                      · intro w'
                        go_simp
                        with_reducible rfl
                      rotate_left
                      · simp only [Act.put, List.setIfInBounds_toArray, List.set_cons_zero, List.set_cons_succ, i64_w, i32_w]
                        rfl
                      refine pure_ (i := 5) (N := some 17) (v := ?_) (a' := ?_) #[true, true, false, false, true, true, false, false, false, false, false, false] rfl rfl (any_of HT_.out (by kernel_rfl)) (fun _ _ _ h => h) (Or.inl ⟨by rfl, ?_⟩) ?_ ?_
                      rotate_left
                      · intro w'
                        go_simp
                        with_reducible rfl
                      rotate_left
                      · simp only [Act.put, List.setIfInBounds_toArray, List.set_cons_zero, List.set_cons_succ, i64_w, i32_w]
                        rfl
                      refine take_ (i := 2) (N := some 14) (v := ?_) (a' := ?_) #[true, true, true, false, true, true, false, false, false, false, false, false] rfl rfl (take_ofW HT_.out HW_.out (by kernel_rfl)) (fun _ _ _ h => h) (Or.inl ⟨by rfl, ?_⟩) hHeld ?_ ?_
                      rotate_left
                      · rintro w' ⟨s0, s1⟩
                        go_simp
                        with_reducible rfl
                      rotate_left
                      · simp only [Act.put, List.setIfInBounds_toArray, List.set_cons_zero, List.set_cons_succ, i64_w, i32_w]
                        rfl
                      refine pure_ (i := 3) (N := some 15) (v := ?_) (a' := ?_) #[true, true, true, true, true, true, false, false, false, false, false, false] rfl rfl (any_of HT_.out (by kernel_rfl)) (fun _ _ _ h => h) (Or.inl ⟨by rfl, ?_⟩) ?_ ?_
                      rotate_left
                      · intro w'
                        go_simp
                        with_reducible rfl
                      rotate_left
                      · simp only [Act.put, List.setIfInBounds_toArray, List.set_cons_zero, List.set_cons_succ, i64_w, i32_w]
                        rfl
                      refine take_ (i := 6) (N := some 18) (v := ?_) (a' := ?_) #[true, true, true, true, true, true, true, false, false, false, false, false] rfl rfl (take_ofW HT_.out HW_.out (by kernel_rfl)) (fun _ _ _ h => h) (Or.inl ⟨by rfl, ?_⟩) hHeld ?_ ?_
                      rotate_left
                      · rintro w' ⟨s0, s1⟩
                        go_simp
                        with_reducible rfl
                      rotate_left
                      · simp only [Act.put, List.setIfInBounds_toArray, List.set_cons_zero, List.set_cons_succ, i64_w, i32_w]
                        rfl
                      refine pure_ (i := 7) (N := some 19) (v := ?_) (a' := ?_) #[true, true, true, true, true, true, true, true, false, false, false, false] rfl rfl (any_of HT_.out (by kernel_rfl)) (fun _ _ _ h => h) (Or.inl ⟨by rfl, ?_⟩) ?_ ?_
                      rotate_left
                      · intro w'
                        go_simp
                        with_reducible rfl
                      rotate_left
                      · simp only [Act.put, List.setIfInBounds_toArray, List.set_cons_zero, List.set_cons_succ, i64_w, i32_w]
                        rfl
                      refine pure_ (i := 8) (N := some 20) (v := ?_) (a' := ?_) #[true, true, true, true, true, true, true, true, true, false, false, false] rfl rfl (any_of HT_.out (by kernel_rfl)) (fun _ _ _ h => h) (Or.inl ⟨by rfl, ?_⟩) ?_ ?_
                      rotate_left
                      · intro w'
                        go_simp
                        with_reducible rfl
                      rotate_left
                      · simp only [Act.put, List.setIfInBounds_toArray, List.set_cons_zero, List.set_cons_succ, i64_w, i32_w]
                        rfl
                      refine pure_ (i := 9) (N := some 21) (v := ?_) (a' := ?_) #[true, true, true, true, true, true, true, true, true, true, false, false] rfl rfl (any_of HT_.out (by kernel_rfl)) (fun _ _ _ h => h) (Or.inl ⟨by rfl, ?_⟩) ?_ ?_
                      rotate_left
                      · intro w'
                        go_simp
                        with_reducible rfl
                      rotate_left
                      · simp only [Act.put, List.setIfInBounds_toArray, List.set_cons_zero, List.set_cons_succ, i64_w, i32_w]
                        rfl
                      refine one_ (i := 10) (N := some 4) #[true, true, true, true, true, true, true, true, true, true, true, false] rfl rfl (one_of HT_.out (by kernel_rfl)) (by decide) (fun K hK => ?_)
                      refine box_step ?hg (N := 4) ?hd (cs := #[.int .i64 0, .int .i64 0, .int .i64 0]) (t := 48) ?hr ?_; (case hd => rfl); (case hg => rfl); (case hr => first | (go_simp; done) | (go_simp; rfl))
                      intro gb156 hg w20 hbox hb
                      have HS0_ := (hb.cell (World.block_lt_of_cell? _ _ (hHeld.1))).trans (hHeld.1)
                      have HS1_ := (hb.cell (World.block_lt_of_cell? _ _ (hHeld.2))).trans (hHeld.2)
                      have n0_ := Aside0.mk (Kd.R_below (by (with_reducible repeat (first | apply Kd.R_alloc | apply Kd.R_drewN | apply Kd.R_drew)); exact HO153.out) hb)
                      have n1_ := Aside0.mk (below_step (by repeat (first | (with_reducible first | exact HB.out | apply below_alloc | apply pw_below_drewN | apply below_drew1) | exact HB.out)) hb)
                      have n2_ := Aside0.mk (hbox)
                      have n3_ := Aside0.mk ((by rw [hg]; exact (below_size (by repeat (first | (with_reducible first | exact HB.out | apply below_alloc | apply pw_below_drewN | apply below_drew1) | exact HB.out))) : w.heap.size ≤ gb156))
                      have n4_ := Aside0.mk ((by rw [hg]; exact (below_size (by repeat (first | (with_reducible first | exact HB.out | apply below_alloc | apply pw_below_drewN | apply below_drew1) | exact HB.out))) : w.heap.size ≤ gb156))
                      clear HO153
                      clear HB
                      have HO153 := n0_
                      have HB := n1_
                      have BK156 := n2_
                      have GW156 := n3_
                      have GE156 := n4_
                      clear n0_ n1_ n2_ n3_ n4_
                      clear hb hbox hg
                      refine hK.out _ _ ⟨HS0_, HS1_⟩ (fun hHeld => ?_)
                      clear hK K
                      refine norm_ (a' := ?_) ?_ ?_
                      rotate_left
                      · show Act.put _ (some 4) _ = _
                        simp only [Act.put, List.setIfInBounds_toArray, List.set_cons_zero, List.set_cons_succ, i64_w, i32_w]
                        rfl
                      refine one_ (i := 11) (N := none) #[true, true, true, true, true, true, true, true, true, true, true, true] rfl rfl (one_of HT_.out (by kernel_rfl)) (by decide) (fun K hK => ?_)
                      have hs21 : w20.cell? ⟨gb156, 0, none⟩ = some (.int .i64 0) := (blk_cell BK156.out 0).trans rfl
                      have hfs21 := blk_frozen BK156.out 0
                      have hs22 : w20.cell? ⟨gb156, 1, none⟩ = some (.int .i64 0) := (blk_cell BK156.out 1).trans rfl
                      have hfs22 := blk_frozen BK156.out 1
                      have hs23 : w20.cell? ⟨gb156, 2, none⟩ = some (.int .i64 0) := (blk_cell BK156.out 2).trans rfl
                      have hfs23 := blk_frozen BK156.out 2
                      refine skip_ (w1 := ?_) (by rfl) rfl ?_ ?_
                      rotate_left
                      · go_simp
                        rfl
                      refine hK.out _ _ ⟨((cell_far (p := ⟨gb156, _, none⟩) (by first | exact Kd.own_blk (Kd.R_ne HO153.out BK156.out (by decide)) | (rw [add_block]; exact Kd.own_blk (Kd.R_ne HO153.out BK156.out (by decide))) | (show (Addr.add _ _).block ≠ _; rw [add_block]; exact Kd.own_blk (Kd.R_ne HO153.out BK156.out (by decide))) | (dsimp only; exact Kd.own_blk (Kd.R_ne HO153.out BK156.out (by decide)))) _).trans (((cell_far (p := ⟨gb156, _, none⟩) (by first | exact Kd.own_blk (Kd.R_ne HO153.out BK156.out (by decide)) | (rw [add_block]; exact Kd.own_blk (Kd.R_ne HO153.out BK156.out (by decide))) | (show (Addr.add _ _).block ≠ _; rw [add_block]; exact Kd.own_blk (Kd.R_ne HO153.out BK156.out (by decide))) | (dsimp only; exact Kd.own_blk (Kd.R_ne HO153.out BK156.out (by decide)))) _).trans (((cell_far (p := ⟨gb156, _, none⟩) (by first | exact Kd.own_blk (Kd.R_ne HO153.out BK156.out (by decide)) | (rw [add_block]; exact Kd.own_blk (Kd.R_ne HO153.out BK156.out (by decide))) | (show (Addr.add _ _).block ≠ _; rw [add_block]; exact Kd.own_blk (Kd.R_ne HO153.out BK156.out (by decide))) | (dsimp only; exact Kd.own_blk (Kd.R_ne HO153.out BK156.out (by decide)))) _).trans (hHeld.1)))))), ((cell_far (p := ⟨gb156, _, none⟩) (by first | exact Kd.own_blk (Kd.R_ne HO153.out BK156.out (by decide)) | (rw [add_block]; exact Kd.own_blk (Kd.R_ne HO153.out BK156.out (by decide))) | (show (Addr.add _ _).block ≠ _; rw [add_block]; exact Kd.own_blk (Kd.R_ne HO153.out BK156.out (by decide))) | (dsimp only; exact Kd.own_blk (Kd.R_ne HO153.out BK156.out (by decide)))) _).trans (((cell_far (p := ⟨gb156, _, none⟩) (by first | exact Kd.own_blk (Kd.R_ne HO153.out BK156.out (by decide)) | (rw [add_block]; exact Kd.own_blk (Kd.R_ne HO153.out BK156.out (by decide))) | (show (Addr.add _ _).block ≠ _; rw [add_block]; exact Kd.own_blk (Kd.R_ne HO153.out BK156.out (by decide))) | (dsimp only; exact Kd.own_blk (Kd.R_ne HO153.out BK156.out (by decide)))) _).trans (((cell_far (p := ⟨gb156, _, none⟩) (by first | exact Kd.own_blk (Kd.R_ne HO153.out BK156.out (by decide)) | (rw [add_block]; exact Kd.own_blk (Kd.R_ne HO153.out BK156.out (by decide))) | (show (Addr.add _ _).block ≠ _; rw [add_block]; exact Kd.own_blk (Kd.R_ne HO153.out BK156.out (by decide))) | (dsimp only; exact Kd.own_blk (Kd.R_ne HO153.out BK156.out (by decide)))) _).trans (hHeld.2))))))⟩ (fun hHeld => ?_)
                      clear hK K
                      refine done_ (done_of HT_.out (by kernel_rfl)) ?_
                      try go_wp2
                      have n0_ : Aside0 (Kd.R (Kd.int .i64) 3 (((w20.setCell ⟨gb156, 0, none⟩ (.int .i64 (Int.tmod (rd t151 0) 90))).setCell ⟨gb156, 1, none⟩ (.int .i64 (wrap64 (1 + (Int.tmod (rd t151 1) 60))))).setCell ⟨gb156, 2, none⟩ (.int .i64 0)) w.heap.size (fun _ => True) (.slice (some ad154) t151.length co19) t151) := ⟨by (with_reducible repeat (first | apply Kd.R_alloc | apply Kd.R_drewN | apply Kd.R_drew)); exact Kd.R_mono (Kd.R_far (p := ⟨gb156, 2, none⟩) (Kd.R_far (p := ⟨gb156, 1, none⟩) (Kd.R_far (p := ⟨gb156, 0, none⟩) (Kd.R_types HO153.out BK156.out (by decide)) (fun _ hk => hk.2) (.int .i64 (Int.tmod (rd t151 0) 90))) (fun _ hk => hk.2) (.int .i64 (wrap64 (1 + (Int.tmod (rd t151 1) 60))))) (fun _ hk => hk.2) (.int .i64 0)) (fun _ hk => trivial)⟩
                      have n1_ : Aside0 ((((w20.setCell ⟨gb156, 0, none⟩ (.int .i64 (Int.tmod (rd t151 0) 90))).setCell ⟨gb156, 1, none⟩ (.int .i64 (wrap64 (1 + (Int.tmod (rd t151 1) 60))))).setCell ⟨gb156, 2, none⟩ (.int .i64 0)).heap[gb156]? = some (.cells #[.int .i64 (Int.tmod (rd t151 0) 90), .int .i64 (wrap64 (1 + (Int.tmod (rd t151 1) 60))), .int .i64 0] 48 (0, 0))) := ⟨by (with_reducible repeat (first | refine blk_drewN ?_ _ | refine blk_drew ?_ | refine blk_alloc ?_ _)); refine blk_put (cs := #[.int .i64 (Int.tmod (rd t151 0) 90), .int .i64 (wrap64 (1 + (Int.tmod (rd t151 1) 60))), .int .i64 0]) ?_ 2 _ rfl; (with_reducible repeat (first | refine blk_drewN ?_ _ | refine blk_drew ?_ | refine blk_alloc ?_ _)); refine blk_put (cs := #[.int .i64 (Int.tmod (rd t151 0) 90), .int .i64 0, .int .i64 0]) ?_ 1 _ rfl; (with_reducible repeat (first | refine blk_drewN ?_ _ | refine blk_drew ?_ | refine blk_alloc ?_ _)); refine blk_put (cs := #[.int .i64 0, .int .i64 0, .int .i64 0]) ?_ 0 _ rfl; (with_reducible repeat (first | refine blk_drewN ?_ _ | refine blk_drew ?_ | refine blk_alloc ?_ _)); exact BK156.out⟩
                      have n2_ : Aside0 (Below w.heap.size w (((w20.setCell ⟨gb156, 0, none⟩ (.int .i64 (Int.tmod (rd t151 0) 90))).setCell ⟨gb156, 1, none⟩ (.int .i64 (wrap64 (1 + (Int.tmod (rd t151 1) 60))))).setCell ⟨gb156, 2, none⟩ (.int .i64 0))) := ⟨by repeat (first | (with_reducible first | exact HB.out | apply below_alloc | apply pw_below_drewN | apply below_drew1 | refine below_set ?_ GE156.out) | exact HB.out)⟩
                      (try clear HO153)
                      (try clear BK156)
                      (try clear HB)
                      generalize (((w20.setCell ⟨gb156, 0, none⟩ (.int .i64 (Int.tmod (rd t151 0) 90))).setCell ⟨gb156, 1, none⟩ (.int .i64 (wrap64 (1 + (Int.tmod (rd t151 1) 60))))).setCell ⟨gb156, 2, none⟩ (.int .i64 0)) = w24 at n0_ n1_ n2_ ⊢
                      have HO153 := n0_
                      have BK156 := n1_
                      have HB := n2_
                      clear n0_ n1_ n2_
                      have n0_ := Aside0.mk (Kd.R_drew HO153.out)
                      have n1_ := Aside0.mk (blk_drew BK156.out)
                      have n2_ := Aside0.mk (below_drew1 HB.out)
                      clear HO153
                      clear BK156
                      clear HB
                      have HO153 := n0_
                      have BK156 := n1_
                      have HB := n2_
                      clear n0_ n1_ n2_
                      have p157 : 0 ≤ (2 : Int) := (by omega)
                      have q157 : 2 < (t151.length : Int) := of_decide_eq_true (by first | (with_reducible assumption) | assumption)
                      obtain ⟨ad157, e157, hx157_0⟩ := Kd.at_int (Kd.R_reads' HO153.out).2.2 2 p157 q157
                      obtain rfl : ad154 = ad157 := (by injection e157)
                      (try simp only [show (2 : Int).toNat = 2 from rfl, Nat.reduceMul, Nat.reduceEqDiff, Go.Addr.add, ↓reduceIte] at hx157_0)
                      have qi157 : (2 < t151.length) = True := eq_true (by omega)
                      (try rw [show ((2 : Int)).toNat = 2 from rfl] at hx157_0)
                      replace p157 := eq_true p157
                      replace q157 := eq_true q157
                      refine start_ (n := 8) (S := fun w' => w'.cell? ⟨gb156, 0, none⟩ = some (.int .i64 (Int.tmod (rd t151 0) 90)) ∧ w'.cell? ⟨gb156, 1, none⟩ = some (.int .i64 (wrap64 (1 + (Int.tmod (rd t151 1) 60)))) ∧ w'.cell? ⟨gb156, 2, none⟩ = some (.int .i64 0) ∧ w'.cell? ⟨ad154.block, ad154.off + 2, none⟩ = some (.int .i64 (rd t151 2))) (ds := [7]) #[false, false, false, false, false, false, false, false] (by kernel_rfl) rfl rfl ⟨(blk_cell BK156.out 0).trans rfl, (blk_cell BK156.out 1).trans rfl, (blk_cell BK156.out 2).trans rfl, hx157_0⟩ (fun hHeld => ?_); refine with_tabW laws_FnRates.tab5 laws_FnRates.bits5 (fun HT_ HW_ => ?_)
                      generalize w24.drew = w25 at HO153 BK156 HB hx157_0 hHeld ⊢
                      refine pure_ (i := 0) (N := some 22) (v := ?_) (a' := ?_) #[true, false, false, false, false, false, false, false] rfl rfl (any_of HT_.out (by kernel_rfl)) (fun _ _ _ h => h) (Or.inl ⟨by rfl, ?_⟩) ?_ ?_
                      rotate_left
                      · intro w'
                        go_simp
                        with_reducible rfl
                      rotate_left
                      · simp only [Act.put, List.setIfInBounds_toArray, List.set_cons_zero, List.set_cons_succ, i64_w, i32_w]
                        rfl
                      refine pure_ (i := 1) (N := some 23) (v := ?_) (a' := ?_) #[true, true, false, false, false, false, false, false] rfl rfl (any_of HT_.out (by kernel_rfl)) (fun _ _ _ h => h) (Or.inl ⟨by rfl, ?_⟩) ?_ ?_
                      rotate_left
                      · intro w'
                        go_simp
                        with_reducible rfl
                      rotate_left
                      · simp only [Act.put, List.setIfInBounds_toArray, List.set_cons_zero, List.set_cons_succ, i64_w, i32_w]
                        rfl
                      refine pure_ (i := 3) (N := some 25) (v := ?_) (a' := ?_) #[true, true, false, true, false, false, false, false] rfl rfl (any_of HT_.out (by kernel_rfl)) (fun _ _ _ h => h) (Or.inl ⟨by rfl, ?_⟩) ?_ ?_
                      rotate_left
                      · intro w'
                        go_simp
                        with_reducible rfl
                      rotate_left
                      · simp only [Act.put, List.setIfInBounds_toArray, List.set_cons_zero, List.set_cons_succ, i64_w, i32_w]
                        rfl
                      refine take_ (i := 2) (N := some 24) (v := ?_) (a' := ?_) #[true, true, true, true, false, false, false, false] rfl rfl (take_ofW HT_.out HW_.out (by kernel_rfl)) (fun _ _ _ h => h) (Or.inl ⟨by rfl, ?_⟩) hHeld ?_ ?_
                      rotate_left
                      · rintro w' ⟨s0, s1, s2, s3⟩
                        go_simp
                        with_reducible rfl
                      rotate_left
                      · simp only [Act.put, List.setIfInBounds_toArray, List.set_cons_zero, List.set_cons_succ, i64_w, i32_w]
                        rfl
                      refine take_ (i := 4) (N := some 26) (v := ?_) (a' := ?_) #[true, true, true, true, true, false, false, false] rfl rfl (take_ofW HT_.out HW_.out (by kernel_rfl)) (fun _ _ _ h => h) (Or.inl ⟨by rfl, ?_⟩) hHeld ?_ ?_
                      rotate_left
                      · rintro w' ⟨s0, s1, s2, s3⟩
                        go_simp
                        with_reducible rfl
                      rotate_left
                      · simp only [Act.put, List.setIfInBounds_toArray, List.set_cons_zero, List.set_cons_succ, i64_w, i32_w]
                        rfl
                      refine pure_ (i := 5) (N := some 27) (v := ?_) (a' := ?_) #[true, true, true, true, true, true, false, false] rfl rfl (any_of HT_.out (by kernel_rfl)) (fun _ _ _ h => h) (Or.inl ⟨by rfl, ?_⟩) ?_ ?_
                      rotate_left
                      · intro w'
                        go_simp
                        with_reducible rfl
                      rotate_left
                      · simp only [Act.put, List.setIfInBounds_toArray, List.set_cons_zero, List.set_cons_succ, i64_w, i32_w]
                        rfl
                      refine pure_ (i := 6) (N := some 28) (v := ?_) (a' := ?_) #[true, true, true, true, true, true, true, false] rfl rfl (any_of HT_.out (by kernel_rfl)) (fun _ _ _ h => h) (Or.inl ⟨by rfl, ?_⟩) ?_ ?_
                      rotate_left
                      · intro w'
                        go_simp
                        with_reducible rfl
                      rotate_left
                      · simp only [Act.put, List.setIfInBounds_toArray, List.set_cons_zero, List.set_cons_succ, i64_w, i32_w]
                        rfl
                      refine last_ (i := 7) (N := none) #[true, true, true, true, true, true, true, true] rfl rfl (one_of HT_.out (by kernel_rfl)) (by decide) (fun K hK => ?_)
                      have hs26 : w25.cell? ⟨gb156, 2, none⟩ = some (.int .i64 0) := (blk_cell BK156.out 2).trans rfl
                      have hfs26 := blk_frozen BK156.out 2
                      refine skip_ (w1 := ?_) (by rfl) rfl ?_ ?_
                      rotate_left
                      · go_simp
                        rfl
                      refine hK.out _ _ ?_
                      clear hK K
                      refine done_ (done_of HT_.out (by kernel_rfl)) ?_
                      have p158 : 0 ≤ (3 : Int) := (by omega)
                      have q158 : 3 < (t151.length : Int) := of_decide_eq_true (by first | (with_reducible assumption) | assumption)
                      obtain ⟨ad158, e158, hx158_0⟩ := Kd.at_int (Kd.R_reads' HO153.out).2.2 3 p158 q158
                      obtain rfl : ad154 = ad158 := (by injection e158)
                      (try simp only [show (3 : Int).toNat = 3 from rfl, Nat.reduceMul, Nat.reduceEqDiff, Go.Addr.add, ↓reduceIte] at hx158_0)
                      have qi158 : (3 < t151.length) = True := eq_true (by omega)
                      (try rw [show ((3 : Int)).toNat = 3 from rfl] at hx158_0)
                      have hn158_0 : ad154.block ≠ gb156 := Kd.own_blk (Kd.R_ne HO153.out BK156.out (by decide))
                      replace hx158_0 := (cell_far (p := ⟨gb156, 2, none⟩) (by first | (rw [add_block]; exact hn158_0) | (show (Addr.add _ _).block ≠ _; rw [add_block]; exact hn158_0) | exact hn158_0) (.int .i64 (Int.tmod (rd t151 2) (wrap64 (1 + (Int.tmod (rd t151 1) 60)))))).trans hx158_0
                      clear hn158_0
                      replace p158 := eq_true p158
                      replace q158 := eq_true q158
                      have hcz27_0 : w25.cell? ⟨gb156, 0, none⟩ = some (.int .i64 (Int.tmod (rd t151 0) 90)) := (blk_cell BK156.out 0).trans rfl
                      have hcz27_1 : w25.cell? ⟨gb156, 1, none⟩ = some (.int .i64 (wrap64 (1 + (Int.tmod (rd t151 1) 60)))) := (blk_cell BK156.out 1).trans rfl
                      have hcz27_2 : w25.cell? ⟨gb156, 2, none⟩ = some (.int .i64 0) := (blk_cell BK156.out 2).trans rfl
                      have hfz27_0 := blk_frozen BK156.out 0
                      have hfz27_1 := blk_frozen BK156.out 1
                      have hfz27_2 := blk_frozen BK156.out 2
                      try go_wp2_with (first | ((with_reducible refine gate_callee (f := 33) rfl ?_); refine goesL_ (some 36) rfl rfl Try.func33 (by kernel_rfl) rfl #[.agg #[.int .i64 (Int.tmod (rd t151 0) 90), .int .i64 (wrap64 (1 + (Int.tmod (rd t151 1) 60))), .int .i64 (Int.tmod (rd t151 2) (wrap64 (1 + (Int.tmod (rd t151 1) 60))))], .int .i64 (Int.tmod (rd t151 3) 300)] rfl (by (try simp only [List.map_toArray, List.map_cons, List.map_nil]); first | done | rfl | (simp only [List.length_drop, List.length_take]; rfl)) ?_; (with_reducible refine (impl_RunRate.calls k (Int.tmod (rd t151 0) 90) (wrap64 (1 + (Int.tmod (rd t151 1) 60))) (Int.tmod (rd t151 2) (wrap64 (1 + (Int.tmod (rd t151 1) 60)))) (Int.tmod (rd t151 3) 300) t159 t160 t161 t162 _ A10.out).mono ?_); rintro e w28 ⟨rfl, hb⟩; refine ⟨_, rfl, ?_⟩; have n0_ := Aside0.mk (Kd.R_below (by (with_reducible repeat (first | apply Kd.R_alloc | apply Kd.R_drewN | apply Kd.R_drew)); exact (Kd.R_mono (Kd.R_far (p := ⟨gb156, 2, none⟩) (Kd.R_types HO153.out BK156.out (by decide)) (fun _ hk => hk.2) (.int .i64 (Int.tmod (rd t151 2) (wrap64 (1 + (Int.tmod (rd t151 1) 60)))))) (fun _ h_ => h_.1))) hb); have n1_ := Aside0.mk (blk_below (g := gb156) (o := .cells #[.int .i64 (Int.tmod (rd t151 0) 90), .int .i64 (wrap64 (1 + (Int.tmod (rd t151 1) 60))), .int .i64 (Int.tmod (rd t151 2) (wrap64 (1 + (Int.tmod (rd t151 1) 60))))] 48 (0, 0)) (by (with_reducible repeat (first | refine blk_drewN ?_ _ | refine blk_drew ?_ | refine blk_alloc ?_ _)); refine blk_put (cs := #[.int .i64 (Int.tmod (rd t151 0) 90), .int .i64 (wrap64 (1 + (Int.tmod (rd t151 1) 60))), .int .i64 0]) ?_ 2 _ rfl; (with_reducible repeat (first | refine blk_drewN ?_ _ | refine blk_drew ?_ | refine blk_alloc ?_ _)); exact BK156.out) hb); have n2_ := Aside0.mk (below_step (by repeat (first | (with_reducible first | exact HB.out | apply below_alloc | apply pw_below_drewN | apply below_drew1 | refine below_set ?_ GE156.out) | exact HB.out)) hb); clear HO153; clear BK156; clear HB; have HO153 := n0_; have BK156 := n1_; have HB := n2_; clear n0_ n1_ n2_; (try clear hb); (try clear hb2); (try clear hk); (try clear hi)) | ((with_reducible refine gate_dst (N := 6) rfl ?_); refine box_event ?hg (N := 6) ?hd (cs := #[.int .i64 0, .int .i64 0, .int .i64 0]) (t := 48) ?hr ?_; (case hd => rfl); (case hg => rfl); (case hr => first | (go_simp; done) | (go_simp; rfl)); intro gb163 hg w29 hbox hb; have n0_ := Aside0.mk (Kd.R_below (by (with_reducible repeat (first | apply Kd.R_alloc | apply Kd.R_drewN | apply Kd.R_drew)); exact HO153.out) hb); have n1_ := Aside0.mk (blk_below (g := gb156) (o := .cells #[.int .i64 (Int.tmod (rd t151 0) 90), .int .i64 (wrap64 (1 + (Int.tmod (rd t151 1) 60))), .int .i64 (Int.tmod (rd t151 2) (wrap64 (1 + (Int.tmod (rd t151 1) 60))))] 48 (0, 0)) (by (with_reducible repeat (first | refine blk_drewN ?_ _ | refine blk_drew ?_ | refine blk_alloc ?_ _)); exact BK156.out) hb); have n2_ := Aside0.mk (below_step (by repeat (first | (with_reducible first | exact HB.out | apply below_alloc | apply pw_below_drewN | apply below_drew1 | refine below_set ?_ GE156.out) | exact HB.out)) hb); have n3_ := Aside0.mk (hbox); have n4_ := Aside0.mk ((by rw [hg]; exact (below_size (by repeat (first | (with_reducible first | exact HB.out | apply below_alloc | apply pw_below_drewN | apply below_drew1 | refine below_set ?_ GE156.out) | exact HB.out))) : w.heap.size ≤ gb163)); have n5_ := Aside0.mk ((by rw [hg]; exact (below_size (by repeat (first | (with_reducible first | exact HB.out | apply below_alloc | apply pw_below_drewN | apply below_drew1 | refine below_set ?_ GE156.out) | exact HB.out))) : w.heap.size ≤ gb163)); have n6_ := Aside0.mk ((by rw [hg]; exact Nat.ne_of_lt (blk_lt (g := gb156) (o := .cells #[.int .i64 (Int.tmod (rd t151 0) 90), .int .i64 (wrap64 (1 + (Int.tmod (rd t151 1) 60))), .int .i64 (Int.tmod (rd t151 2) (wrap64 (1 + (Int.tmod (rd t151 1) 60))))] 48 (0, 0)) (by (with_reducible repeat (first | refine blk_drewN ?_ _ | refine blk_drew ?_ | refine blk_alloc ?_ _)); exact BK156.out)) : gb156 ≠ gb163)); have n7_ := Aside0.mk ((by rw [hg]; exact Nat.ne_of_gt (blk_lt (g := gb156) (o := .cells #[.int .i64 (Int.tmod (rd t151 0) 90), .int .i64 (wrap64 (1 + (Int.tmod (rd t151 1) 60))), .int .i64 (Int.tmod (rd t151 2) (wrap64 (1 + (Int.tmod (rd t151 1) 60))))] 48 (0, 0)) (by (with_reducible repeat (first | refine blk_drewN ?_ _ | refine blk_drew ?_ | refine blk_alloc ?_ _)); exact BK156.out)) : gb163 ≠ gb156)); clear HO153; clear BK156; clear HB; have HO153 := n0_; have BK156 := n1_; have HB := n2_; have BK163 := n3_; have GW163 := n4_; have GE163 := n5_; have NB156_163 := n6_; have NB163_156 := n7_; clear n0_ n1_ n2_ n3_ n4_ n5_ n6_ n7_; clear hb hbox hg; have hnb30 := NB163_156.out; have hnc30 := NB156_163.out; have hcz31_0 : w29.cell? ⟨gb163, 0, none⟩ = some (.int .i64 0) := (blk_cell BK163.out 0).trans rfl; have hcz31_1 : w29.cell? ⟨gb163, 1, none⟩ = some (.int .i64 0) := (blk_cell BK163.out 1).trans rfl; have hcz31_2 : w29.cell? ⟨gb163, 2, none⟩ = some (.int .i64 0) := (blk_cell BK163.out 2).trans rfl; have hfz31_0 := blk_frozen BK163.out 0; have hfz31_1 := blk_frozen BK163.out 1; have hfz31_2 := blk_frozen BK163.out 2))
                      have n0_ : Aside0 (Kd.R (Kd.int .i64) 3 (((w29.setCell ⟨gb163, 0, none⟩ (.int .i64 t159)).setCell ⟨gb163, 1, none⟩ (.int .i64 t160)).setCell ⟨gb163, 2, none⟩ (.int .i64 t161)) w.heap.size (fun _ => True) (.slice (some ad154) t151.length co19) t151) := ⟨by (with_reducible repeat (first | apply Kd.R_alloc | apply Kd.R_drewN | apply Kd.R_drew)); exact Kd.R_mono (Kd.R_far (p := ⟨gb163, 2, none⟩) (Kd.R_far (p := ⟨gb163, 1, none⟩) (Kd.R_far (p := ⟨gb163, 0, none⟩) (Kd.R_types HO153.out BK163.out (by decide)) (fun _ hk => hk.2) (.int .i64 t159)) (fun _ hk => hk.2) (.int .i64 t160)) (fun _ hk => hk.2) (.int .i64 t161)) (fun _ hk => trivial)⟩
                      have n1_ : Aside0 ((((w29.setCell ⟨gb163, 0, none⟩ (.int .i64 t159)).setCell ⟨gb163, 1, none⟩ (.int .i64 t160)).setCell ⟨gb163, 2, none⟩ (.int .i64 t161)).heap[gb156]? = some (.cells #[.int .i64 (Int.tmod (rd t151 0) 90), .int .i64 (wrap64 (1 + (Int.tmod (rd t151 1) 60))), .int .i64 (Int.tmod (rd t151 2) (wrap64 (1 + (Int.tmod (rd t151 1) 60))))] 48 (0, 0))) := ⟨by (with_reducible repeat (first | refine blk_drewN ?_ _ | refine blk_drew ?_ | refine blk_alloc ?_ _)); refine blk_far ?_ NB156_163.out _; (with_reducible repeat (first | refine blk_drewN ?_ _ | refine blk_drew ?_ | refine blk_alloc ?_ _)); refine blk_far ?_ NB156_163.out _; (with_reducible repeat (first | refine blk_drewN ?_ _ | refine blk_drew ?_ | refine blk_alloc ?_ _)); refine blk_far ?_ NB156_163.out _; (with_reducible repeat (first | refine blk_drewN ?_ _ | refine blk_drew ?_ | refine blk_alloc ?_ _)); exact BK156.out⟩
                      have n2_ : Aside0 ((((w29.setCell ⟨gb163, 0, none⟩ (.int .i64 t159)).setCell ⟨gb163, 1, none⟩ (.int .i64 t160)).setCell ⟨gb163, 2, none⟩ (.int .i64 t161)).heap[gb163]? = some (.cells #[.int .i64 t159, .int .i64 t160, .int .i64 t161] 48 (0, 0))) := ⟨by (with_reducible repeat (first | refine blk_drewN ?_ _ | refine blk_drew ?_ | refine blk_alloc ?_ _)); refine blk_put (cs := #[.int .i64 t159, .int .i64 t160, .int .i64 0]) ?_ 2 _ rfl; (with_reducible repeat (first | refine blk_drewN ?_ _ | refine blk_drew ?_ | refine blk_alloc ?_ _)); refine blk_put (cs := #[.int .i64 t159, .int .i64 0, .int .i64 0]) ?_ 1 _ rfl; (with_reducible repeat (first | refine blk_drewN ?_ _ | refine blk_drew ?_ | refine blk_alloc ?_ _)); refine blk_put (cs := #[.int .i64 0, .int .i64 0, .int .i64 0]) ?_ 0 _ rfl; (with_reducible repeat (first | refine blk_drewN ?_ _ | refine blk_drew ?_ | refine blk_alloc ?_ _)); exact BK163.out⟩
                      have n3_ : Aside0 (Below w.heap.size w (((w29.setCell ⟨gb163, 0, none⟩ (.int .i64 t159)).setCell ⟨gb163, 1, none⟩ (.int .i64 t160)).setCell ⟨gb163, 2, none⟩ (.int .i64 t161))) := ⟨by repeat (first | (with_reducible first | exact HB.out | apply below_alloc | apply pw_below_drewN | apply below_drew1 | refine below_set ?_ GE156.out | refine below_set ?_ GE163.out) | exact HB.out)⟩
                      (try clear HO153)
                      (try clear BK156)
                      (try clear BK163)
                      (try clear HB)
                      generalize (((w29.setCell ⟨gb163, 0, none⟩ (.int .i64 t159)).setCell ⟨gb163, 1, none⟩ (.int .i64 t160)).setCell ⟨gb163, 2, none⟩ (.int .i64 t161)) = w32 at n0_ n1_ n2_ n3_ ⊢
                      have HO153 := n0_
                      have BK156 := n1_
                      have BK163 := n2_
                      have HB := n3_
                      clear n0_ n1_ n2_ n3_
                      have n0_ := Aside0.mk (Kd.R_drew HO153.out)
                      have n1_ := Aside0.mk (blk_drew BK156.out)
                      have n2_ := Aside0.mk (blk_drew BK163.out)
                      have n3_ := Aside0.mk (below_drew1 HB.out)
                      clear HO153
                      clear BK156
                      clear BK163
                      clear HB
                      have HO153 := n0_
                      have BK156 := n1_
                      have BK163 := n2_
                      have HB := n3_
                      clear n0_ n1_ n2_ n3_
                      refine start_ (n := 43) (S := fun w' => w'.cell? ⟨gb156, 0, none⟩ = some (.int .i64 (Int.tmod (rd t151 0) 90)) ∧ w'.cell? ⟨gb156, 1, none⟩ = some (.int .i64 (wrap64 (1 + (Int.tmod (rd t151 1) 60)))) ∧ w'.cell? ⟨gb156, 2, none⟩ = some (.int .i64 (Int.tmod (rd t151 2) (wrap64 (1 + (Int.tmod (rd t151 1) 60))))) ∧ w'.cell? ⟨gb163, 0, none⟩ = some (.int .i64 t159) ∧ w'.cell? ⟨gb163, 1, none⟩ = some (.int .i64 t160) ∧ w'.cell? ⟨gb163, 2, none⟩ = some (.int .i64 t161)) (ds := []) #[false, false, false, false, false, false, false, false, false, false, false, false, false, false, false, false, false, false, false, false, false, false, false, false, false, false, false, false, false, false, false, false, false, false, false, false, false, false, false, false, false, false, false] (by kernel_rfl) rfl rfl ⟨(blk_cell BK156.out 0).trans rfl, (blk_cell BK156.out 1).trans rfl, (blk_cell BK156.out 2).trans rfl, (blk_cell BK163.out 0).trans rfl, (blk_cell BK163.out 1).trans rfl, (blk_cell BK163.out 2).trans rfl⟩ (fun hHeld => ?_); refine with_tabW laws_FnRates.tab8 laws_FnRates.bits8 (fun HT_ HW_ => ?_)
                      generalize w32.drew = w33 at HO153 BK156 BK163 HB hHeld ⊢
                      refine take_ (i := 0) (N := some 39) (v := ?_) (a' := ?_) #[true, false, false, false, false, false, false, false, false, false, false, false, false, false, false, false, false, false, false, false, false, false, false, false, false, false, false, false, false, false, false, false, false, false, false, false, false, false, false, false, false, false, false] rfl rfl (take_ofW HT_.out HW_.out (by kernel_rfl)) (fun _ _ _ h => h) (Or.inl ⟨by rfl, ?_⟩) hHeld ?_ ?_
                      rotate_left
                      · rintro w' ⟨s0, s1, s2, s3, s4, s5⟩
                        go_simp
                        with_reducible rfl
                      rotate_left
                      · simp only [Act.put, List.setIfInBounds_toArray, List.set_cons_zero, List.set_cons_succ, i64_w, i32_w]
                        rfl
                      refine one_ (i := 1) (N := some 40) #[true, true, false, false, false, false, false, false, false, false, false, false, false, false, false, false, false, false, false, false, false, false, false, false, false, false, false, false, false, false, false, false, false, false, false, false, false, false, false, false, false, false, false] rfl rfl (one_of HT_.out (by kernel_rfl)) (by decide) (fun K hK => ?_)
                      refine goes_ Try.func34 (by kernel_rfl) rfl #[.agg #[.int .i64 (Int.tmod (rd t151 0) 90), .int .i64 (wrap64 (1 + (Int.tmod (rd t151 1) 60))), .int .i64 (Int.tmod (rd t151 2) (wrap64 (1 + (Int.tmod (rd t151 1) 60))))]] (by rfl) rfl rfl (by (try simp only [List.map_toArray, List.map_cons, List.map_nil]); first | done | rfl | (simp only [List.length_drop, List.length_take]; rfl)) ?_
                      with_reducible refine (impl_RateOk.calls (Int.tmod (rd t151 0) 90) (wrap64 (1 + (Int.tmod (rd t151 1) 60))) (Int.tmod (rd t151 2) (wrap64 (1 + (Int.tmod (rd t151 1) 60)))) true _ A11.out).mono ?_
                      rintro e w34 ⟨rfl, hb⟩
                      refine ⟨_, rfl, ?_⟩
                      have n0_ := Aside0.mk (Kd.R_below (by (with_reducible repeat (first | apply Kd.R_alloc | apply Kd.R_drewN | apply Kd.R_drew)); exact HO153.out) hb)
                      have n1_ := Aside0.mk (blk_below (g := gb156) (o := .cells #[.int .i64 (Int.tmod (rd t151 0) 90), .int .i64 (wrap64 (1 + (Int.tmod (rd t151 1) 60))), .int .i64 (Int.tmod (rd t151 2) (wrap64 (1 + (Int.tmod (rd t151 1) 60))))] 48 (0, 0)) (by (with_reducible repeat (first | refine blk_drewN ?_ _ | refine blk_drew ?_ | refine blk_alloc ?_ _)); exact BK156.out) hb)
                      have n2_ := Aside0.mk (blk_below (g := gb163) (o := .cells #[.int .i64 t159, .int .i64 t160, .int .i64 t161] 48 (0, 0)) (by (with_reducible repeat (first | refine blk_drewN ?_ _ | refine blk_drew ?_ | refine blk_alloc ?_ _)); exact BK163.out) hb)
                      have n3_ := Aside0.mk (below_step (by repeat (first | (with_reducible first | exact HB.out | apply below_alloc | apply pw_below_drewN | apply below_drew1 | refine below_set ?_ GE156.out | refine below_set ?_ GE163.out) | exact HB.out)) hb)
                      clear HO153
                      clear BK156
                      clear BK163
                      clear HB
                      have HO153 := n0_
                      have BK156 := n1_
                      have BK163 := n2_
                      have HB := n3_
                      clear n0_ n1_ n2_ n3_
                      (try clear hb)
                      (try clear hb2)
                      (try clear hk)
                      (try clear hi)
                      refine hK.out _ _ ⟨(blk_cell BK156.out 0).trans rfl, (blk_cell BK156.out 1).trans rfl, (blk_cell BK156.out 2).trans rfl, (blk_cell BK163.out 0).trans rfl, (blk_cell BK163.out 1).trans rfl, (blk_cell BK163.out 2).trans rfl⟩ (fun hHeld => ?_)
                      clear hK K
                      refine norm_ (a' := ?_) ?_ ?_
                      rotate_left
                      · show Act.put _ (some 40) _ = _
                        simp only [Act.put, List.setIfInBounds_toArray, List.set_cons_zero, List.set_cons_succ, i64_w, i32_w]
                        rfl
                      refine pure_ (i := 2) (N := some 41) (v := ?_) (a' := ?_) #[true, true, true, false, false, false, false, false, false, false, false, false, false, false, false, false, false, false, false, false, false, false, false, false, false, false, false, false, false, false, false, false, false, false, false, false, false, false, false, false, false, false, false] rfl rfl (any_of HT_.out (by kernel_rfl)) (fun _ _ _ h => h) (Or.inl ⟨by rfl, ?_⟩) ?_ ?_
                      rotate_left
                      · intro w'
                        go_simp
                        with_reducible rfl
                      rotate_left
                      · simp only [Act.put, List.setIfInBounds_toArray, List.set_cons_zero, List.set_cons_succ, i64_w, i32_w]
                        rfl
                      refine take_ (i := 3) (N := some 42) (v := ?_) (a' := ?_) #[true, true, true, true, false, false, false, false, false, false, false, false, false, false, false, false, false, false, false, false, false, false, false, false, false, false, false, false, false, false, false, false, false, false, false, false, false, false, false, false, false, false, false] rfl rfl (take_ofW HT_.out HW_.out (by kernel_rfl)) (fun _ _ _ h => h) (Or.inl ⟨by rfl, ?_⟩) hHeld ?_ ?_
                      rotate_left
                      · rintro w' ⟨s0, s1, s2, s3, s4, s5⟩
                        go_simp
                        with_reducible rfl
                      rotate_left
                      · simp only [Act.put, List.setIfInBounds_toArray, List.set_cons_zero, List.set_cons_succ, i64_w, i32_w]
                        rfl
                      refine one_ (i := 4) (N := some 43) #[true, true, true, true, true, false, false, false, false, false, false, false, false, false, false, false, false, false, false, false, false, false, false, false, false, false, false, false, false, false, false, false, false, false, false, false, false, false, false, false, false, false, false] rfl rfl (one_of HT_.out (by kernel_rfl)) (by decide) (fun K hK => ?_)
                      refine goes_ Try.func34 (by kernel_rfl) rfl #[.agg #[.int .i64 t159, .int .i64 t160, .int .i64 t161]] (by rfl) rfl rfl (by (try simp only [List.map_toArray, List.map_cons, List.map_nil]); first | done | rfl | (simp only [List.length_drop, List.length_take]; rfl)) ?_
                      with_reducible refine (impl_RateOk.calls t159 t160 t161 true _ A13.out).mono ?_
                      rintro e w35 ⟨rfl, hb⟩
                      refine ⟨_, rfl, ?_⟩
                      have n0_ := Aside0.mk (Kd.R_below (by (with_reducible repeat (first | apply Kd.R_alloc | apply Kd.R_drewN | apply Kd.R_drew)); exact HO153.out) hb)
                      have n1_ := Aside0.mk (blk_below (g := gb156) (o := .cells #[.int .i64 (Int.tmod (rd t151 0) 90), .int .i64 (wrap64 (1 + (Int.tmod (rd t151 1) 60))), .int .i64 (Int.tmod (rd t151 2) (wrap64 (1 + (Int.tmod (rd t151 1) 60))))] 48 (0, 0)) (by (with_reducible repeat (first | refine blk_drewN ?_ _ | refine blk_drew ?_ | refine blk_alloc ?_ _)); exact BK156.out) hb)
                      have n2_ := Aside0.mk (blk_below (g := gb163) (o := .cells #[.int .i64 t159, .int .i64 t160, .int .i64 t161] 48 (0, 0)) (by (with_reducible repeat (first | refine blk_drewN ?_ _ | refine blk_drew ?_ | refine blk_alloc ?_ _)); exact BK163.out) hb)
                      have n3_ := Aside0.mk (below_step (by repeat (first | (with_reducible first | exact HB.out | apply below_alloc | apply pw_below_drewN | apply below_drew1 | refine below_set ?_ GE156.out | refine below_set ?_ GE163.out) | exact HB.out)) hb)
                      clear HO153
                      clear BK156
                      clear BK163
                      clear HB
                      have HO153 := n0_
                      have BK156 := n1_
                      have BK163 := n2_
                      have HB := n3_
                      clear n0_ n1_ n2_ n3_
                      (try clear hb)
                      (try clear hb2)
                      (try clear hk)
                      (try clear hi)
                      refine hK.out _ _ ⟨(blk_cell BK156.out 0).trans rfl, (blk_cell BK156.out 1).trans rfl, (blk_cell BK156.out 2).trans rfl, (blk_cell BK163.out 0).trans rfl, (blk_cell BK163.out 1).trans rfl, (blk_cell BK163.out 2).trans rfl⟩ (fun hHeld => ?_)
                      clear hK K
                      refine norm_ (a' := ?_) ?_ ?_
                      rotate_left
                      · show Act.put _ (some 43) _ = _
                        simp only [Act.put, List.setIfInBounds_toArray, List.set_cons_zero, List.set_cons_succ, i64_w, i32_w]
                        rfl
                      refine pure_ (i := 5) (N := some 44) (v := ?_) (a' := ?_) #[true, true, true, true, true, true, false, false, false, false, false, false, false, false, false, false, false, false, false, false, false, false, false, false, false, false, false, false, false, false, false, false, false, false, false, false, false, false, false, false, false, false, false] rfl rfl (any_of HT_.out (by kernel_rfl)) (fun _ _ _ h => h) (Or.inl ⟨by rfl, ?_⟩) ?_ ?_
                      rotate_left
                      · intro w'
                        go_simp
                        with_reducible rfl
                      rotate_left
                      · simp only [Act.put, List.setIfInBounds_toArray, List.set_cons_zero, List.set_cons_succ, i64_w, i32_w]
                        rfl
                      refine pure_ (i := 6) (N := some 45) (v := ?_) (a' := ?_) #[true, true, true, true, true, true, true, false, false, false, false, false, false, false, false, false, false, false, false, false, false, false, false, false, false, false, false, false, false, false, false, false, false, false, false, false, false, false, false, false, false, false, false] rfl rfl (any_of HT_.out (by kernel_rfl)) (fun _ _ _ h => h) (Or.inl ⟨by rfl, ?_⟩) ?_ ?_
                      rotate_left
                      · intro w'
                        go_simp
                        with_reducible rfl
                      rotate_left
                      · simp only [Act.put, List.setIfInBounds_toArray, List.set_cons_zero, List.set_cons_succ, i64_w, i32_w]
                        rfl
                      refine pure_ (i := 7) (N := some 46) (v := ?_) (a' := ?_) #[true, true, true, true, true, true, true, true, false, false, false, false, false, false, false, false, false, false, false, false, false, false, false, false, false, false, false, false, false, false, false, false, false, false, false, false, false, false, false, false, false, false, false] rfl rfl (any_of HT_.out (by kernel_rfl)) (fun _ _ _ h => h) (Or.inl ⟨by rfl, ?_⟩) ?_ ?_
                      rotate_left
                      · intro w'
                        go_simp
                        with_reducible rfl
                      rotate_left
                      · simp only [Act.put, List.setIfInBounds_toArray, List.set_cons_zero, List.set_cons_succ, i64_w, i32_w]
                        rfl
                      refine pure_ (i := 8) (N := some 47) (v := ?_) (a' := ?_) #[true, true, true, true, true, true, true, true, true, false, false, false, false, false, false, false, false, false, false, false, false, false, false, false, false, false, false, false, false, false, false, false, false, false, false, false, false, false, false, false, false, false, false] rfl rfl (any_of HT_.out (by kernel_rfl)) (fun _ _ _ h => h) (Or.inl ⟨by rfl, ?_⟩) ?_ ?_
                      rotate_left
                      · intro w'
                        go_simp
                        with_reducible rfl
                      rotate_left
                      · simp only [Act.put, List.setIfInBounds_toArray, List.set_cons_zero, List.set_cons_succ, i64_w, i32_w]
                        rfl
                      refine pure_ (i := 10) (N := some 49) (v := ?_) (a' := ?_) #[true, true, true, true, true, true, true, true, true, false, true, false, false, false, false, false, false, false, false, false, false, false, false, false, false, false, false, false, false, false, false, false, false, false, false, false, false, false, false, false, false, false, false] rfl rfl (any_of HT_.out (by kernel_rfl)) (fun _ _ _ h => h) (Or.inl ⟨by rfl, ?_⟩) ?_ ?_
                      rotate_left
                      · intro w'
                        go_simp
                        with_reducible rfl
                      rotate_left
                      · simp only [Act.put, List.setIfInBounds_toArray, List.set_cons_zero, List.set_cons_succ, i64_w, i32_w]
                        rfl
                      refine pure_ (i := 11) (N := some 50) (v := ?_) (a' := ?_) #[true, true, true, true, true, true, true, true, true, false, true, true, false, false, false, false, false, false, false, false, false, false, false, false, false, false, false, false, false, false, false, false, false, false, false, false, false, false, false, false, false, false, false] rfl rfl (any_of HT_.out (by kernel_rfl)) (fun _ _ _ h => h) (Or.inl ⟨by rfl, ?_⟩) ?_ ?_
                      rotate_left
                      · intro w'
                        go_simp
                        with_reducible rfl
                      rotate_left
                      · simp only [Act.put, List.setIfInBounds_toArray, List.set_cons_zero, List.set_cons_succ, i64_w, i32_w]
                        rfl
                      refine pure_ (i := 15) (N := some 54) (v := ?_) (a' := ?_) #[true, true, true, true, true, true, true, true, true, false, true, true, false, false, false, true, false, false, false, false, false, false, false, false, false, false, false, false, false, false, false, false, false, false, false, false, false, false, false, false, false, false, false] rfl rfl (any_of HT_.out (by kernel_rfl)) (fun _ _ _ h => h) (Or.inl ⟨by rfl, ?_⟩) ?_ ?_
                      rotate_left
                      · intro w'
                        go_simp
                        with_reducible rfl
                      rotate_left
                      · simp only [Act.put, List.setIfInBounds_toArray, List.set_cons_zero, List.set_cons_succ, i64_w, i32_w]
                        rfl
                      refine take_ (i := 9) (N := some 48) (v := ?_) (a' := ?_) #[true, true, true, true, true, true, true, true, true, true, true, true, false, false, false, true, false, false, false, false, false, false, false, false, false, false, false, false, false, false, false, false, false, false, false, false, false, false, false, false, false, false, false] rfl rfl (take_ofW HT_.out HW_.out (by kernel_rfl)) (fun _ _ _ h => h) (Or.inl ⟨by rfl, ?_⟩) hHeld ?_ ?_
                      rotate_left
                      · rintro w' ⟨s0, s1, s2, s3, s4, s5⟩
                        go_simp
                        with_reducible rfl
                      rotate_left
                      · simp only [Act.put, List.setIfInBounds_toArray, List.set_cons_zero, List.set_cons_succ, i64_w, i32_w]
                        rfl
                      refine take_ (i := 12) (N := some 51) (v := ?_) (a' := ?_) #[true, true, true, true, true, true, true, true, true, true, true, true, true, false, false, true, false, false, false, false, false, false, false, false, false, false, false, false, false, false, false, false, false, false, false, false, false, false, false, false, false, false, false] rfl rfl (take_ofW HT_.out HW_.out (by kernel_rfl)) (fun _ _ _ h => h) (Or.inl ⟨by rfl, ?_⟩) hHeld ?_ ?_
                      rotate_left
                      · rintro w' ⟨s0, s1, s2, s3, s4, s5⟩
                        go_simp
                        with_reducible rfl
                      rotate_left
                      · simp only [Act.put, List.setIfInBounds_toArray, List.set_cons_zero, List.set_cons_succ, i64_w, i32_w]
                        rfl
                      refine pure_ (i := 13) (N := some 52) (v := ?_) (a' := ?_) #[true, true, true, true, true, true, true, true, true, true, true, true, true, true, false, true, false, false, false, false, false, false, false, false, false, false, false, false, false, false, false, false, false, false, false, false, false, false, false, false, false, false, false] rfl rfl (any_of HT_.out (by kernel_rfl)) (fun _ _ _ h => h) (Or.inl ⟨by rfl, ?_⟩) ?_ ?_
                      rotate_left
                      · intro w'
                        go_simp
                        with_reducible rfl
                      rotate_left
                      · simp only [Act.put, List.setIfInBounds_toArray, List.set_cons_zero, List.set_cons_succ, i64_w, i32_w]
                        rfl
                      refine pure_ (i := 14) (N := some 53) (v := ?_) (a' := ?_) #[true, true, true, true, true, true, true, true, true, true, true, true, true, true, true, true, false, false, false, false, false, false, false, false, false, false, false, false, false, false, false, false, false, false, false, false, false, false, false, false, false, false, false] rfl rfl (any_of HT_.out (by kernel_rfl)) (fun _ _ _ h => h) (Or.inl ⟨by rfl, ?_⟩) ?_ ?_
                      rotate_left
                      · intro w'
                        go_simp
                        with_reducible rfl
                      rotate_left
                      · simp only [Act.put, List.setIfInBounds_toArray, List.set_cons_zero, List.set_cons_succ, i64_w, i32_w]
                        rfl
                      refine take_ (i := 16) (N := some 55) (v := ?_) (a' := ?_) #[true, true, true, true, true, true, true, true, true, true, true, true, true, true, true, true, true, false, false, false, false, false, false, false, false, false, false, false, false, false, false, false, false, false, false, false, false, false, false, false, false, false, false] rfl rfl (take_ofW HT_.out HW_.out (by kernel_rfl)) (fun _ _ _ h => h) (Or.inl ⟨by rfl, ?_⟩) hHeld ?_ ?_
                      rotate_left
                      · rintro w' ⟨s0, s1, s2, s3, s4, s5⟩
                        go_simp
                        with_reducible rfl
                      rotate_left
                      · simp only [Act.put, List.setIfInBounds_toArray, List.set_cons_zero, List.set_cons_succ, i64_w, i32_w]
                        rfl
                      refine pure_ (i := 17) (N := some 56) (v := ?_) (a' := ?_) #[true, true, true, true, true, true, true, true, true, true, true, true, true, true, true, true, true, true, false, false, false, false, false, false, false, false, false, false, false, false, false, false, false, false, false, false, false, false, false, false, false, false, false] rfl rfl (any_of HT_.out (by kernel_rfl)) (fun _ _ _ h => h) (Or.inl ⟨by rfl, ?_⟩) ?_ ?_
                      rotate_left
                      · intro w'
                        go_simp
                        with_reducible rfl
                      rotate_left
                      · simp only [Act.put, List.setIfInBounds_toArray, List.set_cons_zero, List.set_cons_succ, i64_w, i32_w]
                        rfl
                      refine pure_ (i := 18) (N := some 57) (v := ?_) (a' := ?_) #[true, true, true, true, true, true, true, true, true, true, true, true, true, true, true, true, true, true, true, false, false, false, false, false, false, false, false, false, false, false, false, false, false, false, false, false, false, false, false, false, false, false, false] rfl rfl (any_of HT_.out (by kernel_rfl)) (fun _ _ _ h => h) (Or.inl ⟨by rfl, ?_⟩) ?_ ?_
                      rotate_left
                      · intro w'
                        go_simp
                        with_reducible rfl
                      rotate_left
                      · simp only [Act.put, List.setIfInBounds_toArray, List.set_cons_zero, List.set_cons_succ, i64_w, i32_w]
                        rfl
                      refine pure_ (i := 19) (N := some 58) (v := ?_) (a' := ?_) #[true, true, true, true, true, true, true, true, true, true, true, true, true, true, true, true, true, true, true, true, false, false, false, false, false, false, false, false, false, false, false, false, false, false, false, false, false, false, false, false, false, false, false] rfl rfl (any_of HT_.out (by kernel_rfl)) (fun _ _ _ h => h) (Or.inl ⟨by rfl, ?_⟩) ?_ ?_
                      rotate_left
                      · intro w'
                        go_simp
                        with_reducible rfl
                      rotate_left
                      · simp only [Act.put, List.setIfInBounds_toArray, List.set_cons_zero, List.set_cons_succ, i64_w, i32_w]
                        rfl
                      refine pure_ (i := 20) (N := some 59) (v := ?_) (a' := ?_) #[true, true, true, true, true, true, true, true, true, true, true, true, true, true, true, true, true, true, true, true, true, false, false, false, false, false, false, false, false, false, false, false, false, false, false, false, false, false, false, false, false, false, false] rfl rfl (any_of HT_.out (by kernel_rfl)) (fun _ _ _ h => h) (Or.inl ⟨by rfl, ?_⟩) ?_ ?_
                      rotate_left
                      · intro w'
                        go_simp
                        with_reducible rfl
                      rotate_left
                      · simp only [Act.put, List.setIfInBounds_toArray, List.set_cons_zero, List.set_cons_succ, i64_w, i32_w]
                        rfl
                      refine pure_ (i := 21) (N := some 60) (v := ?_) (a' := ?_) #[true, true, true, true, true, true, true, true, true, true, true, true, true, true, true, true, true, true, true, true, true, true, false, false, false, false, false, false, false, false, false, false, false, false, false, false, false, false, false, false, false, false, false] rfl rfl (any_of HT_.out (by kernel_rfl)) (fun _ _ _ h => h) (Or.inl ⟨by rfl, ?_⟩) ?_ ?_
                      rotate_left
                      · intro w'
                        go_simp
                        with_reducible rfl
                      rotate_left
                      · simp only [Act.put, List.setIfInBounds_toArray, List.set_cons_zero, List.set_cons_succ, i64_w, i32_w]
                        rfl
                      refine pure_ (i := 23) (N := some 62) (v := ?_) (a' := ?_) #[true, true, true, true, true, true, true, true, true, true, true, true, true, true, true, true, true, true, true, true, true, true, false, true, false, false, false, false, false, false, false, false, false, false, false, false, false, false, false, false, false, false, false] rfl rfl (any_of HT_.out (by kernel_rfl)) (fun _ _ _ h => h) (Or.inl ⟨by rfl, ?_⟩) ?_ ?_
                      rotate_left
                      · intro w'
                        go_simp
                        with_reducible rfl
                      rotate_left
                      · simp only [Act.put, List.setIfInBounds_toArray, List.set_cons_zero, List.set_cons_succ, i64_w, i32_w]
                        rfl
                      refine pure_ (i := 25) (N := some 64) (v := ?_) (a' := ?_) #[true, true, true, true, true, true, true, true, true, true, true, true, true, true, true, true, true, true, true, true, true, true, false, true, false, true, false, false, false, false, false, false, false, false, false, false, false, false, false, false, false, false, false] rfl rfl (any_of HT_.out (by kernel_rfl)) (fun _ _ _ h => h) (Or.inl ⟨by rfl, ?_⟩) ?_ ?_
                      rotate_left
                      · intro w'
                        go_simp
                        with_reducible rfl
                      rotate_left
                      · simp only [Act.put, List.setIfInBounds_toArray, List.set_cons_zero, List.set_cons_succ, i64_w, i32_w]
                        rfl
                      refine pure_ (i := 26) (N := some 65) (v := ?_) (a' := ?_) #[true, true, true, true, true, true, true, true, true, true, true, true, true, true, true, true, true, true, true, true, true, true, false, true, false, true, true, false, false, false, false, false, false, false, false, false, false, false, false, false, false, false, false] rfl rfl (any_of HT_.out (by kernel_rfl)) (fun _ _ _ h => h) (Or.inl ⟨by rfl, ?_⟩) ?_ ?_
                      rotate_left
                      · intro w'
                        go_simp
                        with_reducible rfl
                      rotate_left
                      · simp only [Act.put, List.setIfInBounds_toArray, List.set_cons_zero, List.set_cons_succ, i64_w, i32_w]
                        rfl
                      refine pure_ (i := 30) (N := some 69) (v := ?_) (a' := ?_) #[true, true, true, true, true, true, true, true, true, true, true, true, true, true, true, true, true, true, true, true, true, true, false, true, false, true, true, false, false, false, true, false, false, false, false, false, false, false, false, false, false, false, false] rfl rfl (any_of HT_.out (by kernel_rfl)) (fun _ _ _ h => h) (Or.inl ⟨by rfl, ?_⟩) ?_ ?_
                      rotate_left
                      · intro w'
                        go_simp
                        with_reducible rfl
                      rotate_left
                      · simp only [Act.put, List.setIfInBounds_toArray, List.set_cons_zero, List.set_cons_succ, i64_w, i32_w]
                        rfl
                      refine take_ (i := 22) (N := some 61) (v := ?_) (a' := ?_) #[true, true, true, true, true, true, true, true, true, true, true, true, true, true, true, true, true, true, true, true, true, true, true, true, false, true, true, false, false, false, true, false, false, false, false, false, false, false, false, false, false, false, false] rfl rfl (take_ofW HT_.out HW_.out (by kernel_rfl)) (fun _ _ _ h => h) (Or.inl ⟨by rfl, ?_⟩) hHeld ?_ ?_
                      rotate_left
                      · rintro w' ⟨s0, s1, s2, s3, s4, s5⟩
                        go_simp
                        with_reducible rfl
                      rotate_left
                      · simp only [Act.put, List.setIfInBounds_toArray, List.set_cons_zero, List.set_cons_succ, i64_w, i32_w]
                        rfl
                      refine take_ (i := 24) (N := some 63) (v := ?_) (a' := ?_) #[true, true, true, true, true, true, true, true, true, true, true, true, true, true, true, true, true, true, true, true, true, true, true, true, true, true, true, false, false, false, true, false, false, false, false, false, false, false, false, false, false, false, false] rfl rfl (take_ofW HT_.out HW_.out (by kernel_rfl)) (fun _ _ _ h => h) (Or.inl ⟨by rfl, ?_⟩) hHeld ?_ ?_
                      rotate_left
                      · rintro w' ⟨s0, s1, s2, s3, s4, s5⟩
                        go_simp
                        with_reducible rfl
                      rotate_left
                      · simp only [Act.put, List.setIfInBounds_toArray, List.set_cons_zero, List.set_cons_succ, i64_w, i32_w]
                        rfl
                      refine take_ (i := 27) (N := some 66) (v := ?_) (a' := ?_) #[true, true, true, true, true, true, true, true, true, true, true, true, true, true, true, true, true, true, true, true, true, true, true, true, true, true, true, true, false, false, true, false, false, false, false, false, false, false, false, false, false, false, false] rfl rfl (take_ofW HT_.out HW_.out (by kernel_rfl)) (fun _ _ _ h => h) (Or.inl ⟨by rfl, ?_⟩) hHeld ?_ ?_
                      rotate_left
                      · rintro w' ⟨s0, s1, s2, s3, s4, s5⟩
                        go_simp
                        with_reducible rfl
                      rotate_left
                      · simp only [Act.put, List.setIfInBounds_toArray, List.set_cons_zero, List.set_cons_succ, i64_w, i32_w]
                        rfl
                      refine pure_ (i := 28) (N := some 67) (v := ?_) (a' := ?_) #[true, true, true, true, true, true, true, true, true, true, true, true, true, true, true, true, true, true, true, true, true, true, true, true, true, true, true, true, true, false, true, false, false, false, false, false, false, false, false, false, false, false, false] rfl rfl (any_of HT_.out (by kernel_rfl)) (fun _ _ _ h => h) (Or.inl ⟨by rfl, ?_⟩) ?_ ?_
                      rotate_left
                      · intro w'
                        go_simp
                        with_reducible rfl
                      rotate_left
                      · simp only [Act.put, List.setIfInBounds_toArray, List.set_cons_zero, List.set_cons_succ, i64_w, i32_w]
                        rfl
                      refine pure_ (i := 29) (N := some 68) (v := ?_) (a' := ?_) #[true, true, true, true, true, true, true, true, true, true, true, true, true, true, true, true, true, true, true, true, true, true, true, true, true, true, true, true, true, true, true, false, false, false, false, false, false, false, false, false, false, false, false] rfl rfl (any_of HT_.out (by kernel_rfl)) (fun _ _ _ h => h) (Or.inl ⟨by rfl, ?_⟩) ?_ ?_
                      rotate_left
                      · intro w'
                        go_simp
                        with_reducible rfl
                      rotate_left
                      · simp only [Act.put, List.setIfInBounds_toArray, List.set_cons_zero, List.set_cons_succ, i64_w, i32_w]
                        rfl
                      refine take_ (i := 31) (N := some 70) (v := ?_) (a' := ?_) #[true, true, true, true, true, true, true, true, true, true, true, true, true, true, true, true, true, true, true, true, true, true, true, true, true, true, true, true, true, true, true, true, false, false, false, false, false, false, false, false, false, false, false] rfl rfl (take_ofW HT_.out HW_.out (by kernel_rfl)) (fun _ _ _ h => h) (Or.inl ⟨by rfl, ?_⟩) hHeld ?_ ?_
                      rotate_left
                      · rintro w' ⟨s0, s1, s2, s3, s4, s5⟩
                        go_simp
                        with_reducible rfl
                      rotate_left
                      · simp only [Act.put, List.setIfInBounds_toArray, List.set_cons_zero, List.set_cons_succ, i64_w, i32_w]
                        rfl
                      refine pure_ (i := 32) (N := some 71) (v := ?_) (a' := ?_) #[true, true, true, true, true, true, true, true, true, true, true, true, true, true, true, true, true, true, true, true, true, true, true, true, true, true, true, true, true, true, true, true, true, false, false, false, false, false, false, false, false, false, false] rfl rfl (any_of HT_.out (by kernel_rfl)) (fun _ _ _ h => h) (Or.inl ⟨by rfl, ?_⟩) ?_ ?_
                      rotate_left
                      · intro w'
                        go_simp
                        with_reducible rfl
                      rotate_left
                      · simp only [Act.put, List.setIfInBounds_toArray, List.set_cons_zero, List.set_cons_succ, i64_w, i32_w]
                        rfl
                      refine pure_ (i := 33) (N := some 72) (v := ?_) (a' := ?_) #[true, true, true, true, true, true, true, true, true, true, true, true, true, true, true, true, true, true, true, true, true, true, true, true, true, true, true, true, true, true, true, true, true, true, false, false, false, false, false, false, false, false, false] rfl rfl (any_of HT_.out (by kernel_rfl)) (fun _ _ _ h => h) (Or.inl ⟨by rfl, ?_⟩) ?_ ?_
                      rotate_left
                      · intro w'
                        go_simp
                        with_reducible rfl
                      rotate_left
                      · simp only [Act.put, List.setIfInBounds_toArray, List.set_cons_zero, List.set_cons_succ, i64_w, i32_w]
                        rfl
                      refine pure_ (i := 34) (N := some 73) (v := ?_) (a' := ?_) #[true, true, true, true, true, true, true, true, true, true, true, true, true, true, true, true, true, true, true, true, true, true, true, true, true, true, true, true, true, true, true, true, true, true, true, false, false, false, false, false, false, false, false] rfl rfl (any_of HT_.out (by kernel_rfl)) (fun _ _ _ h => h) (Or.inl ⟨by rfl, ?_⟩) ?_ ?_
                      rotate_left
                      · intro w'
                        go_simp
                        with_reducible rfl
                      rotate_left
                      · simp only [Act.put, List.setIfInBounds_toArray, List.set_cons_zero, List.set_cons_succ, i64_w, i32_w]
                        rfl
                      refine pure_ (i := 35) (N := some 74) (v := ?_) (a' := ?_) #[true, true, true, true, true, true, true, true, true, true, true, true, true, true, true, true, true, true, true, true, true, true, true, true, true, true, true, true, true, true, true, true, true, true, true, true, false, false, false, false, false, false, false] rfl rfl (any_of HT_.out (by kernel_rfl)) (fun _ _ _ h => h) (Or.inl ⟨by rfl, ?_⟩) ?_ ?_
                      rotate_left
                      · intro w'
                        go_simp
                        with_reducible rfl
                      rotate_left
                      · simp only [Act.put, List.setIfInBounds_toArray, List.set_cons_zero, List.set_cons_succ, i64_w, i32_w]
                        rfl
                      refine pure_ (i := 36) (N := some 75) (v := ?_) (a' := ?_) #[true, true, true, true, true, true, true, true, true, true, true, true, true, true, true, true, true, true, true, true, true, true, true, true, true, true, true, true, true, true, true, true, true, true, true, true, true, false, false, false, false, false, false] rfl rfl (any_of HT_.out (by kernel_rfl)) (fun _ _ _ h => h) (Or.inl ⟨by rfl, ?_⟩) ?_ ?_
                      rotate_left
                      · intro w'
                        go_simp
                        with_reducible rfl
                      rotate_left
                      · simp only [Act.put, List.setIfInBounds_toArray, List.set_cons_zero, List.set_cons_succ, i64_w, i32_w]
                        rfl
                      refine pure_ (i := 38) (N := some 77) (v := ?_) (a' := ?_) #[true, true, true, true, true, true, true, true, true, true, true, true, true, true, true, true, true, true, true, true, true, true, true, true, true, true, true, true, true, true, true, true, true, true, true, true, true, false, true, false, false, false, false] rfl rfl (any_of HT_.out (by kernel_rfl)) (fun _ _ _ h => h) (Or.inl ⟨by rfl, ?_⟩) ?_ ?_
                      rotate_left
                      · intro w'
                        go_simp
                        with_reducible rfl
                      rotate_left
                      · simp only [Act.put, List.setIfInBounds_toArray, List.set_cons_zero, List.set_cons_succ, i64_w, i32_w]
                        rfl
                      refine take_ (i := 37) (N := some 76) (v := ?_) (a' := ?_) #[true, true, true, true, true, true, true, true, true, true, true, true, true, true, true, true, true, true, true, true, true, true, true, true, true, true, true, true, true, true, true, true, true, true, true, true, true, true, true, false, false, false, false] rfl rfl (take_ofW HT_.out HW_.out (by kernel_rfl)) (fun _ _ _ h => h) (Or.inl ⟨by rfl, ?_⟩) hHeld ?_ ?_
                      rotate_left
                      · rintro w' ⟨s0, s1, s2, s3, s4, s5⟩
                        go_simp
                        with_reducible rfl
                      rotate_left
                      · simp only [Act.put, List.setIfInBounds_toArray, List.set_cons_zero, List.set_cons_succ, i64_w, i32_w]
                        rfl
                      refine take_ (i := 39) (N := some 78) (v := ?_) (a' := ?_) #[true, true, true, true, true, true, true, true, true, true, true, true, true, true, true, true, true, true, true, true, true, true, true, true, true, true, true, true, true, true, true, true, true, true, true, true, true, true, true, true, false, false, false] rfl rfl (take_ofW HT_.out HW_.out (by kernel_rfl)) (fun _ _ _ h => h) (Or.inl ⟨by rfl, ?_⟩) hHeld ?_ ?_
                      rotate_left
                      · rintro w' ⟨s0, s1, s2, s3, s4, s5⟩
                        go_simp
                        with_reducible rfl
                      rotate_left
                      · simp only [Act.put, List.setIfInBounds_toArray, List.set_cons_zero, List.set_cons_succ, i64_w, i32_w]
                        rfl
                      refine pure_ (i := 40) (N := some 79) (v := ?_) (a' := ?_) #[true, true, true, true, true, true, true, true, true, true, true, true, true, true, true, true, true, true, true, true, true, true, true, true, true, true, true, true, true, true, true, true, true, true, true, true, true, true, true, true, true, false, false] rfl rfl (any_of HT_.out (by kernel_rfl)) (fun _ _ _ h => h) (Or.inl ⟨by rfl, ?_⟩) ?_ ?_
                      rotate_left
                      · intro w'
                        go_simp
                        with_reducible rfl
                      rotate_left
                      · simp only [Act.put, List.setIfInBounds_toArray, List.set_cons_zero, List.set_cons_succ, i64_w, i32_w]
                        rfl
                      refine pure_ (i := 41) (N := some 80) (v := ?_) (a' := ?_) #[true, true, true, true, true, true, true, true, true, true, true, true, true, true, true, true, true, true, true, true, true, true, true, true, true, true, true, true, true, true, true, true, true, true, true, true, true, true, true, true, true, true, false] rfl rfl (any_of HT_.out (by kernel_rfl)) (fun _ _ _ h => h) (Or.inl ⟨by rfl, ?_⟩) ?_ ?_
                      rotate_left
                      · intro w'
                        go_simp
                        with_reducible rfl
                      rotate_left
                      · simp only [Act.put, List.setIfInBounds_toArray, List.set_cons_zero, List.set_cons_succ, i64_w, i32_w]
                        rfl
                      refine pure_ (i := 42) (N := some 2) (v := ?_) (a' := ?_) #[true, true, true, true, true, true, true, true, true, true, true, true, true, true, true, true, true, true, true, true, true, true, true, true, true, true, true, true, true, true, true, true, true, true, true, true, true, true, true, true, true, true, true] rfl rfl (any_of HT_.out (by kernel_rfl)) (fun _ _ _ h => h) (Or.inl ⟨by rfl, ?_⟩) ?_ ?_
                      rotate_left
                      · intro w'
                        go_simp
                        with_reducible rfl
                      rotate_left
                      · simp only [Act.put, List.setIfInBounds_toArray, List.set_cons_zero, List.set_cons_succ, i64_w, i32_w]
                        rfl
                      refine done_ (done_of HT_.out (by kernel_rfl)) ?_
                      try go_wp2
                      go_ret
                      exact ⟨by first | rfl | (simp [errW_none, errW_some] <;> rfl) | (simp [*, errW_none, errW_some] <;> rfl), by repeat (first | (with_reducible first | exact HB.out | apply below_alloc | apply pw_below_drewN | apply below_drew1 | refine below_set ?_ GE156.out | refine below_set ?_ GE163.out) | exact HB.out)⟩
                    · rw [if_neg c16] at H
                      have c16b0 : (t161 == (Int.tmod (wrap64 ((Int.tmod (rd t151 2) (wrap64 (1 + (Int.tmod (rd t151 1) 60)))) + (wrap64 ((Int.tmod (rd t151 3) 300) * (Int.tmod (rd t151 0) 90))))) (wrap64 (1 + (Int.tmod (rd t151 1) 60))))) = false := beq_eq_false_iff_ne.mpr c16
                      have c16b1 : (t161 != (Int.tmod (wrap64 ((Int.tmod (rd t151 2) (wrap64 (1 + (Int.tmod (rd t151 1) 60)))) + (wrap64 ((Int.tmod (rd t151 3) 300) * (Int.tmod (rd t151 0) 90))))) (wrap64 (1 + (Int.tmod (rd t151 1) 60))))) = true := bne_iff_ne.mpr c16
                      exact absurd (Option.some.inj H) (by rw [hrt.out]; decide)
                  · rw [if_neg c15] at H
                    have c15b0 : (t162 == (wrap64 (Int.tdiv (wrap64 ((Int.tmod (rd t151 2) (wrap64 (1 + (Int.tmod (rd t151 1) 60)))) + (wrap64 ((Int.tmod (rd t151 3) 300) * (Int.tmod (rd t151 0) 90))))) (wrap64 (1 + (Int.tmod (rd t151 1) 60)))))) = false := beq_eq_false_iff_ne.mpr c15
                    have c15b1 : (t162 != (wrap64 (Int.tdiv (wrap64 ((Int.tmod (rd t151 2) (wrap64 (1 + (Int.tmod (rd t151 1) 60)))) + (wrap64 ((Int.tmod (rd t151 3) 300) * (Int.tmod (rd t151 0) 90))))) (wrap64 (1 + (Int.tmod (rd t151 1) 60)))))) = true := bne_iff_ne.mpr c15
                    exact absurd (Option.some.inj H) (by rw [hrt.out]; decide)
                · replace c14 := Bool.eq_false_iff.mpr c14
                  subst c14
                  have H1 : (some false) = some r := by rw [if_neg (show ¬ (false = true) by decide)] at H; exact H
                  clear H
                  have H := H1
                  clear H1
                  exact absurd (Option.some.inj H) (by rw [hrt.out]; decide)
              · replace c12 := Bool.eq_false_iff.mpr c12
                subst c12
                have H1 : (some false) = some r := by rw [if_neg (show ¬ (false = true) by decide)] at H; exact H
                clear H
                have H := H1
                clear H1
                exact absurd (Option.some.inj H) (by rw [hrt.out]; decide)
            · rw [if_neg c9] at H
              exact absurd H (by simp)
        · rw [if_neg c7] at H
          exact absurd H (by simp)
      · rw [if_neg c6] at H
        exact absurd H (by simp)
    · rw [if_neg c5] at H
      exact absurd H (by simp)

/-- THE ONE PURE STATEMENT of laws_FnRates: yours. -/
def laws_FnRates.Pure : Prop := ∀ (l0 : List Int), l0.length ≤ maxLen → l0.length * 1 ≤ 140737488351232 → (∀ x ∈ l0, (Lit.int .u8 x).wf = true) → ∃ k, laws_FnRates.f k l0 = some true
end Go.Proofs.Ytdbogijlpplcgaa.PFnRates
