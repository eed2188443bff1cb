/- The walks of what FnSumsOf reaches: lines of the kit's print for this claim, turned by hand where they did not build. -/
import Derived.Test.YteehopjgmgelnaaMFnSumsOfx0
import Derived.Test.YteehopjgmgelnaaMFnSumsOfx1
import Derived.Test.YteehopjgmgelnaaMFnSumsOfx5
namespace Go.Proofs.Yteehopjgmgelnaa.PFnSumsOf
open Go.RowKit Go.Proofs.YteehopjgmgelnaaW.PrintWords Go.Proofs.YteehopjgmgelnaaW.PrintLast Go.Proofs.YteehopjgmgelnaaW.PrintMore
attribute [local go_sem] max2_int min2_int max_two min_two max_three min_three max_four min_four   -- for this text's walks alone
set_option linter.unusedVariables false
set_option linter.unusedSimpArgs false

/-! ### laws_FnSumsOf: function 8 -/
mutual
def laws_FnSumsOf.l0 : Nat → Int → Int → List Int → Int → Option (Bool)
  | 0, _, _, _, _ => none
  | k + 1, x4, x5, x6, x7 => if x7 < (x6.length : Int) then (if 0 ≤ x7 then (laws_FnSumsOf.l1 k x4 x5 x6 x7 (([(⟨1, x4⟩ : S64), (⟨1, x5⟩ : S64), (⟨rd x6 x7, 0⟩ : S64)] : List (S64))) 0 0 0 ([] : List Int)) else (none)) else (some true)
def laws_FnSumsOf.l1 : Nat → Int → Int → List Int → Int → List (S64) → Int → Int → Int → List Int → Option (Bool)
  | 0, _, _, _, _, _, _, _, _, _ => none
  | k + 1, x4, x5, x6, x7, x8, x10, x11, x229000, x229001 => if x11 < 3 then ((impl_ArenaNew.f).bind fun t229 => ((impl_StepCpu.f k x229000 x229001 x8 t229 0 1 0).bind fun bt232 => (laws_FnSumsOf.l1 k x4 x5 x6 x7 x8 bt232.2.2.2.2.2.2 (wrap64 (x11 + 1)) bt232.1 bt232.2.1))) else (if 0 ≤ x7 then (if x7 < (x6.length : Int) then (if (rd x6 x7) = 7 then (laws_FnSumsOf.j2 k x4 x5 x6 x7 x10 (x5 == 0) x229000 x229001) else (laws_FnSumsOf.j2 k x4 x5 x6 x7 x10 false x229000 x229001)) else (none)) else (none))
def laws_FnSumsOf.j2 : Nat → Int → Int → List Int → Int → Int → Bool → Int → List Int → Option (Bool)
  | 0, _, _, _, _, _, _, _, _ => none
  | k + 1, x4, x5, x6, x7, x10, x70, x229000, x229001 => if x70 = true then (if x10 = 3 then (laws_FnSumsOf.l0 k x4 x5 x6 (wrap64 (x7 + 1))) else (some false)) else ((some (([wrap64 (x4 + x5), Int.tmod (wrap64 ((wrap64 (x4 - x5)) + 65536)) 65536, Int.tmod (wrap64 (x4 * x5)) 65536, 0, 0] : List Int) : List Int)).bind fun y247 => (if x5 > 0 then (if x5 = 0 then (none) else (if 3 < (y247.length : Int) then (laws_FnSumsOf.j3 k x4 x5 x6 x7 x10 (y247.set (3 : Int).toNat (wrap64 (Int.tdiv x4 x5))) x229000 x229001) else (none))) else (laws_FnSumsOf.j3 k x4 x5 x6 x7 x10 y247 x229000 x229001)))
def laws_FnSumsOf.j3 : Nat → Int → Int → List Int → Int → Int → List Int → Int → List Int → Option (Bool)
  | 0, _, _, _, _, _, _, _, _ => none
  | k + 1, x4, x5, x6, x7, x10, x15, x229000, x229001 => if x4 < x5 then (if 4 < (x15.length : Int) then (if x10 = 0 then (if (x229001.length : Int) = 1 then (if 0 < (x229001.length : Int) then (if 0 ≤ x7 then (if x7 < (x15.length : Int) then (if (rd x229001 0) = (rd (x15.set (4 : Int).toNat 1) x7) then (if x229000 = 3 then (laws_FnSumsOf.l0 k x4 x5 x6 (wrap64 (x7 + 1))) else (some false)) else (some false)) else (none)) else (none)) else (none)) else (some false)) else (some false)) else (none)) else (if x10 = 0 then (if (x229001.length : Int) = 1 then (if 0 < (x229001.length : Int) then (if 0 ≤ x7 then (if x7 < (x15.length : Int) then (if (rd x229001 0) = (rd x15 x7) then (if x229000 = 3 then (laws_FnSumsOf.l0 k x4 x5 x6 (wrap64 (x7 + 1))) else (some false)) else (some false)) else (none)) else (none)) else (none)) else (some false)) else (some false))
end
def laws_FnSumsOf.f (k : Nat) (l0 : List Int) : Option (Bool) := (laws_big.f l0).bind fun t215 => (if t215 = true then (some true) else ((spec_DrawPlaces.f k l0).bind fun t216 => (if 0 < (t216.length : Int) then (if 1 < (t216.length : Int) then (laws_FnSumsOf.l0 k (Int.tmod (rd t216 0) 256) (Int.tmod (rd t216 1) 256) (([4, 5, 6, 7, 8] : List Int)) 0) else (none)) else (none))))
theorem laws_FnSumsOf.mono_l : ∀ k, (∀ y0 y1 y2 y3, LeO (laws_FnSumsOf.l0 k y0 y1 y2 y3) (laws_FnSumsOf.l0 (k + 1) y0 y1 y2 y3)) ∧ (∀ y0 y1 y2 y3 y4 y5 y6 y7 y8, LeO (laws_FnSumsOf.l1 k y0 y1 y2 y3 y4 y5 y6 y7 y8) (laws_FnSumsOf.l1 (k + 1) y0 y1 y2 y3 y4 y5 y6 y7 y8)) ∧ (∀ y0 y1 y2 y3 y4 y5 y6 y7, LeO (laws_FnSumsOf.j2 k y0 y1 y2 y3 y4 y5 y6 y7) (laws_FnSumsOf.j2 (k + 1) y0 y1 y2 y3 y4 y5 y6 y7)) ∧ (∀ y0 y1 y2 y3 y4 y5 y6 y7, LeO (laws_FnSumsOf.j3 k y0 y1 y2 y3 y4 y5 y6 y7) (laws_FnSumsOf.j3 (k + 1) y0 y1 y2 y3 y4 y5 y6 y7))
  | 0 => ⟨fun _ _ _ _ r h => by simp [laws_FnSumsOf.l0] at h, fun _ _ _ _ _ _ _ _ _ r h => by simp [laws_FnSumsOf.l1] at h, fun _ _ _ _ _ _ _ _ r h => by simp [laws_FnSumsOf.j2] at h, fun _ _ _ _ _ _ _ _ r h => by simp [laws_FnSumsOf.j3] at h⟩
  | k + 1 => by
    obtain ⟨ih0, ih1, ih2, ih3⟩ := laws_FnSumsOf.mono_l k
    refine ⟨?_, ?_, ?_, ?_⟩
    · intro y0 y1 y2 y3
      unfold laws_FnSumsOf.l0
      repeat' first
      | (with_reducible exact ih0 _ _ _ _)
      | (with_reducible exact ih1 _ _ _ _ _ _ _ _ _)
      | (with_reducible exact ih2 _ _ _ _ _ _ _ _)
      | (with_reducible exact ih3 _ _ _ _ _ _ _ _)
      | (with_reducible exact impl_StepCpu.mono _ _ _ _ _ _ _ _)
      | (with_reducible exact spec_DrawPlaces.mono _ _)
      | (with_reducible exact LeO.refl _)
      | (with_reducible exact LeO.none _)
      | (with_reducible refine LeO.ite ?_ ?_)
      | (with_reducible refine LeO.bind ?_ (fun _ => ?_))
      | exact ih0 _ _ _ _
      | exact ih1 _ _ _ _ _ _ _ _ _
      | exact ih2 _ _ _ _ _ _ _ _
      | exact ih3 _ _ _ _ _ _ _ _
      | exact impl_StepCpu.mono _ _ _ _ _ _ _ _
      | exact spec_DrawPlaces.mono _ _
      | exact LeO.none _
      | refine LeO.ite ?_ ?_
      | refine LeO.bind ?_ (fun _ => ?_)
    · intro y0 y1 y2 y3 y4 y5 y6 y7 y8
      unfold laws_FnSumsOf.l1
      repeat' first
      | (with_reducible exact ih0 _ _ _ _)
      | (with_reducible exact ih1 _ _ _ _ _ _ _ _ _)
      | (with_reducible exact ih2 _ _ _ _ _ _ _ _)
      | (with_reducible exact ih3 _ _ _ _ _ _ _ _)
      | (with_reducible exact impl_StepCpu.mono _ _ _ _ _ _ _ _)
      | (with_reducible exact spec_DrawPlaces.mono _ _)
      | (with_reducible exact LeO.refl _)
      | (with_reducible exact LeO.none _)
      | (with_reducible refine LeO.ite ?_ ?_)
      | (with_reducible refine LeO.bind ?_ (fun _ => ?_))
      | exact ih0 _ _ _ _
      | exact ih1 _ _ _ _ _ _ _ _ _
      | exact ih2 _ _ _ _ _ _ _ _
      | exact ih3 _ _ _ _ _ _ _ _
      | exact impl_StepCpu.mono _ _ _ _ _ _ _ _
      | exact spec_DrawPlaces.mono _ _
      | exact LeO.none _
      | refine LeO.ite ?_ ?_
      | refine LeO.bind ?_ (fun _ => ?_)
    · intro y0 y1 y2 y3 y4 y5 y6 y7
      unfold laws_FnSumsOf.j2
      repeat' first
      | (with_reducible exact ih0 _ _ _ _)
      | (with_reducible exact ih1 _ _ _ _ _ _ _ _ _)
      | (with_reducible exact ih2 _ _ _ _ _ _ _ _)
      | (with_reducible exact ih3 _ _ _ _ _ _ _ _)
      | (with_reducible exact impl_StepCpu.mono _ _ _ _ _ _ _ _)
      | (with_reducible exact spec_DrawPlaces.mono _ _)
      | (with_reducible exact LeO.refl _)
      | (with_reducible exact LeO.none _)
      | (with_reducible refine LeO.ite ?_ ?_)
      | (with_reducible refine LeO.bind ?_ (fun _ => ?_))
      | exact ih0 _ _ _ _
      | exact ih1 _ _ _ _ _ _ _ _ _
      | exact ih2 _ _ _ _ _ _ _ _
      | exact ih3 _ _ _ _ _ _ _ _
      | exact impl_StepCpu.mono _ _ _ _ _ _ _ _
      | exact spec_DrawPlaces.mono _ _
      | exact LeO.none _
      | refine LeO.ite ?_ ?_
      | refine LeO.bind ?_ (fun _ => ?_)
    · intro y0 y1 y2 y3 y4 y5 y6 y7
      unfold laws_FnSumsOf.j3
      repeat' first
      | (with_reducible exact ih0 _ _ _ _)
      | (with_reducible exact ih1 _ _ _ _ _ _ _ _ _)
      | (with_reducible exact ih2 _ _ _ _ _ _ _ _)
      | (with_reducible exact ih3 _ _ _ _ _ _ _ _)
      | (with_reducible exact impl_StepCpu.mono _ _ _ _ _ _ _ _)
      | (with_reducible exact spec_DrawPlaces.mono _ _)
      | (with_reducible exact LeO.refl _)
      | (with_reducible exact LeO.none _)
      | (with_reducible refine LeO.ite ?_ ?_)
      | (with_reducible refine LeO.bind ?_ (fun _ => ?_))
      | exact ih0 _ _ _ _
      | exact ih1 _ _ _ _ _ _ _ _ _
      | exact ih2 _ _ _ _ _ _ _ _
      | exact ih3 _ _ _ _ _ _ _ _
      | exact impl_StepCpu.mono _ _ _ _ _ _ _ _
      | exact spec_DrawPlaces.mono _ _
      | exact LeO.none _
      | refine LeO.ite ?_ ?_
      | refine LeO.bind ?_ (fun _ => ?_)
theorem laws_FnSumsOf.mono : ∀ a0 k, LeO (laws_FnSumsOf.f k a0) (laws_FnSumsOf.f (k + 1) a0) := by
  intro a0 k
  obtain ⟨ih0, ih1, ih2, ih3⟩ := laws_FnSumsOf.mono_l k
  unfold laws_FnSumsOf.f
  repeat' first
      | (with_reducible exact ih0 _ _ _ _)
      | (with_reducible exact ih1 _ _ _ _ _ _ _ _ _)
      | (with_reducible exact ih2 _ _ _ _ _ _ _ _)
      | (with_reducible exact ih3 _ _ _ _ _ _ _ _)
      | (with_reducible exact impl_StepCpu.mono _ _ _ _ _ _ _ _)
      | (with_reducible exact spec_DrawPlaces.mono _ _)
      | (with_reducible exact LeO.refl _)
      | (with_reducible exact LeO.none _)
      | (with_reducible refine LeO.ite ?_ ?_)
      | (with_reducible refine LeO.bind ?_ (fun _ => ?_))
      | exact ih0 _ _ _ _
      | exact ih1 _ _ _ _ _ _ _ _ _
      | exact ih2 _ _ _ _ _ _ _ _
      | exact ih3 _ _ _ _ _ _ _ _
      | exact impl_StepCpu.mono _ _ _ _ _ _ _ _
      | exact spec_DrawPlaces.mono _ _
      | exact LeO.none _
      | refine LeO.ite ?_ ?_
      | refine LeO.bind ?_ (fun _ => ?_)
def laws_FnSumsOf.T16 : Bool × List (List Nat × List Nat) := (true, [([], []), ([], []), ([], []), ([], []), ([0, 1, 2, 3, 2], [0, 1, 2, 3]), ([4], [4]), ([5], [5]), ([5], [5]), ([5], [5]), ([], []), ([], []), ([], []), ([9, 6, 4, 0, 1, 2, 3, 4, 5, 6, 9, 10, 11], [6, 9]), ([10, 7, 12, 0, 1, 2, 3, 4, 5, 6, 7, 9, 10, 11, 12], [7, 10]), ([11, 8, 13, 0, 1, 2, 3, 4, 5, 6, 7, 8, 9, 10, 11, 12, 13], [8, 11])])
def laws_FnSumsOf.B16 : List Nat := [0, 0, 0, 0, 15, 31, 63, 63, 63, 0, 0, 0, 3711, 7935, 16383]
theorem laws_FnSumsOf.tab16 : rtab .any (opsOf Try.f8 16) = laws_FnSumsOf.T16 := by kernel_rfl
theorem laws_FnSumsOf.bits16 : waitsOk laws_FnSumsOf.T16.2 laws_FnSumsOf.B16 = true := by kernel_rfl
def laws_FnSumsOf.T27 : Bool × List (List Nat × List Nat) := (true, [([], []), ([0], [0]), ([1], [1]), ([2], [2]), ([3, 2], [2, 3]), ([4, 2], [2, 4]), ([5, 2], [2, 5]), ([2, 6], [2, 6]), ([7, 2], [7]), ([8], [8]), ([9, 8], [8, 9]), ([10, 8], [8, 10]), ([11, 8], [8, 11]), ([8], [8]), ([8], [8]), ([13, 14, 8], [8, 13, 14]), ([15, 8], [8, 15]), ([12, 16, 8], [8, 12, 16]), ([8, 17], [8, 17]), ([18, 8], [18]), ([19], [19]), ([20, 19], [19, 20]), ([21, 19], [19, 21]), ([19, 22], [19, 22])])
def laws_FnSumsOf.B27 : List Nat := [0, 1, 3, 7, 15, 31, 63, 127, 255, 511, 1023, 2047, 4095, 511, 511, 25087, 57855, 131071, 262143, 524287, 1048575, 2097151, 4194303, 8388607]
theorem laws_FnSumsOf.tab27 : rtab .any (opsOf Try.f8 27) = laws_FnSumsOf.T27 := by kernel_rfl
theorem laws_FnSumsOf.bits27 : waitsOk laws_FnSumsOf.T27.2 laws_FnSumsOf.B27 = true := by kernel_rfl
abbrev z_bN := @pw_below_drewN
abbrev z_bA := @below_alloc
abbrev z_bD := @below_drew1
abbrev z_bS := @below_set
abbrev z_kN := @blk_drewN
abbrev z_kD := @blk_drew
abbrev z_kA := @blk_alloc
abbrev z_rA := @Kd.R_alloc
abbrev z_rN := @Kd.R_drewN
abbrev z_rD := @Kd.R_drew
abbrev z_kB := @blk_below
abbrev z_aM := @Aside0.mk
abbrev z_kC := @blk_cell
abbrev z_kL := @blk_lt
abbrev z_rB := @Kd.R_below
abbrev z_bT := @below_step
abbrev z_bZ := @below_size
abbrev z_rM := @Kd.R_mono
abbrev z_rE := @Kd.R_ne
abbrev z_rL := @Kd.R_lt
abbrev z_lA := @List.setIfInBounds_toArray
abbrev z_lZ := @List.set_cons_zero
abbrev z_lS := @List.set_cons_succ
set_option maxHeartbeats 8000000 in
set_option maxRecDepth 100000 in
theorem laws_FnSumsOf.calls (k : Nat) (A0 : Option Addr) (c0 : Nat) (l0 : List Int) (r : Bool) (hrt : Aside0 (r = true)) (w : World) (hr0 : Kd.C (Kd.int .u8) w A0 l0.length l0) (hc0 : l0.length ≤ c0) (h : laws_FnSumsOf.f k l0 = some r) :
    Calls Try.prog 8 #[.slice A0 l0.length c0] w fun e w' => e = .returned (.bool r) ∧ Below w.heap.size w w' := by
 have hu64 := Try.underlying64
 have hu52 := Try.underlying52
 have hu32 := Try.underlying32
 have hu29 := Try.underlying29
 have hu60 := Try.underlying60
 have HR0 := z_aM hr0
 have HC0 := z_aM hc0
 clear hr0 hc0
 have HB := z_aM (Below.refl w.heap.size w)
 have H : ((laws_big.f l0).bind fun t215 => (if t215 = true then (some true) else ((spec_DrawPlaces.f k l0).bind fun t216 => (if 0 < (t216.length : Int) then (if 1 < (t216.length : Int) then (laws_FnSumsOf.l0 k (Int.tmod (rd t216 0) 256) (Int.tmod (rd t216 1) 256) (([4, 5, 6, 7, 8] : List Int)) 0) else (none)) else (none))))) = some r := h
 clear h
 replace H := Option.bind_eq_some_iff.mp H
 obtain ⟨t215, A20, H⟩ := H
 replace H : (if t215 = true then (some true) else ((spec_DrawPlaces.f k l0).bind fun t216 => (if 0 < (t216.length : Int) then (if 1 < (t216.length : Int) then (laws_FnSumsOf.l0 k (Int.tmod (rd t216 0) 256) (Int.tmod (rd t216 1) 256) (([4, 5, 6, 7, 8] : List Int)) 0) else (none)) else (none)))) = some r := H
 have A2 := z_aM A20
 clear A20
 by_cases c3 : t215 = true
 ·subst c3
  have H1 : (some true) = some r := by rw [if_pos rfl] at H; exact H
  clear H
  have H := H1
  clear H1
  obtain rfl := Option.some.inj H
  go_enter Try.func8, Try.ntmps8
  go_wp2_with (first | ((with_reducible refine gate_callee (f := 13) rfl ?_); refine goesL_ (some 17) rfl rfl Try.func13 (by kernel_rfl) rfl #[.slice A0 l0.length c0] rfl (by (try simp only [List.map_toArray, List.map_cons, List.map_nil]); first | done | rfl | (simp only [List.length_drop, List.length_take]; rfl)) ?_; (with_reducible refine (laws_big.calls _ _ l0 true _ ?side1 ?side2 A2.out).mono ?_); (case side1 => repeat (first | exact HR0.out | (with_reducible refine Kd.C_alloc ?_ _) | (with_reducible refine Kd.C_drewN ?_ _) | (with_reducible refine Kd.C_drew ?_))); (case side2 => exact HC0.out); rintro e w' ⟨rfl, ⟨nd, rfl⟩⟩; refine ⟨_, rfl, ?_⟩))
  go_ret
  exact ⟨by first | rfl | (simp [errW_none, errW_some] <;> rfl) | (simp [*, errW_none, errW_some] <;> rfl), by repeat (first | (with_reducible first | exact HB.out | apply z_bA | apply z_bN | apply z_bD) | exact HB.out)⟩
 ·replace c3 := Bool.eq_false_iff.mpr c3
  subst c3
  have H1 : ((spec_DrawPlaces.f k l0).bind fun t216 => (if 0 < (t216.length : Int) then (if 1 < (t216.length : Int) then (laws_FnSumsOf.l0 k (Int.tmod (rd t216 0) 256) (Int.tmod (rd t216 1) 256) (([4, 5, 6, 7, 8] : List Int)) 0) else (none)) else (none))) = some r := by rw [if_neg (show ¬ (false = true) by decide)] at H; exact H
  clear H
  have H := H1
  clear H1
  replace H := Option.bind_eq_some_iff.mp H
  obtain ⟨t216, A40, H⟩ := H
  replace H : (if 0 < (t216.length : Int) then (if 1 < (t216.length : Int) then (laws_FnSumsOf.l0 k (Int.tmod (rd t216 0) 256) (Int.tmod (rd t216 1) 256) (([4, 5, 6, 7, 8] : List Int)) 0) else (none)) else (none)) = some r := H
  have A4 := z_aM A40
  clear A40
  by_cases c5 : 0 < (t216.length : Int)
  ·rw [if_pos c5] at H
   have c5b0 : decide (0 < (t216.length : Int)) = true := decide_eq_true c5
   have c5b1 : decide (0 < t216.length) = true := decide_eq_true (by omega)
   clear c5
   by_cases c6 : 1 < (t216.length : Int)
   ·rw [if_pos c6] at H
    have c6b0 : decide (1 < (t216.length : Int)) = true := decide_eq_true c6
    have c6b1 : decide (1 < t216.length) = true := decide_eq_true (by omega)
    clear c6
    obtain ⟨y221, hy221⟩ : ∃ y_ : List Int, y_ = (([4, 5, 6, 7, 8] : List Int)) := ⟨_, rfl⟩
    replace H : (laws_FnSumsOf.l0 k (Int.tmod (rd t216 0) 256) (Int.tmod (rd t216 1) 256) y221 0) = some r := by first | (rw [hy221]; with_reducible exact H) | (have H2_ := (Option.bind_some _ _).symm.trans H; rw [hy221]; with_reducible exact H2_) | (have H2_ := (Option.bind_some _ _).symm.trans H; with_reducible exact H2_) | with_reducible exact H | (rw [hy221]; exact H) | exact H
    have Ny221 := z_aM hy221
    clear hy221
    have H' := z_aM H
    clear H
    go_enter Try.func8, Try.ntmps8
    go_wp2_with (first | ((with_reducible refine gate_callee (f := 13) rfl ?_); refine goesL_ (some 17) rfl rfl Try.func13 (by kernel_rfl) rfl #[.slice A0 l0.length c0] rfl (by (try simp only [List.map_toArray, List.map_cons, List.map_nil]); first | done | rfl | (simp only [List.length_drop, List.length_take]; rfl)) ?_; (with_reducible refine (laws_big.calls _ _ l0 false _ ?side1 ?side2 A2.out).mono ?_); (case side1 => repeat (first | exact HR0.out | (with_reducible refine Kd.C_alloc ?_ _) | (with_reducible refine Kd.C_drewN ?_ _) | (with_reducible refine Kd.C_drew ?_))); (case side2 => exact HC0.out); rintro e w' ⟨rfl, ⟨nd, rfl⟩⟩; refine ⟨_, rfl, ?_⟩) | ((with_reducible refine gate_callee (f := 15) rfl ?_); refine goesL_ (some 19) rfl rfl Try.func15 (by kernel_rfl) rfl #[.slice A0 l0.length c0] rfl (by (try simp only [List.map_toArray, List.map_cons, List.map_nil]); first | done | rfl | (simp only [List.length_drop, List.length_take]; rfl)) ?_; (with_reducible refine (spec_DrawPlaces.calls k _ _ l0 t216 _ ?side1 ?side2 A4.out).mono ?_); (case side1 => repeat (first | exact HR0.out | (with_reducible refine Kd.C_alloc ?_ _) | (with_reducible refine Kd.C_drewN ?_ _) | (with_reducible refine Kd.C_drew ?_))); (case side2 => exact HC0.out); rintro e w7 ⟨v217, rfl, ho0, hb⟩; refine ⟨_, rfl, ?_⟩; replace HO218 := z_aM (Kd.R_lower ho0 (z_bZ (by repeat (first | (with_reducible first | exact HB.out | apply z_bA | apply z_bN | apply z_bD) | exact HB.out)))); replace HB := z_aM (z_bT (by repeat (first | (with_reducible first | exact HB.out | apply z_bA | apply z_bN | apply z_bD) | exact HB.out)) hb); (try clear hb); (try clear hb2); (try clear hk); (try clear hi); (try clear ho0); obtain ⟨Ao8, co8, eo8⟩ := Kd.R_slice HO218.out; subst eo8; have p219 : 0 ≤ (0 : Int) := (by omega); have q219 : 0 < (t216.length : Int) := of_decide_eq_true (by first | (with_reducible assumption) | assumption); obtain ⟨ad219, e219, hx219_0⟩ := Kd.at_int (Kd.R_reads' HO218.out).2.2 0 p219 q219; cases e219; have qi219 : (0 < t216.length) = True := eq_true (by omega); (try rw [show ((0 : Int)).toNat = 0 from rfl] at hx219_0); (try rw [Addr.add_zero'] at hx219_0); replace p219 := eq_true p219; replace q219 := eq_true q219; have p220 : 0 ≤ (1 : Int) := (by omega); have q220 : 1 < (t216.length : Int) := of_decide_eq_true (by first | (with_reducible assumption) | assumption); obtain ⟨ad220, e220, hx220_0⟩ := Kd.at_int (Kd.R_reads' HO218.out).2.2 1 p220 q220; obtain rfl : ad219 = ad220 := (by injection e220); (try simp only [show (1 : Int).toNat = 1 from rfl, Nat.reduceMul, Nat.reduceEqDiff, Go.Addr.add, ↓reduceIte] at hx220_0); have qi220 : (1 < t216.length) = True := eq_true (by omega); (try rw [show ((1 : Int)).toNat = 1 from rfl] at hx220_0); replace p220 := eq_true p220; replace q220 := eq_true q220) | ((with_reducible refine gate_dst (N := 28) rfl ?_); (try (refine gate_guard (by rfl) ?_; dsimp only)); refine Kd.R_lit (Kd.int .i64) _ 3 ?hg (N := 28) ?hd (xs := ([4, 5, 6, 7, 8] : List Int)) (inner := [.int .i64 4, .int .i64 5, .int .i64 6, .int .i64 7, .int .i64 8]) (ok := fun _ => True) (okp := fun _ => True) ?hr ?hp (fun _ hk => hk) trivial (Below.refl _ _) (Nat.le_refl _) (by simp) ?_; (case hd => rfl); (case hg => rfl); (case hr => first | (go_simp; done) | (go_simp; rfl)); (case hp => exact (Reps.one (show Kd.M (Kd.int .i64) _ _ _ 4 [.int .i64 4] from rfl) (Reps.one (show Kd.M (Kd.int .i64) _ _ _ 5 [.int .i64 5] from rfl) (Reps.one (show Kd.M (Kd.int .i64) _ _ _ 6 [.int .i64 6] from rfl) (Reps.one (show Kd.M (Kd.int .i64) _ _ _ 7 [.int .i64 7] from rfl) (Reps.one (show Kd.M (Kd.int .i64) _ _ _ 8 [.int .i64 8] from rfl) (Reps.none _ _))))))); intro v222 w9 ho10 hb hg_ hnew_; clear hg_ hnew_; (first | rw [← Ny221.out] at ho10 | (simp only [Int.reduceToNat] at ho10; rw [← Ny221.out] at ho10)); replace HO223 := z_aM (Kd.R_lower (Kd.R_new' ho10 (z_rL (by (with_reducible repeat (first | apply z_rA | apply z_rN | apply z_rD)); exact HO218.out))) (z_bZ (by repeat (first | (with_reducible first | exact HB.out | apply z_bA | apply z_bN | apply z_bD) | exact HB.out)))); replace HO218 := z_aM (Kd.R_elder' (by (with_reducible repeat (first | apply z_rA | apply z_rN | apply z_rD)); exact HO218.out) (Kd.R_base ho10) hb); replace HB := z_aM (z_bT (by repeat (first | (with_reducible first | exact HB.out | apply z_bA | apply z_bN | apply z_bD) | exact HB.out)) hb); clear hb ho10))
    go_loopg [7] k (fun kq v7 w' => ∃ (x6_1 : List Int) (x7_1 : Int), v7 = .int .i64 x7_1 ∧ Aside0 (laws_FnSumsOf.l0 kq (Int.tmod (rd t216 0) 256) (Int.tmod (rd t216 1) 256) x6_1 x7_1 = some r) ∧ Aside0 (kq ≤ k) ∧ Aside0 (Kd.R (Kd.int .i64) 3 w' w.heap.size (fun _ => True) v222 x6_1) ∧ Aside0 (Below w.heap.size w w'))
    case atStart => exact ⟨(y221), (0), (by first | rfl | (simp; done) | (simp [*]; done)), H', ⟨Nat.le_refl _⟩, ⟨by (with_reducible repeat (first | apply z_rA | apply z_rN | apply z_rD)); exact z_rM HO223.out (fun _ hk => trivial)⟩, ⟨by repeat (first | (with_reducible first | exact HB.out | apply z_bA | apply z_bN | apply z_bD) | exact HB.out)⟩⟩
    case round =>
     clear H'
     try clear c1
     try clear p2
     try clear q2
     try clear hx2
     try clear qi2
     try clear c3
     try clear c5
     try clear c5b0
     try clear c5b1
     try clear c6
     try clear c6b0
     try clear c6b1
     try clear c8
     try clear hx219_0
     try clear hx220_0
     try clear p219
     try clear p220
     try clear q219
     try clear q220
     obtain ⟨x6_1, x7_1, rfl, HA, HK1, HO_6, HB⟩ := hrel
     cases gk with
     | zero => exact absurd HA.out (by simp [laws_FnSumsOf.l0])
     | succ k1 =>
      have H := HA.out
      clear HA
      simp only [laws_FnSumsOf.l0] at H
      by_cases c11 : x7_1 < (x6_1.length : Int)
      ·rw [if_pos c11] at H
       have c11b0 : decide (x7_1 < (x6_1.length : Int)) = true := decide_eq_true c11
       clear c11
       by_cases c12 : 0 ≤ x7_1
       ·rw [if_pos c12] at H
        have c12b0 : decide (0 ≤ x7_1) = true := decide_eq_true c12
        clear c12
        obtain ⟨y225, hy225⟩ : ∃ y_ : List (S64), y_ = (([(⟨1, (Int.tmod (rd t216 0) 256)⟩ : S64), (⟨1, (Int.tmod (rd t216 1) 256)⟩ : S64), (⟨rd x6_1 x7_1, 0⟩ : S64)] : List (S64))) := ⟨_, rfl⟩
        replace H : (laws_FnSumsOf.l1 k1 (Int.tmod (rd t216 0) 256) (Int.tmod (rd t216 1) 256) x6_1 x7_1 y225 0 0 0 ([] : List Int)) = some r := by first | (rw [hy225]; with_reducible exact H) | (have H2_ := (Option.bind_some _ _).symm.trans H; rw [hy225]; with_reducible exact H2_) | (have H2_ := (Option.bind_some _ _).symm.trans H; with_reducible exact H2_) | with_reducible exact H | (rw [hy225]; exact H) | exact H
        have Ny225 := z_aM hy225
        clear hy225
        have H' := z_aM H
        clear H
        obtain ⟨Ao13, co13, eo13⟩ := Kd.R_slice HO_6.out
        subst eo13
        have p224 : 0 ≤ (x7_1 : Int) := of_decide_eq_true (by first | (with_reducible assumption) | assumption)
        have q224 : x7_1 < (x6_1.length : Int) := of_decide_eq_true (by first | (with_reducible assumption) | assumption)
        obtain ⟨ad224, e224, hx224_0⟩ := Kd.at_int (Kd.R_reads' HO_6.out).2.2 x7_1 p224 q224
        cases e224
        replace p224 := eq_true p224
        replace q224 := eq_true q224
        go_wp2_with (first | ((with_reducible refine gate_dst (N := 44) rfl ?_); (try (refine gate_guard (by rfl) ?_; dsimp only)); refine Kd.R_lit k64 _ 64 ?hg (N := 44) ?hd (xs := ([(⟨1, (Int.tmod (rd t216 0) 256)⟩ : S64), (⟨1, (Int.tmod (rd t216 1) 256)⟩ : S64), (⟨rd x6_1 x7_1, 0⟩ : S64)] : List (S64))) (inner := [.int .i64 1, .int .i64 (Int.tmod (rd t216 0) 256), .int .i64 1, .int .i64 (Int.tmod (rd t216 1) 256), .int .i64 (rd x6_1 x7_1), .int .i64 0]) (ok := fun _ => True) (okp := fun _ => True) ?hr ?hp (fun _ hk => hk) trivial (Below.refl _ _) (Nat.le_refl _) (by simp) ?_; (case hd => rfl); (case hg => rfl); (case hr => first | (go_simp; done) | (go_simp; rfl)); (case hp => exact (Reps.c2 (show Kd.M k64 _ _ _ (⟨1, (Int.tmod (rd t216 0) 256)⟩ : S64) [.int .i64 1, .int .i64 (Int.tmod (rd t216 0) 256)] from (k64_mkM _ _ _ (⟨1, (Int.tmod (rd t216 0) 256)⟩ : S64) )) (Reps.c2 (show Kd.M k64 _ _ _ (⟨1, (Int.tmod (rd t216 1) 256)⟩ : S64) [.int .i64 1, .int .i64 (Int.tmod (rd t216 1) 256)] from (k64_mkM _ _ _ (⟨1, (Int.tmod (rd t216 1) 256)⟩ : S64) )) (Reps.c2 (show Kd.M k64 _ _ _ (⟨rd x6_1 x7_1, 0⟩ : S64) [.int .i64 (rd x6_1 x7_1), .int .i64 0] from (k64_mkM _ _ _ (⟨rd x6_1 x7_1, 0⟩ : S64) )) (Reps.none _ _))))); intro v226 w14 ho15 hb hg_ hnew_; clear hg_ hnew_; (first | rw [← Ny225.out] at ho15 | (simp only [Int.reduceToNat] at ho15; rw [← Ny225.out] at ho15)); replace HO_6 := z_aM (z_rB (by (with_reducible repeat (first | apply z_rA | apply z_rN | apply z_rD)); exact HO_6.out) hb); replace HO227 := z_aM (Kd.R_lower ho15 (z_bZ (by repeat (first | (with_reducible first | exact HB.out | apply z_bA | apply z_bN | apply z_bD) | exact HB.out)))); replace HB := z_aM (z_bT (by repeat (first | (with_reducible first | exact HB.out | apply z_bA | apply z_bN | apply z_bD) | exact HB.out)) hb); clear hb ho15) | ((with_reducible refine gate_dst (N := 9) rfl ?_); (try (refine gate_guard (by rfl) ?_; dsimp only)); refine box_event ?hg (N := 9) ?hd (cs := #[.int .i64 0, .slice none 0 0]) (t := 52) ?hr ?_; (case hd => rfl); (case hg => rfl); (case hr => first | (go_simp; done) | (go_simp; rfl)); intro gb228 hg w16 hbox hb; replace HO_6 := z_aM (z_rB (by (with_reducible repeat (first | apply z_rA | apply z_rN | apply z_rD)); exact HO_6.out) hb); replace HO227 := z_aM (z_rB (by (with_reducible repeat (first | apply z_rA | apply z_rN | apply z_rD)); exact HO227.out) hb); replace BK228 := z_aM (hbox); replace GW228 := z_aM ((by rw [hg]; exact (z_bZ (by repeat (first | (with_reducible first | exact HB.out | apply z_bA | apply z_bN | apply z_bD) | exact HB.out))) : w.heap.size ≤ gb228)); replace GE228 := z_aM ((by rw [hg]; exact (z_bZ (by repeat (first | (with_reducible first | exact HB.out | apply z_bA | apply z_bN | apply z_bD) | exact HB.out))) : w.heap.size ≤ gb228)); replace HB := z_aM (z_bT (by repeat (first | (with_reducible first | exact HB.out | apply z_bA | apply z_bN | apply z_bD) | exact HB.out)) hb); clear hb hbox hg; have hcz17_0 : w16.cell? ⟨gb228, 0, none⟩ = some (.int .i64 0) := (z_kC BK228.out 0).trans rfl; have hcz17_1 : w16.cell? ⟨gb228, 1, none⟩ = some (.slice none 0 0) := (z_kC BK228.out 1).trans rfl; have hfz17_0 := blk_frozen BK228.out 0; have hfz17_1 := blk_frozen BK228.out 1))
        go_loopg [10, 11] k1 (fun kq v10 v11 w' => ∃ (x10_2 : Int) (x11_2 : Int) (x229000_2 : Int) (x229001_2 : List Int) (u229001 : Value), v10 = .int .i64 x10_2 ∧ v11 = .int .i64 x11_2 ∧ Aside0 (laws_FnSumsOf.l1 kq (Int.tmod (rd t216 0) 256) (Int.tmod (rd t216 1) 256) x6_1 x7_1 y225 x10_2 x11_2 x229000_2 x229001_2 = some r) ∧ Aside0 (kq ≤ k1) ∧ Aside0 (Kd.R (Kd.int .i64) 3 w' w.heap.size (fun k_ => some k_ ≠ (u229001 : Value).ownBlock) (.slice (some ad224) x6_1.length co13) x6_1) ∧ Aside0 (Kd.R k64 64 w' w.heap.size (fun _ => True) v226 y225) ∧ Aside0 (Kd.R (Kd.int .i64) 3 w' w.heap.size (fun k_ => some k_ ≠ ((.slice (some ad224) x6_1.length co13) : Value).ownBlock) u229001 x229001_2) ∧ Aside0 (w'.heap[gb228]? = some (.cells #[.int .i64 x229000_2, u229001] 52 (0, 0))) ∧ Aside0 (Below w.heap.size w w'))
        case atStart => exact ⟨(0), (0), (0), (([] : List Int)), (.slice none 0 0), (by first | rfl | (simp; done) | (simp [*]; done)), (by first | rfl | (simp; done) | (simp [*]; done)), H', ⟨Nat.le_refl _⟩, ⟨by (with_reducible repeat (first | apply z_rA | apply z_rN | apply z_rD)); exact z_rM (Kd.R_far (p := ⟨gb228, 1, none⟩) (Kd.R_far (p := ⟨gb228, 0, none⟩) (Kd.R_types HO_6.out BK228.out (by decide)) (fun _ hk => hk.2) (.int .i64 0)) (fun _ hk => hk.2) (.slice none 0 0)) (fun _ hk => (by simp [Value.ownBlock]))⟩, ⟨by (with_reducible repeat (first | apply z_rA | apply z_rN | apply z_rD)); exact z_rM (Kd.R_far (p := ⟨gb228, 1, none⟩) (Kd.R_far (p := ⟨gb228, 0, none⟩) (Kd.R_types HO227.out BK228.out (by decide)) (fun _ hk => hk.2) (.int .i64 0)) (fun _ hk => hk.2) (.slice none 0 0)) (fun _ hk => trivial)⟩, ⟨by first | exact Kd.R_nil _ _ _ _ _ | exact Kd.N_nil _ _ _ _ _ | exact Kd.V_nil _ _ _ _ _ | exact Kd.Q_nil _ _ _ _ _ | exact Kd.S_nil _ _ _ _ _⟩, ⟨by (with_reducible repeat (first | apply z_kN | apply z_kD | apply z_kA)); refine blk_put (cs := #[.int .i64 0, .slice none 0 0]) ?_ 1 _ rfl; (with_reducible repeat (first | apply z_kN | apply z_kD | apply z_kA)); refine blk_put (cs := #[.int .i64 0, .slice none 0 0]) ?_ 0 _ rfl; (with_reducible repeat (first | apply z_kN | apply z_kD | apply z_kA)); exact BK228.out⟩, ⟨by repeat (first | (with_reducible first | exact HB.out | apply z_bA | apply z_bN | apply z_bD | refine z_bS ?_ GE228.out) | exact HB.out)⟩⟩
        case round =>
         clear H'
         try clear c1
         try clear c2
         try clear p2
         try clear q2
         try clear hx2
         try clear qi2
         try clear c3
         try clear c5
         try clear c5b0
         try clear c5b1
         try clear c6
         try clear c6b0
         try clear c6b1
         try clear c8
         try clear c11
         try clear c11b0
         try clear c12
         try clear c12b0
         try clear c13
         try clear c15
         try clear hcz17_0
         try clear hcz17_1
         try clear hfz17_0
         try clear hfz17_1
         try clear hx219_0
         try clear hx220_0
         try clear hx224_0
         try clear p2
         try clear p219
         try clear p220
         try clear p224
         try clear q2
         try clear q219
         try clear q220
         try clear q224
         obtain ⟨x10_2, x11_2, x229000_2, x229001_2, u229001, rfl, rfl, HA, HK2, HO_6, HO_8, HO_229001, BK228, HB⟩ := hrel
         cases gk with
         | zero => exact absurd HA.out (by simp [laws_FnSumsOf.l1])
         | succ k2 =>
          have H := HA.out
          clear HA
          simp only [laws_FnSumsOf.l1] at H
          by_cases c18 : x11_2 < 3
          ·rw [if_pos c18] at H
           have c18b0 : decide (x11_2 < 3) = true := decide_eq_true c18
           clear c18
           replace H := Option.bind_eq_some_iff.mp H
           obtain ⟨t229, A190, H⟩ := H
           replace H : ((impl_StepCpu.f k2 x229000_2 x229001_2 y225 t229 0 1 0).bind fun bt232 => (laws_FnSumsOf.l1 k2 (Int.tmod (rd t216 0) 256) (Int.tmod (rd t216 1) 256) x6_1 x7_1 y225 bt232.2.2.2.2.2.2 (wrap64 (x11_2 + 1)) bt232.1 bt232.2.1)) = some r := H
           have A19 := z_aM A190
           clear A190
           replace H := Option.bind_eq_some_iff.mp H
           obtain ⟨⟨t232, t233, t236, t239, t240, t241, t242⟩, A200, H⟩ := H
           replace H : (laws_FnSumsOf.l1 k2 (Int.tmod (rd t216 0) 256) (Int.tmod (rd t216 1) 256) x6_1 x7_1 y225 t242 (wrap64 (x11_2 + 1)) t232 t233) = some r := H
           have A20 := z_aM A200
           clear A200
           have H' := z_aM H
           clear H
           obtain ⟨Ao21, co21, eo21⟩ := Kd.R_slice HO_229001.out
           subst eo21
           obtain ⟨Ao22, co22, eo22⟩ := Kd.R_slice HO_8.out
           subst eo22
           try go_wp2
           replace HO_6 := z_aM (z_rD HO_6.out)
           replace HO_8 := z_aM (z_rD HO_8.out)
           replace HO_229001 := z_aM (z_rD HO_229001.out)
           replace BK228 := z_aM (z_kD BK228.out)
           replace HB := z_aM (z_bD HB.out)
           refine start_ (n := 15) (S := fun w' => True) (ds := []) #[false, false, false, false, false, false, false, false, false, false, false, false, false, false, false] (by kernel_rfl) rfl rfl trivial (fun hHeld => ?_); refine with_tabW laws_FnSumsOf.tab16 laws_FnSumsOf.bits16 (fun HT_ HW_ => ?_)
           generalize wr.drew = w23 at HO_6 HO_8 HO_229001 BK228 HB hHeld ⊢
           refine pure_ (i := 1) (N := some 52) (v := ?_) (a' := ?_) #[false, true, false, false, false, false, false, false, false, false, false, false, false, false, false] rfl rfl (any_of HT_.out (by kernel_rfl)) (fun _ _ _ h => h) (Or.inl ⟨by rfl, ?_⟩) ?_ ?_
           rotate_left
           ·intro w'
            go_simp
            with_reducible rfl
           rotate_left
           ·simp only [Act.put, z_lA, z_lZ, z_lS, i64_w, i32_w]
            rfl
           refine inv_at [0, 2, 3, 4, 5, 6, 7, 8, 9, 10, 11, 12, 13, 14] (fun a0_ b a w' => ∃ (v230 : Value) (v234 : Value) (v237 : Value) (gb243 : Nat) (gb244 : Nat) (gb245 : Nat) (m2_ : Value) (m4_ : Value) (m5_ : Value) (m6_ : Value) (m7_ : Value) (m9_ : Value) (m10_ : Value) (m11_ : Value), a = putSel a0_ b [(0, 51, .agg #[.int .i64 x229000_2, .slice Ao21 x229001_2.length co21]), (2, 53, m2_), (3, 54, .agg #[.int .i64 0, .int .i64 1]), (4, 55, m4_), (5, 50, m5_), (6, 56, m6_), (7, 57, m7_), (8, 58, .agg #[.int .i64 t239, .int .i64 t240, .int .i64 t241, .int .i64 t242]), (9, 12, m9_), (10, 13, m10_), (11, 14, m11_)] ∧ (Kd.R (Kd.int .i64) 3 w' w.heap.size (fun k_ => some k_ ≠ (.slice (some ad224) x6_1.length co13 : Value).ownBlock) (.slice Ao21 x229001_2.length co21) x229001_2) ∧ (Kd.R (Kd.int .i64) 3 w' w.heap.size (fun k_ => some k_ ≠ (.slice Ao21 x229001_2.length co21 : Value).ownBlock) (.slice (some ad224) x6_1.length co13) x6_1) ∧ (Kd.R k64 64 w' w.heap.size (fun _ => True) (.slice Ao22 y225.length co22) y225) ∧ (w'.heap[gb228]? = some (.cells #[.int .i64 x229000_2, .slice Ao21 x229001_2.length co21] 52 (0, 0))) ∧ (Below w.heap.size w w') ∧ (b 9 = true → b 10 = true → gb244 ≠ gb243) ∧ (b 9 = true → b 10 = true → gb243 ≠ gb244) ∧ (b 9 = true → b 11 = true → gb245 ≠ gb243) ∧ (b 9 = true → b 11 = true → gb243 ≠ gb245) ∧ (b 10 = true → b 11 = true → gb245 ≠ gb244) ∧ (b 10 = true → b 11 = true → gb244 ≠ gb245) ∧ (b 2 = true → Kd.R (Kd.int .i64) 3 w' w.heap.size (fun k_ => some k_ ≠ (.slice Ao21 x229001_2.length co21 : Value).ownBlock ∧ some k_ ≠ (.slice (some ad224) x6_1.length co13 : Value).ownBlock) v230 t229) ∧ (b 4 = true → Kd.R (Kd.int .i64) 3 w' w.heap.size (fun k_ => some k_ ≠ (.slice Ao21 x229001_2.length co21 : Value).ownBlock ∧ some k_ ≠ (.slice (some ad224) x6_1.length co13 : Value).ownBlock) v234 t233) ∧ (b 4 = true → Kd.R (Kd.int .i64) 3 w' w.heap.size (fun k_ => some k_ ≠ (.slice Ao21 x229001_2.length co21 : Value).ownBlock ∧ some k_ ≠ (.slice (some ad224) x6_1.length co13 : Value).ownBlock) v237 t236) ∧ (b 9 = true → b 12 = false → w'.heap[gb243]? = some (.cells #[.int .i64 0, .slice none 0 0] 52 (0, 0))) ∧ (b 9 = true → w.heap.size ≤ gb243) ∧ (b 9 = true → w.heap.size ≤ gb243) ∧ (b 9 = true → gb228 ≠ gb243) ∧ (b 9 = true → gb243 ≠ gb228) ∧ (b 10 = true → b 13 = false → w'.heap[gb244]? = some (.cells #[.slice none 0 0] 29 (0, 0))) ∧ (b 10 = true → w.heap.size ≤ gb244) ∧ (b 10 = true → w.heap.size ≤ gb244) ∧ (b 10 = true → gb228 ≠ gb244) ∧ (b 10 = true → gb244 ≠ gb228) ∧ (b 11 = true → b 14 = false → w'.heap[gb245]? = some (.cells #[.int .i64 0, .int .i64 0, .int .i64 0, .int .i64 0] 60 (0, 0))) ∧ (b 11 = true → w.heap.size ≤ gb245) ∧ (b 11 = true → w.heap.size ≤ gb245) ∧ (b 11 = true → gb228 ≠ gb245) ∧ (b 11 = true → gb245 ≠ gb228) ∧ (b 12 = true → w'.heap[gb243]? = some (.cells #[.int .i64 t232, v234] 52 (0, 0))) ∧ (b 13 = true → w'.heap[gb244]? = some (.cells #[v237] 29 (0, 0))) ∧ (b 14 = true → w'.heap[gb245]? = some (.cells #[.int .i64 t239, .int .i64 t240, .int .i64 t241, .int .i64 t242] 60 (0, 0))) ∧ (b 2 = true → (m2_ : Value) = .agg #[v230]) ∧ (b 4 = true → (m4_ : Value) = .tuple #[.agg #[.int .i64 t232, v234], .agg #[v237], .agg #[.int .i64 t239, .int .i64 t240, .int .i64 t241, .int .i64 t242]]) ∧ (b 5 = true → (m5_ : Value) = .tuple #[.agg #[.int .i64 t232, v234], .agg #[v237], .agg #[.int .i64 t239, .int .i64 t240, .int .i64 t241, .int .i64 t242]]) ∧ (b 6 = true → (m6_ : Value) = .agg #[.int .i64 t232, v234]) ∧ (b 7 = true → (m7_ : Value) = .agg #[v237]) ∧ (b 9 = true → (m9_ : Value) = .pointer (some ⟨gb243, 0, none⟩)) ∧ (b 10 = true → (m10_ : Value) = .pointer (some ⟨gb244, 0, none⟩)) ∧ (b 11 = true → (m11_ : Value) = .pointer (some ⟨gb245, 0, none⟩))) HT_.out HW_.out (by kernel_rfl) (by kernel_rfl) ?_ ?_ ?_
           ·exact ⟨.bool false, .bool false, .bool false, 0, 0, 0, .bool false, .bool false, .bool false, .bool false, .bool false, .bool false, .bool false, .bool false, by simp only [putSel, Bool.false_eq_true, if_false], HO_229001.out, HO_6.out, HO_8.out, BK228.out, HB.out, fun h_ => absurd h_ (by decide), fun h_ => absurd h_ (by decide), fun h_ => absurd h_ (by decide), fun h_ => absurd h_ (by decide), fun h_ => absurd h_ (by decide), fun h_ => absurd h_ (by decide), fun h_ => absurd h_ (by decide), fun h_ => absurd h_ (by decide), fun h_ => absurd h_ (by decide), fun h_ => absurd h_ (by decide), fun h_ => absurd h_ (by decide), fun h_ => absurd h_ (by decide), fun h_ => absurd h_ (by decide), fun h_ => absurd h_ (by decide), fun h_ => absurd h_ (by decide), fun h_ => absurd h_ (by decide), fun h_ => absurd h_ (by decide), fun h_ => absurd h_ (by decide), fun h_ => absurd h_ (by decide), fun h_ => absurd h_ (by decide), fun h_ => absurd h_ (by decide), fun h_ => absurd h_ (by decide), fun h_ => absurd h_ (by decide), fun h_ => absurd h_ (by decide), fun h_ => absurd h_ (by decide), fun h_ => absurd h_ (by decide), fun h_ => absurd h_ (by decide), fun h_ => absurd h_ (by decide), fun h_ => absurd h_ (by decide), fun h_ => absurd h_ (by decide), fun h_ => absurd h_ (by decide), fun h_ => absurd h_ (by decide), fun h_ => absurd h_ (by decide), fun h_ => absurd h_ (by decide), fun h_ => absurd h_ (by decide)⟩
           ·skip
            clear BK228 HB HO_229001 HO_6 HO_8
            refine steps_cons ?_ ?_
            ·rintro b a w' ⟨v230, v234, v237, gb243, gb244, gb245, m2_, m4_, m5_, m6_, m7_, m9_, m10_, m11_, ha, Q_HO_229001, Q_HO_6, Q_HO_8, Q_BK228, Q_HB, Q_NB244_243, Q_NB243_244, Q_NB245_243, Q_NB243_245, Q_NB245_244, Q_NB244_245, Q_HO231, Q_HO235, Q_HO238, Q_BK243, Q_GW243, Q_GE243, Q_NB228_243, Q_NB243_228, Q_BK244, Q_GW244, Q_GE244, Q_NB228_244, Q_NB244_228, Q_BK245, Q_GW245, Q_GE245, Q_NB228_245, Q_NB245_228, Q_BK243_e12, Q_BK244_e13, Q_BK245_e14, Q_X2_, Q_X4_, Q_X5_, Q_X6_, Q_X7_, Q_X9_, Q_X10_, Q_X11_⟩ hb_ hon hoff
             refine ⟨_, rfl, fun K hK => ?_⟩
             have e9 : a.tmps[9]? = some (.pointer (some ⟨gb228, 0, none⟩)) := by rw [ha]; exact (putSel_off rfl).trans rfl
             replace ha := z_aM ha
             have HO_229001 := z_aM Q_HO_229001
             have HO_6 := z_aM Q_HO_6
             have HO_8 := z_aM Q_HO_8
             have BK228 := z_aM Q_BK228
             have HB := z_aM Q_HB
             have hc0_ : w'.cell? ⟨gb228, 0, none⟩ = some (.int .i64 x229000_2) := (z_kC BK228.out 0).trans rfl
             have hc1_ : w'.cell? ⟨gb228, 1, none⟩ = some (.slice Ao21 x229001_2.length co21) := (z_kC BK228.out 1).trans rfl
             refine value_ (w1 := w') (v := .agg #[.int .i64 x229000_2, .slice Ao21 x229001_2.length co21]) (by rfl) rfl ?_ ?_
             ·go_simp
              (try simp only [i64_w])
              try rfl
             refine hK.out _ _ ⟨v230, v234, v237, gb243, gb244, gb245, m2_, m4_, m5_, m6_, m7_, m9_, m10_, m11_, (by rw [ha.out]; exact putSel_upk 0 hb_ rfl rfl rfl), Q_HO_229001, Q_HO_6, Q_HO_8, Q_BK228, Q_HB, Q_NB244_243, Q_NB243_244, Q_NB245_243, Q_NB243_245, Q_NB245_244, Q_NB244_245, Q_HO231, fun h0_ => absurd ((hoff 4 (by kernel_rfl)).symm.trans h0_) (by decide), fun h0_ => absurd ((hoff 4 (by kernel_rfl)).symm.trans h0_) (by decide), Q_BK243, Q_GW243, Q_GE243, Q_NB228_243, Q_NB243_228, Q_BK244, Q_GW244, Q_GE244, Q_NB228_244, Q_NB244_228, Q_BK245, Q_GW245, Q_GE245, Q_NB228_245, Q_NB245_228, fun h0_ => absurd ((hoff 12 (by kernel_rfl)).symm.trans h0_) (by decide), fun h0_ => absurd ((hoff 13 (by kernel_rfl)).symm.trans h0_) (by decide), fun h0_ => absurd ((hoff 14 (by kernel_rfl)).symm.trans h0_) (by decide), Q_X2_, fun h0_ => absurd ((hoff 4 (by kernel_rfl)).symm.trans h0_) (by decide), fun h0_ => absurd ((hoff 5 (by kernel_rfl)).symm.trans h0_) (by decide), fun h0_ => absurd ((hoff 6 (by kernel_rfl)).symm.trans h0_) (by decide), fun h0_ => absurd ((hoff 7 (by kernel_rfl)).symm.trans h0_) (by decide), Q_X9_, Q_X10_, Q_X11_⟩
            refine steps_cons ?_ ?_
            ·rintro b a w' ⟨v230, v234, v237, gb243, gb244, gb245, m2_, m4_, m5_, m6_, m7_, m9_, m10_, m11_, ha, Q_HO_229001, Q_HO_6, Q_HO_8, Q_BK228, Q_HB, Q_NB244_243, Q_NB243_244, Q_NB245_243, Q_NB243_245, Q_NB245_244, Q_NB244_245, Q_HO231, Q_HO235, Q_HO238, Q_BK243, Q_GW243, Q_GE243, Q_NB228_243, Q_NB243_228, Q_BK244, Q_GW244, Q_GE244, Q_NB228_244, Q_NB244_228, Q_BK245, Q_GW245, Q_GE245, Q_NB228_245, Q_NB245_228, Q_BK243_e12, Q_BK244_e13, Q_BK245_e14, Q_X2_, Q_X4_, Q_X5_, Q_X6_, Q_X7_, Q_X9_, Q_X10_, Q_X11_⟩ hb_ hon hoff
             refine ⟨_, rfl, fun K hK => ?_⟩
             replace ha := z_aM ha
             have HO_229001 := z_aM Q_HO_229001
             have HO_6 := z_aM Q_HO_6
             have HO_8 := z_aM Q_HO_8
             have BK228 := z_aM Q_BK228
             have HB := z_aM Q_HB
             refine goes_ Try.func16 (by kernel_rfl) rfl #[] (by rfl) rfl rfl (by first | (simp only [List.map_toArray, List.map_cons, List.map_nil, Act.eval, Array.getD_eq_getD_getElem?, Option.getD_some]; done) | (simp only [List.map_toArray, List.map_cons, List.map_nil, Act.eval, Array.getD_eq_getD_getElem?, Option.getD_some]; rfl)) ?_
             with_reducible refine (impl_ArenaNew.calls  t229 _ A19.out).mono ?_
             rintro e w22 ⟨v230, rfl, ho0, hb⟩
             refine ⟨_, rfl, ?_⟩
             have n0_ := z_aM (Kd.R_elder' (by (with_reducible repeat (first | apply z_rA | apply z_rN | apply z_rD)); exact HO_6.out) (Kd.R_base ho0) hb)
             have n1_ := z_aM (z_rB (by (with_reducible repeat (first | apply z_rA | apply z_rN | apply z_rD)); exact HO_8.out) hb)
             have n2_ := z_aM (Kd.R_elder' (by (with_reducible repeat (first | apply z_rA | apply z_rN | apply z_rD)); exact HO_229001.out) (Kd.R_base ho0) hb)
             have n3_ := z_aM (Kd.R_lower (Kd.R_new' (Kd.R_new' ho0 (z_rL (by (with_reducible repeat (first | apply z_rA | apply z_rN | apply z_rD)); exact HO_6.out))) (z_rL (by (with_reducible repeat (first | apply z_rA | apply z_rN | apply z_rD)); exact HO_229001.out))) (z_bZ (by repeat (first | (with_reducible first | exact HB.out | apply z_bA | apply z_bN | apply z_bD | refine z_bS ?_ GE228.out) | exact HB.out))))
             have n4_ := z_aM (z_kB (by (with_reducible repeat (first | apply z_kN | apply z_kD | apply z_kA)); exact BK228.out) hb)
             have n5_ := z_aM (z_bT (by repeat (first | (with_reducible first | exact HB.out | apply z_bA | apply z_bN | apply z_bD | refine z_bS ?_ GE228.out) | exact HB.out)) hb)
             have z_BK243 := fun (h0_ : b 9 = true) (h1_ : b 12 = false) => (show w22.heap[gb243]? = some (.cells #[.int .i64 0, .slice none 0 0] 52 (0, 0)) from by first | exact (z_kB (by (with_reducible repeat (first | apply z_kN | apply z_kD | apply z_kA)); exact (Q_BK243 h0_ h1_)) hb))
             have z_BK244 := fun (h0_ : b 10 = true) (h1_ : b 13 = false) => (show w22.heap[gb244]? = some (.cells #[.slice none 0 0] 29 (0, 0)) from by first | exact (z_kB (by (with_reducible repeat (first | apply z_kN | apply z_kD | apply z_kA)); exact (Q_BK244 h0_ h1_)) hb))
             have z_BK245 := fun (h0_ : b 11 = true) (h1_ : b 14 = false) => (show w22.heap[gb245]? = some (.cells #[.int .i64 0, .int .i64 0, .int .i64 0, .int .i64 0] 60 (0, 0)) from by first | exact (z_kB (by (with_reducible repeat (first | apply z_kN | apply z_kD | apply z_kA)); exact (Q_BK245 h0_ h1_)) hb))
             clear HO_6
             clear HO_8
             clear HO_229001
             clear BK228
             clear HB
             have HO_6 := n0_
             have HO_8 := n1_
             have HO_229001 := n2_
             have HO231 := n3_
             have BK228 := n4_
             have HB := n5_
             clear n0_ n1_ n2_ n3_ n4_ n5_
             (try clear hb)
             (try clear hb2)
             (try clear hk)
             (try clear hi)
             (try clear ho0)
             refine hK.out _ _ ⟨v230, v234, v237, gb243, gb244, gb245, (.agg #[v230]), m4_, m5_, m6_, m7_, m9_, m10_, m11_, (by rw [ha.out]; exact putSel_upk 1 hb_ rfl rfl rfl), (by (with_reducible repeat (first | apply z_rA | apply z_rN | apply z_rD)); exact z_rM HO_229001.out (fun _ hk => hk.1)), (by (with_reducible repeat (first | apply z_rA | apply z_rN | apply z_rD)); exact z_rM HO_6.out (fun _ hk => hk.1)), (by (with_reducible repeat (first | apply z_rA | apply z_rN | apply z_rD)); exact HO_8.out), (by (with_reducible repeat (first | apply z_kN | apply z_kD | apply z_kA)); exact BK228.out), (by repeat (first | (with_reducible first | exact HB.out | apply z_bA | apply z_bN | apply z_bD | refine z_bS ?_ GE228.out) | exact HB.out)), Q_NB244_243, Q_NB243_244, Q_NB245_243, Q_NB243_245, Q_NB245_244, Q_NB244_245, fun _ => (by (with_reducible repeat (first | apply z_rA | apply z_rN | apply z_rD)); exact z_rM HO231.out (fun _ hk => ⟨hk.2, hk.1.2⟩)), fun h0_ => absurd ((hoff 4 (by kernel_rfl)).symm.trans h0_) (by decide), fun h0_ => absurd ((hoff 4 (by kernel_rfl)).symm.trans h0_) (by decide), z_BK243, Q_GW243, Q_GE243, Q_NB228_243, Q_NB243_228, z_BK244, Q_GW244, Q_GE244, Q_NB228_244, Q_NB244_228, z_BK245, Q_GW245, Q_GE245, Q_NB228_245, Q_NB245_228, fun h0_ => absurd ((hoff 12 (by kernel_rfl)).symm.trans h0_) (by decide), fun h0_ => absurd ((hoff 13 (by kernel_rfl)).symm.trans h0_) (by decide), fun h0_ => absurd ((hoff 14 (by kernel_rfl)).symm.trans h0_) (by decide), fun _ => rfl, fun h0_ => absurd ((hoff 4 (by kernel_rfl)).symm.trans h0_) (by decide), fun h0_ => absurd ((hoff 5 (by kernel_rfl)).symm.trans h0_) (by decide), fun h0_ => absurd ((hoff 6 (by kernel_rfl)).symm.trans h0_) (by decide), fun h0_ => absurd ((hoff 7 (by kernel_rfl)).symm.trans h0_) (by decide), Q_X9_, Q_X10_, Q_X11_⟩
            refine steps_cons ?_ ?_
            ·rintro b a w' ⟨v230, v234, v237, gb243, gb244, gb245, m2_, m4_, m5_, m6_, m7_, m9_, m10_, m11_, ha, Q_HO_229001, Q_HO_6, Q_HO_8, Q_BK228, Q_HB, Q_NB244_243, Q_NB243_244, Q_NB245_243, Q_NB243_245, Q_NB245_244, Q_NB244_245, Q_HO231, Q_HO235, Q_HO238, Q_BK243, Q_GW243, Q_GE243, Q_NB228_243, Q_NB243_228, Q_BK244, Q_GW244, Q_GE244, Q_NB228_244, Q_NB244_228, Q_BK245, Q_GW245, Q_GE245, Q_NB228_245, Q_NB245_228, Q_BK243_e12, Q_BK244_e13, Q_BK245_e14, Q_X2_, Q_X4_, Q_X5_, Q_X6_, Q_X7_, Q_X9_, Q_X10_, Q_X11_⟩ hb_ hon hoff
             refine ⟨_, rfl, fun K hK => ?_⟩
             replace ha := z_aM ha
             have HO_229001 := z_aM Q_HO_229001
             have HO_6 := z_aM Q_HO_6
             have HO_8 := z_aM Q_HO_8
             have BK228 := z_aM Q_BK228
             have HB := z_aM Q_HB
             refine value_ (w1 := w') (v := .agg #[.int .i64 0, .int .i64 1]) (by rfl) rfl ?_ ?_
             ·go_simp
              (try simp only [i64_w])
              try rfl
             refine hK.out _ _ ⟨v230, v234, v237, gb243, gb244, gb245, m2_, m4_, m5_, m6_, m7_, m9_, m10_, m11_, (by rw [ha.out]; exact putSel_upk 2 hb_ rfl rfl rfl), Q_HO_229001, Q_HO_6, Q_HO_8, Q_BK228, Q_HB, Q_NB244_243, Q_NB243_244, Q_NB245_243, Q_NB243_245, Q_NB245_244, Q_NB244_245, Q_HO231, fun h0_ => absurd ((hoff 4 (by kernel_rfl)).symm.trans h0_) (by decide), fun h0_ => absurd ((hoff 4 (by kernel_rfl)).symm.trans h0_) (by decide), Q_BK243, Q_GW243, Q_GE243, Q_NB228_243, Q_NB243_228, Q_BK244, Q_GW244, Q_GE244, Q_NB228_244, Q_NB244_228, Q_BK245, Q_GW245, Q_GE245, Q_NB228_245, Q_NB245_228, fun h0_ => absurd ((hoff 12 (by kernel_rfl)).symm.trans h0_) (by decide), fun h0_ => absurd ((hoff 13 (by kernel_rfl)).symm.trans h0_) (by decide), fun h0_ => absurd ((hoff 14 (by kernel_rfl)).symm.trans h0_) (by decide), Q_X2_, fun h0_ => absurd ((hoff 4 (by kernel_rfl)).symm.trans h0_) (by decide), fun h0_ => absurd ((hoff 5 (by kernel_rfl)).symm.trans h0_) (by decide), fun h0_ => absurd ((hoff 6 (by kernel_rfl)).symm.trans h0_) (by decide), fun h0_ => absurd ((hoff 7 (by kernel_rfl)).symm.trans h0_) (by decide), Q_X9_, Q_X10_, Q_X11_⟩
            refine steps_cons ?_ ?_
            ·rintro b a w' ⟨v230, v234, v237, gb243, gb244, gb245, m2_, m4_, m5_, m6_, m7_, m9_, m10_, m11_, ha, Q_HO_229001, Q_HO_6, Q_HO_8, Q_BK228, Q_HB, Q_NB244_243, Q_NB243_244, Q_NB245_243, Q_NB243_245, Q_NB245_244, Q_NB244_245, Q_HO231, Q_HO235, Q_HO238, Q_BK243, Q_GW243, Q_GE243, Q_NB228_243, Q_NB243_228, Q_BK244, Q_GW244, Q_GE244, Q_NB228_244, Q_NB244_228, Q_BK245, Q_GW245, Q_GE245, Q_NB228_245, Q_NB245_228, Q_BK243_e12, Q_BK244_e13, Q_BK245_e14, Q_X2_, Q_X4_, Q_X5_, Q_X6_, Q_X7_, Q_X9_, Q_X10_, Q_X11_⟩ hb_ hon hoff
             refine ⟨_, rfl, fun K hK => ?_⟩
             have e51 : a.tmps[51]? = some (.agg #[.int .i64 x229000_2, .slice Ao21 x229001_2.length co21]) := by rw [ha]; exact putSel_on (e := (0, 51, .agg #[.int .i64 x229000_2, .slice Ao21 x229001_2.length co21])) 0 rfl rfl (hon 0 (by kernel_rfl)) rfl
             have e52 : a.tmps[52]? = some (.slice Ao22 y225.length co22) := by rw [ha]; exact (putSel_off rfl).trans rfl
             have e53 : a.tmps[53]? = some (m2_) := by rw [ha]; exact putSel_on (e := (2, 53, m2_)) 1 rfl rfl (hon 2 (by kernel_rfl)) rfl
             rw [Q_X2_ (hon 2 (by kernel_rfl))] at e53
             have e54 : a.tmps[54]? = some (.agg #[.int .i64 0, .int .i64 1]) := by rw [ha]; exact putSel_on (e := (3, 54, .agg #[.int .i64 0, .int .i64 1])) 2 rfl rfl (hon 3 (by kernel_rfl)) rfl
             replace ha := z_aM ha
             have HO_229001 := z_aM Q_HO_229001
             have HO_6 := z_aM Q_HO_6
             have HO_8 := z_aM Q_HO_8
             have BK228 := z_aM Q_BK228
             have HB := z_aM Q_HB
             have HO231 := z_aM (Q_HO231 (hon 2 (by kernel_rfl)))
             obtain ⟨Ao24, co24, eo24⟩ := Kd.R_slice HO_229001.out
             (first | subst eo24 | (injection eo24 with f1_ f2_ f3_; have f4_ := f1_.symm; have f5_ := f3_.symm; clear f1_ f2_ f3_; subst f4_; subst f5_))
             obtain ⟨Ao25, co25, eo25⟩ := Kd.R_slice HO_8.out
             (first | subst eo25 | (injection eo25 with f1_ f2_ f3_; have f4_ := f1_.symm; have f5_ := f3_.symm; clear f1_ f2_ f3_; subst f4_; subst f5_))
             obtain ⟨Ao26, co26, eo26⟩ := Kd.R_slice HO231.out
             (first | subst eo26 | (injection eo26 with f1_ f2_ f3_; have f4_ := f1_.symm; have f5_ := f3_.symm; clear f1_ f2_ f3_; subst f4_; subst f5_))
             refine goes_ Try.func38 (by kernel_rfl) rfl #[.agg #[.int .i64 x229000_2, .slice Ao24 x229001_2.length co24], .slice Ao25 y225.length co25, .agg #[.slice Ao26 t229.length co26], .agg #[.int .i64 0, .int .i64 1], .int .i64 0] (by rfl) rfl rfl (by first | (simp only [List.map_toArray, List.map_cons, List.map_nil, Act.eval, Array.getD_eq_getD_getElem?, Option.getD_some, e51, e52, e53, e54]; done) | (simp only [List.map_toArray, List.map_cons, List.map_nil, Act.eval, Array.getD_eq_getD_getElem?, Option.getD_some, e51, e52, e53, e54]; rfl)) ?_
             with_reducible refine (impl_StepCpu.calls k2 x229000_2 _ _ x229001_2 _ _ y225 _ _ t229 0 1 0 t232 t233 t236 t239 t240 t241 t242 _ ?side1 ?side2 ?side3 ?side4 ?side5 ?side6 A20.out).mono ?_
             (case side1 => repeat (first | exact (Kd.R_reads' HO_229001.out).2.2 | (with_reducible refine Kd.C_alloc ?_ _) | (with_reducible refine Kd.C_drewN ?_ _) | (with_reducible refine Kd.C_drew ?_)))
             (case side2 => exact (Kd.R_reads' HO_229001.out).2.1)
             (case side3 => repeat (first | exact (Kd.R_reads' HO_8.out).2.2 | (with_reducible refine Kd.C_alloc ?_ _) | (with_reducible refine Kd.C_drewN ?_ _) | (with_reducible refine Kd.C_drew ?_)))
             (case side4 => exact (Kd.R_reads' HO_8.out).2.1)
             (case side5 => repeat (first | exact (Kd.R_reads' HO231.out).2.2 | (with_reducible refine Kd.C_alloc ?_ _) | (with_reducible refine Kd.C_drewN ?_ _) | (with_reducible refine Kd.C_drew ?_)))
             (case side6 => exact (Kd.R_reads' HO231.out).2.1)
             rintro e w27 ⟨v234, v237, rfl, ho0, ho1, hb⟩
             refine ⟨_, rfl, ?_⟩
             have n0_ := z_aM (z_rM (Kd.R_told (Kd.R_told (Kd.R_old (by (with_reducible repeat (first | apply z_rA | apply z_rN | apply z_rD)); exact HO_6.out) hb) (Kd.R_base ho0)) (Kd.R_base ho1)) (fun _ h_ => h_.1))
             have n1_ := z_aM (z_rB (by (with_reducible repeat (first | apply z_rA | apply z_rN | apply z_rD)); exact HO_8.out) hb)
             have n2_ := z_aM (z_rM (Kd.R_told (Kd.R_told (Kd.R_old (by (with_reducible repeat (first | apply z_rA | apply z_rN | apply z_rD)); exact HO_229001.out) hb) (Kd.R_base ho0)) (Kd.R_base ho1)) (fun _ h_ => h_.1))
             have n3_ := z_aM (z_rM (Kd.R_told (Kd.R_told (Kd.R_old (by (with_reducible repeat (first | apply z_rA | apply z_rN | apply z_rD)); exact HO231.out) hb) (Kd.R_base ho0)) (Kd.R_base ho1)) (fun _ h_ => h_.1))
             have n4_ := z_aM (Kd.R_lower (Kd.R_new' (Kd.R_new' (Kd.R_new' ho0 (z_rL (by (with_reducible repeat (first | apply z_rA | apply z_rN | apply z_rD)); exact HO_6.out))) (z_rL (by (with_reducible repeat (first | apply z_rA | apply z_rN | apply z_rD)); exact HO_229001.out))) (z_rL (by (with_reducible repeat (first | apply z_rA | apply z_rN | apply z_rD)); exact HO231.out))) (z_bZ (by repeat (first | (with_reducible first | exact HB.out | apply z_bA | apply z_bN | apply z_bD | refine z_bS ?_ GE228.out) | exact HB.out))))
             have n5_ := z_aM (Kd.R_lower (Kd.R_new' (Kd.R_new' (Kd.R_new' ho1 (z_rL (by (with_reducible repeat (first | apply z_rA | apply z_rN | apply z_rD)); exact HO_6.out))) (z_rL (by (with_reducible repeat (first | apply z_rA | apply z_rN | apply z_rD)); exact HO_229001.out))) (z_rL (by (with_reducible repeat (first | apply z_rA | apply z_rN | apply z_rD)); exact HO231.out))) (z_bZ (by repeat (first | (with_reducible first | exact HB.out | apply z_bA | apply z_bN | apply z_bD | refine z_bS ?_ GE228.out) | exact HB.out))))
             have n6_ := z_aM (z_kB (by (with_reducible repeat (first | apply z_kN | apply z_kD | apply z_kA)); exact BK228.out) hb)
             have n7_ := z_aM (z_bT (by repeat (first | (with_reducible first | exact HB.out | apply z_bA | apply z_bN | apply z_bD | refine z_bS ?_ GE228.out) | exact HB.out)) hb)
             have z_BK243 := fun (h0_ : b 9 = true) (h1_ : b 12 = false) => (show w27.heap[gb243]? = some (.cells #[.int .i64 0, .slice none 0 0] 52 (0, 0)) from by first | exact (z_kB (by (with_reducible repeat (first | apply z_kN | apply z_kD | apply z_kA)); exact (Q_BK243 h0_ h1_)) hb))
             have z_BK244 := fun (h0_ : b 10 = true) (h1_ : b 13 = false) => (show w27.heap[gb244]? = some (.cells #[.slice none 0 0] 29 (0, 0)) from by first | exact (z_kB (by (with_reducible repeat (first | apply z_kN | apply z_kD | apply z_kA)); exact (Q_BK244 h0_ h1_)) hb))
             have z_BK245 := fun (h0_ : b 11 = true) (h1_ : b 14 = false) => (show w27.heap[gb245]? = some (.cells #[.int .i64 0, .int .i64 0, .int .i64 0, .int .i64 0] 60 (0, 0)) from by first | exact (z_kB (by (with_reducible repeat (first | apply z_kN | apply z_kD | apply z_kA)); exact (Q_BK245 h0_ h1_)) hb))
             clear HO_6
             clear HO_8
             clear HO_229001
             clear HO231
             clear BK228
             clear HB
             have HO_6 := n0_
             have HO_8 := n1_
             have HO_229001 := n2_
             have HO231 := n3_
             have HO235 := n4_
             have HO238 := n5_
             have BK228 := n6_
             have HB := n7_
             clear n0_ n1_ n2_ n3_ n4_ n5_ n6_ n7_
             (try clear hb)
             (try clear hb2)
             (try clear hk)
             (try clear hi)
             (try clear ho0)
             (try clear ho1)
             refine hK.out _ _ ⟨.slice Ao26 t229.length co26, v234, v237, gb243, gb244, gb245, m2_, (.tuple #[.agg #[.int .i64 t232, v234], .agg #[v237], .agg #[.int .i64 t239, .int .i64 t240, .int .i64 t241, .int .i64 t242]]), m5_, m6_, m7_, m9_, m10_, m11_, (by rw [ha.out]; exact putSel_upk 3 hb_ rfl rfl rfl), (by (with_reducible repeat (first | apply z_rA | apply z_rN | apply z_rD)); exact z_rM HO_229001.out (fun _ hk => hk.1.1)), (by (with_reducible repeat (first | apply z_rA | apply z_rN | apply z_rD)); exact z_rM HO_6.out (fun _ hk => hk.1.1)), (by (with_reducible repeat (first | apply z_rA | apply z_rN | apply z_rD)); exact HO_8.out), (by (with_reducible repeat (first | apply z_kN | apply z_kD | apply z_kA)); exact BK228.out), (by repeat (first | (with_reducible first | exact HB.out | apply z_bA | apply z_bN | apply z_bD | refine z_bS ?_ GE228.out) | exact HB.out)), Q_NB244_243, Q_NB243_244, Q_NB245_243, Q_NB243_245, Q_NB245_244, Q_NB244_245, fun _ => (by (with_reducible repeat (first | apply z_rA | apply z_rN | apply z_rD)); exact z_rM HO231.out (fun _ hk => hk.1.1)), fun _ => (by (with_reducible repeat (first | apply z_rA | apply z_rN | apply z_rD)); exact z_rM HO235.out (fun _ hk => ⟨hk.1.2, hk.1.1.2⟩)), fun _ => (by (with_reducible repeat (first | apply z_rA | apply z_rN | apply z_rD)); exact z_rM HO238.out (fun _ hk => ⟨hk.1.2, hk.1.1.2⟩)), z_BK243, Q_GW243, Q_GE243, Q_NB228_243, Q_NB243_228, z_BK244, Q_GW244, Q_GE244, Q_NB228_244, Q_NB244_228, z_BK245, Q_GW245, Q_GE245, Q_NB228_245, Q_NB245_228, fun h0_ => absurd ((hoff 12 (by kernel_rfl)).symm.trans h0_) (by decide), fun h0_ => absurd ((hoff 13 (by kernel_rfl)).symm.trans h0_) (by decide), fun h0_ => absurd ((hoff 14 (by kernel_rfl)).symm.trans h0_) (by decide), Q_X2_, fun _ => rfl, fun h0_ => absurd ((hoff 5 (by kernel_rfl)).symm.trans h0_) (by decide), fun h0_ => absurd ((hoff 6 (by kernel_rfl)).symm.trans h0_) (by decide), fun h0_ => absurd ((hoff 7 (by kernel_rfl)).symm.trans h0_) (by decide), Q_X9_, Q_X10_, Q_X11_⟩
            refine steps_cons ?_ ?_
            ·rintro b a w' ⟨v230, v234, v237, gb243, gb244, gb245, m2_, m4_, m5_, m6_, m7_, m9_, m10_, m11_, ha, Q_HO_229001, Q_HO_6, Q_HO_8, Q_BK228, Q_HB, Q_NB244_243, Q_NB243_244, Q_NB245_243, Q_NB243_245, Q_NB245_244, Q_NB244_245, Q_HO231, Q_HO235, Q_HO238, Q_BK243, Q_GW243, Q_GE243, Q_NB228_243, Q_NB243_228, Q_BK244, Q_GW244, Q_GE244, Q_NB228_244, Q_NB244_228, Q_BK245, Q_GW245, Q_GE245, Q_NB228_245, Q_NB245_228, Q_BK243_e12, Q_BK244_e13, Q_BK245_e14, Q_X2_, Q_X4_, Q_X5_, Q_X6_, Q_X7_, Q_X9_, Q_X10_, Q_X11_⟩ hb_ hon hoff
             refine ⟨_, rfl, fun K hK => ?_⟩
             have e55 : a.tmps[55]? = some (m4_) := by rw [ha]; exact putSel_on (e := (4, 55, m4_)) 3 rfl rfl (hon 4 (by kernel_rfl)) rfl
             rw [Q_X4_ (hon 4 (by kernel_rfl))] at e55
             replace ha := z_aM ha
             have HO_229001 := z_aM Q_HO_229001
             have HO_6 := z_aM Q_HO_6
             have HO_8 := z_aM Q_HO_8
             have BK228 := z_aM Q_BK228
             have HB := z_aM Q_HB
             have HO231 := z_aM (Q_HO231 (hon 2 (by kernel_rfl)))
             have HO235 := z_aM (Q_HO235 (hon 4 (by kernel_rfl)))
             have HO238 := z_aM (Q_HO238 (hon 4 (by kernel_rfl)))
             refine value_ (w1 := w') (v := .tuple #[.agg #[.int .i64 t232, v234], .agg #[v237], .agg #[.int .i64 t239, .int .i64 t240, .int .i64 t241, .int .i64 t242]]) (by rfl) rfl ?_ ?_
             ·go_simp
              (try simp only [i64_w])
              try rfl
             refine hK.out _ _ ⟨v230, v234, v237, gb243, gb244, gb245, m2_, m4_, (.tuple #[.agg #[.int .i64 t232, v234], .agg #[v237], .agg #[.int .i64 t239, .int .i64 t240, .int .i64 t241, .int .i64 t242]]), m6_, m7_, m9_, m10_, m11_, (by rw [ha.out]; exact putSel_upk 4 hb_ rfl rfl rfl), Q_HO_229001, Q_HO_6, Q_HO_8, Q_BK228, Q_HB, Q_NB244_243, Q_NB243_244, Q_NB245_243, Q_NB243_245, Q_NB245_244, Q_NB244_245, Q_HO231, Q_HO235, Q_HO238, Q_BK243, Q_GW243, Q_GE243, Q_NB228_243, Q_NB243_228, Q_BK244, Q_GW244, Q_GE244, Q_NB228_244, Q_NB244_228, Q_BK245, Q_GW245, Q_GE245, Q_NB228_245, Q_NB245_228, fun h0_ => absurd ((hoff 12 (by kernel_rfl)).symm.trans h0_) (by decide), fun h0_ => absurd ((hoff 13 (by kernel_rfl)).symm.trans h0_) (by decide), fun h0_ => absurd ((hoff 14 (by kernel_rfl)).symm.trans h0_) (by decide), Q_X2_, Q_X4_, fun _ => rfl, fun h0_ => absurd ((hoff 6 (by kernel_rfl)).symm.trans h0_) (by decide), fun h0_ => absurd ((hoff 7 (by kernel_rfl)).symm.trans h0_) (by decide), Q_X9_, Q_X10_, Q_X11_⟩
            refine steps_cons ?_ ?_
            ·rintro b a w' ⟨v230, v234, v237, gb243, gb244, gb245, m2_, m4_, m5_, m6_, m7_, m9_, m10_, m11_, ha, Q_HO_229001, Q_HO_6, Q_HO_8, Q_BK228, Q_HB, Q_NB244_243, Q_NB243_244, Q_NB245_243, Q_NB243_245, Q_NB245_244, Q_NB244_245, Q_HO231, Q_HO235, Q_HO238, Q_BK243, Q_GW243, Q_GE243, Q_NB228_243, Q_NB243_228, Q_BK244, Q_GW244, Q_GE244, Q_NB228_244, Q_NB244_228, Q_BK245, Q_GW245, Q_GE245, Q_NB228_245, Q_NB245_228, Q_BK243_e12, Q_BK244_e13, Q_BK245_e14, Q_X2_, Q_X4_, Q_X5_, Q_X6_, Q_X7_, Q_X9_, Q_X10_, Q_X11_⟩ hb_ hon hoff
             refine ⟨_, rfl, fun K hK => ?_⟩
             have e50 : a.tmps[50]? = some (m5_) := by rw [ha]; exact putSel_on (e := (5, 50, m5_)) 4 rfl rfl (hon 5 (by kernel_rfl)) rfl
             rw [Q_X5_ (hon 5 (by kernel_rfl))] at e50
             replace ha := z_aM ha
             have HO_229001 := z_aM Q_HO_229001
             have HO_6 := z_aM Q_HO_6
             have HO_8 := z_aM Q_HO_8
             have BK228 := z_aM Q_BK228
             have HB := z_aM Q_HB
             have HO231 := z_aM (Q_HO231 (hon 2 (by kernel_rfl)))
             have HO235 := z_aM (Q_HO235 (hon 4 (by kernel_rfl)))
             have HO238 := z_aM (Q_HO238 (hon 4 (by kernel_rfl)))
             refine value_ (w1 := w') (v := .agg #[.int .i64 t232, v234]) (by rfl) rfl ?_ ?_
             ·go_simp
              (try simp only [i64_w])
              try rfl
             refine hK.out _ _ ⟨v230, v234, v237, gb243, gb244, gb245, m2_, m4_, m5_, (.agg #[.int .i64 t232, v234]), m7_, m9_, m10_, m11_, (by rw [ha.out]; exact putSel_upk 5 hb_ rfl rfl rfl), Q_HO_229001, Q_HO_6, Q_HO_8, Q_BK228, Q_HB, Q_NB244_243, Q_NB243_244, Q_NB245_243, Q_NB243_245, Q_NB245_244, Q_NB244_245, Q_HO231, Q_HO235, Q_HO238, Q_BK243, Q_GW243, Q_GE243, Q_NB228_243, Q_NB243_228, Q_BK244, Q_GW244, Q_GE244, Q_NB228_244, Q_NB244_228, Q_BK245, Q_GW245, Q_GE245, Q_NB228_245, Q_NB245_228, fun h0_ => absurd ((hoff 12 (by kernel_rfl)).symm.trans h0_) (by decide), fun h0_ => absurd ((hoff 13 (by kernel_rfl)).symm.trans h0_) (by decide), fun h0_ => absurd ((hoff 14 (by kernel_rfl)).symm.trans h0_) (by decide), Q_X2_, Q_X4_, Q_X5_, fun _ => rfl, Q_X7_, Q_X9_, Q_X10_, Q_X11_⟩
            refine steps_cons ?_ ?_
            ·rintro b a w' ⟨v230, v234, v237, gb243, gb244, gb245, m2_, m4_, m5_, m6_, m7_, m9_, m10_, m11_, ha, Q_HO_229001, Q_HO_6, Q_HO_8, Q_BK228, Q_HB, Q_NB244_243, Q_NB243_244, Q_NB245_243, Q_NB243_245, Q_NB245_244, Q_NB244_245, Q_HO231, Q_HO235, Q_HO238, Q_BK243, Q_GW243, Q_GE243, Q_NB228_243, Q_NB243_228, Q_BK244, Q_GW244, Q_GE244, Q_NB228_244, Q_NB244_228, Q_BK245, Q_GW245, Q_GE245, Q_NB228_245, Q_NB245_228, Q_BK243_e12, Q_BK244_e13, Q_BK245_e14, Q_X2_, Q_X4_, Q_X5_, Q_X6_, Q_X7_, Q_X9_, Q_X10_, Q_X11_⟩ hb_ hon hoff
             refine ⟨_, rfl, fun K hK => ?_⟩
             have e50 : a.tmps[50]? = some (m5_) := by rw [ha]; exact putSel_on (e := (5, 50, m5_)) 4 rfl rfl (hon 5 (by kernel_rfl)) rfl
             rw [Q_X5_ (hon 5 (by kernel_rfl))] at e50
             replace ha := z_aM ha
             have HO_229001 := z_aM Q_HO_229001
             have HO_6 := z_aM Q_HO_6
             have HO_8 := z_aM Q_HO_8
             have BK228 := z_aM Q_BK228
             have HB := z_aM Q_HB
             have HO231 := z_aM (Q_HO231 (hon 2 (by kernel_rfl)))
             have HO235 := z_aM (Q_HO235 (hon 4 (by kernel_rfl)))
             have HO238 := z_aM (Q_HO238 (hon 4 (by kernel_rfl)))
             refine value_ (w1 := w') (v := .agg #[v237]) (by rfl) rfl ?_ ?_
             ·go_simp
              (try simp only [i64_w])
              try rfl
             refine hK.out _ _ ⟨v230, v234, v237, gb243, gb244, gb245, m2_, m4_, m5_, m6_, (.agg #[v237]), m9_, m10_, m11_, (by rw [ha.out]; exact putSel_upk 6 hb_ rfl rfl rfl), Q_HO_229001, Q_HO_6, Q_HO_8, Q_BK228, Q_HB, Q_NB244_243, Q_NB243_244, Q_NB245_243, Q_NB243_245, Q_NB245_244, Q_NB244_245, Q_HO231, Q_HO235, Q_HO238, Q_BK243, Q_GW243, Q_GE243, Q_NB228_243, Q_NB243_228, Q_BK244, Q_GW244, Q_GE244, Q_NB228_244, Q_NB244_228, Q_BK245, Q_GW245, Q_GE245, Q_NB228_245, Q_NB245_228, Q_BK243_e12, fun h0_ => absurd ((hoff 13 (by kernel_rfl)).symm.trans h0_) (by decide), fun h0_ => absurd ((hoff 14 (by kernel_rfl)).symm.trans h0_) (by decide), Q_X2_, Q_X4_, Q_X5_, Q_X6_, fun _ => rfl, Q_X9_, Q_X10_, Q_X11_⟩
            refine steps_cons ?_ ?_
            ·rintro b a w' ⟨v230, v234, v237, gb243, gb244, gb245, m2_, m4_, m5_, m6_, m7_, m9_, m10_, m11_, ha, Q_HO_229001, Q_HO_6, Q_HO_8, Q_BK228, Q_HB, Q_NB244_243, Q_NB243_244, Q_NB245_243, Q_NB243_245, Q_NB245_244, Q_NB244_245, Q_HO231, Q_HO235, Q_HO238, Q_BK243, Q_GW243, Q_GE243, Q_NB228_243, Q_NB243_228, Q_BK244, Q_GW244, Q_GE244, Q_NB228_244, Q_NB244_228, Q_BK245, Q_GW245, Q_GE245, Q_NB228_245, Q_NB245_228, Q_BK243_e12, Q_BK244_e13, Q_BK245_e14, Q_X2_, Q_X4_, Q_X5_, Q_X6_, Q_X7_, Q_X9_, Q_X10_, Q_X11_⟩ hb_ hon hoff
             refine ⟨_, rfl, fun K hK => ?_⟩
             have e50 : a.tmps[50]? = some (m5_) := by rw [ha]; exact putSel_on (e := (5, 50, m5_)) 4 rfl rfl (hon 5 (by kernel_rfl)) rfl
             rw [Q_X5_ (hon 5 (by kernel_rfl))] at e50
             replace ha := z_aM ha
             have HO_229001 := z_aM Q_HO_229001
             have HO_6 := z_aM Q_HO_6
             have HO_8 := z_aM Q_HO_8
             have BK228 := z_aM Q_BK228
             have HB := z_aM Q_HB
             have HO231 := z_aM (Q_HO231 (hon 2 (by kernel_rfl)))
             have HO235 := z_aM (Q_HO235 (hon 4 (by kernel_rfl)))
             have HO238 := z_aM (Q_HO238 (hon 4 (by kernel_rfl)))
             refine value_ (w1 := w') (v := .agg #[.int .i64 t239, .int .i64 t240, .int .i64 t241, .int .i64 t242]) (by rfl) rfl ?_ ?_
             ·go_simp
              (try simp only [i64_w])
              try rfl
             refine hK.out _ _ ⟨v230, v234, v237, gb243, gb244, gb245, m2_, m4_, m5_, m6_, m7_, m9_, m10_, m11_, (by rw [ha.out]; exact putSel_upk 7 hb_ rfl rfl rfl), Q_HO_229001, Q_HO_6, Q_HO_8, Q_BK228, Q_HB, Q_NB244_243, Q_NB243_244, Q_NB245_243, Q_NB243_245, Q_NB245_244, Q_NB244_245, Q_HO231, Q_HO235, Q_HO238, Q_BK243, Q_GW243, Q_GE243, Q_NB228_243, Q_NB243_228, Q_BK244, Q_GW244, Q_GE244, Q_NB228_244, Q_NB244_228, Q_BK245, Q_GW245, Q_GE245, Q_NB228_245, Q_NB245_228, Q_BK243_e12, Q_BK244_e13, fun h0_ => absurd ((hoff 14 (by kernel_rfl)).symm.trans h0_) (by decide), Q_X2_, Q_X4_, Q_X5_, Q_X6_, Q_X7_, Q_X9_, Q_X10_, Q_X11_⟩
            refine steps_cons ?_ ?_
            ·rintro b a w' ⟨v230, v234, v237, gb243, gb244, gb245, m2_, m4_, m5_, m6_, m7_, m9_, m10_, m11_, ha, Q_HO_229001, Q_HO_6, Q_HO_8, Q_BK228, Q_HB, Q_NB244_243, Q_NB243_244, Q_NB245_243, Q_NB243_245, Q_NB245_244, Q_NB244_245, Q_HO231, Q_HO235, Q_HO238, Q_BK243, Q_GW243, Q_GE243, Q_NB228_243, Q_NB243_228, Q_BK244, Q_GW244, Q_GE244, Q_NB228_244, Q_NB244_228, Q_BK245, Q_GW245, Q_GE245, Q_NB228_245, Q_NB245_228, Q_BK243_e12, Q_BK244_e13, Q_BK245_e14, Q_X2_, Q_X4_, Q_X5_, Q_X6_, Q_X7_, Q_X9_, Q_X10_, Q_X11_⟩ hb_ hon hoff
             refine ⟨_, rfl, fun K hK => ?_⟩
             replace ha := z_aM ha
             have HO_229001 := z_aM Q_HO_229001
             have HO_6 := z_aM Q_HO_6
             have HO_8 := z_aM Q_HO_8
             have BK228 := z_aM Q_BK228
             have HB := z_aM Q_HB
             refine box_step ?hg (N := 12) ?hd (cs := #[.int .i64 0, .slice none 0 0]) (t := 52) ?hr ?_; (case hd => rfl); (case hg => rfl); (case hr => first | (go_simp; done) | (go_simp; rfl))
             intro gb243 hg w22 hbox hb
             have n0_ := z_aM (z_rB (by (with_reducible repeat (first | apply z_rA | apply z_rN | apply z_rD)); exact HO_6.out) hb)
             have n1_ := z_aM (z_rB (by (with_reducible repeat (first | apply z_rA | apply z_rN | apply z_rD)); exact HO_8.out) hb)
             have n2_ := z_aM (z_rB (by (with_reducible repeat (first | apply z_rA | apply z_rN | apply z_rD)); exact HO_229001.out) hb)
             have n3_ := z_aM (z_kB (by (with_reducible repeat (first | apply z_kN | apply z_kD | apply z_kA)); exact BK228.out) hb)
             have n4_ := z_aM (z_bT (by repeat (first | (with_reducible first | exact HB.out | apply z_bA | apply z_bN | apply z_bD | refine z_bS ?_ GE228.out) | exact HB.out)) hb)
             have n5_ := z_aM (hbox)
             have n6_ := z_aM ((by rw [hg]; exact (z_bZ (by repeat (first | (with_reducible first | exact HB.out | apply z_bA | apply z_bN | apply z_bD | refine z_bS ?_ GE228.out) | exact HB.out))) : w.heap.size ≤ gb243))
             have n7_ := z_aM ((by rw [hg]; exact (z_bZ (by repeat (first | (with_reducible first | exact HB.out | apply z_bA | apply z_bN | apply z_bD | refine z_bS ?_ GE228.out) | exact HB.out))) : w.heap.size ≤ gb243))
             have n8_ := z_aM ((by rw [hg]; exact Nat.ne_of_lt (z_kL (by (with_reducible repeat (first | apply z_kN | apply z_kD | apply z_kA)); exact BK228.out)) : gb228 ≠ gb243))
             have n9_ := z_aM ((by rw [hg]; exact Nat.ne_of_gt (z_kL (by (with_reducible repeat (first | apply z_kN | apply z_kD | apply z_kA)); exact BK228.out)) : gb243 ≠ gb228))
             have z_NB244_243 := fun (h0_ : up b 9 9 = true) (h1_ : up b 9 10 = true) => (show gb244 ≠ gb243 from ((by rw [hg]; exact Nat.ne_of_lt (z_kL (by (with_reducible repeat (first | apply z_kN | apply z_kD | apply z_kA)); exact (Q_BK244 (show b 10 = true from h1_) (hoff 13 (by kernel_rfl))))) : gb244 ≠ gb243)))
             have z_NB243_244 := fun (h0_ : up b 9 9 = true) (h1_ : up b 9 10 = true) => (show gb243 ≠ gb244 from ((by rw [hg]; exact Nat.ne_of_gt (z_kL (by (with_reducible repeat (first | apply z_kN | apply z_kD | apply z_kA)); exact (Q_BK244 (show b 10 = true from h1_) (hoff 13 (by kernel_rfl))))) : gb243 ≠ gb244)))
             have z_NB245_243 := fun (h0_ : up b 9 9 = true) (h1_ : up b 9 11 = true) => (show gb245 ≠ gb243 from ((by rw [hg]; exact Nat.ne_of_lt (z_kL (by (with_reducible repeat (first | apply z_kN | apply z_kD | apply z_kA)); exact (Q_BK245 (show b 11 = true from h1_) (hoff 14 (by kernel_rfl))))) : gb245 ≠ gb243)))
             have z_NB243_245 := fun (h0_ : up b 9 9 = true) (h1_ : up b 9 11 = true) => (show gb243 ≠ gb245 from ((by rw [hg]; exact Nat.ne_of_gt (z_kL (by (with_reducible repeat (first | apply z_kN | apply z_kD | apply z_kA)); exact (Q_BK245 (show b 11 = true from h1_) (hoff 14 (by kernel_rfl))))) : gb243 ≠ gb245)))
             have z_HO231 := fun (h0_ : b 2 = true) => (show Kd.R (Kd.int .i64) 3 w22 w.heap.size (fun k_ => some k_ ≠ (.slice Ao21 x229001_2.length co21 : Value).ownBlock ∧ some k_ ≠ (.slice (some ad224) x6_1.length co13 : Value).ownBlock) v230 t229 from by first | exact (z_rB (by (with_reducible repeat (first | apply z_rA | apply z_rN | apply z_rD)); exact (Q_HO231 h0_)) hb) | exact z_rM (z_rB (by (with_reducible repeat (first | apply z_rA | apply z_rN | apply z_rD)); exact (Q_HO231 h0_)) hb) (fun _ h_ => by first | trivial | exact h_ | exact h_.1))
             have z_HO235 := fun (h0_ : b 4 = true) => (show Kd.R (Kd.int .i64) 3 w22 w.heap.size (fun k_ => some k_ ≠ (.slice Ao21 x229001_2.length co21 : Value).ownBlock ∧ some k_ ≠ (.slice (some ad224) x6_1.length co13 : Value).ownBlock) v234 t233 from by first | exact (z_rB (by (with_reducible repeat (first | apply z_rA | apply z_rN | apply z_rD)); exact (Q_HO235 h0_)) hb) | exact z_rM (z_rB (by (with_reducible repeat (first | apply z_rA | apply z_rN | apply z_rD)); exact (Q_HO235 h0_)) hb) (fun _ h_ => by first | trivial | exact h_ | exact h_.1))
             have z_HO238 := fun (h0_ : b 4 = true) => (show Kd.R (Kd.int .i64) 3 w22 w.heap.size (fun k_ => some k_ ≠ (.slice Ao21 x229001_2.length co21 : Value).ownBlock ∧ some k_ ≠ (.slice (some ad224) x6_1.length co13 : Value).ownBlock) v237 t236 from by first | exact (z_rB (by (with_reducible repeat (first | apply z_rA | apply z_rN | apply z_rD)); exact (Q_HO238 h0_)) hb) | exact z_rM (z_rB (by (with_reducible repeat (first | apply z_rA | apply z_rN | apply z_rD)); exact (Q_HO238 h0_)) hb) (fun _ h_ => by first | trivial | exact h_ | exact h_.1))
             have z_BK244 := fun (h0_ : b 10 = true) (h1_ : b 13 = false) => (show w22.heap[gb244]? = some (.cells #[.slice none 0 0] 29 (0, 0)) from by first | exact (z_kB (by (with_reducible repeat (first | apply z_kN | apply z_kD | apply z_kA)); exact (Q_BK244 h0_ h1_)) hb))
             have z_BK245 := fun (h0_ : b 11 = true) (h1_ : b 14 = false) => (show w22.heap[gb245]? = some (.cells #[.int .i64 0, .int .i64 0, .int .i64 0, .int .i64 0] 60 (0, 0)) from by first | exact (z_kB (by (with_reducible repeat (first | apply z_kN | apply z_kD | apply z_kA)); exact (Q_BK245 h0_ h1_)) hb))
             clear HO_6
             clear HO_8
             clear HO_229001
             clear BK228
             clear HB
             have HO_6 := n0_
             have HO_8 := n1_
             have HO_229001 := n2_
             have BK228 := n3_
             have HB := n4_
             have BK243 := n5_
             have GW243 := n6_
             have GE243 := n7_
             have NB228_243 := n8_
             have NB243_228 := n9_
             clear n0_ n1_ n2_ n3_ n4_ n5_ n6_ n7_ n8_ n9_
             clear hb hbox hg
             refine hK.out _ _ ⟨v230, v234, v237, gb243, gb244, gb245, m2_, m4_, m5_, m6_, m7_, (.pointer (some ⟨gb243, 0, none⟩)), m10_, m11_, (by rw [ha.out]; exact putSel_upk 8 hb_ rfl rfl rfl), (by (with_reducible repeat (first | apply z_rA | apply z_rN | apply z_rD)); exact HO_229001.out), (by (with_reducible repeat (first | apply z_rA | apply z_rN | apply z_rD)); exact HO_6.out), (by (with_reducible repeat (first | apply z_rA | apply z_rN | apply z_rD)); exact HO_8.out), (by (with_reducible repeat (first | apply z_kN | apply z_kD | apply z_kA)); exact BK228.out), (by repeat (first | (with_reducible first | exact HB.out | apply z_bA | apply z_bN | apply z_bD | refine z_bS ?_ GE228.out | refine z_bS ?_ GE243.out) | exact HB.out)), z_NB244_243, z_NB243_244, z_NB245_243, z_NB243_245, Q_NB245_244, Q_NB244_245, z_HO231, z_HO235, z_HO238, fun _ _ => (by (with_reducible repeat (first | apply z_kN | apply z_kD | apply z_kA)); exact BK243.out), fun _ => GW243.out, fun _ => GE243.out, fun _ => NB228_243.out, fun _ => NB243_228.out, z_BK244, Q_GW244, Q_GE244, Q_NB228_244, Q_NB244_228, z_BK245, Q_GW245, Q_GE245, Q_NB228_245, Q_NB245_228, fun h0_ => absurd ((hoff 12 (by kernel_rfl)).symm.trans h0_) (by decide), fun h0_ => absurd ((hoff 13 (by kernel_rfl)).symm.trans h0_) (by decide), fun h0_ => absurd ((hoff 14 (by kernel_rfl)).symm.trans h0_) (by decide), Q_X2_, Q_X4_, Q_X5_, Q_X6_, Q_X7_, fun _ => rfl, Q_X10_, Q_X11_⟩
            refine steps_cons ?_ ?_
            ·rintro b a w' ⟨v230, v234, v237, gb243, gb244, gb245, m2_, m4_, m5_, m6_, m7_, m9_, m10_, m11_, ha, Q_HO_229001, Q_HO_6, Q_HO_8, Q_BK228, Q_HB, Q_NB244_243, Q_NB243_244, Q_NB245_243, Q_NB243_245, Q_NB245_244, Q_NB244_245, Q_HO231, Q_HO235, Q_HO238, Q_BK243, Q_GW243, Q_GE243, Q_NB228_243, Q_NB243_228, Q_BK244, Q_GW244, Q_GE244, Q_NB228_244, Q_NB244_228, Q_BK245, Q_GW245, Q_GE245, Q_NB228_245, Q_NB245_228, Q_BK243_e12, Q_BK244_e13, Q_BK245_e14, Q_X2_, Q_X4_, Q_X5_, Q_X6_, Q_X7_, Q_X9_, Q_X10_, Q_X11_⟩ hb_ hon hoff
             refine ⟨_, rfl, fun K hK => ?_⟩
             replace ha := z_aM ha
             have HO_229001 := z_aM Q_HO_229001
             have HO_6 := z_aM Q_HO_6
             have HO_8 := z_aM Q_HO_8
             have BK228 := z_aM Q_BK228
             have HB := z_aM Q_HB
             refine box_step ?hg (N := 13) ?hd (cs := #[.slice none 0 0]) (t := 29) ?hr ?_; (case hd => rfl); (case hg => rfl); (case hr => first | (go_simp; done) | (go_simp; rfl))
             intro gb244 hg w22 hbox hb
             have n0_ := z_aM (z_rB (by (with_reducible repeat (first | apply z_rA | apply z_rN | apply z_rD)); exact HO_6.out) hb)
             have n1_ := z_aM (z_rB (by (with_reducible repeat (first | apply z_rA | apply z_rN | apply z_rD)); exact HO_8.out) hb)
             have n2_ := z_aM (z_rB (by (with_reducible repeat (first | apply z_rA | apply z_rN | apply z_rD)); exact HO_229001.out) hb)
             have n3_ := z_aM (z_kB (by (with_reducible repeat (first | apply z_kN | apply z_kD | apply z_kA)); exact BK228.out) hb)
             have n4_ := z_aM (z_bT (by repeat (first | (with_reducible first | exact HB.out | apply z_bA | apply z_bN | apply z_bD | refine z_bS ?_ GE228.out) | exact HB.out)) hb)
             have n5_ := z_aM (hbox)
             have n6_ := z_aM ((by rw [hg]; exact (z_bZ (by repeat (first | (with_reducible first | exact HB.out | apply z_bA | apply z_bN | apply z_bD | refine z_bS ?_ GE228.out) | exact HB.out))) : w.heap.size ≤ gb244))
             have n7_ := z_aM ((by rw [hg]; exact (z_bZ (by repeat (first | (with_reducible first | exact HB.out | apply z_bA | apply z_bN | apply z_bD | refine z_bS ?_ GE228.out) | exact HB.out))) : w.heap.size ≤ gb244))
             have n8_ := z_aM ((by rw [hg]; exact Nat.ne_of_lt (z_kL (by (with_reducible repeat (first | apply z_kN | apply z_kD | apply z_kA)); exact BK228.out)) : gb228 ≠ gb244))
             have n9_ := z_aM ((by rw [hg]; exact Nat.ne_of_gt (z_kL (by (with_reducible repeat (first | apply z_kN | apply z_kD | apply z_kA)); exact BK228.out)) : gb244 ≠ gb228))
             have z_NB244_243 := fun (h0_ : up b 10 9 = true) (h1_ : up b 10 10 = true) => (show gb244 ≠ gb243 from ((by rw [hg]; exact Nat.ne_of_gt (z_kL (by (with_reducible repeat (first | apply z_kN | apply z_kD | apply z_kA)); exact (Q_BK243 (show b 9 = true from h0_) (hoff 12 (by kernel_rfl))))) : gb244 ≠ gb243)))
             have z_NB243_244 := fun (h0_ : up b 10 9 = true) (h1_ : up b 10 10 = true) => (show gb243 ≠ gb244 from ((by rw [hg]; exact Nat.ne_of_lt (z_kL (by (with_reducible repeat (first | apply z_kN | apply z_kD | apply z_kA)); exact (Q_BK243 (show b 9 = true from h0_) (hoff 12 (by kernel_rfl))))) : gb243 ≠ gb244)))
             have z_NB245_244 := fun (h0_ : up b 10 10 = true) (h1_ : up b 10 11 = true) => (show gb245 ≠ gb244 from ((by rw [hg]; exact Nat.ne_of_lt (z_kL (by (with_reducible repeat (first | apply z_kN | apply z_kD | apply z_kA)); exact (Q_BK245 (show b 11 = true from h1_) (hoff 14 (by kernel_rfl))))) : gb245 ≠ gb244)))
             have z_NB244_245 := fun (h0_ : up b 10 10 = true) (h1_ : up b 10 11 = true) => (show gb244 ≠ gb245 from ((by rw [hg]; exact Nat.ne_of_gt (z_kL (by (with_reducible repeat (first | apply z_kN | apply z_kD | apply z_kA)); exact (Q_BK245 (show b 11 = true from h1_) (hoff 14 (by kernel_rfl))))) : gb244 ≠ gb245)))
             have z_HO231 := fun (h0_ : b 2 = true) => (show Kd.R (Kd.int .i64) 3 w22 w.heap.size (fun k_ => some k_ ≠ (.slice Ao21 x229001_2.length co21 : Value).ownBlock ∧ some k_ ≠ (.slice (some ad224) x6_1.length co13 : Value).ownBlock) v230 t229 from by first | exact (z_rB (by (with_reducible repeat (first | apply z_rA | apply z_rN | apply z_rD)); exact (Q_HO231 h0_)) hb) | exact z_rM (z_rB (by (with_reducible repeat (first | apply z_rA | apply z_rN | apply z_rD)); exact (Q_HO231 h0_)) hb) (fun _ h_ => by first | trivial | exact h_ | exact h_.1))
             have z_HO235 := fun (h0_ : b 4 = true) => (show Kd.R (Kd.int .i64) 3 w22 w.heap.size (fun k_ => some k_ ≠ (.slice Ao21 x229001_2.length co21 : Value).ownBlock ∧ some k_ ≠ (.slice (some ad224) x6_1.length co13 : Value).ownBlock) v234 t233 from by first | exact (z_rB (by (with_reducible repeat (first | apply z_rA | apply z_rN | apply z_rD)); exact (Q_HO235 h0_)) hb) | exact z_rM (z_rB (by (with_reducible repeat (first | apply z_rA | apply z_rN | apply z_rD)); exact (Q_HO235 h0_)) hb) (fun _ h_ => by first | trivial | exact h_ | exact h_.1))
             have z_HO238 := fun (h0_ : b 4 = true) => (show Kd.R (Kd.int .i64) 3 w22 w.heap.size (fun k_ => some k_ ≠ (.slice Ao21 x229001_2.length co21 : Value).ownBlock ∧ some k_ ≠ (.slice (some ad224) x6_1.length co13 : Value).ownBlock) v237 t236 from by first | exact (z_rB (by (with_reducible repeat (first | apply z_rA | apply z_rN | apply z_rD)); exact (Q_HO238 h0_)) hb) | exact z_rM (z_rB (by (with_reducible repeat (first | apply z_rA | apply z_rN | apply z_rD)); exact (Q_HO238 h0_)) hb) (fun _ h_ => by first | trivial | exact h_ | exact h_.1))
             have z_BK243 := fun (h0_ : b 9 = true) (h1_ : b 12 = false) => (show w22.heap[gb243]? = some (.cells #[.int .i64 0, .slice none 0 0] 52 (0, 0)) from by first | exact (z_kB (by (with_reducible repeat (first | apply z_kN | apply z_kD | apply z_kA)); exact (Q_BK243 h0_ h1_)) hb))
             have z_BK245 := fun (h0_ : b 11 = true) (h1_ : b 14 = false) => (show w22.heap[gb245]? = some (.cells #[.int .i64 0, .int .i64 0, .int .i64 0, .int .i64 0] 60 (0, 0)) from by first | exact (z_kB (by (with_reducible repeat (first | apply z_kN | apply z_kD | apply z_kA)); exact (Q_BK245 h0_ h1_)) hb))
             clear HO_6
             clear HO_8
             clear HO_229001
             clear BK228
             clear HB
             have HO_6 := n0_
             have HO_8 := n1_
             have HO_229001 := n2_
             have BK228 := n3_
             have HB := n4_
             have BK244 := n5_
             have GW244 := n6_
             have GE244 := n7_
             have NB228_244 := n8_
             have NB244_228 := n9_
             clear n0_ n1_ n2_ n3_ n4_ n5_ n6_ n7_ n8_ n9_
             clear hb hbox hg
             refine hK.out _ _ ⟨v230, v234, v237, gb243, gb244, gb245, m2_, m4_, m5_, m6_, m7_, m9_, (.pointer (some ⟨gb244, 0, none⟩)), m11_, (by rw [ha.out]; exact putSel_upk 9 hb_ rfl rfl rfl), (by (with_reducible repeat (first | apply z_rA | apply z_rN | apply z_rD)); exact HO_229001.out), (by (with_reducible repeat (first | apply z_rA | apply z_rN | apply z_rD)); exact HO_6.out), (by (with_reducible repeat (first | apply z_rA | apply z_rN | apply z_rD)); exact HO_8.out), (by (with_reducible repeat (first | apply z_kN | apply z_kD | apply z_kA)); exact BK228.out), (by repeat (first | (with_reducible first | exact HB.out | apply z_bA | apply z_bN | apply z_bD | refine z_bS ?_ GE228.out | refine z_bS ?_ GE244.out) | exact HB.out)), z_NB244_243, z_NB243_244, Q_NB245_243, Q_NB243_245, z_NB245_244, z_NB244_245, z_HO231, z_HO235, z_HO238, z_BK243, Q_GW243, Q_GE243, Q_NB228_243, Q_NB243_228, fun _ _ => (by (with_reducible repeat (first | apply z_kN | apply z_kD | apply z_kA)); exact BK244.out), fun _ => GW244.out, fun _ => GE244.out, fun _ => NB228_244.out, fun _ => NB244_228.out, z_BK245, Q_GW245, Q_GE245, Q_NB228_245, Q_NB245_228, fun h0_ => absurd ((hoff 12 (by kernel_rfl)).symm.trans h0_) (by decide), fun h0_ => absurd ((hoff 13 (by kernel_rfl)).symm.trans h0_) (by decide), fun h0_ => absurd ((hoff 14 (by kernel_rfl)).symm.trans h0_) (by decide), Q_X2_, Q_X4_, Q_X5_, Q_X6_, Q_X7_, Q_X9_, fun _ => rfl, Q_X11_⟩
            refine steps_cons ?_ ?_
            ·rintro b a w' ⟨v230, v234, v237, gb243, gb244, gb245, m2_, m4_, m5_, m6_, m7_, m9_, m10_, m11_, ha, Q_HO_229001, Q_HO_6, Q_HO_8, Q_BK228, Q_HB, Q_NB244_243, Q_NB243_244, Q_NB245_243, Q_NB243_245, Q_NB245_244, Q_NB244_245, Q_HO231, Q_HO235, Q_HO238, Q_BK243, Q_GW243, Q_GE243, Q_NB228_243, Q_NB243_228, Q_BK244, Q_GW244, Q_GE244, Q_NB228_244, Q_NB244_228, Q_BK245, Q_GW245, Q_GE245, Q_NB228_245, Q_NB245_228, Q_BK243_e12, Q_BK244_e13, Q_BK245_e14, Q_X2_, Q_X4_, Q_X5_, Q_X6_, Q_X7_, Q_X9_, Q_X10_, Q_X11_⟩ hb_ hon hoff
             refine ⟨_, rfl, fun K hK => ?_⟩
             replace ha := z_aM ha
             have HO_229001 := z_aM Q_HO_229001
             have HO_6 := z_aM Q_HO_6
             have HO_8 := z_aM Q_HO_8
             have BK228 := z_aM Q_BK228
             have HB := z_aM Q_HB
             refine box_step ?hg (N := 14) ?hd (cs := #[.int .i64 0, .int .i64 0, .int .i64 0, .int .i64 0]) (t := 60) ?hr ?_; (case hd => rfl); (case hg => rfl); (case hr => first | (go_simp; done) | (go_simp; rfl))
             intro gb245 hg w22 hbox hb
             have n0_ := z_aM (z_rB (by (with_reducible repeat (first | apply z_rA | apply z_rN | apply z_rD)); exact HO_6.out) hb)
             have n1_ := z_aM (z_rB (by (with_reducible repeat (first | apply z_rA | apply z_rN | apply z_rD)); exact HO_8.out) hb)
             have n2_ := z_aM (z_rB (by (with_reducible repeat (first | apply z_rA | apply z_rN | apply z_rD)); exact HO_229001.out) hb)
             have n3_ := z_aM (z_kB (by (with_reducible repeat (first | apply z_kN | apply z_kD | apply z_kA)); exact BK228.out) hb)
             have n4_ := z_aM (z_bT (by repeat (first | (with_reducible first | exact HB.out | apply z_bA | apply z_bN | apply z_bD | refine z_bS ?_ GE228.out) | exact HB.out)) hb)
             have n5_ := z_aM (hbox)
             have n6_ := z_aM ((by rw [hg]; exact (z_bZ (by repeat (first | (with_reducible first | exact HB.out | apply z_bA | apply z_bN | apply z_bD | refine z_bS ?_ GE228.out) | exact HB.out))) : w.heap.size ≤ gb245))
             have n7_ := z_aM ((by rw [hg]; exact (z_bZ (by repeat (first | (with_reducible first | exact HB.out | apply z_bA | apply z_bN | apply z_bD | refine z_bS ?_ GE228.out) | exact HB.out))) : w.heap.size ≤ gb245))
             have n8_ := z_aM ((by rw [hg]; exact Nat.ne_of_lt (z_kL (by (with_reducible repeat (first | apply z_kN | apply z_kD | apply z_kA)); exact BK228.out)) : gb228 ≠ gb245))
             have n9_ := z_aM ((by rw [hg]; exact Nat.ne_of_gt (z_kL (by (with_reducible repeat (first | apply z_kN | apply z_kD | apply z_kA)); exact BK228.out)) : gb245 ≠ gb228))
             have z_NB245_243 := fun (h0_ : up b 11 9 = true) (h1_ : up b 11 11 = true) => (show gb245 ≠ gb243 from ((by rw [hg]; exact Nat.ne_of_gt (z_kL (by (with_reducible repeat (first | apply z_kN | apply z_kD | apply z_kA)); exact (Q_BK243 (show b 9 = true from h0_) (hoff 12 (by kernel_rfl))))) : gb245 ≠ gb243)))
             have z_NB243_245 := fun (h0_ : up b 11 9 = true) (h1_ : up b 11 11 = true) => (show gb243 ≠ gb245 from ((by rw [hg]; exact Nat.ne_of_lt (z_kL (by (with_reducible repeat (first | apply z_kN | apply z_kD | apply z_kA)); exact (Q_BK243 (show b 9 = true from h0_) (hoff 12 (by kernel_rfl))))) : gb243 ≠ gb245)))
             have z_NB245_244 := fun (h0_ : up b 11 10 = true) (h1_ : up b 11 11 = true) => (show gb245 ≠ gb244 from ((by rw [hg]; exact Nat.ne_of_gt (z_kL (by (with_reducible repeat (first | apply z_kN | apply z_kD | apply z_kA)); exact (Q_BK244 (show b 10 = true from h0_) (hoff 13 (by kernel_rfl))))) : gb245 ≠ gb244)))
             have z_NB244_245 := fun (h0_ : up b 11 10 = true) (h1_ : up b 11 11 = true) => (show gb244 ≠ gb245 from ((by rw [hg]; exact Nat.ne_of_lt (z_kL (by (with_reducible repeat (first | apply z_kN | apply z_kD | apply z_kA)); exact (Q_BK244 (show b 10 = true from h0_) (hoff 13 (by kernel_rfl))))) : gb244 ≠ gb245)))
             have z_HO231 := fun (h0_ : b 2 = true) => (show Kd.R (Kd.int .i64) 3 w22 w.heap.size (fun k_ => some k_ ≠ (.slice Ao21 x229001_2.length co21 : Value).ownBlock ∧ some k_ ≠ (.slice (some ad224) x6_1.length co13 : Value).ownBlock) v230 t229 from by first | exact (z_rB (by (with_reducible repeat (first | apply z_rA | apply z_rN | apply z_rD)); exact (Q_HO231 h0_)) hb) | exact z_rM (z_rB (by (with_reducible repeat (first | apply z_rA | apply z_rN | apply z_rD)); exact (Q_HO231 h0_)) hb) (fun _ h_ => by first | trivial | exact h_ | exact h_.1))
             have z_HO235 := fun (h0_ : b 4 = true) => (show Kd.R (Kd.int .i64) 3 w22 w.heap.size (fun k_ => some k_ ≠ (.slice Ao21 x229001_2.length co21 : Value).ownBlock ∧ some k_ ≠ (.slice (some ad224) x6_1.length co13 : Value).ownBlock) v234 t233 from by first | exact (z_rB (by (with_reducible repeat (first | apply z_rA | apply z_rN | apply z_rD)); exact (Q_HO235 h0_)) hb) | exact z_rM (z_rB (by (with_reducible repeat (first | apply z_rA | apply z_rN | apply z_rD)); exact (Q_HO235 h0_)) hb) (fun _ h_ => by first | trivial | exact h_ | exact h_.1))
             have z_HO238 := fun (h0_ : b 4 = true) => (show Kd.R (Kd.int .i64) 3 w22 w.heap.size (fun k_ => some k_ ≠ (.slice Ao21 x229001_2.length co21 : Value).ownBlock ∧ some k_ ≠ (.slice (some ad224) x6_1.length co13 : Value).ownBlock) v237 t236 from by first | exact (z_rB (by (with_reducible repeat (first | apply z_rA | apply z_rN | apply z_rD)); exact (Q_HO238 h0_)) hb) | exact z_rM (z_rB (by (with_reducible repeat (first | apply z_rA | apply z_rN | apply z_rD)); exact (Q_HO238 h0_)) hb) (fun _ h_ => by first | trivial | exact h_ | exact h_.1))
             have z_BK243 := fun (h0_ : b 9 = true) (h1_ : b 12 = false) => (show w22.heap[gb243]? = some (.cells #[.int .i64 0, .slice none 0 0] 52 (0, 0)) from by first | exact (z_kB (by (with_reducible repeat (first | apply z_kN | apply z_kD | apply z_kA)); exact (Q_BK243 h0_ h1_)) hb))
             have z_BK244 := fun (h0_ : b 10 = true) (h1_ : b 13 = false) => (show w22.heap[gb244]? = some (.cells #[.slice none 0 0] 29 (0, 0)) from by first | exact (z_kB (by (with_reducible repeat (first | apply z_kN | apply z_kD | apply z_kA)); exact (Q_BK244 h0_ h1_)) hb))
             clear HO_6
             clear HO_8
             clear HO_229001
             clear BK228
             clear HB
             have HO_6 := n0_
             have HO_8 := n1_
             have HO_229001 := n2_
             have BK228 := n3_
             have HB := n4_
             have BK245 := n5_
             have GW245 := n6_
             have GE245 := n7_
             have NB228_245 := n8_
             have NB245_228 := n9_
             clear n0_ n1_ n2_ n3_ n4_ n5_ n6_ n7_ n8_ n9_
             clear hb hbox hg
             refine hK.out _ _ ⟨v230, v234, v237, gb243, gb244, gb245, m2_, m4_, m5_, m6_, m7_, m9_, m10_, (.pointer (some ⟨gb245, 0, none⟩)), (by rw [ha.out]; exact putSel_upk 10 hb_ rfl rfl rfl), (by (with_reducible repeat (first | apply z_rA | apply z_rN | apply z_rD)); exact HO_229001.out), (by (with_reducible repeat (first | apply z_rA | apply z_rN | apply z_rD)); exact HO_6.out), (by (with_reducible repeat (first | apply z_rA | apply z_rN | apply z_rD)); exact HO_8.out), (by (with_reducible repeat (first | apply z_kN | apply z_kD | apply z_kA)); exact BK228.out), (by repeat (first | (with_reducible first | exact HB.out | apply z_bA | apply z_bN | apply z_bD | refine z_bS ?_ GE228.out | refine z_bS ?_ GE245.out) | exact HB.out)), Q_NB244_243, Q_NB243_244, z_NB245_243, z_NB243_245, z_NB245_244, z_NB244_245, z_HO231, z_HO235, z_HO238, z_BK243, Q_GW243, Q_GE243, Q_NB228_243, Q_NB243_228, z_BK244, Q_GW244, Q_GE244, Q_NB228_244, Q_NB244_228, fun _ _ => (by (with_reducible repeat (first | apply z_kN | apply z_kD | apply z_kA)); exact BK245.out), fun _ => GW245.out, fun _ => GE245.out, fun _ => NB228_245.out, fun _ => NB245_228.out, fun h0_ => absurd ((hoff 12 (by kernel_rfl)).symm.trans h0_) (by decide), fun h0_ => absurd ((hoff 13 (by kernel_rfl)).symm.trans h0_) (by decide), fun h0_ => absurd ((hoff 14 (by kernel_rfl)).symm.trans h0_) (by decide), Q_X2_, Q_X4_, Q_X5_, Q_X6_, Q_X7_, Q_X9_, Q_X10_, fun _ => rfl⟩
            refine steps_cons ?_ ?_
            ·rintro b a w' ⟨v230, v234, v237, gb243, gb244, gb245, m2_, m4_, m5_, m6_, m7_, m9_, m10_, m11_, ha, Q_HO_229001, Q_HO_6, Q_HO_8, Q_BK228, Q_HB, Q_NB244_243, Q_NB243_244, Q_NB245_243, Q_NB243_245, Q_NB245_244, Q_NB244_245, Q_HO231, Q_HO235, Q_HO238, Q_BK243, Q_GW243, Q_GE243, Q_NB228_243, Q_NB243_228, Q_BK244, Q_GW244, Q_GE244, Q_NB228_244, Q_NB244_228, Q_BK245, Q_GW245, Q_GE245, Q_NB228_245, Q_NB245_228, Q_BK243_e12, Q_BK244_e13, Q_BK245_e14, Q_X2_, Q_X4_, Q_X5_, Q_X6_, Q_X7_, Q_X9_, Q_X10_, Q_X11_⟩ hb_ hon hoff
             refine ⟨_, rfl, fun K hK => ?_⟩
             have e12 : a.tmps[12]? = some (m9_) := by rw [ha]; exact putSel_on (e := (9, 12, m9_)) 8 rfl rfl (hon 9 (by kernel_rfl)) rfl
             rw [Q_X9_ (hon 9 (by kernel_rfl))] at e12
             have e56 : a.tmps[56]? = some (m6_) := by rw [ha]; exact putSel_on (e := (6, 56, m6_)) 5 rfl rfl (hon 6 (by kernel_rfl)) rfl
             rw [Q_X6_ (hon 6 (by kernel_rfl))] at e56
             replace ha := z_aM ha
             have HO_229001 := z_aM Q_HO_229001
             have HO_6 := z_aM Q_HO_6
             have HO_8 := z_aM Q_HO_8
             have BK228 := z_aM Q_BK228
             have HB := z_aM Q_HB
             have NB244_243 := z_aM (Q_NB244_243 (hon 9 (by kernel_rfl)) (hon 10 (by kernel_rfl)))
             have NB243_244 := z_aM (Q_NB243_244 (hon 9 (by kernel_rfl)) (hon 10 (by kernel_rfl)))
             have NB245_243 := z_aM (Q_NB245_243 (hon 9 (by kernel_rfl)) (hon 11 (by kernel_rfl)))
             have NB243_245 := z_aM (Q_NB243_245 (hon 9 (by kernel_rfl)) (hon 11 (by kernel_rfl)))
             have NB245_244 := z_aM (Q_NB245_244 (hon 10 (by kernel_rfl)) (hon 11 (by kernel_rfl)))
             have NB244_245 := z_aM (Q_NB244_245 (hon 10 (by kernel_rfl)) (hon 11 (by kernel_rfl)))
             have HO231 := z_aM (Q_HO231 (hon 2 (by kernel_rfl)))
             have HO235 := z_aM (Q_HO235 (hon 4 (by kernel_rfl)))
             have HO238 := z_aM (Q_HO238 (hon 4 (by kernel_rfl)))
             have BK243 := z_aM (Q_BK243 (hon 9 (by kernel_rfl)) hb_)
             have GW243 := z_aM (Q_GW243 (hon 9 (by kernel_rfl)))
             have GE243 := z_aM (Q_GE243 (hon 9 (by kernel_rfl)))
             have NB228_243 := z_aM (Q_NB228_243 (hon 9 (by kernel_rfl)))
             have NB243_228 := z_aM (Q_NB243_228 (hon 9 (by kernel_rfl)))
             have BK244 := z_aM (Q_BK244 (hon 10 (by kernel_rfl)) (hoff 13 (by kernel_rfl)))
             have GW244 := z_aM (Q_GW244 (hon 10 (by kernel_rfl)))
             have GE244 := z_aM (Q_GE244 (hon 10 (by kernel_rfl)))
             have NB228_244 := z_aM (Q_NB228_244 (hon 10 (by kernel_rfl)))
             have NB244_228 := z_aM (Q_NB244_228 (hon 10 (by kernel_rfl)))
             have BK245 := z_aM (Q_BK245 (hon 11 (by kernel_rfl)) (hoff 14 (by kernel_rfl)))
             have GW245 := z_aM (Q_GW245 (hon 11 (by kernel_rfl)))
             have GE245 := z_aM (Q_GE245 (hon 11 (by kernel_rfl)))
             have NB228_245 := z_aM (Q_NB228_245 (hon 11 (by kernel_rfl)))
             have NB245_228 := z_aM (Q_NB245_228 (hon 11 (by kernel_rfl)))
             obtain ⟨Ao32, co32, eo32⟩ := Kd.R_slice HO235.out
             (first | subst eo32 | (injection eo32 with f1_ f2_ f3_; have f4_ := f1_.symm; have f5_ := f3_.symm; clear f1_ f2_ f3_; subst f4_; subst f5_))
             have hs31 : w'.cell? ⟨gb243, 0, none⟩ = some (.int .i64 0) := (z_kC BK243.out 0).trans rfl
             have hfs31 := blk_frozen BK243.out 0
             have hns31_0 := NB228_243.out
             have hns31_2 := NB244_243.out
             have hns31_3 := NB245_243.out
             have hms31_0 := NB243_228.out
             have hms31_2 := NB243_244.out
             have hms31_3 := NB243_245.out
             have hs33 : w'.cell? ⟨gb243, 1, none⟩ = some (.slice none 0 0) := (z_kC BK243.out 1).trans rfl
             have hfs33 := blk_frozen BK243.out 1
             have hns33_0 := NB228_243.out
             have hns33_2 := NB244_243.out
             have hns33_3 := NB245_243.out
             have hms33_0 := NB243_228.out
             have hms33_2 := NB243_244.out
             have hms33_3 := NB243_245.out
             refine skip_ (w1 := ?_) (by rfl) rfl ?_ ?_
             rotate_left
             ·go_simp
              rfl
             refine hK.out _ _ ⟨v230, .slice Ao32 t233.length co32, v237, gb243, gb244, gb245, m2_, m4_, m5_, m6_, m7_, m9_, m10_, m11_, (by rw [ha.out]; exact putSel_none (v := undef) rfl), (by (with_reducible repeat (first | apply z_rA | apply z_rN | apply z_rD)); exact z_rM (Kd.R_far (p := ⟨gb243, 1, none⟩) (Kd.R_far (p := ⟨gb243, 0, none⟩) (Kd.R_types HO_229001.out BK243.out (by decide)) (fun _ hk => hk.2) (.int .i64 t232)) (fun _ hk => hk.2) (.slice Ao32 t233.length co32)) (fun _ hk => hk.1)), (by (with_reducible repeat (first | apply z_rA | apply z_rN | apply z_rD)); exact z_rM (Kd.R_far (p := ⟨gb243, 1, none⟩) (Kd.R_far (p := ⟨gb243, 0, none⟩) (Kd.R_types HO_6.out BK243.out (by decide)) (fun _ hk => hk.2) (.int .i64 t232)) (fun _ hk => hk.2) (.slice Ao32 t233.length co32)) (fun _ hk => hk.1)), (by (with_reducible repeat (first | apply z_rA | apply z_rN | apply z_rD)); exact z_rM (Kd.R_far (p := ⟨gb243, 1, none⟩) (Kd.R_far (p := ⟨gb243, 0, none⟩) (Kd.R_types HO_8.out BK243.out (by decide)) (fun _ hk => hk.2) (.int .i64 t232)) (fun _ hk => hk.2) (.slice Ao32 t233.length co32)) (fun _ hk => trivial)), (by (with_reducible repeat (first | apply z_kN | apply z_kD | apply z_kA)); refine blk_far ?_ NB228_243.out _; (with_reducible repeat (first | apply z_kN | apply z_kD | apply z_kA)); refine blk_far ?_ NB228_243.out _; (with_reducible repeat (first | apply z_kN | apply z_kD | apply z_kA)); exact BK228.out), (by repeat (first | (with_reducible first | exact HB.out | apply z_bA | apply z_bN | apply z_bD | refine z_bS ?_ GE228.out | refine z_bS ?_ GE243.out | refine z_bS ?_ GE244.out | refine z_bS ?_ GE245.out) | exact HB.out)), fun _ _ => NB244_243.out, fun _ _ => NB243_244.out, fun _ _ => NB245_243.out, fun _ _ => NB243_245.out, fun _ _ => NB245_244.out, fun _ _ => NB244_245.out, fun _ => (by (with_reducible repeat (first | apply z_rA | apply z_rN | apply z_rD)); exact z_rM (Kd.R_far (p := ⟨gb243, 1, none⟩) (Kd.R_far (p := ⟨gb243, 0, none⟩) (Kd.R_types HO231.out BK243.out (by decide)) (fun _ hk => hk.2) (.int .i64 t232)) (fun _ hk => hk.2) (.slice Ao32 t233.length co32)) (fun _ hk => hk.1)), fun _ => (by (with_reducible repeat (first | apply z_rA | apply z_rN | apply z_rD)); exact z_rM (Kd.R_far (p := ⟨gb243, 1, none⟩) (Kd.R_far (p := ⟨gb243, 0, none⟩) (Kd.R_types HO235.out BK243.out (by decide)) (fun _ hk => hk.2) (.int .i64 t232)) (fun _ hk => hk.2) (.slice Ao32 t233.length co32)) (fun _ hk => hk.1)), fun _ => (by (with_reducible repeat (first | apply z_rA | apply z_rN | apply z_rD)); exact z_rM (Kd.R_far (p := ⟨gb243, 1, none⟩) (Kd.R_far (p := ⟨gb243, 0, none⟩) (Kd.R_types HO238.out BK243.out (by decide)) (fun _ hk => hk.2) (.int .i64 t232)) (fun _ hk => hk.2) (.slice Ao32 t233.length co32)) (fun _ hk => hk.1)), fun _ h1_ => absurd ((up_self b 12).symm.trans h1_) (by decide), fun _ => GW243.out, fun _ => GE243.out, fun _ => NB228_243.out, fun _ => NB243_228.out, fun _ _ => (by (with_reducible repeat (first | apply z_kN | apply z_kD | apply z_kA)); refine blk_far ?_ NB244_243.out _; (with_reducible repeat (first | apply z_kN | apply z_kD | apply z_kA)); refine blk_far ?_ NB244_243.out _; (with_reducible repeat (first | apply z_kN | apply z_kD | apply z_kA)); exact BK244.out), fun _ => GW244.out, fun _ => GE244.out, fun _ => NB228_244.out, fun _ => NB244_228.out, fun _ _ => (by (with_reducible repeat (first | apply z_kN | apply z_kD | apply z_kA)); refine blk_far ?_ NB245_243.out _; (with_reducible repeat (first | apply z_kN | apply z_kD | apply z_kA)); refine blk_far ?_ NB245_243.out _; (with_reducible repeat (first | apply z_kN | apply z_kD | apply z_kA)); exact BK245.out), fun _ => GW245.out, fun _ => GE245.out, fun _ => NB228_245.out, fun _ => NB245_228.out, fun _ => (by (with_reducible repeat (first | apply z_kN | apply z_kD | apply z_kA)); refine blk_put (cs := #[.int .i64 t232, .slice none 0 0]) ?_ 1 _ rfl; (with_reducible repeat (first | apply z_kN | apply z_kD | apply z_kA)); refine blk_put (cs := #[.int .i64 0, .slice none 0 0]) ?_ 0 _ rfl; (with_reducible repeat (first | apply z_kN | apply z_kD | apply z_kA)); exact BK243.out), fun h0_ => absurd ((hoff 13 (by kernel_rfl)).symm.trans h0_) (by decide), fun h0_ => absurd ((hoff 14 (by kernel_rfl)).symm.trans h0_) (by decide), Q_X2_, Q_X4_, Q_X5_, Q_X6_, Q_X7_, Q_X9_, Q_X10_, Q_X11_⟩
            refine steps_cons ?_ ?_
            ·rintro b a w' ⟨v230, v234, v237, gb243, gb244, gb245, m2_, m4_, m5_, m6_, m7_, m9_, m10_, m11_, ha, Q_HO_229001, Q_HO_6, Q_HO_8, Q_BK228, Q_HB, Q_NB244_243, Q_NB243_244, Q_NB245_243, Q_NB243_245, Q_NB245_244, Q_NB244_245, Q_HO231, Q_HO235, Q_HO238, Q_BK243, Q_GW243, Q_GE243, Q_NB228_243, Q_NB243_228, Q_BK244, Q_GW244, Q_GE244, Q_NB228_244, Q_NB244_228, Q_BK245, Q_GW245, Q_GE245, Q_NB228_245, Q_NB245_228, Q_BK243_e12, Q_BK244_e13, Q_BK245_e14, Q_X2_, Q_X4_, Q_X5_, Q_X6_, Q_X7_, Q_X9_, Q_X10_, Q_X11_⟩ hb_ hon hoff
             refine ⟨_, rfl, fun K hK => ?_⟩
             have e13 : a.tmps[13]? = some (m10_) := by rw [ha]; exact putSel_on (e := (10, 13, m10_)) 9 rfl rfl (hon 10 (by kernel_rfl)) rfl
             rw [Q_X10_ (hon 10 (by kernel_rfl))] at e13
             have e57 : a.tmps[57]? = some (m7_) := by rw [ha]; exact putSel_on (e := (7, 57, m7_)) 6 rfl rfl (hon 7 (by kernel_rfl)) rfl
             rw [Q_X7_ (hon 7 (by kernel_rfl))] at e57
             replace ha := z_aM ha
             have HO_229001 := z_aM Q_HO_229001
             have HO_6 := z_aM Q_HO_6
             have HO_8 := z_aM Q_HO_8
             have BK228 := z_aM Q_BK228
             have HB := z_aM Q_HB
             have NB244_243 := z_aM (Q_NB244_243 (hon 9 (by kernel_rfl)) (hon 10 (by kernel_rfl)))
             have NB243_244 := z_aM (Q_NB243_244 (hon 9 (by kernel_rfl)) (hon 10 (by kernel_rfl)))
             have NB245_243 := z_aM (Q_NB245_243 (hon 9 (by kernel_rfl)) (hon 11 (by kernel_rfl)))
             have NB243_245 := z_aM (Q_NB243_245 (hon 9 (by kernel_rfl)) (hon 11 (by kernel_rfl)))
             have NB245_244 := z_aM (Q_NB245_244 (hon 10 (by kernel_rfl)) (hon 11 (by kernel_rfl)))
             have NB244_245 := z_aM (Q_NB244_245 (hon 10 (by kernel_rfl)) (hon 11 (by kernel_rfl)))
             have HO231 := z_aM (Q_HO231 (hon 2 (by kernel_rfl)))
             have HO235 := z_aM (Q_HO235 (hon 4 (by kernel_rfl)))
             have HO238 := z_aM (Q_HO238 (hon 4 (by kernel_rfl)))
             have GW243 := z_aM (Q_GW243 (hon 9 (by kernel_rfl)))
             have GE243 := z_aM (Q_GE243 (hon 9 (by kernel_rfl)))
             have NB228_243 := z_aM (Q_NB228_243 (hon 9 (by kernel_rfl)))
             have NB243_228 := z_aM (Q_NB243_228 (hon 9 (by kernel_rfl)))
             have BK244 := z_aM (Q_BK244 (hon 10 (by kernel_rfl)) hb_)
             have GW244 := z_aM (Q_GW244 (hon 10 (by kernel_rfl)))
             have GE244 := z_aM (Q_GE244 (hon 10 (by kernel_rfl)))
             have NB228_244 := z_aM (Q_NB228_244 (hon 10 (by kernel_rfl)))
             have NB244_228 := z_aM (Q_NB244_228 (hon 10 (by kernel_rfl)))
             have BK245 := z_aM (Q_BK245 (hon 11 (by kernel_rfl)) (hoff 14 (by kernel_rfl)))
             have GW245 := z_aM (Q_GW245 (hon 11 (by kernel_rfl)))
             have GE245 := z_aM (Q_GE245 (hon 11 (by kernel_rfl)))
             have NB228_245 := z_aM (Q_NB228_245 (hon 11 (by kernel_rfl)))
             have NB245_228 := z_aM (Q_NB245_228 (hon 11 (by kernel_rfl)))
             have BK243 := z_aM (Q_BK243_e12 (hon 12 (by kernel_rfl)))
             obtain ⟨Ao34, co34, eo34⟩ := Kd.R_slice HO238.out
             (first | subst eo34 | (injection eo34 with f1_ f2_ f3_; have f4_ := f1_.symm; have f5_ := f3_.symm; clear f1_ f2_ f3_; subst f4_; subst f5_))
             have hs35 : w'.cell? ⟨gb244, 0, none⟩ = some (.slice none 0 0) := (z_kC BK244.out 0).trans rfl
             have hfs35 := blk_frozen BK244.out 0
             have hns35_0 := NB228_244.out
             have hns35_1 := NB243_244.out
             have hns35_3 := NB245_244.out
             have hms35_0 := NB244_228.out
             have hms35_1 := NB244_243.out
             have hms35_3 := NB244_245.out
             refine skip_ (w1 := ?_) (by rfl) rfl ?_ ?_
             rotate_left
             ·go_simp
              rfl
             refine hK.out _ _ ⟨v230, v234, .slice Ao34 t236.length co34, gb243, gb244, gb245, m2_, m4_, m5_, m6_, m7_, m9_, m10_, m11_, (by rw [ha.out]; exact putSel_none (v := undef) rfl), (by (with_reducible repeat (first | apply z_rA | apply z_rN | apply z_rD)); exact z_rM (Kd.R_far (p := ⟨gb244, 0, none⟩) (Kd.R_types HO_229001.out BK244.out (by decide)) (fun _ hk => hk.2) (.slice Ao34 t236.length co34)) (fun _ hk => hk.1)), (by (with_reducible repeat (first | apply z_rA | apply z_rN | apply z_rD)); exact z_rM (Kd.R_far (p := ⟨gb244, 0, none⟩) (Kd.R_types HO_6.out BK244.out (by decide)) (fun _ hk => hk.2) (.slice Ao34 t236.length co34)) (fun _ hk => hk.1)), (by (with_reducible repeat (first | apply z_rA | apply z_rN | apply z_rD)); exact z_rM (Kd.R_far (p := ⟨gb244, 0, none⟩) (Kd.R_types HO_8.out BK244.out (by decide)) (fun _ hk => hk.2) (.slice Ao34 t236.length co34)) (fun _ hk => trivial)), (by (with_reducible repeat (first | apply z_kN | apply z_kD | apply z_kA)); refine blk_far ?_ NB228_244.out _; (with_reducible repeat (first | apply z_kN | apply z_kD | apply z_kA)); exact BK228.out), (by repeat (first | (with_reducible first | exact HB.out | apply z_bA | apply z_bN | apply z_bD | refine z_bS ?_ GE228.out | refine z_bS ?_ GE243.out | refine z_bS ?_ GE244.out | refine z_bS ?_ GE245.out) | exact HB.out)), fun _ _ => NB244_243.out, fun _ _ => NB243_244.out, fun _ _ => NB245_243.out, fun _ _ => NB243_245.out, fun _ _ => NB245_244.out, fun _ _ => NB244_245.out, fun _ => (by (with_reducible repeat (first | apply z_rA | apply z_rN | apply z_rD)); exact z_rM (Kd.R_far (p := ⟨gb244, 0, none⟩) (Kd.R_types HO231.out BK244.out (by decide)) (fun _ hk => hk.2) (.slice Ao34 t236.length co34)) (fun _ hk => hk.1)), fun _ => (by (with_reducible repeat (first | apply z_rA | apply z_rN | apply z_rD)); exact z_rM (Kd.R_far (p := ⟨gb244, 0, none⟩) (Kd.R_types HO235.out BK244.out (by decide)) (fun _ hk => hk.2) (.slice Ao34 t236.length co34)) (fun _ hk => hk.1)), fun _ => (by (with_reducible repeat (first | apply z_rA | apply z_rN | apply z_rD)); exact z_rM (Kd.R_far (p := ⟨gb244, 0, none⟩) (Kd.R_types HO238.out BK244.out (by decide)) (fun _ hk => hk.2) (.slice Ao34 t236.length co34)) (fun _ hk => hk.1)), fun _ h1_ => absurd ((hon 12 (by kernel_rfl)).symm.trans h1_) (by decide), fun _ => GW243.out, fun _ => GE243.out, fun _ => NB228_243.out, fun _ => NB243_228.out, fun _ h1_ => absurd ((up_self b 13).symm.trans h1_) (by decide), fun _ => GW244.out, fun _ => GE244.out, fun _ => NB228_244.out, fun _ => NB244_228.out, fun _ _ => (by (with_reducible repeat (first | apply z_kN | apply z_kD | apply z_kA)); refine blk_far ?_ NB245_244.out _; (with_reducible repeat (first | apply z_kN | apply z_kD | apply z_kA)); exact BK245.out), fun _ => GW245.out, fun _ => GE245.out, fun _ => NB228_245.out, fun _ => NB245_228.out, fun _ => (by (with_reducible repeat (first | apply z_kN | apply z_kD | apply z_kA)); refine blk_far ?_ NB243_244.out _; (with_reducible repeat (first | apply z_kN | apply z_kD | apply z_kA)); exact BK243.out), fun _ => (by (with_reducible repeat (first | apply z_kN | apply z_kD | apply z_kA)); refine blk_put (cs := #[.slice none 0 0]) ?_ 0 _ rfl; (with_reducible repeat (first | apply z_kN | apply z_kD | apply z_kA)); exact BK244.out), fun h0_ => absurd ((hoff 14 (by kernel_rfl)).symm.trans h0_) (by decide), Q_X2_, Q_X4_, Q_X5_, Q_X6_, Q_X7_, Q_X9_, Q_X10_, Q_X11_⟩
            refine steps_cons ?_ ?_
            ·rintro b a w' ⟨v230, v234, v237, gb243, gb244, gb245, m2_, m4_, m5_, m6_, m7_, m9_, m10_, m11_, ha, Q_HO_229001, Q_HO_6, Q_HO_8, Q_BK228, Q_HB, Q_NB244_243, Q_NB243_244, Q_NB245_243, Q_NB243_245, Q_NB245_244, Q_NB244_245, Q_HO231, Q_HO235, Q_HO238, Q_BK243, Q_GW243, Q_GE243, Q_NB228_243, Q_NB243_228, Q_BK244, Q_GW244, Q_GE244, Q_NB228_244, Q_NB244_228, Q_BK245, Q_GW245, Q_GE245, Q_NB228_245, Q_NB245_228, Q_BK243_e12, Q_BK244_e13, Q_BK245_e14, Q_X2_, Q_X4_, Q_X5_, Q_X6_, Q_X7_, Q_X9_, Q_X10_, Q_X11_⟩ hb_ hon hoff
             refine ⟨_, rfl, fun K hK => ?_⟩
             have e14 : a.tmps[14]? = some (m11_) := by rw [ha]; exact putSel_on (e := (11, 14, m11_)) 10 rfl rfl (hon 11 (by kernel_rfl)) rfl
             rw [Q_X11_ (hon 11 (by kernel_rfl))] at e14
             have e58 : a.tmps[58]? = some (.agg #[.int .i64 t239, .int .i64 t240, .int .i64 t241, .int .i64 t242]) := by rw [ha]; exact putSel_on (e := (8, 58, .agg #[.int .i64 t239, .int .i64 t240, .int .i64 t241, .int .i64 t242])) 7 rfl rfl (hon 8 (by kernel_rfl)) rfl
             replace ha := z_aM ha
             have HO_229001 := z_aM Q_HO_229001
             have HO_6 := z_aM Q_HO_6
             have HO_8 := z_aM Q_HO_8
             have BK228 := z_aM Q_BK228
             have HB := z_aM Q_HB
             have NB244_243 := z_aM (Q_NB244_243 (hon 9 (by kernel_rfl)) (hon 10 (by kernel_rfl)))
             have NB243_244 := z_aM (Q_NB243_244 (hon 9 (by kernel_rfl)) (hon 10 (by kernel_rfl)))
             have NB245_243 := z_aM (Q_NB245_243 (hon 9 (by kernel_rfl)) (hon 11 (by kernel_rfl)))
             have NB243_245 := z_aM (Q_NB243_245 (hon 9 (by kernel_rfl)) (hon 11 (by kernel_rfl)))
             have NB245_244 := z_aM (Q_NB245_244 (hon 10 (by kernel_rfl)) (hon 11 (by kernel_rfl)))
             have NB244_245 := z_aM (Q_NB244_245 (hon 10 (by kernel_rfl)) (hon 11 (by kernel_rfl)))
             have HO231 := z_aM (Q_HO231 (hon 2 (by kernel_rfl)))
             have HO235 := z_aM (Q_HO235 (hon 4 (by kernel_rfl)))
             have HO238 := z_aM (Q_HO238 (hon 4 (by kernel_rfl)))
             have GW243 := z_aM (Q_GW243 (hon 9 (by kernel_rfl)))
             have GE243 := z_aM (Q_GE243 (hon 9 (by kernel_rfl)))
             have NB228_243 := z_aM (Q_NB228_243 (hon 9 (by kernel_rfl)))
             have NB243_228 := z_aM (Q_NB243_228 (hon 9 (by kernel_rfl)))
             have GW244 := z_aM (Q_GW244 (hon 10 (by kernel_rfl)))
             have GE244 := z_aM (Q_GE244 (hon 10 (by kernel_rfl)))
             have NB228_244 := z_aM (Q_NB228_244 (hon 10 (by kernel_rfl)))
             have NB244_228 := z_aM (Q_NB244_228 (hon 10 (by kernel_rfl)))
             have BK245 := z_aM (Q_BK245 (hon 11 (by kernel_rfl)) hb_)
             have GW245 := z_aM (Q_GW245 (hon 11 (by kernel_rfl)))
             have GE245 := z_aM (Q_GE245 (hon 11 (by kernel_rfl)))
             have NB228_245 := z_aM (Q_NB228_245 (hon 11 (by kernel_rfl)))
             have NB245_228 := z_aM (Q_NB245_228 (hon 11 (by kernel_rfl)))
             have BK243 := z_aM (Q_BK243_e12 (hon 12 (by kernel_rfl)))
             have BK244 := z_aM (Q_BK244_e13 (hon 13 (by kernel_rfl)))
             have hs36 : w'.cell? ⟨gb245, 0, none⟩ = some (.int .i64 0) := (z_kC BK245.out 0).trans rfl
             have hfs36 := blk_frozen BK245.out 0
             have hns36_0 := NB228_245.out
             have hns36_1 := NB243_245.out
             have hns36_2 := NB244_245.out
             have hms36_0 := NB245_228.out
             have hms36_1 := NB245_243.out
             have hms36_2 := NB245_244.out
             have hs37 : w'.cell? ⟨gb245, 1, none⟩ = some (.int .i64 0) := (z_kC BK245.out 1).trans rfl
             have hfs37 := blk_frozen BK245.out 1
             have hns37_0 := NB228_245.out
             have hns37_1 := NB243_245.out
             have hns37_2 := NB244_245.out
             have hms37_0 := NB245_228.out
             have hms37_1 := NB245_243.out
             have hms37_2 := NB245_244.out
             have hs38 : w'.cell? ⟨gb245, 2, none⟩ = some (.int .i64 0) := (z_kC BK245.out 2).trans rfl
             have hfs38 := blk_frozen BK245.out 2
             have hns38_0 := NB228_245.out
             have hns38_1 := NB243_245.out
             have hns38_2 := NB244_245.out
             have hms38_0 := NB245_228.out
             have hms38_1 := NB245_243.out
             have hms38_2 := NB245_244.out
             have hs39 : w'.cell? ⟨gb245, 3, none⟩ = some (.int .i64 0) := (z_kC BK245.out 3).trans rfl
             have hfs39 := blk_frozen BK245.out 3
             have hns39_0 := NB228_245.out
             have hns39_1 := NB243_245.out
             have hns39_2 := NB244_245.out
             have hms39_0 := NB245_228.out
             have hms39_1 := NB245_243.out
             have hms39_2 := NB245_244.out
             refine skip_ (w1 := ?_) (by rfl) rfl ?_ ?_
             rotate_left
             ·go_simp
              rfl
             refine hK.out _ _ ⟨v230, v234, v237, gb243, gb244, gb245, m2_, m4_, m5_, m6_, m7_, m9_, m10_, m11_, (by rw [ha.out]; exact putSel_none (v := undef) rfl), (by (with_reducible repeat (first | apply z_rA | apply z_rN | apply z_rD)); exact z_rM (Kd.R_far (p := ⟨gb245, 3, none⟩) (Kd.R_far (p := ⟨gb245, 2, none⟩) (Kd.R_far (p := ⟨gb245, 1, none⟩) (Kd.R_far (p := ⟨gb245, 0, none⟩) (Kd.R_types HO_229001.out BK245.out (by decide)) (fun _ hk => hk.2) (.int .i64 t239)) (fun _ hk => hk.2) (.int .i64 t240)) (fun _ hk => hk.2) (.int .i64 t241)) (fun _ hk => hk.2) (.int .i64 t242)) (fun _ hk => hk.1)), (by (with_reducible repeat (first | apply z_rA | apply z_rN | apply z_rD)); exact z_rM (Kd.R_far (p := ⟨gb245, 3, none⟩) (Kd.R_far (p := ⟨gb245, 2, none⟩) (Kd.R_far (p := ⟨gb245, 1, none⟩) (Kd.R_far (p := ⟨gb245, 0, none⟩) (Kd.R_types HO_6.out BK245.out (by decide)) (fun _ hk => hk.2) (.int .i64 t239)) (fun _ hk => hk.2) (.int .i64 t240)) (fun _ hk => hk.2) (.int .i64 t241)) (fun _ hk => hk.2) (.int .i64 t242)) (fun _ hk => hk.1)), (by (with_reducible repeat (first | apply z_rA | apply z_rN | apply z_rD)); exact z_rM (Kd.R_far (p := ⟨gb245, 3, none⟩) (Kd.R_far (p := ⟨gb245, 2, none⟩) (Kd.R_far (p := ⟨gb245, 1, none⟩) (Kd.R_far (p := ⟨gb245, 0, none⟩) (Kd.R_types HO_8.out BK245.out (by decide)) (fun _ hk => hk.2) (.int .i64 t239)) (fun _ hk => hk.2) (.int .i64 t240)) (fun _ hk => hk.2) (.int .i64 t241)) (fun _ hk => hk.2) (.int .i64 t242)) (fun _ hk => trivial)), (by (with_reducible repeat (first | apply z_kN | apply z_kD | apply z_kA)); refine blk_far ?_ NB228_245.out _; (with_reducible repeat (first | apply z_kN | apply z_kD | apply z_kA)); refine blk_far ?_ NB228_245.out _; (with_reducible repeat (first | apply z_kN | apply z_kD | apply z_kA)); refine blk_far ?_ NB228_245.out _; (with_reducible repeat (first | apply z_kN | apply z_kD | apply z_kA)); refine blk_far ?_ NB228_245.out _; (with_reducible repeat (first | apply z_kN | apply z_kD | apply z_kA)); exact BK228.out), (by repeat (first | (with_reducible first | exact HB.out | apply z_bA | apply z_bN | apply z_bD | refine z_bS ?_ GE228.out | refine z_bS ?_ GE243.out | refine z_bS ?_ GE244.out | refine z_bS ?_ GE245.out) | exact HB.out)), fun _ _ => NB244_243.out, fun _ _ => NB243_244.out, fun _ _ => NB245_243.out, fun _ _ => NB243_245.out, fun _ _ => NB245_244.out, fun _ _ => NB244_245.out, fun _ => (by (with_reducible repeat (first | apply z_rA | apply z_rN | apply z_rD)); exact z_rM (Kd.R_far (p := ⟨gb245, 3, none⟩) (Kd.R_far (p := ⟨gb245, 2, none⟩) (Kd.R_far (p := ⟨gb245, 1, none⟩) (Kd.R_far (p := ⟨gb245, 0, none⟩) (Kd.R_types HO231.out BK245.out (by decide)) (fun _ hk => hk.2) (.int .i64 t239)) (fun _ hk => hk.2) (.int .i64 t240)) (fun _ hk => hk.2) (.int .i64 t241)) (fun _ hk => hk.2) (.int .i64 t242)) (fun _ hk => hk.1)), fun _ => (by (with_reducible repeat (first | apply z_rA | apply z_rN | apply z_rD)); exact z_rM (Kd.R_far (p := ⟨gb245, 3, none⟩) (Kd.R_far (p := ⟨gb245, 2, none⟩) (Kd.R_far (p := ⟨gb245, 1, none⟩) (Kd.R_far (p := ⟨gb245, 0, none⟩) (Kd.R_types HO235.out BK245.out (by decide)) (fun _ hk => hk.2) (.int .i64 t239)) (fun _ hk => hk.2) (.int .i64 t240)) (fun _ hk => hk.2) (.int .i64 t241)) (fun _ hk => hk.2) (.int .i64 t242)) (fun _ hk => hk.1)), fun _ => (by (with_reducible repeat (first | apply z_rA | apply z_rN | apply z_rD)); exact z_rM (Kd.R_far (p := ⟨gb245, 3, none⟩) (Kd.R_far (p := ⟨gb245, 2, none⟩) (Kd.R_far (p := ⟨gb245, 1, none⟩) (Kd.R_far (p := ⟨gb245, 0, none⟩) (Kd.R_types HO238.out BK245.out (by decide)) (fun _ hk => hk.2) (.int .i64 t239)) (fun _ hk => hk.2) (.int .i64 t240)) (fun _ hk => hk.2) (.int .i64 t241)) (fun _ hk => hk.2) (.int .i64 t242)) (fun _ hk => hk.1)), fun _ h1_ => absurd ((hon 12 (by kernel_rfl)).symm.trans h1_) (by decide), fun _ => GW243.out, fun _ => GE243.out, fun _ => NB228_243.out, fun _ => NB243_228.out, fun _ h1_ => absurd ((hon 13 (by kernel_rfl)).symm.trans h1_) (by decide), fun _ => GW244.out, fun _ => GE244.out, fun _ => NB228_244.out, fun _ => NB244_228.out, fun _ h1_ => absurd ((up_self b 14).symm.trans h1_) (by decide), fun _ => GW245.out, fun _ => GE245.out, fun _ => NB228_245.out, fun _ => NB245_228.out, fun _ => (by (with_reducible repeat (first | apply z_kN | apply z_kD | apply z_kA)); refine blk_far ?_ NB243_245.out _; (with_reducible repeat (first | apply z_kN | apply z_kD | apply z_kA)); refine blk_far ?_ NB243_245.out _; (with_reducible repeat (first | apply z_kN | apply z_kD | apply z_kA)); refine blk_far ?_ NB243_245.out _; (with_reducible repeat (first | apply z_kN | apply z_kD | apply z_kA)); refine blk_far ?_ NB243_245.out _; (with_reducible repeat (first | apply z_kN | apply z_kD | apply z_kA)); exact BK243.out), fun _ => (by (with_reducible repeat (first | apply z_kN | apply z_kD | apply z_kA)); refine blk_far ?_ NB244_245.out _; (with_reducible repeat (first | apply z_kN | apply z_kD | apply z_kA)); refine blk_far ?_ NB244_245.out _; (with_reducible repeat (first | apply z_kN | apply z_kD | apply z_kA)); refine blk_far ?_ NB244_245.out _; (with_reducible repeat (first | apply z_kN | apply z_kD | apply z_kA)); refine blk_far ?_ NB244_245.out _; (with_reducible repeat (first | apply z_kN | apply z_kD | apply z_kA)); exact BK244.out), fun _ => (by (with_reducible repeat (first | apply z_kN | apply z_kD | apply z_kA)); refine blk_put (cs := #[.int .i64 t239, .int .i64 t240, .int .i64 t241, .int .i64 0]) ?_ 3 _ rfl; (with_reducible repeat (first | apply z_kN | apply z_kD | apply z_kA)); refine blk_put (cs := #[.int .i64 t239, .int .i64 t240, .int .i64 0, .int .i64 0]) ?_ 2 _ rfl; (with_reducible repeat (first | apply z_kN | apply z_kD | apply z_kA)); refine blk_put (cs := #[.int .i64 t239, .int .i64 0, .int .i64 0, .int .i64 0]) ?_ 1 _ rfl; (with_reducible repeat (first | apply z_kN | apply z_kD | apply z_kA)); refine blk_put (cs := #[.int .i64 0, .int .i64 0, .int .i64 0, .int .i64 0]) ?_ 0 _ rfl; (with_reducible repeat (first | apply z_kN | apply z_kD | apply z_kA)); exact BK245.out), Q_X2_, Q_X4_, Q_X5_, Q_X6_, Q_X7_, Q_X9_, Q_X10_, Q_X11_⟩
            exact steps_nil
           rintro b a w39 hall ⟨v230, v234, v237, gb243, gb244, gb245, m2_, m4_, m5_, m6_, m7_, m9_, m10_, m11_, ha, Q_HO_229001, Q_HO_6, Q_HO_8, Q_BK228, Q_HB, Q_NB244_243, Q_NB243_244, Q_NB245_243, Q_NB243_245, Q_NB245_244, Q_NB244_245, Q_HO231, Q_HO235, Q_HO238, Q_BK243, Q_GW243, Q_GE243, Q_NB228_243, Q_NB243_228, Q_BK244, Q_GW244, Q_GE244, Q_NB228_244, Q_NB244_228, Q_BK245, Q_GW245, Q_GE245, Q_NB228_245, Q_NB245_228, Q_BK243_e12, Q_BK244_e13, Q_BK245_e14, Q_X2_, Q_X4_, Q_X5_, Q_X6_, Q_X7_, Q_X9_, Q_X10_, Q_X11_⟩
           clear BK228 HB HO_229001 HO_6 HO_8
           have hb0_ := hall 0 (by kernel_rfl)
           have hb2_ := hall 2 (by kernel_rfl)
           have hb3_ := hall 3 (by kernel_rfl)
           have hb4_ := hall 4 (by kernel_rfl)
           have hb5_ := hall 5 (by kernel_rfl)
           have hb6_ := hall 6 (by kernel_rfl)
           have hb7_ := hall 7 (by kernel_rfl)
           have hb8_ := hall 8 (by kernel_rfl)
           have hb9_ := hall 9 (by kernel_rfl)
           have hb10_ := hall 10 (by kernel_rfl)
           have hb11_ := hall 11 (by kernel_rfl)
           have hb12_ := hall 12 (by kernel_rfl)
           have hb13_ := hall 13 (by kernel_rfl)
           have hb14_ := hall 14 (by kernel_rfl)
           subst ha
           obtain rfl := Q_X2_ hb2_
           obtain rfl := Q_X4_ hb4_
           obtain rfl := Q_X5_ hb5_
           obtain rfl := Q_X6_ hb6_
           obtain rfl := Q_X7_ hb7_
           obtain rfl := Q_X9_ hb9_
           obtain rfl := Q_X10_ hb10_
           obtain rfl := Q_X11_ hb11_
           simp only [putSel, hb0_, hb2_, hb3_, hb4_, hb5_, hb6_, hb7_, hb8_, hb9_, hb10_, hb11_, hb12_, hb13_, hb14_, if_true, Act.put, z_lA, z_lZ, z_lS]
           have HO_229001 := z_aM Q_HO_229001
           clear Q_HO_229001
           have HO_6 := z_aM Q_HO_6
           clear Q_HO_6
           have HO_8 := z_aM Q_HO_8
           clear Q_HO_8
           have BK228 := z_aM Q_BK228
           clear Q_BK228
           have HB := z_aM Q_HB
           clear Q_HB
           have NB244_243 := z_aM (Q_NB244_243 hb9_ hb10_)
           clear Q_NB244_243
           have NB243_244 := z_aM (Q_NB243_244 hb9_ hb10_)
           clear Q_NB243_244
           have NB245_243 := z_aM (Q_NB245_243 hb9_ hb11_)
           clear Q_NB245_243
           have NB243_245 := z_aM (Q_NB243_245 hb9_ hb11_)
           clear Q_NB243_245
           have NB245_244 := z_aM (Q_NB245_244 hb10_ hb11_)
           clear Q_NB245_244
           have NB244_245 := z_aM (Q_NB244_245 hb10_ hb11_)
           clear Q_NB244_245
           have HO231 := z_aM (Q_HO231 hb2_)
           clear Q_HO231
           have HO235 := z_aM (Q_HO235 hb4_)
           clear Q_HO235
           have HO238 := z_aM (Q_HO238 hb4_)
           clear Q_HO238
           clear Q_BK243
           have GW243 := z_aM (Q_GW243 hb9_)
           clear Q_GW243
           have GE243 := z_aM (Q_GE243 hb9_)
           clear Q_GE243
           have NB228_243 := z_aM (Q_NB228_243 hb9_)
           clear Q_NB228_243
           have NB243_228 := z_aM (Q_NB243_228 hb9_)
           clear Q_NB243_228
           clear Q_BK244
           have GW244 := z_aM (Q_GW244 hb10_)
           clear Q_GW244
           have GE244 := z_aM (Q_GE244 hb10_)
           clear Q_GE244
           have NB228_244 := z_aM (Q_NB228_244 hb10_)
           clear Q_NB228_244
           have NB244_228 := z_aM (Q_NB244_228 hb10_)
           clear Q_NB244_228
           clear Q_BK245
           have GW245 := z_aM (Q_GW245 hb11_)
           clear Q_GW245
           have GE245 := z_aM (Q_GE245 hb11_)
           clear Q_GE245
           have NB228_245 := z_aM (Q_NB228_245 hb11_)
           clear Q_NB228_245
           have NB245_228 := z_aM (Q_NB245_228 hb11_)
           clear Q_NB245_228
           have BK243 := z_aM (Q_BK243_e12 hb12_)
           clear Q_BK243_e12
           have BK244 := z_aM (Q_BK244_e13 hb13_)
           clear Q_BK244_e13
           have BK245 := z_aM (Q_BK245_e14 hb14_)
           clear Q_BK245_e14
           clear hall hb0_ hb2_ hb3_ hb4_ hb5_ hb6_ hb7_ hb8_ hb9_ hb10_ hb11_ hb12_ hb13_ hb14_
           have hnb40 := NB243_228.out
           have hnc40 := NB228_243.out
           have hnb41 := NB243_244.out
           have hnc41 := NB244_243.out
           have hnb42 := NB243_245.out
           have hnc42 := NB245_243.out
           have hcz43_0 : w39.cell? ⟨gb243, 0, none⟩ = some (.int .i64 t232) := (z_kC BK243.out 0).trans rfl
           have hcz43_1 : w39.cell? ⟨gb243, 1, none⟩ = some (v234) := (z_kC BK243.out 1).trans rfl
           have hfz43_0 := blk_frozen BK243.out 0
           have hfz43_1 := blk_frozen BK243.out 1
           have hnb44 := NB228_244.out
           have hnc44 := NB244_228.out
           have hnb45 := NB228_245.out
           have hnc45 := NB245_228.out
           have hcz46_0 : w39.cell? ⟨gb228, 0, none⟩ = some (.int .i64 x229000_2) := (z_kC BK228.out 0).trans rfl
           have hcz46_1 : w39.cell? ⟨gb228, 1, none⟩ = some (.slice Ao21 x229001_2.length co21) := (z_kC BK228.out 1).trans rfl
           have hfz46_0 := blk_frozen BK228.out 0
           have hfz46_1 := blk_frozen BK228.out 1
           obtain ⟨Ao47, co47, eo47⟩ := Kd.R_slice HO235.out
           subst eo47
           have hnb48 := NB245_244.out
           have hnc48 := NB244_245.out
           have hcz49_0 : w39.cell? ⟨gb245, 0, none⟩ = some (.int .i64 t239) := (z_kC BK245.out 0).trans rfl
           have hcz49_1 : w39.cell? ⟨gb245, 1, none⟩ = some (.int .i64 t240) := (z_kC BK245.out 1).trans rfl
           have hcz49_2 : w39.cell? ⟨gb245, 2, none⟩ = some (.int .i64 t241) := (z_kC BK245.out 2).trans rfl
           have hcz49_3 : w39.cell? ⟨gb245, 3, none⟩ = some (.int .i64 t242) := (z_kC BK245.out 3).trans rfl
           have hfz49_0 := blk_frozen BK245.out 0
           have hfz49_1 := blk_frozen BK245.out 1
           have hfz49_2 := blk_frozen BK245.out 2
           have hfz49_3 := blk_frozen BK245.out 3
           try go_wp2
           go_roundg k2
           case measure => have := HK1.out; have := HK2.out; omega
           case rel => exact ⟨(t242), (wrap64 (x11_2 + 1)), (t232), (t233), (.slice Ao47 t233.length co47), (by first | rfl | (simp; done) | (simp [*]; done)), (by first | rfl | (simp; done) | (simp [*]; done)), H', ⟨by have := HK1.out; have := HK2.out; omega⟩, ⟨by (with_reducible repeat (first | apply z_rA | apply z_rN | apply z_rD)); exact Kd.R_reok (ok := fun k_ => some k_ ≠ (.slice Ao47 t233.length co47 : Value).ownBlock) rfl (Kd.R_far (p := ⟨gb228, 1, none⟩) (Kd.R_far (p := ⟨gb228, 0, none⟩) (Kd.R_types HO_6.out BK228.out (by decide)) (fun _ hk => hk.2) (.int .i64 t232)) (fun _ hk => hk.2) (.slice Ao47 t233.length co47)) (fun k_ e_ e2_ => (HO235.out.1 k_ e2_.symm).2 e_.symm)⟩, ⟨by (with_reducible repeat (first | apply z_rA | apply z_rN | apply z_rD)); exact z_rM (Kd.R_far (p := ⟨gb228, 1, none⟩) (Kd.R_far (p := ⟨gb228, 0, none⟩) (Kd.R_types HO_8.out BK228.out (by decide)) (fun _ hk => hk.2) (.int .i64 t232)) (fun _ hk => hk.2) (.slice Ao47 t233.length co47)) (fun _ hk => trivial)⟩, ⟨by (with_reducible repeat (first | apply z_rA | apply z_rN | apply z_rD)); exact z_rM (Kd.R_far (p := ⟨gb228, 1, none⟩) (Kd.R_far (p := ⟨gb228, 0, none⟩) (Kd.R_types HO235.out BK228.out (by decide)) (fun _ hk => hk.2) (.int .i64 t232)) (fun _ hk => hk.2) (.slice Ao47 t233.length co47)) (fun _ hk => hk.1.2)⟩, ⟨by (with_reducible repeat (first | apply z_kN | apply z_kD | apply z_kA)); refine blk_put (cs := #[.int .i64 t232, .slice Ao21 x229001_2.length co21]) ?_ 1 _ rfl; (with_reducible repeat (first | apply z_kN | apply z_kD | apply z_kA)); refine blk_put (cs := #[.int .i64 x229000_2, .slice Ao21 x229001_2.length co21]) ?_ 0 _ rfl; (with_reducible repeat (first | apply z_kN | apply z_kD | apply z_kA)); exact BK228.out⟩, ⟨by repeat (first | (with_reducible first | exact HB.out | apply z_bA | apply z_bN | apply z_bD | refine z_bS ?_ GE228.out | refine z_bS ?_ GE243.out | refine z_bS ?_ GE244.out | refine z_bS ?_ GE245.out) | exact HB.out)⟩⟩
          ·rw [if_neg c18] at H
           have c18b0 : decide (x11_2 < 3) = false := decide_eq_false c18
           clear c18
           have HC50 := z_aM H
           clear H
           go_upto_region 19 with (fail)
           go_cut [70] (fun v70 wc => ∃ (kq : Nat) (x70_49 : Bool), v70 = .bool x70_49 ∧ Aside0 (laws_FnSumsOf.j2 kq (Int.tmod (rd t216 0) 256) (Int.tmod (rd t216 1) 256) x6_1 x7_1 x10_2 x70_49 x229000_2 x229001_2 = some r) ∧ Aside0 (kq ≤ k2) ∧ Aside0 (Kd.R (Kd.int .i64) 3 wc w.heap.size (fun k_ => some k_ ≠ (u229001 : Value).ownBlock) (.slice (some ad224) x6_1.length co13) x6_1) ∧ Aside0 (Kd.R (Kd.int .i64) 3 wc w.heap.size (fun k_ => some k_ ≠ ((.slice (some ad224) x6_1.length co13) : Value).ownBlock) u229001 x229001_2) ∧ Aside0 (wc.heap[gb228]? = some (.cells #[.int .i64 x229000_2, u229001] 52 (0, 0))) ∧ Aside0 (Below w.heap.size w wc))
           case first =>
            have H := HC50.out
            clear HC50
            by_cases c51 : 0 ≤ x7_1
            ·rw [if_pos c51] at H
             have c51b0 : decide (0 ≤ x7_1) = true := decide_eq_true c51
             clear c51
             (first | rw [c51b0] | (simp only [i64_w, i32_w]; rw [c51b0]) | skip)
             by_cases c52 : x7_1 < (x6_1.length : Int)
             ·rw [if_pos c52] at H
              have c52b0 : decide (x7_1 < (x6_1.length : Int)) = true := decide_eq_true c52
              clear c52
              by_cases c53 : (rd x6_1 x7_1) = 7
              ·rw [if_pos c53] at H
               have c53b0 : ((rd x6_1 x7_1) == 7) = true := beq_iff_eq.mpr c53
               have c53b1 : ((rd x6_1 x7_1) != 7) = false := bne_eq_false_iff_eq.mpr c53
               clear c53
               have H' := z_aM H
               clear H
               have p246 : 0 ≤ (x7_1 : Int) := of_decide_eq_true (by first | (with_reducible assumption) | assumption)
               have q246 : x7_1 < (x6_1.length : Int) := of_decide_eq_true (by first | (with_reducible assumption) | assumption)
               obtain ⟨ad246, e246, hx246_0⟩ := Kd.at_int (Kd.R_reads' HO_6.out).2.2 x7_1 p246 q246
               obtain rfl : ad224 = ad246 := (by injection e246)
               replace p246 := eq_true p246
               replace q246 := eq_true q246
               go_wp2
               go_meet
               case rel => exact ⟨_, (((Int.tmod (rd t216 1) 256) == 0)), (by first | rfl | (simp; done) | (simp [*]; done)), H', ⟨by have := HK1.out; have := HK2.out; first | omega | exact Nat.le_refl _⟩, ⟨by (with_reducible repeat (first | apply z_rA | apply z_rN | apply z_rD)); exact HO_6.out⟩, ⟨by (with_reducible repeat (first | apply z_rA | apply z_rN | apply z_rD)); exact HO_229001.out⟩, ⟨by (with_reducible repeat (first | apply z_kN | apply z_kD | apply z_kA)); exact BK228.out⟩, ⟨by repeat (first | (with_reducible first | exact HB.out | apply z_bA | apply z_bN | apply z_bD | refine z_bS ?_ GE228.out) | exact HB.out)⟩⟩
              ·rw [if_neg c53] at H
               have c53b0 : ((rd x6_1 x7_1) == 7) = false := beq_eq_false_iff_ne.mpr c53
               have c53b1 : ((rd x6_1 x7_1) != 7) = true := bne_iff_ne.mpr c53
               have H' := z_aM H
               clear H
               have p246 : 0 ≤ (x7_1 : Int) := of_decide_eq_true (by first | (with_reducible assumption) | assumption)
               have q246 : x7_1 < (x6_1.length : Int) := of_decide_eq_true (by first | (with_reducible assumption) | assumption)
               obtain ⟨ad246, e246, hx246_0⟩ := Kd.at_int (Kd.R_reads' HO_6.out).2.2 x7_1 p246 q246
               obtain rfl : ad224 = ad246 := (by injection e246)
               replace p246 := eq_true p246
               replace q246 := eq_true q246
               go_wp2
               go_meet
               case rel => exact ⟨_, (false), (by first | rfl | (simp; done) | (simp [*]; done)), H', ⟨by have := HK1.out; have := HK2.out; first | omega | exact Nat.le_refl _⟩, ⟨by (with_reducible repeat (first | apply z_rA | apply z_rN | apply z_rD)); exact HO_6.out⟩, ⟨by (with_reducible repeat (first | apply z_rA | apply z_rN | apply z_rD)); exact HO_229001.out⟩, ⟨by (with_reducible repeat (first | apply z_kN | apply z_kD | apply z_kA)); exact BK228.out⟩, ⟨by repeat (first | (with_reducible first | exact HB.out | apply z_bA | apply z_bN | apply z_bD | refine z_bS ?_ GE228.out) | exact HB.out)⟩⟩
             ·rw [if_neg c52] at H
              exact absurd H (by simp)
            ·rw [if_neg c51] at H
             exact absurd H (by simp)
           case rest =>
            clear HC50
            try clear c1
            try clear p2
            try clear q2
            try clear hx2
            try clear c4
            try clear c5
            try clear p6
            try clear c18
            try clear c18b0
            try clear p24
            try clear q24
            try clear hx24
            try clear c40
            try clear c41
            try clear c42
            try clear c44
            try clear c45
            try clear c48
            try clear c51
            try clear c51b0
            try clear c52
            try clear c52b0
            try clear c53
            try clear c53b0
            try clear c53b1
            try clear hcz43_0
            try clear hcz43_1
            try clear hcz46_0
            try clear hcz46_1
            try clear hcz49_0
            try clear hcz49_1
            try clear hcz49_2
            try clear hcz49_3
            try clear hfz43_0
            try clear hfz43_1
            try clear hfz46_0
            try clear hfz46_1
            try clear hfz49_0
            try clear hfz49_1
            try clear hfz49_2
            try clear hfz49_3
            try clear hx246_0
            try clear p246
            try clear q246
            obtain ⟨kq, x70_49, rfl, HA, HJ49, HO_6, HO_229001, BK228, HB⟩ := hcut
            cases kq with
            | zero => exact absurd HA.out (by simp [laws_FnSumsOf.j2])
            | succ kj49 =>
             have H := HA.out
             clear HA
             simp only [laws_FnSumsOf.j2] at H
             by_cases c54 : x70_49 = true
             ·subst c54
              have H1 : (if x10_2 = 3 then (laws_FnSumsOf.l0 kj49 (Int.tmod (rd t216 0) 256) (Int.tmod (rd t216 1) 256) x6_1 (wrap64 (x7_1 + 1))) else (some false)) = some r := by rw [if_pos rfl] at H; exact H
              clear H
              have H := H1
              clear H1
              by_cases c55 : x10_2 = 3
              ·rw [if_pos c55] at H
               have c55b0 : (x10_2 == 3) = true := beq_iff_eq.mpr c55
               have c55b1 : (x10_2 != 3) = false := bne_eq_false_iff_eq.mpr c55
               clear c55
               have H' := z_aM H
               clear H
               go_wp2
               go_roundg kj49
               case measure => have := HK1.out; have := HK2.out; have := HJ49.out; omega
               case rel => exact ⟨(x6_1), (wrap64 (x7_1 + 1)), (by first | rfl | (simp; done) | (simp [*]; done)), H', ⟨by have := HK1.out; have := HK2.out; have := HJ49.out; omega⟩, ⟨by (with_reducible repeat (first | apply z_rA | apply z_rN | apply z_rD)); exact z_rM HO_6.out (fun _ hk => trivial)⟩, ⟨by repeat (first | (with_reducible first | exact HB.out | apply z_bA | apply z_bN | apply z_bD | refine z_bS ?_ GE228.out) | exact HB.out)⟩⟩
              ·rw [if_neg c55] at H
               have c55b0 : (x10_2 == 3) = false := beq_eq_false_iff_ne.mpr c55
               have c55b1 : (x10_2 != 3) = true := bne_iff_ne.mpr c55
               exact absurd (Option.some.inj H) (by rw [hrt.out]; decide)
             ·replace c54 := Bool.eq_false_iff.mpr c54
              subst c54
              have H1 : ((some (([wrap64 ((Int.tmod (rd t216 0) 256) + (Int.tmod (rd t216 1) 256)), Int.tmod (wrap64 ((wrap64 ((Int.tmod (rd t216 0) 256) - (Int.tmod (rd t216 1) 256))) + 65536)) 65536, Int.tmod (wrap64 ((Int.tmod (rd t216 0) 256) * (Int.tmod (rd t216 1) 256))) 65536, 0, 0] : List Int) : List Int)).bind fun y247 => (if (Int.tmod (rd t216 1) 256) > 0 then (if (Int.tmod (rd t216 1) 256) = 0 then (none) else (if 3 < (y247.length : Int) then (laws_FnSumsOf.j3 kj49 (Int.tmod (rd t216 0) 256) (Int.tmod (rd t216 1) 256) x6_1 x7_1 x10_2 (y247.set (3 : Int).toNat (wrap64 (Int.tdiv (Int.tmod (rd t216 0) 256) (Int.tmod (rd t216 1) 256)))) x229000_2 x229001_2) else (none))) else (laws_FnSumsOf.j3 kj49 (Int.tmod (rd t216 0) 256) (Int.tmod (rd t216 1) 256) x6_1 x7_1 x10_2 y247 x229000_2 x229001_2))) = some r := by rw [if_neg (show ¬ (false = true) by decide)] at H; exact H
              clear H
              have H := H1
              clear H1
              obtain ⟨y247, hy247⟩ : ∃ y_ : List Int, y_ = (([wrap64 ((Int.tmod (rd t216 0) 256) + (Int.tmod (rd t216 1) 256)), Int.tmod (wrap64 ((wrap64 ((Int.tmod (rd t216 0) 256) - (Int.tmod (rd t216 1) 256))) + 65536)) 65536, Int.tmod (wrap64 ((Int.tmod (rd t216 0) 256) * (Int.tmod (rd t216 1) 256))) 65536, 0, 0] : List Int)) := ⟨_, rfl⟩
              replace H : (if (Int.tmod (rd t216 1) 256) > 0 then (if (Int.tmod (rd t216 1) 256) = 0 then (none) else (if 3 < (y247.length : Int) then (laws_FnSumsOf.j3 kj49 (Int.tmod (rd t216 0) 256) (Int.tmod (rd t216 1) 256) x6_1 x7_1 x10_2 (y247.set (3 : Int).toNat (wrap64 (Int.tdiv (Int.tmod (rd t216 0) 256) (Int.tmod (rd t216 1) 256)))) x229000_2 x229001_2) else (none))) else (laws_FnSumsOf.j3 kj49 (Int.tmod (rd t216 0) 256) (Int.tmod (rd t216 1) 256) x6_1 x7_1 x10_2 y247 x229000_2 x229001_2)) = some r := by first | (rw [hy247]; with_reducible exact H) | (have H2_ := (Option.bind_some _ _).symm.trans H; rw [hy247]; with_reducible exact H2_) | (have H2_ := (Option.bind_some _ _).symm.trans H; with_reducible exact H2_) | with_reducible exact H | (rw [hy247]; exact H) | exact H
              have Ny247 := z_aM hy247
              clear hy247
              have HC56 := z_aM H
              clear H
              go_upto_if 87 with (first | ((with_reducible refine gate_dst (N := 85) rfl ?_); (try (refine gate_guard (by rfl) ?_; dsimp only)); refine Kd.R_lit (Kd.int .i64) _ 3 ?hg (N := 85) ?hd (xs := ([wrap64 ((Int.tmod (rd t216 0) 256) + (Int.tmod (rd t216 1) 256)), Int.tmod (wrap64 ((wrap64 ((Int.tmod (rd t216 0) 256) - (Int.tmod (rd t216 1) 256))) + 65536)) 65536, Int.tmod (wrap64 ((Int.tmod (rd t216 0) 256) * (Int.tmod (rd t216 1) 256))) 65536, 0, 0] : List Int)) (inner := [.int .i64 (wrap64 ((Int.tmod (rd t216 0) 256) + (Int.tmod (rd t216 1) 256))), .int .i64 (Int.tmod (wrap64 ((wrap64 ((Int.tmod (rd t216 0) 256) - (Int.tmod (rd t216 1) 256))) + 65536)) 65536), .int .i64 (Int.tmod (wrap64 ((Int.tmod (rd t216 0) 256) * (Int.tmod (rd t216 1) 256))) 65536), .int .i64 0, .int .i64 0]) (ok := fun _ => True) (okp := fun _ => True) ?hr ?hp (fun _ hk => hk) trivial (Below.refl _ _) (Nat.le_refl _) (by simp) ?_; (case hd => rfl); (case hg => rfl); (case hr => first | (go_simp; done) | (go_simp; rfl)); (case hp => exact (Reps.one (show Kd.M (Kd.int .i64) _ _ _ (wrap64 ((Int.tmod (rd t216 0) 256) + (Int.tmod (rd t216 1) 256))) [.int .i64 (wrap64 ((Int.tmod (rd t216 0) 256) + (Int.tmod (rd t216 1) 256)))] from rfl) (Reps.one (show Kd.M (Kd.int .i64) _ _ _ (Int.tmod (wrap64 ((wrap64 ((Int.tmod (rd t216 0) 256) - (Int.tmod (rd t216 1) 256))) + 65536)) 65536) [.int .i64 (Int.tmod (wrap64 ((wrap64 ((Int.tmod (rd t216 0) 256) - (Int.tmod (rd t216 1) 256))) + 65536)) 65536)] from rfl) (Reps.one (show Kd.M (Kd.int .i64) _ _ _ (Int.tmod (wrap64 ((Int.tmod (rd t216 0) 256) * (Int.tmod (rd t216 1) 256))) 65536) [.int .i64 (Int.tmod (wrap64 ((Int.tmod (rd t216 0) 256) * (Int.tmod (rd t216 1) 256))) 65536)] from rfl) (Reps.one (show Kd.M (Kd.int .i64) _ _ _ 0 [.int .i64 0] from rfl) (Reps.one (show Kd.M (Kd.int .i64) _ _ _ 0 [.int .i64 0] from rfl) (Reps.none _ _))))))); intro v248 w57 ho58 hb hg_ hnew_; clear hg_ hnew_; (first | rw [← Ny247.out] at ho58 | (simp only [Int.reduceToNat] at ho58; rw [← Ny247.out] at ho58)); replace HO249 := z_aM (Kd.R_lower (Kd.R_new' (Kd.R_new' ho58 (z_rL (by (with_reducible repeat (first | apply z_rA | apply z_rN | apply z_rD)); exact HO_6.out))) (z_rL (by (with_reducible repeat (first | apply z_rA | apply z_rN | apply z_rD)); exact HO_229001.out))) (z_bZ (by repeat (first | (with_reducible first | exact HB.out | apply z_bA | apply z_bN | apply z_bD | refine z_bS ?_ GE228.out) | exact HB.out)))); replace HO_6 := z_aM (Kd.R_elder' (by (with_reducible repeat (first | apply z_rA | apply z_rN | apply z_rD)); exact HO_6.out) (Kd.R_base ho58) hb); replace HO_229001 := z_aM (Kd.R_elder' (by (with_reducible repeat (first | apply z_rA | apply z_rN | apply z_rD)); exact HO_229001.out) (Kd.R_base ho58) hb); replace BK228 := z_aM (z_kB (by (with_reducible repeat (first | apply z_kN | apply z_kD | apply z_kA)); exact BK228.out) hb); replace HB := z_aM (z_bT (by repeat (first | (with_reducible first | exact HB.out | apply z_bA | apply z_bN | apply z_bD | refine z_bS ?_ GE228.out) | exact HB.out)) hb); clear hb ho58))
              (try simp only [Act.put, z_lA, z_lZ, z_lS])
              go_cut [] (fun wc => ∃ (kq : Nat) (x15_55 : List Int), Aside0 (laws_FnSumsOf.j3 kq (Int.tmod (rd t216 0) 256) (Int.tmod (rd t216 1) 256) x6_1 x7_1 x10_2 x15_55 x229000_2 x229001_2 = some r) ∧ Aside0 (kq ≤ kj49) ∧ Aside0 (Kd.R (Kd.int .i64) 3 wc w.heap.size (fun k_ => some k_ ≠ (v248 : Value).ownBlock ∧ some k_ ≠ (u229001 : Value).ownBlock) (.slice (some ad224) x6_1.length co13) x6_1) ∧ Aside0 (Kd.R (Kd.int .i64) 3 wc w.heap.size (fun k_ => some k_ ≠ ((.slice (some ad224) x6_1.length co13) : Value).ownBlock ∧ some k_ ≠ (u229001 : Value).ownBlock) v248 x15_55) ∧ Aside0 (Kd.R (Kd.int .i64) 3 wc w.heap.size (fun k_ => some k_ ≠ ((.slice (some ad224) x6_1.length co13) : Value).ownBlock ∧ some k_ ≠ (v248 : Value).ownBlock) u229001 x229001_2) ∧ Aside0 (wc.heap[gb228]? = some (.cells #[.int .i64 x229000_2, u229001] 52 (0, 0))) ∧ Aside0 (Below w.heap.size w wc))
              case first =>
               have H := HC56.out
               clear HC56
               by_cases c59 : (Int.tmod (rd t216 1) 256) > 0
               ·rw [if_pos c59] at H
                have c59b0 : decide (0 < (Int.tmod (rd t216 1) 256)) = true := decide_eq_true c59
                clear c59
                (first | rw [c59b0] | (simp only [i64_w, i32_w]; rw [c59b0]) | skip)
                by_cases c60 : (Int.tmod (rd t216 1) 256) = 0
                ·rw [if_pos c60] at H
                 exact absurd H (by simp)
                ·rw [if_neg c60] at H
                 have c60b0 : ((Int.tmod (rd t216 1) 256) == 0) = false := beq_eq_false_iff_ne.mpr c60
                 have c60b1 : ((Int.tmod (rd t216 1) 256) != 0) = true := bne_iff_ne.mpr c60
                 by_cases c61 : 3 < (y247.length : Int)
                 ·rw [if_pos c61] at H
                  have c61b0 : decide (3 < (y247.length : Int)) = true := decide_eq_true c61
                  have c61b1 : decide (3 < y247.length) = true := decide_eq_true (by omega)
                  clear c61
                  obtain ⟨y250, hy250⟩ : ∃ y_ : List Int, y_ = (y247.set (3 : Int).toNat (wrap64 (Int.tdiv (Int.tmod (rd t216 0) 256) (Int.tmod (rd t216 1) 256)))) := ⟨_, rfl⟩
                  replace H : (laws_FnSumsOf.j3 kj49 (Int.tmod (rd t216 0) 256) (Int.tmod (rd t216 1) 256) x6_1 x7_1 x10_2 y250 x229000_2 x229001_2) = some r := by first | (rw [hy250]; with_reducible exact H) | (have H2_ := (Option.bind_some _ _).symm.trans H; rw [hy250]; with_reducible exact H2_) | (have H2_ := (Option.bind_some _ _).symm.trans H; with_reducible exact H2_) | with_reducible exact H | (rw [hy250]; exact H) | exact H
                  have Ny250 := z_aM hy250
                  clear hy250
                  have H' := z_aM H
                  clear H
                  have p62 : 0 ≤ (3 : Int) := (by omega)
                  have q62 : (3 : Int) < ((y247.length : Int) : Int) := of_decide_eq_true (by first | (with_reducible assumption) | assumption)
                  have qi62 : (3 < y247.length) = True := eq_true (by omega)
                  obtain ⟨go62, co62, eo62, gb62, gl62, cl62, HG62⟩ := Kd.R_form HO249.out (by omega)
                  (first | cases eo62 | (injection eo62 with ea_ en_ ec_; (first | subst ea_ | (injection ea_ with ea_; subst ea_)); subst ec_; clear en_))
                  have GB62 := z_aM gb62
                  have GG62 := z_aM HG62
                  clear gb62 gl62 HG62
                  obtain ⟨hx62_0, hf62_0⟩ := Kd.R_celln 0 HO249.out (3 : Int) p62 q62
                  (try rw [show ((3 : Int)).toNat = 3 from rfl] at hx62_0)
                  (try simp only [Nat.reduceMul, Nat.zero_mul, Nat.zero_add, Nat.reduceAdd] at hx62_0)
                  (try rw [show ((3 : Int)).toNat = 3 from rfl] at hf62_0)
                  (try simp only [Nat.reduceMul, Nat.zero_mul, Nat.zero_add, Nat.reduceAdd] at hf62_0)
                  replace p62 := eq_true p62
                  replace q62 := eq_true q62
                  have n_ := z_aM (z_rM (ok' := (fun k_ => some k_ ≠ (.slice (some ad224) x6_1.length co13 : Value).ownBlock ∧ some k_ ≠ (u229001 : Value).ownBlock)) HO249.out (fun k_ hk => ⟨hk.1.2, hk.2⟩))
                  clear HO249
                  have HO249 := n_
                  clear n_
                  have HP63 := Kd.R_putg HO249.out (3 : Int) (wrap64 (Int.tdiv (Int.tmod (rd t216 0) 256) (Int.tmod (rd t216 1) 256)))
                  go_wp2_with (first | ((with_reducible refine gate_store (t := 3) (p := 92) rfl ?_); refine store_event (t := 3) (p := 92) (v := ?vo_w64) (w1 := (w57.setCell ⟨go62, (3 : Int).toNat, none⟩ (.int .i64 (wrap64 (Int.tdiv (Int.tmod (rd t216 0) 256) (Int.tmod (rd t216 1) 256)))))) ?hg ?ho ?hn ?hr ?_; (case ho => rfl); (case hg => rfl); (case hn => rfl); (case hr => first | (go_simp; done) | (go_simp; rfl)); intro w64 hw; have hg : w57.grownBy w64 (some go62) := (by rw [hw]; exact HP63.2); have hp_ : Kd.R (Kd.int .i64) 3 w64 w.heap.size (fun k_ => some k_ ≠ (.slice (some ad224) x6_1.length co13 : Value).ownBlock ∧ some k_ ≠ (u229001 : Value).ownBlock) (.slice (some ⟨go62, 0, none⟩) y247.length co62) y250 := (by rw [hw, Ny250.out]; exact HP63.1); clear HP63; replace HO_6 := z_aM (Kd.R_after (v := (.slice (some ⟨go62, 0, none⟩) y247.length co62)) (v1 := (.slice (some ⟨go62, 0, none⟩) y247.length co62)) (ok := (fun k_ => some k_ ≠ (u229001 : Value).ownBlock)) (by (with_reducible repeat (first | apply z_rA | apply z_rN | apply z_rD)); exact HO_6.out) hg (.inl rfl)); replace HO_229001 := z_aM (Kd.R_after (v := (.slice (some ⟨go62, 0, none⟩) y247.length co62)) (v1 := (.slice (some ⟨go62, 0, none⟩) y247.length co62)) (ok := (fun k_ => some k_ ≠ (.slice (some ad224) x6_1.length co13 : Value).ownBlock)) (by (with_reducible repeat (first | apply z_rA | apply z_rN | apply z_rD)); exact HO_229001.out) hg (.inl rfl)); replace BK228 := z_aM (blk_grown (g := gb228) (o := .cells #[.int .i64 x229000_2, u229001] 52 (0, 0)) (by (with_reducible repeat (first | apply z_kN | apply z_kD | apply z_kA)); exact BK228.out) hg (z_rE HO249.out BK228.out (by decide))); replace HO249 := z_aM (hp_); replace HB := z_aM ((by rw [hw]; exact z_bS (HB.out) GB62.out : Below w.heap.size w w64)); clear hg hw hp_))
                  go_meet
                  case rel => exact ⟨_, (y250), H', ⟨by have := HK1.out; have := HK2.out; have := HJ49.out; first | omega | exact Nat.le_refl _⟩, ⟨by (with_reducible repeat (first | apply z_rA | apply z_rN | apply z_rD)); exact z_rM HO_6.out (fun _ hk => ⟨hk.2, hk.1⟩)⟩, ⟨by (with_reducible repeat (first | apply z_rA | apply z_rN | apply z_rD)); exact HO249.out⟩, ⟨by (with_reducible repeat (first | apply z_rA | apply z_rN | apply z_rD)); exact HO_229001.out⟩, ⟨by (with_reducible repeat (first | apply z_kN | apply z_kD | apply z_kA)); exact BK228.out⟩, ⟨by repeat (first | (with_reducible first | exact HB.out | apply z_bA | apply z_bN | apply z_bD | refine z_bS ?_ GE228.out) | exact HB.out)⟩⟩
                 ·rw [if_neg c61] at H
                  exact absurd H (by simp)
               ·rw [if_neg c59] at H
                have c59b0 : decide (0 < (Int.tmod (rd t216 1) 256)) = false := decide_eq_false c59
                clear c59
                (first | rw [c59b0] | (simp only [i64_w, i32_w]; rw [c59b0]) | skip)
                have H' := z_aM H
                clear H
                go_wp2
                go_meet
                case rel => exact ⟨_, (y247), H', ⟨by have := HK1.out; have := HK2.out; have := HJ49.out; first | omega | exact Nat.le_refl _⟩, ⟨by (with_reducible repeat (first | apply z_rA | apply z_rN | apply z_rD)); exact z_rM HO_6.out (fun _ hk => ⟨hk.2, hk.1⟩)⟩, ⟨by (with_reducible repeat (first | apply z_rA | apply z_rN | apply z_rD)); exact z_rM HO249.out (fun _ hk => ⟨hk.1.2, hk.2⟩)⟩, ⟨by (with_reducible repeat (first | apply z_rA | apply z_rN | apply z_rD)); exact HO_229001.out⟩, ⟨by (with_reducible repeat (first | apply z_kN | apply z_kD | apply z_kA)); exact BK228.out⟩, ⟨by repeat (first | (with_reducible first | exact HB.out | apply z_bA | apply z_bN | apply z_bD | refine z_bS ?_ GE228.out) | exact HB.out)⟩⟩
              case rest =>
               clear HC56
               try clear c1
               try clear p2
               try clear q2
               try clear hx2
               try clear c4
               try clear c5
               try clear c6
               try clear p6
               try clear q6
               try clear hx6
               try clear qi6
               try clear hf6
               try clear c18
               try clear c18b0
               try clear p24
               try clear q24
               try clear hx24
               try clear c40
               try clear c41
               try clear c42
               try clear c44
               try clear c45
               try clear c48
               try clear c51
               try clear c51b0
               try clear c52
               try clear c52b0
               try clear c53
               try clear c53b0
               try clear c53b1
               try clear c54
               try clear c55
               try clear c55b0
               try clear c55b1
               try clear c59
               try clear c59b0
               try clear c60
               try clear c60b0
               try clear c60b1
               try clear c61
               try clear c61b0
               try clear c61b1
               try clear p62
               try clear q62
               try clear hx62
               try clear qi62
               try clear hf62
               try clear p64
               try clear hcz43_0
               try clear hcz43_1
               try clear hcz46_0
               try clear hcz46_1
               try clear hcz49_0
               try clear hcz49_1
               try clear hcz49_2
               try clear hcz49_3
               try clear hfz43_0
               try clear hfz43_1
               try clear hfz46_0
               try clear hfz46_1
               try clear hfz49_0
               try clear hfz49_1
               try clear hfz49_2
               try clear hfz49_3
               try clear hx246_0
               try clear hx62_0
               try clear p2
               try clear p24
               try clear p246
               try clear p6
               try clear p62
               try clear q2
               try clear q24
               try clear q246
               try clear q62
               obtain ⟨kq, x15_55, HA, HJ55, HO_6, HO_15, HO_229001, BK228, HB⟩ := hcut
               cases kq with
               | zero => exact absurd HA.out (by simp [laws_FnSumsOf.j3])
               | succ kj55 =>
                have H := HA.out
                clear HA
                simp only [laws_FnSumsOf.j3] at H
                by_cases c65 : (Int.tmod (rd t216 0) 256) < (Int.tmod (rd t216 1) 256)
                ·rw [if_pos c65] at H
                 have c65b0 : decide ((Int.tmod (rd t216 0) 256) < (Int.tmod (rd t216 1) 256)) = true := decide_eq_true c65
                 clear c65
                 by_cases c66 : 4 < (x15_55.length : Int)
                 ·rw [if_pos c66] at H
                  have c66b0 : decide (4 < (x15_55.length : Int)) = true := decide_eq_true c66
                  have c66b1 : decide (4 < x15_55.length) = true := decide_eq_true (by omega)
                  clear c66
                  obtain ⟨y251, hy251⟩ : ∃ y_ : List Int, y_ = (x15_55.set (4 : Int).toNat 1) := ⟨_, rfl⟩
                  replace H : (if x10_2 = 0 then (if (x229001_2.length : Int) = 1 then (if 0 < (x229001_2.length : Int) then (if 0 ≤ x7_1 then (if x7_1 < (x15_55.length : Int) then (if (rd x229001_2 0) = (rd y251 x7_1) then (if x229000_2 = 3 then (laws_FnSumsOf.l0 kj55 (Int.tmod (rd t216 0) 256) (Int.tmod (rd t216 1) 256) x6_1 (wrap64 (x7_1 + 1))) else (some false)) else (some false)) else (none)) else (none)) else (none)) else (some false)) else (some false)) = some r := by first | (rw [hy251]; with_reducible exact H) | (have H2_ := (Option.bind_some _ _).symm.trans H; rw [hy251]; with_reducible exact H2_) | (have H2_ := (Option.bind_some _ _).symm.trans H; with_reducible exact H2_) | with_reducible exact H | (rw [hy251]; exact H) | exact H
                  have Ny251 := z_aM hy251
                  clear hy251
                  by_cases c68 : x10_2 = 0
                  ·rw [if_pos c68] at H
                   have c68b0 : (x10_2 == 0) = true := beq_iff_eq.mpr c68
                   have c68b1 : (x10_2 != 0) = false := bne_eq_false_iff_eq.mpr c68
                   clear c68
                   by_cases c69 : (x229001_2.length : Int) = 1
                   ·rw [if_pos c69] at H
                    have c69b0 : ((x229001_2.length : Int) == 1) = true := beq_iff_eq.mpr c69
                    have c69b1 : ((x229001_2.length : Int) != 1) = false := bne_eq_false_iff_eq.mpr c69
                    clear c69
                    by_cases c70 : 0 < (x229001_2.length : Int)
                    ·rw [if_pos c70] at H
                     have c70b0 : decide (0 < (x229001_2.length : Int)) = true := decide_eq_true c70
                     have c70b1 : decide (0 < x229001_2.length) = true := decide_eq_true (by omega)
                     clear c70
                     by_cases c71 : 0 ≤ x7_1
                     ·rw [if_pos c71] at H
                      have c71b0 : decide (0 ≤ x7_1) = true := decide_eq_true c71
                      clear c71
                      by_cases c72 : x7_1 < (x15_55.length : Int)
                      ·rw [if_pos c72] at H
                       have c72b0 : decide (x7_1 < (x15_55.length : Int)) = true := decide_eq_true c72
                       clear c72
                       by_cases c73 : (rd x229001_2 0) = (rd y251 x7_1)
                       ·rw [if_pos c73] at H
                        have c73b0 : ((rd x229001_2 0) == (rd y251 x7_1)) = true := beq_iff_eq.mpr c73
                        have c73b1 : ((rd x229001_2 0) != (rd y251 x7_1)) = false := bne_eq_false_iff_eq.mpr c73
                        clear c73
                        by_cases c74 : x229000_2 = 3
                        ·rw [if_pos c74] at H
                         have c74b0 : (x229000_2 == 3) = true := beq_iff_eq.mpr c74
                         have c74b1 : (x229000_2 != 3) = false := bne_eq_false_iff_eq.mpr c74
                         clear c74
                         have H' := z_aM H
                         clear H
                         have p67 : 0 ≤ (4 : Int) := (by omega)
                         have q67 : (4 : Int) < ((x15_55.length : Int) : Int) := of_decide_eq_true (by first | (with_reducible assumption) | assumption)
                         have qi67 : (4 < x15_55.length) = True := eq_true (by omega)
                         obtain ⟨go67, co67, eo67, gb67, gl67, cl67, HG67⟩ := Kd.R_form HO_15.out (by omega)
                         (first | cases eo67 | (injection eo67 with ea_ en_ ec_; (first | subst ea_ | (injection ea_ with ea_; subst ea_)); subst ec_; clear en_))
                         have GB67 := z_aM gb67
                         have GG67 := z_aM HG67
                         clear gb67 gl67 HG67
                         obtain ⟨hx67_0, hf67_0⟩ := Kd.R_celln 0 HO_15.out (4 : Int) p67 q67
                         (try rw [show ((4 : Int)).toNat = 4 from rfl] at hx67_0)
                         (try simp only [Nat.reduceMul, Nat.zero_mul, Nat.zero_add, Nat.reduceAdd] at hx67_0)
                         (try rw [show ((4 : Int)).toNat = 4 from rfl] at hf67_0)
                         (try simp only [Nat.reduceMul, Nat.zero_mul, Nat.zero_add, Nat.reduceAdd] at hf67_0)
                         replace p67 := eq_true p67
                         replace q67 := eq_true q67
                         have HP75 := Kd.R_putg HO_15.out (4 : Int) 1
                         try go_wp2_with (first | ((with_reducible refine gate_store (t := 3) (p := 97) rfl ?_); refine store_event (t := 3) (p := 97) (v := ?vo_w76) (w1 := (wc.setCell ⟨go67, (4 : Int).toNat, none⟩ (.int .i64 1))) ?hg ?ho ?hn ?hr ?_; (case ho => rfl); (case hg => rfl); (case hn => rfl); (case hr => first | (go_simp; done) | (go_simp; rfl)); intro w76 hw; have hg : wc.grownBy w76 (some go67) := (by rw [hw]; exact HP75.2); have hp_ : Kd.R (Kd.int .i64) 3 w76 w.heap.size (fun k_ => some k_ ≠ (.slice (some ad224) x6_1.length co13 : Value).ownBlock ∧ some k_ ≠ (u229001 : Value).ownBlock) (.slice (some ⟨go67, 0, none⟩) x15_55.length co67) y251 := (by rw [hw, Ny251.out]; exact HP75.1); clear HP75; replace HO_6 := z_aM (Kd.R_after (v := (.slice (some ⟨go67, 0, none⟩) x15_55.length co67)) (v1 := (.slice (some ⟨go67, 0, none⟩) x15_55.length co67)) (ok := (fun k_ => some k_ ≠ (u229001 : Value).ownBlock)) (by (with_reducible repeat (first | apply z_rA | apply z_rN | apply z_rD)); exact z_rM HO_6.out (fun _ hk => ⟨hk.2, hk.1⟩)) hg (.inl rfl)); replace HO_229001 := z_aM (Kd.R_after (v := (.slice (some ⟨go67, 0, none⟩) x15_55.length co67)) (v1 := (.slice (some ⟨go67, 0, none⟩) x15_55.length co67)) (ok := (fun k_ => some k_ ≠ (.slice (some ad224) x6_1.length co13 : Value).ownBlock)) (by (with_reducible repeat (first | apply z_rA | apply z_rN | apply z_rD)); exact HO_229001.out) hg (.inl rfl)); replace BK228 := z_aM (blk_grown (g := gb228) (o := .cells #[.int .i64 x229000_2, u229001] 52 (0, 0)) (by (with_reducible repeat (first | apply z_kN | apply z_kD | apply z_kA)); exact BK228.out) hg (z_rE HO_15.out BK228.out (by decide))); replace HO_15 := z_aM (hp_); replace HB := z_aM ((by rw [hw]; exact z_bS (HB.out) GB67.out : Below w.heap.size w w76)); clear hg hw hp_))
                         replace HO_6 := z_aM (z_rD HO_6.out)
                         replace HO_15 := z_aM (z_rD HO_15.out)
                         replace HO_229001 := z_aM (z_rD HO_229001.out)
                         replace BK228 := z_aM (z_kD BK228.out)
                         replace HB := z_aM (z_bD HB.out)
                         obtain ⟨Ao78, co78, eo78⟩ := Kd.R_slice HO_229001.out
                         (first | subst eo78 | (injection eo78 with f1_ f2_ f3_; have f4_ := f1_.symm; have f5_ := f3_.symm; clear f1_ f2_ f3_; subst f4_; subst f5_))
                         have p252 : 0 ≤ (0 : Int) := (by omega)
                         have q252 : 0 < (x229001_2.length : Int) := of_decide_eq_true (by first | (with_reducible assumption) | assumption)
                         obtain ⟨ad252, e252, hx252_0⟩ := Kd.at_int (Kd.R_reads' HO_229001.out).2.2 0 p252 q252
                         cases e252
                         have qi252 : (0 < x229001_2.length) = True := eq_true (by omega)
                         (try rw [show ((0 : Int)).toNat = 0 from rfl] at hx252_0)
                         (try rw [Addr.add_zero'] at hx252_0)
                         replace p252 := eq_true p252
                         replace q252 := eq_true q252
                         have p253 : 0 ≤ (x7_1 : Int) := of_decide_eq_true (by first | (with_reducible assumption) | assumption)
                         have q253 : x7_1 < (y251.length : Int) := (by have h_ : (x7_1 : Int) < ((x15_55.length : Int) : Int) := of_decide_eq_true (by first | (with_reducible assumption) | assumption); first | (have e_ := (Kd.R_reads' HO_15.out).1; omega) | simpa only [Ny251.out, List.length_set] using h_)
                         have ql253 : ((x7_1 : Int) < ((x15_55.length : Int) : Int)) = True := eq_true (of_decide_eq_true (by first | (with_reducible assumption) | assumption))
                         obtain ⟨ad253, e253, hx253_0⟩ := Kd.at_int (Kd.R_reads' HO_15.out).2.2 x7_1 p253 q253
                         obtain rfl : (⟨go67, 0, none⟩ : Addr) = ad253 := (by injection e253)
                         (first | simp only [add_plain] at hx253_0 | simp only [add_at] at hx253_0 | simp only [Addr.add, Nat.zero_add] at hx253_0 | skip)
                         replace p253 := eq_true p253
                         replace q253 := eq_true q253
                         refine start_ (n := 24) (S := fun w' => w'.cell? ⟨gb228, 0, none⟩ = some (.int .i64 x229000_2) ∧ w'.cell? ⟨gb228, 1, none⟩ = some (.slice (some ad252) x229001_2.length co78) ∧ w'.cell? ad252 = some (.int .i64 (rd x229001_2 0)) ∧ w'.cell? ⟨go67, (x7_1).toNat, none⟩ = some (.int .i64 (rd y251 x7_1))) (ds := []) #[false, false, false, false, false, false, false, false, false, false, false, false, false, false, false, false, false, false, false, false, false, false, false, false] (by kernel_rfl) rfl rfl ⟨(z_kC BK228.out 0).trans rfl, (z_kC BK228.out 1).trans rfl, hx252_0, hx253_0⟩ (fun hHeld => ?_); refine with_tabW laws_FnSumsOf.tab27 laws_FnSumsOf.bits27 (fun HT_ HW_ => ?_)
                         generalize w76.drew = w77 at HO_6 HO_15 HO_229001 BK228 HB hx252_0 hx253_0 hHeld ⊢
                         refine pure_ (i := 0) (N := some 98) (v := ?_) (a' := ?_) #[true, false, false, false, false, false, false, false, false, false, false, false, false, false, false, false, false, false, false, false, false, false, false, false] rfl rfl (any_of HT_.out (by kernel_rfl)) (fun _ _ _ h => h) (Or.inl ⟨by rfl, ?_⟩) ?_ ?_
                         rotate_left
                         ·intro w'
                          go_simp
                          with_reducible rfl
                         rotate_left
                         ·simp only [Act.put, z_lA, z_lZ, z_lS, i64_w, i32_w]
                          rfl
                         refine pure_ (i := 1) (N := some 99) (v := ?_) (a' := ?_) #[true, true, false, false, false, false, false, false, false, false, false, false, false, false, false, false, false, false, false, false, false, false, false, false] rfl rfl (any_of HT_.out (by kernel_rfl)) (fun _ _ _ h => h) (Or.inl ⟨by rfl, ?_⟩) ?_ ?_
                         rotate_left
                         ·intro w'
                          go_simp
                          with_reducible rfl
                         rotate_left
                         ·simp only [Act.put, z_lA, z_lZ, z_lS, i64_w, i32_w]
                          rfl
                         refine pure_ (i := 2) (N := some 100) (v := ?_) (a' := ?_) #[true, true, true, false, false, false, false, false, false, false, false, false, false, false, false, false, false, false, false, false, false, false, false, false] rfl rfl (any_of HT_.out (by kernel_rfl)) (fun _ _ _ h => h) (Or.inl ⟨by rfl, ?_⟩) ?_ ?_
                         rotate_left
                         ·intro w'
                          go_simp
                          with_reducible rfl
                         rotate_left
                         ·simp only [Act.put, z_lA, z_lZ, z_lS, i64_w, i32_w]
                          rfl
                         refine pure_ (i := 3) (N := some 101) (v := ?_) (a' := ?_) #[true, true, true, true, false, false, false, false, false, false, false, false, false, false, false, false, false, false, false, false, false, false, false, false] rfl rfl (any_of HT_.out (by kernel_rfl)) (fun _ _ _ h => h) (Or.inl ⟨by rfl, ?_⟩) ?_ ?_
                         rotate_left
                         ·intro w'
                          go_simp
                          with_reducible rfl
                         rotate_left
                         ·simp only [Act.put, z_lA, z_lZ, z_lS, i64_w, i32_w]
                          rfl
                         refine take_ (i := 4) (N := some 102) (v := ?_) (a' := ?_) #[true, true, true, true, true, false, false, false, false, false, false, false, false, false, false, false, false, false, false, false, false, false, false, false] rfl rfl (take_ofW HT_.out HW_.out (by kernel_rfl)) (fun _ _ _ h => h) (Or.inl ⟨by rfl, ?_⟩) hHeld ?_ ?_
                         rotate_left
                         ·rintro w' ⟨s0, s1, s2, s3⟩
                          go_simp
                          with_reducible rfl
                         rotate_left
                         ·simp only [Act.put, z_lA, z_lZ, z_lS, i64_w, i32_w]
                          rfl
                         refine pure_ (i := 5) (N := some 103) (v := ?_) (a' := ?_) #[true, true, true, true, true, true, false, false, false, false, false, false, false, false, false, false, false, false, false, false, false, false, false, false] rfl rfl (any_of HT_.out (by kernel_rfl)) (fun _ _ _ h => h) (Or.inl ⟨by rfl, ?_⟩) ?_ ?_
                         rotate_left
                         ·intro w'
                          go_simp
                          with_reducible rfl
                         rotate_left
                         ·simp only [Act.put, z_lA, z_lZ, z_lS, i64_w, i32_w]
                          rfl
                         refine pure_ (i := 6) (N := some 104) (v := ?_) (a' := ?_) #[true, true, true, true, true, true, true, false, false, false, false, false, false, false, false, false, false, false, false, false, false, false, false, false] rfl rfl (any_of HT_.out (by kernel_rfl)) (fun _ _ _ h => h) (Or.inl ⟨by rfl, ?_⟩) ?_ ?_
                         rotate_left
                         ·intro w'
                          go_simp
                          with_reducible rfl
                         rotate_left
                         ·simp only [Act.put, z_lA, z_lZ, z_lS, i64_w, i32_w]
                          rfl
                         refine pure_ (i := 7) (N := some 105) (v := ?_) (a' := ?_) #[true, true, true, true, true, true, true, true, false, false, false, false, false, false, false, false, false, false, false, false, false, false, false, false] rfl rfl (any_of HT_.out (by kernel_rfl)) (fun _ _ _ h => h) (Or.inl ⟨by rfl, ?_⟩) ?_ ?_
                         rotate_left
                         ·intro w'
                          go_simp
                          with_reducible rfl
                         rotate_left
                         ·simp only [Act.put, z_lA, z_lZ, z_lS, i64_w, i32_w]
                          rfl
                         refine pure_ (i := 8) (N := some 106) (v := ?_) (a' := ?_) #[true, true, true, true, true, true, true, true, true, false, false, false, false, false, false, false, false, false, false, false, false, false, false, false] rfl rfl (any_of HT_.out (by kernel_rfl)) (fun _ _ _ h => h) (Or.inl ⟨by rfl, ?_⟩) ?_ ?_
                         rotate_left
                         ·intro w'
                          go_simp
                          with_reducible rfl
                         rotate_left
                         ·simp only [Act.put, z_lA, z_lZ, z_lS, i64_w, i32_w]
                          rfl
                         refine pure_ (i := 9) (N := some 107) (v := ?_) (a' := ?_) #[true, true, true, true, true, true, true, true, true, true, false, false, false, false, false, false, false, false, false, false, false, false, false, false] rfl rfl (any_of HT_.out (by kernel_rfl)) (fun _ _ _ h => h) (Or.inl ⟨by rfl, ?_⟩) ?_ ?_
                         rotate_left
                         ·intro w'
                          go_simp
                          with_reducible rfl
                         rotate_left
                         ·simp only [Act.put, z_lA, z_lZ, z_lS, i64_w, i32_w]
                          rfl
                         refine pure_ (i := 13) (N := some 111) (v := ?_) (a' := ?_) #[true, true, true, true, true, true, true, true, true, true, false, false, false, true, false, false, false, false, false, false, false, false, false, false] rfl rfl (any_of HT_.out (by kernel_rfl)) (fun _ _ _ h => h) (Or.inl ⟨by rfl, ?_⟩) ?_ ?_
                         rotate_left
                         ·intro w'
                          go_simp
                          with_reducible rfl
                         rotate_left
                         ·simp only [Act.put, z_lA, z_lZ, z_lS, i64_w, i32_w]
                          rfl
                         refine pure_ (i := 14) (N := some 112) (v := ?_) (a' := ?_) #[true, true, true, true, true, true, true, true, true, true, false, false, false, true, true, false, false, false, false, false, false, false, false, false] rfl rfl (any_of HT_.out (by kernel_rfl)) (fun _ _ _ h => h) (Or.inl ⟨by rfl, ?_⟩) ?_ ?_
                         rotate_left
                         ·intro w'
                          go_simp
                          with_reducible rfl
                         rotate_left
                         ·simp only [Act.put, z_lA, z_lZ, z_lS, i64_w, i32_w]
                          rfl
                         refine pure_ (i := 15) (N := some 113) (v := ?_) (a' := ?_) #[true, true, true, true, true, true, true, true, true, true, false, false, false, true, true, true, false, false, false, false, false, false, false, false] rfl rfl (any_of HT_.out (by kernel_rfl)) (fun _ _ _ h => h) (Or.inl ⟨by rfl, ?_⟩) ?_ ?_
                         rotate_left
                         ·intro w'
                          go_simp
                          with_reducible rfl
                         rotate_left
                         ·simp only [Act.put, z_lA, z_lZ, z_lS, i64_w, i32_w]
                          rfl
                         refine take_ (i := 10) (N := some 108) (v := ?_) (a' := ?_) #[true, true, true, true, true, true, true, true, true, true, true, false, false, true, true, true, false, false, false, false, false, false, false, false] rfl rfl (take_ofW HT_.out HW_.out (by kernel_rfl)) (fun _ _ _ h => h) (Or.inl ⟨by rfl, ?_⟩) hHeld ?_ ?_
                         rotate_left
                         ·rintro w' ⟨s0, s1, s2, s3⟩
                          go_simp
                          with_reducible rfl
                         rotate_left
                         ·simp only [Act.put, z_lA, z_lZ, z_lS, i64_w, i32_w]
                          rfl
                         refine pure_ (i := 11) (N := some 109) (v := ?_) (a' := ?_) #[true, true, true, true, true, true, true, true, true, true, true, true, false, true, true, true, false, false, false, false, false, false, false, false] rfl rfl (any_of HT_.out (by kernel_rfl)) (fun _ _ _ h => h) (Or.inl ⟨by rfl, ?_⟩) ?_ ?_
                         rotate_left
                         ·intro w'
                          go_simp
                          with_reducible rfl
                         rotate_left
                         ·simp only [Act.put, z_lA, z_lZ, z_lS, i64_w, i32_w]
                          rfl
                         refine take_ (i := 12) (N := some 110) (v := ?_) (a' := ?_) #[true, true, true, true, true, true, true, true, true, true, true, true, true, true, true, true, false, false, false, false, false, false, false, false] rfl rfl (take_ofW HT_.out HW_.out (by kernel_rfl)) (fun _ _ _ h => h) (Or.inl ⟨by rfl, ?_⟩) hHeld ?_ ?_
                         rotate_left
                         ·rintro w' ⟨s0, s1, s2, s3⟩
                          go_simp
                          with_reducible rfl
                         rotate_left
                         ·simp only [Act.put, z_lA, z_lZ, z_lS, i64_w, i32_w]
                          rfl
                         refine take_ (i := 16) (N := some 114) (v := ?_) (a' := ?_) #[true, true, true, true, true, true, true, true, true, true, true, true, true, true, true, true, true, false, false, false, false, false, false, false] rfl rfl (take_ofW HT_.out HW_.out (by kernel_rfl)) (fun _ _ _ h => h) (Or.inl ⟨by rfl, ?_⟩) hHeld ?_ ?_
                         rotate_left
                         ·rintro w' ⟨s0, s1, s2, s3⟩
                          go_simp
                          with_reducible rfl
                         rotate_left
                         ·simp only [Act.put, z_lA, z_lZ, z_lS, i64_w, i32_w]
                          rfl
                         refine pure_ (i := 17) (N := some 115) (v := ?_) (a' := ?_) #[true, true, true, true, true, true, true, true, true, true, true, true, true, true, true, true, true, true, false, false, false, false, false, false] rfl rfl (any_of HT_.out (by kernel_rfl)) (fun _ _ _ h => h) (Or.inl ⟨by rfl, ?_⟩) ?_ ?_
                         rotate_left
                         ·intro w'
                          go_simp
                          with_reducible rfl
                         rotate_left
                         ·simp only [Act.put, z_lA, z_lZ, z_lS, i64_w, i32_w]
                          rfl
                         refine pure_ (i := 18) (N := some 116) (v := ?_) (a' := ?_) #[true, true, true, true, true, true, true, true, true, true, true, true, true, true, true, true, true, true, true, false, false, false, false, false] rfl rfl (any_of HT_.out (by kernel_rfl)) (fun _ _ _ h => h) (Or.inl ⟨by rfl, ?_⟩) ?_ ?_
                         rotate_left
                         ·intro w'
                          go_simp
                          with_reducible rfl
                         rotate_left
                         ·simp only [Act.put, z_lA, z_lZ, z_lS, i64_w, i32_w]
                          rfl
                         refine pure_ (i := 19) (N := some 117) (v := ?_) (a' := ?_) #[true, true, true, true, true, true, true, true, true, true, true, true, true, true, true, true, true, true, true, true, false, false, false, false] rfl rfl (any_of HT_.out (by kernel_rfl)) (fun _ _ _ h => h) (Or.inl ⟨by rfl, ?_⟩) ?_ ?_
                         rotate_left
                         ·intro w'
                          go_simp
                          with_reducible rfl
                         rotate_left
                         ·simp only [Act.put, z_lA, z_lZ, z_lS, i64_w, i32_w]
                          rfl
                         refine pure_ (i := 20) (N := some 118) (v := ?_) (a' := ?_) #[true, true, true, true, true, true, true, true, true, true, true, true, true, true, true, true, true, true, true, true, true, false, false, false] rfl rfl (any_of HT_.out (by kernel_rfl)) (fun _ _ _ h => h) (Or.inl ⟨by rfl, ?_⟩) ?_ ?_
                         rotate_left
                         ·intro w'
                          go_simp
                          with_reducible rfl
                         rotate_left
                         ·simp only [Act.put, z_lA, z_lZ, z_lS, i64_w, i32_w]
                          rfl
                         refine take_ (i := 21) (N := some 119) (v := ?_) (a' := ?_) #[true, true, true, true, true, true, true, true, true, true, true, true, true, true, true, true, true, true, true, true, true, true, false, false] rfl rfl (take_ofW HT_.out HW_.out (by kernel_rfl)) (fun _ _ _ h => h) (Or.inl ⟨by rfl, ?_⟩) hHeld ?_ ?_
                         rotate_left
                         ·rintro w' ⟨s0, s1, s2, s3⟩
                          go_simp
                          with_reducible rfl
                         rotate_left
                         ·simp only [Act.put, z_lA, z_lZ, z_lS, i64_w, i32_w]
                          rfl
                         refine pure_ (i := 22) (N := some 120) (v := ?_) (a' := ?_) #[true, true, true, true, true, true, true, true, true, true, true, true, true, true, true, true, true, true, true, true, true, true, true, false] rfl rfl (any_of HT_.out (by kernel_rfl)) (fun _ _ _ h => h) (Or.inl ⟨by rfl, ?_⟩) ?_ ?_
                         rotate_left
                         ·intro w'
                          go_simp
                          with_reducible rfl
                         rotate_left
                         ·simp only [Act.put, z_lA, z_lZ, z_lS, i64_w, i32_w]
                          rfl
                         refine pure_ (i := 23) (N := some 121) (v := ?_) (a' := ?_) #[true, true, true, true, true, true, true, true, true, true, true, true, true, true, true, true, true, true, true, true, true, true, true, true] rfl rfl (any_of HT_.out (by kernel_rfl)) (fun _ _ _ h => h) (Or.inl ⟨by rfl, ?_⟩) ?_ ?_
                         rotate_left
                         ·intro w'
                          go_simp
                          with_reducible rfl
                         rotate_left
                         ·simp only [Act.put, z_lA, z_lZ, z_lS, i64_w, i32_w]
                          rfl
                         refine done_ (done_of HT_.out (by kernel_rfl)) ?_
                         try go_wp2
                         go_roundg kj55
                         case measure => have := HK1.out; have := HK2.out; have := HJ49.out; have := HJ55.out; omega
                         case rel => exact ⟨(x6_1), (wrap64 (x7_1 + 1)), (by first | rfl | (simp; done) | (simp [*]; done)), H', ⟨by have := HK1.out; have := HK2.out; have := HJ49.out; have := HJ55.out; omega⟩, ⟨by (with_reducible repeat (first | apply z_rA | apply z_rN | apply z_rD)); exact z_rM HO_6.out (fun _ hk => trivial)⟩, ⟨by repeat (first | (with_reducible first | exact HB.out | apply z_bA | apply z_bN | apply z_bD | refine z_bS ?_ GE228.out) | exact HB.out)⟩⟩
                        ·rw [if_neg c74] at H
                         have c74b0 : (x229000_2 == 3) = false := beq_eq_false_iff_ne.mpr c74
                         have c74b1 : (x229000_2 != 3) = true := bne_iff_ne.mpr c74
                         exact absurd (Option.some.inj H) (by rw [hrt.out]; decide)
                       ·rw [if_neg c73] at H
                        have c73b0 : ((rd x229001_2 0) == (rd y251 x7_1)) = false := beq_eq_false_iff_ne.mpr c73
                        have c73b1 : ((rd x229001_2 0) != (rd y251 x7_1)) = true := bne_iff_ne.mpr c73
                        exact absurd (Option.some.inj H) (by rw [hrt.out]; decide)
                      ·rw [if_neg c72] at H
                       exact absurd H (by simp)
                     ·rw [if_neg c71] at H
                      exact absurd H (by simp)
                    ·rw [if_neg c70] at H
                     exact absurd H (by simp)
                   ·rw [if_neg c69] at H
                    have c69b0 : ((x229001_2.length : Int) == 1) = false := beq_eq_false_iff_ne.mpr c69
                    have c69b1 : ((x229001_2.length : Int) != 1) = true := bne_iff_ne.mpr c69
                    exact absurd (Option.some.inj H) (by rw [hrt.out]; decide)
                  ·rw [if_neg c68] at H
                   have c68b0 : (x10_2 == 0) = false := beq_eq_false_iff_ne.mpr c68
                   have c68b1 : (x10_2 != 0) = true := bne_iff_ne.mpr c68
                   exact absurd (Option.some.inj H) (by rw [hrt.out]; decide)
                 ·rw [if_neg c66] at H
                  exact absurd H (by simp)
                ·rw [if_neg c65] at H
                 have c65b0 : decide ((Int.tmod (rd t216 0) 256) < (Int.tmod (rd t216 1) 256)) = false := decide_eq_false c65
                 clear c65
                 by_cases c94 : x10_2 = 0
                 ·rw [if_pos c94] at H
                  have c94b0 : (x10_2 == 0) = true := beq_iff_eq.mpr c94
                  have c94b1 : (x10_2 != 0) = false := bne_eq_false_iff_eq.mpr c94
                  clear c94
                  by_cases c95 : (x229001_2.length : Int) = 1
                  ·rw [if_pos c95] at H
                   have c95b0 : ((x229001_2.length : Int) == 1) = true := beq_iff_eq.mpr c95
                   have c95b1 : ((x229001_2.length : Int) != 1) = false := bne_eq_false_iff_eq.mpr c95
                   clear c95
                   by_cases c96 : 0 < (x229001_2.length : Int)
                   ·rw [if_pos c96] at H
                    have c96b0 : decide (0 < (x229001_2.length : Int)) = true := decide_eq_true c96
                    have c96b1 : decide (0 < x229001_2.length) = true := decide_eq_true (by omega)
                    clear c96
                    by_cases c97 : 0 ≤ x7_1
                    ·rw [if_pos c97] at H
                     have c97b0 : decide (0 ≤ x7_1) = true := decide_eq_true c97
                     clear c97
                     by_cases c98 : x7_1 < (x15_55.length : Int)
                     ·rw [if_pos c98] at H
                      have c98b0 : decide (x7_1 < (x15_55.length : Int)) = true := decide_eq_true c98
                      clear c98
                      by_cases c99 : (rd x229001_2 0) = (rd x15_55 x7_1)
                      ·rw [if_pos c99] at H
                       have c99b0 : ((rd x229001_2 0) == (rd x15_55 x7_1)) = true := beq_iff_eq.mpr c99
                       have c99b1 : ((rd x229001_2 0) != (rd x15_55 x7_1)) = false := bne_eq_false_iff_eq.mpr c99
                       clear c99
                       by_cases c100 : x229000_2 = 3
                       ·rw [if_pos c100] at H
                        have c100b0 : (x229000_2 == 3) = true := beq_iff_eq.mpr c100
                        have c100b1 : (x229000_2 != 3) = false := bne_eq_false_iff_eq.mpr c100
                        clear c100
                        have H' := z_aM H
                        clear H
                        try go_wp2
                        replace HO_6 := z_aM (z_rD HO_6.out)
                        replace HO_15 := z_aM (z_rD HO_15.out)
                        replace HO_229001 := z_aM (z_rD HO_229001.out)
                        replace BK228 := z_aM (z_kD BK228.out)
                        replace HB := z_aM (z_bD HB.out)
                        obtain ⟨Ao102, co102, eo102⟩ := Kd.R_slice HO_229001.out
                        (first | subst eo102 | (injection eo102 with f1_ f2_ f3_; have f4_ := f1_.symm; have f5_ := f3_.symm; clear f1_ f2_ f3_; subst f4_; subst f5_))
                        have p254 : 0 ≤ (0 : Int) := (by omega)
                        have q254 : 0 < (x229001_2.length : Int) := of_decide_eq_true (by first | (with_reducible assumption) | assumption)
                        obtain ⟨ad254, e254, hx254_0⟩ := Kd.at_int (Kd.R_reads' HO_229001.out).2.2 0 p254 q254
                        cases e254
                        have qi254 : (0 < x229001_2.length) = True := eq_true (by omega)
                        (try rw [show ((0 : Int)).toNat = 0 from rfl] at hx254_0)
                        (try rw [Addr.add_zero'] at hx254_0)
                        replace p254 := eq_true p254
                        replace q254 := eq_true q254
                        obtain ⟨Ao103, co103, eo103⟩ := Kd.R_slice HO_15.out
                        (first | subst eo103 | (injection eo103 with f1_ f2_ f3_; have f4_ := f1_.symm; have f5_ := f3_.symm; clear f1_ f2_ f3_; subst f4_; subst f5_))
                        have p255 : 0 ≤ (x7_1 : Int) := of_decide_eq_true (by first | (with_reducible assumption) | assumption)
                        have q255 : x7_1 < (x15_55.length : Int) := of_decide_eq_true (by first | (with_reducible assumption) | assumption)
                        obtain ⟨ad255, e255, hx255_0⟩ := Kd.at_int (Kd.R_reads' HO_15.out).2.2 x7_1 p255 q255
                        cases e255
                        replace p255 := eq_true p255
                        replace q255 := eq_true q255
                        refine start_ (n := 24) (S := fun w' => w'.cell? ⟨gb228, 0, none⟩ = some (.int .i64 x229000_2) ∧ w'.cell? ⟨gb228, 1, none⟩ = some (.slice (some ad254) x229001_2.length co102) ∧ w'.cell? ad254 = some (.int .i64 (rd x229001_2 0)) ∧ w'.cell? (ad255.add (x7_1).toNat) = some (.int .i64 (rd x15_55 x7_1))) (ds := []) #[false, false, false, false, false, false, false, false, false, false, false, false, false, false, false, false, false, false, false, false, false, false, false, false] (by kernel_rfl) rfl rfl ⟨(z_kC BK228.out 0).trans rfl, (z_kC BK228.out 1).trans rfl, hx254_0, hx255_0⟩ (fun hHeld => ?_); refine with_tabW laws_FnSumsOf.tab27 laws_FnSumsOf.bits27 (fun HT_ HW_ => ?_)
                        generalize wc.drew = w101 at HO_6 HO_15 HO_229001 BK228 HB hx254_0 hx255_0 hHeld ⊢
                        refine pure_ (i := 0) (N := some 98) (v := ?_) (a' := ?_) #[true, false, false, false, false, false, false, false, false, false, false, false, false, false, false, false, false, false, false, false, false, false, false, false] rfl rfl (any_of HT_.out (by kernel_rfl)) (fun _ _ _ h => h) (Or.inl ⟨by rfl, ?_⟩) ?_ ?_
                        rotate_left
                        ·intro w'
                         go_simp
                         with_reducible rfl
                        rotate_left
                        ·simp only [Act.put, z_lA, z_lZ, z_lS, i64_w, i32_w]
                         rfl
                        refine pure_ (i := 1) (N := some 99) (v := ?_) (a' := ?_) #[true, true, false, false, false, false, false, false, false, false, false, false, false, false, false, false, false, false, false, false, false, false, false, false] rfl rfl (any_of HT_.out (by kernel_rfl)) (fun _ _ _ h => h) (Or.inl ⟨by rfl, ?_⟩) ?_ ?_
                        rotate_left
                        ·intro w'
                         go_simp
                         with_reducible rfl
                        rotate_left
                        ·simp only [Act.put, z_lA, z_lZ, z_lS, i64_w, i32_w]
                         rfl
                        refine pure_ (i := 2) (N := some 100) (v := ?_) (a' := ?_) #[true, true, true, false, false, false, false, false, false, false, false, false, false, false, false, false, false, false, false, false, false, false, false, false] rfl rfl (any_of HT_.out (by kernel_rfl)) (fun _ _ _ h => h) (Or.inl ⟨by rfl, ?_⟩) ?_ ?_
                        rotate_left
                        ·intro w'
                         go_simp
                         with_reducible rfl
                        rotate_left
                        ·simp only [Act.put, z_lA, z_lZ, z_lS, i64_w, i32_w]
                         rfl
                        refine pure_ (i := 3) (N := some 101) (v := ?_) (a' := ?_) #[true, true, true, true, false, false, false, false, false, false, false, false, false, false, false, false, false, false, false, false, false, false, false, false] rfl rfl (any_of HT_.out (by kernel_rfl)) (fun _ _ _ h => h) (Or.inl ⟨by rfl, ?_⟩) ?_ ?_
                        rotate_left
                        ·intro w'
                         go_simp
                         with_reducible rfl
                        rotate_left
                        ·simp only [Act.put, z_lA, z_lZ, z_lS, i64_w, i32_w]
                         rfl
                        refine take_ (i := 4) (N := some 102) (v := ?_) (a' := ?_) #[true, true, true, true, true, false, false, false, false, false, false, false, false, false, false, false, false, false, false, false, false, false, false, false] rfl rfl (take_ofW HT_.out HW_.out (by kernel_rfl)) (fun _ _ _ h => h) (Or.inl ⟨by rfl, ?_⟩) hHeld ?_ ?_
                        rotate_left
                        ·rintro w' ⟨s0, s1, s2, s3⟩
                         go_simp
                         with_reducible rfl
                        rotate_left
                        ·simp only [Act.put, z_lA, z_lZ, z_lS, i64_w, i32_w]
                         rfl
                        refine pure_ (i := 5) (N := some 103) (v := ?_) (a' := ?_) #[true, true, true, true, true, true, false, false, false, false, false, false, false, false, false, false, false, false, false, false, false, false, false, false] rfl rfl (any_of HT_.out (by kernel_rfl)) (fun _ _ _ h => h) (Or.inl ⟨by rfl, ?_⟩) ?_ ?_
                        rotate_left
                        ·intro w'
                         go_simp
                         with_reducible rfl
                        rotate_left
                        ·simp only [Act.put, z_lA, z_lZ, z_lS, i64_w, i32_w]
                         rfl
                        refine pure_ (i := 6) (N := some 104) (v := ?_) (a' := ?_) #[true, true, true, true, true, true, true, false, false, false, false, false, false, false, false, false, false, false, false, false, false, false, false, false] rfl rfl (any_of HT_.out (by kernel_rfl)) (fun _ _ _ h => h) (Or.inl ⟨by rfl, ?_⟩) ?_ ?_
                        rotate_left
                        ·intro w'
                         go_simp
                         with_reducible rfl
                        rotate_left
                        ·simp only [Act.put, z_lA, z_lZ, z_lS, i64_w, i32_w]
                         rfl
                        refine pure_ (i := 7) (N := some 105) (v := ?_) (a' := ?_) #[true, true, true, true, true, true, true, true, false, false, false, false, false, false, false, false, false, false, false, false, false, false, false, false] rfl rfl (any_of HT_.out (by kernel_rfl)) (fun _ _ _ h => h) (Or.inl ⟨by rfl, ?_⟩) ?_ ?_
                        rotate_left
                        ·intro w'
                         go_simp
                         with_reducible rfl
                        rotate_left
                        ·simp only [Act.put, z_lA, z_lZ, z_lS, i64_w, i32_w]
                         rfl
                        refine pure_ (i := 8) (N := some 106) (v := ?_) (a' := ?_) #[true, true, true, true, true, true, true, true, true, false, false, false, false, false, false, false, false, false, false, false, false, false, false, false] rfl rfl (any_of HT_.out (by kernel_rfl)) (fun _ _ _ h => h) (Or.inl ⟨by rfl, ?_⟩) ?_ ?_
                        rotate_left
                        ·intro w'
                         go_simp
                         with_reducible rfl
                        rotate_left
                        ·simp only [Act.put, z_lA, z_lZ, z_lS, i64_w, i32_w]
                         rfl
                        refine pure_ (i := 9) (N := some 107) (v := ?_) (a' := ?_) #[true, true, true, true, true, true, true, true, true, true, false, false, false, false, false, false, false, false, false, false, false, false, false, false] rfl rfl (any_of HT_.out (by kernel_rfl)) (fun _ _ _ h => h) (Or.inl ⟨by rfl, ?_⟩) ?_ ?_
                        rotate_left
                        ·intro w'
                         go_simp
                         with_reducible rfl
                        rotate_left
                        ·simp only [Act.put, z_lA, z_lZ, z_lS, i64_w, i32_w]
                         rfl
                        refine pure_ (i := 13) (N := some 111) (v := ?_) (a' := ?_) #[true, true, true, true, true, true, true, true, true, true, false, false, false, true, false, false, false, false, false, false, false, false, false, false] rfl rfl (any_of HT_.out (by kernel_rfl)) (fun _ _ _ h => h) (Or.inl ⟨by rfl, ?_⟩) ?_ ?_
                        rotate_left
                        ·intro w'
                         go_simp
                         with_reducible rfl
                        rotate_left
                        ·simp only [Act.put, z_lA, z_lZ, z_lS, i64_w, i32_w]
                         rfl
                        refine pure_ (i := 14) (N := some 112) (v := ?_) (a' := ?_) #[true, true, true, true, true, true, true, true, true, true, false, false, false, true, true, false, false, false, false, false, false, false, false, false] rfl rfl (any_of HT_.out (by kernel_rfl)) (fun _ _ _ h => h) (Or.inl ⟨by rfl, ?_⟩) ?_ ?_
                        rotate_left
                        ·intro w'
                         go_simp
                         with_reducible rfl
                        rotate_left
                        ·simp only [Act.put, z_lA, z_lZ, z_lS, i64_w, i32_w]
                         rfl
                        refine pure_ (i := 15) (N := some 113) (v := ?_) (a' := ?_) #[true, true, true, true, true, true, true, true, true, true, false, false, false, true, true, true, false, false, false, false, false, false, false, false] rfl rfl (any_of HT_.out (by kernel_rfl)) (fun _ _ _ h => h) (Or.inl ⟨by rfl, ?_⟩) ?_ ?_
                        rotate_left
                        ·intro w'
                         go_simp
                         with_reducible rfl
                        rotate_left
                        ·simp only [Act.put, z_lA, z_lZ, z_lS, i64_w, i32_w]
                         rfl
                        refine take_ (i := 10) (N := some 108) (v := ?_) (a' := ?_) #[true, true, true, true, true, true, true, true, true, true, true, false, false, true, true, true, false, false, false, false, false, false, false, false] rfl rfl (take_ofW HT_.out HW_.out (by kernel_rfl)) (fun _ _ _ h => h) (Or.inl ⟨by rfl, ?_⟩) hHeld ?_ ?_
                        rotate_left
                        ·rintro w' ⟨s0, s1, s2, s3⟩
                         go_simp
                         with_reducible rfl
                        rotate_left
                        ·simp only [Act.put, z_lA, z_lZ, z_lS, i64_w, i32_w]
                         rfl
                        refine pure_ (i := 11) (N := some 109) (v := ?_) (a' := ?_) #[true, true, true, true, true, true, true, true, true, true, true, true, false, true, true, true, false, false, false, false, false, false, false, false] rfl rfl (any_of HT_.out (by kernel_rfl)) (fun _ _ _ h => h) (Or.inl ⟨by rfl, ?_⟩) ?_ ?_
                        rotate_left
                        ·intro w'
                         go_simp
                         with_reducible rfl
                        rotate_left
                        ·simp only [Act.put, z_lA, z_lZ, z_lS, i64_w, i32_w]
                         rfl
                        refine take_ (i := 12) (N := some 110) (v := ?_) (a' := ?_) #[true, true, true, true, true, true, true, true, true, true, true, true, true, true, true, true, false, false, false, false, false, false, false, false] rfl rfl (take_ofW HT_.out HW_.out (by kernel_rfl)) (fun _ _ _ h => h) (Or.inl ⟨by rfl, ?_⟩) hHeld ?_ ?_
                        rotate_left
                        ·rintro w' ⟨s0, s1, s2, s3⟩
                         go_simp
                         with_reducible rfl
                        rotate_left
                        ·simp only [Act.put, z_lA, z_lZ, z_lS, i64_w, i32_w]
                         rfl
                        refine take_ (i := 16) (N := some 114) (v := ?_) (a' := ?_) #[true, true, true, true, true, true, true, true, true, true, true, true, true, true, true, true, true, false, false, false, false, false, false, false] rfl rfl (take_ofW HT_.out HW_.out (by kernel_rfl)) (fun _ _ _ h => h) (Or.inl ⟨by rfl, ?_⟩) hHeld ?_ ?_
                        rotate_left
                        ·rintro w' ⟨s0, s1, s2, s3⟩
                         go_simp
                         with_reducible rfl
                        rotate_left
                        ·simp only [Act.put, z_lA, z_lZ, z_lS, i64_w, i32_w]
                         rfl
                        refine pure_ (i := 17) (N := some 115) (v := ?_) (a' := ?_) #[true, true, true, true, true, true, true, true, true, true, true, true, true, true, true, true, true, true, false, false, false, false, false, false] rfl rfl (any_of HT_.out (by kernel_rfl)) (fun _ _ _ h => h) (Or.inl ⟨by rfl, ?_⟩) ?_ ?_
                        rotate_left
                        ·intro w'
                         go_simp
                         with_reducible rfl
                        rotate_left
                        ·simp only [Act.put, z_lA, z_lZ, z_lS, i64_w, i32_w]
                         rfl
                        refine pure_ (i := 18) (N := some 116) (v := ?_) (a' := ?_) #[true, true, true, true, true, true, true, true, true, true, true, true, true, true, true, true, true, true, true, false, false, false, false, false] rfl rfl (any_of HT_.out (by kernel_rfl)) (fun _ _ _ h => h) (Or.inl ⟨by rfl, ?_⟩) ?_ ?_
                        rotate_left
                        ·intro w'
                         go_simp
                         with_reducible rfl
                        rotate_left
                        ·simp only [Act.put, z_lA, z_lZ, z_lS, i64_w, i32_w]
                         rfl
                        refine pure_ (i := 19) (N := some 117) (v := ?_) (a' := ?_) #[true, true, true, true, true, true, true, true, true, true, true, true, true, true, true, true, true, true, true, true, false, false, false, false] rfl rfl (any_of HT_.out (by kernel_rfl)) (fun _ _ _ h => h) (Or.inl ⟨by rfl, ?_⟩) ?_ ?_
                        rotate_left
                        ·intro w'
                         go_simp
                         with_reducible rfl
                        rotate_left
                        ·simp only [Act.put, z_lA, z_lZ, z_lS, i64_w, i32_w]
                         rfl
                        refine pure_ (i := 20) (N := some 118) (v := ?_) (a' := ?_) #[true, true, true, true, true, true, true, true, true, true, true, true, true, true, true, true, true, true, true, true, true, false, false, false] rfl rfl (any_of HT_.out (by kernel_rfl)) (fun _ _ _ h => h) (Or.inl ⟨by rfl, ?_⟩) ?_ ?_
                        rotate_left
                        ·intro w'
                         go_simp
                         with_reducible rfl
                        rotate_left
                        ·simp only [Act.put, z_lA, z_lZ, z_lS, i64_w, i32_w]
                         rfl
                        refine take_ (i := 21) (N := some 119) (v := ?_) (a' := ?_) #[true, true, true, true, true, true, true, true, true, true, true, true, true, true, true, true, true, true, true, true, true, true, false, false] rfl rfl (take_ofW HT_.out HW_.out (by kernel_rfl)) (fun _ _ _ h => h) (Or.inl ⟨by rfl, ?_⟩) hHeld ?_ ?_
                        rotate_left
                        ·rintro w' ⟨s0, s1, s2, s3⟩
                         go_simp
                         with_reducible rfl
                        rotate_left
                        ·simp only [Act.put, z_lA, z_lZ, z_lS, i64_w, i32_w]
                         rfl
                        refine pure_ (i := 22) (N := some 120) (v := ?_) (a' := ?_) #[true, true, true, true, true, true, true, true, true, true, true, true, true, true, true, true, true, true, true, true, true, true, true, false] rfl rfl (any_of HT_.out (by kernel_rfl)) (fun _ _ _ h => h) (Or.inl ⟨by rfl, ?_⟩) ?_ ?_
                        rotate_left
                        ·intro w'
                         go_simp
                         with_reducible rfl
                        rotate_left
                        ·simp only [Act.put, z_lA, z_lZ, z_lS, i64_w, i32_w]
                         rfl
                        refine pure_ (i := 23) (N := some 121) (v := ?_) (a' := ?_) #[true, true, true, true, true, true, true, true, true, true, true, true, true, true, true, true, true, true, true, true, true, true, true, true] rfl rfl (any_of HT_.out (by kernel_rfl)) (fun _ _ _ h => h) (Or.inl ⟨by rfl, ?_⟩) ?_ ?_
                        rotate_left
                        ·intro w'
                         go_simp
                         with_reducible rfl
                        rotate_left
                        ·simp only [Act.put, z_lA, z_lZ, z_lS, i64_w, i32_w]
                         rfl
                        refine done_ (done_of HT_.out (by kernel_rfl)) ?_
                        try go_wp2
                        go_roundg kj55
                        case measure => have := HK1.out; have := HK2.out; have := HJ49.out; have := HJ55.out; omega
                        case rel => exact ⟨(x6_1), (wrap64 (x7_1 + 1)), (by first | rfl | (simp; done) | (simp [*]; done)), H', ⟨by have := HK1.out; have := HK2.out; have := HJ49.out; have := HJ55.out; omega⟩, ⟨by (with_reducible repeat (first | apply z_rA | apply z_rN | apply z_rD)); exact z_rM HO_6.out (fun _ hk => trivial)⟩, ⟨by repeat (first | (with_reducible first | exact HB.out | apply z_bA | apply z_bN | apply z_bD | refine z_bS ?_ GE228.out) | exact HB.out)⟩⟩
                       ·rw [if_neg c100] at H
                        exact absurd (Option.some.inj H) (by rw [hrt.out]; decide)
                      ·rw [if_neg c99] at H
                       exact absurd (Option.some.inj H) (by rw [hrt.out]; decide)
                     ·rw [if_neg c98] at H
                      exact absurd H (by simp)
                    ·rw [if_neg c97] at H
                     exact absurd H (by simp)
                   ·rw [if_neg c96] at H
                    exact absurd H (by simp)
                  ·rw [if_neg c95] at H
                   exact absurd (Option.some.inj H) (by rw [hrt.out]; decide)
                 ·rw [if_neg c94] at H
                  exact absurd (Option.some.inj H) (by rw [hrt.out]; decide)
       ·rw [if_neg c12] at H
        exact absurd H (by simp)
      ·rw [if_neg c11] at H
       have c11b0 : decide (x7_1 < (x6_1.length : Int)) = false := decide_eq_false c11
       clear c11
       obtain rfl := Option.some.inj H
       obtain ⟨Ao113, co113, eo113⟩ := Kd.R_slice HO_6.out
       subst eo113
       go_wp2
       go_ret
       exact ⟨by first | rfl | (simp [errW_none, errW_some] <;> rfl) | (simp [*, errW_none, errW_some] <;> rfl), by repeat (first | (with_reducible first | exact HB.out | apply z_bA | apply z_bN | apply z_bD) | exact HB.out)⟩
   ·rw [if_neg c6] at H
    exact absurd H (by simp)
  ·rw [if_neg c5] at H
   exact absurd H (by simp)

/-- THE ONE PURE STATEMENT of laws_FnSumsOf: yours. -/
def laws_FnSumsOf.Pure : Prop := ∀ (l0 : List Int), l0.length ≤ maxLen → l0.length * 1 ≤ 140737488351232 → (∀ x ∈ l0, (Lit.int .u8 x).wf = true) → ∃ k, laws_FnSumsOf.f k l0 = some true
end Go.Proofs.Yteehopjgmgelnaa.PFnSumsOf
