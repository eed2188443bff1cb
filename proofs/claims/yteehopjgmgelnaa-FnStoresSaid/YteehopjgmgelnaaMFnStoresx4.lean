/- The walks of what FnStores reaches: lines of the kit's print for this claim, turned by hand where they did not build. -/
import Derived.Test.YteehopjgmgelnaaMFnStoresx0
import Derived.Test.YteehopjgmgelnaaMFnStoresx1
import Derived.Test.YteehopjgmgelnaaMFnStoresx2
import Derived.Test.YteehopjgmgelnaaMFnStoresx3
namespace Go.Proofs.Yteehopjgmgelnaa.PFnStores
open Go.RowKit Go.Proofs.YteehopjgmgelnaaW.PrintWords Go.Proofs.YteehopjgmgelnaaW.PrintLast Go.Proofs.YteehopjgmgelnaaW.PrintMore
attribute [local go_sem] max2_int min2_int max_two min_two max_three min_three max_four min_four   -- for this text's walks alone
set_option linter.unusedVariables false
set_option linter.unusedSimpArgs false

/-! ### laws_FnStores: function 4 -/
def laws_FnStores.l0 : Nat → List (S32) → List Int → Int → Bool → Int → Bool → Bool → Bool → Int → Int → Int → List Int → List Int → Option (Bool)
  | 0, _, _, _, _, _, _, _, _, _, _, _, _, _ => none
  | k + 1, x3, x4, x6, x9, x10, x11, x13, x15, x16, x237000, x237001, x245000, x251000 => if x16 < 64 then (if x16 = (wrap64 (x237000 + x6)) then (laws_FnStores.l0 k x3 x4 x6 x9 x10 x11 x13 x15 (wrap64 (x16 + 1)) x237000 x237001 x245000 x251000) else (if 0 ≤ x16 then (if x16 < (x251000.length : Int) then (if x16 < (x245000.length : Int) then (if (rd x251000 x16) = (rd x245000 x16) then (laws_FnStores.l0 k x3 x4 x6 x9 x10 x11 x13 x15 (wrap64 (x16 + 1)) x237000 x237001 x245000 x251000) else (some false)) else (none)) else (none)) else (none))) else ((impl_StoreCell.f x251000 x237000 x237001 x6 (-1)).bind fun bt262 => ((impl_LoadCell.f bt262.1 x237000 x237001 x6).bind fun bt267 => (if x9 = true then (if x11 = true then (if 2 < (x4.length : Int) then (if x10 = (Int.tmod (wrap64 ((rd x4 2) * 13)) 65536) then (if x13 = true then (some false) else (if x15 = true then (some false) else (if bt267.1 = 65535 then ((impl_RegionsOk.f k x3).bind fun t270 => (if t270 = true then (some ((x245000.length : Int) == 64)) else (some false))) else (some false)))) else (some false)) else (none)) else (some false)) else (some false))))
def laws_FnStores.f (k : Nat) (l0 : List Int) : Option (Bool) := (laws_big.f l0).bind fun t227 => (if t227 = true then (some true) else ((spec_DrawRegions.f k l0).bind fun t228 => ((spec_DrawPlaces.f k l0).bind fun t231 => (if 0 < (t231.length : Int) then (if (t228.length : Int) = 0 then (none) else (if 0 ≤ (Int.tmod (rd t231 0) (t228.length : Int)) then (if (Int.tmod (rd t231 0) (t228.length : Int)) < (t228.length : Int) then (if 1 < (t231.length : Int) then (if ((rd_T32 t228 (Int.tmod (rd t231 0) (t228.length : Int))).f1) = 0 then (none) else ((impl_ArenaNew.f).bind fun t238 => ((spec_ClearCells.f k t238 0 0).bind fun t241 => (if 2 < (t231.length : Int) then ((impl_StoreCell.f t241 ((rd_T32 t228 (Int.tmod (rd t231 0) (t228.length : Int))).f0) ((rd_T32 t228 (Int.tmod (rd t231 0) (t228.length : Int))).f1) (Int.tmod (rd t231 1) ((rd_T32 t228 (Int.tmod (rd t231 0) (t228.length : Int))).f1)) (wrap64 ((rd t231 2) * 13))).bind fun bt246 => ((impl_LoadCell.f bt246.1 ((rd_T32 t228 (Int.tmod (rd t231 0) (t228.length : Int))).f0) ((rd_T32 t228 (Int.tmod (rd t231 0) (t228.length : Int))).f1) (Int.tmod (rd t231 1) ((rd_T32 t228 (Int.tmod (rd t231 0) (t228.length : Int))).f1))).bind fun bt251 => ((impl_StoreCell.f bt246.1 ((rd_T32 t228 (Int.tmod (rd t231 0) (t228.length : Int))).f0) ((rd_T32 t228 (Int.tmod (rd t231 0) (t228.length : Int))).f1) ((rd_T32 t228 (Int.tmod (rd t231 0) (t228.length : Int))).f1) 1).bind fun bt253 => ((impl_LoadCell.f bt246.1 ((rd_T32 t228 (Int.tmod (rd t231 0) (t228.length : Int))).f0) ((rd_T32 t228 (Int.tmod (rd t231 0) (t228.length : Int))).f1) (-1)).bind fun bt258 => (laws_FnStores.l0 k t228 t231 (Int.tmod (rd t231 1) ((rd_T32 t228 (Int.tmod (rd t231 0) (t228.length : Int))).f1)) bt246.2 bt251.1 bt251.2 bt253.2 bt258.2 0 ((rd_T32 t228 (Int.tmod (rd t231 0) (t228.length : Int))).f0) ((rd_T32 t228 (Int.tmod (rd t231 0) (t228.length : Int))).f1) t241 bt246.1))))) else (none))))) else (none)) else (none)) else (none))) else (none)))))
theorem laws_FnStores.mono_l : ∀ k, (∀ y0 y1 y2 y3 y4 y5 y6 y7 y8 y9 y10 y11 y12, LeO (laws_FnStores.l0 k y0 y1 y2 y3 y4 y5 y6 y7 y8 y9 y10 y11 y12) (laws_FnStores.l0 (k + 1) y0 y1 y2 y3 y4 y5 y6 y7 y8 y9 y10 y11 y12))
  | 0 => fun _ _ _ _ _ _ _ _ _ _ _ _ _ r h => by simp [laws_FnStores.l0] at h
  | k + 1 => by
    have ih0 := laws_FnStores.mono_l k
    · intro y0 y1 y2 y3 y4 y5 y6 y7 y8 y9 y10 y11 y12
      unfold laws_FnStores.l0
      repeat' first
      | (with_reducible exact ih0 _ _ _ _ _ _ _ _ _ _ _ _ _)
      | (with_reducible exact impl_RegionsOk.mono _ _)
      | (with_reducible exact spec_ClearCells.mono _ _ _ _)
      | (with_reducible exact spec_DrawPlaces.mono _ _)
      | (with_reducible exact spec_DrawRegions.mono _ _)
      | (with_reducible exact LeO.refl _)
      | (with_reducible exact LeO.none _)
      | (with_reducible refine LeO.ite ?_ ?_)
      | (with_reducible refine LeO.bind ?_ (fun _ => ?_))
      | exact ih0 _ _ _ _ _ _ _ _ _ _ _ _ _
      | exact impl_RegionsOk.mono _ _
      | exact spec_ClearCells.mono _ _ _ _
      | exact spec_DrawPlaces.mono _ _
      | exact spec_DrawRegions.mono _ _
      | exact LeO.none _
      | refine LeO.ite ?_ ?_
      | refine LeO.bind ?_ (fun _ => ?_)
theorem laws_FnStores.mono : ∀ a0 k, LeO (laws_FnStores.f k a0) (laws_FnStores.f (k + 1) a0) := by
  intro a0 k
  have ih0 := laws_FnStores.mono_l k
  unfold laws_FnStores.f
  repeat' first
      | (with_reducible exact ih0 _ _ _ _ _ _ _ _ _ _ _ _ _)
      | (with_reducible exact impl_RegionsOk.mono _ _)
      | (with_reducible exact spec_ClearCells.mono _ _ _ _)
      | (with_reducible exact spec_DrawPlaces.mono _ _)
      | (with_reducible exact spec_DrawRegions.mono _ _)
      | (with_reducible exact LeO.refl _)
      | (with_reducible exact LeO.none _)
      | (with_reducible refine LeO.ite ?_ ?_)
      | (with_reducible refine LeO.bind ?_ (fun _ => ?_))
      | exact ih0 _ _ _ _ _ _ _ _ _ _ _ _ _
      | exact impl_RegionsOk.mono _ _
      | exact spec_ClearCells.mono _ _ _ _
      | exact spec_DrawPlaces.mono _ _
      | exact spec_DrawRegions.mono _ _
      | exact LeO.none _
      | refine LeO.ite ?_ ?_
      | refine LeO.bind ?_ (fun _ => ?_)
def laws_FnStores.T8 : Bool × List (List Nat × List Nat) := (true, [([], []), ([], []), ([], []), ([], []), ([3], [3]), ([4], [4]), ([5], [5]), ([0, 1, 2, 6], [0, 1, 2, 6]), ([7], [7]), ([8], [8]), ([8], [8]), ([], []), ([11, 9, 7, 0, 1, 2, 3, 4, 5, 6, 7, 8, 9, 11], [9, 11]), ([10, 12, 0, 1, 2, 3, 4, 5, 6, 7, 8, 9, 10, 11, 12], [10])])
def laws_FnStores.B8 : List Nat := [0, 0, 0, 0, 8, 24, 56, 127, 255, 511, 511, 0, 3071, 8191]
theorem laws_FnStores.tab8 : rtab .any (opsOf Try.f4 8) = laws_FnStores.T8 := by kernel_rfl
theorem laws_FnStores.bits8 : waitsOk laws_FnStores.T8.2 laws_FnStores.B8 = true := by kernel_rfl
def laws_FnStores.T15 : Bool × List (List Nat × List Nat) := (true, [([], []), ([], []), ([1], [1]), ([], []), ([2, 3], [2, 3]), ([0, 4], [0, 4]), ([5], [5]), ([6], [6]), ([7, 6], [6, 7]), ([6], [6]), ([8, 9, 6], [6, 8, 9]), ([10, 6], [6, 10]), ([6], [6]), ([12, 6], [6, 12]), ([6], [6]), ([13, 14, 6], [6, 13, 14]), ([15, 6], [6, 15]), ([11, 16, 6], [6, 11, 16]), ([6, 17], [6, 17])])
def laws_FnStores.B15 : List Nat := [0, 0, 2, 0, 14, 31, 63, 127, 255, 127, 1023, 2047, 127, 4223, 127, 28799, 61567, 131071, 262143]
theorem laws_FnStores.tab15 : rtab .any (opsOf Try.f4 15) = laws_FnStores.T15 := by kernel_rfl
theorem laws_FnStores.bits15 : waitsOk laws_FnStores.T15.2 laws_FnStores.B15 = true := by kernel_rfl
set_option maxHeartbeats 8000000 in
set_option maxRecDepth 100000 in
theorem laws_FnStores.calls (k : Nat) (A0 : Option Addr) (c0 : Nat) (l0 : List Int) (r : Bool) (hrt : Aside0 (r = true)) (w : World) (hr0 : Kd.C (Kd.int .u8) w A0 l0.length l0) (hc0 : l0.length ≤ c0) (h : laws_FnStores.f k l0 = some r) :
    Calls Try.prog 4 #[.slice A0 l0.length c0] w fun e w' => e = .returned (.bool r) ∧ Below w.heap.size w w' := by
  have hu32 := Try.underlying32
  have hu29 := Try.underlying29
  have HR0 := Aside0.mk hr0
  have HC0 := Aside0.mk hc0
  clear hr0 hc0
  have HB := Aside0.mk (Below.refl w.heap.size w)
  have H : ((laws_big.f l0).bind fun t227 => (if t227 = true then (some true) else ((spec_DrawRegions.f k l0).bind fun t228 => ((spec_DrawPlaces.f k l0).bind fun t231 => (if 0 < (t231.length : Int) then (if (t228.length : Int) = 0 then (none) else (if 0 ≤ (Int.tmod (rd t231 0) (t228.length : Int)) then (if (Int.tmod (rd t231 0) (t228.length : Int)) < (t228.length : Int) then (if 1 < (t231.length : Int) then (if ((rd_T32 t228 (Int.tmod (rd t231 0) (t228.length : Int))).f1) = 0 then (none) else ((impl_ArenaNew.f).bind fun t238 => ((spec_ClearCells.f k t238 0 0).bind fun t241 => (if 2 < (t231.length : Int) then ((impl_StoreCell.f t241 ((rd_T32 t228 (Int.tmod (rd t231 0) (t228.length : Int))).f0) ((rd_T32 t228 (Int.tmod (rd t231 0) (t228.length : Int))).f1) (Int.tmod (rd t231 1) ((rd_T32 t228 (Int.tmod (rd t231 0) (t228.length : Int))).f1)) (wrap64 ((rd t231 2) * 13))).bind fun bt246 => ((impl_LoadCell.f bt246.1 ((rd_T32 t228 (Int.tmod (rd t231 0) (t228.length : Int))).f0) ((rd_T32 t228 (Int.tmod (rd t231 0) (t228.length : Int))).f1) (Int.tmod (rd t231 1) ((rd_T32 t228 (Int.tmod (rd t231 0) (t228.length : Int))).f1))).bind fun bt251 => ((impl_StoreCell.f bt246.1 ((rd_T32 t228 (Int.tmod (rd t231 0) (t228.length : Int))).f0) ((rd_T32 t228 (Int.tmod (rd t231 0) (t228.length : Int))).f1) ((rd_T32 t228 (Int.tmod (rd t231 0) (t228.length : Int))).f1) 1).bind fun bt253 => ((impl_LoadCell.f bt246.1 ((rd_T32 t228 (Int.tmod (rd t231 0) (t228.length : Int))).f0) ((rd_T32 t228 (Int.tmod (rd t231 0) (t228.length : Int))).f1) (-1)).bind fun bt258 => (laws_FnStores.l0 k t228 t231 (Int.tmod (rd t231 1) ((rd_T32 t228 (Int.tmod (rd t231 0) (t228.length : Int))).f1)) bt246.2 bt251.1 bt251.2 bt253.2 bt258.2 0 ((rd_T32 t228 (Int.tmod (rd t231 0) (t228.length : Int))).f0) ((rd_T32 t228 (Int.tmod (rd t231 0) (t228.length : Int))).f1) t241 bt246.1))))) else (none))))) else (none)) else (none)) else (none))) else (none)))))) = some r := h
  clear h
  replace H := Option.bind_eq_some_iff.mp H
  obtain ⟨t227, A20, H⟩ := H
  replace H : (if t227 = true then (some true) else ((spec_DrawRegions.f k l0).bind fun t228 => ((spec_DrawPlaces.f k l0).bind fun t231 => (if 0 < (t231.length : Int) then (if (t228.length : Int) = 0 then (none) else (if 0 ≤ (Int.tmod (rd t231 0) (t228.length : Int)) then (if (Int.tmod (rd t231 0) (t228.length : Int)) < (t228.length : Int) then (if 1 < (t231.length : Int) then (if ((rd_T32 t228 (Int.tmod (rd t231 0) (t228.length : Int))).f1) = 0 then (none) else ((impl_ArenaNew.f).bind fun t238 => ((spec_ClearCells.f k t238 0 0).bind fun t241 => (if 2 < (t231.length : Int) then ((impl_StoreCell.f t241 ((rd_T32 t228 (Int.tmod (rd t231 0) (t228.length : Int))).f0) ((rd_T32 t228 (Int.tmod (rd t231 0) (t228.length : Int))).f1) (Int.tmod (rd t231 1) ((rd_T32 t228 (Int.tmod (rd t231 0) (t228.length : Int))).f1)) (wrap64 ((rd t231 2) * 13))).bind fun bt246 => ((impl_LoadCell.f bt246.1 ((rd_T32 t228 (Int.tmod (rd t231 0) (t228.length : Int))).f0) ((rd_T32 t228 (Int.tmod (rd t231 0) (t228.length : Int))).f1) (Int.tmod (rd t231 1) ((rd_T32 t228 (Int.tmod (rd t231 0) (t228.length : Int))).f1))).bind fun bt251 => ((impl_StoreCell.f bt246.1 ((rd_T32 t228 (Int.tmod (rd t231 0) (t228.length : Int))).f0) ((rd_T32 t228 (Int.tmod (rd t231 0) (t228.length : Int))).f1) ((rd_T32 t228 (Int.tmod (rd t231 0) (t228.length : Int))).f1) 1).bind fun bt253 => ((impl_LoadCell.f bt246.1 ((rd_T32 t228 (Int.tmod (rd t231 0) (t228.length : Int))).f0) ((rd_T32 t228 (Int.tmod (rd t231 0) (t228.length : Int))).f1) (-1)).bind fun bt258 => (laws_FnStores.l0 k t228 t231 (Int.tmod (rd t231 1) ((rd_T32 t228 (Int.tmod (rd t231 0) (t228.length : Int))).f1)) bt246.2 bt251.1 bt251.2 bt253.2 bt258.2 0 ((rd_T32 t228 (Int.tmod (rd t231 0) (t228.length : Int))).f0) ((rd_T32 t228 (Int.tmod (rd t231 0) (t228.length : Int))).f1) t241 bt246.1))))) else (none))))) else (none)) else (none)) else (none))) else (none))))) = some r := H
  have A2 := Aside0.mk A20
  clear A20
  by_cases c3 : t227 = true
  · subst c3
    have H1 : (some true) = some r := by rw [if_pos rfl] at H; exact H
    clear H
    have H := H1
    clear H1
    obtain rfl := Option.some.inj H
    go_enter Try.func4, Try.ntmps4
    go_wp2_with (first | ((with_reducible refine gate_callee (f := 13) rfl ?_); refine goesL_ (some 22) rfl rfl Try.func13 (by kernel_rfl) rfl #[.slice A0 l0.length c0] rfl (by (try simp only [List.map_toArray, List.map_cons, List.map_nil]); first | done | rfl | (simp only [List.length_drop, List.length_take]; rfl)) ?_; (with_reducible refine (laws_big.calls _ _ l0 true _ ?side1 ?side2 A2.out).mono ?_); (case side1 => repeat (first | exact HR0.out | (with_reducible refine Kd.C_alloc ?_ _) | (with_reducible refine Kd.C_drewN ?_ _) | (with_reducible refine Kd.C_drew ?_))); (case side2 => exact HC0.out); rintro e w' ⟨rfl, ⟨nd, rfl⟩⟩; refine ⟨_, rfl, ?_⟩))
    go_ret
    exact ⟨by first | rfl | (simp [errW_none, errW_some] <;> rfl) | (simp [*, errW_none, errW_some] <;> rfl), by repeat (first | (with_reducible first | exact HB.out | apply below_alloc | apply pw_below_drewN | apply below_drew1) | exact HB.out)⟩
  · replace c3 := Bool.eq_false_iff.mpr c3
    subst c3
    have H1 : ((spec_DrawRegions.f k l0).bind fun t228 => ((spec_DrawPlaces.f k l0).bind fun t231 => (if 0 < (t231.length : Int) then (if (t228.length : Int) = 0 then (none) else (if 0 ≤ (Int.tmod (rd t231 0) (t228.length : Int)) then (if (Int.tmod (rd t231 0) (t228.length : Int)) < (t228.length : Int) then (if 1 < (t231.length : Int) then (if ((rd_T32 t228 (Int.tmod (rd t231 0) (t228.length : Int))).f1) = 0 then (none) else ((impl_ArenaNew.f).bind fun t238 => ((spec_ClearCells.f k t238 0 0).bind fun t241 => (if 2 < (t231.length : Int) then ((impl_StoreCell.f t241 ((rd_T32 t228 (Int.tmod (rd t231 0) (t228.length : Int))).f0) ((rd_T32 t228 (Int.tmod (rd t231 0) (t228.length : Int))).f1) (Int.tmod (rd t231 1) ((rd_T32 t228 (Int.tmod (rd t231 0) (t228.length : Int))).f1)) (wrap64 ((rd t231 2) * 13))).bind fun bt246 => ((impl_LoadCell.f bt246.1 ((rd_T32 t228 (Int.tmod (rd t231 0) (t228.length : Int))).f0) ((rd_T32 t228 (Int.tmod (rd t231 0) (t228.length : Int))).f1) (Int.tmod (rd t231 1) ((rd_T32 t228 (Int.tmod (rd t231 0) (t228.length : Int))).f1))).bind fun bt251 => ((impl_StoreCell.f bt246.1 ((rd_T32 t228 (Int.tmod (rd t231 0) (t228.length : Int))).f0) ((rd_T32 t228 (Int.tmod (rd t231 0) (t228.length : Int))).f1) ((rd_T32 t228 (Int.tmod (rd t231 0) (t228.length : Int))).f1) 1).bind fun bt253 => ((impl_LoadCell.f bt246.1 ((rd_T32 t228 (Int.tmod (rd t231 0) (t228.length : Int))).f0) ((rd_T32 t228 (Int.tmod (rd t231 0) (t228.length : Int))).f1) (-1)).bind fun bt258 => (laws_FnStores.l0 k t228 t231 (Int.tmod (rd t231 1) ((rd_T32 t228 (Int.tmod (rd t231 0) (t228.length : Int))).f1)) bt246.2 bt251.1 bt251.2 bt253.2 bt258.2 0 ((rd_T32 t228 (Int.tmod (rd t231 0) (t228.length : Int))).f0) ((rd_T32 t228 (Int.tmod (rd t231 0) (t228.length : Int))).f1) t241 bt246.1))))) else (none))))) else (none)) else (none)) else (none))) else (none)))) = some r := by rw [if_neg (show ¬ (false = true) by decide)] at H; exact H
    clear H
    have H := H1
    clear H1
    replace H := Option.bind_eq_some_iff.mp H
    obtain ⟨t228, A40, H⟩ := H
    replace H : ((spec_DrawPlaces.f k l0).bind fun t231 => (if 0 < (t231.length : Int) then (if (t228.length : Int) = 0 then (none) else (if 0 ≤ (Int.tmod (rd t231 0) (t228.length : Int)) then (if (Int.tmod (rd t231 0) (t228.length : Int)) < (t228.length : Int) then (if 1 < (t231.length : Int) then (if ((rd_T32 t228 (Int.tmod (rd t231 0) (t228.length : Int))).f1) = 0 then (none) else ((impl_ArenaNew.f).bind fun t238 => ((spec_ClearCells.f k t238 0 0).bind fun t241 => (if 2 < (t231.length : Int) then ((impl_StoreCell.f t241 ((rd_T32 t228 (Int.tmod (rd t231 0) (t228.length : Int))).f0) ((rd_T32 t228 (Int.tmod (rd t231 0) (t228.length : Int))).f1) (Int.tmod (rd t231 1) ((rd_T32 t228 (Int.tmod (rd t231 0) (t228.length : Int))).f1)) (wrap64 ((rd t231 2) * 13))).bind fun bt246 => ((impl_LoadCell.f bt246.1 ((rd_T32 t228 (Int.tmod (rd t231 0) (t228.length : Int))).f0) ((rd_T32 t228 (Int.tmod (rd t231 0) (t228.length : Int))).f1) (Int.tmod (rd t231 1) ((rd_T32 t228 (Int.tmod (rd t231 0) (t228.length : Int))).f1))).bind fun bt251 => ((impl_StoreCell.f bt246.1 ((rd_T32 t228 (Int.tmod (rd t231 0) (t228.length : Int))).f0) ((rd_T32 t228 (Int.tmod (rd t231 0) (t228.length : Int))).f1) ((rd_T32 t228 (Int.tmod (rd t231 0) (t228.length : Int))).f1) 1).bind fun bt253 => ((impl_LoadCell.f bt246.1 ((rd_T32 t228 (Int.tmod (rd t231 0) (t228.length : Int))).f0) ((rd_T32 t228 (Int.tmod (rd t231 0) (t228.length : Int))).f1) (-1)).bind fun bt258 => (laws_FnStores.l0 k t228 t231 (Int.tmod (rd t231 1) ((rd_T32 t228 (Int.tmod (rd t231 0) (t228.length : Int))).f1)) bt246.2 bt251.1 bt251.2 bt253.2 bt258.2 0 ((rd_T32 t228 (Int.tmod (rd t231 0) (t228.length : Int))).f0) ((rd_T32 t228 (Int.tmod (rd t231 0) (t228.length : Int))).f1) t241 bt246.1))))) else (none))))) else (none)) else (none)) else (none))) else (none))) = some r := H
    have A4 := Aside0.mk A40
    clear A40
    replace H := Option.bind_eq_some_iff.mp H
    obtain ⟨t231, A50, H⟩ := H
    replace H : (if 0 < (t231.length : Int) then (if (t228.length : Int) = 0 then (none) else (if 0 ≤ (Int.tmod (rd t231 0) (t228.length : Int)) then (if (Int.tmod (rd t231 0) (t228.length : Int)) < (t228.length : Int) then (if 1 < (t231.length : Int) then (if ((rd_T32 t228 (Int.tmod (rd t231 0) (t228.length : Int))).f1) = 0 then (none) else ((impl_ArenaNew.f).bind fun t238 => ((spec_ClearCells.f k t238 0 0).bind fun t241 => (if 2 < (t231.length : Int) then ((impl_StoreCell.f t241 ((rd_T32 t228 (Int.tmod (rd t231 0) (t228.length : Int))).f0) ((rd_T32 t228 (Int.tmod (rd t231 0) (t228.length : Int))).f1) (Int.tmod (rd t231 1) ((rd_T32 t228 (Int.tmod (rd t231 0) (t228.length : Int))).f1)) (wrap64 ((rd t231 2) * 13))).bind fun bt246 => ((impl_LoadCell.f bt246.1 ((rd_T32 t228 (Int.tmod (rd t231 0) (t228.length : Int))).f0) ((rd_T32 t228 (Int.tmod (rd t231 0) (t228.length : Int))).f1) (Int.tmod (rd t231 1) ((rd_T32 t228 (Int.tmod (rd t231 0) (t228.length : Int))).f1))).bind fun bt251 => ((impl_StoreCell.f bt246.1 ((rd_T32 t228 (Int.tmod (rd t231 0) (t228.length : Int))).f0) ((rd_T32 t228 (Int.tmod (rd t231 0) (t228.length : Int))).f1) ((rd_T32 t228 (Int.tmod (rd t231 0) (t228.length : Int))).f1) 1).bind fun bt253 => ((impl_LoadCell.f bt246.1 ((rd_T32 t228 (Int.tmod (rd t231 0) (t228.length : Int))).f0) ((rd_T32 t228 (Int.tmod (rd t231 0) (t228.length : Int))).f1) (-1)).bind fun bt258 => (laws_FnStores.l0 k t228 t231 (Int.tmod (rd t231 1) ((rd_T32 t228 (Int.tmod (rd t231 0) (t228.length : Int))).f1)) bt246.2 bt251.1 bt251.2 bt253.2 bt258.2 0 ((rd_T32 t228 (Int.tmod (rd t231 0) (t228.length : Int))).f0) ((rd_T32 t228 (Int.tmod (rd t231 0) (t228.length : Int))).f1) t241 bt246.1))))) else (none))))) else (none)) else (none)) else (none))) else (none)) = some r := H
    have A5 := Aside0.mk A50
    clear A50
    by_cases c6 : 0 < (t231.length : Int)
    · rw [if_pos c6] at H
      have c6b0 : decide (0 < (t231.length : Int)) = true := decide_eq_true c6
      have c6b1 : decide (0 < t231.length) = true := decide_eq_true (by omega)
      clear c6
      by_cases c7 : (t228.length : Int) = 0
      · rw [if_pos c7] at H
        exact absurd H (by simp)
      · rw [if_neg c7] at H
        have c7b0 : ((t228.length : Int) == 0) = false := beq_eq_false_iff_ne.mpr c7
        have c7b1 : ((t228.length : Int) != 0) = true := bne_iff_ne.mpr c7
        have c7b2 : ¬ (t228 = []) := fun h_ => c7 (by rw [h_]; rfl)
        obtain ⟨ji8, hji8⟩ : ∃ j_ : Int, (Int.tmod (rd t231 0) (t228.length : Int)) = j_ := ⟨_, rfl⟩
        replace H : (if 0 ≤ (ji8) then (if (ji8) < (t228.length : Int) then (if 1 < (t231.length : Int) then (if ((rd_T32 t228 (ji8)).f1) = 0 then (none) else ((impl_ArenaNew.f).bind fun t238 => ((spec_ClearCells.f k t238 0 0).bind fun t241 => (if 2 < (t231.length : Int) then ((impl_StoreCell.f t241 ((rd_T32 t228 (ji8)).f0) ((rd_T32 t228 (ji8)).f1) (Int.tmod (rd t231 1) ((rd_T32 t228 (ji8)).f1)) (wrap64 ((rd t231 2) * 13))).bind fun bt246 => ((impl_LoadCell.f bt246.1 ((rd_T32 t228 (ji8)).f0) ((rd_T32 t228 (ji8)).f1) (Int.tmod (rd t231 1) ((rd_T32 t228 (ji8)).f1))).bind fun bt251 => ((impl_StoreCell.f bt246.1 ((rd_T32 t228 (ji8)).f0) ((rd_T32 t228 (ji8)).f1) ((rd_T32 t228 (ji8)).f1) 1).bind fun bt253 => ((impl_LoadCell.f bt246.1 ((rd_T32 t228 (ji8)).f0) ((rd_T32 t228 (ji8)).f1) (-1)).bind fun bt258 => (laws_FnStores.l0 k t228 t231 (Int.tmod (rd t231 1) ((rd_T32 t228 (ji8)).f1)) bt246.2 bt251.1 bt251.2 bt253.2 bt258.2 0 ((rd_T32 t228 (ji8)).f0) ((rd_T32 t228 (ji8)).f1) t241 bt246.1))))) else (none))))) else (none)) else (none)) else (none)) = some r := by first | (rw [hji8] at H; exact H) | (simp only [hji8] at H ⊢; exact H)
        (try rw [hji8] at A2)
        (try rw [hji8] at A4)
        (try rw [hji8] at A5)
        by_cases c9 : 0 ≤ (ji8)
        · rw [if_pos c9] at H
          have c9b0 : decide (0 ≤ (ji8)) = true := decide_eq_true c9
          clear c9
          by_cases c10 : (ji8) < (t228.length : Int)
          · rw [if_pos c10] at H
            have c10b0 : decide ((ji8) < (t228.length : Int)) = true := decide_eq_true c10
            clear c10
            by_cases c11 : 1 < (t231.length : Int)
            · rw [if_pos c11] at H
              have c11b0 : decide (1 < (t231.length : Int)) = true := decide_eq_true c11
              have c11b1 : decide (1 < t231.length) = true := decide_eq_true (by omega)
              clear c11
              by_cases c12 : ((rd_T32 t228 (ji8)).f1) = 0
              · rw [if_pos c12] at H
                exact absurd H (by simp)
              · rw [if_neg c12] at H
                have c12b0 : (((rd_T32 t228 (ji8)).f1) == 0) = false := beq_eq_false_iff_ne.mpr c12
                have c12b1 : (((rd_T32 t228 (ji8)).f1) != 0) = true := bne_iff_ne.mpr c12
                replace H := Option.bind_eq_some_iff.mp H
                obtain ⟨t238, A130, H⟩ := H
                replace H : ((spec_ClearCells.f k t238 0 0).bind fun t241 => (if 2 < (t231.length : Int) then ((impl_StoreCell.f t241 ((rd_T32 t228 (ji8)).f0) ((rd_T32 t228 (ji8)).f1) (Int.tmod (rd t231 1) ((rd_T32 t228 (ji8)).f1)) (wrap64 ((rd t231 2) * 13))).bind fun bt246 => ((impl_LoadCell.f bt246.1 ((rd_T32 t228 (ji8)).f0) ((rd_T32 t228 (ji8)).f1) (Int.tmod (rd t231 1) ((rd_T32 t228 (ji8)).f1))).bind fun bt251 => ((impl_StoreCell.f bt246.1 ((rd_T32 t228 (ji8)).f0) ((rd_T32 t228 (ji8)).f1) ((rd_T32 t228 (ji8)).f1) 1).bind fun bt253 => ((impl_LoadCell.f bt246.1 ((rd_T32 t228 (ji8)).f0) ((rd_T32 t228 (ji8)).f1) (-1)).bind fun bt258 => (laws_FnStores.l0 k t228 t231 (Int.tmod (rd t231 1) ((rd_T32 t228 (ji8)).f1)) bt246.2 bt251.1 bt251.2 bt253.2 bt258.2 0 ((rd_T32 t228 (ji8)).f0) ((rd_T32 t228 (ji8)).f1) t241 bt246.1))))) else (none))) = some r := H
                have A13 := Aside0.mk A130
                clear A130
                replace H := Option.bind_eq_some_iff.mp H
                obtain ⟨t241, A140, H⟩ := H
                replace H : (if 2 < (t231.length : Int) then ((impl_StoreCell.f t241 ((rd_T32 t228 (ji8)).f0) ((rd_T32 t228 (ji8)).f1) (Int.tmod (rd t231 1) ((rd_T32 t228 (ji8)).f1)) (wrap64 ((rd t231 2) * 13))).bind fun bt246 => ((impl_LoadCell.f bt246.1 ((rd_T32 t228 (ji8)).f0) ((rd_T32 t228 (ji8)).f1) (Int.tmod (rd t231 1) ((rd_T32 t228 (ji8)).f1))).bind fun bt251 => ((impl_StoreCell.f bt246.1 ((rd_T32 t228 (ji8)).f0) ((rd_T32 t228 (ji8)).f1) ((rd_T32 t228 (ji8)).f1) 1).bind fun bt253 => ((impl_LoadCell.f bt246.1 ((rd_T32 t228 (ji8)).f0) ((rd_T32 t228 (ji8)).f1) (-1)).bind fun bt258 => (laws_FnStores.l0 k t228 t231 (Int.tmod (rd t231 1) ((rd_T32 t228 (ji8)).f1)) bt246.2 bt251.1 bt251.2 bt253.2 bt258.2 0 ((rd_T32 t228 (ji8)).f0) ((rd_T32 t228 (ji8)).f1) t241 bt246.1))))) else (none)) = some r := H
                have A14 := Aside0.mk A140
                clear A140
                by_cases c15 : 2 < (t231.length : Int)
                · rw [if_pos c15] at H
                  have c15b0 : decide (2 < (t231.length : Int)) = true := decide_eq_true c15
                  have c15b1 : decide (2 < t231.length) = true := decide_eq_true (by omega)
                  clear c15
                  replace H := Option.bind_eq_some_iff.mp H
                  obtain ⟨⟨t246, t249⟩, A160, H⟩ := H
                  replace H : ((impl_LoadCell.f t246 ((rd_T32 t228 (ji8)).f0) ((rd_T32 t228 (ji8)).f1) (Int.tmod (rd t231 1) ((rd_T32 t228 (ji8)).f1))).bind fun bt251 => ((impl_StoreCell.f t246 ((rd_T32 t228 (ji8)).f0) ((rd_T32 t228 (ji8)).f1) ((rd_T32 t228 (ji8)).f1) 1).bind fun bt253 => ((impl_LoadCell.f t246 ((rd_T32 t228 (ji8)).f0) ((rd_T32 t228 (ji8)).f1) (-1)).bind fun bt258 => (laws_FnStores.l0 k t228 t231 (Int.tmod (rd t231 1) ((rd_T32 t228 (ji8)).f1)) t249 bt251.1 bt251.2 bt253.2 bt258.2 0 ((rd_T32 t228 (ji8)).f0) ((rd_T32 t228 (ji8)).f1) t241 t246)))) = some r := H
                  have A16 := Aside0.mk A160
                  clear A160
                  replace H := Option.bind_eq_some_iff.mp H
                  obtain ⟨⟨t251, t252⟩, A170, H⟩ := H
                  replace H : ((impl_StoreCell.f t246 ((rd_T32 t228 (ji8)).f0) ((rd_T32 t228 (ji8)).f1) ((rd_T32 t228 (ji8)).f1) 1).bind fun bt253 => ((impl_LoadCell.f t246 ((rd_T32 t228 (ji8)).f0) ((rd_T32 t228 (ji8)).f1) (-1)).bind fun bt258 => (laws_FnStores.l0 k t228 t231 (Int.tmod (rd t231 1) ((rd_T32 t228 (ji8)).f1)) t249 t251 t252 bt253.2 bt258.2 0 ((rd_T32 t228 (ji8)).f0) ((rd_T32 t228 (ji8)).f1) t241 t246))) = some r := H
                  have A17 := Aside0.mk A170
                  clear A170
                  replace H := Option.bind_eq_some_iff.mp H
                  obtain ⟨⟨t253, t256⟩, A180, H⟩ := H
                  replace H : ((impl_LoadCell.f t246 ((rd_T32 t228 (ji8)).f0) ((rd_T32 t228 (ji8)).f1) (-1)).bind fun bt258 => (laws_FnStores.l0 k t228 t231 (Int.tmod (rd t231 1) ((rd_T32 t228 (ji8)).f1)) t249 t251 t252 t256 bt258.2 0 ((rd_T32 t228 (ji8)).f0) ((rd_T32 t228 (ji8)).f1) t241 t246)) = some r := H
                  have A18 := Aside0.mk A180
                  clear A180
                  replace H := Option.bind_eq_some_iff.mp H
                  obtain ⟨⟨t258, t259⟩, A190, H⟩ := H
                  replace H : (laws_FnStores.l0 k t228 t231 (Int.tmod (rd t231 1) ((rd_T32 t228 (ji8)).f1)) t249 t251 t252 t256 t259 0 ((rd_T32 t228 (ji8)).f0) ((rd_T32 t228 (ji8)).f1) t241 t246) = some r := H
                  have A19 := Aside0.mk A190
                  clear A190
                  have H' := Aside0.mk H
                  clear H
                  go_enter Try.func4, Try.ntmps4
                  try go_wp2_with (first | ((with_reducible refine gate_callee (f := 13) rfl ?_); refine goesL_ (some 22) rfl rfl Try.func13 (by kernel_rfl) rfl #[.slice A0 l0.length c0] rfl (by (try simp only [List.map_toArray, List.map_cons, List.map_nil]); first | done | rfl | (simp only [List.length_drop, List.length_take]; rfl)) ?_; (with_reducible refine (laws_big.calls _ _ l0 false _ ?side1 ?side2 A2.out).mono ?_); (case side1 => repeat (first | exact HR0.out | (with_reducible refine Kd.C_alloc ?_ _) | (with_reducible refine Kd.C_drewN ?_ _) | (with_reducible refine Kd.C_drew ?_))); (case side2 => exact HC0.out); rintro e w' ⟨rfl, ⟨nd, rfl⟩⟩; refine ⟨_, rfl, ?_⟩) | ((with_reducible refine gate_callee (f := 14) rfl ?_); refine goesL_ (some 24) rfl rfl Try.func14 (by kernel_rfl) rfl #[.slice A0 l0.length c0] rfl (by (try simp only [List.map_toArray, List.map_cons, List.map_nil]); first | done | rfl | (simp only [List.length_drop, List.length_take]; rfl)) ?_; (with_reducible refine (spec_DrawRegions.calls k _ _ l0 t228 _ ?side1 ?side2 A4.out).mono ?_); (case side1 => repeat (first | exact HR0.out | (with_reducible refine Kd.C_alloc ?_ _) | (with_reducible refine Kd.C_drewN ?_ _) | (with_reducible refine Kd.C_drew ?_))); (case side2 => exact HC0.out); rintro e w20 ⟨v229, rfl, ho0, hb⟩; refine ⟨_, rfl, ?_⟩; have n0_ := Aside0.mk (Kd.R_lower ho0 (below_size (by repeat (first | (with_reducible first | exact HB.out | apply below_alloc | apply pw_below_drewN | apply below_drew1) | exact HB.out)))); have n1_ := Aside0.mk (below_step (by repeat (first | (with_reducible first | exact HB.out | apply below_alloc | apply pw_below_drewN | apply below_drew1) | exact HB.out)) hb); clear HB; have HO230 := n0_; have HB := n1_; clear n0_ n1_; (try clear hb); (try clear hb2); (try clear hk); (try clear hi); (try clear ho0)) | ((with_reducible refine gate_callee (f := 15) rfl ?_); refine goesL_ (some 26) rfl rfl Try.func15 (by kernel_rfl) rfl #[.slice A0 l0.length c0] rfl (by (try simp only [List.map_toArray, List.map_cons, List.map_nil]); first | done | rfl | (simp only [List.length_drop, List.length_take]; rfl)) ?_; (with_reducible refine (spec_DrawPlaces.calls k _ _ l0 t231 _ ?side1 ?side2 A5.out).mono ?_); (case side1 => repeat (first | exact (Kd.C_below HR0.out HB.out) | (with_reducible refine Kd.C_alloc ?_ _) | (with_reducible refine Kd.C_drewN ?_ _) | (with_reducible refine Kd.C_drew ?_))); (case side2 => exact HC0.out); rintro e w21 ⟨v232, rfl, ho0, hb⟩; refine ⟨_, rfl, ?_⟩; have n0_ := Aside0.mk (Kd.R_below (by (with_reducible repeat (first | apply Kd.R_alloc | apply Kd.R_drewN | apply Kd.R_drew)); exact HO230.out) hb); have n1_ := Aside0.mk (Kd.R_lower ho0 (below_size (by repeat (first | (with_reducible first | exact HB.out | apply below_alloc | apply pw_below_drewN | apply below_drew1) | exact HB.out)))); have n2_ := Aside0.mk (below_step (by repeat (first | (with_reducible first | exact HB.out | apply below_alloc | apply pw_below_drewN | apply below_drew1) | exact HB.out)) hb); clear HO230; clear HB; have HO230 := n0_; have HO233 := n1_; have HB := n2_; clear n0_ n1_ n2_; (try clear hb); (try clear hb2); (try clear hk); (try clear hi); (try clear ho0); obtain ⟨Ao22, co22, eo22⟩ := Kd.R_slice HO233.out; subst eo22; have p234 : 0 ≤ (0 : Int) := (by omega); have q234 : 0 < (t231.length : Int) := of_decide_eq_true (by first | (with_reducible assumption) | assumption); obtain ⟨ad234, e234, hx234_0⟩ := Kd.at_int (Kd.R_reads' HO233.out).2.2 0 p234 q234; cases e234; have qi234 : (0 < t231.length) = True := eq_true (by omega); (try rw [show ((0 : Int)).toNat = 0 from rfl] at hx234_0); (try rw [Addr.add_zero'] at hx234_0); replace p234 := eq_true p234; replace q234 := eq_true q234; obtain ⟨Ao23, co23, eo23⟩ := Kd.R_slice HO230.out; subst eo23; have p235 : 0 ≤ ((ji8) : Int) := of_decide_eq_true (by first | (with_reducible assumption) | assumption); have q235 : (ji8) < (t228.length : Int) := of_decide_eq_true (by first | (with_reducible assumption) | assumption); obtain ⟨ad235, e235, hx235_0, hx235_1⟩ := at_T32 (Kd.R_reads' HO230.out).2.2 (ji8) p235 q235; cases e235; replace p235 := eq_true p235; replace q235 := eq_true q235) | ((with_reducible refine gate_dst (N := 5) rfl ?_); (try (refine gate_guard (by rfl) ?_; dsimp only)); refine box_event ?hg (N := 5) ?hd (cs := #[.int .i64 0, .int .i64 0]) (t := 32) ?hr ?_; (case hd => rfl); (case hg => rfl); (case hr => first | (go_simp; done) | (go_simp; rfl)); intro gb236 hg w24 hbox hb; have n0_ := Aside0.mk (Kd.R_below (Kd.R_elderB (by (with_reducible repeat (first | apply Kd.R_alloc | apply Kd.R_drewN | apply Kd.R_drew)); exact HO230.out) gb236 (Nat.le_of_eq hg.symm)) hb); have n1_ := Aside0.mk (Kd.R_below (by (with_reducible repeat (first | apply Kd.R_alloc | apply Kd.R_drewN | apply Kd.R_drew)); exact HO233.out) hb); have n2_ := Aside0.mk (below_step (by repeat (first | (with_reducible first | exact HB.out | apply below_alloc | apply pw_below_drewN | apply below_drew1) | exact HB.out)) hb); have n3_ := Aside0.mk (hbox); have n4_ := Aside0.mk ((by rw [hg]; exact (below_size (by repeat (first | (with_reducible first | exact HB.out | apply below_alloc | apply pw_below_drewN | apply below_drew1) | exact HB.out))) : w.heap.size ≤ gb236)); have n5_ := Aside0.mk ((by rw [hg]; exact (below_size (by repeat (first | (with_reducible first | exact HB.out | apply below_alloc | apply pw_below_drewN | apply below_drew1) | exact HB.out))) : w.heap.size ≤ gb236)); clear HO230; clear HO233; clear HB; have HO230 := n0_; have HO233 := n1_; have HB := n2_; have BK236 := n3_; have GW236 := n4_; have GE236 := n5_; clear n0_ n1_ n2_ n3_ n4_ n5_; clear hb hbox hg; have hcz25_0 : w24.cell? ⟨gb236, 0, none⟩ = some (.int .i64 0) := (blk_cell BK236.out 0).trans rfl; have hcz25_1 : w24.cell? ⟨gb236, 1, none⟩ = some (.int .i64 0) := (blk_cell BK236.out 1).trans rfl; have hfz25_0 := blk_frozen BK236.out 0; have hfz25_1 := blk_frozen BK236.out 1))
                  have n0_ : Aside0 (Kd.R k32 32 ((w24.setCell ⟨gb236, 0, none⟩ (.int .i64 ((rd_T32 t228 (ji8)).f0))).setCell ⟨gb236, 1, none⟩ (.int .i64 ((rd_T32 t228 (ji8)).f1))) w.heap.size (fun k_ => k_ ≠ gb236) (.slice (some ad235) t228.length co23) t228) := ⟨by (with_reducible repeat (first | apply Kd.R_alloc | apply Kd.R_drewN | apply Kd.R_drew)); exact Kd.R_mono (Kd.R_far (p := ⟨gb236, 1, none⟩) (Kd.R_far (p := ⟨gb236, 0, none⟩) (Kd.R_mono HO230.out (fun k_ hk => (⟨hk, hk.2⟩ : _ ∧ k_ ≠ gb236))) (fun _ hk => hk.2) (.int .i64 ((rd_T32 t228 (ji8)).f0))) (fun _ hk => hk.2) (.int .i64 ((rd_T32 t228 (ji8)).f1))) (fun _ hk => hk.1.2)⟩
                  have n1_ : Aside0 (Kd.R (Kd.int .i64) 3 ((w24.setCell ⟨gb236, 0, none⟩ (.int .i64 ((rd_T32 t228 (ji8)).f0))).setCell ⟨gb236, 1, none⟩ (.int .i64 ((rd_T32 t228 (ji8)).f1))) w.heap.size (fun _ => True) (.slice (some ad234) t231.length co22) t231) := ⟨by (with_reducible repeat (first | apply Kd.R_alloc | apply Kd.R_drewN | apply Kd.R_drew)); exact Kd.R_mono (Kd.R_far (p := ⟨gb236, 1, none⟩) (Kd.R_far (p := ⟨gb236, 0, none⟩) (Kd.R_types HO233.out BK236.out (by decide)) (fun _ hk => hk.2) (.int .i64 ((rd_T32 t228 (ji8)).f0))) (fun _ hk => hk.2) (.int .i64 ((rd_T32 t228 (ji8)).f1))) (fun _ hk => trivial)⟩
                  have n2_ : Aside0 (((w24.setCell ⟨gb236, 0, none⟩ (.int .i64 ((rd_T32 t228 (ji8)).f0))).setCell ⟨gb236, 1, none⟩ (.int .i64 ((rd_T32 t228 (ji8)).f1))).heap[gb236]? = some (.cells #[.int .i64 ((rd_T32 t228 (ji8)).f0), .int .i64 ((rd_T32 t228 (ji8)).f1)] 32 (0, 0))) := ⟨by (with_reducible repeat (first | refine blk_drewN ?_ _ | refine blk_drew ?_ | refine blk_alloc ?_ _)); refine blk_put (cs := #[.int .i64 ((rd_T32 t228 (ji8)).f0), .int .i64 0]) ?_ 1 _ rfl; (with_reducible repeat (first | refine blk_drewN ?_ _ | refine blk_drew ?_ | refine blk_alloc ?_ _)); refine blk_put (cs := #[.int .i64 0, .int .i64 0]) ?_ 0 _ rfl; (with_reducible repeat (first | refine blk_drewN ?_ _ | refine blk_drew ?_ | refine blk_alloc ?_ _)); exact BK236.out⟩
                  have n3_ : Aside0 (Below w.heap.size w ((w24.setCell ⟨gb236, 0, none⟩ (.int .i64 ((rd_T32 t228 (ji8)).f0))).setCell ⟨gb236, 1, none⟩ (.int .i64 ((rd_T32 t228 (ji8)).f1)))) := ⟨by repeat (first | (with_reducible first | exact HB.out | apply below_alloc | apply pw_below_drewN | apply below_drew1 | refine below_set ?_ GE236.out) | exact HB.out)⟩
                  (try clear HO230)
                  (try clear HO233)
                  (try clear BK236)
                  (try clear HB)
                  generalize ((w24.setCell ⟨gb236, 0, none⟩ (.int .i64 ((rd_T32 t228 (ji8)).f0))).setCell ⟨gb236, 1, none⟩ (.int .i64 ((rd_T32 t228 (ji8)).f1))) = w26 at n0_ n1_ n2_ n3_ ⊢
                  have HO230 := n0_
                  have HO233 := n1_
                  have BK236 := n2_
                  have HB := n3_
                  clear n0_ n1_ n2_ n3_
                  have n0_ := Aside0.mk (Kd.R_drew HO230.out)
                  have n1_ := Aside0.mk (Kd.R_drew HO233.out)
                  have n2_ := Aside0.mk (blk_drew BK236.out)
                  have n3_ := Aside0.mk (below_drew1 HB.out)
                  clear HO230
                  clear HO233
                  clear BK236
                  clear HB
                  have HO230 := n0_
                  have HO233 := n1_
                  have BK236 := n2_
                  have HB := n3_
                  clear n0_ n1_ n2_ n3_
                  have p237 : 0 ≤ (1 : Int) := (by omega)
                  have q237 : 1 < (t231.length : Int) := of_decide_eq_true (by first | (with_reducible assumption) | assumption)
                  obtain ⟨ad237, e237, hx237_0⟩ := Kd.at_int (Kd.R_reads' HO233.out).2.2 1 p237 q237
                  obtain rfl : ad234 = ad237 := (by injection e237)
                  (try simp only [show (1 : Int).toNat = 1 from rfl, Nat.reduceMul, Nat.reduceEqDiff, Go.Addr.add, ↓reduceIte] at hx237_0)
                  have qi237 : (1 < t231.length) = True := eq_true (by omega)
                  (try rw [show ((1 : Int)).toNat = 1 from rfl] at hx237_0)
                  replace p237 := eq_true p237
                  replace q237 := eq_true q237
                  refine start_ (n := 7) (S := fun w' => w'.cell? ⟨gb236, 0, none⟩ = some (.int .i64 ((rd_T32 t228 (ji8)).f0)) ∧ w'.cell? ⟨gb236, 1, none⟩ = some (.int .i64 ((rd_T32 t228 (ji8)).f1)) ∧ w'.cell? ⟨ad234.block, ad234.off + 1, none⟩ = some (.int .i64 (rd t231 1))) (ds := []) #[false, false, false, false, false, false, false] (by kernel_rfl) rfl rfl ⟨(blk_cell BK236.out 0).trans rfl, (blk_cell BK236.out 1).trans rfl, hx237_0⟩ (fun hHeld => ?_)
                  generalize w26.drew = w27 at HO230 HO233 BK236 HB hx237_0 hHeld ⊢
                  refine pure_ (i := 0) (N := some 36) (v := ?_) (a' := ?_) #[true, false, false, false, false, false, false] rfl rfl (by kernel_rfl) (fun _ _ _ h => h) (Or.inl ⟨by rfl, ?_⟩) ?_ ?_
                  rotate_left
                  · intro w'
                    go_simp
                    with_reducible rfl
                  rotate_left
                  · simp only [Act.put, List.setIfInBounds_toArray, List.set_cons_zero, List.set_cons_succ, i64_w, i32_w]
                    rfl
                  refine pure_ (i := 1) (N := some 37) (v := ?_) (a' := ?_) #[true, true, false, false, false, false, false] rfl rfl (by kernel_rfl) (fun _ _ _ h => h) (Or.inl ⟨by rfl, ?_⟩) ?_ ?_
                  rotate_left
                  · intro w'
                    go_simp
                    with_reducible rfl
                  rotate_left
                  · simp only [Act.put, List.setIfInBounds_toArray, List.set_cons_zero, List.set_cons_succ, i64_w, i32_w]
                    rfl
                  refine pure_ (i := 3) (N := some 39) (v := ?_) (a' := ?_) #[true, true, false, true, false, false, false] rfl rfl (by kernel_rfl) (fun _ _ _ h => h) (Or.inl ⟨by rfl, ?_⟩) ?_ ?_
                  rotate_left
                  · intro w'
                    go_simp
                    with_reducible rfl
                  rotate_left
                  · simp only [Act.put, List.setIfInBounds_toArray, List.set_cons_zero, List.set_cons_succ, i64_w, i32_w]
                    rfl
                  refine take_ (i := 2) (N := some 38) (v := ?_) (a' := ?_) #[true, true, true, true, false, false, false] rfl rfl (by kernel_rfl) (fun _ _ _ h => h) (Or.inl ⟨by rfl, ?_⟩) hHeld ?_ ?_
                  rotate_left
                  · rintro w' ⟨s0, s1, s2⟩
                    go_simp
                    with_reducible rfl
                  rotate_left
                  · simp only [Act.put, List.setIfInBounds_toArray, List.set_cons_zero, List.set_cons_succ, i64_w, i32_w]
                    rfl
                  refine take_ (i := 4) (N := some 40) (v := ?_) (a' := ?_) #[true, true, true, true, true, false, false] rfl rfl (by kernel_rfl) (fun _ _ _ h => h) (Or.inl ⟨by rfl, ?_⟩) hHeld ?_ ?_
                  rotate_left
                  · rintro w' ⟨s0, s1, s2⟩
                    go_simp
                    with_reducible rfl
                  rotate_left
                  · simp only [Act.put, List.setIfInBounds_toArray, List.set_cons_zero, List.set_cons_succ, i64_w, i32_w]
                    rfl
                  refine pure_ (i := 5) (N := some 41) (v := ?_) (a' := ?_) #[true, true, true, true, true, true, false] rfl rfl (by kernel_rfl) (fun _ _ _ h => h) (Or.inl ⟨by rfl, ?_⟩) ?_ ?_
                  rotate_left
                  · intro w'
                    go_simp
                    with_reducible rfl
                  rotate_left
                  · simp only [Act.put, List.setIfInBounds_toArray, List.set_cons_zero, List.set_cons_succ, i64_w, i32_w]
                    rfl
                  refine pure_ (i := 6) (N := some 6) (v := ?_) (a' := ?_) #[true, true, true, true, true, true, true] rfl rfl (by kernel_rfl) (fun _ _ _ h => h) (Or.inl ⟨by rfl, ?_⟩) ?_ ?_
                  rotate_left
                  · intro w'
                    go_simp
                    with_reducible rfl
                  rotate_left
                  · simp only [Act.put, List.setIfInBounds_toArray, List.set_cons_zero, List.set_cons_succ, i64_w, i32_w]
                    rfl
                  refine done_ (by kernel_rfl) ?_
                  try go_wp2_with (first | ((with_reducible refine gate_callee (f := 16) rfl ?_); refine goesL_ (some 42) rfl rfl Try.func16 (by kernel_rfl) rfl #[] rfl (by (try simp only [List.map_toArray, List.map_cons, List.map_nil]); first | done | rfl | (simp only [List.length_drop, List.length_take]; rfl)) ?_; (with_reducible refine (impl_ArenaNew.calls  t238 _ A13.out).mono ?_); rintro e w28 ⟨v239, rfl, ho0, hb⟩; refine ⟨_, rfl, ?_⟩; have n0_ := Aside0.mk (Kd.R_below (by (with_reducible repeat (first | apply Kd.R_alloc | apply Kd.R_drewN | apply Kd.R_drew)); exact HO230.out) hb); have n1_ := Aside0.mk (Kd.R_elder' (by (with_reducible repeat (first | apply Kd.R_alloc | apply Kd.R_drewN | apply Kd.R_drew)); exact HO233.out) (Kd.R_base ho0) hb); have n2_ := Aside0.mk (Kd.R_lower (Kd.R_new' ho0 (Kd.R_lt (by (with_reducible repeat (first | apply Kd.R_alloc | apply Kd.R_drewN | apply Kd.R_drew)); exact HO233.out))) (below_size (by repeat (first | (with_reducible first | exact HB.out | apply below_alloc | apply pw_below_drewN | apply below_drew1 | refine below_set ?_ GE236.out) | exact HB.out)))); have n3_ := Aside0.mk (blk_below (g := gb236) (o := .cells #[.int .i64 ((rd_T32 t228 (ji8)).f0), .int .i64 ((rd_T32 t228 (ji8)).f1)] 32 (0, 0)) (by (with_reducible repeat (first | refine blk_drewN ?_ _ | refine blk_drew ?_ | refine blk_alloc ?_ _)); exact BK236.out) hb); have n4_ := Aside0.mk (below_step (by repeat (first | (with_reducible first | exact HB.out | apply below_alloc | apply pw_below_drewN | apply below_drew1 | refine below_set ?_ GE236.out) | exact HB.out)) hb); clear HO230; clear HO233; clear BK236; clear HB; have HO230 := n0_; have HO233 := n1_; have HO240 := n2_; have BK236 := n3_; have HB := n4_; clear n0_ n1_ n2_ n3_ n4_; (try clear hb); (try clear hb2); (try clear hk); (try clear hi); (try clear ho0); obtain ⟨Ao29, co29, eo29⟩ := Kd.R_slice HO240.out; subst eo29) | ((with_reducible refine gate_callee (f := 22) rfl ?_); refine goesL_ (some 44) rfl rfl Try.func22 (by kernel_rfl) rfl #[.agg #[.slice Ao29 t238.length co29], .agg #[.int .i64 0, .int .i64 0]] rfl (by (try simp only [List.map_toArray, List.map_cons, List.map_nil]); first | done | rfl | (simp only [List.length_drop, List.length_take]; rfl)) ?_; (with_reducible refine (spec_ClearCells.calls k _ _ t238 0 0 t241 _ ?side1 ?side2 A14.out).mono ?_); (case side1 => repeat (first | exact (Kd.R_reads' HO240.out).2.2 | (with_reducible refine Kd.C_alloc ?_ _) | (with_reducible refine Kd.C_drewN ?_ _) | (with_reducible refine Kd.C_drew ?_))); (case side2 => exact (Kd.R_reads' HO240.out).2.1); rintro e w30 ⟨v242, rfl, ho0, hb⟩; refine ⟨_, rfl, ?_⟩; have n0_ := Aside0.mk (Kd.R_below (by (with_reducible repeat (first | apply Kd.R_alloc | apply Kd.R_drewN | apply Kd.R_drew)); exact HO230.out) hb); have n1_ := Aside0.mk (Kd.R_elder' (by (with_reducible repeat (first | apply Kd.R_alloc | apply Kd.R_drewN | apply Kd.R_drew)); exact HO233.out) (Kd.R_base ho0) hb); have n2_ := Aside0.mk (Kd.R_elder' (by (with_reducible repeat (first | apply Kd.R_alloc | apply Kd.R_drewN | apply Kd.R_drew)); exact HO240.out) (Kd.R_base ho0) hb); have n3_ := Aside0.mk (Kd.R_lower (Kd.R_new' (Kd.R_new' ho0 (Kd.R_lt (by (with_reducible repeat (first | apply Kd.R_alloc | apply Kd.R_drewN | apply Kd.R_drew)); exact HO233.out))) (Kd.R_lt (by (with_reducible repeat (first | apply Kd.R_alloc | apply Kd.R_drewN | apply Kd.R_drew)); exact HO240.out))) (below_size (by repeat (first | (with_reducible first | exact HB.out | apply below_alloc | apply pw_below_drewN | apply below_drew1 | refine below_set ?_ GE236.out) | exact HB.out)))); have n4_ := Aside0.mk (blk_below (g := gb236) (o := .cells #[.int .i64 ((rd_T32 t228 (ji8)).f0), .int .i64 ((rd_T32 t228 (ji8)).f1)] 32 (0, 0)) (by (with_reducible repeat (first | refine blk_drewN ?_ _ | refine blk_drew ?_ | refine blk_alloc ?_ _)); exact BK236.out) hb); have n5_ := Aside0.mk (below_step (by repeat (first | (with_reducible first | exact HB.out | apply below_alloc | apply pw_below_drewN | apply below_drew1 | refine below_set ?_ GE236.out) | exact HB.out)) hb); clear HO230; clear HO233; clear HO240; clear BK236; clear HB; have HO230 := n0_; have HO233 := n1_; have HO240 := n2_; have HO243 := n3_; have BK236 := n4_; have HB := n5_; clear n0_ n1_ n2_ n3_ n4_ n5_; (try clear hb); (try clear hb2); (try clear hk); (try clear hi); (try clear ho0)) | ((with_reducible refine gate_dst (N := 7) rfl ?_); (try (refine gate_guard (by rfl) ?_; dsimp only)); refine box_event ?hg (N := 7) ?hd (cs := #[.slice none 0 0]) (t := 29) ?hr ?_; (case hd => rfl); (case hg => rfl); (case hr => first | (go_simp; done) | (go_simp; rfl)); intro gb244 hg w31 hbox hb; have n0_ := Aside0.mk (Kd.R_below (by (with_reducible repeat (first | apply Kd.R_alloc | apply Kd.R_drewN | apply Kd.R_drew)); exact HO230.out) hb); have n1_ := Aside0.mk (Kd.R_below (by (with_reducible repeat (first | apply Kd.R_alloc | apply Kd.R_drewN | apply Kd.R_drew)); exact HO233.out) hb); have n2_ := Aside0.mk (Kd.R_below (by (with_reducible repeat (first | apply Kd.R_alloc | apply Kd.R_drewN | apply Kd.R_drew)); exact HO240.out) hb); have n3_ := Aside0.mk (Kd.R_below (by (with_reducible repeat (first | apply Kd.R_alloc | apply Kd.R_drewN | apply Kd.R_drew)); exact HO243.out) hb); have n4_ := Aside0.mk (blk_below (g := gb236) (o := .cells #[.int .i64 ((rd_T32 t228 (ji8)).f0), .int .i64 ((rd_T32 t228 (ji8)).f1)] 32 (0, 0)) (by (with_reducible repeat (first | refine blk_drewN ?_ _ | refine blk_drew ?_ | refine blk_alloc ?_ _)); exact BK236.out) hb); have n5_ := Aside0.mk (below_step (by repeat (first | (with_reducible first | exact HB.out | apply below_alloc | apply pw_below_drewN | apply below_drew1 | refine below_set ?_ GE236.out) | exact HB.out)) hb); have n6_ := Aside0.mk (hbox); have n7_ := Aside0.mk ((by rw [hg]; exact (below_size (by repeat (first | (with_reducible first | exact HB.out | apply below_alloc | apply pw_below_drewN | apply below_drew1 | refine below_set ?_ GE236.out) | exact HB.out))) : w.heap.size ≤ gb244)); have n8_ := Aside0.mk ((by rw [hg]; exact (below_size (by repeat (first | (with_reducible first | exact HB.out | apply below_alloc | apply pw_below_drewN | apply below_drew1 | refine below_set ?_ GE236.out) | exact HB.out))) : w.heap.size ≤ gb244)); have n9_ := Aside0.mk ((by rw [hg]; exact Nat.ne_of_lt (blk_lt (g := gb236) (o := .cells #[.int .i64 ((rd_T32 t228 (ji8)).f0), .int .i64 ((rd_T32 t228 (ji8)).f1)] 32 (0, 0)) (by (with_reducible repeat (first | refine blk_drewN ?_ _ | refine blk_drew ?_ | refine blk_alloc ?_ _)); exact BK236.out)) : gb236 ≠ gb244)); have n10_ := Aside0.mk ((by rw [hg]; exact Nat.ne_of_gt (blk_lt (g := gb236) (o := .cells #[.int .i64 ((rd_T32 t228 (ji8)).f0), .int .i64 ((rd_T32 t228 (ji8)).f1)] 32 (0, 0)) (by (with_reducible repeat (first | refine blk_drewN ?_ _ | refine blk_drew ?_ | refine blk_alloc ?_ _)); exact BK236.out)) : gb244 ≠ gb236)); clear HO230; clear HO233; clear HO240; clear HO243; clear BK236; clear HB; have HO230 := n0_; have HO233 := n1_; have HO240 := n2_; have HO243 := n3_; have BK236 := n4_; have HB := n5_; have BK244 := n6_; have GW244 := n7_; have GE244 := n8_; have NB236_244 := n9_; have NB244_236 := n10_; clear n0_ n1_ n2_ n3_ n4_ n5_ n6_ n7_ n8_ n9_ n10_; clear hb hbox hg; obtain ⟨Ao32, co32, eo32⟩ := Kd.R_slice HO243.out; subst eo32; have hnb33 := NB244_236.out; have hnc33 := NB236_244.out; have hcz34_0 : w31.cell? ⟨gb244, 0, none⟩ = some (.slice none 0 0) := (blk_cell BK244.out 0).trans rfl; have hfz34_0 := blk_frozen BK244.out 0))
                  have n0_ : Aside0 (Kd.R k32 32 (w31.setCell ⟨gb244, 0, none⟩ (.slice Ao32 t241.length co32)) w.heap.size (fun k_ => k_ ≠ gb236) (.slice (some ad235) t228.length co23) t228) := ⟨by (with_reducible repeat (first | apply Kd.R_alloc | apply Kd.R_drewN | apply Kd.R_drew)); exact Kd.R_mono (Kd.R_far (p := ⟨gb244, 0, none⟩) (Kd.R_types HO230.out BK244.out (by decide)) (fun _ hk => hk.2) (.slice Ao32 t241.length co32)) (fun _ hk => hk.1)⟩
                  have n1_ : Aside0 (Kd.R (Kd.int .i64) 3 (w31.setCell ⟨gb244, 0, none⟩ (.slice Ao32 t241.length co32)) w.heap.size (fun k_ => some k_ ≠ (.slice Ao29 t238.length co29 : Value).ownBlock ∧ some k_ ≠ (.slice Ao32 t241.length co32 : Value).ownBlock) (.slice (some ad234) t231.length co22) t231) := ⟨by (with_reducible repeat (first | apply Kd.R_alloc | apply Kd.R_drewN | apply Kd.R_drew)); exact Kd.R_mono (Kd.R_far (p := ⟨gb244, 0, none⟩) (Kd.R_types HO233.out BK244.out (by decide)) (fun _ hk => hk.2) (.slice Ao32 t241.length co32)) (fun _ hk => ⟨hk.1.1.2, hk.1.2⟩)⟩
                  have n2_ : Aside0 (Kd.R (Kd.int .i64) 3 (w31.setCell ⟨gb244, 0, none⟩ (.slice Ao32 t241.length co32)) w.heap.size (fun k_ => some k_ ≠ (.slice (some ad234) t231.length co22 : Value).ownBlock ∧ some k_ ≠ (.slice Ao32 t241.length co32 : Value).ownBlock) (.slice Ao29 t238.length co29) t238) := ⟨by (with_reducible repeat (first | apply Kd.R_alloc | apply Kd.R_drewN | apply Kd.R_drew)); exact Kd.R_mono (Kd.R_far (p := ⟨gb244, 0, none⟩) (Kd.R_types HO240.out BK244.out (by decide)) (fun _ hk => hk.2) (.slice Ao32 t241.length co32)) (fun _ hk => ⟨hk.1.1.2, hk.1.2⟩)⟩
                  have n3_ : Aside0 (Kd.R (Kd.int .i64) 3 (w31.setCell ⟨gb244, 0, none⟩ (.slice Ao32 t241.length co32)) w.heap.size (fun k_ => some k_ ≠ (.slice (some ad234) t231.length co22 : Value).ownBlock ∧ some k_ ≠ (.slice Ao29 t238.length co29 : Value).ownBlock) (.slice Ao32 t241.length co32) t241) := ⟨by (with_reducible repeat (first | apply Kd.R_alloc | apply Kd.R_drewN | apply Kd.R_drew)); exact Kd.R_mono (Kd.R_far (p := ⟨gb244, 0, none⟩) (Kd.R_types HO243.out BK244.out (by decide)) (fun _ hk => hk.2) (.slice Ao32 t241.length co32)) (fun _ hk => ⟨hk.1.1.2, hk.1.2⟩)⟩
                  have n4_ : Aside0 ((w31.setCell ⟨gb244, 0, none⟩ (.slice Ao32 t241.length co32)).heap[gb236]? = some (.cells #[.int .i64 ((rd_T32 t228 (ji8)).f0), .int .i64 ((rd_T32 t228 (ji8)).f1)] 32 (0, 0))) := ⟨by (with_reducible repeat (first | refine blk_drewN ?_ _ | refine blk_drew ?_ | refine blk_alloc ?_ _)); refine blk_far ?_ NB236_244.out _; (with_reducible repeat (first | refine blk_drewN ?_ _ | refine blk_drew ?_ | refine blk_alloc ?_ _)); exact BK236.out⟩
                  have n5_ : Aside0 ((w31.setCell ⟨gb244, 0, none⟩ (.slice Ao32 t241.length co32)).heap[gb244]? = some (.cells #[.slice Ao32 t241.length co32] 29 (0, 0))) := ⟨by (with_reducible repeat (first | refine blk_drewN ?_ _ | refine blk_drew ?_ | refine blk_alloc ?_ _)); refine blk_put (cs := #[.slice none 0 0]) ?_ 0 _ rfl; (with_reducible repeat (first | refine blk_drewN ?_ _ | refine blk_drew ?_ | refine blk_alloc ?_ _)); exact BK244.out⟩
                  have n6_ : Aside0 (Below w.heap.size w (w31.setCell ⟨gb244, 0, none⟩ (.slice Ao32 t241.length co32))) := ⟨by repeat (first | (with_reducible first | exact HB.out | apply below_alloc | apply pw_below_drewN | apply below_drew1 | refine below_set ?_ GE236.out | refine below_set ?_ GE244.out) | exact HB.out)⟩
                  (try clear HO230)
                  (try clear HO233)
                  (try clear HO240)
                  (try clear HO243)
                  (try clear BK236)
                  (try clear BK244)
                  (try clear HB)
                  generalize (w31.setCell ⟨gb244, 0, none⟩ (.slice Ao32 t241.length co32)) = w35 at n0_ n1_ n2_ n3_ n4_ n5_ n6_ ⊢
                  have HO230 := n0_
                  have HO233 := n1_
                  have HO240 := n2_
                  have HO243 := n3_
                  have BK236 := n4_
                  have BK244 := n5_
                  have HB := n6_
                  clear n0_ n1_ n2_ n3_ n4_ n5_ n6_
                  have n0_ := Aside0.mk (Kd.R_drew HO230.out)
                  have n1_ := Aside0.mk (Kd.R_drew HO233.out)
                  have n2_ := Aside0.mk (Kd.R_drew HO240.out)
                  have n3_ := Aside0.mk (Kd.R_drew HO243.out)
                  have n4_ := Aside0.mk (blk_drew BK236.out)
                  have n5_ := Aside0.mk (blk_drew BK244.out)
                  have n6_ := Aside0.mk (below_drew1 HB.out)
                  clear HO230
                  clear HO233
                  clear HO240
                  clear HO243
                  clear BK236
                  clear BK244
                  clear HB
                  have HO230 := n0_
                  have HO233 := n1_
                  have HO240 := n2_
                  have HO243 := n3_
                  have BK236 := n4_
                  have BK244 := n5_
                  have HB := n6_
                  clear n0_ n1_ n2_ n3_ n4_ n5_ n6_
                  have p245 : 0 ≤ (2 : Int) := (by omega)
                  have q245 : 2 < (t231.length : Int) := of_decide_eq_true (by first | (with_reducible assumption) | assumption)
                  obtain ⟨ad245, e245, hx245_0⟩ := Kd.at_int (Kd.R_reads' HO233.out).2.2 2 p245 q245
                  obtain rfl : ad234 = ad245 := (by injection e245)
                  (try simp only [show (2 : Int).toNat = 2 from rfl, Nat.reduceMul, Nat.reduceEqDiff, Go.Addr.add, ↓reduceIte] at hx245_0)
                  have qi245 : (2 < t231.length) = True := eq_true (by omega)
                  (try rw [show ((2 : Int)).toNat = 2 from rfl] at hx245_0)
                  replace p245 := eq_true p245
                  replace q245 := eq_true q245
                  refine start_ (n := 14) (S := fun w' => w'.cell? ⟨gb244, 0, none⟩ = some (.slice Ao32 t241.length co32) ∧ w'.cell? ⟨gb236, 0, none⟩ = some (.int .i64 ((rd_T32 t228 (ji8)).f0)) ∧ w'.cell? ⟨gb236, 1, none⟩ = some (.int .i64 ((rd_T32 t228 (ji8)).f1)) ∧ w'.cell? ⟨ad234.block, ad234.off + 2, none⟩ = some (.int .i64 (rd t231 2))) (ds := []) #[false, false, false, false, false, false, false, false, false, false, false, false, false, false] (by kernel_rfl) rfl rfl ⟨(blk_cell BK244.out 0).trans rfl, (blk_cell BK236.out 0).trans rfl, (blk_cell BK236.out 1).trans rfl, hx245_0⟩ (fun hHeld => ?_); refine with_tabW laws_FnStores.tab8 laws_FnStores.bits8 (fun HT_ HW_ => ?_)
                  generalize w35.drew = w36 at HO230 HO233 HO240 HO243 BK236 BK244 HB hx245_0 hHeld ⊢
                  refine pure_ (i := 2) (N := some 48) (v := ?_) (a' := ?_) #[false, false, true, false, false, false, false, false, false, false, false, false, false, false] rfl rfl (any_of HT_.out (by kernel_rfl)) (fun _ _ _ h => h) (Or.inl ⟨by rfl, ?_⟩) ?_ ?_
                  rotate_left
                  · intro w'
                    go_simp
                    with_reducible rfl
                  rotate_left
                  · simp only [Act.put, List.setIfInBounds_toArray, List.set_cons_zero, List.set_cons_succ, i64_w, i32_w]
                    rfl
                  refine pure_ (i := 3) (N := some 49) (v := ?_) (a' := ?_) #[false, false, true, true, false, false, false, false, false, false, false, false, false, false] rfl rfl (any_of HT_.out (by kernel_rfl)) (fun _ _ _ h => h) (Or.inl ⟨by rfl, ?_⟩) ?_ ?_
                  rotate_left
                  · intro w'
                    go_simp
                    with_reducible rfl
                  rotate_left
                  · simp only [Act.put, List.setIfInBounds_toArray, List.set_cons_zero, List.set_cons_succ, i64_w, i32_w]
                    rfl
                  refine pure_ (i := 4) (N := some 50) (v := ?_) (a' := ?_) #[false, false, true, true, true, false, false, false, false, false, false, false, false, false] rfl rfl (any_of HT_.out (by kernel_rfl)) (fun _ _ _ h => h) (Or.inl ⟨by rfl, ?_⟩) ?_ ?_
                  rotate_left
                  · intro w'
                    go_simp
                    with_reducible rfl
                  rotate_left
                  · simp only [Act.put, List.setIfInBounds_toArray, List.set_cons_zero, List.set_cons_succ, i64_w, i32_w]
                    rfl
                  refine take_ (i := 0) (N := some 46) (v := ?_) (a' := ?_) #[true, false, true, true, true, false, false, false, false, false, false, false, false, false] rfl rfl (take_ofW HT_.out HW_.out (by kernel_rfl)) (fun _ _ _ h => h) (Or.inl ⟨by rfl, ?_⟩) hHeld ?_ ?_
                  rotate_left
                  · rintro w' ⟨s0, s1, s2, s3⟩
                    go_simp
                    with_reducible rfl
                  rotate_left
                  · simp only [Act.put, List.setIfInBounds_toArray, List.set_cons_zero, List.set_cons_succ, i64_w, i32_w]
                    rfl
                  refine take_ (i := 1) (N := some 47) (v := ?_) (a' := ?_) #[true, true, true, true, true, false, false, false, false, false, false, false, false, false] rfl rfl (take_ofW HT_.out HW_.out (by kernel_rfl)) (fun _ _ _ h => h) (Or.inl ⟨by rfl, ?_⟩) hHeld ?_ ?_
                  rotate_left
                  · rintro w' ⟨s0, s1, s2, s3⟩
                    go_simp
                    with_reducible rfl
                  rotate_left
                  · simp only [Act.put, List.setIfInBounds_toArray, List.set_cons_zero, List.set_cons_succ, i64_w, i32_w]
                    rfl
                  refine take_ (i := 5) (N := some 51) (v := ?_) (a' := ?_) #[true, true, true, true, true, true, false, false, false, false, false, false, false, false] rfl rfl (take_ofW HT_.out HW_.out (by kernel_rfl)) (fun _ _ _ h => h) (Or.inl ⟨by rfl, ?_⟩) hHeld ?_ ?_
                  rotate_left
                  · rintro w' ⟨s0, s1, s2, s3⟩
                    go_simp
                    with_reducible rfl
                  rotate_left
                  · simp only [Act.put, List.setIfInBounds_toArray, List.set_cons_zero, List.set_cons_succ, i64_w, i32_w]
                    rfl
                  refine pure_ (i := 6) (N := some 52) (v := ?_) (a' := ?_) #[true, true, true, true, true, true, true, false, false, false, false, false, false, false] rfl rfl (any_of HT_.out (by kernel_rfl)) (fun _ _ _ h => h) (Or.inl ⟨by rfl, ?_⟩) ?_ ?_
                  rotate_left
                  · intro w'
                    go_simp
                    with_reducible rfl
                  rotate_left
                  · simp only [Act.put, List.setIfInBounds_toArray, List.set_cons_zero, List.set_cons_succ, i64_w, i32_w]
                    rfl
                  refine join_ (σ := Value × Nat) 2 #[true, true, true, true, true, true, true, true, true, true, true, true, false, false] (fun s_ => [(53, .tuple #[.agg #[s_.1], .bool t249]), (8, .pointer (some ⟨s_.2, 0, none⟩)), (45, .tuple #[.agg #[s_.1], .bool t249]), (54, .agg #[s_.1]), (55, .bool t249)]) (fun s_ w' => (w'.cell? ⟨gb244, 0, none⟩ = some (.slice Ao32 t241.length co32) ∧ w'.cell? ⟨gb236, 0, none⟩ = some (.int .i64 ((rd_T32 t228 (ji8)).f0)) ∧ w'.cell? ⟨gb236, 1, none⟩ = some (.int .i64 ((rd_T32 t228 (ji8)).f1)) ∧ w'.cell? ⟨ad234.block, ad234.off + 2, none⟩ = some (.int .i64 (rd t231 2))) ∧ (Kd.R k32 32 w' w.heap.size (fun k_ => k_ ≠ gb236) (.slice (some ad235) t228.length co23) t228) ∧ (Kd.R (Kd.int .i64) 3 w' w.heap.size (fun k_ => some k_ ≠ (.slice Ao29 t238.length co29 : Value).ownBlock ∧ some k_ ≠ (.slice Ao32 t241.length co32 : Value).ownBlock ∧ some k_ ≠ (s_.1 : Value).ownBlock) (.slice (some ad234) t231.length co22) t231) ∧ (Kd.R (Kd.int .i64) 3 w' w.heap.size (fun k_ => some k_ ≠ (.slice (some ad234) t231.length co22 : Value).ownBlock ∧ some k_ ≠ (.slice Ao32 t241.length co32 : Value).ownBlock ∧ some k_ ≠ (s_.1 : Value).ownBlock) (.slice Ao29 t238.length co29) t238) ∧ (Kd.R (Kd.int .i64) 3 w' w.heap.size (fun k_ => some k_ ≠ (.slice (some ad234) t231.length co22 : Value).ownBlock ∧ some k_ ≠ (.slice Ao29 t238.length co29 : Value).ownBlock ∧ some k_ ≠ (s_.1 : Value).ownBlock) (.slice Ao32 t241.length co32) t241) ∧ (Kd.R (Kd.int .i64) 3 w' w.heap.size (fun k_ => some k_ ≠ (.slice (some ad234) t231.length co22 : Value).ownBlock ∧ some k_ ≠ (.slice Ao29 t238.length co29 : Value).ownBlock ∧ some k_ ≠ (.slice Ao32 t241.length co32 : Value).ownBlock) s_.1 t246) ∧ (w'.heap[gb236]? = some (.cells #[.int .i64 ((rd_T32 t228 (ji8)).f0), .int .i64 ((rd_T32 t228 (ji8)).f1)] 32 (0, 0))) ∧ (w'.heap[gb244]? = some (.cells #[.slice Ao32 t241.length co32] 29 (0, 0))) ∧ (w'.heap[s_.2]? = some (.cells #[.slice none 0 0] 29 (0, 0))) ∧ (w.heap.size ≤ s_.2) ∧ (w.heap.size ≤ s_.2) ∧ (gb236 ≠ s_.2) ∧ (s_.2 ≠ gb236) ∧ (gb244 ≠ s_.2) ∧ (s_.2 ≠ gb244) ∧ (Below w.heap.size w w')) ?_ ?_
                  rotate_left
                  · intro hCont
                    refine two_ (i := 7) (j := 11) (Ni := some 53) (Nj := some 8) #[true, true, true, true, true, true, true, true, false, false, false, false, false, false] #[true, true, true, true, true, true, true, false, false, false, false, true, false, false] rfl rfl rfl rfl (two_of HT_.out (by kernel_rfl)) (by decide) (by decide) (fun K hK => ?_) (fun K hK => ?_)
                    · skip
                      refine goes_ Try.func17 (by kernel_rfl) rfl #[.agg #[.slice Ao32 t241.length co32], .agg #[.int .i64 ((rd_T32 t228 (ji8)).f0), .int .i64 ((rd_T32 t228 (ji8)).f1)], .int .i64 (Int.tmod (rd t231 1) ((rd_T32 t228 (ji8)).f1)), .int .i64 (wrap64 ((rd t231 2) * 13))] (by rfl) rfl rfl (by (try simp only [List.map_toArray, List.map_cons, List.map_nil]); first | done | (simp only [hji8]; rfl) | rfl | (simp only [List.length_drop, List.length_take]; rfl)) ?_
                      with_reducible refine (impl_StoreCell.calls _ _ t241 ((rd_T32 t228 (ji8)).f0) ((rd_T32 t228 (ji8)).f1) (Int.tmod (rd t231 1) ((rd_T32 t228 (ji8)).f1)) (wrap64 ((rd t231 2) * 13)) t246 t249 _ ?side1 ?side2 A16.out).mono ?_
                      (case side1 => repeat (first | exact (Kd.R_reads' HO243.out).2.2 | (with_reducible refine Kd.C_alloc ?_ _) | (with_reducible refine Kd.C_drewN ?_ _) | (with_reducible refine Kd.C_drew ?_)))
                      (case side2 => exact (Kd.R_reads' HO243.out).2.1)
                      rintro e w37 ⟨v247, rfl, ho0, hb⟩
                      have HS3_ := (hb.cell (World.block_lt_of_cell? _ _ (hHeld.2.2.2))).trans (hHeld.2.2.2)
                      refine ⟨_, rfl, ?_⟩
                      have n0_ := Aside0.mk (Kd.R_below (by (with_reducible repeat (first | apply Kd.R_alloc | apply Kd.R_drewN | apply Kd.R_drew)); exact HO230.out) hb)
                      have n1_ := Aside0.mk (Kd.R_elder' (by (with_reducible repeat (first | apply Kd.R_alloc | apply Kd.R_drewN | apply Kd.R_drew)); exact HO233.out) (Kd.R_base ho0) hb)
                      have n2_ := Aside0.mk (Kd.R_elder' (by (with_reducible repeat (first | apply Kd.R_alloc | apply Kd.R_drewN | apply Kd.R_drew)); exact HO240.out) (Kd.R_base ho0) hb)
                      have n3_ := Aside0.mk (Kd.R_elder' (by (with_reducible repeat (first | apply Kd.R_alloc | apply Kd.R_drewN | apply Kd.R_drew)); exact HO243.out) (Kd.R_base ho0) hb)
                      have n4_ := Aside0.mk (Kd.R_lower (Kd.R_new' (Kd.R_new' (Kd.R_new' ho0 (Kd.R_lt (by (with_reducible repeat (first | apply Kd.R_alloc | apply Kd.R_drewN | apply Kd.R_drew)); exact HO233.out))) (Kd.R_lt (by (with_reducible repeat (first | apply Kd.R_alloc | apply Kd.R_drewN | apply Kd.R_drew)); exact HO240.out))) (Kd.R_lt (by (with_reducible repeat (first | apply Kd.R_alloc | apply Kd.R_drewN | apply Kd.R_drew)); exact HO243.out))) (below_size (by repeat (first | (with_reducible first | exact HB.out | apply below_alloc | apply pw_below_drewN | apply below_drew1 | refine below_set ?_ GE236.out | refine below_set ?_ GE244.out) | exact HB.out))))
                      have n5_ := Aside0.mk (blk_below (g := gb236) (o := .cells #[.int .i64 ((rd_T32 t228 (ji8)).f0), .int .i64 ((rd_T32 t228 (ji8)).f1)] 32 (0, 0)) (by (with_reducible repeat (first | refine blk_drewN ?_ _ | refine blk_drew ?_ | refine blk_alloc ?_ _)); exact BK236.out) hb)
                      have n6_ := Aside0.mk (blk_below (g := gb244) (o := .cells #[.slice Ao32 t241.length co32] 29 (0, 0)) (by (with_reducible repeat (first | refine blk_drewN ?_ _ | refine blk_drew ?_ | refine blk_alloc ?_ _)); exact BK244.out) hb)
                      have n7_ := Aside0.mk (below_step (by repeat (first | (with_reducible first | exact HB.out | apply below_alloc | apply pw_below_drewN | apply below_drew1 | refine below_set ?_ GE236.out | refine below_set ?_ GE244.out) | exact HB.out)) hb)
                      clear HO230
                      clear HO233
                      clear HO240
                      clear HO243
                      clear BK236
                      clear BK244
                      clear HB
                      have HO230 := n0_
                      have HO233 := n1_
                      have HO240 := n2_
                      have HO243 := n3_
                      have HO248 := n4_
                      have BK236 := n5_
                      have BK244 := n6_
                      have HB := n7_
                      clear n0_ n1_ n2_ n3_ n4_ n5_ n6_ n7_
                      (try clear hb)
                      (try clear hb2)
                      (try clear hk)
                      (try clear hi)
                      (try clear ho0)
                      refine hK.out _ _ ⟨(blk_cell BK244.out 0).trans rfl, (blk_cell BK236.out 0).trans rfl, (blk_cell BK236.out 1).trans rfl, HS3_⟩ (fun hHeld => ?_)
                      clear hK K
                      refine norm_ (a' := ?_) ?_ ?_
                      rotate_left
                      · show Act.put _ (some 53) _ = _
                        simp only [Act.put, List.setIfInBounds_toArray, List.set_cons_zero, List.set_cons_succ, i64_w, i32_w]
                        rfl
                      refine pure_ (i := 8) (N := some 45) (v := ?_) (a' := ?_) #[true, true, true, true, true, true, true, true, true, false, false, false, false, false] rfl rfl (any_of HT_.out (by kernel_rfl)) (fun _ _ _ h => h) (Or.inl ⟨by rfl, ?_⟩) ?_ ?_
                      rotate_left
                      · intro w'
                        go_simp
                        with_reducible rfl
                      rotate_left
                      · simp only [Act.put, List.setIfInBounds_toArray, List.set_cons_zero, List.set_cons_succ, i64_w, i32_w]
                        rfl
                      refine pure_ (i := 9) (N := some 54) (v := ?_) (a' := ?_) #[true, true, true, true, true, true, true, true, true, true, false, false, false, false] rfl rfl (any_of HT_.out (by kernel_rfl)) (fun _ _ _ h => h) (Or.inl ⟨by rfl, ?_⟩) ?_ ?_
                      rotate_left
                      · intro w'
                        go_simp
                        with_reducible rfl
                      rotate_left
                      · simp only [Act.put, List.setIfInBounds_toArray, List.set_cons_zero, List.set_cons_succ, i64_w, i32_w]
                        rfl
                      refine pure_ (i := 10) (N := some 55) (v := ?_) (a' := ?_) #[true, true, true, true, true, true, true, true, true, true, true, false, false, false] rfl rfl (any_of HT_.out (by kernel_rfl)) (fun _ _ _ h => h) (Or.inl ⟨by rfl, ?_⟩) ?_ ?_
                      rotate_left
                      · intro w'
                        go_simp
                        with_reducible rfl
                      rotate_left
                      · simp only [Act.put, List.setIfInBounds_toArray, List.set_cons_zero, List.set_cons_succ, i64_w, i32_w]
                        rfl
                      refine one_ (i := 11) (N := some 8) #[true, true, true, true, true, true, true, true, true, true, true, true, false, false] rfl rfl (one_of HT_.out (by kernel_rfl)) (by decide) (fun K hK => ?_)
                      refine box_step ?hg (N := 8) ?hd (cs := #[.slice none 0 0]) (t := 29) ?hr ?_; (case hd => rfl); (case hg => rfl); (case hr => first | (go_simp; done) | (go_simp; rfl))
                      intro gb250 hg w38 hbox hb
                      have HS3_ := (hb.cell (World.block_lt_of_cell? _ _ (hHeld.2.2.2))).trans (hHeld.2.2.2)
                      have n0_ := Aside0.mk (Kd.R_below (by (with_reducible repeat (first | apply Kd.R_alloc | apply Kd.R_drewN | apply Kd.R_drew)); exact HO230.out) hb)
                      have n1_ := Aside0.mk (Kd.R_below (by (with_reducible repeat (first | apply Kd.R_alloc | apply Kd.R_drewN | apply Kd.R_drew)); exact HO233.out) hb)
                      have n2_ := Aside0.mk (Kd.R_below (by (with_reducible repeat (first | apply Kd.R_alloc | apply Kd.R_drewN | apply Kd.R_drew)); exact HO240.out) hb)
                      have n3_ := Aside0.mk (Kd.R_below (by (with_reducible repeat (first | apply Kd.R_alloc | apply Kd.R_drewN | apply Kd.R_drew)); exact HO243.out) hb)
                      have n4_ := Aside0.mk (Kd.R_below (by (with_reducible repeat (first | apply Kd.R_alloc | apply Kd.R_drewN | apply Kd.R_drew)); exact HO248.out) hb)
                      have n5_ := Aside0.mk (blk_below (g := gb236) (o := .cells #[.int .i64 ((rd_T32 t228 (ji8)).f0), .int .i64 ((rd_T32 t228 (ji8)).f1)] 32 (0, 0)) (by (with_reducible repeat (first | refine blk_drewN ?_ _ | refine blk_drew ?_ | refine blk_alloc ?_ _)); exact BK236.out) hb)
                      have n6_ := Aside0.mk (blk_below (g := gb244) (o := .cells #[.slice Ao32 t241.length co32] 29 (0, 0)) (by (with_reducible repeat (first | refine blk_drewN ?_ _ | refine blk_drew ?_ | refine blk_alloc ?_ _)); exact BK244.out) hb)
                      have n7_ := Aside0.mk (below_step (by repeat (first | (with_reducible first | exact HB.out | apply below_alloc | apply pw_below_drewN | apply below_drew1 | refine below_set ?_ GE236.out | refine below_set ?_ GE244.out) | exact HB.out)) hb)
                      have n8_ := Aside0.mk (hbox)
                      have n9_ := Aside0.mk ((by rw [hg]; exact (below_size (by repeat (first | (with_reducible first | exact HB.out | apply below_alloc | apply pw_below_drewN | apply below_drew1 | refine below_set ?_ GE236.out | refine below_set ?_ GE244.out) | exact HB.out))) : w.heap.size ≤ gb250))
                      have n10_ := Aside0.mk ((by rw [hg]; exact (below_size (by repeat (first | (with_reducible first | exact HB.out | apply below_alloc | apply pw_below_drewN | apply below_drew1 | refine below_set ?_ GE236.out | refine below_set ?_ GE244.out) | exact HB.out))) : w.heap.size ≤ gb250))
                      have n11_ := Aside0.mk ((by rw [hg]; exact Nat.ne_of_lt (blk_lt (g := gb236) (o := .cells #[.int .i64 ((rd_T32 t228 (ji8)).f0), .int .i64 ((rd_T32 t228 (ji8)).f1)] 32 (0, 0)) (by (with_reducible repeat (first | refine blk_drewN ?_ _ | refine blk_drew ?_ | refine blk_alloc ?_ _)); exact BK236.out)) : gb236 ≠ gb250))
                      have n12_ := Aside0.mk ((by rw [hg]; exact Nat.ne_of_gt (blk_lt (g := gb236) (o := .cells #[.int .i64 ((rd_T32 t228 (ji8)).f0), .int .i64 ((rd_T32 t228 (ji8)).f1)] 32 (0, 0)) (by (with_reducible repeat (first | refine blk_drewN ?_ _ | refine blk_drew ?_ | refine blk_alloc ?_ _)); exact BK236.out)) : gb250 ≠ gb236))
                      have n13_ := Aside0.mk ((by rw [hg]; exact Nat.ne_of_lt (blk_lt (g := gb244) (o := .cells #[.slice Ao32 t241.length co32] 29 (0, 0)) (by (with_reducible repeat (first | refine blk_drewN ?_ _ | refine blk_drew ?_ | refine blk_alloc ?_ _)); exact BK244.out)) : gb244 ≠ gb250))
                      have n14_ := Aside0.mk ((by rw [hg]; exact Nat.ne_of_gt (blk_lt (g := gb244) (o := .cells #[.slice Ao32 t241.length co32] 29 (0, 0)) (by (with_reducible repeat (first | refine blk_drewN ?_ _ | refine blk_drew ?_ | refine blk_alloc ?_ _)); exact BK244.out)) : gb250 ≠ gb244))
                      clear HO230
                      clear HO233
                      clear HO240
                      clear HO243
                      clear HO248
                      clear BK236
                      clear BK244
                      clear HB
                      have HO230 := n0_
                      have HO233 := n1_
                      have HO240 := n2_
                      have HO243 := n3_
                      have HO248 := n4_
                      have BK236 := n5_
                      have BK244 := n6_
                      have HB := n7_
                      have BK250 := n8_
                      have GW250 := n9_
                      have GE250 := n10_
                      have NB236_250 := n11_
                      have NB250_236 := n12_
                      have NB244_250 := n13_
                      have NB250_244 := n14_
                      clear n0_ n1_ n2_ n3_ n4_ n5_ n6_ n7_ n8_ n9_ n10_ n11_ n12_ n13_ n14_
                      clear hb hbox hg
                      refine hK.out _ _ ⟨(blk_cell BK244.out 0).trans rfl, (blk_cell BK236.out 0).trans rfl, (blk_cell BK236.out 1).trans rfl, HS3_⟩ (fun hHeld => ?_)
                      clear hK K
                      refine norm_ (a' := ?_) ?_ ?_
                      rotate_left
                      · show Act.put _ (some 8) _ = _
                        simp only [Act.put, List.setIfInBounds_toArray, List.set_cons_zero, List.set_cons_succ, i64_w, i32_w]
                        rfl
                      exact norm_ (by simp only [putAll, Act.put, List.setIfInBounds_toArray, List.set_cons_zero, List.set_cons_succ]) (hCont (v247, gb250) _ ⟨hHeld, (by (with_reducible repeat (first | apply Kd.R_alloc | apply Kd.R_drewN | apply Kd.R_drew)); exact HO230.out), (by (with_reducible repeat (first | apply Kd.R_alloc | apply Kd.R_drewN | apply Kd.R_drew)); exact Kd.R_mono HO233.out (fun _ hk => ⟨hk.1.1, ⟨hk.1.2, hk.2⟩⟩)), (by (with_reducible repeat (first | apply Kd.R_alloc | apply Kd.R_drewN | apply Kd.R_drew)); exact Kd.R_mono HO240.out (fun _ hk => ⟨hk.1.1, ⟨hk.1.2, hk.2⟩⟩)), (by (with_reducible repeat (first | apply Kd.R_alloc | apply Kd.R_drewN | apply Kd.R_drew)); exact Kd.R_mono HO243.out (fun _ hk => ⟨hk.1.1, ⟨hk.1.2, hk.2⟩⟩)), (by (with_reducible repeat (first | apply Kd.R_alloc | apply Kd.R_drewN | apply Kd.R_drew)); exact Kd.R_mono HO248.out (fun _ hk => ⟨hk.1.1.2, ⟨hk.1.2, hk.2⟩⟩)), (by (with_reducible repeat (first | refine blk_drewN ?_ _ | refine blk_drew ?_ | refine blk_alloc ?_ _)); exact BK236.out), (by (with_reducible repeat (first | refine blk_drewN ?_ _ | refine blk_drew ?_ | refine blk_alloc ?_ _)); exact BK244.out), (by (with_reducible repeat (first | refine blk_drewN ?_ _ | refine blk_drew ?_ | refine blk_alloc ?_ _)); exact BK250.out), GW250.out, GE250.out, NB236_250.out, NB250_236.out, NB244_250.out, NB250_244.out, (by repeat (first | (with_reducible first | exact HB.out | apply below_alloc | apply pw_below_drewN | apply below_drew1 | refine below_set ?_ GE236.out | refine below_set ?_ GE244.out | refine below_set ?_ GE250.out) | exact HB.out))⟩)
                    · skip
                      refine box_step ?hg (N := 8) ?hd (cs := #[.slice none 0 0]) (t := 29) ?hr ?_; (case hd => rfl); (case hg => rfl); (case hr => first | (go_simp; done) | (go_simp; rfl))
                      intro gb250 hg w37 hbox hb
                      have HS3_ := (hb.cell (World.block_lt_of_cell? _ _ (hHeld.2.2.2))).trans (hHeld.2.2.2)
                      have n0_ := Aside0.mk (Kd.R_below (by (with_reducible repeat (first | apply Kd.R_alloc | apply Kd.R_drewN | apply Kd.R_drew)); exact HO230.out) hb)
                      have n1_ := Aside0.mk (Kd.R_below (by (with_reducible repeat (first | apply Kd.R_alloc | apply Kd.R_drewN | apply Kd.R_drew)); exact HO233.out) hb)
                      have n2_ := Aside0.mk (Kd.R_below (by (with_reducible repeat (first | apply Kd.R_alloc | apply Kd.R_drewN | apply Kd.R_drew)); exact HO240.out) hb)
                      have n3_ := Aside0.mk (Kd.R_below (by (with_reducible repeat (first | apply Kd.R_alloc | apply Kd.R_drewN | apply Kd.R_drew)); exact HO243.out) hb)
                      have n4_ := Aside0.mk (blk_below (g := gb236) (o := .cells #[.int .i64 ((rd_T32 t228 (ji8)).f0), .int .i64 ((rd_T32 t228 (ji8)).f1)] 32 (0, 0)) (by (with_reducible repeat (first | refine blk_drewN ?_ _ | refine blk_drew ?_ | refine blk_alloc ?_ _)); exact BK236.out) hb)
                      have n5_ := Aside0.mk (blk_below (g := gb244) (o := .cells #[.slice Ao32 t241.length co32] 29 (0, 0)) (by (with_reducible repeat (first | refine blk_drewN ?_ _ | refine blk_drew ?_ | refine blk_alloc ?_ _)); exact BK244.out) hb)
                      have n6_ := Aside0.mk (below_step (by repeat (first | (with_reducible first | exact HB.out | apply below_alloc | apply pw_below_drewN | apply below_drew1 | refine below_set ?_ GE236.out | refine below_set ?_ GE244.out) | exact HB.out)) hb)
                      have n7_ := Aside0.mk (hbox)
                      have n8_ := Aside0.mk ((by rw [hg]; exact (below_size (by repeat (first | (with_reducible first | exact HB.out | apply below_alloc | apply pw_below_drewN | apply below_drew1 | refine below_set ?_ GE236.out | refine below_set ?_ GE244.out) | exact HB.out))) : w.heap.size ≤ gb250))
                      have n9_ := Aside0.mk ((by rw [hg]; exact (below_size (by repeat (first | (with_reducible first | exact HB.out | apply below_alloc | apply pw_below_drewN | apply below_drew1 | refine below_set ?_ GE236.out | refine below_set ?_ GE244.out) | exact HB.out))) : w.heap.size ≤ gb250))
                      have n10_ := Aside0.mk ((by rw [hg]; exact Nat.ne_of_lt (blk_lt (g := gb236) (o := .cells #[.int .i64 ((rd_T32 t228 (ji8)).f0), .int .i64 ((rd_T32 t228 (ji8)).f1)] 32 (0, 0)) (by (with_reducible repeat (first | refine blk_drewN ?_ _ | refine blk_drew ?_ | refine blk_alloc ?_ _)); exact BK236.out)) : gb236 ≠ gb250))
                      have n11_ := Aside0.mk ((by rw [hg]; exact Nat.ne_of_gt (blk_lt (g := gb236) (o := .cells #[.int .i64 ((rd_T32 t228 (ji8)).f0), .int .i64 ((rd_T32 t228 (ji8)).f1)] 32 (0, 0)) (by (with_reducible repeat (first | refine blk_drewN ?_ _ | refine blk_drew ?_ | refine blk_alloc ?_ _)); exact BK236.out)) : gb250 ≠ gb236))
                      have n12_ := Aside0.mk ((by rw [hg]; exact Nat.ne_of_lt (blk_lt (g := gb244) (o := .cells #[.slice Ao32 t241.length co32] 29 (0, 0)) (by (with_reducible repeat (first | refine blk_drewN ?_ _ | refine blk_drew ?_ | refine blk_alloc ?_ _)); exact BK244.out)) : gb244 ≠ gb250))
                      have n13_ := Aside0.mk ((by rw [hg]; exact Nat.ne_of_gt (blk_lt (g := gb244) (o := .cells #[.slice Ao32 t241.length co32] 29 (0, 0)) (by (with_reducible repeat (first | refine blk_drewN ?_ _ | refine blk_drew ?_ | refine blk_alloc ?_ _)); exact BK244.out)) : gb250 ≠ gb244))
                      clear HO230
                      clear HO233
                      clear HO240
                      clear HO243
                      clear BK236
                      clear BK244
                      clear HB
                      have HO230 := n0_
                      have HO233 := n1_
                      have HO240 := n2_
                      have HO243 := n3_
                      have BK236 := n4_
                      have BK244 := n5_
                      have HB := n6_
                      have BK250 := n7_
                      have GW250 := n8_
                      have GE250 := n9_
                      have NB236_250 := n10_
                      have NB250_236 := n11_
                      have NB244_250 := n12_
                      have NB250_244 := n13_
                      clear n0_ n1_ n2_ n3_ n4_ n5_ n6_ n7_ n8_ n9_ n10_ n11_ n12_ n13_
                      clear hb hbox hg
                      refine hK.out _ _ ⟨(blk_cell BK244.out 0).trans rfl, (blk_cell BK236.out 0).trans rfl, (blk_cell BK236.out 1).trans rfl, HS3_⟩ (fun hHeld => ?_)
                      clear hK K
                      refine norm_ (a' := ?_) ?_ ?_
                      rotate_left
                      · show Act.put _ (some 8) _ = _
                        simp only [Act.put, List.setIfInBounds_toArray, List.set_cons_zero, List.set_cons_succ, i64_w, i32_w]
                        rfl
                      refine one_ (i := 7) (N := some 53) #[true, true, true, true, true, true, true, true, false, false, false, true, false, false] rfl rfl (one_of HT_.out (by kernel_rfl)) (by decide) (fun K hK => ?_)
                      refine goes_ Try.func17 (by kernel_rfl) rfl #[.agg #[.slice Ao32 t241.length co32], .agg #[.int .i64 ((rd_T32 t228 (ji8)).f0), .int .i64 ((rd_T32 t228 (ji8)).f1)], .int .i64 (Int.tmod (rd t231 1) ((rd_T32 t228 (ji8)).f1)), .int .i64 (wrap64 ((rd t231 2) * 13))] (by rfl) rfl rfl (by (try simp only [List.map_toArray, List.map_cons, List.map_nil]); first | done | (simp only [hji8]; rfl) | rfl | (simp only [List.length_drop, List.length_take]; rfl)) ?_
                      with_reducible refine (impl_StoreCell.calls _ _ t241 ((rd_T32 t228 (ji8)).f0) ((rd_T32 t228 (ji8)).f1) (Int.tmod (rd t231 1) ((rd_T32 t228 (ji8)).f1)) (wrap64 ((rd t231 2) * 13)) t246 t249 _ ?side1 ?side2 A16.out).mono ?_
                      (case side1 => repeat (first | exact (Kd.R_reads' HO243.out).2.2 | (with_reducible refine Kd.C_alloc ?_ _) | (with_reducible refine Kd.C_drewN ?_ _) | (with_reducible refine Kd.C_drew ?_)))
                      (case side2 => exact (Kd.R_reads' HO243.out).2.1)
                      rintro e w38 ⟨v247, rfl, ho0, hb⟩
                      have HS3_ := (hb.cell (World.block_lt_of_cell? _ _ (hHeld.2.2.2))).trans (hHeld.2.2.2)
                      refine ⟨_, rfl, ?_⟩
                      have n0_ := Aside0.mk (Kd.R_below (by (with_reducible repeat (first | apply Kd.R_alloc | apply Kd.R_drewN | apply Kd.R_drew)); exact HO230.out) hb)
                      have n1_ := Aside0.mk (Kd.R_elder' (by (with_reducible repeat (first | apply Kd.R_alloc | apply Kd.R_drewN | apply Kd.R_drew)); exact HO233.out) (Kd.R_base ho0) hb)
                      have n2_ := Aside0.mk (Kd.R_elder' (by (with_reducible repeat (first | apply Kd.R_alloc | apply Kd.R_drewN | apply Kd.R_drew)); exact HO240.out) (Kd.R_base ho0) hb)
                      have n3_ := Aside0.mk (Kd.R_elder' (by (with_reducible repeat (first | apply Kd.R_alloc | apply Kd.R_drewN | apply Kd.R_drew)); exact HO243.out) (Kd.R_base ho0) hb)
                      have n4_ := Aside0.mk (Kd.R_lower (Kd.R_new' (Kd.R_new' (Kd.R_new' ho0 (Kd.R_lt (by (with_reducible repeat (first | apply Kd.R_alloc | apply Kd.R_drewN | apply Kd.R_drew)); exact HO233.out))) (Kd.R_lt (by (with_reducible repeat (first | apply Kd.R_alloc | apply Kd.R_drewN | apply Kd.R_drew)); exact HO240.out))) (Kd.R_lt (by (with_reducible repeat (first | apply Kd.R_alloc | apply Kd.R_drewN | apply Kd.R_drew)); exact HO243.out))) (below_size (by repeat (first | (with_reducible first | exact HB.out | apply below_alloc | apply pw_below_drewN | apply below_drew1 | refine below_set ?_ GE236.out | refine below_set ?_ GE244.out | refine below_set ?_ GE250.out) | exact HB.out))))
                      have n5_ := Aside0.mk (blk_below (g := gb236) (o := .cells #[.int .i64 ((rd_T32 t228 (ji8)).f0), .int .i64 ((rd_T32 t228 (ji8)).f1)] 32 (0, 0)) (by (with_reducible repeat (first | refine blk_drewN ?_ _ | refine blk_drew ?_ | refine blk_alloc ?_ _)); exact BK236.out) hb)
                      have n6_ := Aside0.mk (blk_below (g := gb244) (o := .cells #[.slice Ao32 t241.length co32] 29 (0, 0)) (by (with_reducible repeat (first | refine blk_drewN ?_ _ | refine blk_drew ?_ | refine blk_alloc ?_ _)); exact BK244.out) hb)
                      have n7_ := Aside0.mk (blk_below (g := gb250) (o := .cells #[.slice none 0 0] 29 (0, 0)) (by (with_reducible repeat (first | refine blk_drewN ?_ _ | refine blk_drew ?_ | refine blk_alloc ?_ _)); exact BK250.out) hb)
                      have n8_ := Aside0.mk (below_step (by repeat (first | (with_reducible first | exact HB.out | apply below_alloc | apply pw_below_drewN | apply below_drew1 | refine below_set ?_ GE236.out | refine below_set ?_ GE244.out | refine below_set ?_ GE250.out) | exact HB.out)) hb)
                      clear HO230
                      clear HO233
                      clear HO240
                      clear HO243
                      clear BK236
                      clear BK244
                      clear BK250
                      clear HB
                      have HO230 := n0_
                      have HO233 := n1_
                      have HO240 := n2_
                      have HO243 := n3_
                      have HO248 := n4_
                      have BK236 := n5_
                      have BK244 := n6_
                      have BK250 := n7_
                      have HB := n8_
                      clear n0_ n1_ n2_ n3_ n4_ n5_ n6_ n7_ n8_
                      (try clear hb)
                      (try clear hb2)
                      (try clear hk)
                      (try clear hi)
                      (try clear ho0)
                      refine hK.out _ _ ⟨(blk_cell BK244.out 0).trans rfl, (blk_cell BK236.out 0).trans rfl, (blk_cell BK236.out 1).trans rfl, HS3_⟩ (fun hHeld => ?_)
                      clear hK K
                      refine norm_ (a' := ?_) ?_ ?_
                      rotate_left
                      · show Act.put _ (some 53) _ = _
                        simp only [Act.put, List.setIfInBounds_toArray, List.set_cons_zero, List.set_cons_succ, i64_w, i32_w]
                        rfl
                      refine pure_ (i := 8) (N := some 45) (v := ?_) (a' := ?_) #[true, true, true, true, true, true, true, true, true, false, false, true, false, false] rfl rfl (any_of HT_.out (by kernel_rfl)) (fun _ _ _ h => h) (Or.inl ⟨by rfl, ?_⟩) ?_ ?_
                      rotate_left
                      · intro w'
                        go_simp
                        with_reducible rfl
                      rotate_left
                      · simp only [Act.put, List.setIfInBounds_toArray, List.set_cons_zero, List.set_cons_succ, i64_w, i32_w]
                        rfl
                      refine pure_ (i := 9) (N := some 54) (v := ?_) (a' := ?_) #[true, true, true, true, true, true, true, true, true, true, false, true, false, false] rfl rfl (any_of HT_.out (by kernel_rfl)) (fun _ _ _ h => h) (Or.inl ⟨by rfl, ?_⟩) ?_ ?_
                      rotate_left
                      · intro w'
                        go_simp
                        with_reducible rfl
                      rotate_left
                      · simp only [Act.put, List.setIfInBounds_toArray, List.set_cons_zero, List.set_cons_succ, i64_w, i32_w]
                        rfl
                      refine pure_ (i := 10) (N := some 55) (v := ?_) (a' := ?_) #[true, true, true, true, true, true, true, true, true, true, true, true, false, false] rfl rfl (any_of HT_.out (by kernel_rfl)) (fun _ _ _ h => h) (Or.inl ⟨by rfl, ?_⟩) ?_ ?_
                      rotate_left
                      · intro w'
                        go_simp
                        with_reducible rfl
                      rotate_left
                      · simp only [Act.put, List.setIfInBounds_toArray, List.set_cons_zero, List.set_cons_succ, i64_w, i32_w]
                        rfl
                      exact norm_ (by simp only [putAll, Act.put, List.setIfInBounds_toArray, List.set_cons_zero, List.set_cons_succ]) (hCont (v247, gb250) _ ⟨hHeld, (by (with_reducible repeat (first | apply Kd.R_alloc | apply Kd.R_drewN | apply Kd.R_drew)); exact HO230.out), (by (with_reducible repeat (first | apply Kd.R_alloc | apply Kd.R_drewN | apply Kd.R_drew)); exact Kd.R_mono HO233.out (fun _ hk => ⟨hk.1.1, ⟨hk.1.2, hk.2⟩⟩)), (by (with_reducible repeat (first | apply Kd.R_alloc | apply Kd.R_drewN | apply Kd.R_drew)); exact Kd.R_mono HO240.out (fun _ hk => ⟨hk.1.1, ⟨hk.1.2, hk.2⟩⟩)), (by (with_reducible repeat (first | apply Kd.R_alloc | apply Kd.R_drewN | apply Kd.R_drew)); exact Kd.R_mono HO243.out (fun _ hk => ⟨hk.1.1, ⟨hk.1.2, hk.2⟩⟩)), (by (with_reducible repeat (first | apply Kd.R_alloc | apply Kd.R_drewN | apply Kd.R_drew)); exact Kd.R_mono HO248.out (fun _ hk => ⟨hk.1.1.2, ⟨hk.1.2, hk.2⟩⟩)), (by (with_reducible repeat (first | refine blk_drewN ?_ _ | refine blk_drew ?_ | refine blk_alloc ?_ _)); exact BK236.out), (by (with_reducible repeat (first | refine blk_drewN ?_ _ | refine blk_drew ?_ | refine blk_alloc ?_ _)); exact BK244.out), (by (with_reducible repeat (first | refine blk_drewN ?_ _ | refine blk_drew ?_ | refine blk_alloc ?_ _)); exact BK250.out), GW250.out, GE250.out, NB236_250.out, NB250_236.out, NB244_250.out, NB250_244.out, (by repeat (first | (with_reducible first | exact HB.out | apply below_alloc | apply pw_below_drewN | apply below_drew1 | refine below_set ?_ GE236.out | refine below_set ?_ GE244.out | refine below_set ?_ GE250.out) | exact HB.out))⟩)
                  rintro ⟨v247, gb250⟩ w39 ⟨hS_, h0_, h1_, h2_, h3_, h4_, h5_, h6_, h7_, h8_, h9_, h10_, h11_, h12_, h13_, h14_⟩
                  have n0_ : Aside0 (Kd.R k32 32 w39 w.heap.size (fun k_ => k_ ≠ gb236) (.slice (some ad235) t228.length co23) t228) := ⟨h0_⟩
                  have n1_ : Aside0 (Kd.R (Kd.int .i64) 3 w39 w.heap.size (fun k_ => some k_ ≠ (.slice Ao29 t238.length co29 : Value).ownBlock ∧ some k_ ≠ (.slice Ao32 t241.length co32 : Value).ownBlock ∧ some k_ ≠ (v247 : Value).ownBlock) (.slice (some ad234) t231.length co22) t231) := ⟨h1_⟩
                  have n2_ : Aside0 (Kd.R (Kd.int .i64) 3 w39 w.heap.size (fun k_ => some k_ ≠ (.slice (some ad234) t231.length co22 : Value).ownBlock ∧ some k_ ≠ (.slice Ao32 t241.length co32 : Value).ownBlock ∧ some k_ ≠ (v247 : Value).ownBlock) (.slice Ao29 t238.length co29) t238) := ⟨h2_⟩
                  have n3_ : Aside0 (Kd.R (Kd.int .i64) 3 w39 w.heap.size (fun k_ => some k_ ≠ (.slice (some ad234) t231.length co22 : Value).ownBlock ∧ some k_ ≠ (.slice Ao29 t238.length co29 : Value).ownBlock ∧ some k_ ≠ (v247 : Value).ownBlock) (.slice Ao32 t241.length co32) t241) := ⟨h3_⟩
                  have n4_ : Aside0 (Kd.R (Kd.int .i64) 3 w39 w.heap.size (fun k_ => some k_ ≠ (.slice (some ad234) t231.length co22 : Value).ownBlock ∧ some k_ ≠ (.slice Ao29 t238.length co29 : Value).ownBlock ∧ some k_ ≠ (.slice Ao32 t241.length co32 : Value).ownBlock) v247 t246) := ⟨h4_⟩
                  have n5_ : Aside0 (w39.heap[gb236]? = some (.cells #[.int .i64 ((rd_T32 t228 (ji8)).f0), .int .i64 ((rd_T32 t228 (ji8)).f1)] 32 (0, 0))) := ⟨h5_⟩
                  have n6_ : Aside0 (w39.heap[gb244]? = some (.cells #[.slice Ao32 t241.length co32] 29 (0, 0))) := ⟨h6_⟩
                  have n7_ : Aside0 (w39.heap[gb250]? = some (.cells #[.slice none 0 0] 29 (0, 0))) := ⟨h7_⟩
                  have n8_ : Aside0 (w.heap.size ≤ gb250) := ⟨h8_⟩
                  have n9_ : Aside0 (w.heap.size ≤ gb250) := ⟨h9_⟩
                  have n10_ : Aside0 (gb236 ≠ gb250) := ⟨h10_⟩
                  have n11_ : Aside0 (gb250 ≠ gb236) := ⟨h11_⟩
                  have n12_ : Aside0 (gb244 ≠ gb250) := ⟨h12_⟩
                  have n13_ : Aside0 (gb250 ≠ gb244) := ⟨h13_⟩
                  have n14_ : Aside0 (Below w.heap.size w w39) := ⟨h14_⟩
                  clear HO230
                  clear HO233
                  clear HO240
                  clear HO243
                  clear BK236
                  clear BK244
                  clear HB
                  clear h0_ h1_ h2_ h3_ h4_ h5_ h6_ h7_ h8_ h9_ h10_ h11_ h12_ h13_ h14_
                  have HO230 := n0_
                  have HO233 := n1_
                  have HO240 := n2_
                  have HO243 := n3_
                  have HO248 := n4_
                  have BK236 := n5_
                  have BK244 := n6_
                  have BK250 := n7_
                  have GW250 := n8_
                  have GE250 := n9_
                  have NB236_250 := n10_
                  have NB250_236 := n11_
                  have NB244_250 := n12_
                  have NB250_244 := n13_
                  have HB := n14_
                  clear n0_ n1_ n2_ n3_ n4_ n5_ n6_ n7_ n8_ n9_ n10_ n11_ n12_ n13_ n14_
                  have hHeld : w39.cell? ⟨gb244, 0, none⟩ = some (.slice Ao32 t241.length co32) ∧ w39.cell? ⟨gb236, 0, none⟩ = some (.int .i64 ((rd_T32 t228 (ji8)).f0)) ∧ w39.cell? ⟨gb236, 1, none⟩ = some (.int .i64 ((rd_T32 t228 (ji8)).f1)) ∧ w39.cell? ⟨ad234.block, ad234.off + 2, none⟩ = some (.int .i64 (rd t231 2)) := hS_
                  obtain ⟨Ao40, co40, eo40⟩ := Kd.R_slice HO248.out
                  (first | subst eo40 | (injection eo40 with f1_ f2_ f3_; have f4_ := f1_.symm; have f5_ := f3_.symm; clear f1_ f2_ f3_; subst f4_; subst f5_))
                  refine norm_ (a' := ?_) ?_ ?_
                  rotate_left
                  · simp only [putAll, Act.put, List.setIfInBounds_toArray, List.set_cons_zero, List.set_cons_succ]
                    rfl
                  refine one_ (i := 12) (N := none) #[true, true, true, true, true, true, true, true, true, true, true, true, true, false] rfl rfl (one_of HT_.out (by kernel_rfl)) (by decide) (fun K hK => ?_)
                  have hs41 : w39.cell? ⟨gb250, 0, none⟩ = some (.slice none 0 0) := (blk_cell BK250.out 0).trans rfl
                  have hfs41 := blk_frozen BK250.out 0
                  have hns41_0 := NB236_250.out
                  have hns41_1 := NB244_250.out
                  have hms41_0 := NB250_236.out
                  have hms41_1 := NB250_244.out
                  refine skip_ (w1 := ?_) (by rfl) rfl ?_ ?_
                  rotate_left
                  · go_simp
                    rfl
                  refine hK.out _ _ ⟨((cell_far (p := ⟨gb250, _, none⟩) NB244_250.out _).trans (hHeld.1)), ((cell_far (p := ⟨gb250, _, none⟩) NB236_250.out _).trans (hHeld.2.1)), ((cell_far (p := ⟨gb250, _, none⟩) NB236_250.out _).trans (hHeld.2.2.1)), ((cell_far (p := ⟨gb250, _, none⟩) (by first | exact Kd.own_blk (Kd.R_ne HO233.out BK250.out (by decide)) | (rw [add_block]; exact Kd.own_blk (Kd.R_ne HO233.out BK250.out (by decide))) | (show (Addr.add _ _).block ≠ _; rw [add_block]; exact Kd.own_blk (Kd.R_ne HO233.out BK250.out (by decide))) | (dsimp only; exact Kd.own_blk (Kd.R_ne HO233.out BK250.out (by decide)))) _).trans (hHeld.2.2.2))⟩ (fun hHeld => ?_)
                  clear hK K
                  refine pure_ (i := 13) (N := some 9) (v := ?_) (a' := ?_) #[true, true, true, true, true, true, true, true, true, true, true, true, true, true] rfl rfl (any_of HT_.out (by kernel_rfl)) (fun _ _ _ h => h) (Or.inl ⟨by rfl, ?_⟩) ?_ ?_
                  rotate_left
                  · intro w'
                    go_simp
                    with_reducible rfl
                  rotate_left
                  · simp only [Act.put, List.setIfInBounds_toArray, List.set_cons_zero, List.set_cons_succ, i64_w, i32_w]
                    rfl
                  refine done_ (done_of HT_.out (by kernel_rfl)) ?_
                  have hnb42 := NB250_236.out
                  have hnc42 := NB236_250.out
                  have hnb43 := NB250_244.out
                  have hnc43 := NB244_250.out
                  have hcz44_0 : w39.cell? ⟨gb250, 0, none⟩ = some (.slice none 0 0) := (blk_cell BK250.out 0).trans rfl
                  have hfz44_0 := blk_frozen BK250.out 0
                  have hcz45_0 : w39.cell? ⟨gb236, 0, none⟩ = some (.int .i64 ((rd_T32 t228 (ji8)).f0)) := (blk_cell BK236.out 0).trans rfl
                  have hcz45_1 : w39.cell? ⟨gb236, 1, none⟩ = some (.int .i64 ((rd_T32 t228 (ji8)).f1)) := (blk_cell BK236.out 1).trans rfl
                  have hfz45_0 := blk_frozen BK236.out 0
                  have hfz45_1 := blk_frozen BK236.out 1
                  try go_wp2_with (first | ((with_reducible refine gate_callee (f := 23) rfl ?_); refine goesL_ (some 60) rfl rfl Try.func23 (by kernel_rfl) rfl #[.agg #[.slice Ao40 t246.length co40], .agg #[.int .i64 ((rd_T32 t228 (ji8)).f0), .int .i64 ((rd_T32 t228 (ji8)).f1)], .int .i64 (Int.tmod (rd t231 1) ((rd_T32 t228 (ji8)).f1))] rfl (by (try simp only [List.map_toArray, List.map_cons, List.map_nil]); first | done | (simp only [hji8]; rfl) | rfl | (simp only [List.length_drop, List.length_take]; rfl)) ?_; (with_reducible refine (impl_LoadCell.calls _ _ t246 ((rd_T32 t228 (ji8)).f0) ((rd_T32 t228 (ji8)).f1) (Int.tmod (rd t231 1) ((rd_T32 t228 (ji8)).f1)) t251 t252 _ ?side1 ?side2 A17.out).mono ?_); (case side1 => refine (Kd.R_reads' (e := 3) (base := w.heap.size) (ok := fun k_ => (some k_ ≠ (.slice (some ad234) t231.length co22 : Value).ownBlock ∧ (some k_ ≠ (.slice Ao29 t238.length co29 : Value).ownBlock ∧ some k_ ≠ (.slice Ao32 t241.length co32 : Value).ownBlock))) (n := t246.length) (c := co40) ?_).2.2; exact (by (with_reducible repeat (first | apply Kd.R_alloc | apply Kd.R_drewN | apply Kd.R_drew)); exact (Kd.R_mono (Kd.R_far (p := ⟨gb250, 0, none⟩) (Kd.R_types HO248.out BK250.out (by decide)) (fun _ hk => hk.2) (.slice Ao40 t246.length co40)) (fun _ h_ => h_.1)))); (case side2 => exact (Kd.R_reads' HO248.out).2.1); rintro e w46 ⟨rfl, hb⟩; refine ⟨_, rfl, ?_⟩; have n0_ := Aside0.mk (Kd.R_below (by (with_reducible repeat (first | apply Kd.R_alloc | apply Kd.R_drewN | apply Kd.R_drew)); exact (Kd.R_mono (Kd.R_far (p := ⟨gb250, 0, none⟩) (Kd.R_types HO230.out BK250.out (by decide)) (fun _ hk => hk.2) (.slice Ao40 t246.length co40)) (fun _ h_ => h_.1))) hb); have n1_ := Aside0.mk (Kd.R_below (by (with_reducible repeat (first | apply Kd.R_alloc | apply Kd.R_drewN | apply Kd.R_drew)); exact (Kd.R_mono (Kd.R_far (p := ⟨gb250, 0, none⟩) (Kd.R_types HO233.out BK250.out (by decide)) (fun _ hk => hk.2) (.slice Ao40 t246.length co40)) (fun _ h_ => h_.1))) hb); have n2_ := Aside0.mk (Kd.R_below (by (with_reducible repeat (first | apply Kd.R_alloc | apply Kd.R_drewN | apply Kd.R_drew)); exact (Kd.R_mono (Kd.R_far (p := ⟨gb250, 0, none⟩) (Kd.R_types HO240.out BK250.out (by decide)) (fun _ hk => hk.2) (.slice Ao40 t246.length co40)) (fun _ h_ => h_.1))) hb); have n3_ := Aside0.mk (Kd.R_below (by (with_reducible repeat (first | apply Kd.R_alloc | apply Kd.R_drewN | apply Kd.R_drew)); exact (Kd.R_mono (Kd.R_far (p := ⟨gb250, 0, none⟩) (Kd.R_types HO243.out BK250.out (by decide)) (fun _ hk => hk.2) (.slice Ao40 t246.length co40)) (fun _ h_ => h_.1))) hb); have n4_ := Aside0.mk (Kd.R_below (by (with_reducible repeat (first | apply Kd.R_alloc | apply Kd.R_drewN | apply Kd.R_drew)); exact (Kd.R_mono (Kd.R_far (p := ⟨gb250, 0, none⟩) (Kd.R_types HO248.out BK250.out (by decide)) (fun _ hk => hk.2) (.slice Ao40 t246.length co40)) (fun _ h_ => h_.1))) hb); have n5_ := Aside0.mk (blk_below (g := gb236) (o := .cells #[.int .i64 ((rd_T32 t228 (ji8)).f0), .int .i64 ((rd_T32 t228 (ji8)).f1)] 32 (0, 0)) (by (with_reducible repeat (first | refine blk_drewN ?_ _ | refine blk_drew ?_ | refine blk_alloc ?_ _)); refine blk_far ?_ NB236_250.out _; (with_reducible repeat (first | refine blk_drewN ?_ _ | refine blk_drew ?_ | refine blk_alloc ?_ _)); exact BK236.out) hb); have n6_ := Aside0.mk (blk_below (g := gb244) (o := .cells #[.slice Ao32 t241.length co32] 29 (0, 0)) (by (with_reducible repeat (first | refine blk_drewN ?_ _ | refine blk_drew ?_ | refine blk_alloc ?_ _)); refine blk_far ?_ NB244_250.out _; (with_reducible repeat (first | refine blk_drewN ?_ _ | refine blk_drew ?_ | refine blk_alloc ?_ _)); exact BK244.out) hb); have n7_ := Aside0.mk (blk_below (g := gb250) (o := .cells #[.slice Ao40 t246.length co40] 29 (0, 0)) (by (with_reducible repeat (first | refine blk_drewN ?_ _ | refine blk_drew ?_ | refine blk_alloc ?_ _)); refine blk_put (cs := #[.slice none 0 0]) ?_ 0 _ rfl; (with_reducible repeat (first | refine blk_drewN ?_ _ | refine blk_drew ?_ | refine blk_alloc ?_ _)); exact BK250.out) hb); have n8_ := Aside0.mk (below_step (by repeat (first | (with_reducible first | exact HB.out | apply below_alloc | apply pw_below_drewN | apply below_drew1 | refine below_set ?_ GE236.out | refine below_set ?_ GE244.out | refine below_set ?_ GE250.out) | exact HB.out)) hb); clear HO230; clear HO233; clear HO240; clear HO243; clear HO248; clear BK236; clear BK244; clear BK250; clear HB; have HO230 := n0_; have HO233 := n1_; have HO240 := n2_; have HO243 := n3_; have HO248 := n4_; have BK236 := n5_; have BK244 := n6_; have BK250 := n7_; have HB := n8_; clear n0_ n1_ n2_ n3_ n4_ n5_ n6_ n7_ n8_; (try clear hb); (try clear hb2); (try clear hk); (try clear hi); have hcz47_0 : w46.cell? ⟨gb250, 0, none⟩ = some (.slice Ao40 t246.length co40) := (blk_cell BK250.out 0).trans rfl; have hfz47_0 := blk_frozen BK250.out 0; have hcz48_0 : w46.cell? ⟨gb236, 0, none⟩ = some (.int .i64 ((rd_T32 t228 (ji8)).f0)) := (blk_cell BK236.out 0).trans rfl; have hcz48_1 : w46.cell? ⟨gb236, 1, none⟩ = some (.int .i64 ((rd_T32 t228 (ji8)).f1)) := (blk_cell BK236.out 1).trans rfl; have hfz48_0 := blk_frozen BK236.out 0; have hfz48_1 := blk_frozen BK236.out 1) | ((with_reducible refine gate_callee (f := 17) rfl ?_); refine goesL_ (some 68) rfl rfl Try.func17 (by kernel_rfl) rfl #[.agg #[.slice Ao40 t246.length co40], .agg #[.int .i64 ((rd_T32 t228 (ji8)).f0), .int .i64 ((rd_T32 t228 (ji8)).f1)], .int .i64 ((rd_T32 t228 (ji8)).f1), .int .i64 1] rfl (by (try simp only [List.map_toArray, List.map_cons, List.map_nil]); first | done | (simp only [hji8]; rfl) | rfl | (simp only [List.length_drop, List.length_take]; rfl)) ?_; (with_reducible refine (impl_StoreCell.calls _ _ t246 ((rd_T32 t228 (ji8)).f0) ((rd_T32 t228 (ji8)).f1) ((rd_T32 t228 (ji8)).f1) 1 t253 t256 _ ?side1 ?side2 A18.out).mono ?_); (case side1 => repeat (first | exact (Kd.R_reads' HO248.out).2.2 | (with_reducible refine Kd.C_alloc ?_ _) | (with_reducible refine Kd.C_drewN ?_ _) | (with_reducible refine Kd.C_drew ?_))); (case side2 => exact (Kd.R_reads' HO248.out).2.1); rintro e w49 ⟨v254, rfl, ho0, hb⟩; refine ⟨_, rfl, ?_⟩; have n0_ := Aside0.mk (Kd.R_below (by (with_reducible repeat (first | apply Kd.R_alloc | apply Kd.R_drewN | apply Kd.R_drew)); exact HO230.out) hb); have n1_ := Aside0.mk (Kd.R_elder' (by (with_reducible repeat (first | apply Kd.R_alloc | apply Kd.R_drewN | apply Kd.R_drew)); exact HO233.out) (Kd.R_base ho0) hb); have n2_ := Aside0.mk (Kd.R_elder' (by (with_reducible repeat (first | apply Kd.R_alloc | apply Kd.R_drewN | apply Kd.R_drew)); exact HO240.out) (Kd.R_base ho0) hb); have n3_ := Aside0.mk (Kd.R_elder' (by (with_reducible repeat (first | apply Kd.R_alloc | apply Kd.R_drewN | apply Kd.R_drew)); exact HO243.out) (Kd.R_base ho0) hb); have n4_ := Aside0.mk (Kd.R_elder' (by (with_reducible repeat (first | apply Kd.R_alloc | apply Kd.R_drewN | apply Kd.R_drew)); exact HO248.out) (Kd.R_base ho0) hb); have n5_ := Aside0.mk (Kd.R_lower (Kd.R_new' (Kd.R_new' (Kd.R_new' (Kd.R_new' ho0 (Kd.R_lt (by (with_reducible repeat (first | apply Kd.R_alloc | apply Kd.R_drewN | apply Kd.R_drew)); exact HO233.out))) (Kd.R_lt (by (with_reducible repeat (first | apply Kd.R_alloc | apply Kd.R_drewN | apply Kd.R_drew)); exact HO240.out))) (Kd.R_lt (by (with_reducible repeat (first | apply Kd.R_alloc | apply Kd.R_drewN | apply Kd.R_drew)); exact HO243.out))) (Kd.R_lt (by (with_reducible repeat (first | apply Kd.R_alloc | apply Kd.R_drewN | apply Kd.R_drew)); exact HO248.out))) (below_size (by repeat (first | (with_reducible first | exact HB.out | apply below_alloc | apply pw_below_drewN | apply below_drew1 | refine below_set ?_ GE236.out | refine below_set ?_ GE244.out | refine below_set ?_ GE250.out) | exact HB.out)))); have n6_ := Aside0.mk (blk_below (g := gb236) (o := .cells #[.int .i64 ((rd_T32 t228 (ji8)).f0), .int .i64 ((rd_T32 t228 (ji8)).f1)] 32 (0, 0)) (by (with_reducible repeat (first | refine blk_drewN ?_ _ | refine blk_drew ?_ | refine blk_alloc ?_ _)); exact BK236.out) hb); have n7_ := Aside0.mk (blk_below (g := gb244) (o := .cells #[.slice Ao32 t241.length co32] 29 (0, 0)) (by (with_reducible repeat (first | refine blk_drewN ?_ _ | refine blk_drew ?_ | refine blk_alloc ?_ _)); exact BK244.out) hb); have n8_ := Aside0.mk (blk_below (g := gb250) (o := .cells #[.slice Ao40 t246.length co40] 29 (0, 0)) (by (with_reducible repeat (first | refine blk_drewN ?_ _ | refine blk_drew ?_ | refine blk_alloc ?_ _)); exact BK250.out) hb); have n9_ := Aside0.mk (below_step (by repeat (first | (with_reducible first | exact HB.out | apply below_alloc | apply pw_below_drewN | apply below_drew1 | refine below_set ?_ GE236.out | refine below_set ?_ GE244.out | refine below_set ?_ GE250.out) | exact HB.out)) hb); clear HO230; clear HO233; clear HO240; clear HO243; clear HO248; clear BK236; clear BK244; clear BK250; clear HB; have HO230 := n0_; have HO233 := n1_; have HO240 := n2_; have HO243 := n3_; have HO248 := n4_; have HO255 := n5_; have BK236 := n6_; have BK244 := n7_; have BK250 := n8_; have HB := n9_; clear n0_ n1_ n2_ n3_ n4_ n5_ n6_ n7_ n8_ n9_; (try clear hb); (try clear hb2); (try clear hk); (try clear hi); (try clear ho0)) | ((with_reducible refine gate_dst (N := 12) rfl ?_); (try (refine gate_guard (by rfl) ?_; dsimp only)); refine box_event ?hg (N := 12) ?hd (cs := #[.slice none 0 0]) (t := 29) ?hr ?_; (case hd => rfl); (case hg => rfl); (case hr => first | (go_simp; done) | (go_simp; rfl)); intro gb257 hg w50 hbox hb; have n0_ := Aside0.mk (Kd.R_below (by (with_reducible repeat (first | apply Kd.R_alloc | apply Kd.R_drewN | apply Kd.R_drew)); exact HO230.out) hb); have n1_ := Aside0.mk (Kd.R_below (by (with_reducible repeat (first | apply Kd.R_alloc | apply Kd.R_drewN | apply Kd.R_drew)); exact HO233.out) hb); have n2_ := Aside0.mk (Kd.R_below (by (with_reducible repeat (first | apply Kd.R_alloc | apply Kd.R_drewN | apply Kd.R_drew)); exact HO240.out) hb); have n3_ := Aside0.mk (Kd.R_below (by (with_reducible repeat (first | apply Kd.R_alloc | apply Kd.R_drewN | apply Kd.R_drew)); exact HO243.out) hb); have n4_ := Aside0.mk (Kd.R_below (by (with_reducible repeat (first | apply Kd.R_alloc | apply Kd.R_drewN | apply Kd.R_drew)); exact HO248.out) hb); have n5_ := Aside0.mk (Kd.R_below (by (with_reducible repeat (first | apply Kd.R_alloc | apply Kd.R_drewN | apply Kd.R_drew)); exact HO255.out) hb); have n6_ := Aside0.mk (blk_below (g := gb236) (o := .cells #[.int .i64 ((rd_T32 t228 (ji8)).f0), .int .i64 ((rd_T32 t228 (ji8)).f1)] 32 (0, 0)) (by (with_reducible repeat (first | refine blk_drewN ?_ _ | refine blk_drew ?_ | refine blk_alloc ?_ _)); exact BK236.out) hb); have n7_ := Aside0.mk (blk_below (g := gb244) (o := .cells #[.slice Ao32 t241.length co32] 29 (0, 0)) (by (with_reducible repeat (first | refine blk_drewN ?_ _ | refine blk_drew ?_ | refine blk_alloc ?_ _)); exact BK244.out) hb); have n8_ := Aside0.mk (blk_below (g := gb250) (o := .cells #[.slice Ao40 t246.length co40] 29 (0, 0)) (by (with_reducible repeat (first | refine blk_drewN ?_ _ | refine blk_drew ?_ | refine blk_alloc ?_ _)); exact BK250.out) hb); have n9_ := Aside0.mk (below_step (by repeat (first | (with_reducible first | exact HB.out | apply below_alloc | apply pw_below_drewN | apply below_drew1 | refine below_set ?_ GE236.out | refine below_set ?_ GE244.out | refine below_set ?_ GE250.out) | exact HB.out)) hb); have n10_ := Aside0.mk (hbox); have n11_ := Aside0.mk ((by rw [hg]; exact (below_size (by repeat (first | (with_reducible first | exact HB.out | apply below_alloc | apply pw_below_drewN | apply below_drew1 | refine below_set ?_ GE236.out | refine below_set ?_ GE244.out | refine below_set ?_ GE250.out) | exact HB.out))) : w.heap.size ≤ gb257)); have n12_ := Aside0.mk ((by rw [hg]; exact (below_size (by repeat (first | (with_reducible first | exact HB.out | apply below_alloc | apply pw_below_drewN | apply below_drew1 | refine below_set ?_ GE236.out | refine below_set ?_ GE244.out | refine below_set ?_ GE250.out) | exact HB.out))) : w.heap.size ≤ gb257)); have n13_ := Aside0.mk ((by rw [hg]; exact Nat.ne_of_lt (blk_lt (g := gb236) (o := .cells #[.int .i64 ((rd_T32 t228 (ji8)).f0), .int .i64 ((rd_T32 t228 (ji8)).f1)] 32 (0, 0)) (by (with_reducible repeat (first | refine blk_drewN ?_ _ | refine blk_drew ?_ | refine blk_alloc ?_ _)); exact BK236.out)) : gb236 ≠ gb257)); have n14_ := Aside0.mk ((by rw [hg]; exact Nat.ne_of_gt (blk_lt (g := gb236) (o := .cells #[.int .i64 ((rd_T32 t228 (ji8)).f0), .int .i64 ((rd_T32 t228 (ji8)).f1)] 32 (0, 0)) (by (with_reducible repeat (first | refine blk_drewN ?_ _ | refine blk_drew ?_ | refine blk_alloc ?_ _)); exact BK236.out)) : gb257 ≠ gb236)); have n15_ := Aside0.mk ((by rw [hg]; exact Nat.ne_of_lt (blk_lt (g := gb244) (o := .cells #[.slice Ao32 t241.length co32] 29 (0, 0)) (by (with_reducible repeat (first | refine blk_drewN ?_ _ | refine blk_drew ?_ | refine blk_alloc ?_ _)); exact BK244.out)) : gb244 ≠ gb257)); have n16_ := Aside0.mk ((by rw [hg]; exact Nat.ne_of_gt (blk_lt (g := gb244) (o := .cells #[.slice Ao32 t241.length co32] 29 (0, 0)) (by (with_reducible repeat (first | refine blk_drewN ?_ _ | refine blk_drew ?_ | refine blk_alloc ?_ _)); exact BK244.out)) : gb257 ≠ gb244)); have n17_ := Aside0.mk ((by rw [hg]; exact Nat.ne_of_lt (blk_lt (g := gb250) (o := .cells #[.slice Ao40 t246.length co40] 29 (0, 0)) (by (with_reducible repeat (first | refine blk_drewN ?_ _ | refine blk_drew ?_ | refine blk_alloc ?_ _)); exact BK250.out)) : gb250 ≠ gb257)); have n18_ := Aside0.mk ((by rw [hg]; exact Nat.ne_of_gt (blk_lt (g := gb250) (o := .cells #[.slice Ao40 t246.length co40] 29 (0, 0)) (by (with_reducible repeat (first | refine blk_drewN ?_ _ | refine blk_drew ?_ | refine blk_alloc ?_ _)); exact BK250.out)) : gb257 ≠ gb250)); clear HO230; clear HO233; clear HO240; clear HO243; clear HO248; clear HO255; clear BK236; clear BK244; clear BK250; clear HB; have HO230 := n0_; have HO233 := n1_; have HO240 := n2_; have HO243 := n3_; have HO248 := n4_; have HO255 := n5_; have BK236 := n6_; have BK244 := n7_; have BK250 := n8_; have HB := n9_; have BK257 := n10_; have GW257 := n11_; have GE257 := n12_; have NB236_257 := n13_; have NB257_236 := n14_; have NB244_257 := n15_; have NB257_244 := n16_; have NB250_257 := n17_; have NB257_250 := n18_; clear n0_ n1_ n2_ n3_ n4_ n5_ n6_ n7_ n8_ n9_ n10_ n11_ n12_ n13_ n14_ n15_ n16_ n17_ n18_; clear hb hbox hg; obtain ⟨Ao51, co51, eo51⟩ := Kd.R_slice HO255.out; subst eo51; have hnb52 := NB257_236.out; have hnc52 := NB236_257.out; have hnb53 := NB257_244.out; have hnc53 := NB244_257.out; have hnb54 := NB257_250.out; have hnc54 := NB250_257.out; have hcz55_0 : w50.cell? ⟨gb257, 0, none⟩ = some (.slice none 0 0) := (blk_cell BK257.out 0).trans rfl; have hfz55_0 := blk_frozen BK257.out 0; have hcz56_0 : w50.cell? ⟨gb250, 0, none⟩ = some (.slice Ao40 t246.length co40) := (blk_cell BK250.out 0).trans rfl; have hfz56_0 := blk_frozen BK250.out 0; have hcz57_0 : w50.cell? ⟨gb236, 0, none⟩ = some (.int .i64 ((rd_T32 t228 (ji8)).f0)) := (blk_cell BK236.out 0).trans rfl; have hcz57_1 : w50.cell? ⟨gb236, 1, none⟩ = some (.int .i64 ((rd_T32 t228 (ji8)).f1)) := (blk_cell BK236.out 1).trans rfl; have hfz57_0 := blk_frozen BK236.out 0; have hfz57_1 := blk_frozen BK236.out 1) | ((with_reducible refine gate_callee (f := 23) rfl ?_); refine goesL_ (some 74) rfl rfl Try.func23 (by kernel_rfl) rfl #[.agg #[.slice Ao40 t246.length co40], .agg #[.int .i64 ((rd_T32 t228 (ji8)).f0), .int .i64 ((rd_T32 t228 (ji8)).f1)], .int .i64 (-1)] rfl (by (try simp only [List.map_toArray, List.map_cons, List.map_nil]); first | done | (simp only [hji8]; rfl) | rfl | (simp only [List.length_drop, List.length_take]; rfl)) ?_; (with_reducible refine (impl_LoadCell.calls _ _ t246 ((rd_T32 t228 (ji8)).f0) ((rd_T32 t228 (ji8)).f1) (-1) t258 t259 _ ?side1 ?side2 A19.out).mono ?_); (case side1 => refine (Kd.R_reads' (e := 3) (base := w.heap.size) (ok := fun k_ => ((some k_ ≠ (.slice (some ad234) t231.length co22 : Value).ownBlock ∧ (some k_ ≠ (.slice Ao29 t238.length co29 : Value).ownBlock ∧ some k_ ≠ (.slice Ao32 t241.length co32 : Value).ownBlock)) ∧ some k_ ≠ (.slice Ao51 t253.length co51 : Value).ownBlock)) (n := t246.length) (c := co40) ?_).2.2; exact (by (with_reducible repeat (first | apply Kd.R_alloc | apply Kd.R_drewN | apply Kd.R_drew)); exact (Kd.R_mono (Kd.R_far (p := ⟨gb257, 0, none⟩) (Kd.R_types HO248.out BK257.out (by decide)) (fun _ hk => hk.2) (.slice Ao51 t253.length co51)) (fun _ h_ => h_.1)))); (case side2 => exact (Kd.R_reads' HO248.out).2.1); rintro e w58 ⟨rfl, hb⟩; refine ⟨_, rfl, ?_⟩; have n0_ := Aside0.mk (Kd.R_below (by (with_reducible repeat (first | apply Kd.R_alloc | apply Kd.R_drewN | apply Kd.R_drew)); exact (Kd.R_mono (Kd.R_far (p := ⟨gb257, 0, none⟩) (Kd.R_types HO230.out BK257.out (by decide)) (fun _ hk => hk.2) (.slice Ao51 t253.length co51)) (fun _ h_ => h_.1))) hb); have n1_ := Aside0.mk (Kd.R_below (by (with_reducible repeat (first | apply Kd.R_alloc | apply Kd.R_drewN | apply Kd.R_drew)); exact (Kd.R_mono (Kd.R_far (p := ⟨gb257, 0, none⟩) (Kd.R_types HO233.out BK257.out (by decide)) (fun _ hk => hk.2) (.slice Ao51 t253.length co51)) (fun _ h_ => h_.1))) hb); have n2_ := Aside0.mk (Kd.R_below (by (with_reducible repeat (first | apply Kd.R_alloc | apply Kd.R_drewN | apply Kd.R_drew)); exact (Kd.R_mono (Kd.R_far (p := ⟨gb257, 0, none⟩) (Kd.R_types HO240.out BK257.out (by decide)) (fun _ hk => hk.2) (.slice Ao51 t253.length co51)) (fun _ h_ => h_.1))) hb); have n3_ := Aside0.mk (Kd.R_below (by (with_reducible repeat (first | apply Kd.R_alloc | apply Kd.R_drewN | apply Kd.R_drew)); exact (Kd.R_mono (Kd.R_far (p := ⟨gb257, 0, none⟩) (Kd.R_types HO243.out BK257.out (by decide)) (fun _ hk => hk.2) (.slice Ao51 t253.length co51)) (fun _ h_ => h_.1))) hb); have n4_ := Aside0.mk (Kd.R_below (by (with_reducible repeat (first | apply Kd.R_alloc | apply Kd.R_drewN | apply Kd.R_drew)); exact (Kd.R_mono (Kd.R_far (p := ⟨gb257, 0, none⟩) (Kd.R_types HO248.out BK257.out (by decide)) (fun _ hk => hk.2) (.slice Ao51 t253.length co51)) (fun _ h_ => h_.1))) hb); have n5_ := Aside0.mk (Kd.R_below (by (with_reducible repeat (first | apply Kd.R_alloc | apply Kd.R_drewN | apply Kd.R_drew)); exact (Kd.R_mono (Kd.R_far (p := ⟨gb257, 0, none⟩) (Kd.R_types HO255.out BK257.out (by decide)) (fun _ hk => hk.2) (.slice Ao51 t253.length co51)) (fun _ h_ => h_.1))) hb); have n6_ := Aside0.mk (blk_below (g := gb236) (o := .cells #[.int .i64 ((rd_T32 t228 (ji8)).f0), .int .i64 ((rd_T32 t228 (ji8)).f1)] 32 (0, 0)) (by (with_reducible repeat (first | refine blk_drewN ?_ _ | refine blk_drew ?_ | refine blk_alloc ?_ _)); refine blk_far ?_ NB236_257.out _; (with_reducible repeat (first | refine blk_drewN ?_ _ | refine blk_drew ?_ | refine blk_alloc ?_ _)); exact BK236.out) hb); have n7_ := Aside0.mk (blk_below (g := gb244) (o := .cells #[.slice Ao32 t241.length co32] 29 (0, 0)) (by (with_reducible repeat (first | refine blk_drewN ?_ _ | refine blk_drew ?_ | refine blk_alloc ?_ _)); refine blk_far ?_ NB244_257.out _; (with_reducible repeat (first | refine blk_drewN ?_ _ | refine blk_drew ?_ | refine blk_alloc ?_ _)); exact BK244.out) hb); have n8_ := Aside0.mk (blk_below (g := gb250) (o := .cells #[.slice Ao40 t246.length co40] 29 (0, 0)) (by (with_reducible repeat (first | refine blk_drewN ?_ _ | refine blk_drew ?_ | refine blk_alloc ?_ _)); refine blk_far ?_ NB250_257.out _; (with_reducible repeat (first | refine blk_drewN ?_ _ | refine blk_drew ?_ | refine blk_alloc ?_ _)); exact BK250.out) hb); have n9_ := Aside0.mk (blk_below (g := gb257) (o := .cells #[.slice Ao51 t253.length co51] 29 (0, 0)) (by (with_reducible repeat (first | refine blk_drewN ?_ _ | refine blk_drew ?_ | refine blk_alloc ?_ _)); refine blk_put (cs := #[.slice none 0 0]) ?_ 0 _ rfl; (with_reducible repeat (first | refine blk_drewN ?_ _ | refine blk_drew ?_ | refine blk_alloc ?_ _)); exact BK257.out) hb); have n10_ := Aside0.mk (below_step (by repeat (first | (with_reducible first | exact HB.out | apply below_alloc | apply pw_below_drewN | apply below_drew1 | refine below_set ?_ GE236.out | refine below_set ?_ GE244.out | refine below_set ?_ GE250.out | refine below_set ?_ GE257.out) | exact HB.out)) hb); clear HO230; clear HO233; clear HO240; clear HO243; clear HO248; clear HO255; clear BK236; clear BK244; clear BK250; clear BK257; clear HB; have HO230 := n0_; have HO233 := n1_; have HO240 := n2_; have HO243 := n3_; have HO248 := n4_; have HO255 := n5_; have BK236 := n6_; have BK244 := n7_; have BK250 := n8_; have BK257 := n9_; have HB := n10_; clear n0_ n1_ n2_ n3_ n4_ n5_ n6_ n7_ n8_ n9_ n10_; (try clear hb); (try clear hb2); (try clear hk); (try clear hi)))
                  go_loopg [16] k (fun kq v16 w' => ∃ (x16_1 : Int), v16 = .int .i64 x16_1 ∧ Aside0 (laws_FnStores.l0 kq t228 t231 (Int.tmod (rd t231 1) ((rd_T32 t228 (ji8)).f1)) t249 t251 t252 t256 t259 x16_1 ((rd_T32 t228 (ji8)).f0) ((rd_T32 t228 (ji8)).f1) t241 t246 = some r) ∧ Aside0 (kq ≤ k) ∧ Aside0 (Kd.R k32 32 w' w.heap.size (fun k_ => k_ ≠ gb236) (.slice (some ad235) t228.length co23) t228) ∧ Aside0 (Kd.R (Kd.int .i64) 3 w' w.heap.size (fun k_ => some k_ ≠ ((.slice Ao32 t241.length co32) : Value).ownBlock ∧ some k_ ≠ ((.slice Ao40 t246.length co40) : Value).ownBlock ∧ some k_ ≠ ((.slice Ao51 t253.length co51) : Value).ownBlock) (.slice (some ad234) t231.length co22) t231) ∧ Aside0 (Kd.R (Kd.int .i64) 3 w' w.heap.size (fun k_ => some k_ ≠ ((.slice (some ad234) t231.length co22) : Value).ownBlock ∧ some k_ ≠ ((.slice Ao40 t246.length co40) : Value).ownBlock ∧ some k_ ≠ ((.slice Ao51 t253.length co51) : Value).ownBlock) (.slice Ao32 t241.length co32) t241) ∧ Aside0 (Kd.R (Kd.int .i64) 3 w' w.heap.size (fun k_ => some k_ ≠ ((.slice (some ad234) t231.length co22) : Value).ownBlock ∧ some k_ ≠ ((.slice Ao32 t241.length co32) : Value).ownBlock ∧ some k_ ≠ ((.slice Ao51 t253.length co51) : Value).ownBlock) (.slice Ao40 t246.length co40) t246) ∧ Aside0 (Kd.R (Kd.int .i64) 3 w' w.heap.size (fun k_ => some k_ ≠ ((.slice (some ad234) t231.length co22) : Value).ownBlock ∧ some k_ ≠ ((.slice Ao32 t241.length co32) : Value).ownBlock ∧ some k_ ≠ ((.slice Ao40 t246.length co40) : Value).ownBlock) (.slice Ao51 t253.length co51) t253) ∧ Aside0 (w'.heap[gb236]? = some (.cells #[.int .i64 ((rd_T32 t228 (ji8)).f0), .int .i64 ((rd_T32 t228 (ji8)).f1)] 32 (0, 0))) ∧ Aside0 (w'.heap[gb244]? = some (.cells #[(.slice Ao32 t241.length co32)] 29 (0, 0))) ∧ Aside0 (w'.heap[gb250]? = some (.cells #[(.slice Ao40 t246.length co40)] 29 (0, 0))) ∧ Aside0 (w'.heap[gb257]? = some (.cells #[(.slice Ao51 t253.length co51)] 29 (0, 0))) ∧ Aside0 (Below w.heap.size w w'))
                  case atStart => exact ⟨(0), (by first | rfl | (simp; done) | (simp [*]; done)), H', ⟨Nat.le_refl _⟩, ⟨by (with_reducible repeat (first | apply Kd.R_alloc | apply Kd.R_drewN | apply Kd.R_drew)); exact HO230.out⟩, ⟨by (with_reducible repeat (first | apply Kd.R_alloc | apply Kd.R_drewN | apply Kd.R_drew)); exact Kd.R_mono HO233.out (fun _ hk => ⟨hk.1.2.1, ⟨hk.1.2.2, hk.2⟩⟩)⟩, ⟨by (with_reducible repeat (first | apply Kd.R_alloc | apply Kd.R_drewN | apply Kd.R_drew)); exact Kd.R_mono HO243.out (fun _ hk => ⟨hk.1.1, ⟨hk.1.2.2, hk.2⟩⟩)⟩, ⟨by (with_reducible repeat (first | apply Kd.R_alloc | apply Kd.R_drewN | apply Kd.R_drew)); exact Kd.R_mono HO248.out (fun _ hk => ⟨hk.1.1, ⟨hk.1.2.2, hk.2⟩⟩)⟩, ⟨by (with_reducible repeat (first | apply Kd.R_alloc | apply Kd.R_drewN | apply Kd.R_drew)); exact Kd.R_mono HO255.out (fun _ hk => ⟨hk.1.1.1.2, ⟨hk.1.2, hk.2⟩⟩)⟩, ⟨by (with_reducible repeat (first | refine blk_drewN ?_ _ | refine blk_drew ?_ | refine blk_alloc ?_ _)); exact BK236.out⟩, ⟨by (with_reducible repeat (first | refine blk_drewN ?_ _ | refine blk_drew ?_ | refine blk_alloc ?_ _)); exact BK244.out⟩, ⟨by (with_reducible repeat (first | refine blk_drewN ?_ _ | refine blk_drew ?_ | refine blk_alloc ?_ _)); exact BK250.out⟩, ⟨by (with_reducible repeat (first | refine blk_drewN ?_ _ | refine blk_drew ?_ | refine blk_alloc ?_ _)); exact BK257.out⟩, ⟨by repeat (first | (with_reducible first | exact HB.out | apply below_alloc | apply pw_below_drewN | apply below_drew1 | refine below_set ?_ GE236.out | refine below_set ?_ GE244.out | refine below_set ?_ GE250.out | refine below_set ?_ GE257.out) | exact HB.out)⟩⟩
                  case round =>
                    clear H'
                    try clear c1
                    try clear c2
                    try clear p2
                    try clear q2
                    try clear hx2
                    try clear qi2
                    try clear c3
                    try clear c4
                    try clear c5
                    try clear p6
                    try clear c7
                    try clear c7b2
                    try clear c9
                    try clear c9b0
                    try clear c10
                    try clear c10b0
                    try clear c11
                    try clear c11b0
                    try clear c11b1
                    try clear c12
                    try clear c12b0
                    try clear c12b1
                    try clear c13
                    try clear c14
                    try clear c15
                    try clear c15b0
                    try clear c15b1
                    try clear c16
                    try clear c17
                    try clear c22
                    try clear c23
                    try clear p23
                    try clear q23
                    try clear hx23
                    try clear qi23
                    try clear p24
                    try clear q24
                    try clear hx24
                    try clear qi24
                    try clear c33
                    try clear c42
                    try clear c43
                    try clear c52
                    try clear c53
                    try clear c54
                    try clear hcz25_0
                    try clear hcz25_1
                    try clear hcz34_0
                    try clear hcz44_0
                    try clear hcz45_0
                    try clear hcz45_1
                    try clear hcz47_0
                    try clear hcz48_0
                    try clear hcz48_1
                    try clear hcz55_0
                    try clear hcz56_0
                    try clear hcz57_0
                    try clear hcz57_1
                    try clear hfz25_0
                    try clear hfz25_1
                    try clear hfz34_0
                    try clear hfz44_0
                    try clear hfz45_0
                    try clear hfz45_1
                    try clear hfz47_0
                    try clear hfz48_0
                    try clear hfz48_1
                    try clear hfz55_0
                    try clear hfz56_0
                    try clear hfz57_0
                    try clear hfz57_1
                    try clear hx234_0
                    try clear hx235_0
                    try clear hx235_1
                    try clear hx237_0
                    try clear hx245_0
                    try clear p234
                    try clear p235
                    try clear p237
                    try clear p245
                    try clear q234
                    try clear q235
                    try clear q237
                    try clear q245
                    obtain ⟨x16_1, rfl, HA, HK1, HO_3, HO_4, HO_245000, HO_251000, HO_258000, BK236, BK244, BK250, BK257, HB⟩ := hrel
                    cases gk with
                    | zero => exact absurd HA.out (by simp [laws_FnStores.l0])
                    | succ k1 =>
                      have H := HA.out
                      clear HA
                      simp only [laws_FnStores.l0] at H
                      by_cases c59 : x16_1 < 64
                      · rw [if_pos c59] at H
                        have c59b0 : decide (x16_1 < 64) = true := decide_eq_true c59
                        clear c59
                        by_cases c60 : x16_1 = (wrap64 (((rd_T32 t228 (ji8)).f0) + (Int.tmod (rd t231 1) ((rd_T32 t228 (ji8)).f1))))
                        · rw [if_pos c60] at H
                          have c60b0 : (x16_1 == (wrap64 (((rd_T32 t228 (ji8)).f0) + (Int.tmod (rd t231 1) ((rd_T32 t228 (ji8)).f1))))) = true := beq_iff_eq.mpr c60
                          have c60b1 : (x16_1 != (wrap64 (((rd_T32 t228 (ji8)).f0) + (Int.tmod (rd t231 1) ((rd_T32 t228 (ji8)).f1))))) = false := bne_eq_false_iff_eq.mpr c60
                          clear c60
                          have H' := Aside0.mk H
                          clear H
                          try go_wp2
                          have n0_ := Aside0.mk (Kd.R_drew HO_3.out)
                          have n1_ := Aside0.mk (Kd.R_drew HO_4.out)
                          have n2_ := Aside0.mk (Kd.R_drew HO_245000.out)
                          have n3_ := Aside0.mk (Kd.R_drew HO_251000.out)
                          have n4_ := Aside0.mk (Kd.R_drew HO_258000.out)
                          have n5_ := Aside0.mk (blk_drew BK236.out)
                          have n6_ := Aside0.mk (blk_drew BK244.out)
                          have n7_ := Aside0.mk (blk_drew BK250.out)
                          have n8_ := Aside0.mk (blk_drew BK257.out)
                          have n9_ := Aside0.mk (below_drew1 HB.out)
                          clear HO_3
                          clear HO_4
                          clear HO_245000
                          clear HO_251000
                          clear HO_258000
                          clear BK236
                          clear BK244
                          clear BK250
                          clear BK257
                          clear HB
                          have HO_3 := n0_
                          have HO_4 := n1_
                          have HO_245000 := n2_
                          have HO_251000 := n3_
                          have HO_258000 := n4_
                          have BK236 := n5_
                          have BK244 := n6_
                          have BK250 := n7_
                          have BK257 := n8_
                          have HB := n9_
                          clear n0_ n1_ n2_ n3_ n4_ n5_ n6_ n7_ n8_ n9_
                          refine start_ (n := 19) (S := fun w' => w'.cell? ⟨gb236, 0, none⟩ = some (.int .i64 ((rd_T32 t228 (ji8)).f0)) ∧ w'.cell? ⟨gb236, 1, none⟩ = some (.int .i64 ((rd_T32 t228 (ji8)).f1))) (ds := []) #[false, false, false, false, false, false, false, false, false, false, false, false, false, false, false, false, false, false, false] (by kernel_rfl) rfl rfl ⟨(blk_cell BK236.out 0).trans rfl, (blk_cell BK236.out 1).trans rfl⟩ (fun hHeld => ?_); refine with_tabW laws_FnStores.tab15 laws_FnStores.bits15 (fun HT_ HW_ => ?_)
                          generalize wr.drew = w61 at HO_3 HO_4 HO_245000 HO_251000 HO_258000 BK236 BK244 BK250 BK257 HB hHeld ⊢
                          refine pure_ (i := 0) (N := some 81) (v := ?_) (a' := ?_) #[true, false, false, false, false, false, false, false, false, false, false, false, false, false, false, false, false, false, false] rfl rfl (any_of HT_.out (by kernel_rfl)) (fun _ _ _ h => h) (Or.inl ⟨by rfl, ?_⟩) ?_ ?_
                          rotate_left
                          · intro w'
                            go_simp
                            with_reducible rfl
                          rotate_left
                          · simp only [Act.put, List.setIfInBounds_toArray, List.set_cons_zero, List.set_cons_succ, i64_w, i32_w]
                            rfl
                          refine pure_ (i := 1) (N := some 82) (v := ?_) (a' := ?_) #[true, true, false, false, false, false, false, false, false, false, false, false, false, false, false, false, false, false, false] rfl rfl (any_of HT_.out (by kernel_rfl)) (fun _ _ _ h => h) (Or.inl ⟨by rfl, ?_⟩) ?_ ?_
                          rotate_left
                          · intro w'
                            go_simp
                            with_reducible rfl
                          rotate_left
                          · simp only [Act.put, List.setIfInBounds_toArray, List.set_cons_zero, List.set_cons_succ, i64_w, i32_w]
                            rfl
                          refine pure_ (i := 3) (N := some 84) (v := ?_) (a' := ?_) #[true, true, false, true, false, false, false, false, false, false, false, false, false, false, false, false, false, false, false] rfl rfl (any_of HT_.out (by kernel_rfl)) (fun _ _ _ h => h) (Or.inl ⟨by rfl, ?_⟩) ?_ ?_
                          rotate_left
                          · intro w'
                            go_simp
                            with_reducible rfl
                          rotate_left
                          · simp only [Act.put, List.setIfInBounds_toArray, List.set_cons_zero, List.set_cons_succ, i64_w, i32_w]
                            rfl
                          refine take_ (i := 2) (N := some 83) (v := ?_) (a' := ?_) #[true, true, true, true, false, false, false, false, false, false, false, false, false, false, false, false, false, false, false] rfl rfl (take_ofW HT_.out HW_.out (by kernel_rfl)) (fun _ _ _ h => h) (Or.inl ⟨by rfl, ?_⟩) hHeld ?_ ?_
                          rotate_left
                          · rintro w' ⟨s0, s1⟩
                            go_simp
                            with_reducible rfl
                          rotate_left
                          · simp only [Act.put, List.setIfInBounds_toArray, List.set_cons_zero, List.set_cons_succ, i64_w, i32_w]
                            rfl
                          refine pure_ (i := 4) (N := some 85) (v := ?_) (a' := ?_) #[true, true, true, true, true, false, false, false, false, false, false, false, false, false, false, false, false, false, false] rfl rfl (any_of HT_.out (by kernel_rfl)) (fun _ _ _ h => h) (Or.inl ⟨by rfl, ?_⟩) ?_ ?_
                          rotate_left
                          · intro w'
                            go_simp
                            with_reducible rfl
                          rotate_left
                          · simp only [Act.put, List.setIfInBounds_toArray, List.set_cons_zero, List.set_cons_succ, i64_w, i32_w]
                            rfl
                          refine pure_ (i := 5) (N := some 86) (v := ?_) (a' := ?_) #[true, true, true, true, true, true, false, false, false, false, false, false, false, false, false, false, false, false, false] rfl rfl (any_of HT_.out (by kernel_rfl)) (fun _ _ _ h => h) (Or.inl ⟨by rfl, ?_⟩) ?_ ?_
                          rotate_left
                          · intro w'
                            go_simp
                            with_reducible rfl
                          rotate_left
                          · simp only [Act.put, List.setIfInBounds_toArray, List.set_cons_zero, List.set_cons_succ, i64_w, i32_w]
                            rfl
                          refine pure_ (i := 6) (N := some 87) (v := ?_) (a' := ?_) #[true, true, true, true, true, true, true, false, false, false, false, false, false, false, false, false, false, false, false] rfl rfl (any_of HT_.out (by kernel_rfl)) (fun _ _ _ h => h) (Or.inl ⟨by rfl, ?_⟩) ?_ ?_
                          rotate_left
                          · intro w'
                            go_simp
                            with_reducible rfl
                          rotate_left
                          · simp only [Act.put, List.setIfInBounds_toArray, List.set_cons_zero, List.set_cons_succ, i64_w, i32_w]
                            rfl
                          refine pure_ (i := 7) (N := some 88) (v := undef) (a' := ?_) #[true, true, true, true, true, true, true, true, false, false, false, false, false, false, false, false, false, false, false] rfl rfl (any_of HT_.out (by kernel_rfl)) (fun _ _ _ h => h) (Or.inr ⟨by rfl, rfl⟩) ?_ ?_
                          rotate_left
                          · simp only [Act.put, List.setIfInBounds_toArray, List.set_cons_zero, List.set_cons_succ, i64_w, i32_w]
                            rfl
                          refine pure_ (i := 8) (N := some 89) (v := undef) (a' := ?_) #[true, true, true, true, true, true, true, true, true, false, false, false, false, false, false, false, false, false, false] rfl rfl (any_of HT_.out (by kernel_rfl)) (fun _ _ _ h => h) (Or.inr ⟨by rfl, rfl⟩) ?_ ?_
                          rotate_left
                          · simp only [Act.put, List.setIfInBounds_toArray, List.set_cons_zero, List.set_cons_succ, i64_w, i32_w]
                            rfl
                          refine pure_ (i := 9) (N := some 90) (v := undef) (a' := ?_) #[true, true, true, true, true, true, true, true, true, true, false, false, false, false, false, false, false, false, false] rfl rfl (any_of HT_.out (by kernel_rfl)) (fun _ _ _ h => h) (Or.inr ⟨by rfl, rfl⟩) ?_ ?_
                          rotate_left
                          · simp only [Act.put, List.setIfInBounds_toArray, List.set_cons_zero, List.set_cons_succ, i64_w, i32_w]
                            rfl
                          refine pure_ (i := 10) (N := some 91) (v := undef) (a' := ?_) #[true, true, true, true, true, true, true, true, true, true, true, false, false, false, false, false, false, false, false] rfl rfl (any_of HT_.out (by kernel_rfl)) (fun _ _ _ h => h) (Or.inr ⟨by rfl, rfl⟩) ?_ ?_
                          rotate_left
                          · simp only [Act.put, List.setIfInBounds_toArray, List.set_cons_zero, List.set_cons_succ, i64_w, i32_w]
                            rfl
                          refine pure_ (i := 11) (N := some 92) (v := undef) (a' := ?_) #[true, true, true, true, true, true, true, true, true, true, true, true, false, false, false, false, false, false, false] rfl rfl (any_of HT_.out (by kernel_rfl)) (fun _ _ _ h => h) (Or.inr ⟨by rfl, rfl⟩) ?_ ?_
                          rotate_left
                          · simp only [Act.put, List.setIfInBounds_toArray, List.set_cons_zero, List.set_cons_succ, i64_w, i32_w]
                            rfl
                          refine pure_ (i := 12) (N := some 93) (v := undef) (a' := ?_) #[true, true, true, true, true, true, true, true, true, true, true, true, true, false, false, false, false, false, false] rfl rfl (any_of HT_.out (by kernel_rfl)) (fun _ _ _ h => h) (Or.inr ⟨by rfl, rfl⟩) ?_ ?_
                          rotate_left
                          · simp only [Act.put, List.setIfInBounds_toArray, List.set_cons_zero, List.set_cons_succ, i64_w, i32_w]
                            rfl
                          refine pure_ (i := 13) (N := some 94) (v := undef) (a' := ?_) #[true, true, true, true, true, true, true, true, true, true, true, true, true, true, false, false, false, false, false] rfl rfl (any_of HT_.out (by kernel_rfl)) (fun _ _ _ h => h) (Or.inr ⟨by rfl, rfl⟩) ?_ ?_
                          rotate_left
                          · simp only [Act.put, List.setIfInBounds_toArray, List.set_cons_zero, List.set_cons_succ, i64_w, i32_w]
                            rfl
                          refine pure_ (i := 14) (N := some 95) (v := undef) (a' := ?_) #[true, true, true, true, true, true, true, true, true, true, true, true, true, true, true, false, false, false, false] rfl rfl (any_of HT_.out (by kernel_rfl)) (fun _ _ _ h => h) (Or.inr ⟨by rfl, rfl⟩) ?_ ?_
                          rotate_left
                          · simp only [Act.put, List.setIfInBounds_toArray, List.set_cons_zero, List.set_cons_succ, i64_w, i32_w]
                            rfl
                          refine pure_ (i := 15) (N := some 96) (v := undef) (a' := ?_) #[true, true, true, true, true, true, true, true, true, true, true, true, true, true, true, true, false, false, false] rfl rfl (any_of HT_.out (by kernel_rfl)) (fun _ _ _ h => h) (Or.inr ⟨by rfl, rfl⟩) ?_ ?_
                          rotate_left
                          · simp only [Act.put, List.setIfInBounds_toArray, List.set_cons_zero, List.set_cons_succ, i64_w, i32_w]
                            rfl
                          refine pure_ (i := 16) (N := some 97) (v := undef) (a' := ?_) #[true, true, true, true, true, true, true, true, true, true, true, true, true, true, true, true, true, false, false] rfl rfl (any_of HT_.out (by kernel_rfl)) (fun _ _ _ h => h) (Or.inr ⟨by rfl, rfl⟩) ?_ ?_
                          rotate_left
                          · simp only [Act.put, List.setIfInBounds_toArray, List.set_cons_zero, List.set_cons_succ, i64_w, i32_w]
                            rfl
                          refine pure_ (i := 17) (N := some 98) (v := undef) (a' := ?_) #[true, true, true, true, true, true, true, true, true, true, true, true, true, true, true, true, true, true, false] rfl rfl (any_of HT_.out (by kernel_rfl)) (fun _ _ _ h => h) (Or.inr ⟨by rfl, rfl⟩) ?_ ?_
                          rotate_left
                          · simp only [Act.put, List.setIfInBounds_toArray, List.set_cons_zero, List.set_cons_succ, i64_w, i32_w]
                            rfl
                          refine pure_ (i := 18) (N := some 99) (v := ?_) (a' := ?_) #[true, true, true, true, true, true, true, true, true, true, true, true, true, true, true, true, true, true, true] rfl rfl (any_of HT_.out (by kernel_rfl)) (fun _ _ _ h => h) (Or.inl ⟨by rfl, ?_⟩) ?_ ?_
                          rotate_left
                          · intro w'
                            go_simp
                            with_reducible rfl
                          rotate_left
                          · simp only [Act.put, List.setIfInBounds_toArray, List.set_cons_zero, List.set_cons_succ, i64_w, i32_w]
                            rfl
                          refine done_ (done_of HT_.out (by kernel_rfl)) ?_
                          try go_wp2
                          go_roundg k1
                          case measure => have := HK1.out; omega
                          case rel => exact ⟨(wrap64 (x16_1 + 1)), (by first | rfl | (simp; done) | (simp [*]; done)), H', ⟨by have := HK1.out; omega⟩, ⟨by (with_reducible repeat (first | apply Kd.R_alloc | apply Kd.R_drewN | apply Kd.R_drew)); exact HO_3.out⟩, ⟨by (with_reducible repeat (first | apply Kd.R_alloc | apply Kd.R_drewN | apply Kd.R_drew)); exact HO_4.out⟩, ⟨by (with_reducible repeat (first | apply Kd.R_alloc | apply Kd.R_drewN | apply Kd.R_drew)); exact HO_245000.out⟩, ⟨by (with_reducible repeat (first | apply Kd.R_alloc | apply Kd.R_drewN | apply Kd.R_drew)); exact HO_251000.out⟩, ⟨by (with_reducible repeat (first | apply Kd.R_alloc | apply Kd.R_drewN | apply Kd.R_drew)); exact HO_258000.out⟩, ⟨by (with_reducible repeat (first | refine blk_drewN ?_ _ | refine blk_drew ?_ | refine blk_alloc ?_ _)); exact BK236.out⟩, ⟨by (with_reducible repeat (first | refine blk_drewN ?_ _ | refine blk_drew ?_ | refine blk_alloc ?_ _)); exact BK244.out⟩, ⟨by (with_reducible repeat (first | refine blk_drewN ?_ _ | refine blk_drew ?_ | refine blk_alloc ?_ _)); exact BK250.out⟩, ⟨by (with_reducible repeat (first | refine blk_drewN ?_ _ | refine blk_drew ?_ | refine blk_alloc ?_ _)); exact BK257.out⟩, ⟨by repeat (first | (with_reducible first | exact HB.out | apply below_alloc | apply pw_below_drewN | apply below_drew1 | refine below_set ?_ GE236.out | refine below_set ?_ GE244.out | refine below_set ?_ GE250.out | refine below_set ?_ GE257.out) | exact HB.out)⟩⟩
                        · rw [if_neg c60] at H
                          have c60b0 : (x16_1 == (wrap64 (((rd_T32 t228 (ji8)).f0) + (Int.tmod (rd t231 1) ((rd_T32 t228 (ji8)).f1))))) = false := beq_eq_false_iff_ne.mpr c60
                          have c60b1 : (x16_1 != (wrap64 (((rd_T32 t228 (ji8)).f0) + (Int.tmod (rd t231 1) ((rd_T32 t228 (ji8)).f1))))) = true := bne_iff_ne.mpr c60
                          by_cases c62 : 0 ≤ x16_1
                          · rw [if_pos c62] at H
                            have c62b0 : decide (0 ≤ x16_1) = true := decide_eq_true c62
                            clear c62
                            by_cases c63 : x16_1 < (t246.length : Int)
                            · rw [if_pos c63] at H
                              have c63b0 : decide (x16_1 < (t246.length : Int)) = true := decide_eq_true c63
                              clear c63
                              by_cases c64 : x16_1 < (t241.length : Int)
                              · rw [if_pos c64] at H
                                have c64b0 : decide (x16_1 < (t241.length : Int)) = true := decide_eq_true c64
                                clear c64
                                by_cases c65 : (rd t246 x16_1) = (rd t241 x16_1)
                                · rw [if_pos c65] at H
                                  have c65b0 : ((rd t246 x16_1) == (rd t241 x16_1)) = true := beq_iff_eq.mpr c65
                                  have c65b1 : ((rd t246 x16_1) != (rd t241 x16_1)) = false := bne_eq_false_iff_eq.mpr c65
                                  clear c65
                                  have H' := Aside0.mk H
                                  clear H
                                  try go_wp2
                                  have n0_ := Aside0.mk (Kd.R_drew HO_3.out)
                                  have n1_ := Aside0.mk (Kd.R_drew HO_4.out)
                                  have n2_ := Aside0.mk (Kd.R_drew HO_245000.out)
                                  have n3_ := Aside0.mk (Kd.R_drew HO_251000.out)
                                  have n4_ := Aside0.mk (Kd.R_drew HO_258000.out)
                                  have n5_ := Aside0.mk (blk_drew BK236.out)
                                  have n6_ := Aside0.mk (blk_drew BK244.out)
                                  have n7_ := Aside0.mk (blk_drew BK250.out)
                                  have n8_ := Aside0.mk (blk_drew BK257.out)
                                  have n9_ := Aside0.mk (below_drew1 HB.out)
                                  clear HO_3
                                  clear HO_4
                                  clear HO_245000
                                  clear HO_251000
                                  clear HO_258000
                                  clear BK236
                                  clear BK244
                                  clear BK250
                                  clear BK257
                                  clear HB
                                  have HO_3 := n0_
                                  have HO_4 := n1_
                                  have HO_245000 := n2_
                                  have HO_251000 := n3_
                                  have HO_258000 := n4_
                                  have BK236 := n5_
                                  have BK244 := n6_
                                  have BK250 := n7_
                                  have BK257 := n8_
                                  have HB := n9_
                                  clear n0_ n1_ n2_ n3_ n4_ n5_ n6_ n7_ n8_ n9_
                                  have p260 : 0 ≤ (x16_1 : Int) := of_decide_eq_true (by first | (with_reducible assumption) | assumption)
                                  have q260 : x16_1 < (t246.length : Int) := of_decide_eq_true (by first | (with_reducible assumption) | assumption)
                                  obtain ⟨ad260, e260, hx260_0⟩ := Kd.at_int (Kd.R_reads' HO_251000.out).2.2 x16_1 p260 q260
                                  cases e260
                                  replace p260 := eq_true p260
                                  replace q260 := eq_true q260
                                  have p261 : 0 ≤ (x16_1 : Int) := of_decide_eq_true (by first | (with_reducible assumption) | assumption)
                                  have q261 : x16_1 < (t241.length : Int) := of_decide_eq_true (by first | (with_reducible assumption) | assumption)
                                  obtain ⟨ad261, e261, hx261_0⟩ := Kd.at_int (Kd.R_reads' HO_245000.out).2.2 x16_1 p261 q261
                                  cases e261
                                  replace p261 := eq_true p261
                                  replace q261 := eq_true q261
                                  refine start_ (n := 19) (S := fun w' => w'.cell? ⟨gb236, 0, none⟩ = some (.int .i64 ((rd_T32 t228 (ji8)).f0)) ∧ w'.cell? ⟨gb236, 1, none⟩ = some (.int .i64 ((rd_T32 t228 (ji8)).f1)) ∧ w'.cell? ⟨gb250, 0, none⟩ = some (.slice (some ad260) t246.length co40) ∧ w'.cell? ⟨gb244, 0, none⟩ = some (.slice (some ad261) t241.length co32) ∧ w'.cell? (ad260.add (x16_1).toNat) = some (.int .i64 (rd t246 x16_1)) ∧ w'.cell? (ad261.add (x16_1).toNat) = some (.int .i64 (rd t241 x16_1))) (ds := []) #[false, false, false, false, false, false, false, false, false, false, false, false, false, false, false, false, false, false, false] (by kernel_rfl) rfl rfl ⟨(blk_cell BK236.out 0).trans rfl, (blk_cell BK236.out 1).trans rfl, (blk_cell BK250.out 0).trans rfl, (blk_cell BK244.out 0).trans rfl, hx260_0, hx261_0⟩ (fun hHeld => ?_); refine with_tabW laws_FnStores.tab15 laws_FnStores.bits15 (fun HT_ HW_ => ?_)
                                  generalize wr.drew = w66 at HO_3 HO_4 HO_245000 HO_251000 HO_258000 BK236 BK244 BK250 BK257 HB hx260_0 hx261_0 hHeld ⊢
                                  refine pure_ (i := 0) (N := some 81) (v := ?_) (a' := ?_) #[true, false, false, false, false, false, false, false, false, false, false, false, false, false, false, false, false, false, false] rfl rfl (any_of HT_.out (by kernel_rfl)) (fun _ _ _ h => h) (Or.inl ⟨by rfl, ?_⟩) ?_ ?_
                                  rotate_left
                                  · intro w'
                                    go_simp
                                    with_reducible rfl
                                  rotate_left
                                  · simp only [Act.put, List.setIfInBounds_toArray, List.set_cons_zero, List.set_cons_succ, i64_w, i32_w]
                                    rfl
                                  refine pure_ (i := 1) (N := some 82) (v := ?_) (a' := ?_) #[true, true, false, false, false, false, false, false, false, false, false, false, false, false, false, false, false, false, false] rfl rfl (any_of HT_.out (by kernel_rfl)) (fun _ _ _ h => h) (Or.inl ⟨by rfl, ?_⟩) ?_ ?_
                                  rotate_left
                                  · intro w'
                                    go_simp
                                    with_reducible rfl
                                  rotate_left
                                  · simp only [Act.put, List.setIfInBounds_toArray, List.set_cons_zero, List.set_cons_succ, i64_w, i32_w]
                                    rfl
                                  refine pure_ (i := 3) (N := some 84) (v := ?_) (a' := ?_) #[true, true, false, true, false, false, false, false, false, false, false, false, false, false, false, false, false, false, false] rfl rfl (any_of HT_.out (by kernel_rfl)) (fun _ _ _ h => h) (Or.inl ⟨by rfl, ?_⟩) ?_ ?_
                                  rotate_left
                                  · intro w'
                                    go_simp
                                    with_reducible rfl
                                  rotate_left
                                  · simp only [Act.put, List.setIfInBounds_toArray, List.set_cons_zero, List.set_cons_succ, i64_w, i32_w]
                                    rfl
                                  refine take_ (i := 2) (N := some 83) (v := ?_) (a' := ?_) #[true, true, true, true, false, false, false, false, false, false, false, false, false, false, false, false, false, false, false] rfl rfl (take_ofW HT_.out HW_.out (by kernel_rfl)) (fun _ _ _ h => h) (Or.inl ⟨by rfl, ?_⟩) hHeld ?_ ?_
                                  rotate_left
                                  · rintro w' ⟨s0, s1, s2, s3, s4, s5⟩
                                    go_simp
                                    with_reducible rfl
                                  rotate_left
                                  · simp only [Act.put, List.setIfInBounds_toArray, List.set_cons_zero, List.set_cons_succ, i64_w, i32_w]
                                    rfl
                                  refine pure_ (i := 4) (N := some 85) (v := ?_) (a' := ?_) #[true, true, true, true, true, false, false, false, false, false, false, false, false, false, false, false, false, false, false] rfl rfl (any_of HT_.out (by kernel_rfl)) (fun _ _ _ h => h) (Or.inl ⟨by rfl, ?_⟩) ?_ ?_
                                  rotate_left
                                  · intro w'
                                    go_simp
                                    with_reducible rfl
                                  rotate_left
                                  · simp only [Act.put, List.setIfInBounds_toArray, List.set_cons_zero, List.set_cons_succ, i64_w, i32_w]
                                    rfl
                                  refine pure_ (i := 5) (N := some 86) (v := ?_) (a' := ?_) #[true, true, true, true, true, true, false, false, false, false, false, false, false, false, false, false, false, false, false] rfl rfl (any_of HT_.out (by kernel_rfl)) (fun _ _ _ h => h) (Or.inl ⟨by rfl, ?_⟩) ?_ ?_
                                  rotate_left
                                  · intro w'
                                    go_simp
                                    with_reducible rfl
                                  rotate_left
                                  · simp only [Act.put, List.setIfInBounds_toArray, List.set_cons_zero, List.set_cons_succ, i64_w, i32_w]
                                    rfl
                                  refine pure_ (i := 6) (N := some 87) (v := ?_) (a' := ?_) #[true, true, true, true, true, true, true, false, false, false, false, false, false, false, false, false, false, false, false] rfl rfl (any_of HT_.out (by kernel_rfl)) (fun _ _ _ h => h) (Or.inl ⟨by rfl, ?_⟩) ?_ ?_
                                  rotate_left
                                  · intro w'
                                    go_simp
                                    with_reducible rfl
                                  rotate_left
                                  · simp only [Act.put, List.setIfInBounds_toArray, List.set_cons_zero, List.set_cons_succ, i64_w, i32_w]
                                    rfl
                                  refine pure_ (i := 7) (N := some 88) (v := ?_) (a' := ?_) #[true, true, true, true, true, true, true, true, false, false, false, false, false, false, false, false, false, false, false] rfl rfl (any_of HT_.out (by kernel_rfl)) (fun _ _ _ h => h) (Or.inl ⟨by rfl, ?_⟩) ?_ ?_
                                  rotate_left
                                  · intro w'
                                    go_simp
                                    with_reducible rfl
                                  rotate_left
                                  · simp only [Act.put, List.setIfInBounds_toArray, List.set_cons_zero, List.set_cons_succ, i64_w, i32_w]
                                    rfl
                                  refine pure_ (i := 9) (N := some 90) (v := ?_) (a' := ?_) #[true, true, true, true, true, true, true, true, false, true, false, false, false, false, false, false, false, false, false] rfl rfl (any_of HT_.out (by kernel_rfl)) (fun _ _ _ h => h) (Or.inl ⟨by rfl, ?_⟩) ?_ ?_
                                  rotate_left
                                  · intro w'
                                    go_simp
                                    with_reducible rfl
                                  rotate_left
                                  · simp only [Act.put, List.setIfInBounds_toArray, List.set_cons_zero, List.set_cons_succ, i64_w, i32_w]
                                    rfl
                                  refine pure_ (i := 12) (N := some 93) (v := ?_) (a' := ?_) #[true, true, true, true, true, true, true, true, false, true, false, false, true, false, false, false, false, false, false] rfl rfl (any_of HT_.out (by kernel_rfl)) (fun _ _ _ h => h) (Or.inl ⟨by rfl, ?_⟩) ?_ ?_
                                  rotate_left
                                  · intro w'
                                    go_simp
                                    with_reducible rfl
                                  rotate_left
                                  · simp only [Act.put, List.setIfInBounds_toArray, List.set_cons_zero, List.set_cons_succ, i64_w, i32_w]
                                    rfl
                                  refine pure_ (i := 14) (N := some 95) (v := ?_) (a' := ?_) #[true, true, true, true, true, true, true, true, false, true, false, false, true, false, true, false, false, false, false] rfl rfl (any_of HT_.out (by kernel_rfl)) (fun _ _ _ h => h) (Or.inl ⟨by rfl, ?_⟩) ?_ ?_
                                  rotate_left
                                  · intro w'
                                    go_simp
                                    with_reducible rfl
                                  rotate_left
                                  · simp only [Act.put, List.setIfInBounds_toArray, List.set_cons_zero, List.set_cons_succ, i64_w, i32_w]
                                    rfl
                                  refine take_ (i := 8) (N := some 89) (v := ?_) (a' := ?_) #[true, true, true, true, true, true, true, true, true, true, false, false, true, false, true, false, false, false, false] rfl rfl (take_ofW HT_.out HW_.out (by kernel_rfl)) (fun _ _ _ h => h) (Or.inl ⟨by rfl, ?_⟩) hHeld ?_ ?_
                                  rotate_left
                                  · rintro w' ⟨s0, s1, s2, s3, s4, s5⟩
                                    go_simp
                                    with_reducible rfl
                                  rotate_left
                                  · simp only [Act.put, List.setIfInBounds_toArray, List.set_cons_zero, List.set_cons_succ, i64_w, i32_w]
                                    rfl
                                  refine pure_ (i := 10) (N := some 91) (v := ?_) (a' := ?_) #[true, true, true, true, true, true, true, true, true, true, true, false, true, false, true, false, false, false, false] rfl rfl (any_of HT_.out (by kernel_rfl)) (fun _ _ _ h => h) (Or.inl ⟨by rfl, ?_⟩) ?_ ?_
                                  rotate_left
                                  · intro w'
                                    go_simp
                                    with_reducible rfl
                                  rotate_left
                                  · simp only [Act.put, List.setIfInBounds_toArray, List.set_cons_zero, List.set_cons_succ, i64_w, i32_w]
                                    rfl
                                  refine take_ (i := 11) (N := some 92) (v := ?_) (a' := ?_) #[true, true, true, true, true, true, true, true, true, true, true, true, true, false, true, false, false, false, false] rfl rfl (take_ofW HT_.out HW_.out (by kernel_rfl)) (fun _ _ _ h => h) (Or.inl ⟨by rfl, ?_⟩) hHeld ?_ ?_
                                  rotate_left
                                  · rintro w' ⟨s0, s1, s2, s3, s4, s5⟩
                                    go_simp
                                    with_reducible rfl
                                  rotate_left
                                  · simp only [Act.put, List.setIfInBounds_toArray, List.set_cons_zero, List.set_cons_succ, i64_w, i32_w]
                                    rfl
                                  refine take_ (i := 13) (N := some 94) (v := ?_) (a' := ?_) #[true, true, true, true, true, true, true, true, true, true, true, true, true, true, true, false, false, false, false] rfl rfl (take_ofW HT_.out HW_.out (by kernel_rfl)) (fun _ _ _ h => h) (Or.inl ⟨by rfl, ?_⟩) hHeld ?_ ?_
                                  rotate_left
                                  · rintro w' ⟨s0, s1, s2, s3, s4, s5⟩
                                    go_simp
                                    with_reducible rfl
                                  rotate_left
                                  · simp only [Act.put, List.setIfInBounds_toArray, List.set_cons_zero, List.set_cons_succ, i64_w, i32_w]
                                    rfl
                                  refine pure_ (i := 15) (N := some 96) (v := ?_) (a' := ?_) #[true, true, true, true, true, true, true, true, true, true, true, true, true, true, true, true, false, false, false] rfl rfl (any_of HT_.out (by kernel_rfl)) (fun _ _ _ h => h) (Or.inl ⟨by rfl, ?_⟩) ?_ ?_
                                  rotate_left
                                  · intro w'
                                    go_simp
                                    with_reducible rfl
                                  rotate_left
                                  · simp only [Act.put, List.setIfInBounds_toArray, List.set_cons_zero, List.set_cons_succ, i64_w, i32_w]
                                    rfl
                                  refine take_ (i := 16) (N := some 97) (v := ?_) (a' := ?_) #[true, true, true, true, true, true, true, true, true, true, true, true, true, true, true, true, true, false, false] rfl rfl (take_ofW HT_.out HW_.out (by kernel_rfl)) (fun _ _ _ h => h) (Or.inl ⟨by rfl, ?_⟩) hHeld ?_ ?_
                                  rotate_left
                                  · rintro w' ⟨s0, s1, s2, s3, s4, s5⟩
                                    go_simp
                                    with_reducible rfl
                                  rotate_left
                                  · simp only [Act.put, List.setIfInBounds_toArray, List.set_cons_zero, List.set_cons_succ, i64_w, i32_w]
                                    rfl
                                  refine pure_ (i := 17) (N := some 98) (v := ?_) (a' := ?_) #[true, true, true, true, true, true, true, true, true, true, true, true, true, true, true, true, true, true, false] rfl rfl (any_of HT_.out (by kernel_rfl)) (fun _ _ _ h => h) (Or.inl ⟨by rfl, ?_⟩) ?_ ?_
                                  rotate_left
                                  · intro w'
                                    go_simp
                                    with_reducible rfl
                                  rotate_left
                                  · simp only [Act.put, List.setIfInBounds_toArray, List.set_cons_zero, List.set_cons_succ, i64_w, i32_w]
                                    rfl
                                  refine pure_ (i := 18) (N := some 99) (v := ?_) (a' := ?_) #[true, true, true, true, true, true, true, true, true, true, true, true, true, true, true, true, true, true, true] rfl rfl (any_of HT_.out (by kernel_rfl)) (fun _ _ _ h => h) (Or.inl ⟨by rfl, ?_⟩) ?_ ?_
                                  rotate_left
                                  · intro w'
                                    go_simp
                                    with_reducible rfl
                                  rotate_left
                                  · simp only [Act.put, List.setIfInBounds_toArray, List.set_cons_zero, List.set_cons_succ, i64_w, i32_w]
                                    rfl
                                  refine done_ (done_of HT_.out (by kernel_rfl)) ?_
                                  try go_wp2
                                  go_roundg k1
                                  case measure => have := HK1.out; omega
                                  case rel => exact ⟨(wrap64 (x16_1 + 1)), (by first | rfl | (simp; done) | (simp [*]; done)), H', ⟨by have := HK1.out; omega⟩, ⟨by (with_reducible repeat (first | apply Kd.R_alloc | apply Kd.R_drewN | apply Kd.R_drew)); exact HO_3.out⟩, ⟨by (with_reducible repeat (first | apply Kd.R_alloc | apply Kd.R_drewN | apply Kd.R_drew)); exact HO_4.out⟩, ⟨by (with_reducible repeat (first | apply Kd.R_alloc | apply Kd.R_drewN | apply Kd.R_drew)); exact HO_245000.out⟩, ⟨by (with_reducible repeat (first | apply Kd.R_alloc | apply Kd.R_drewN | apply Kd.R_drew)); exact HO_251000.out⟩, ⟨by (with_reducible repeat (first | apply Kd.R_alloc | apply Kd.R_drewN | apply Kd.R_drew)); exact HO_258000.out⟩, ⟨by (with_reducible repeat (first | refine blk_drewN ?_ _ | refine blk_drew ?_ | refine blk_alloc ?_ _)); exact BK236.out⟩, ⟨by (with_reducible repeat (first | refine blk_drewN ?_ _ | refine blk_drew ?_ | refine blk_alloc ?_ _)); exact BK244.out⟩, ⟨by (with_reducible repeat (first | refine blk_drewN ?_ _ | refine blk_drew ?_ | refine blk_alloc ?_ _)); exact BK250.out⟩, ⟨by (with_reducible repeat (first | refine blk_drewN ?_ _ | refine blk_drew ?_ | refine blk_alloc ?_ _)); exact BK257.out⟩, ⟨by repeat (first | (with_reducible first | exact HB.out | apply below_alloc | apply pw_below_drewN | apply below_drew1 | refine below_set ?_ GE236.out | refine below_set ?_ GE244.out | refine below_set ?_ GE250.out | refine below_set ?_ GE257.out) | exact HB.out)⟩⟩
                                · rw [if_neg c65] at H
                                  have c65b0 : ((rd t246 x16_1) == (rd t241 x16_1)) = false := beq_eq_false_iff_ne.mpr c65
                                  have c65b1 : ((rd t246 x16_1) != (rd t241 x16_1)) = true := bne_iff_ne.mpr c65
                                  obtain rfl := Option.some.inj H
                                  try go_wp2
                                  have n0_ := Aside0.mk (Kd.R_drew HO_3.out)
                                  have n1_ := Aside0.mk (Kd.R_drew HO_4.out)
                                  have n2_ := Aside0.mk (Kd.R_drew HO_245000.out)
                                  have n3_ := Aside0.mk (Kd.R_drew HO_251000.out)
                                  have n4_ := Aside0.mk (Kd.R_drew HO_258000.out)
                                  have n5_ := Aside0.mk (blk_drew BK236.out)
                                  have n6_ := Aside0.mk (blk_drew BK244.out)
                                  have n7_ := Aside0.mk (blk_drew BK250.out)
                                  have n8_ := Aside0.mk (blk_drew BK257.out)
                                  have n9_ := Aside0.mk (below_drew1 HB.out)
                                  clear HO_3
                                  clear HO_4
                                  clear HO_245000
                                  clear HO_251000
                                  clear HO_258000
                                  clear BK236
                                  clear BK244
                                  clear BK250
                                  clear BK257
                                  clear HB
                                  have HO_3 := n0_
                                  have HO_4 := n1_
                                  have HO_245000 := n2_
                                  have HO_251000 := n3_
                                  have HO_258000 := n4_
                                  have BK236 := n5_
                                  have BK244 := n6_
                                  have BK250 := n7_
                                  have BK257 := n8_
                                  have HB := n9_
                                  clear n0_ n1_ n2_ n3_ n4_ n5_ n6_ n7_ n8_ n9_
                                  have p260 : 0 ≤ (x16_1 : Int) := of_decide_eq_true (by first | (with_reducible assumption) | assumption)
                                  have q260 : x16_1 < (t246.length : Int) := of_decide_eq_true (by first | (with_reducible assumption) | assumption)
                                  obtain ⟨ad260, e260, hx260_0⟩ := Kd.at_int (Kd.R_reads' HO_251000.out).2.2 x16_1 p260 q260
                                  cases e260
                                  replace p260 := eq_true p260
                                  replace q260 := eq_true q260
                                  have p261 : 0 ≤ (x16_1 : Int) := of_decide_eq_true (by first | (with_reducible assumption) | assumption)
                                  have q261 : x16_1 < (t241.length : Int) := of_decide_eq_true (by first | (with_reducible assumption) | assumption)
                                  obtain ⟨ad261, e261, hx261_0⟩ := Kd.at_int (Kd.R_reads' HO_245000.out).2.2 x16_1 p261 q261
                                  cases e261
                                  replace p261 := eq_true p261
                                  replace q261 := eq_true q261
                                  refine start_ (n := 19) (S := fun w' => w'.cell? ⟨gb236, 0, none⟩ = some (.int .i64 ((rd_T32 t228 (ji8)).f0)) ∧ w'.cell? ⟨gb236, 1, none⟩ = some (.int .i64 ((rd_T32 t228 (ji8)).f1)) ∧ w'.cell? ⟨gb250, 0, none⟩ = some (.slice (some ad260) t246.length co40) ∧ w'.cell? ⟨gb244, 0, none⟩ = some (.slice (some ad261) t241.length co32) ∧ w'.cell? (ad260.add (x16_1).toNat) = some (.int .i64 (rd t246 x16_1)) ∧ w'.cell? (ad261.add (x16_1).toNat) = some (.int .i64 (rd t241 x16_1))) (ds := []) #[false, false, false, false, false, false, false, false, false, false, false, false, false, false, false, false, false, false, false] (by kernel_rfl) rfl rfl ⟨(blk_cell BK236.out 0).trans rfl, (blk_cell BK236.out 1).trans rfl, (blk_cell BK250.out 0).trans rfl, (blk_cell BK244.out 0).trans rfl, hx260_0, hx261_0⟩ (fun hHeld => ?_); refine with_tabW laws_FnStores.tab15 laws_FnStores.bits15 (fun HT_ HW_ => ?_)
                                  generalize wr.drew = w67 at HO_3 HO_4 HO_245000 HO_251000 HO_258000 BK236 BK244 BK250 BK257 HB hx260_0 hx261_0 hHeld ⊢
                                  refine pure_ (i := 0) (N := some 81) (v := ?_) (a' := ?_) #[true, false, false, false, false, false, false, false, false, false, false, false, false, false, false, false, false, false, false] rfl rfl (any_of HT_.out (by kernel_rfl)) (fun _ _ _ h => h) (Or.inl ⟨by rfl, ?_⟩) ?_ ?_
                                  rotate_left
                                  · intro w'
                                    go_simp
                                    with_reducible rfl
                                  rotate_left
                                  · simp only [Act.put, List.setIfInBounds_toArray, List.set_cons_zero, List.set_cons_succ, i64_w, i32_w]
                                    rfl
                                  refine pure_ (i := 1) (N := some 82) (v := ?_) (a' := ?_) #[true, true, false, false, false, false, false, false, false, false, false, false, false, false, false, false, false, false, false] rfl rfl (any_of HT_.out (by kernel_rfl)) (fun _ _ _ h => h) (Or.inl ⟨by rfl, ?_⟩) ?_ ?_
                                  rotate_left
                                  · intro w'
                                    go_simp
                                    with_reducible rfl
                                  rotate_left
                                  · simp only [Act.put, List.setIfInBounds_toArray, List.set_cons_zero, List.set_cons_succ, i64_w, i32_w]
                                    rfl
                                  refine pure_ (i := 3) (N := some 84) (v := ?_) (a' := ?_) #[true, true, false, true, false, false, false, false, false, false, false, false, false, false, false, false, false, false, false] rfl rfl (any_of HT_.out (by kernel_rfl)) (fun _ _ _ h => h) (Or.inl ⟨by rfl, ?_⟩) ?_ ?_
                                  rotate_left
                                  · intro w'
                                    go_simp
                                    with_reducible rfl
                                  rotate_left
                                  · simp only [Act.put, List.setIfInBounds_toArray, List.set_cons_zero, List.set_cons_succ, i64_w, i32_w]
                                    rfl
                                  refine take_ (i := 2) (N := some 83) (v := ?_) (a' := ?_) #[true, true, true, true, false, false, false, false, false, false, false, false, false, false, false, false, false, false, false] rfl rfl (take_ofW HT_.out HW_.out (by kernel_rfl)) (fun _ _ _ h => h) (Or.inl ⟨by rfl, ?_⟩) hHeld ?_ ?_
                                  rotate_left
                                  · rintro w' ⟨s0, s1, s2, s3, s4, s5⟩
                                    go_simp
                                    with_reducible rfl
                                  rotate_left
                                  · simp only [Act.put, List.setIfInBounds_toArray, List.set_cons_zero, List.set_cons_succ, i64_w, i32_w]
                                    rfl
                                  refine pure_ (i := 4) (N := some 85) (v := ?_) (a' := ?_) #[true, true, true, true, true, false, false, false, false, false, false, false, false, false, false, false, false, false, false] rfl rfl (any_of HT_.out (by kernel_rfl)) (fun _ _ _ h => h) (Or.inl ⟨by rfl, ?_⟩) ?_ ?_
                                  rotate_left
                                  · intro w'
                                    go_simp
                                    with_reducible rfl
                                  rotate_left
                                  · simp only [Act.put, List.setIfInBounds_toArray, List.set_cons_zero, List.set_cons_succ, i64_w, i32_w]
                                    rfl
                                  refine pure_ (i := 5) (N := some 86) (v := ?_) (a' := ?_) #[true, true, true, true, true, true, false, false, false, false, false, false, false, false, false, false, false, false, false] rfl rfl (any_of HT_.out (by kernel_rfl)) (fun _ _ _ h => h) (Or.inl ⟨by rfl, ?_⟩) ?_ ?_
                                  rotate_left
                                  · intro w'
                                    go_simp
                                    with_reducible rfl
                                  rotate_left
                                  · simp only [Act.put, List.setIfInBounds_toArray, List.set_cons_zero, List.set_cons_succ, i64_w, i32_w]
                                    rfl
                                  refine pure_ (i := 6) (N := some 87) (v := ?_) (a' := ?_) #[true, true, true, true, true, true, true, false, false, false, false, false, false, false, false, false, false, false, false] rfl rfl (any_of HT_.out (by kernel_rfl)) (fun _ _ _ h => h) (Or.inl ⟨by rfl, ?_⟩) ?_ ?_
                                  rotate_left
                                  · intro w'
                                    go_simp
                                    with_reducible rfl
                                  rotate_left
                                  · simp only [Act.put, List.setIfInBounds_toArray, List.set_cons_zero, List.set_cons_succ, i64_w, i32_w]
                                    rfl
                                  refine pure_ (i := 7) (N := some 88) (v := ?_) (a' := ?_) #[true, true, true, true, true, true, true, true, false, false, false, false, false, false, false, false, false, false, false] rfl rfl (any_of HT_.out (by kernel_rfl)) (fun _ _ _ h => h) (Or.inl ⟨by rfl, ?_⟩) ?_ ?_
                                  rotate_left
                                  · intro w'
                                    go_simp
                                    with_reducible rfl
                                  rotate_left
                                  · simp only [Act.put, List.setIfInBounds_toArray, List.set_cons_zero, List.set_cons_succ, i64_w, i32_w]
                                    rfl
                                  refine pure_ (i := 9) (N := some 90) (v := ?_) (a' := ?_) #[true, true, true, true, true, true, true, true, false, true, false, false, false, false, false, false, false, false, false] rfl rfl (any_of HT_.out (by kernel_rfl)) (fun _ _ _ h => h) (Or.inl ⟨by rfl, ?_⟩) ?_ ?_
                                  rotate_left
                                  · intro w'
                                    go_simp
                                    with_reducible rfl
                                  rotate_left
                                  · simp only [Act.put, List.setIfInBounds_toArray, List.set_cons_zero, List.set_cons_succ, i64_w, i32_w]
                                    rfl
                                  refine pure_ (i := 12) (N := some 93) (v := ?_) (a' := ?_) #[true, true, true, true, true, true, true, true, false, true, false, false, true, false, false, false, false, false, false] rfl rfl (any_of HT_.out (by kernel_rfl)) (fun _ _ _ h => h) (Or.inl ⟨by rfl, ?_⟩) ?_ ?_
                                  rotate_left
                                  · intro w'
                                    go_simp
                                    with_reducible rfl
                                  rotate_left
                                  · simp only [Act.put, List.setIfInBounds_toArray, List.set_cons_zero, List.set_cons_succ, i64_w, i32_w]
                                    rfl
                                  refine pure_ (i := 14) (N := some 95) (v := ?_) (a' := ?_) #[true, true, true, true, true, true, true, true, false, true, false, false, true, false, true, false, false, false, false] rfl rfl (any_of HT_.out (by kernel_rfl)) (fun _ _ _ h => h) (Or.inl ⟨by rfl, ?_⟩) ?_ ?_
                                  rotate_left
                                  · intro w'
                                    go_simp
                                    with_reducible rfl
                                  rotate_left
                                  · simp only [Act.put, List.setIfInBounds_toArray, List.set_cons_zero, List.set_cons_succ, i64_w, i32_w]
                                    rfl
                                  refine take_ (i := 8) (N := some 89) (v := ?_) (a' := ?_) #[true, true, true, true, true, true, true, true, true, true, false, false, true, false, true, false, false, false, false] rfl rfl (take_ofW HT_.out HW_.out (by kernel_rfl)) (fun _ _ _ h => h) (Or.inl ⟨by rfl, ?_⟩) hHeld ?_ ?_
                                  rotate_left
                                  · rintro w' ⟨s0, s1, s2, s3, s4, s5⟩
                                    go_simp
                                    with_reducible rfl
                                  rotate_left
                                  · simp only [Act.put, List.setIfInBounds_toArray, List.set_cons_zero, List.set_cons_succ, i64_w, i32_w]
                                    rfl
                                  refine pure_ (i := 10) (N := some 91) (v := ?_) (a' := ?_) #[true, true, true, true, true, true, true, true, true, true, true, false, true, false, true, false, false, false, false] rfl rfl (any_of HT_.out (by kernel_rfl)) (fun _ _ _ h => h) (Or.inl ⟨by rfl, ?_⟩) ?_ ?_
                                  rotate_left
                                  · intro w'
                                    go_simp
                                    with_reducible rfl
                                  rotate_left
                                  · simp only [Act.put, List.setIfInBounds_toArray, List.set_cons_zero, List.set_cons_succ, i64_w, i32_w]
                                    rfl
                                  refine take_ (i := 11) (N := some 92) (v := ?_) (a' := ?_) #[true, true, true, true, true, true, true, true, true, true, true, true, true, false, true, false, false, false, false] rfl rfl (take_ofW HT_.out HW_.out (by kernel_rfl)) (fun _ _ _ h => h) (Or.inl ⟨by rfl, ?_⟩) hHeld ?_ ?_
                                  rotate_left
                                  · rintro w' ⟨s0, s1, s2, s3, s4, s5⟩
                                    go_simp
                                    with_reducible rfl
                                  rotate_left
                                  · simp only [Act.put, List.setIfInBounds_toArray, List.set_cons_zero, List.set_cons_succ, i64_w, i32_w]
                                    rfl
                                  refine take_ (i := 13) (N := some 94) (v := ?_) (a' := ?_) #[true, true, true, true, true, true, true, true, true, true, true, true, true, true, true, false, false, false, false] rfl rfl (take_ofW HT_.out HW_.out (by kernel_rfl)) (fun _ _ _ h => h) (Or.inl ⟨by rfl, ?_⟩) hHeld ?_ ?_
                                  rotate_left
                                  · rintro w' ⟨s0, s1, s2, s3, s4, s5⟩
                                    go_simp
                                    with_reducible rfl
                                  rotate_left
                                  · simp only [Act.put, List.setIfInBounds_toArray, List.set_cons_zero, List.set_cons_succ, i64_w, i32_w]
                                    rfl
                                  refine pure_ (i := 15) (N := some 96) (v := ?_) (a' := ?_) #[true, true, true, true, true, true, true, true, true, true, true, true, true, true, true, true, false, false, false] rfl rfl (any_of HT_.out (by kernel_rfl)) (fun _ _ _ h => h) (Or.inl ⟨by rfl, ?_⟩) ?_ ?_
                                  rotate_left
                                  · intro w'
                                    go_simp
                                    with_reducible rfl
                                  rotate_left
                                  · simp only [Act.put, List.setIfInBounds_toArray, List.set_cons_zero, List.set_cons_succ, i64_w, i32_w]
                                    rfl
                                  refine take_ (i := 16) (N := some 97) (v := ?_) (a' := ?_) #[true, true, true, true, true, true, true, true, true, true, true, true, true, true, true, true, true, false, false] rfl rfl (take_ofW HT_.out HW_.out (by kernel_rfl)) (fun _ _ _ h => h) (Or.inl ⟨by rfl, ?_⟩) hHeld ?_ ?_
                                  rotate_left
                                  · rintro w' ⟨s0, s1, s2, s3, s4, s5⟩
                                    go_simp
                                    with_reducible rfl
                                  rotate_left
                                  · simp only [Act.put, List.setIfInBounds_toArray, List.set_cons_zero, List.set_cons_succ, i64_w, i32_w]
                                    rfl
                                  refine pure_ (i := 17) (N := some 98) (v := ?_) (a' := ?_) #[true, true, true, true, true, true, true, true, true, true, true, true, true, true, true, true, true, true, false] rfl rfl (any_of HT_.out (by kernel_rfl)) (fun _ _ _ h => h) (Or.inl ⟨by rfl, ?_⟩) ?_ ?_
                                  rotate_left
                                  · intro w'
                                    go_simp
                                    with_reducible rfl
                                  rotate_left
                                  · simp only [Act.put, List.setIfInBounds_toArray, List.set_cons_zero, List.set_cons_succ, i64_w, i32_w]
                                    rfl
                                  refine pure_ (i := 18) (N := some 99) (v := ?_) (a' := ?_) #[true, true, true, true, true, true, true, true, true, true, true, true, true, true, true, true, true, true, true] rfl rfl (any_of HT_.out (by kernel_rfl)) (fun _ _ _ h => h) (Or.inl ⟨by rfl, ?_⟩) ?_ ?_
                                  rotate_left
                                  · intro w'
                                    go_simp
                                    with_reducible rfl
                                  rotate_left
                                  · simp only [Act.put, List.setIfInBounds_toArray, List.set_cons_zero, List.set_cons_succ, i64_w, i32_w]
                                    rfl
                                  refine done_ (done_of HT_.out (by kernel_rfl)) ?_
                                  try go_wp2
                                  go_ret
                                  exact ⟨by first | rfl | (simp [errW_none, errW_some] <;> rfl) | (simp only [← hji8]; first | rfl | (simp [errW_none, errW_some] <;> rfl)) | (simp [*, errW_none, errW_some] <;> rfl), by repeat (first | (with_reducible first | exact HB.out | apply below_alloc | apply pw_below_drewN | apply below_drew1 | refine below_set ?_ GE236.out | refine below_set ?_ GE244.out | refine below_set ?_ GE250.out | refine below_set ?_ GE257.out) | exact HB.out)⟩
                              · rw [if_neg c64] at H
                                exact absurd H (by simp)
                            · rw [if_neg c63] at H
                              exact absurd H (by simp)
                          · rw [if_neg c62] at H
                            exact absurd H (by simp)
                      · rw [if_neg c59] at H
                        have c59b0 : decide (x16_1 < 64) = false := decide_eq_false c59
                        clear c59
                        replace H := Option.bind_eq_some_iff.mp H
                        obtain ⟨⟨t262, t265⟩, A680, H⟩ := H
                        replace H : ((impl_LoadCell.f t262 ((rd_T32 t228 (ji8)).f0) ((rd_T32 t228 (ji8)).f1) (Int.tmod (rd t231 1) ((rd_T32 t228 (ji8)).f1))).bind fun bt267 => (if t249 = true then (if t252 = true then (if 2 < (t231.length : Int) then (if t251 = (Int.tmod (wrap64 ((rd t231 2) * 13)) 65536) then (if t256 = true then (some false) else (if t259 = true then (some false) else (if bt267.1 = 65535 then ((impl_RegionsOk.f k1 t228).bind fun t270 => (if t270 = true then (some ((t241.length : Int) == 64)) else (some false))) else (some false)))) else (some false)) else (none)) else (some false)) else (some false))) = some r := H
                        have A68 := Aside0.mk A680
                        clear A680
                        replace H := Option.bind_eq_some_iff.mp H
                        obtain ⟨⟨t267, t268⟩, A690, H⟩ := H
                        replace H : (if t249 = true then (if t252 = true then (if 2 < (t231.length : Int) then (if t251 = (Int.tmod (wrap64 ((rd t231 2) * 13)) 65536) then (if t256 = true then (some false) else (if t259 = true then (some false) else (if t267 = 65535 then ((impl_RegionsOk.f k1 t228).bind fun t270 => (if t270 = true then (some ((t241.length : Int) == 64)) else (some false))) else (some false)))) else (some false)) else (none)) else (some false)) else (some false)) = some r := H
                        have A69 := Aside0.mk A690
                        clear A690
                        by_cases c70 : t249 = true
                        · subst c70
                          have H1 : (if t252 = true then (if 2 < (t231.length : Int) then (if t251 = (Int.tmod (wrap64 ((rd t231 2) * 13)) 65536) then (if t256 = true then (some false) else (if t259 = true then (some false) else (if t267 = 65535 then ((impl_RegionsOk.f k1 t228).bind fun t270 => (if t270 = true then (some ((t241.length : Int) == 64)) else (some false))) else (some false)))) else (some false)) else (none)) else (some false)) = some r := by rw [if_pos rfl] at H; exact H
                          clear H
                          have H := H1
                          clear H1
                          by_cases c71 : t252 = true
                          · subst c71
                            have H1 : (if 2 < (t231.length : Int) then (if t251 = (Int.tmod (wrap64 ((rd t231 2) * 13)) 65536) then (if t256 = true then (some false) else (if t259 = true then (some false) else (if t267 = 65535 then ((impl_RegionsOk.f k1 t228).bind fun t270 => (if t270 = true then (some ((t241.length : Int) == 64)) else (some false))) else (some false)))) else (some false)) else (none)) = some r := by rw [if_pos rfl] at H; exact H
                            clear H
                            have H := H1
                            clear H1
                            by_cases c72 : 2 < (t231.length : Int)
                            · rw [if_pos c72] at H
                              have c72b0 : decide (2 < (t231.length : Int)) = true := decide_eq_true c72
                              have c72b1 : decide (2 < t231.length) = true := decide_eq_true (by omega)
                              clear c72
                              by_cases c73 : t251 = (Int.tmod (wrap64 ((rd t231 2) * 13)) 65536)
                              · rw [if_pos c73] at H
                                have c73b0 : (t251 == (Int.tmod (wrap64 ((rd t231 2) * 13)) 65536)) = true := beq_iff_eq.mpr c73
                                have c73b1 : (t251 != (Int.tmod (wrap64 ((rd t231 2) * 13)) 65536)) = false := bne_eq_false_iff_eq.mpr c73
                                clear c73
                                by_cases c74 : t256 = true
                                · subst c74
                                  have H1 : (some false) = some r := by rw [if_pos rfl] at H; exact H
                                  clear H
                                  have H := H1
                                  clear H1
                                  exact absurd (Option.some.inj H) (by rw [hrt.out]; decide)
                                · replace c74 := Bool.eq_false_iff.mpr c74
                                  subst c74
                                  have H1 : (if t259 = true then (some false) else (if t267 = 65535 then ((impl_RegionsOk.f k1 t228).bind fun t270 => (if t270 = true then (some ((t241.length : Int) == 64)) else (some false))) else (some false))) = some r := by rw [if_neg (show ¬ (false = true) by decide)] at H; exact H
                                  clear H
                                  have H := H1
                                  clear H1
                                  by_cases c92 : t259 = true
                                  · subst c92
                                    have H1 : (some false) = some r := by rw [if_pos rfl] at H; exact H
                                    clear H
                                    have H := H1
                                    clear H1
                                    exact absurd (Option.some.inj H) (by rw [hrt.out]; decide)
                                  · replace c92 := Bool.eq_false_iff.mpr c92
                                    subst c92
                                    have H1 : (if t267 = 65535 then ((impl_RegionsOk.f k1 t228).bind fun t270 => (if t270 = true then (some ((t241.length : Int) == 64)) else (some false))) else (some false)) = some r := by rw [if_neg (show ¬ (false = true) by decide)] at H; exact H
                                    clear H
                                    have H := H1
                                    clear H1
                                    by_cases c110 : t267 = 65535
                                    · rw [if_pos c110] at H
                                      have c110b0 : (t267 == 65535) = true := beq_iff_eq.mpr c110
                                      have c110b1 : (t267 != 65535) = false := bne_eq_false_iff_eq.mpr c110
                                      clear c110
                                      replace H := Option.bind_eq_some_iff.mp H
                                      obtain ⟨t270, A1110, H⟩ := H
                                      replace H : (if t270 = true then (some ((t241.length : Int) == 64)) else (some false)) = some r := H
                                      have A111 := Aside0.mk A1110
                                      clear A1110
                                      by_cases c112 : t270 = true
                                      · subst c112
                                        have H1 : (some ((t241.length : Int) == 64)) = some r := by rw [if_pos rfl] at H; exact H
                                        clear H
                                        have H := H1
                                        clear H1
                                        obtain rfl := Option.some.inj H
                                        have hnb113 := NB250_236.out
                                        have hnc113 := NB236_250.out
                                        have hnb114 := NB250_244.out
                                        have hnc114 := NB244_250.out
                                        have hnb115 := NB250_257.out
                                        have hnc115 := NB257_250.out
                                        have hcz116_0 : wr.cell? ⟨gb250, 0, none⟩ = some (.slice Ao40 t246.length co40) := (blk_cell BK250.out 0).trans rfl
                                        have hfz116_0 := blk_frozen BK250.out 0
                                        have hnb117 := NB236_244.out
                                        have hnc117 := NB244_236.out
                                        have hnb118 := NB236_257.out
                                        have hnc118 := NB257_236.out
                                        have hcz119_0 : wr.cell? ⟨gb236, 0, none⟩ = some (.int .i64 ((rd_T32 t228 (ji8)).f0)) := (blk_cell BK236.out 0).trans rfl
                                        have hcz119_1 : wr.cell? ⟨gb236, 1, none⟩ = some (.int .i64 ((rd_T32 t228 (ji8)).f1)) := (blk_cell BK236.out 1).trans rfl
                                        have hfz119_0 := blk_frozen BK236.out 0
                                        have hfz119_1 := blk_frozen BK236.out 1
                                        go_wp2_with (first | ((with_reducible refine gate_callee (f := 17) rfl ?_); refine goesL_ (some 104) rfl rfl Try.func17 (by kernel_rfl) rfl #[.agg #[.slice Ao40 t246.length co40], .agg #[.int .i64 ((rd_T32 t228 (ji8)).f0), .int .i64 ((rd_T32 t228 (ji8)).f1)], .int .i64 (Int.tmod (rd t231 1) ((rd_T32 t228 (ji8)).f1)), .int .i64 (-1)] rfl (by (try simp only [List.map_toArray, List.map_cons, List.map_nil]); first | done | (simp only [hji8]; rfl) | rfl | (simp only [List.length_drop, List.length_take]; rfl)) ?_; (with_reducible refine (impl_StoreCell.calls _ _ t246 ((rd_T32 t228 (ji8)).f0) ((rd_T32 t228 (ji8)).f1) (Int.tmod (rd t231 1) ((rd_T32 t228 (ji8)).f1)) (-1) t262 t265 _ ?side1 ?side2 A68.out).mono ?_); (case side1 => repeat (first | exact (Kd.R_reads' HO_251000.out).2.2 | (with_reducible refine Kd.C_alloc ?_ _) | (with_reducible refine Kd.C_drewN ?_ _) | (with_reducible refine Kd.C_drew ?_))); (case side2 => exact (Kd.R_reads' HO_251000.out).2.1); rintro e w120 ⟨v263, rfl, ho0, hb⟩; refine ⟨_, rfl, ?_⟩; have n0_ := Aside0.mk (Kd.R_below (by (with_reducible repeat (first | apply Kd.R_alloc | apply Kd.R_drewN | apply Kd.R_drew)); exact HO_3.out) hb); have n1_ := Aside0.mk (Kd.R_elder' (by (with_reducible repeat (first | apply Kd.R_alloc | apply Kd.R_drewN | apply Kd.R_drew)); exact HO_4.out) (Kd.R_base ho0) hb); have n2_ := Aside0.mk (Kd.R_elder' (by (with_reducible repeat (first | apply Kd.R_alloc | apply Kd.R_drewN | apply Kd.R_drew)); exact HO_245000.out) (Kd.R_base ho0) hb); have n3_ := Aside0.mk (Kd.R_elder' (by (with_reducible repeat (first | apply Kd.R_alloc | apply Kd.R_drewN | apply Kd.R_drew)); exact HO_251000.out) (Kd.R_base ho0) hb); have n4_ := Aside0.mk (Kd.R_elder' (by (with_reducible repeat (first | apply Kd.R_alloc | apply Kd.R_drewN | apply Kd.R_drew)); exact HO_258000.out) (Kd.R_base ho0) hb); have n5_ := Aside0.mk (Kd.R_lower (Kd.R_new' (Kd.R_new' (Kd.R_new' (Kd.R_new' ho0 (Kd.R_lt (by (with_reducible repeat (first | apply Kd.R_alloc | apply Kd.R_drewN | apply Kd.R_drew)); exact HO_4.out))) (Kd.R_lt (by (with_reducible repeat (first | apply Kd.R_alloc | apply Kd.R_drewN | apply Kd.R_drew)); exact HO_245000.out))) (Kd.R_lt (by (with_reducible repeat (first | apply Kd.R_alloc | apply Kd.R_drewN | apply Kd.R_drew)); exact HO_251000.out))) (Kd.R_lt (by (with_reducible repeat (first | apply Kd.R_alloc | apply Kd.R_drewN | apply Kd.R_drew)); exact HO_258000.out))) (below_size (by repeat (first | (with_reducible first | exact HB.out | apply below_alloc | apply pw_below_drewN | apply below_drew1 | refine below_set ?_ GE236.out | refine below_set ?_ GE244.out | refine below_set ?_ GE250.out | refine below_set ?_ GE257.out) | exact HB.out)))); have n6_ := Aside0.mk (blk_below (g := gb236) (o := .cells #[.int .i64 ((rd_T32 t228 (ji8)).f0), .int .i64 ((rd_T32 t228 (ji8)).f1)] 32 (0, 0)) (by (with_reducible repeat (first | refine blk_drewN ?_ _ | refine blk_drew ?_ | refine blk_alloc ?_ _)); exact BK236.out) hb); have n7_ := Aside0.mk (blk_below (g := gb244) (o := .cells #[.slice Ao32 t241.length co32] 29 (0, 0)) (by (with_reducible repeat (first | refine blk_drewN ?_ _ | refine blk_drew ?_ | refine blk_alloc ?_ _)); exact BK244.out) hb); have n8_ := Aside0.mk (blk_below (g := gb250) (o := .cells #[.slice Ao40 t246.length co40] 29 (0, 0)) (by (with_reducible repeat (first | refine blk_drewN ?_ _ | refine blk_drew ?_ | refine blk_alloc ?_ _)); exact BK250.out) hb); have n9_ := Aside0.mk (blk_below (g := gb257) (o := .cells #[.slice Ao51 t253.length co51] 29 (0, 0)) (by (with_reducible repeat (first | refine blk_drewN ?_ _ | refine blk_drew ?_ | refine blk_alloc ?_ _)); exact BK257.out) hb); have n10_ := Aside0.mk (below_step (by repeat (first | (with_reducible first | exact HB.out | apply below_alloc | apply pw_below_drewN | apply below_drew1 | refine below_set ?_ GE236.out | refine below_set ?_ GE244.out | refine below_set ?_ GE250.out | refine below_set ?_ GE257.out) | exact HB.out)) hb); clear HO_3; clear HO_4; clear HO_245000; clear HO_251000; clear HO_258000; clear BK236; clear BK244; clear BK250; clear BK257; clear HB; have HO_3 := n0_; have HO_4 := n1_; have HO_245000 := n2_; have HO_251000 := n3_; have HO_258000 := n4_; have HO264 := n5_; have BK236 := n6_; have BK244 := n7_; have BK250 := n8_; have BK257 := n9_; have HB := n10_; clear n0_ n1_ n2_ n3_ n4_ n5_ n6_ n7_ n8_ n9_ n10_; (try clear hb); (try clear hb2); (try clear hk); (try clear hi); (try clear ho0)) | ((with_reducible refine gate_dst (N := 17) rfl ?_); (try (refine gate_guard (by rfl) ?_; dsimp only)); refine box_event ?hg (N := 17) ?hd (cs := #[.slice none 0 0]) (t := 29) ?hr ?_; (case hd => rfl); (case hg => rfl); (case hr => first | (go_simp; done) | (go_simp; rfl)); intro gb266 hg w121 hbox hb; have n0_ := Aside0.mk (Kd.R_below (by (with_reducible repeat (first | apply Kd.R_alloc | apply Kd.R_drewN | apply Kd.R_drew)); exact HO_3.out) hb); have n1_ := Aside0.mk (Kd.R_below (by (with_reducible repeat (first | apply Kd.R_alloc | apply Kd.R_drewN | apply Kd.R_drew)); exact HO_4.out) hb); have n2_ := Aside0.mk (Kd.R_below (by (with_reducible repeat (first | apply Kd.R_alloc | apply Kd.R_drewN | apply Kd.R_drew)); exact HO_245000.out) hb); have n3_ := Aside0.mk (Kd.R_below (by (with_reducible repeat (first | apply Kd.R_alloc | apply Kd.R_drewN | apply Kd.R_drew)); exact HO_251000.out) hb); have n4_ := Aside0.mk (Kd.R_below (by (with_reducible repeat (first | apply Kd.R_alloc | apply Kd.R_drewN | apply Kd.R_drew)); exact HO_258000.out) hb); have n5_ := Aside0.mk (Kd.R_below (by (with_reducible repeat (first | apply Kd.R_alloc | apply Kd.R_drewN | apply Kd.R_drew)); exact HO264.out) hb); have n6_ := Aside0.mk (blk_below (g := gb236) (o := .cells #[.int .i64 ((rd_T32 t228 (ji8)).f0), .int .i64 ((rd_T32 t228 (ji8)).f1)] 32 (0, 0)) (by (with_reducible repeat (first | refine blk_drewN ?_ _ | refine blk_drew ?_ | refine blk_alloc ?_ _)); exact BK236.out) hb); have n7_ := Aside0.mk (blk_below (g := gb244) (o := .cells #[.slice Ao32 t241.length co32] 29 (0, 0)) (by (with_reducible repeat (first | refine blk_drewN ?_ _ | refine blk_drew ?_ | refine blk_alloc ?_ _)); exact BK244.out) hb); have n8_ := Aside0.mk (blk_below (g := gb250) (o := .cells #[.slice Ao40 t246.length co40] 29 (0, 0)) (by (with_reducible repeat (first | refine blk_drewN ?_ _ | refine blk_drew ?_ | refine blk_alloc ?_ _)); exact BK250.out) hb); have n9_ := Aside0.mk (blk_below (g := gb257) (o := .cells #[.slice Ao51 t253.length co51] 29 (0, 0)) (by (with_reducible repeat (first | refine blk_drewN ?_ _ | refine blk_drew ?_ | refine blk_alloc ?_ _)); exact BK257.out) hb); have n10_ := Aside0.mk (below_step (by repeat (first | (with_reducible first | exact HB.out | apply below_alloc | apply pw_below_drewN | apply below_drew1 | refine below_set ?_ GE236.out | refine below_set ?_ GE244.out | refine below_set ?_ GE250.out | refine below_set ?_ GE257.out) | exact HB.out)) hb); have n11_ := Aside0.mk (hbox); have n12_ := Aside0.mk ((by rw [hg]; exact (below_size (by repeat (first | (with_reducible first | exact HB.out | apply below_alloc | apply pw_below_drewN | apply below_drew1 | refine below_set ?_ GE236.out | refine below_set ?_ GE244.out | refine below_set ?_ GE250.out | refine below_set ?_ GE257.out) | exact HB.out))) : w.heap.size ≤ gb266)); have n13_ := Aside0.mk ((by rw [hg]; exact (below_size (by repeat (first | (with_reducible first | exact HB.out | apply below_alloc | apply pw_below_drewN | apply below_drew1 | refine below_set ?_ GE236.out | refine below_set ?_ GE244.out | refine below_set ?_ GE250.out | refine below_set ?_ GE257.out) | exact HB.out))) : w.heap.size ≤ gb266)); have n14_ := Aside0.mk ((by rw [hg]; exact Nat.ne_of_lt (blk_lt (g := gb236) (o := .cells #[.int .i64 ((rd_T32 t228 (ji8)).f0), .int .i64 ((rd_T32 t228 (ji8)).f1)] 32 (0, 0)) (by (with_reducible repeat (first | refine blk_drewN ?_ _ | refine blk_drew ?_ | refine blk_alloc ?_ _)); exact BK236.out)) : gb236 ≠ gb266)); have n15_ := Aside0.mk ((by rw [hg]; exact Nat.ne_of_gt (blk_lt (g := gb236) (o := .cells #[.int .i64 ((rd_T32 t228 (ji8)).f0), .int .i64 ((rd_T32 t228 (ji8)).f1)] 32 (0, 0)) (by (with_reducible repeat (first | refine blk_drewN ?_ _ | refine blk_drew ?_ | refine blk_alloc ?_ _)); exact BK236.out)) : gb266 ≠ gb236)); have n16_ := Aside0.mk ((by rw [hg]; exact Nat.ne_of_lt (blk_lt (g := gb244) (o := .cells #[.slice Ao32 t241.length co32] 29 (0, 0)) (by (with_reducible repeat (first | refine blk_drewN ?_ _ | refine blk_drew ?_ | refine blk_alloc ?_ _)); exact BK244.out)) : gb244 ≠ gb266)); have n17_ := Aside0.mk ((by rw [hg]; exact Nat.ne_of_gt (blk_lt (g := gb244) (o := .cells #[.slice Ao32 t241.length co32] 29 (0, 0)) (by (with_reducible repeat (first | refine blk_drewN ?_ _ | refine blk_drew ?_ | refine blk_alloc ?_ _)); exact BK244.out)) : gb266 ≠ gb244)); have n18_ := Aside0.mk ((by rw [hg]; exact Nat.ne_of_lt (blk_lt (g := gb250) (o := .cells #[.slice Ao40 t246.length co40] 29 (0, 0)) (by (with_reducible repeat (first | refine blk_drewN ?_ _ | refine blk_drew ?_ | refine blk_alloc ?_ _)); exact BK250.out)) : gb250 ≠ gb266)); have n19_ := Aside0.mk ((by rw [hg]; exact Nat.ne_of_gt (blk_lt (g := gb250) (o := .cells #[.slice Ao40 t246.length co40] 29 (0, 0)) (by (with_reducible repeat (first | refine blk_drewN ?_ _ | refine blk_drew ?_ | refine blk_alloc ?_ _)); exact BK250.out)) : gb266 ≠ gb250)); have n20_ := Aside0.mk ((by rw [hg]; exact Nat.ne_of_lt (blk_lt (g := gb257) (o := .cells #[.slice Ao51 t253.length co51] 29 (0, 0)) (by (with_reducible repeat (first | refine blk_drewN ?_ _ | refine blk_drew ?_ | refine blk_alloc ?_ _)); exact BK257.out)) : gb257 ≠ gb266)); have n21_ := Aside0.mk ((by rw [hg]; exact Nat.ne_of_gt (blk_lt (g := gb257) (o := .cells #[.slice Ao51 t253.length co51] 29 (0, 0)) (by (with_reducible repeat (first | refine blk_drewN ?_ _ | refine blk_drew ?_ | refine blk_alloc ?_ _)); exact BK257.out)) : gb266 ≠ gb257)); clear HO_3; clear HO_4; clear HO_245000; clear HO_251000; clear HO_258000; clear HO264; clear BK236; clear BK244; clear BK250; clear BK257; clear HB; have HO_3 := n0_; have HO_4 := n1_; have HO_245000 := n2_; have HO_251000 := n3_; have HO_258000 := n4_; have HO264 := n5_; have BK236 := n6_; have BK244 := n7_; have BK250 := n8_; have BK257 := n9_; have HB := n10_; have BK266 := n11_; have GW266 := n12_; have GE266 := n13_; have NB236_266 := n14_; have NB266_236 := n15_; have NB244_266 := n16_; have NB266_244 := n17_; have NB250_266 := n18_; have NB266_250 := n19_; have NB257_266 := n20_; have NB266_257 := n21_; clear n0_ n1_ n2_ n3_ n4_ n5_ n6_ n7_ n8_ n9_ n10_ n11_ n12_ n13_ n14_ n15_ n16_ n17_ n18_ n19_ n20_ n21_; clear hb hbox hg; obtain ⟨Ao122, co122, eo122⟩ := Kd.R_slice HO264.out; subst eo122; have hnb123 := NB266_236.out; have hnc123 := NB236_266.out; have hnb124 := NB266_244.out; have hnc124 := NB244_266.out; have hnb125 := NB266_250.out; have hnc125 := NB250_266.out; have hnb126 := NB266_257.out; have hnc126 := NB257_266.out; have hcz127_0 : w121.cell? ⟨gb266, 0, none⟩ = some (.slice none 0 0) := (blk_cell BK266.out 0).trans rfl; have hfz127_0 := blk_frozen BK266.out 0; have hcz128_0 : w121.cell? ⟨gb236, 0, none⟩ = some (.int .i64 ((rd_T32 t228 (ji8)).f0)) := (blk_cell BK236.out 0).trans rfl; have hcz128_1 : w121.cell? ⟨gb236, 1, none⟩ = some (.int .i64 ((rd_T32 t228 (ji8)).f1)) := (blk_cell BK236.out 1).trans rfl; have hfz128_0 := blk_frozen BK236.out 0; have hfz128_1 := blk_frozen BK236.out 1) | ((with_reducible refine gate_callee (f := 23) rfl ?_); refine goesL_ (some 111) rfl rfl Try.func23 (by kernel_rfl) rfl #[.agg #[.slice Ao122 t262.length co122], .agg #[.int .i64 ((rd_T32 t228 (ji8)).f0), .int .i64 ((rd_T32 t228 (ji8)).f1)], .int .i64 (Int.tmod (rd t231 1) ((rd_T32 t228 (ji8)).f1))] rfl (by (try simp only [List.map_toArray, List.map_cons, List.map_nil]); first | done | (simp only [hji8]; rfl) | rfl | (simp only [List.length_drop, List.length_take]; rfl)) ?_; (with_reducible refine (impl_LoadCell.calls _ _ t262 ((rd_T32 t228 (ji8)).f0) ((rd_T32 t228 (ji8)).f1) (Int.tmod (rd t231 1) ((rd_T32 t228 (ji8)).f1)) t267 t268 _ ?side1 ?side2 A69.out).mono ?_); (case side1 => refine (Kd.R_reads' (e := 3) (base := w.heap.size) (ok := fun k_ => ((((True ∧ some k_ ≠ (.slice (some ad234) t231.length co22 : Value).ownBlock) ∧ some k_ ≠ (.slice Ao32 t241.length co32 : Value).ownBlock) ∧ some k_ ≠ (.slice Ao40 t246.length co40 : Value).ownBlock) ∧ some k_ ≠ (.slice Ao51 t253.length co51 : Value).ownBlock)) (n := t262.length) (c := co122) ?_).2.2; exact (by (with_reducible repeat (first | apply Kd.R_alloc | apply Kd.R_drewN | apply Kd.R_drew)); exact (Kd.R_mono (Kd.R_far (p := ⟨gb266, 0, none⟩) (Kd.R_types HO264.out BK266.out (by decide)) (fun _ hk => hk.2) (.slice Ao122 t262.length co122)) (fun _ h_ => h_.1)))); (case side2 => exact (Kd.R_reads' HO264.out).2.1); rintro e w129 ⟨rfl, hb⟩; refine ⟨_, rfl, ?_⟩; have n0_ := Aside0.mk (Kd.R_below (by (with_reducible repeat (first | apply Kd.R_alloc | apply Kd.R_drewN | apply Kd.R_drew)); exact (Kd.R_mono (Kd.R_far (p := ⟨gb266, 0, none⟩) (Kd.R_types HO_3.out BK266.out (by decide)) (fun _ hk => hk.2) (.slice Ao122 t262.length co122)) (fun _ h_ => h_.1))) hb); have n1_ := Aside0.mk (Kd.R_below (by (with_reducible repeat (first | apply Kd.R_alloc | apply Kd.R_drewN | apply Kd.R_drew)); exact (Kd.R_mono (Kd.R_far (p := ⟨gb266, 0, none⟩) (Kd.R_types HO_4.out BK266.out (by decide)) (fun _ hk => hk.2) (.slice Ao122 t262.length co122)) (fun _ h_ => h_.1))) hb); have n2_ := Aside0.mk (Kd.R_below (by (with_reducible repeat (first | apply Kd.R_alloc | apply Kd.R_drewN | apply Kd.R_drew)); exact (Kd.R_mono (Kd.R_far (p := ⟨gb266, 0, none⟩) (Kd.R_types HO_245000.out BK266.out (by decide)) (fun _ hk => hk.2) (.slice Ao122 t262.length co122)) (fun _ h_ => h_.1))) hb); have n3_ := Aside0.mk (Kd.R_below (by (with_reducible repeat (first | apply Kd.R_alloc | apply Kd.R_drewN | apply Kd.R_drew)); exact (Kd.R_mono (Kd.R_far (p := ⟨gb266, 0, none⟩) (Kd.R_types HO_251000.out BK266.out (by decide)) (fun _ hk => hk.2) (.slice Ao122 t262.length co122)) (fun _ h_ => h_.1))) hb); have n4_ := Aside0.mk (Kd.R_below (by (with_reducible repeat (first | apply Kd.R_alloc | apply Kd.R_drewN | apply Kd.R_drew)); exact (Kd.R_mono (Kd.R_far (p := ⟨gb266, 0, none⟩) (Kd.R_types HO_258000.out BK266.out (by decide)) (fun _ hk => hk.2) (.slice Ao122 t262.length co122)) (fun _ h_ => h_.1))) hb); have n5_ := Aside0.mk (Kd.R_below (by (with_reducible repeat (first | apply Kd.R_alloc | apply Kd.R_drewN | apply Kd.R_drew)); exact (Kd.R_mono (Kd.R_far (p := ⟨gb266, 0, none⟩) (Kd.R_types HO264.out BK266.out (by decide)) (fun _ hk => hk.2) (.slice Ao122 t262.length co122)) (fun _ h_ => h_.1))) hb); have n6_ := Aside0.mk (blk_below (g := gb236) (o := .cells #[.int .i64 ((rd_T32 t228 (ji8)).f0), .int .i64 ((rd_T32 t228 (ji8)).f1)] 32 (0, 0)) (by (with_reducible repeat (first | refine blk_drewN ?_ _ | refine blk_drew ?_ | refine blk_alloc ?_ _)); refine blk_far ?_ NB236_266.out _; (with_reducible repeat (first | refine blk_drewN ?_ _ | refine blk_drew ?_ | refine blk_alloc ?_ _)); exact BK236.out) hb); have n7_ := Aside0.mk (blk_below (g := gb244) (o := .cells #[.slice Ao32 t241.length co32] 29 (0, 0)) (by (with_reducible repeat (first | refine blk_drewN ?_ _ | refine blk_drew ?_ | refine blk_alloc ?_ _)); refine blk_far ?_ NB244_266.out _; (with_reducible repeat (first | refine blk_drewN ?_ _ | refine blk_drew ?_ | refine blk_alloc ?_ _)); exact BK244.out) hb); have n8_ := Aside0.mk (blk_below (g := gb250) (o := .cells #[.slice Ao40 t246.length co40] 29 (0, 0)) (by (with_reducible repeat (first | refine blk_drewN ?_ _ | refine blk_drew ?_ | refine blk_alloc ?_ _)); refine blk_far ?_ NB250_266.out _; (with_reducible repeat (first | refine blk_drewN ?_ _ | refine blk_drew ?_ | refine blk_alloc ?_ _)); exact BK250.out) hb); have n9_ := Aside0.mk (blk_below (g := gb257) (o := .cells #[.slice Ao51 t253.length co51] 29 (0, 0)) (by (with_reducible repeat (first | refine blk_drewN ?_ _ | refine blk_drew ?_ | refine blk_alloc ?_ _)); refine blk_far ?_ NB257_266.out _; (with_reducible repeat (first | refine blk_drewN ?_ _ | refine blk_drew ?_ | refine blk_alloc ?_ _)); exact BK257.out) hb); have n10_ := Aside0.mk (blk_below (g := gb266) (o := .cells #[.slice Ao122 t262.length co122] 29 (0, 0)) (by (with_reducible repeat (first | refine blk_drewN ?_ _ | refine blk_drew ?_ | refine blk_alloc ?_ _)); refine blk_put (cs := #[.slice none 0 0]) ?_ 0 _ rfl; (with_reducible repeat (first | refine blk_drewN ?_ _ | refine blk_drew ?_ | refine blk_alloc ?_ _)); exact BK266.out) hb); have n11_ := Aside0.mk (below_step (by repeat (first | (with_reducible first | exact HB.out | apply below_alloc | apply pw_below_drewN | apply below_drew1 | refine below_set ?_ GE236.out | refine below_set ?_ GE244.out | refine below_set ?_ GE250.out | refine below_set ?_ GE257.out | refine below_set ?_ GE266.out) | exact HB.out)) hb); clear HO_3; clear HO_4; clear HO_245000; clear HO_251000; clear HO_258000; clear HO264; clear BK236; clear BK244; clear BK250; clear BK257; clear BK266; clear HB; have HO_3 := n0_; have HO_4 := n1_; have HO_245000 := n2_; have HO_251000 := n3_; have HO_258000 := n4_; have HO264 := n5_; have BK236 := n6_; have BK244 := n7_; have BK250 := n8_; have BK257 := n9_; have BK266 := n10_; have HB := n11_; clear n0_ n1_ n2_ n3_ n4_ n5_ n6_ n7_ n8_ n9_ n10_ n11_; (try clear hb); (try clear hb2); (try clear hk); (try clear hi); have p269 : 0 ≤ (2 : Int) := (by omega); have q269 : 2 < (t231.length : Int) := of_decide_eq_true (by first | (with_reducible assumption) | assumption); obtain ⟨ad269, e269, hx269_0⟩ := Kd.at_int (Kd.R_reads' HO_4.out).2.2 2 p269 q269; obtain rfl : ad234 = ad269 := (by injection e269); (try simp only [show (2 : Int).toNat = 2 from rfl, Nat.reduceMul, Nat.reduceEqDiff, Go.Addr.add, ↓reduceIte] at hx269_0); have qi269 : (2 < t231.length) = True := eq_true (by omega); (try rw [show ((2 : Int)).toNat = 2 from rfl] at hx269_0); replace p269 := eq_true p269; replace q269 := eq_true q269) | (go_at_call 21; (with_reducible refine (impl_RegionsOk.calls k1 _ _ t228 true _ ?side1 ?side2 A111.out).mono ?_); (case side1 => repeat (first | exact (Kd.R_reads' HO_3.out).2.2 | (with_reducible refine Kd.C_alloc ?_ _) | (with_reducible refine Kd.C_drewN ?_ _) | (with_reducible refine Kd.C_drew ?_))); (case side2 => exact (Kd.R_reads' HO_3.out).2.1); rintro e w130 ⟨rfl, hb⟩; have n0_ := Aside0.mk (Kd.R_below (by (with_reducible repeat (first | apply Kd.R_alloc | apply Kd.R_drewN | apply Kd.R_drew)); exact HO_3.out) hb); have n1_ := Aside0.mk (Kd.R_below (by (with_reducible repeat (first | apply Kd.R_alloc | apply Kd.R_drewN | apply Kd.R_drew)); exact HO_4.out) hb); have n2_ := Aside0.mk (Kd.R_below (by (with_reducible repeat (first | apply Kd.R_alloc | apply Kd.R_drewN | apply Kd.R_drew)); exact HO_245000.out) hb); have n3_ := Aside0.mk (Kd.R_below (by (with_reducible repeat (first | apply Kd.R_alloc | apply Kd.R_drewN | apply Kd.R_drew)); exact HO_251000.out) hb); have n4_ := Aside0.mk (Kd.R_below (by (with_reducible repeat (first | apply Kd.R_alloc | apply Kd.R_drewN | apply Kd.R_drew)); exact HO_258000.out) hb); have n5_ := Aside0.mk (Kd.R_below (by (with_reducible repeat (first | apply Kd.R_alloc | apply Kd.R_drewN | apply Kd.R_drew)); exact HO264.out) hb); have n6_ := Aside0.mk (blk_below (g := gb236) (o := .cells #[.int .i64 ((rd_T32 t228 (ji8)).f0), .int .i64 ((rd_T32 t228 (ji8)).f1)] 32 (0, 0)) (by (with_reducible repeat (first | refine blk_drewN ?_ _ | refine blk_drew ?_ | refine blk_alloc ?_ _)); exact BK236.out) hb); have n7_ := Aside0.mk (blk_below (g := gb244) (o := .cells #[.slice Ao32 t241.length co32] 29 (0, 0)) (by (with_reducible repeat (first | refine blk_drewN ?_ _ | refine blk_drew ?_ | refine blk_alloc ?_ _)); exact BK244.out) hb); have n8_ := Aside0.mk (blk_below (g := gb250) (o := .cells #[.slice Ao40 t246.length co40] 29 (0, 0)) (by (with_reducible repeat (first | refine blk_drewN ?_ _ | refine blk_drew ?_ | refine blk_alloc ?_ _)); exact BK250.out) hb); have n9_ := Aside0.mk (blk_below (g := gb257) (o := .cells #[.slice Ao51 t253.length co51] 29 (0, 0)) (by (with_reducible repeat (first | refine blk_drewN ?_ _ | refine blk_drew ?_ | refine blk_alloc ?_ _)); exact BK257.out) hb); have n10_ := Aside0.mk (blk_below (g := gb266) (o := .cells #[.slice Ao122 t262.length co122] 29 (0, 0)) (by (with_reducible repeat (first | refine blk_drewN ?_ _ | refine blk_drew ?_ | refine blk_alloc ?_ _)); exact BK266.out) hb); have n11_ := Aside0.mk (below_step (by repeat (first | (with_reducible first | exact HB.out | apply below_alloc | apply pw_below_drewN | apply below_drew1 | refine below_set ?_ GE236.out | refine below_set ?_ GE244.out | refine below_set ?_ GE250.out | refine below_set ?_ GE257.out | refine below_set ?_ GE266.out) | exact HB.out)) hb); clear HO_3; clear HO_4; clear HO_245000; clear HO_251000; clear HO_258000; clear HO264; clear BK236; clear BK244; clear BK250; clear BK257; clear BK266; clear HB; have HO_3 := n0_; have HO_4 := n1_; have HO_245000 := n2_; have HO_251000 := n3_; have HO_258000 := n4_; have HO264 := n5_; have BK236 := n6_; have BK244 := n7_; have BK250 := n8_; have BK257 := n9_; have BK266 := n10_; have HB := n11_; clear n0_ n1_ n2_ n3_ n4_ n5_ n6_ n7_ n8_ n9_ n10_ n11_; (try clear hb); (try clear hb2); (try clear hk); (try clear hi); have hnb131 := NB244_257.out; have hnc131 := NB257_244.out; have hcz132_0 : w130.cell? ⟨gb244, 0, none⟩ = some (.slice Ao32 t241.length co32) := (blk_cell BK244.out 0).trans rfl; have hfz132_0 := blk_frozen BK244.out 0))
                                        go_ret
                                        exact ⟨by first | rfl | (simp [errW_none, errW_some] <;> rfl) | (simp only [← hji8]; first | rfl | (simp [errW_none, errW_some] <;> rfl)) | (simp [*, errW_none, errW_some] <;> rfl), by repeat (first | (with_reducible first | exact HB.out | apply below_alloc | apply pw_below_drewN | apply below_drew1 | refine below_set ?_ GE236.out | refine below_set ?_ GE244.out | refine below_set ?_ GE250.out | refine below_set ?_ GE257.out | refine below_set ?_ GE266.out) | exact HB.out)⟩
                                      · replace c112 := Bool.eq_false_iff.mpr c112
                                        subst c112
                                        have H1 : (some false) = some r := by rw [if_neg (show ¬ (false = true) by decide)] at H; exact H
                                        clear H
                                        have H := H1
                                        clear H1
                                        exact absurd (Option.some.inj H) (by rw [hrt.out]; decide)
                                    · rw [if_neg c110] at H
                                      have c110b0 : (t267 == 65535) = false := beq_eq_false_iff_ne.mpr c110
                                      have c110b1 : (t267 != 65535) = true := bne_iff_ne.mpr c110
                                      exact absurd (Option.some.inj H) (by rw [hrt.out]; decide)
                              · rw [if_neg c73] at H
                                have c73b0 : (t251 == (Int.tmod (wrap64 ((rd t231 2) * 13)) 65536)) = false := beq_eq_false_iff_ne.mpr c73
                                have c73b1 : (t251 != (Int.tmod (wrap64 ((rd t231 2) * 13)) 65536)) = true := bne_iff_ne.mpr c73
                                exact absurd (Option.some.inj H) (by rw [hrt.out]; decide)
                            · rw [if_neg c72] at H
                              exact absurd H (by simp)
                          · replace c71 := Bool.eq_false_iff.mpr c71
                            subst c71
                            have H1 : (some false) = some r := by rw [if_neg (show ¬ (false = true) by decide)] at H; exact H
                            clear H
                            have H := H1
                            clear H1
                            exact absurd (Option.some.inj H) (by rw [hrt.out]; decide)
                        · replace c70 := Bool.eq_false_iff.mpr c70
                          subst c70
                          have H1 : (some false) = some r := by rw [if_neg (show ¬ (false = true) by decide)] at H; exact H
                          clear H
                          have H := H1
                          clear H1
                          exact absurd (Option.some.inj H) (by rw [hrt.out]; decide)
                · rw [if_neg c15] at H
                  exact absurd H (by simp)
            · rw [if_neg c11] at H
              exact absurd H (by simp)
          · rw [if_neg c10] at H
            exact absurd H (by simp)
        · rw [if_neg c9] at H
          exact absurd H (by simp)
    · rw [if_neg c6] at H
      exact absurd H (by simp)

/-- THE ONE PURE STATEMENT of laws_FnStores: yours. -/
def laws_FnStores.Pure : Prop := ∀ (l0 : List Int), l0.length ≤ maxLen → l0.length * 1 ≤ 140737488351232 → (∀ x ∈ l0, (Lit.int .u8 x).wf = true) → ∃ k, laws_FnStores.f k l0 = some true
end Go.Proofs.Yteehopjgmgelnaa.PFnStores
