/- The walks of what FnExactClearCells reaches: lines of the kit's print for this claim, turned by hand where they did not build. -/
import Derived.Test.YtimeeohggjagfaaMFnExactClearCellsx0
import Derived.Test.YtimeeohggjagfaaMFnExactClearCellsx1
import Derived.Test.YtimeeohggjagfaaMFnExactClearCellsx2
namespace Go.Proofs.Ytimeeohggjagfaa.PFnExactClearCells
open Go.RowKit Go.Proofs.YtimeeohggjagfaaW.PrintWords Go.Proofs.YtimeeohggjagfaaW.PrintLast Go.Proofs.YtimeeohggjagfaaW.PrintMore
attribute [local go_sem] max2_int min2_int max_two min_two max_three min_three max_four min_four   -- for this text's walks alone
set_option linter.unusedVariables false
set_option linter.unusedSimpArgs false

/-! ### laws_FnExactClearCells: function 14 -/
def laws_FnExactClearCells.j0 : Nat → Bool → List Int → Int → Int → List Int → List Int → Option (Bool)
  | 0, _, _, _, _, _, _ => none
  | k + 1, x48, x172000, x173000, x173001, x183000, x193000 => if x48 = true then (some false) else ((laws_markArena.f k x193000 1).bind fun bt201 => ((laws_heldArena.f k bt201.2 1).bind fun t203 => (if t203 < 0 then (some false) else (if t203 = bt201.1 then ((laws_toArena.f k x172000).bind fun t204 => ((laws_toRegion.f x173000 x173001).bind fun bt207 => ((impl_ClearCells.f k t204 bt207.1 bt207.2).bind fun t209 => ((laws_eqArena.f k t209 x183000).bind fun t213 => (if t213 = true then ((laws_heldArena.f k bt201.2 1).bind fun t214 => (if t214 < 0 then (some false) else (if t214 = bt201.1 then (some true) else (some false)))) else (some false)))))) else (some false)))))
def laws_FnExactClearCells.f (k : Nat) (l0_0 : List Int) (a1_0 : Int) (a1_1 : Int) : Option (Bool) := (laws_szArena.f l0_0 1048576).bind fun t173 => (if t173 < 0 then (some true) else ((laws_toArena.f k l0_0).bind fun t174 => ((laws_toRegion.f a1_0 a1_1).bind fun bt177 => ((spec_ClearCells.f k t174 bt177.1 bt177.2).bind fun t179 => ((laws_toArena.f k l0_0).bind fun t183 => ((laws_toRegion.f a1_0 a1_1).bind fun bt187 => ((impl_ClearCells.f k t183 bt187.1 bt187.2).bind fun t189 => ((laws_eqArena.f k t189 t179).bind fun t193 => (if t193 = true then ((laws_toArena.f k l0_0).bind fun t194 => ((laws_eqArena.f k t183 t194).bind fun t197 => (if t197 = true then ((laws_markArena.f k t183 1).bind fun bt198 => (if bt198.1 < 0 then (laws_FnExactClearCells.j0 k true l0_0 a1_0 a1_1 t179 t189) else ((laws_eqArena.f k t189 t179).bind fun t200 => (laws_FnExactClearCells.j0 k (!t200) l0_0 a1_0 a1_1 t179 t189)))) else (some false)))) else (some false))))))))))
theorem laws_FnExactClearCells.mono_l : ∀ k, (∀ y0 y1 y2 y3 y4 y5, LeO (laws_FnExactClearCells.j0 k y0 y1 y2 y3 y4 y5) (laws_FnExactClearCells.j0 (k + 1) y0 y1 y2 y3 y4 y5))
  | 0 => fun _ _ _ _ _ _ r h => by simp [laws_FnExactClearCells.j0] at h
  | k + 1 => by
    have ih0 := laws_FnExactClearCells.mono_l k
    · intro y0 y1 y2 y3 y4 y5
      unfold laws_FnExactClearCells.j0
      repeat' first
      | (with_reducible exact ih0 _ _ _ _ _ _)
      | (with_reducible exact impl_ClearCells.mono _ _ _ _)
      | (with_reducible exact laws_eqArena.mono _ _ _)
      | (with_reducible exact laws_heldArena.mono _ _ _)
      | (with_reducible exact laws_markArena.mono _ _ _)
      | (with_reducible exact laws_toArena.mono _ _)
      | (with_reducible exact spec_ClearCells.mono _ _ _ _)
      | (with_reducible exact LeO.refl _)
      | (with_reducible exact LeO.none _)
      | (with_reducible refine LeO.ite ?_ ?_)
      | (with_reducible refine LeO.bind ?_ (fun _ => ?_))
      | exact ih0 _ _ _ _ _ _
      | exact impl_ClearCells.mono _ _ _ _
      | exact laws_eqArena.mono _ _ _
      | exact laws_heldArena.mono _ _ _
      | exact laws_markArena.mono _ _ _
      | exact laws_toArena.mono _ _
      | exact spec_ClearCells.mono _ _ _ _
      | exact LeO.none _
      | refine LeO.ite ?_ ?_
      | refine LeO.bind ?_ (fun _ => ?_)
theorem laws_FnExactClearCells.mono : ∀ a0 a1 a2 k, LeO (laws_FnExactClearCells.f k a0 a1 a2) (laws_FnExactClearCells.f (k + 1) a0 a1 a2) := by
  intro a0 a1 a2 k
  have ih0 := laws_FnExactClearCells.mono_l k
  unfold laws_FnExactClearCells.f
  repeat' first
      | (with_reducible exact ih0 _ _ _ _ _ _)
      | (with_reducible exact impl_ClearCells.mono _ _ _ _)
      | (with_reducible exact laws_eqArena.mono _ _ _)
      | (with_reducible exact laws_heldArena.mono _ _ _)
      | (with_reducible exact laws_markArena.mono _ _ _)
      | (with_reducible exact laws_toArena.mono _ _)
      | (with_reducible exact spec_ClearCells.mono _ _ _ _)
      | (with_reducible exact LeO.refl _)
      | (with_reducible exact LeO.none _)
      | (with_reducible refine LeO.ite ?_ ?_)
      | (with_reducible refine LeO.bind ?_ (fun _ => ?_))
      | exact ih0 _ _ _ _ _ _
      | exact impl_ClearCells.mono _ _ _ _
      | exact laws_eqArena.mono _ _ _
      | exact laws_heldArena.mono _ _ _
      | exact laws_markArena.mono _ _ _
      | exact laws_toArena.mono _ _
      | exact spec_ClearCells.mono _ _ _ _
      | exact LeO.none _
      | refine LeO.ite ?_ ?_
      | refine LeO.bind ?_ (fun _ => ?_)
abbrev z_bN := @pw_below_drewN
abbrev z_bA := @below_alloc
abbrev z_bD := @below_drew1
abbrev z_bS := @below_set
abbrev z_kN := @blk_drewN
abbrev z_kD := @blk_drew
abbrev z_kA := @blk_alloc
abbrev z_rA := @Kd.R_alloc
abbrev z_rN := @Kd.R_drewN
abbrev z_rD := @Kd.R_drew
abbrev z_kB := @blk_below
abbrev z_kK := @blk_kept
abbrev z_aM := @Aside0.mk
abbrev z_kC := @blk_cell
abbrev z_kL := @blk_lt
abbrev z_rB := @Kd.R_below
abbrev z_bT := @below_step
abbrev z_bZ := @below_size
abbrev z_rM := @Kd.R_mono
abbrev z_rK := @Kd.R_keptB
abbrev z_rE := @Kd.R_ne
abbrev z_rL := @Kd.R_lt
abbrev z_lA := @List.setIfInBounds_toArray
abbrev z_lZ := @List.set_cons_zero
abbrev z_lS := @List.set_cons_succ
set_option maxHeartbeats 8000000 in
set_option maxRecDepth 100000 in
theorem laws_FnExactClearCells.calls (k : Nat) (A0_0 : Option Addr) (c0_0 : Nat) (l0_0 : List Int) (a1_0 : Int) (a1_1 : Int) (r : Bool) (hrt : Aside0 (r = true)) (w : World) (hr0_0 : Kd.C (Kd.int .i64) w A0_0 l0_0.length l0_0) (hc0_0 : l0_0.length ≤ c0_0) (h : laws_FnExactClearCells.f k l0_0 a1_0 a1_1 = some r) :
    Calls Try.prog 14 #[.agg #[.slice A0_0 l0_0.length c0_0], .agg #[.int .i64 a1_0, .int .i64 a1_1]] w fun e w' => e = .returned (.bool r) ∧ Below w.heap.size w w' := by
 have hu48 := Try.underlying48
 have hu50 := Try.underlying50
 have hu54 := Try.underlying54
 have HR0_0 := z_aM hr0_0
 have HC0_0 := z_aM hc0_0
 clear hr0_0 hc0_0
 have HB := z_aM (Below.refl w.heap.size w)
 have H : ((laws_szArena.f l0_0 1048576).bind fun t173 => (if t173 < 0 then (some true) else ((laws_toArena.f k l0_0).bind fun t174 => ((laws_toRegion.f a1_0 a1_1).bind fun bt177 => ((spec_ClearCells.f k t174 bt177.1 bt177.2).bind fun t179 => ((laws_toArena.f k l0_0).bind fun t183 => ((laws_toRegion.f a1_0 a1_1).bind fun bt187 => ((impl_ClearCells.f k t183 bt187.1 bt187.2).bind fun t189 => ((laws_eqArena.f k t189 t179).bind fun t193 => (if t193 = true then ((laws_toArena.f k l0_0).bind fun t194 => ((laws_eqArena.f k t183 t194).bind fun t197 => (if t197 = true then ((laws_markArena.f k t183 1).bind fun bt198 => (if bt198.1 < 0 then (laws_FnExactClearCells.j0 k true l0_0 a1_0 a1_1 t179 t189) else ((laws_eqArena.f k t189 t179).bind fun t200 => (laws_FnExactClearCells.j0 k (!t200) l0_0 a1_0 a1_1 t179 t189)))) else (some false)))) else (some false))))))))))) = some r := h
 clear h
 replace H := Option.bind_eq_some_iff.mp H
 obtain ⟨t173, A30, H⟩ := H
 replace H : (if t173 < 0 then (some true) else ((laws_toArena.f k l0_0).bind fun t174 => ((laws_toRegion.f a1_0 a1_1).bind fun bt177 => ((spec_ClearCells.f k t174 bt177.1 bt177.2).bind fun t179 => ((laws_toArena.f k l0_0).bind fun t183 => ((laws_toRegion.f a1_0 a1_1).bind fun bt187 => ((impl_ClearCells.f k t183 bt187.1 bt187.2).bind fun t189 => ((laws_eqArena.f k t189 t179).bind fun t193 => (if t193 = true then ((laws_toArena.f k l0_0).bind fun t194 => ((laws_eqArena.f k t183 t194).bind fun t197 => (if t197 = true then ((laws_markArena.f k t183 1).bind fun bt198 => (if bt198.1 < 0 then (laws_FnExactClearCells.j0 k true l0_0 a1_0 a1_1 t179 t189) else ((laws_eqArena.f k t189 t179).bind fun t200 => (laws_FnExactClearCells.j0 k (!t200) l0_0 a1_0 a1_1 t179 t189)))) else (some false)))) else (some false)))))))))) = some r := H
 have A3 := z_aM A30
 clear A30
 by_cases c4 : t173 < 0
 ·rw [if_pos c4] at H
  have c4b0 : decide (t173 < 0) = true := decide_eq_true c4
  clear c4
  obtain rfl := Option.some.inj H
  go_enter Try.func14, Try.ntmps14
  go_wp2_with (first | ((with_reducible refine gate_dst (N := 2) rfl ?_); refine box_event ?hg (N := 2) ?hd (cs := #[.slice A0_0 l0_0.length c0_0]) (t := 48) ?hr ?_; (case hd => rfl); (case hg => rfl); (case hr => first | (go_simp; done) | (go_simp; rfl)); intro gb171 hg w5 hbox hb; have n0_ := z_aM (z_bT (by repeat (first | (with_reducible first | exact HB.out | apply z_bA | apply z_bN | apply z_bD) | exact HB.out)) hb); have n1_ := z_aM (hbox); have n2_ := z_aM ((by rw [hg]; exact (z_bZ (by repeat (first | (with_reducible first | exact HB.out | apply z_bA | apply z_bN | apply z_bD) | exact HB.out))) : w.heap.size ≤ gb171)); have n3_ := z_aM ((by rw [hg]; exact (z_bZ (by repeat (first | (with_reducible first | exact HB.out | apply z_bA | apply z_bN | apply z_bD) | exact HB.out))) : w.heap.size ≤ gb171)); clear HB; have HB := n0_; have BK171 := n1_; have GW171 := n2_; have GE171 := n3_; clear n0_ n1_ n2_ n3_; clear hb hbox hg) | ((with_reducible refine gate_dst (N := 3) rfl ?_); refine box_event ?hg (N := 3) ?hd (cs := #[.int .i64 a1_0, .int .i64 a1_1]) (t := 50) ?hr ?_; (case hd => rfl); (case hg => rfl); (case hr => first | (go_simp; done) | (go_simp; rfl)); intro gb172 hg w6 hbox hb; have n0_ := z_aM (z_kB (g := gb171) (o := .cells #[.slice A0_0 l0_0.length c0_0] 48 (0, 0)) (by (with_reducible repeat (first | refine z_kN ?_ _ | refine z_kD ?_ | refine z_kA ?_ _)); exact BK171.out) hb); have n1_ := z_aM (z_bT (by repeat (first | (with_reducible first | exact HB.out | apply z_bA | apply z_bN | apply z_bD | refine z_bS ?_ GE171.out) | exact HB.out)) hb); have n2_ := z_aM (hbox); have n3_ := z_aM ((by rw [hg]; exact (z_bZ (by repeat (first | (with_reducible first | exact HB.out | apply z_bA | apply z_bN | apply z_bD | refine z_bS ?_ GE171.out) | exact HB.out))) : w.heap.size ≤ gb172)); have n4_ := z_aM ((by rw [hg]; exact (z_bZ (by repeat (first | (with_reducible first | exact HB.out | apply z_bA | apply z_bN | apply z_bD | refine z_bS ?_ GE171.out) | exact HB.out))) : w.heap.size ≤ gb172)); have n5_ := z_aM ((by rw [hg]; exact Nat.ne_of_lt (z_kL (g := gb171) (o := .cells #[.slice A0_0 l0_0.length c0_0] 48 (0, 0)) (by (with_reducible repeat (first | refine z_kN ?_ _ | refine z_kD ?_ | refine z_kA ?_ _)); exact BK171.out)) : gb171 ≠ gb172)); have n6_ := z_aM ((by rw [hg]; exact Nat.ne_of_gt (z_kL (g := gb171) (o := .cells #[.slice A0_0 l0_0.length c0_0] 48 (0, 0)) (by (with_reducible repeat (first | refine z_kN ?_ _ | refine z_kD ?_ | refine z_kA ?_ _)); exact BK171.out)) : gb172 ≠ gb171)); clear BK171; clear HB; have BK171 := n0_; have HB := n1_; have BK172 := n2_; have GW172 := n3_; have GE172 := n4_; have NB171_172 := n5_; have NB172_171 := n6_; clear n0_ n1_ n2_ n3_ n4_ n5_ n6_; clear hb hbox hg; have hnb7 := NB171_172.out; have hnc7 := NB172_171.out; have hcz8_0 : w6.cell? ⟨gb171, 0, none⟩ = some (.slice A0_0 l0_0.length c0_0) := (z_kC BK171.out 0).trans rfl; have hfz8_0 := blk_frozen BK171.out 0) | ((with_reducible refine gate_callee (f := 32) rfl ?_); refine goesL_ (some 15) rfl rfl Try.func32 (by kernel_rfl) rfl #[.agg #[.slice A0_0 l0_0.length c0_0], .int .i64 1048576] rfl (by (try simp only [List.map_toArray, List.map_cons, List.map_nil]); first | done | rfl | (simp only [List.length_drop, List.length_take]; rfl)) ?_; (with_reducible refine (laws_szArena.calls _ _ l0_0 1048576 t173 _ ?side1 ?side2 A3.out).mono ?_); (case side1 => repeat (first | exact (Kd.C_below HR0_0.out HB.out) | (with_reducible refine Kd.C_alloc ?_ _) | (with_reducible refine Kd.C_drewN ?_ _) | (with_reducible refine Kd.C_drew ?_))); (case side2 => exact HC0_0.out); rintro e w9 ⟨rfl, hb⟩; refine ⟨_, rfl, ?_⟩; have n0_ := z_aM (z_kB (g := gb171) (o := .cells #[.slice A0_0 l0_0.length c0_0] 48 (0, 0)) (by (with_reducible repeat (first | refine z_kN ?_ _ | refine z_kD ?_ | refine z_kA ?_ _)); exact BK171.out) hb); have n1_ := z_aM (z_kB (g := gb172) (o := .cells #[.int .i64 a1_0, .int .i64 a1_1] 50 (0, 0)) (by (with_reducible repeat (first | refine z_kN ?_ _ | refine z_kD ?_ | refine z_kA ?_ _)); exact BK172.out) hb); have n2_ := z_aM (z_bT (by repeat (first | (with_reducible first | exact HB.out | apply z_bA | apply z_bN | apply z_bD | refine z_bS ?_ GE171.out | refine z_bS ?_ GE172.out) | exact HB.out)) hb); clear BK171; clear BK172; clear HB; have BK171 := n0_; have BK172 := n1_; have HB := n2_; clear n0_ n1_ n2_; (try clear hb); (try clear hb2); (try clear hk); (try clear hi)))
  go_ret
  exact ⟨by first | rfl | (simp [errW_none, errW_some] <;> rfl) | (simp [*, errW_none, errW_some] <;> rfl), by repeat (first | (with_reducible first | exact HB.out | apply z_bA | apply z_bN | apply z_bD | refine z_bS ?_ GE171.out | refine z_bS ?_ GE172.out) | exact HB.out)⟩
 ·rw [if_neg c4] at H
  have c4b0 : decide (t173 < 0) = false := decide_eq_false c4
  clear c4
  replace H := Option.bind_eq_some_iff.mp H
  obtain ⟨t174, A100, H⟩ := H
  replace H : ((laws_toRegion.f a1_0 a1_1).bind fun bt177 => ((spec_ClearCells.f k t174 bt177.1 bt177.2).bind fun t179 => ((laws_toArena.f k l0_0).bind fun t183 => ((laws_toRegion.f a1_0 a1_1).bind fun bt187 => ((impl_ClearCells.f k t183 bt187.1 bt187.2).bind fun t189 => ((laws_eqArena.f k t189 t179).bind fun t193 => (if t193 = true then ((laws_toArena.f k l0_0).bind fun t194 => ((laws_eqArena.f k t183 t194).bind fun t197 => (if t197 = true then ((laws_markArena.f k t183 1).bind fun bt198 => (if bt198.1 < 0 then (laws_FnExactClearCells.j0 k true l0_0 a1_0 a1_1 t179 t189) else ((laws_eqArena.f k t189 t179).bind fun t200 => (laws_FnExactClearCells.j0 k (!t200) l0_0 a1_0 a1_1 t179 t189)))) else (some false)))) else (some false)))))))) = some r := H
  have A10 := z_aM A100
  clear A100
  replace H := Option.bind_eq_some_iff.mp H
  obtain ⟨⟨t177, t178⟩, A110, H⟩ := H
  replace H : ((spec_ClearCells.f k t174 t177 t178).bind fun t179 => ((laws_toArena.f k l0_0).bind fun t183 => ((laws_toRegion.f a1_0 a1_1).bind fun bt187 => ((impl_ClearCells.f k t183 bt187.1 bt187.2).bind fun t189 => ((laws_eqArena.f k t189 t179).bind fun t193 => (if t193 = true then ((laws_toArena.f k l0_0).bind fun t194 => ((laws_eqArena.f k t183 t194).bind fun t197 => (if t197 = true then ((laws_markArena.f k t183 1).bind fun bt198 => (if bt198.1 < 0 then (laws_FnExactClearCells.j0 k true l0_0 a1_0 a1_1 t179 t189) else ((laws_eqArena.f k t189 t179).bind fun t200 => (laws_FnExactClearCells.j0 k (!t200) l0_0 a1_0 a1_1 t179 t189)))) else (some false)))) else (some false))))))) = some r := H
  have A11 := z_aM A110
  clear A110
  replace H := Option.bind_eq_some_iff.mp H
  obtain ⟨t179, A120, H⟩ := H
  replace H : ((laws_toArena.f k l0_0).bind fun t183 => ((laws_toRegion.f a1_0 a1_1).bind fun bt187 => ((impl_ClearCells.f k t183 bt187.1 bt187.2).bind fun t189 => ((laws_eqArena.f k t189 t179).bind fun t193 => (if t193 = true then ((laws_toArena.f k l0_0).bind fun t194 => ((laws_eqArena.f k t183 t194).bind fun t197 => (if t197 = true then ((laws_markArena.f k t183 1).bind fun bt198 => (if bt198.1 < 0 then (laws_FnExactClearCells.j0 k true l0_0 a1_0 a1_1 t179 t189) else ((laws_eqArena.f k t189 t179).bind fun t200 => (laws_FnExactClearCells.j0 k (!t200) l0_0 a1_0 a1_1 t179 t189)))) else (some false)))) else (some false)))))) = some r := H
  have A12 := z_aM A120
  clear A120
  replace H := Option.bind_eq_some_iff.mp H
  obtain ⟨t183, A130, H⟩ := H
  replace H : ((laws_toRegion.f a1_0 a1_1).bind fun bt187 => ((impl_ClearCells.f k t183 bt187.1 bt187.2).bind fun t189 => ((laws_eqArena.f k t189 t179).bind fun t193 => (if t193 = true then ((laws_toArena.f k l0_0).bind fun t194 => ((laws_eqArena.f k t183 t194).bind fun t197 => (if t197 = true then ((laws_markArena.f k t183 1).bind fun bt198 => (if bt198.1 < 0 then (laws_FnExactClearCells.j0 k true l0_0 a1_0 a1_1 t179 t189) else ((laws_eqArena.f k t189 t179).bind fun t200 => (laws_FnExactClearCells.j0 k (!t200) l0_0 a1_0 a1_1 t179 t189)))) else (some false)))) else (some false))))) = some r := H
  have A13 := z_aM A130
  clear A130
  replace H := Option.bind_eq_some_iff.mp H
  obtain ⟨⟨t187, t188⟩, A140, H⟩ := H
  replace H : ((impl_ClearCells.f k t183 t187 t188).bind fun t189 => ((laws_eqArena.f k t189 t179).bind fun t193 => (if t193 = true then ((laws_toArena.f k l0_0).bind fun t194 => ((laws_eqArena.f k t183 t194).bind fun t197 => (if t197 = true then ((laws_markArena.f k t183 1).bind fun bt198 => (if bt198.1 < 0 then (laws_FnExactClearCells.j0 k true l0_0 a1_0 a1_1 t179 t189) else ((laws_eqArena.f k t189 t179).bind fun t200 => (laws_FnExactClearCells.j0 k (!t200) l0_0 a1_0 a1_1 t179 t189)))) else (some false)))) else (some false)))) = some r := H
  have A14 := z_aM A140
  clear A140
  replace H := Option.bind_eq_some_iff.mp H
  obtain ⟨t189, A150, H⟩ := H
  replace H : ((laws_eqArena.f k t189 t179).bind fun t193 => (if t193 = true then ((laws_toArena.f k l0_0).bind fun t194 => ((laws_eqArena.f k t183 t194).bind fun t197 => (if t197 = true then ((laws_markArena.f k t183 1).bind fun bt198 => (if bt198.1 < 0 then (laws_FnExactClearCells.j0 k true l0_0 a1_0 a1_1 t179 t189) else ((laws_eqArena.f k t189 t179).bind fun t200 => (laws_FnExactClearCells.j0 k (!t200) l0_0 a1_0 a1_1 t179 t189)))) else (some false)))) else (some false))) = some r := H
  have A15 := z_aM A150
  clear A150
  replace H := Option.bind_eq_some_iff.mp H
  obtain ⟨t193, A160, H⟩ := H
  replace H : (if t193 = true then ((laws_toArena.f k l0_0).bind fun t194 => ((laws_eqArena.f k t183 t194).bind fun t197 => (if t197 = true then ((laws_markArena.f k t183 1).bind fun bt198 => (if bt198.1 < 0 then (laws_FnExactClearCells.j0 k true l0_0 a1_0 a1_1 t179 t189) else ((laws_eqArena.f k t189 t179).bind fun t200 => (laws_FnExactClearCells.j0 k (!t200) l0_0 a1_0 a1_1 t179 t189)))) else (some false)))) else (some false)) = some r := H
  have A16 := z_aM A160
  clear A160
  by_cases c17 : t193 = true
  ·subst c17
   have H1 : ((laws_toArena.f k l0_0).bind fun t194 => ((laws_eqArena.f k t183 t194).bind fun t197 => (if t197 = true then ((laws_markArena.f k t183 1).bind fun bt198 => (if bt198.1 < 0 then (laws_FnExactClearCells.j0 k true l0_0 a1_0 a1_1 t179 t189) else ((laws_eqArena.f k t189 t179).bind fun t200 => (laws_FnExactClearCells.j0 k (!t200) l0_0 a1_0 a1_1 t179 t189)))) else (some false)))) = some r := by rw [if_pos rfl] at H; exact H
   clear H
   have H := H1
   clear H1
   replace H := Option.bind_eq_some_iff.mp H
   obtain ⟨t194, A180, H⟩ := H
   replace H : ((laws_eqArena.f k t183 t194).bind fun t197 => (if t197 = true then ((laws_markArena.f k t183 1).bind fun bt198 => (if bt198.1 < 0 then (laws_FnExactClearCells.j0 k true l0_0 a1_0 a1_1 t179 t189) else ((laws_eqArena.f k t189 t179).bind fun t200 => (laws_FnExactClearCells.j0 k (!t200) l0_0 a1_0 a1_1 t179 t189)))) else (some false))) = some r := H
   have A18 := z_aM A180
   clear A180
   replace H := Option.bind_eq_some_iff.mp H
   obtain ⟨t197, A190, H⟩ := H
   replace H : (if t197 = true then ((laws_markArena.f k t183 1).bind fun bt198 => (if bt198.1 < 0 then (laws_FnExactClearCells.j0 k true l0_0 a1_0 a1_1 t179 t189) else ((laws_eqArena.f k t189 t179).bind fun t200 => (laws_FnExactClearCells.j0 k (!t200) l0_0 a1_0 a1_1 t179 t189)))) else (some false)) = some r := H
   have A19 := z_aM A190
   clear A190
   by_cases c20 : t197 = true
   ·subst c20
    have H1 : ((laws_markArena.f k t183 1).bind fun bt198 => (if bt198.1 < 0 then (laws_FnExactClearCells.j0 k true l0_0 a1_0 a1_1 t179 t189) else ((laws_eqArena.f k t189 t179).bind fun t200 => (laws_FnExactClearCells.j0 k (!t200) l0_0 a1_0 a1_1 t179 t189)))) = some r := by rw [if_pos rfl] at H; exact H
    clear H
    have H := H1
    clear H1
    replace H := Option.bind_eq_some_iff.mp H
    obtain ⟨⟨t198, t199⟩, A210, H⟩ := H
    replace H : (if t198 < 0 then (laws_FnExactClearCells.j0 k true l0_0 a1_0 a1_1 t179 t189) else ((laws_eqArena.f k t189 t179).bind fun t200 => (laws_FnExactClearCells.j0 k (!t200) l0_0 a1_0 a1_1 t179 t189))) = some r := H
    have A21 := z_aM A210
    clear A210
    have HC22 := z_aM H
    clear H
    go_enter Try.func14, Try.ntmps14
    try go_wp2_with (first | ((with_reducible refine gate_dst (N := 2) rfl ?_); refine box_event ?hg (N := 2) ?hd (cs := #[.slice A0_0 l0_0.length c0_0]) (t := 48) ?hr ?_; (case hd => rfl); (case hg => rfl); (case hr => first | (go_simp; done) | (go_simp; rfl)); intro gb171 hg w23 hbox hb; have n0_ := z_aM (z_bT (by repeat (first | (with_reducible first | exact HB.out | apply z_bA | apply z_bN | apply z_bD) | exact HB.out)) hb); have n1_ := z_aM (hbox); have n2_ := z_aM ((by rw [hg]; exact (z_bZ (by repeat (first | (with_reducible first | exact HB.out | apply z_bA | apply z_bN | apply z_bD) | exact HB.out))) : w.heap.size ≤ gb171)); have n3_ := z_aM ((by rw [hg]; exact (z_bZ (by repeat (first | (with_reducible first | exact HB.out | apply z_bA | apply z_bN | apply z_bD) | exact HB.out))) : w.heap.size ≤ gb171)); clear HB; have HB := n0_; have BK171 := n1_; have GW171 := n2_; have GE171 := n3_; clear n0_ n1_ n2_ n3_; clear hb hbox hg) | ((with_reducible refine gate_dst (N := 3) rfl ?_); refine box_event ?hg (N := 3) ?hd (cs := #[.int .i64 a1_0, .int .i64 a1_1]) (t := 50) ?hr ?_; (case hd => rfl); (case hg => rfl); (case hr => first | (go_simp; done) | (go_simp; rfl)); intro gb172 hg w24 hbox hb; have n0_ := z_aM (z_kB (g := gb171) (o := .cells #[.slice A0_0 l0_0.length c0_0] 48 (0, 0)) (by (with_reducible repeat (first | refine z_kN ?_ _ | refine z_kD ?_ | refine z_kA ?_ _)); exact BK171.out) hb); have n1_ := z_aM (z_bT (by repeat (first | (with_reducible first | exact HB.out | apply z_bA | apply z_bN | apply z_bD | refine z_bS ?_ GE171.out) | exact HB.out)) hb); have n2_ := z_aM (hbox); have n3_ := z_aM ((by rw [hg]; exact (z_bZ (by repeat (first | (with_reducible first | exact HB.out | apply z_bA | apply z_bN | apply z_bD | refine z_bS ?_ GE171.out) | exact HB.out))) : w.heap.size ≤ gb172)); have n4_ := z_aM ((by rw [hg]; exact (z_bZ (by repeat (first | (with_reducible first | exact HB.out | apply z_bA | apply z_bN | apply z_bD | refine z_bS ?_ GE171.out) | exact HB.out))) : w.heap.size ≤ gb172)); have n5_ := z_aM ((by rw [hg]; exact Nat.ne_of_lt (z_kL (g := gb171) (o := .cells #[.slice A0_0 l0_0.length c0_0] 48 (0, 0)) (by (with_reducible repeat (first | refine z_kN ?_ _ | refine z_kD ?_ | refine z_kA ?_ _)); exact BK171.out)) : gb171 ≠ gb172)); have n6_ := z_aM ((by rw [hg]; exact Nat.ne_of_gt (z_kL (g := gb171) (o := .cells #[.slice A0_0 l0_0.length c0_0] 48 (0, 0)) (by (with_reducible repeat (first | refine z_kN ?_ _ | refine z_kD ?_ | refine z_kA ?_ _)); exact BK171.out)) : gb172 ≠ gb171)); clear BK171; clear HB; have BK171 := n0_; have HB := n1_; have BK172 := n2_; have GW172 := n3_; have GE172 := n4_; have NB171_172 := n5_; have NB172_171 := n6_; clear n0_ n1_ n2_ n3_ n4_ n5_ n6_; clear hb hbox hg; have hnb25 := NB171_172.out; have hnc25 := NB172_171.out; have hcz26_0 : w24.cell? ⟨gb171, 0, none⟩ = some (.slice A0_0 l0_0.length c0_0) := (z_kC BK171.out 0).trans rfl; have hfz26_0 := blk_frozen BK171.out 0) | ((with_reducible refine gate_callee (f := 32) rfl ?_); refine goesL_ (some 15) rfl rfl Try.func32 (by kernel_rfl) rfl #[.agg #[.slice A0_0 l0_0.length c0_0], .int .i64 1048576] rfl (by (try simp only [List.map_toArray, List.map_cons, List.map_nil]); first | done | rfl | (simp only [List.length_drop, List.length_take]; rfl)) ?_; (with_reducible refine (laws_szArena.calls _ _ l0_0 1048576 t173 _ ?side1 ?side2 A3.out).mono ?_); (case side1 => repeat (first | exact (Kd.C_below HR0_0.out HB.out) | (with_reducible refine Kd.C_alloc ?_ _) | (with_reducible refine Kd.C_drewN ?_ _) | (with_reducible refine Kd.C_drew ?_))); (case side2 => exact HC0_0.out); rintro e w27 ⟨rfl, hb⟩; refine ⟨_, rfl, ?_⟩; have n0_ := z_aM (z_kB (g := gb171) (o := .cells #[.slice A0_0 l0_0.length c0_0] 48 (0, 0)) (by (with_reducible repeat (first | refine z_kN ?_ _ | refine z_kD ?_ | refine z_kA ?_ _)); exact BK171.out) hb); have n1_ := z_aM (z_kB (g := gb172) (o := .cells #[.int .i64 a1_0, .int .i64 a1_1] 50 (0, 0)) (by (with_reducible repeat (first | refine z_kN ?_ _ | refine z_kD ?_ | refine z_kA ?_ _)); exact BK172.out) hb); have n2_ := z_aM (z_bT (by repeat (first | (with_reducible first | exact HB.out | apply z_bA | apply z_bN | apply z_bD | refine z_bS ?_ GE171.out | refine z_bS ?_ GE172.out) | exact HB.out)) hb); clear BK171; clear BK172; clear HB; have BK171 := n0_; have BK172 := n1_; have HB := n2_; clear n0_ n1_ n2_; (try clear hb); (try clear hb2); (try clear hk); (try clear hi)))
    have n0_ := z_aM (z_kD BK171.out)
    have n1_ := z_aM (z_kD BK172.out)
    have n2_ := z_aM (z_bD HB.out)
    clear BK171
    clear BK172
    clear HB
    have BK171 := n0_
    have BK172 := n1_
    have HB := n2_
    clear n0_ n1_ n2_
    refine start_ (n := 7) (S := fun w' => w'.cell? ⟨gb171, 0, none⟩ = some (.slice A0_0 l0_0.length c0_0) ∧ w'.cell? ⟨gb172, 0, none⟩ = some (.int .i64 a1_0) ∧ w'.cell? ⟨gb172, 1, none⟩ = some (.int .i64 a1_1)) (ds := []) #[false, false, false, false, false, false, false] (by kernel_rfl) rfl rfl ⟨(z_kC BK171.out 0).trans rfl, (z_kC BK172.out 0).trans rfl, (z_kC BK172.out 1).trans rfl⟩ (fun hHeld => ?_)
    generalize w27.drew = w28 at BK171 BK172 HB hHeld ⊢
    refine take_ (i := 0) (N := some 18) (v := ?_) (a' := ?_) #[true, false, false, false, false, false, false] rfl rfl (by kernel_rfl) (fun _ _ _ h => h) (Or.inl ⟨by rfl, ?_⟩) hHeld ?_ ?_
    rotate_left
    ·rintro w' ⟨s0, s1, s2⟩
     go_simp
     with_reducible rfl
    rotate_left
    ·simp only [Act.put, z_lA, z_lZ, z_lS, i64_w, i32_w]
     rfl
    refine take_ (i := 2) (N := some 20) (v := ?_) (a' := ?_) #[true, false, true, false, false, false, false] rfl rfl (by kernel_rfl) (fun _ _ _ h => h) (Or.inl ⟨by rfl, ?_⟩) hHeld ?_ ?_
    rotate_left
    ·rintro w' ⟨s0, s1, s2⟩
     go_simp
     with_reducible rfl
    rotate_left
    ·simp only [Act.put, z_lA, z_lZ, z_lS, i64_w, i32_w]
     rfl
    refine join_ (σ := Value × Value × Nat) 1 #[true, true, true, true, true, true, false] (fun s_ => [(19, .agg #[s_.1]), (21, .agg #[.int .i64 t177, .int .i64 t178]), (22, .agg #[s_.2.1]), (6, .pointer (some ⟨s_.2.2, 0, none⟩))]) (fun s_ w' => (w'.cell? ⟨gb171, 0, none⟩ = some (.slice A0_0 l0_0.length c0_0) ∧ w'.cell? ⟨gb172, 0, none⟩ = some (.int .i64 a1_0) ∧ w'.cell? ⟨gb172, 1, none⟩ = some (.int .i64 a1_1)) ∧ (Kd.R (Kd.int .i64) 3 w' w.heap.size (fun k_ => some k_ ≠ (s_.2.1 : Value).ownBlock) s_.1 t174) ∧ (Kd.R (Kd.int .i64) 3 w' w.heap.size (fun k_ => some k_ ≠ (s_.1 : Value).ownBlock) s_.2.1 t179) ∧ (w'.heap[gb171]? = some (.cells #[.slice A0_0 l0_0.length c0_0] 48 (0, 0))) ∧ (w'.heap[gb172]? = some (.cells #[.int .i64 a1_0, .int .i64 a1_1] 50 (0, 0))) ∧ (w'.heap[s_.2.2]? = some (.cells #[.slice none 0 0] 54 (0, 0))) ∧ (w.heap.size ≤ s_.2.2) ∧ (w.heap.size ≤ s_.2.2) ∧ (gb171 ≠ s_.2.2) ∧ (s_.2.2 ≠ gb171) ∧ (gb172 ≠ s_.2.2) ∧ (s_.2.2 ≠ gb172) ∧ (Below w.heap.size w w')) ?_ ?_
    rotate_left
    ·intro hCont
     refine two_ (i := 1) (j := 5) (Ni := some 19) (Nj := some 6) #[true, true, true, false, false, false, false] #[true, false, true, false, false, true, false] rfl rfl rfl rfl (by kernel_rfl) (by decide) (by decide) (fun K hK => ?_) (fun K hK => ?_)
     ·skip
      refine goes_ Try.func34 (by kernel_rfl) rfl #[.agg #[.slice A0_0 l0_0.length c0_0]] (by rfl) rfl rfl (by (try simp only [List.map_toArray, List.map_cons, List.map_nil]); first | done | rfl | (simp only [List.length_drop, List.length_take]; rfl)) ?_
      with_reducible refine (laws_toArena.calls k _ _ l0_0 t174 _ ?side1 ?side2 A10.out).mono ?_
      (case side1 => repeat (first | exact (Kd.C_below HR0_0.out HB.out) | (with_reducible refine Kd.C_alloc ?_ _) | (with_reducible refine Kd.C_drewN ?_ _) | (with_reducible refine Kd.C_drew ?_)))
      (case side2 => exact HC0_0.out)
      rintro e w29 ⟨v175, rfl, ho0, hb⟩
      refine ⟨_, rfl, ?_⟩
      have n0_ := z_aM (Kd.R_lower ho0 (z_bZ (by repeat (first | (with_reducible first | exact HB.out | apply z_bA | apply z_bN | apply z_bD | refine z_bS ?_ GE171.out | refine z_bS ?_ GE172.out) | exact HB.out))))
      have n1_ := z_aM (z_kB (g := gb171) (o := .cells #[.slice A0_0 l0_0.length c0_0] 48 (0, 0)) (by (with_reducible repeat (first | refine z_kN ?_ _ | refine z_kD ?_ | refine z_kA ?_ _)); exact BK171.out) hb)
      have n2_ := z_aM (z_kB (g := gb172) (o := .cells #[.int .i64 a1_0, .int .i64 a1_1] 50 (0, 0)) (by (with_reducible repeat (first | refine z_kN ?_ _ | refine z_kD ?_ | refine z_kA ?_ _)); exact BK172.out) hb)
      have n3_ := z_aM (z_bT (by repeat (first | (with_reducible first | exact HB.out | apply z_bA | apply z_bN | apply z_bD | refine z_bS ?_ GE171.out | refine z_bS ?_ GE172.out) | exact HB.out)) hb)
      clear BK171
      clear BK172
      clear HB
      have HO176 := n0_
      have BK171 := n1_
      have BK172 := n2_
      have HB := n3_
      clear n0_ n1_ n2_ n3_
      (try clear hb)
      (try clear hb2)
      (try clear hk)
      (try clear hi)
      (try clear ho0)
      refine hK.out _ _ ⟨(z_kC BK171.out 0).trans rfl, (z_kC BK172.out 0).trans rfl, (z_kC BK172.out 1).trans rfl⟩ (fun hHeld => ?_)
      clear hK K
      refine norm_ (a' := ?_) ?_ ?_
      rotate_left
      ·show Act.put _ (some 19) _ = _
       simp only [Act.put, z_lA, z_lZ, z_lS, i64_w, i32_w]
       rfl
      refine two_ (i := 3) (j := 5) (Ni := some 21) (Nj := some 6) #[true, true, true, true, false, false, false] #[true, true, true, false, false, true, false] rfl rfl rfl rfl (by kernel_rfl) (by decide) (by decide) (fun K hK => ?_) (fun K hK => ?_)
      ·skip
       refine goes_ Try.func35 (by kernel_rfl) rfl #[.agg #[.int .i64 a1_0, .int .i64 a1_1]] (by rfl) rfl rfl (by (try simp only [List.map_toArray, List.map_cons, List.map_nil]); first | done | rfl | (simp only [List.length_drop, List.length_take]; rfl)) ?_
       with_reducible refine (laws_toRegion.calls a1_0 a1_1 t177 t178 _ A11.out).mono ?_
       rintro e w30 ⟨rfl, hb⟩
       refine ⟨_, rfl, ?_⟩
       have n0_ := z_aM (z_rB (by (with_reducible repeat (first | apply z_rA | apply z_rN | apply z_rD)); exact HO176.out) hb)
       have n1_ := z_aM (z_kB (g := gb171) (o := .cells #[.slice A0_0 l0_0.length c0_0] 48 (0, 0)) (by (with_reducible repeat (first | refine z_kN ?_ _ | refine z_kD ?_ | refine z_kA ?_ _)); exact BK171.out) hb)
       have n2_ := z_aM (z_kB (g := gb172) (o := .cells #[.int .i64 a1_0, .int .i64 a1_1] 50 (0, 0)) (by (with_reducible repeat (first | refine z_kN ?_ _ | refine z_kD ?_ | refine z_kA ?_ _)); exact BK172.out) hb)
       have n3_ := z_aM (z_bT (by repeat (first | (with_reducible first | exact HB.out | apply z_bA | apply z_bN | apply z_bD | refine z_bS ?_ GE171.out | refine z_bS ?_ GE172.out) | exact HB.out)) hb)
       clear HO176
       clear BK171
       clear BK172
       clear HB
       have HO176 := n0_
       have BK171 := n1_
       have BK172 := n2_
       have HB := n3_
       clear n0_ n1_ n2_ n3_
       (try clear hb)
       (try clear hb2)
       (try clear hk)
       (try clear hi)
       obtain ⟨Ao31, co31, eo31⟩ := Kd.R_slice HO176.out
       (first | subst eo31 | (injection eo31 with f1_ f2_ f3_; have f4_ := f1_.symm; have f5_ := f3_.symm; clear f1_ f2_ f3_; subst f4_; subst f5_))
       refine hK.out _ _ ⟨(z_kC BK171.out 0).trans rfl, (z_kC BK172.out 0).trans rfl, (z_kC BK172.out 1).trans rfl⟩ (fun hHeld => ?_)
       clear hK K
       refine norm_ (a' := ?_) ?_ ?_
       rotate_left
       ·show Act.put _ (some 21) _ = _
        simp only [Act.put, z_lA, z_lZ, z_lS, i64_w, i32_w]
        rfl
       refine two_ (i := 4) (j := 5) (Ni := some 22) (Nj := some 6) #[true, true, true, true, true, false, false] #[true, true, true, true, false, true, false] rfl rfl rfl rfl (by kernel_rfl) (by decide) (by decide) (fun K hK => ?_) (fun K hK => ?_)
       ·skip
        refine goes_ Try.func65 (by kernel_rfl) rfl #[.agg #[.slice Ao31 t174.length co31], .agg #[.int .i64 t177, .int .i64 t178]] (by rfl) rfl rfl (by (try simp only [List.map_toArray, List.map_cons, List.map_nil]); first | done | rfl | (simp only [List.length_drop, List.length_take]; rfl)) ?_
        with_reducible refine (spec_ClearCells.calls k _ _ t174 t177 t178 t179 _ ?side1 ?side2 A12.out).mono ?_
        (case side1 => repeat (first | exact (Kd.R_reads' HO176.out).2.2 | (with_reducible refine Kd.C_alloc ?_ _) | (with_reducible refine Kd.C_drewN ?_ _) | (with_reducible refine Kd.C_drew ?_)))
        (case side2 => exact (Kd.R_reads' HO176.out).2.1)
        rintro e w32 ⟨v180, rfl, ho0, hb⟩
        refine ⟨_, rfl, ?_⟩
        have n0_ := z_aM (Kd.R_elder' (by (with_reducible repeat (first | apply z_rA | apply z_rN | apply z_rD)); exact HO176.out) (Kd.R_base ho0) hb)
        have n1_ := z_aM (Kd.R_lower (Kd.R_new' ho0 (z_rL (by (with_reducible repeat (first | apply z_rA | apply z_rN | apply z_rD)); exact HO176.out))) (z_bZ (by repeat (first | (with_reducible first | exact HB.out | apply z_bA | apply z_bN | apply z_bD | refine z_bS ?_ GE171.out | refine z_bS ?_ GE172.out) | exact HB.out))))
        have n2_ := z_aM (z_kB (g := gb171) (o := .cells #[.slice A0_0 l0_0.length c0_0] 48 (0, 0)) (by (with_reducible repeat (first | refine z_kN ?_ _ | refine z_kD ?_ | refine z_kA ?_ _)); exact BK171.out) hb)
        have n3_ := z_aM (z_kB (g := gb172) (o := .cells #[.int .i64 a1_0, .int .i64 a1_1] 50 (0, 0)) (by (with_reducible repeat (first | refine z_kN ?_ _ | refine z_kD ?_ | refine z_kA ?_ _)); exact BK172.out) hb)
        have n4_ := z_aM (z_bT (by repeat (first | (with_reducible first | exact HB.out | apply z_bA | apply z_bN | apply z_bD | refine z_bS ?_ GE171.out | refine z_bS ?_ GE172.out) | exact HB.out)) hb)
        clear HO176
        clear BK171
        clear BK172
        clear HB
        have HO176 := n0_
        have HO181 := n1_
        have BK171 := n2_
        have BK172 := n3_
        have HB := n4_
        clear n0_ n1_ n2_ n3_ n4_
        (try clear hb)
        (try clear hb2)
        (try clear hk)
        (try clear hi)
        (try clear ho0)
        refine hK.out _ _ ⟨(z_kC BK171.out 0).trans rfl, (z_kC BK172.out 0).trans rfl, (z_kC BK172.out 1).trans rfl⟩ (fun hHeld => ?_)
        clear hK K
        refine norm_ (a' := ?_) ?_ ?_
        rotate_left
        ·show Act.put _ (some 22) _ = _
         simp only [Act.put, z_lA, z_lZ, z_lS, i64_w, i32_w]
         rfl
        refine one_ (i := 5) (N := some 6) #[true, true, true, true, true, true, false] rfl rfl (by kernel_rfl) (by decide) (fun K hK => ?_)
        refine box_step ?hg (N := 6) ?hd (cs := #[.slice none 0 0]) (t := 54) ?hr ?_; (case hd => rfl); (case hg => rfl); (case hr => first | (go_simp; done) | (go_simp; rfl))
        intro gb182 hg w33 hbox hb
        have n0_ := z_aM (z_rB (by (with_reducible repeat (first | apply z_rA | apply z_rN | apply z_rD)); exact HO176.out) hb)
        have n1_ := z_aM (z_rB (by (with_reducible repeat (first | apply z_rA | apply z_rN | apply z_rD)); exact HO181.out) hb)
        have n2_ := z_aM (z_kB (g := gb171) (o := .cells #[.slice A0_0 l0_0.length c0_0] 48 (0, 0)) (by (with_reducible repeat (first | refine z_kN ?_ _ | refine z_kD ?_ | refine z_kA ?_ _)); exact BK171.out) hb)
        have n3_ := z_aM (z_kB (g := gb172) (o := .cells #[.int .i64 a1_0, .int .i64 a1_1] 50 (0, 0)) (by (with_reducible repeat (first | refine z_kN ?_ _ | refine z_kD ?_ | refine z_kA ?_ _)); exact BK172.out) hb)
        have n4_ := z_aM (z_bT (by repeat (first | (with_reducible first | exact HB.out | apply z_bA | apply z_bN | apply z_bD | refine z_bS ?_ GE171.out | refine z_bS ?_ GE172.out) | exact HB.out)) hb)
        have n5_ := z_aM (hbox)
        have n6_ := z_aM ((by rw [hg]; exact (z_bZ (by repeat (first | (with_reducible first | exact HB.out | apply z_bA | apply z_bN | apply z_bD | refine z_bS ?_ GE171.out | refine z_bS ?_ GE172.out) | exact HB.out))) : w.heap.size ≤ gb182))
        have n7_ := z_aM ((by rw [hg]; exact (z_bZ (by repeat (first | (with_reducible first | exact HB.out | apply z_bA | apply z_bN | apply z_bD | refine z_bS ?_ GE171.out | refine z_bS ?_ GE172.out) | exact HB.out))) : w.heap.size ≤ gb182))
        have n8_ := z_aM ((by rw [hg]; exact Nat.ne_of_lt (z_kL (g := gb171) (o := .cells #[.slice A0_0 l0_0.length c0_0] 48 (0, 0)) (by (with_reducible repeat (first | refine z_kN ?_ _ | refine z_kD ?_ | refine z_kA ?_ _)); exact BK171.out)) : gb171 ≠ gb182))
        have n9_ := z_aM ((by rw [hg]; exact Nat.ne_of_gt (z_kL (g := gb171) (o := .cells #[.slice A0_0 l0_0.length c0_0] 48 (0, 0)) (by (with_reducible repeat (first | refine z_kN ?_ _ | refine z_kD ?_ | refine z_kA ?_ _)); exact BK171.out)) : gb182 ≠ gb171))
        have n10_ := z_aM ((by rw [hg]; exact Nat.ne_of_lt (z_kL (g := gb172) (o := .cells #[.int .i64 a1_0, .int .i64 a1_1] 50 (0, 0)) (by (with_reducible repeat (first | refine z_kN ?_ _ | refine z_kD ?_ | refine z_kA ?_ _)); exact BK172.out)) : gb172 ≠ gb182))
        have n11_ := z_aM ((by rw [hg]; exact Nat.ne_of_gt (z_kL (g := gb172) (o := .cells #[.int .i64 a1_0, .int .i64 a1_1] 50 (0, 0)) (by (with_reducible repeat (first | refine z_kN ?_ _ | refine z_kD ?_ | refine z_kA ?_ _)); exact BK172.out)) : gb182 ≠ gb172))
        clear HO176
        clear HO181
        clear BK171
        clear BK172
        clear HB
        have HO176 := n0_
        have HO181 := n1_
        have BK171 := n2_
        have BK172 := n3_
        have HB := n4_
        have BK182 := n5_
        have GW182 := n6_
        have GE182 := n7_
        have NB171_182 := n8_
        have NB182_171 := n9_
        have NB172_182 := n10_
        have NB182_172 := n11_
        clear n0_ n1_ n2_ n3_ n4_ n5_ n6_ n7_ n8_ n9_ n10_ n11_
        clear hb hbox hg
        refine hK.out _ _ ⟨(z_kC BK171.out 0).trans rfl, (z_kC BK172.out 0).trans rfl, (z_kC BK172.out 1).trans rfl⟩ (fun hHeld => ?_)
        clear hK K
        refine norm_ (a' := ?_) ?_ ?_
        rotate_left
        ·show Act.put _ (some 6) _ = _
         simp only [Act.put, z_lA, z_lZ, z_lS, i64_w, i32_w]
         rfl
        exact norm_ (by simp only [putAll, Act.put, z_lA, z_lZ, z_lS]) (hCont (.slice Ao31 t174.length co31, v180, gb182) _ ⟨hHeld, (by (with_reducible repeat (first | apply z_rA | apply z_rN | apply z_rD)); exact z_rM HO176.out (fun _ hk => hk.2)), (by (with_reducible repeat (first | apply z_rA | apply z_rN | apply z_rD)); exact z_rM HO181.out (fun _ hk => hk.2)), (by (with_reducible repeat (first | refine z_kN ?_ _ | refine z_kD ?_ | refine z_kA ?_ _)); exact BK171.out), (by (with_reducible repeat (first | refine z_kN ?_ _ | refine z_kD ?_ | refine z_kA ?_ _)); exact BK172.out), (by (with_reducible repeat (first | refine z_kN ?_ _ | refine z_kD ?_ | refine z_kA ?_ _)); exact BK182.out), GW182.out, GE182.out, NB171_182.out, NB182_171.out, NB172_182.out, NB182_172.out, (by repeat (first | (with_reducible first | exact HB.out | apply z_bA | apply z_bN | apply z_bD | refine z_bS ?_ GE171.out | refine z_bS ?_ GE172.out | refine z_bS ?_ GE182.out) | exact HB.out))⟩)
       ·skip
        refine box_step ?hg (N := 6) ?hd (cs := #[.slice none 0 0]) (t := 54) ?hr ?_; (case hd => rfl); (case hg => rfl); (case hr => first | (go_simp; done) | (go_simp; rfl))
        intro gb182 hg w31 hbox hb
        have n0_ := z_aM (z_rB (by (with_reducible repeat (first | apply z_rA | apply z_rN | apply z_rD)); exact HO176.out) hb)
        have n1_ := z_aM (z_kB (g := gb171) (o := .cells #[.slice A0_0 l0_0.length c0_0] 48 (0, 0)) (by (with_reducible repeat (first | refine z_kN ?_ _ | refine z_kD ?_ | refine z_kA ?_ _)); exact BK171.out) hb)
        have n2_ := z_aM (z_kB (g := gb172) (o := .cells #[.int .i64 a1_0, .int .i64 a1_1] 50 (0, 0)) (by (with_reducible repeat (first | refine z_kN ?_ _ | refine z_kD ?_ | refine z_kA ?_ _)); exact BK172.out) hb)
        have n3_ := z_aM (z_bT (by repeat (first | (with_reducible first | exact HB.out | apply z_bA | apply z_bN | apply z_bD | refine z_bS ?_ GE171.out | refine z_bS ?_ GE172.out) | exact HB.out)) hb)
        have n4_ := z_aM (hbox)
        have n5_ := z_aM ((by rw [hg]; exact (z_bZ (by repeat (first | (with_reducible first | exact HB.out | apply z_bA | apply z_bN | apply z_bD | refine z_bS ?_ GE171.out | refine z_bS ?_ GE172.out) | exact HB.out))) : w.heap.size ≤ gb182))
        have n6_ := z_aM ((by rw [hg]; exact (z_bZ (by repeat (first | (with_reducible first | exact HB.out | apply z_bA | apply z_bN | apply z_bD | refine z_bS ?_ GE171.out | refine z_bS ?_ GE172.out) | exact HB.out))) : w.heap.size ≤ gb182))
        have n7_ := z_aM ((by rw [hg]; exact Nat.ne_of_lt (z_kL (g := gb171) (o := .cells #[.slice A0_0 l0_0.length c0_0] 48 (0, 0)) (by (with_reducible repeat (first | refine z_kN ?_ _ | refine z_kD ?_ | refine z_kA ?_ _)); exact BK171.out)) : gb171 ≠ gb182))
        have n8_ := z_aM ((by rw [hg]; exact Nat.ne_of_gt (z_kL (g := gb171) (o := .cells #[.slice A0_0 l0_0.length c0_0] 48 (0, 0)) (by (with_reducible repeat (first | refine z_kN ?_ _ | refine z_kD ?_ | refine z_kA ?_ _)); exact BK171.out)) : gb182 ≠ gb171))
        have n9_ := z_aM ((by rw [hg]; exact Nat.ne_of_lt (z_kL (g := gb172) (o := .cells #[.int .i64 a1_0, .int .i64 a1_1] 50 (0, 0)) (by (with_reducible repeat (first | refine z_kN ?_ _ | refine z_kD ?_ | refine z_kA ?_ _)); exact BK172.out)) : gb172 ≠ gb182))
        have n10_ := z_aM ((by rw [hg]; exact Nat.ne_of_gt (z_kL (g := gb172) (o := .cells #[.int .i64 a1_0, .int .i64 a1_1] 50 (0, 0)) (by (with_reducible repeat (first | refine z_kN ?_ _ | refine z_kD ?_ | refine z_kA ?_ _)); exact BK172.out)) : gb182 ≠ gb172))
        clear HO176
        clear BK171
        clear BK172
        clear HB
        have HO176 := n0_
        have BK171 := n1_
        have BK172 := n2_
        have HB := n3_
        have BK182 := n4_
        have GW182 := n5_
        have GE182 := n6_
        have NB171_182 := n7_
        have NB182_171 := n8_
        have NB172_182 := n9_
        have NB182_172 := n10_
        clear n0_ n1_ n2_ n3_ n4_ n5_ n6_ n7_ n8_ n9_ n10_
        clear hb hbox hg
        obtain ⟨Ao32, co32, eo32⟩ := Kd.R_slice HO176.out
        (first | subst eo32 | (injection eo32 with f1_ f2_ f3_; have f4_ := f1_.symm; have f5_ := f3_.symm; clear f1_ f2_ f3_; subst f4_; subst f5_))
        refine hK.out _ _ ⟨(z_kC BK171.out 0).trans rfl, (z_kC BK172.out 0).trans rfl, (z_kC BK172.out 1).trans rfl⟩ (fun hHeld => ?_)
        clear hK K
        refine norm_ (a' := ?_) ?_ ?_
        rotate_left
        ·show Act.put _ (some 6) _ = _
         simp only [Act.put, z_lA, z_lZ, z_lS, i64_w, i32_w]
         rfl
        refine one_ (i := 4) (N := some 22) #[true, true, true, true, true, true, false] rfl rfl (by kernel_rfl) (by decide) (fun K hK => ?_)
        refine goes_ Try.func65 (by kernel_rfl) rfl #[.agg #[.slice Ao32 t174.length co32], .agg #[.int .i64 t177, .int .i64 t178]] (by rfl) rfl rfl (by (try simp only [List.map_toArray, List.map_cons, List.map_nil]); first | done | rfl | (simp only [List.length_drop, List.length_take]; rfl)) ?_
        with_reducible refine (spec_ClearCells.calls k _ _ t174 t177 t178 t179 _ ?side1 ?side2 A12.out).mono ?_
        (case side1 => repeat (first | exact (Kd.R_reads' HO176.out).2.2 | (with_reducible refine Kd.C_alloc ?_ _) | (with_reducible refine Kd.C_drewN ?_ _) | (with_reducible refine Kd.C_drew ?_)))
        (case side2 => exact (Kd.R_reads' HO176.out).2.1)
        rintro e w33 ⟨v180, rfl, ho0, hb⟩
        refine ⟨_, rfl, ?_⟩
        have n0_ := z_aM (Kd.R_elder' (by (with_reducible repeat (first | apply z_rA | apply z_rN | apply z_rD)); exact HO176.out) (Kd.R_base ho0) hb)
        have n1_ := z_aM (Kd.R_lower (Kd.R_new' ho0 (z_rL (by (with_reducible repeat (first | apply z_rA | apply z_rN | apply z_rD)); exact HO176.out))) (z_bZ (by repeat (first | (with_reducible first | exact HB.out | apply z_bA | apply z_bN | apply z_bD | refine z_bS ?_ GE171.out | refine z_bS ?_ GE172.out | refine z_bS ?_ GE182.out) | exact HB.out))))
        have n2_ := z_aM (z_kB (g := gb171) (o := .cells #[.slice A0_0 l0_0.length c0_0] 48 (0, 0)) (by (with_reducible repeat (first | refine z_kN ?_ _ | refine z_kD ?_ | refine z_kA ?_ _)); exact BK171.out) hb)
        have n3_ := z_aM (z_kB (g := gb172) (o := .cells #[.int .i64 a1_0, .int .i64 a1_1] 50 (0, 0)) (by (with_reducible repeat (first | refine z_kN ?_ _ | refine z_kD ?_ | refine z_kA ?_ _)); exact BK172.out) hb)
        have n4_ := z_aM (z_kB (g := gb182) (o := .cells #[.slice none 0 0] 54 (0, 0)) (by (with_reducible repeat (first | refine z_kN ?_ _ | refine z_kD ?_ | refine z_kA ?_ _)); exact BK182.out) hb)
        have n5_ := z_aM (z_bT (by repeat (first | (with_reducible first | exact HB.out | apply z_bA | apply z_bN | apply z_bD | refine z_bS ?_ GE171.out | refine z_bS ?_ GE172.out | refine z_bS ?_ GE182.out) | exact HB.out)) hb)
        clear HO176
        clear BK171
        clear BK172
        clear BK182
        clear HB
        have HO176 := n0_
        have HO181 := n1_
        have BK171 := n2_
        have BK172 := n3_
        have BK182 := n4_
        have HB := n5_
        clear n0_ n1_ n2_ n3_ n4_ n5_
        (try clear hb)
        (try clear hb2)
        (try clear hk)
        (try clear hi)
        (try clear ho0)
        refine hK.out _ _ ⟨(z_kC BK171.out 0).trans rfl, (z_kC BK172.out 0).trans rfl, (z_kC BK172.out 1).trans rfl⟩ (fun hHeld => ?_)
        clear hK K
        refine norm_ (a' := ?_) ?_ ?_
        rotate_left
        ·show Act.put _ (some 22) _ = _
         simp only [Act.put, z_lA, z_lZ, z_lS, i64_w, i32_w]
         rfl
        exact norm_ (by simp only [putAll, Act.put, z_lA, z_lZ, z_lS]) (hCont (.slice Ao32 t174.length co32, v180, gb182) _ ⟨hHeld, (by (with_reducible repeat (first | apply z_rA | apply z_rN | apply z_rD)); exact z_rM HO176.out (fun _ hk => hk.2)), (by (with_reducible repeat (first | apply z_rA | apply z_rN | apply z_rD)); exact z_rM HO181.out (fun _ hk => hk.2)), (by (with_reducible repeat (first | refine z_kN ?_ _ | refine z_kD ?_ | refine z_kA ?_ _)); exact BK171.out), (by (with_reducible repeat (first | refine z_kN ?_ _ | refine z_kD ?_ | refine z_kA ?_ _)); exact BK172.out), (by (with_reducible repeat (first | refine z_kN ?_ _ | refine z_kD ?_ | refine z_kA ?_ _)); exact BK182.out), GW182.out, GE182.out, NB171_182.out, NB182_171.out, NB172_182.out, NB182_172.out, (by repeat (first | (with_reducible first | exact HB.out | apply z_bA | apply z_bN | apply z_bD | refine z_bS ?_ GE171.out | refine z_bS ?_ GE172.out | refine z_bS ?_ GE182.out) | exact HB.out))⟩)
      ·skip
       refine box_step ?hg (N := 6) ?hd (cs := #[.slice none 0 0]) (t := 54) ?hr ?_; (case hd => rfl); (case hg => rfl); (case hr => first | (go_simp; done) | (go_simp; rfl))
       intro gb182 hg w30 hbox hb
       have n0_ := z_aM (z_rB (by (with_reducible repeat (first | apply z_rA | apply z_rN | apply z_rD)); exact HO176.out) hb)
       have n1_ := z_aM (z_kB (g := gb171) (o := .cells #[.slice A0_0 l0_0.length c0_0] 48 (0, 0)) (by (with_reducible repeat (first | refine z_kN ?_ _ | refine z_kD ?_ | refine z_kA ?_ _)); exact BK171.out) hb)
       have n2_ := z_aM (z_kB (g := gb172) (o := .cells #[.int .i64 a1_0, .int .i64 a1_1] 50 (0, 0)) (by (with_reducible repeat (first | refine z_kN ?_ _ | refine z_kD ?_ | refine z_kA ?_ _)); exact BK172.out) hb)
       have n3_ := z_aM (z_bT (by repeat (first | (with_reducible first | exact HB.out | apply z_bA | apply z_bN | apply z_bD | refine z_bS ?_ GE171.out | refine z_bS ?_ GE172.out) | exact HB.out)) hb)
       have n4_ := z_aM (hbox)
       have n5_ := z_aM ((by rw [hg]; exact (z_bZ (by repeat (first | (with_reducible first | exact HB.out | apply z_bA | apply z_bN | apply z_bD | refine z_bS ?_ GE171.out | refine z_bS ?_ GE172.out) | exact HB.out))) : w.heap.size ≤ gb182))
       have n6_ := z_aM ((by rw [hg]; exact (z_bZ (by repeat (first | (with_reducible first | exact HB.out | apply z_bA | apply z_bN | apply z_bD | refine z_bS ?_ GE171.out | refine z_bS ?_ GE172.out) | exact HB.out))) : w.heap.size ≤ gb182))
       have n7_ := z_aM ((by rw [hg]; exact Nat.ne_of_lt (z_kL (g := gb171) (o := .cells #[.slice A0_0 l0_0.length c0_0] 48 (0, 0)) (by (with_reducible repeat (first | refine z_kN ?_ _ | refine z_kD ?_ | refine z_kA ?_ _)); exact BK171.out)) : gb171 ≠ gb182))
       have n8_ := z_aM ((by rw [hg]; exact Nat.ne_of_gt (z_kL (g := gb171) (o := .cells #[.slice A0_0 l0_0.length c0_0] 48 (0, 0)) (by (with_reducible repeat (first | refine z_kN ?_ _ | refine z_kD ?_ | refine z_kA ?_ _)); exact BK171.out)) : gb182 ≠ gb171))
       have n9_ := z_aM ((by rw [hg]; exact Nat.ne_of_lt (z_kL (g := gb172) (o := .cells #[.int .i64 a1_0, .int .i64 a1_1] 50 (0, 0)) (by (with_reducible repeat (first | refine z_kN ?_ _ | refine z_kD ?_ | refine z_kA ?_ _)); exact BK172.out)) : gb172 ≠ gb182))
       have n10_ := z_aM ((by rw [hg]; exact Nat.ne_of_gt (z_kL (g := gb172) (o := .cells #[.int .i64 a1_0, .int .i64 a1_1] 50 (0, 0)) (by (with_reducible repeat (first | refine z_kN ?_ _ | refine z_kD ?_ | refine z_kA ?_ _)); exact BK172.out)) : gb182 ≠ gb172))
       clear HO176
       clear BK171
       clear BK172
       clear HB
       have HO176 := n0_
       have BK171 := n1_
       have BK172 := n2_
       have HB := n3_
       have BK182 := n4_
       have GW182 := n5_
       have GE182 := n6_
       have NB171_182 := n7_
       have NB182_171 := n8_
       have NB172_182 := n9_
       have NB182_172 := n10_
       clear n0_ n1_ n2_ n3_ n4_ n5_ n6_ n7_ n8_ n9_ n10_
       clear hb hbox hg
       refine hK.out _ _ ⟨(z_kC BK171.out 0).trans rfl, (z_kC BK172.out 0).trans rfl, (z_kC BK172.out 1).trans rfl⟩ (fun hHeld => ?_)
       clear hK K
       refine norm_ (a' := ?_) ?_ ?_
       rotate_left
       ·show Act.put _ (some 6) _ = _
        simp only [Act.put, z_lA, z_lZ, z_lS, i64_w, i32_w]
        rfl
       refine one_ (i := 3) (N := some 21) #[true, true, true, true, false, true, false] rfl rfl (by kernel_rfl) (by decide) (fun K hK => ?_)
       refine goes_ Try.func35 (by kernel_rfl) rfl #[.agg #[.int .i64 a1_0, .int .i64 a1_1]] (by rfl) rfl rfl (by (try simp only [List.map_toArray, List.map_cons, List.map_nil]); first | done | rfl | (simp only [List.length_drop, List.length_take]; rfl)) ?_
       with_reducible refine (laws_toRegion.calls a1_0 a1_1 t177 t178 _ A11.out).mono ?_
       rintro e w31 ⟨rfl, hb⟩
       refine ⟨_, rfl, ?_⟩
       have n0_ := z_aM (z_rB (by (with_reducible repeat (first | apply z_rA | apply z_rN | apply z_rD)); exact HO176.out) hb)
       have n1_ := z_aM (z_kB (g := gb171) (o := .cells #[.slice A0_0 l0_0.length c0_0] 48 (0, 0)) (by (with_reducible repeat (first | refine z_kN ?_ _ | refine z_kD ?_ | refine z_kA ?_ _)); exact BK171.out) hb)
       have n2_ := z_aM (z_kB (g := gb172) (o := .cells #[.int .i64 a1_0, .int .i64 a1_1] 50 (0, 0)) (by (with_reducible repeat (first | refine z_kN ?_ _ | refine z_kD ?_ | refine z_kA ?_ _)); exact BK172.out) hb)
       have n3_ := z_aM (z_kB (g := gb182) (o := .cells #[.slice none 0 0] 54 (0, 0)) (by (with_reducible repeat (first | refine z_kN ?_ _ | refine z_kD ?_ | refine z_kA ?_ _)); exact BK182.out) hb)
       have n4_ := z_aM (z_bT (by repeat (first | (with_reducible first | exact HB.out | apply z_bA | apply z_bN | apply z_bD | refine z_bS ?_ GE171.out | refine z_bS ?_ GE172.out | refine z_bS ?_ GE182.out) | exact HB.out)) hb)
       clear HO176
       clear BK171
       clear BK172
       clear BK182
       clear HB
       have HO176 := n0_
       have BK171 := n1_
       have BK172 := n2_
       have BK182 := n3_
       have HB := n4_
       clear n0_ n1_ n2_ n3_ n4_
       (try clear hb)
       (try clear hb2)
       (try clear hk)
       (try clear hi)
       obtain ⟨Ao32, co32, eo32⟩ := Kd.R_slice HO176.out
       (first | subst eo32 | (injection eo32 with f1_ f2_ f3_; have f4_ := f1_.symm; have f5_ := f3_.symm; clear f1_ f2_ f3_; subst f4_; subst f5_))
       refine hK.out _ _ ⟨(z_kC BK171.out 0).trans rfl, (z_kC BK172.out 0).trans rfl, (z_kC BK172.out 1).trans rfl⟩ (fun hHeld => ?_)
       clear hK K
       refine norm_ (a' := ?_) ?_ ?_
       rotate_left
       ·show Act.put _ (some 21) _ = _
        simp only [Act.put, z_lA, z_lZ, z_lS, i64_w, i32_w]
        rfl
       refine one_ (i := 4) (N := some 22) #[true, true, true, true, true, true, false] rfl rfl (by kernel_rfl) (by decide) (fun K hK => ?_)
       refine goes_ Try.func65 (by kernel_rfl) rfl #[.agg #[.slice Ao32 t174.length co32], .agg #[.int .i64 t177, .int .i64 t178]] (by rfl) rfl rfl (by (try simp only [List.map_toArray, List.map_cons, List.map_nil]); first | done | rfl | (simp only [List.length_drop, List.length_take]; rfl)) ?_
       with_reducible refine (spec_ClearCells.calls k _ _ t174 t177 t178 t179 _ ?side1 ?side2 A12.out).mono ?_
       (case side1 => repeat (first | exact (Kd.R_reads' HO176.out).2.2 | (with_reducible refine Kd.C_alloc ?_ _) | (with_reducible refine Kd.C_drewN ?_ _) | (with_reducible refine Kd.C_drew ?_)))
       (case side2 => exact (Kd.R_reads' HO176.out).2.1)
       rintro e w33 ⟨v180, rfl, ho0, hb⟩
       refine ⟨_, rfl, ?_⟩
       have n0_ := z_aM (Kd.R_elder' (by (with_reducible repeat (first | apply z_rA | apply z_rN | apply z_rD)); exact HO176.out) (Kd.R_base ho0) hb)
       have n1_ := z_aM (Kd.R_lower (Kd.R_new' ho0 (z_rL (by (with_reducible repeat (first | apply z_rA | apply z_rN | apply z_rD)); exact HO176.out))) (z_bZ (by repeat (first | (with_reducible first | exact HB.out | apply z_bA | apply z_bN | apply z_bD | refine z_bS ?_ GE171.out | refine z_bS ?_ GE172.out | refine z_bS ?_ GE182.out) | exact HB.out))))
       have n2_ := z_aM (z_kB (g := gb171) (o := .cells #[.slice A0_0 l0_0.length c0_0] 48 (0, 0)) (by (with_reducible repeat (first | refine z_kN ?_ _ | refine z_kD ?_ | refine z_kA ?_ _)); exact BK171.out) hb)
       have n3_ := z_aM (z_kB (g := gb172) (o := .cells #[.int .i64 a1_0, .int .i64 a1_1] 50 (0, 0)) (by (with_reducible repeat (first | refine z_kN ?_ _ | refine z_kD ?_ | refine z_kA ?_ _)); exact BK172.out) hb)
       have n4_ := z_aM (z_kB (g := gb182) (o := .cells #[.slice none 0 0] 54 (0, 0)) (by (with_reducible repeat (first | refine z_kN ?_ _ | refine z_kD ?_ | refine z_kA ?_ _)); exact BK182.out) hb)
       have n5_ := z_aM (z_bT (by repeat (first | (with_reducible first | exact HB.out | apply z_bA | apply z_bN | apply z_bD | refine z_bS ?_ GE171.out | refine z_bS ?_ GE172.out | refine z_bS ?_ GE182.out) | exact HB.out)) hb)
       clear HO176
       clear BK171
       clear BK172
       clear BK182
       clear HB
       have HO176 := n0_
       have HO181 := n1_
       have BK171 := n2_
       have BK172 := n3_
       have BK182 := n4_
       have HB := n5_
       clear n0_ n1_ n2_ n3_ n4_ n5_
       (try clear hb)
       (try clear hb2)
       (try clear hk)
       (try clear hi)
       (try clear ho0)
       refine hK.out _ _ ⟨(z_kC BK171.out 0).trans rfl, (z_kC BK172.out 0).trans rfl, (z_kC BK172.out 1).trans rfl⟩ (fun hHeld => ?_)
       clear hK K
       refine norm_ (a' := ?_) ?_ ?_
       rotate_left
       ·show Act.put _ (some 22) _ = _
        simp only [Act.put, z_lA, z_lZ, z_lS, i64_w, i32_w]
        rfl
       exact norm_ (by simp only [putAll, Act.put, z_lA, z_lZ, z_lS]) (hCont (.slice Ao32 t174.length co32, v180, gb182) _ ⟨hHeld, (by (with_reducible repeat (first | apply z_rA | apply z_rN | apply z_rD)); exact z_rM HO176.out (fun _ hk => hk.2)), (by (with_reducible repeat (first | apply z_rA | apply z_rN | apply z_rD)); exact z_rM HO181.out (fun _ hk => hk.2)), (by (with_reducible repeat (first | refine z_kN ?_ _ | refine z_kD ?_ | refine z_kA ?_ _)); exact BK171.out), (by (with_reducible repeat (first | refine z_kN ?_ _ | refine z_kD ?_ | refine z_kA ?_ _)); exact BK172.out), (by (with_reducible repeat (first | refine z_kN ?_ _ | refine z_kD ?_ | refine z_kA ?_ _)); exact BK182.out), GW182.out, GE182.out, NB171_182.out, NB182_171.out, NB172_182.out, NB182_172.out, (by repeat (first | (with_reducible first | exact HB.out | apply z_bA | apply z_bN | apply z_bD | refine z_bS ?_ GE171.out | refine z_bS ?_ GE172.out | refine z_bS ?_ GE182.out) | exact HB.out))⟩)
     ·skip
      refine box_step ?hg (N := 6) ?hd (cs := #[.slice none 0 0]) (t := 54) ?hr ?_; (case hd => rfl); (case hg => rfl); (case hr => first | (go_simp; done) | (go_simp; rfl))
      intro gb182 hg w29 hbox hb
      have n0_ := z_aM (z_kB (g := gb171) (o := .cells #[.slice A0_0 l0_0.length c0_0] 48 (0, 0)) (by (with_reducible repeat (first | refine z_kN ?_ _ | refine z_kD ?_ | refine z_kA ?_ _)); exact BK171.out) hb)
      have n1_ := z_aM (z_kB (g := gb172) (o := .cells #[.int .i64 a1_0, .int .i64 a1_1] 50 (0, 0)) (by (with_reducible repeat (first | refine z_kN ?_ _ | refine z_kD ?_ | refine z_kA ?_ _)); exact BK172.out) hb)
      have n2_ := z_aM (z_bT (by repeat (first | (with_reducible first | exact HB.out | apply z_bA | apply z_bN | apply z_bD | refine z_bS ?_ GE171.out | refine z_bS ?_ GE172.out) | exact HB.out)) hb)
      have n3_ := z_aM (hbox)
      have n4_ := z_aM ((by rw [hg]; exact (z_bZ (by repeat (first | (with_reducible first | exact HB.out | apply z_bA | apply z_bN | apply z_bD | refine z_bS ?_ GE171.out | refine z_bS ?_ GE172.out) | exact HB.out))) : w.heap.size ≤ gb182))
      have n5_ := z_aM ((by rw [hg]; exact (z_bZ (by repeat (first | (with_reducible first | exact HB.out | apply z_bA | apply z_bN | apply z_bD | refine z_bS ?_ GE171.out | refine z_bS ?_ GE172.out) | exact HB.out))) : w.heap.size ≤ gb182))
      have n6_ := z_aM ((by rw [hg]; exact Nat.ne_of_lt (z_kL (g := gb171) (o := .cells #[.slice A0_0 l0_0.length c0_0] 48 (0, 0)) (by (with_reducible repeat (first | refine z_kN ?_ _ | refine z_kD ?_ | refine z_kA ?_ _)); exact BK171.out)) : gb171 ≠ gb182))
      have n7_ := z_aM ((by rw [hg]; exact Nat.ne_of_gt (z_kL (g := gb171) (o := .cells #[.slice A0_0 l0_0.length c0_0] 48 (0, 0)) (by (with_reducible repeat (first | refine z_kN ?_ _ | refine z_kD ?_ | refine z_kA ?_ _)); exact BK171.out)) : gb182 ≠ gb171))
      have n8_ := z_aM ((by rw [hg]; exact Nat.ne_of_lt (z_kL (g := gb172) (o := .cells #[.int .i64 a1_0, .int .i64 a1_1] 50 (0, 0)) (by (with_reducible repeat (first | refine z_kN ?_ _ | refine z_kD ?_ | refine z_kA ?_ _)); exact BK172.out)) : gb172 ≠ gb182))
      have n9_ := z_aM ((by rw [hg]; exact Nat.ne_of_gt (z_kL (g := gb172) (o := .cells #[.int .i64 a1_0, .int .i64 a1_1] 50 (0, 0)) (by (with_reducible repeat (first | refine z_kN ?_ _ | refine z_kD ?_ | refine z_kA ?_ _)); exact BK172.out)) : gb182 ≠ gb172))
      clear BK171
      clear BK172
      clear HB
      have BK171 := n0_
      have BK172 := n1_
      have HB := n2_
      have BK182 := n3_
      have GW182 := n4_
      have GE182 := n5_
      have NB171_182 := n6_
      have NB182_171 := n7_
      have NB172_182 := n8_
      have NB182_172 := n9_
      clear n0_ n1_ n2_ n3_ n4_ n5_ n6_ n7_ n8_ n9_
      clear hb hbox hg
      refine hK.out _ _ ⟨(z_kC BK171.out 0).trans rfl, (z_kC BK172.out 0).trans rfl, (z_kC BK172.out 1).trans rfl⟩ (fun hHeld => ?_)
      clear hK K
      refine norm_ (a' := ?_) ?_ ?_
      rotate_left
      ·show Act.put _ (some 6) _ = _
       simp only [Act.put, z_lA, z_lZ, z_lS, i64_w, i32_w]
       rfl
      refine one_ (i := 1) (N := some 19) #[true, true, true, false, false, true, false] rfl rfl (by kernel_rfl) (by decide) (fun K hK => ?_)
      refine goes_ Try.func34 (by kernel_rfl) rfl #[.agg #[.slice A0_0 l0_0.length c0_0]] (by rfl) rfl rfl (by (try simp only [List.map_toArray, List.map_cons, List.map_nil]); first | done | rfl | (simp only [List.length_drop, List.length_take]; rfl)) ?_
      with_reducible refine (laws_toArena.calls k _ _ l0_0 t174 _ ?side1 ?side2 A10.out).mono ?_
      (case side1 => repeat (first | exact (Kd.C_below HR0_0.out HB.out) | (with_reducible refine Kd.C_alloc ?_ _) | (with_reducible refine Kd.C_drewN ?_ _) | (with_reducible refine Kd.C_drew ?_)))
      (case side2 => exact HC0_0.out)
      rintro e w30 ⟨v175, rfl, ho0, hb⟩
      refine ⟨_, rfl, ?_⟩
      have n0_ := z_aM (Kd.R_lower ho0 (z_bZ (by repeat (first | (with_reducible first | exact HB.out | apply z_bA | apply z_bN | apply z_bD | refine z_bS ?_ GE171.out | refine z_bS ?_ GE172.out | refine z_bS ?_ GE182.out) | exact HB.out))))
      have n1_ := z_aM (z_kB (g := gb171) (o := .cells #[.slice A0_0 l0_0.length c0_0] 48 (0, 0)) (by (with_reducible repeat (first | refine z_kN ?_ _ | refine z_kD ?_ | refine z_kA ?_ _)); exact BK171.out) hb)
      have n2_ := z_aM (z_kB (g := gb172) (o := .cells #[.int .i64 a1_0, .int .i64 a1_1] 50 (0, 0)) (by (with_reducible repeat (first | refine z_kN ?_ _ | refine z_kD ?_ | refine z_kA ?_ _)); exact BK172.out) hb)
      have n3_ := z_aM (z_kB (g := gb182) (o := .cells #[.slice none 0 0] 54 (0, 0)) (by (with_reducible repeat (first | refine z_kN ?_ _ | refine z_kD ?_ | refine z_kA ?_ _)); exact BK182.out) hb)
      have n4_ := z_aM (z_bT (by repeat (first | (with_reducible first | exact HB.out | apply z_bA | apply z_bN | apply z_bD | refine z_bS ?_ GE171.out | refine z_bS ?_ GE172.out | refine z_bS ?_ GE182.out) | exact HB.out)) hb)
      clear BK171
      clear BK172
      clear BK182
      clear HB
      have HO176 := n0_
      have BK171 := n1_
      have BK172 := n2_
      have BK182 := n3_
      have HB := n4_
      clear n0_ n1_ n2_ n3_ n4_
      (try clear hb)
      (try clear hb2)
      (try clear hk)
      (try clear hi)
      (try clear ho0)
      refine hK.out _ _ ⟨(z_kC BK171.out 0).trans rfl, (z_kC BK172.out 0).trans rfl, (z_kC BK172.out 1).trans rfl⟩ (fun hHeld => ?_)
      clear hK K
      refine norm_ (a' := ?_) ?_ ?_
      rotate_left
      ·show Act.put _ (some 19) _ = _
       simp only [Act.put, z_lA, z_lZ, z_lS, i64_w, i32_w]
       rfl
      refine one_ (i := 3) (N := some 21) #[true, true, true, true, false, true, false] rfl rfl (by kernel_rfl) (by decide) (fun K hK => ?_)
      refine goes_ Try.func35 (by kernel_rfl) rfl #[.agg #[.int .i64 a1_0, .int .i64 a1_1]] (by rfl) rfl rfl (by (try simp only [List.map_toArray, List.map_cons, List.map_nil]); first | done | rfl | (simp only [List.length_drop, List.length_take]; rfl)) ?_
      with_reducible refine (laws_toRegion.calls a1_0 a1_1 t177 t178 _ A11.out).mono ?_
      rintro e w31 ⟨rfl, hb⟩
      refine ⟨_, rfl, ?_⟩
      have n0_ := z_aM (z_rB (by (with_reducible repeat (first | apply z_rA | apply z_rN | apply z_rD)); exact HO176.out) hb)
      have n1_ := z_aM (z_kB (g := gb171) (o := .cells #[.slice A0_0 l0_0.length c0_0] 48 (0, 0)) (by (with_reducible repeat (first | refine z_kN ?_ _ | refine z_kD ?_ | refine z_kA ?_ _)); exact BK171.out) hb)
      have n2_ := z_aM (z_kB (g := gb172) (o := .cells #[.int .i64 a1_0, .int .i64 a1_1] 50 (0, 0)) (by (with_reducible repeat (first | refine z_kN ?_ _ | refine z_kD ?_ | refine z_kA ?_ _)); exact BK172.out) hb)
      have n3_ := z_aM (z_kB (g := gb182) (o := .cells #[.slice none 0 0] 54 (0, 0)) (by (with_reducible repeat (first | refine z_kN ?_ _ | refine z_kD ?_ | refine z_kA ?_ _)); exact BK182.out) hb)
      have n4_ := z_aM (z_bT (by repeat (first | (with_reducible first | exact HB.out | apply z_bA | apply z_bN | apply z_bD | refine z_bS ?_ GE171.out | refine z_bS ?_ GE172.out | refine z_bS ?_ GE182.out) | exact HB.out)) hb)
      clear HO176
      clear BK171
      clear BK172
      clear BK182
      clear HB
      have HO176 := n0_
      have BK171 := n1_
      have BK172 := n2_
      have BK182 := n3_
      have HB := n4_
      clear n0_ n1_ n2_ n3_ n4_
      (try clear hb)
      (try clear hb2)
      (try clear hk)
      (try clear hi)
      obtain ⟨Ao32, co32, eo32⟩ := Kd.R_slice HO176.out
      (first | subst eo32 | (injection eo32 with f1_ f2_ f3_; have f4_ := f1_.symm; have f5_ := f3_.symm; clear f1_ f2_ f3_; subst f4_; subst f5_))
      refine hK.out _ _ ⟨(z_kC BK171.out 0).trans rfl, (z_kC BK172.out 0).trans rfl, (z_kC BK172.out 1).trans rfl⟩ (fun hHeld => ?_)
      clear hK K
      refine norm_ (a' := ?_) ?_ ?_
      rotate_left
      ·show Act.put _ (some 21) _ = _
       simp only [Act.put, z_lA, z_lZ, z_lS, i64_w, i32_w]
       rfl
      refine one_ (i := 4) (N := some 22) #[true, true, true, true, true, true, false] rfl rfl (by kernel_rfl) (by decide) (fun K hK => ?_)
      refine goes_ Try.func65 (by kernel_rfl) rfl #[.agg #[.slice Ao32 t174.length co32], .agg #[.int .i64 t177, .int .i64 t178]] (by rfl) rfl rfl (by (try simp only [List.map_toArray, List.map_cons, List.map_nil]); first | done | rfl | (simp only [List.length_drop, List.length_take]; rfl)) ?_
      with_reducible refine (spec_ClearCells.calls k _ _ t174 t177 t178 t179 _ ?side1 ?side2 A12.out).mono ?_
      (case side1 => repeat (first | exact (Kd.R_reads' HO176.out).2.2 | (with_reducible refine Kd.C_alloc ?_ _) | (with_reducible refine Kd.C_drewN ?_ _) | (with_reducible refine Kd.C_drew ?_)))
      (case side2 => exact (Kd.R_reads' HO176.out).2.1)
      rintro e w33 ⟨v180, rfl, ho0, hb⟩
      refine ⟨_, rfl, ?_⟩
      have n0_ := z_aM (Kd.R_elder' (by (with_reducible repeat (first | apply z_rA | apply z_rN | apply z_rD)); exact HO176.out) (Kd.R_base ho0) hb)
      have n1_ := z_aM (Kd.R_lower (Kd.R_new' ho0 (z_rL (by (with_reducible repeat (first | apply z_rA | apply z_rN | apply z_rD)); exact HO176.out))) (z_bZ (by repeat (first | (with_reducible first | exact HB.out | apply z_bA | apply z_bN | apply z_bD | refine z_bS ?_ GE171.out | refine z_bS ?_ GE172.out | refine z_bS ?_ GE182.out) | exact HB.out))))
      have n2_ := z_aM (z_kB (g := gb171) (o := .cells #[.slice A0_0 l0_0.length c0_0] 48 (0, 0)) (by (with_reducible repeat (first | refine z_kN ?_ _ | refine z_kD ?_ | refine z_kA ?_ _)); exact BK171.out) hb)
      have n3_ := z_aM (z_kB (g := gb172) (o := .cells #[.int .i64 a1_0, .int .i64 a1_1] 50 (0, 0)) (by (with_reducible repeat (first | refine z_kN ?_ _ | refine z_kD ?_ | refine z_kA ?_ _)); exact BK172.out) hb)
      have n4_ := z_aM (z_kB (g := gb182) (o := .cells #[.slice none 0 0] 54 (0, 0)) (by (with_reducible repeat (first | refine z_kN ?_ _ | refine z_kD ?_ | refine z_kA ?_ _)); exact BK182.out) hb)
      have n5_ := z_aM (z_bT (by repeat (first | (with_reducible first | exact HB.out | apply z_bA | apply z_bN | apply z_bD | refine z_bS ?_ GE171.out | refine z_bS ?_ GE172.out | refine z_bS ?_ GE182.out) | exact HB.out)) hb)
      clear HO176
      clear BK171
      clear BK172
      clear BK182
      clear HB
      have HO176 := n0_
      have HO181 := n1_
      have BK171 := n2_
      have BK172 := n3_
      have BK182 := n4_
      have HB := n5_
      clear n0_ n1_ n2_ n3_ n4_ n5_
      (try clear hb)
      (try clear hb2)
      (try clear hk)
      (try clear hi)
      (try clear ho0)
      refine hK.out _ _ ⟨(z_kC BK171.out 0).trans rfl, (z_kC BK172.out 0).trans rfl, (z_kC BK172.out 1).trans rfl⟩ (fun hHeld => ?_)
      clear hK K
      refine norm_ (a' := ?_) ?_ ?_
      rotate_left
      ·show Act.put _ (some 22) _ = _
       simp only [Act.put, z_lA, z_lZ, z_lS, i64_w, i32_w]
       rfl
      exact norm_ (by simp only [putAll, Act.put, z_lA, z_lZ, z_lS]) (hCont (.slice Ao32 t174.length co32, v180, gb182) _ ⟨hHeld, (by (with_reducible repeat (first | apply z_rA | apply z_rN | apply z_rD)); exact z_rM HO176.out (fun _ hk => hk.2)), (by (with_reducible repeat (first | apply z_rA | apply z_rN | apply z_rD)); exact z_rM HO181.out (fun _ hk => hk.2)), (by (with_reducible repeat (first | refine z_kN ?_ _ | refine z_kD ?_ | refine z_kA ?_ _)); exact BK171.out), (by (with_reducible repeat (first | refine z_kN ?_ _ | refine z_kD ?_ | refine z_kA ?_ _)); exact BK172.out), (by (with_reducible repeat (first | refine z_kN ?_ _ | refine z_kD ?_ | refine z_kA ?_ _)); exact BK182.out), GW182.out, GE182.out, NB171_182.out, NB182_171.out, NB172_182.out, NB182_172.out, (by repeat (first | (with_reducible first | exact HB.out | apply z_bA | apply z_bN | apply z_bD | refine z_bS ?_ GE171.out | refine z_bS ?_ GE172.out | refine z_bS ?_ GE182.out) | exact HB.out))⟩)
    rintro ⟨v175, v180, gb182⟩ w34 ⟨hS_, h0_, h1_, h2_, h3_, h4_, h5_, h6_, h7_, h8_, h9_, h10_, h11_⟩
    have n0_ : Aside0 (Kd.R (Kd.int .i64) 3 w34 w.heap.size (fun k_ => some k_ ≠ (v180 : Value).ownBlock) v175 t174) := ⟨h0_⟩
    have n1_ : Aside0 (Kd.R (Kd.int .i64) 3 w34 w.heap.size (fun k_ => some k_ ≠ (v175 : Value).ownBlock) v180 t179) := ⟨h1_⟩
    have n2_ : Aside0 (w34.heap[gb171]? = some (.cells #[.slice A0_0 l0_0.length c0_0] 48 (0, 0))) := ⟨h2_⟩
    have n3_ : Aside0 (w34.heap[gb172]? = some (.cells #[.int .i64 a1_0, .int .i64 a1_1] 50 (0, 0))) := ⟨h3_⟩
    have n4_ : Aside0 (w34.heap[gb182]? = some (.cells #[.slice none 0 0] 54 (0, 0))) := ⟨h4_⟩
    have n5_ : Aside0 (w.heap.size ≤ gb182) := ⟨h5_⟩
    have n6_ : Aside0 (w.heap.size ≤ gb182) := ⟨h6_⟩
    have n7_ : Aside0 (gb171 ≠ gb182) := ⟨h7_⟩
    have n8_ : Aside0 (gb182 ≠ gb171) := ⟨h8_⟩
    have n9_ : Aside0 (gb172 ≠ gb182) := ⟨h9_⟩
    have n10_ : Aside0 (gb182 ≠ gb172) := ⟨h10_⟩
    have n11_ : Aside0 (Below w.heap.size w w34) := ⟨h11_⟩
    clear BK171
    clear BK172
    clear HB
    clear h0_ h1_ h2_ h3_ h4_ h5_ h6_ h7_ h8_ h9_ h10_ h11_
    have HO176 := n0_
    have HO181 := n1_
    have BK171 := n2_
    have BK172 := n3_
    have BK182 := n4_
    have GW182 := n5_
    have GE182 := n6_
    have NB171_182 := n7_
    have NB182_171 := n8_
    have NB172_182 := n9_
    have NB182_172 := n10_
    have HB := n11_
    clear n0_ n1_ n2_ n3_ n4_ n5_ n6_ n7_ n8_ n9_ n10_ n11_
    have hHeld : w34.cell? ⟨gb171, 0, none⟩ = some (.slice A0_0 l0_0.length c0_0) ∧ w34.cell? ⟨gb172, 0, none⟩ = some (.int .i64 a1_0) ∧ w34.cell? ⟨gb172, 1, none⟩ = some (.int .i64 a1_1) := hS_
    obtain ⟨Ao35, co35, eo35⟩ := Kd.R_slice HO181.out
    (first | subst eo35 | (injection eo35 with f1_ f2_ f3_; have f4_ := f1_.symm; have f5_ := f3_.symm; clear f1_ f2_ f3_; subst f4_; subst f5_))
    refine norm_ (a' := ?_) ?_ ?_
    rotate_left
    ·simp only [putAll, Act.put, z_lA, z_lZ, z_lS]
     rfl
    refine one_ (i := 6) (N := none) #[true, true, true, true, true, true, true] rfl rfl (by kernel_rfl) (by decide) (fun K hK => ?_)
    have hs36 : w34.cell? ⟨gb182, 0, none⟩ = some (.slice none 0 0) := (z_kC BK182.out 0).trans rfl
    have hfs36 := blk_frozen BK182.out 0
    have hns36_0 := NB171_182.out
    have hns36_1 := NB172_182.out
    have hms36_0 := NB182_171.out
    have hms36_1 := NB182_172.out
    refine skip_ (w1 := ?_) (by rfl) rfl ?_ ?_
    rotate_left
    ·go_simp
     rfl
    refine hK.out _ _ ⟨((cell_far (p := ⟨gb182, _, none⟩) NB171_182.out _).trans (hHeld.1)), ((cell_far (p := ⟨gb182, _, none⟩) NB172_182.out _).trans (hHeld.2.1)), ((cell_far (p := ⟨gb182, _, none⟩) NB172_182.out _).trans (hHeld.2.2))⟩ (fun hHeld => ?_)
    clear hK K
    refine done_ (by kernel_rfl) ?_
    have hnb37 := NB171_182.out
    have hnc37 := NB182_171.out
    have hcz38_0 : w34.cell? ⟨gb171, 0, none⟩ = some (.slice A0_0 l0_0.length c0_0) := (z_kC BK171.out 0).trans rfl
    have hfz38_0 := blk_frozen BK171.out 0
    try go_wp2_with (first | ((with_reducible refine gate_callee (f := 34) rfl ?_); refine goesL_ (some 24) rfl rfl Try.func34 (by kernel_rfl) rfl #[.agg #[.slice A0_0 l0_0.length c0_0]] rfl (by (try simp only [List.map_toArray, List.map_cons, List.map_nil]); first | done | rfl | (simp only [List.length_drop, List.length_take]; rfl)) ?_; (with_reducible refine (laws_toArena.calls k _ _ l0_0 t183 _ ?side1 ?side2 A13.out).mono ?_); (case side1 => exact Kd.C_below HR0_0.out (by repeat (first | (with_reducible first | exact HB.out | apply z_bA | apply z_bN | apply z_bD | refine z_bS ?_ GE171.out | refine z_bS ?_ GE172.out | refine z_bS ?_ GE182.out) | exact HB.out))); (case side2 => exact HC0_0.out); rintro e w39 ⟨v184, rfl, ho0, hb⟩; refine ⟨_, rfl, ?_⟩; have n0_ := z_aM (Kd.R_elder' (by (with_reducible repeat (first | apply z_rA | apply z_rN | apply z_rD)); exact (z_rM (Kd.R_far (p := ⟨gb182, 0, none⟩) (Kd.R_types HO176.out BK182.out (by decide)) (fun _ hk => hk.2) (.slice Ao35 t179.length co35)) (fun _ h_ => h_.1))) (Kd.R_base ho0) hb); have n1_ := z_aM (Kd.R_elder' (by (with_reducible repeat (first | apply z_rA | apply z_rN | apply z_rD)); exact (z_rM (Kd.R_far (p := ⟨gb182, 0, none⟩) (Kd.R_types HO181.out BK182.out (by decide)) (fun _ hk => hk.2) (.slice Ao35 t179.length co35)) (fun _ h_ => h_.1))) (Kd.R_base ho0) hb); have n2_ := z_aM (Kd.R_lower (Kd.R_new' (Kd.R_new' ho0 (z_rL (by (with_reducible repeat (first | apply z_rA | apply z_rN | apply z_rD)); exact (z_rM (Kd.R_far (p := ⟨gb182, 0, none⟩) (Kd.R_types HO176.out BK182.out (by decide)) (fun _ hk => hk.2) (.slice Ao35 t179.length co35)) (fun _ h_ => h_.1))))) (z_rL (by (with_reducible repeat (first | apply z_rA | apply z_rN | apply z_rD)); exact (z_rM (Kd.R_far (p := ⟨gb182, 0, none⟩) (Kd.R_types HO181.out BK182.out (by decide)) (fun _ hk => hk.2) (.slice Ao35 t179.length co35)) (fun _ h_ => h_.1))))) (z_bZ (by repeat (first | (with_reducible first | exact HB.out | apply z_bA | apply z_bN | apply z_bD | refine z_bS ?_ GE171.out | refine z_bS ?_ GE172.out | refine z_bS ?_ GE182.out) | exact HB.out)))); have n3_ := z_aM (z_kB (g := gb171) (o := .cells #[.slice A0_0 l0_0.length c0_0] 48 (0, 0)) (by (with_reducible repeat (first | refine z_kN ?_ _ | refine z_kD ?_ | refine z_kA ?_ _)); refine blk_far ?_ NB171_182.out _; (with_reducible repeat (first | refine z_kN ?_ _ | refine z_kD ?_ | refine z_kA ?_ _)); exact BK171.out) hb); have n4_ := z_aM (z_kB (g := gb172) (o := .cells #[.int .i64 a1_0, .int .i64 a1_1] 50 (0, 0)) (by (with_reducible repeat (first | refine z_kN ?_ _ | refine z_kD ?_ | refine z_kA ?_ _)); refine blk_far ?_ NB172_182.out _; (with_reducible repeat (first | refine z_kN ?_ _ | refine z_kD ?_ | refine z_kA ?_ _)); exact BK172.out) hb); have n5_ := z_aM (z_kB (g := gb182) (o := .cells #[.slice Ao35 t179.length co35] 54 (0, 0)) (by (with_reducible repeat (first | refine z_kN ?_ _ | refine z_kD ?_ | refine z_kA ?_ _)); refine blk_put (cs := #[.slice none 0 0]) ?_ 0 _ rfl; (with_reducible repeat (first | refine z_kN ?_ _ | refine z_kD ?_ | refine z_kA ?_ _)); exact BK182.out) hb); have n6_ := z_aM (z_bT (by repeat (first | (with_reducible first | exact HB.out | apply z_bA | apply z_bN | apply z_bD | refine z_bS ?_ GE171.out | refine z_bS ?_ GE172.out | refine z_bS ?_ GE182.out) | exact HB.out)) hb); clear HO176; clear HO181; clear BK171; clear BK172; clear BK182; clear HB; have HO176 := n0_; have HO181 := n1_; have HO185 := n2_; have BK171 := n3_; have BK172 := n4_; have BK182 := n5_; have HB := n6_; clear n0_ n1_ n2_ n3_ n4_ n5_ n6_; (try clear hb); (try clear hb2); (try clear hk); (try clear hi); (try clear ho0)) | ((with_reducible refine gate_dst (N := 7) rfl ?_); refine box_event ?hg (N := 7) ?hd (cs := #[.slice none 0 0]) (t := 54) ?hr ?_; (case hd => rfl); (case hg => rfl); (case hr => first | (go_simp; done) | (go_simp; rfl)); intro gb186 hg w40 hbox hb; have n0_ := z_aM (z_rB (by (with_reducible repeat (first | apply z_rA | apply z_rN | apply z_rD)); exact HO176.out) hb); have n1_ := z_aM (z_rB (by (with_reducible repeat (first | apply z_rA | apply z_rN | apply z_rD)); exact HO181.out) hb); have n2_ := z_aM (z_rB (by (with_reducible repeat (first | apply z_rA | apply z_rN | apply z_rD)); exact HO185.out) hb); have n3_ := z_aM (z_kB (g := gb171) (o := .cells #[.slice A0_0 l0_0.length c0_0] 48 (0, 0)) (by (with_reducible repeat (first | refine z_kN ?_ _ | refine z_kD ?_ | refine z_kA ?_ _)); exact BK171.out) hb); have n4_ := z_aM (z_kB (g := gb172) (o := .cells #[.int .i64 a1_0, .int .i64 a1_1] 50 (0, 0)) (by (with_reducible repeat (first | refine z_kN ?_ _ | refine z_kD ?_ | refine z_kA ?_ _)); exact BK172.out) hb); have n5_ := z_aM (z_kB (g := gb182) (o := .cells #[.slice Ao35 t179.length co35] 54 (0, 0)) (by (with_reducible repeat (first | refine z_kN ?_ _ | refine z_kD ?_ | refine z_kA ?_ _)); exact BK182.out) hb); have n6_ := z_aM (z_bT (by repeat (first | (with_reducible first | exact HB.out | apply z_bA | apply z_bN | apply z_bD | refine z_bS ?_ GE171.out | refine z_bS ?_ GE172.out | refine z_bS ?_ GE182.out) | exact HB.out)) hb); have n7_ := z_aM (hbox); have n8_ := z_aM ((by rw [hg]; exact (z_bZ (by repeat (first | (with_reducible first | exact HB.out | apply z_bA | apply z_bN | apply z_bD | refine z_bS ?_ GE171.out | refine z_bS ?_ GE172.out | refine z_bS ?_ GE182.out) | exact HB.out))) : w.heap.size ≤ gb186)); have n9_ := z_aM ((by rw [hg]; exact (z_bZ (by repeat (first | (with_reducible first | exact HB.out | apply z_bA | apply z_bN | apply z_bD | refine z_bS ?_ GE171.out | refine z_bS ?_ GE172.out | refine z_bS ?_ GE182.out) | exact HB.out))) : w.heap.size ≤ gb186)); have n10_ := z_aM ((by rw [hg]; exact Nat.ne_of_lt (z_kL (g := gb171) (o := .cells #[.slice A0_0 l0_0.length c0_0] 48 (0, 0)) (by (with_reducible repeat (first | refine z_kN ?_ _ | refine z_kD ?_ | refine z_kA ?_ _)); exact BK171.out)) : gb171 ≠ gb186)); have n11_ := z_aM ((by rw [hg]; exact Nat.ne_of_gt (z_kL (g := gb171) (o := .cells #[.slice A0_0 l0_0.length c0_0] 48 (0, 0)) (by (with_reducible repeat (first | refine z_kN ?_ _ | refine z_kD ?_ | refine z_kA ?_ _)); exact BK171.out)) : gb186 ≠ gb171)); have n12_ := z_aM ((by rw [hg]; exact Nat.ne_of_lt (z_kL (g := gb172) (o := .cells #[.int .i64 a1_0, .int .i64 a1_1] 50 (0, 0)) (by (with_reducible repeat (first | refine z_kN ?_ _ | refine z_kD ?_ | refine z_kA ?_ _)); exact BK172.out)) : gb172 ≠ gb186)); have n13_ := z_aM ((by rw [hg]; exact Nat.ne_of_gt (z_kL (g := gb172) (o := .cells #[.int .i64 a1_0, .int .i64 a1_1] 50 (0, 0)) (by (with_reducible repeat (first | refine z_kN ?_ _ | refine z_kD ?_ | refine z_kA ?_ _)); exact BK172.out)) : gb186 ≠ gb172)); have n14_ := z_aM ((by rw [hg]; exact Nat.ne_of_lt (z_kL (g := gb182) (o := .cells #[.slice Ao35 t179.length co35] 54 (0, 0)) (by (with_reducible repeat (first | refine z_kN ?_ _ | refine z_kD ?_ | refine z_kA ?_ _)); exact BK182.out)) : gb182 ≠ gb186)); have n15_ := z_aM ((by rw [hg]; exact Nat.ne_of_gt (z_kL (g := gb182) (o := .cells #[.slice Ao35 t179.length co35] 54 (0, 0)) (by (with_reducible repeat (first | refine z_kN ?_ _ | refine z_kD ?_ | refine z_kA ?_ _)); exact BK182.out)) : gb186 ≠ gb182)); clear HO176; clear HO181; clear HO185; clear BK171; clear BK172; clear BK182; clear HB; have HO176 := n0_; have HO181 := n1_; have HO185 := n2_; have BK171 := n3_; have BK172 := n4_; have BK182 := n5_; have HB := n6_; have BK186 := n7_; have GW186 := n8_; have GE186 := n9_; have NB171_186 := n10_; have NB186_171 := n11_; have NB172_186 := n12_; have NB186_172 := n13_; have NB182_186 := n14_; have NB186_182 := n15_; clear n0_ n1_ n2_ n3_ n4_ n5_ n6_ n7_ n8_ n9_ n10_ n11_ n12_ n13_ n14_ n15_; clear hb hbox hg; obtain ⟨Ao41, co41, eo41⟩ := Kd.R_slice HO185.out; subst eo41; have hnb42 := NB186_171.out; have hnc42 := NB171_186.out; have hnb43 := NB186_172.out; have hnc43 := NB172_186.out; have hnb44 := NB186_182.out; have hnc44 := NB182_186.out; have hcz45_0 : w40.cell? ⟨gb186, 0, none⟩ = some (.slice none 0 0) := (z_kC BK186.out 0).trans rfl; have hfz45_0 := blk_frozen BK186.out 0))
    have n0_ : Aside0 (Kd.R (Kd.int .i64) 3 (w40.setCell ⟨gb186, 0, none⟩ (.slice Ao41 t183.length co41)) w.heap.size (fun k_ => some k_ ≠ (.slice Ao35 t179.length co35 : Value).ownBlock ∧ some k_ ≠ (.slice Ao41 t183.length co41 : Value).ownBlock) v175 t174) := ⟨by (with_reducible repeat (first | apply z_rA | apply z_rN | apply z_rD)); exact z_rM (Kd.R_far (p := ⟨gb186, 0, none⟩) (Kd.R_types HO176.out BK186.out (by decide)) (fun _ hk => hk.2) (.slice Ao41 t183.length co41)) (fun _ hk => ⟨hk.1.1, hk.1.2⟩)⟩
    have n1_ : Aside0 (Kd.R (Kd.int .i64) 3 (w40.setCell ⟨gb186, 0, none⟩ (.slice Ao41 t183.length co41)) w.heap.size (fun k_ => some k_ ≠ (v175 : Value).ownBlock ∧ some k_ ≠ (.slice Ao41 t183.length co41 : Value).ownBlock) (.slice Ao35 t179.length co35) t179) := ⟨by (with_reducible repeat (first | apply z_rA | apply z_rN | apply z_rD)); exact z_rM (Kd.R_far (p := ⟨gb186, 0, none⟩) (Kd.R_types HO181.out BK186.out (by decide)) (fun _ hk => hk.2) (.slice Ao41 t183.length co41)) (fun _ hk => ⟨hk.1.1, hk.1.2⟩)⟩
    have n2_ : Aside0 (Kd.R (Kd.int .i64) 3 (w40.setCell ⟨gb186, 0, none⟩ (.slice Ao41 t183.length co41)) w.heap.size (fun k_ => some k_ ≠ (v175 : Value).ownBlock ∧ some k_ ≠ (.slice Ao35 t179.length co35 : Value).ownBlock) (.slice Ao41 t183.length co41) t183) := ⟨by (with_reducible repeat (first | apply z_rA | apply z_rN | apply z_rD)); exact z_rM (Kd.R_far (p := ⟨gb186, 0, none⟩) (Kd.R_types HO185.out BK186.out (by decide)) (fun _ hk => hk.2) (.slice Ao41 t183.length co41)) (fun _ hk => ⟨hk.1.1.2, hk.1.2⟩)⟩
    have n3_ : Aside0 ((w40.setCell ⟨gb186, 0, none⟩ (.slice Ao41 t183.length co41)).heap[gb171]? = some (.cells #[.slice A0_0 l0_0.length c0_0] 48 (0, 0))) := ⟨by (with_reducible repeat (first | refine z_kN ?_ _ | refine z_kD ?_ | refine z_kA ?_ _)); refine blk_far ?_ NB171_186.out _; (with_reducible repeat (first | refine z_kN ?_ _ | refine z_kD ?_ | refine z_kA ?_ _)); exact BK171.out⟩
    have n4_ : Aside0 ((w40.setCell ⟨gb186, 0, none⟩ (.slice Ao41 t183.length co41)).heap[gb172]? = some (.cells #[.int .i64 a1_0, .int .i64 a1_1] 50 (0, 0))) := ⟨by (with_reducible repeat (first | refine z_kN ?_ _ | refine z_kD ?_ | refine z_kA ?_ _)); refine blk_far ?_ NB172_186.out _; (with_reducible repeat (first | refine z_kN ?_ _ | refine z_kD ?_ | refine z_kA ?_ _)); exact BK172.out⟩
    have n5_ : Aside0 ((w40.setCell ⟨gb186, 0, none⟩ (.slice Ao41 t183.length co41)).heap[gb182]? = some (.cells #[.slice Ao35 t179.length co35] 54 (0, 0))) := ⟨by (with_reducible repeat (first | refine z_kN ?_ _ | refine z_kD ?_ | refine z_kA ?_ _)); refine blk_far ?_ NB182_186.out _; (with_reducible repeat (first | refine z_kN ?_ _ | refine z_kD ?_ | refine z_kA ?_ _)); exact BK182.out⟩
    have n6_ : Aside0 ((w40.setCell ⟨gb186, 0, none⟩ (.slice Ao41 t183.length co41)).heap[gb186]? = some (.cells #[.slice Ao41 t183.length co41] 54 (0, 0))) := ⟨by (with_reducible repeat (first | refine z_kN ?_ _ | refine z_kD ?_ | refine z_kA ?_ _)); refine blk_put (cs := #[.slice none 0 0]) ?_ 0 _ rfl; (with_reducible repeat (first | refine z_kN ?_ _ | refine z_kD ?_ | refine z_kA ?_ _)); exact BK186.out⟩
    have n7_ : Aside0 (Below w.heap.size w (w40.setCell ⟨gb186, 0, none⟩ (.slice Ao41 t183.length co41))) := ⟨by repeat (first | (with_reducible first | exact HB.out | apply z_bA | apply z_bN | apply z_bD | refine z_bS ?_ GE171.out | refine z_bS ?_ GE172.out | refine z_bS ?_ GE182.out | refine z_bS ?_ GE186.out) | exact HB.out)⟩
    (try clear HO176)
    (try clear HO181)
    (try clear HO185)
    (try clear BK171)
    (try clear BK172)
    (try clear BK182)
    (try clear BK186)
    (try clear HB)
    generalize (w40.setCell ⟨gb186, 0, none⟩ (.slice Ao41 t183.length co41)) = w46 at n0_ n1_ n2_ n3_ n4_ n5_ n6_ n7_ ⊢
    have HO176 := n0_
    have HO181 := n1_
    have HO185 := n2_
    have BK171 := n3_
    have BK172 := n4_
    have BK182 := n5_
    have BK186 := n6_
    have HB := n7_
    clear n0_ n1_ n2_ n3_ n4_ n5_ n6_ n7_
    have n0_ := z_aM (z_rD HO176.out)
    have n1_ := z_aM (z_rD HO181.out)
    have n2_ := z_aM (z_rD HO185.out)
    have n3_ := z_aM (z_kD BK171.out)
    have n4_ := z_aM (z_kD BK172.out)
    have n5_ := z_aM (z_kD BK182.out)
    have n6_ := z_aM (z_kD BK186.out)
    have n7_ := z_aM (z_bD HB.out)
    clear HO176
    clear HO181
    clear HO185
    clear BK171
    clear BK172
    clear BK182
    clear BK186
    clear HB
    have HO176 := n0_
    have HO181 := n1_
    have HO185 := n2_
    have BK171 := n3_
    have BK172 := n4_
    have BK182 := n5_
    have BK186 := n6_
    have HB := n7_
    clear n0_ n1_ n2_ n3_ n4_ n5_ n6_ n7_
    refine start_ (n := 6) (S := fun w' => w'.cell? ⟨gb186, 0, none⟩ = some (.slice Ao41 t183.length co41) ∧ w'.cell? ⟨gb172, 0, none⟩ = some (.int .i64 a1_0) ∧ w'.cell? ⟨gb172, 1, none⟩ = some (.int .i64 a1_1)) (ds := []) #[false, false, false, false, false, false] (by kernel_rfl) rfl rfl ⟨(z_kC BK186.out 0).trans rfl, (z_kC BK172.out 0).trans rfl, (z_kC BK172.out 1).trans rfl⟩ (fun hHeld => ?_)
    generalize w46.drew = w47 at HO176 HO181 HO185 BK171 BK172 BK182 BK186 HB hHeld ⊢
    refine take_ (i := 0) (N := some 25) (v := ?_) (a' := ?_) #[true, false, false, false, false, false] rfl rfl (by kernel_rfl) (fun _ _ _ h => h) (Or.inl ⟨by rfl, ?_⟩) hHeld ?_ ?_
    rotate_left
    ·rintro w' ⟨s0, s1, s2⟩
     go_simp
     with_reducible rfl
    rotate_left
    ·simp only [Act.put, z_lA, z_lZ, z_lS, i64_w, i32_w]
     rfl
    refine take_ (i := 1) (N := some 26) (v := ?_) (a' := ?_) #[true, true, false, false, false, false] rfl rfl (by kernel_rfl) (fun _ _ _ h => h) (Or.inl ⟨by rfl, ?_⟩) hHeld ?_ ?_
    rotate_left
    ·rintro w' ⟨s0, s1, s2⟩
     go_simp
     with_reducible rfl
    rotate_left
    ·simp only [Act.put, z_lA, z_lZ, z_lS, i64_w, i32_w]
     rfl
    refine join_ (σ := Value × Nat) 1 #[true, true, true, true, true, false] (fun s_ => [(27, .agg #[.int .i64 t187, .int .i64 t188]), (28, .agg #[s_.1]), (8, .pointer (some ⟨s_.2, 0, none⟩))]) (fun s_ w' => (w'.cell? ⟨gb186, 0, none⟩ = some (.slice Ao41 t183.length co41) ∧ w'.cell? ⟨gb172, 0, none⟩ = some (.int .i64 a1_0) ∧ w'.cell? ⟨gb172, 1, none⟩ = some (.int .i64 a1_1)) ∧ (Kd.R (Kd.int .i64) 3 w' w.heap.size (fun k_ => some k_ ≠ (.slice Ao35 t179.length co35 : Value).ownBlock ∧ some k_ ≠ (.slice Ao41 t183.length co41 : Value).ownBlock ∧ some k_ ≠ (s_.1 : Value).ownBlock) v175 t174) ∧ (Kd.R (Kd.int .i64) 3 w' w.heap.size (fun k_ => some k_ ≠ (v175 : Value).ownBlock ∧ some k_ ≠ (.slice Ao41 t183.length co41 : Value).ownBlock ∧ some k_ ≠ (s_.1 : Value).ownBlock) (.slice Ao35 t179.length co35) t179) ∧ (Kd.R (Kd.int .i64) 3 w' w.heap.size (fun k_ => some k_ ≠ (v175 : Value).ownBlock ∧ some k_ ≠ (.slice Ao35 t179.length co35 : Value).ownBlock ∧ some k_ ≠ (s_.1 : Value).ownBlock) (.slice Ao41 t183.length co41) t183) ∧ (Kd.R (Kd.int .i64) 3 w' w.heap.size (fun k_ => some k_ ≠ (v175 : Value).ownBlock ∧ some k_ ≠ (.slice Ao35 t179.length co35 : Value).ownBlock ∧ some k_ ≠ (.slice Ao41 t183.length co41 : Value).ownBlock) s_.1 t189) ∧ (w'.heap[gb171]? = some (.cells #[.slice A0_0 l0_0.length c0_0] 48 (0, 0))) ∧ (w'.heap[gb172]? = some (.cells #[.int .i64 a1_0, .int .i64 a1_1] 50 (0, 0))) ∧ (w'.heap[gb182]? = some (.cells #[.slice Ao35 t179.length co35] 54 (0, 0))) ∧ (w'.heap[gb186]? = some (.cells #[.slice Ao41 t183.length co41] 54 (0, 0))) ∧ (w'.heap[s_.2]? = some (.cells #[.slice none 0 0] 54 (0, 0))) ∧ (w.heap.size ≤ s_.2) ∧ (w.heap.size ≤ s_.2) ∧ (gb171 ≠ s_.2) ∧ (s_.2 ≠ gb171) ∧ (gb172 ≠ s_.2) ∧ (s_.2 ≠ gb172) ∧ (gb182 ≠ s_.2) ∧ (s_.2 ≠ gb182) ∧ (gb186 ≠ s_.2) ∧ (s_.2 ≠ gb186) ∧ (Below w.heap.size w w')) ?_ ?_
    rotate_left
    ·intro hCont
     refine two_ (i := 2) (j := 4) (Ni := some 27) (Nj := some 8) #[true, true, true, false, false, false] #[true, true, false, false, true, false] rfl rfl rfl rfl (by kernel_rfl) (by decide) (by decide) (fun K hK => ?_) (fun K hK => ?_)
     ·skip
      refine goes_ Try.func35 (by kernel_rfl) rfl #[.agg #[.int .i64 a1_0, .int .i64 a1_1]] (by rfl) rfl rfl (by (try simp only [List.map_toArray, List.map_cons, List.map_nil]); first | done | rfl | (simp only [List.length_drop, List.length_take]; rfl)) ?_
      with_reducible refine (laws_toRegion.calls a1_0 a1_1 t187 t188 _ A14.out).mono ?_
      rintro e w48 ⟨rfl, hb⟩
      refine ⟨_, rfl, ?_⟩
      have n0_ := z_aM (z_rB (by (with_reducible repeat (first | apply z_rA | apply z_rN | apply z_rD)); exact HO176.out) hb)
      have n1_ := z_aM (z_rB (by (with_reducible repeat (first | apply z_rA | apply z_rN | apply z_rD)); exact HO181.out) hb)
      have n2_ := z_aM (z_rB (by (with_reducible repeat (first | apply z_rA | apply z_rN | apply z_rD)); exact HO185.out) hb)
      have n3_ := z_aM (z_kB (g := gb171) (o := .cells #[.slice A0_0 l0_0.length c0_0] 48 (0, 0)) (by (with_reducible repeat (first | refine z_kN ?_ _ | refine z_kD ?_ | refine z_kA ?_ _)); exact BK171.out) hb)
      have n4_ := z_aM (z_kB (g := gb172) (o := .cells #[.int .i64 a1_0, .int .i64 a1_1] 50 (0, 0)) (by (with_reducible repeat (first | refine z_kN ?_ _ | refine z_kD ?_ | refine z_kA ?_ _)); exact BK172.out) hb)
      have n5_ := z_aM (z_kB (g := gb182) (o := .cells #[.slice Ao35 t179.length co35] 54 (0, 0)) (by (with_reducible repeat (first | refine z_kN ?_ _ | refine z_kD ?_ | refine z_kA ?_ _)); exact BK182.out) hb)
      have n6_ := z_aM (z_kB (g := gb186) (o := .cells #[.slice Ao41 t183.length co41] 54 (0, 0)) (by (with_reducible repeat (first | refine z_kN ?_ _ | refine z_kD ?_ | refine z_kA ?_ _)); exact BK186.out) hb)
      have n7_ := z_aM (z_bT (by repeat (first | (with_reducible first | exact HB.out | apply z_bA | apply z_bN | apply z_bD | refine z_bS ?_ GE171.out | refine z_bS ?_ GE172.out | refine z_bS ?_ GE182.out | refine z_bS ?_ GE186.out) | exact HB.out)) hb)
      clear HO176
      clear HO181
      clear HO185
      clear BK171
      clear BK172
      clear BK182
      clear BK186
      clear HB
      have HO176 := n0_
      have HO181 := n1_
      have HO185 := n2_
      have BK171 := n3_
      have BK172 := n4_
      have BK182 := n5_
      have BK186 := n6_
      have HB := n7_
      clear n0_ n1_ n2_ n3_ n4_ n5_ n6_ n7_
      (try clear hb)
      (try clear hb2)
      (try clear hk)
      (try clear hi)
      refine hK.out _ _ ⟨(z_kC BK186.out 0).trans rfl, (z_kC BK172.out 0).trans rfl, (z_kC BK172.out 1).trans rfl⟩ (fun hHeld => ?_)
      clear hK K
      refine norm_ (a' := ?_) ?_ ?_
      rotate_left
      ·show Act.put _ (some 27) _ = _
       simp only [Act.put, z_lA, z_lZ, z_lS, i64_w, i32_w]
       rfl
      refine two_ (i := 3) (j := 4) (Ni := some 28) (Nj := some 8) #[true, true, true, true, false, false] #[true, true, true, false, true, false] rfl rfl rfl rfl (by kernel_rfl) (by decide) (by decide) (fun K hK => ?_) (fun K hK => ?_)
      ·skip
       refine goes_ Try.func66 (by kernel_rfl) rfl #[.agg #[.slice Ao41 t183.length co41], .agg #[.int .i64 t187, .int .i64 t188]] (by rfl) rfl rfl (by (try simp only [List.map_toArray, List.map_cons, List.map_nil]); first | done | rfl | (simp only [List.length_drop, List.length_take]; rfl)) ?_
       with_reducible refine (impl_ClearCells.calls k _ _ t183 t187 t188 t189 _ ?side1 ?side2 A15.out).mono ?_
       (case side1 => repeat (first | exact (Kd.R_reads' HO185.out).2.2 | (with_reducible refine Kd.C_alloc ?_ _) | (with_reducible refine Kd.C_drewN ?_ _) | (with_reducible refine Kd.C_drew ?_)))
       (case side2 => exact (Kd.R_reads' HO185.out).2.1)
       rintro e w49 ⟨v190, rfl, ho0, hb⟩
       refine ⟨_, rfl, ?_⟩
       have n0_ := z_aM (Kd.R_elder' (by (with_reducible repeat (first | apply z_rA | apply z_rN | apply z_rD)); exact HO176.out) (Kd.R_base ho0) hb)
       have n1_ := z_aM (Kd.R_elder' (by (with_reducible repeat (first | apply z_rA | apply z_rN | apply z_rD)); exact HO181.out) (Kd.R_base ho0) hb)
       have n2_ := z_aM (Kd.R_elder' (by (with_reducible repeat (first | apply z_rA | apply z_rN | apply z_rD)); exact HO185.out) (Kd.R_base ho0) hb)
       have n3_ := z_aM (Kd.R_lower (Kd.R_new' (Kd.R_new' (Kd.R_new' ho0 (z_rL (by (with_reducible repeat (first | apply z_rA | apply z_rN | apply z_rD)); exact HO176.out))) (z_rL (by (with_reducible repeat (first | apply z_rA | apply z_rN | apply z_rD)); exact HO181.out))) (z_rL (by (with_reducible repeat (first | apply z_rA | apply z_rN | apply z_rD)); exact HO185.out))) (z_bZ (by repeat (first | (with_reducible first | exact HB.out | apply z_bA | apply z_bN | apply z_bD | refine z_bS ?_ GE171.out | refine z_bS ?_ GE172.out | refine z_bS ?_ GE182.out | refine z_bS ?_ GE186.out) | exact HB.out))))
       have n4_ := z_aM (z_kB (g := gb171) (o := .cells #[.slice A0_0 l0_0.length c0_0] 48 (0, 0)) (by (with_reducible repeat (first | refine z_kN ?_ _ | refine z_kD ?_ | refine z_kA ?_ _)); exact BK171.out) hb)
       have n5_ := z_aM (z_kB (g := gb172) (o := .cells #[.int .i64 a1_0, .int .i64 a1_1] 50 (0, 0)) (by (with_reducible repeat (first | refine z_kN ?_ _ | refine z_kD ?_ | refine z_kA ?_ _)); exact BK172.out) hb)
       have n6_ := z_aM (z_kB (g := gb182) (o := .cells #[.slice Ao35 t179.length co35] 54 (0, 0)) (by (with_reducible repeat (first | refine z_kN ?_ _ | refine z_kD ?_ | refine z_kA ?_ _)); exact BK182.out) hb)
       have n7_ := z_aM (z_kB (g := gb186) (o := .cells #[.slice Ao41 t183.length co41] 54 (0, 0)) (by (with_reducible repeat (first | refine z_kN ?_ _ | refine z_kD ?_ | refine z_kA ?_ _)); exact BK186.out) hb)
       have n8_ := z_aM (z_bT (by repeat (first | (with_reducible first | exact HB.out | apply z_bA | apply z_bN | apply z_bD | refine z_bS ?_ GE171.out | refine z_bS ?_ GE172.out | refine z_bS ?_ GE182.out | refine z_bS ?_ GE186.out) | exact HB.out)) hb)
       clear HO176
       clear HO181
       clear HO185
       clear BK171
       clear BK172
       clear BK182
       clear BK186
       clear HB
       have HO176 := n0_
       have HO181 := n1_
       have HO185 := n2_
       have HO191 := n3_
       have BK171 := n4_
       have BK172 := n5_
       have BK182 := n6_
       have BK186 := n7_
       have HB := n8_
       clear n0_ n1_ n2_ n3_ n4_ n5_ n6_ n7_ n8_
       (try clear hb)
       (try clear hb2)
       (try clear hk)
       (try clear hi)
       (try clear ho0)
       refine hK.out _ _ ⟨(z_kC BK186.out 0).trans rfl, (z_kC BK172.out 0).trans rfl, (z_kC BK172.out 1).trans rfl⟩ (fun hHeld => ?_)
       clear hK K
       refine norm_ (a' := ?_) ?_ ?_
       rotate_left
       ·show Act.put _ (some 28) _ = _
        simp only [Act.put, z_lA, z_lZ, z_lS, i64_w, i32_w]
        rfl
       refine one_ (i := 4) (N := some 8) #[true, true, true, true, true, false] rfl rfl (by kernel_rfl) (by decide) (fun K hK => ?_)
       refine box_step ?hg (N := 8) ?hd (cs := #[.slice none 0 0]) (t := 54) ?hr ?_; (case hd => rfl); (case hg => rfl); (case hr => first | (go_simp; done) | (go_simp; rfl))
       intro gb192 hg w50 hbox hb
       have n0_ := z_aM (z_rB (by (with_reducible repeat (first | apply z_rA | apply z_rN | apply z_rD)); exact HO176.out) hb)
       have n1_ := z_aM (z_rB (by (with_reducible repeat (first | apply z_rA | apply z_rN | apply z_rD)); exact HO181.out) hb)
       have n2_ := z_aM (z_rB (by (with_reducible repeat (first | apply z_rA | apply z_rN | apply z_rD)); exact HO185.out) hb)
       have n3_ := z_aM (z_rB (by (with_reducible repeat (first | apply z_rA | apply z_rN | apply z_rD)); exact HO191.out) hb)
       have n4_ := z_aM (z_kB (g := gb171) (o := .cells #[.slice A0_0 l0_0.length c0_0] 48 (0, 0)) (by (with_reducible repeat (first | refine z_kN ?_ _ | refine z_kD ?_ | refine z_kA ?_ _)); exact BK171.out) hb)
       have n5_ := z_aM (z_kB (g := gb172) (o := .cells #[.int .i64 a1_0, .int .i64 a1_1] 50 (0, 0)) (by (with_reducible repeat (first | refine z_kN ?_ _ | refine z_kD ?_ | refine z_kA ?_ _)); exact BK172.out) hb)
       have n6_ := z_aM (z_kB (g := gb182) (o := .cells #[.slice Ao35 t179.length co35] 54 (0, 0)) (by (with_reducible repeat (first | refine z_kN ?_ _ | refine z_kD ?_ | refine z_kA ?_ _)); exact BK182.out) hb)
       have n7_ := z_aM (z_kB (g := gb186) (o := .cells #[.slice Ao41 t183.length co41] 54 (0, 0)) (by (with_reducible repeat (first | refine z_kN ?_ _ | refine z_kD ?_ | refine z_kA ?_ _)); exact BK186.out) hb)
       have n8_ := z_aM (z_bT (by repeat (first | (with_reducible first | exact HB.out | apply z_bA | apply z_bN | apply z_bD | refine z_bS ?_ GE171.out | refine z_bS ?_ GE172.out | refine z_bS ?_ GE182.out | refine z_bS ?_ GE186.out) | exact HB.out)) hb)
       have n9_ := z_aM (hbox)
       have n10_ := z_aM ((by rw [hg]; exact (z_bZ (by repeat (first | (with_reducible first | exact HB.out | apply z_bA | apply z_bN | apply z_bD | refine z_bS ?_ GE171.out | refine z_bS ?_ GE172.out | refine z_bS ?_ GE182.out | refine z_bS ?_ GE186.out) | exact HB.out))) : w.heap.size ≤ gb192))
       have n11_ := z_aM ((by rw [hg]; exact (z_bZ (by repeat (first | (with_reducible first | exact HB.out | apply z_bA | apply z_bN | apply z_bD | refine z_bS ?_ GE171.out | refine z_bS ?_ GE172.out | refine z_bS ?_ GE182.out | refine z_bS ?_ GE186.out) | exact HB.out))) : w.heap.size ≤ gb192))
       have n12_ := z_aM ((by rw [hg]; exact Nat.ne_of_lt (z_kL (g := gb171) (o := .cells #[.slice A0_0 l0_0.length c0_0] 48 (0, 0)) (by (with_reducible repeat (first | refine z_kN ?_ _ | refine z_kD ?_ | refine z_kA ?_ _)); exact BK171.out)) : gb171 ≠ gb192))
       have n13_ := z_aM ((by rw [hg]; exact Nat.ne_of_gt (z_kL (g := gb171) (o := .cells #[.slice A0_0 l0_0.length c0_0] 48 (0, 0)) (by (with_reducible repeat (first | refine z_kN ?_ _ | refine z_kD ?_ | refine z_kA ?_ _)); exact BK171.out)) : gb192 ≠ gb171))
       have n14_ := z_aM ((by rw [hg]; exact Nat.ne_of_lt (z_kL (g := gb172) (o := .cells #[.int .i64 a1_0, .int .i64 a1_1] 50 (0, 0)) (by (with_reducible repeat (first | refine z_kN ?_ _ | refine z_kD ?_ | refine z_kA ?_ _)); exact BK172.out)) : gb172 ≠ gb192))
       have n15_ := z_aM ((by rw [hg]; exact Nat.ne_of_gt (z_kL (g := gb172) (o := .cells #[.int .i64 a1_0, .int .i64 a1_1] 50 (0, 0)) (by (with_reducible repeat (first | refine z_kN ?_ _ | refine z_kD ?_ | refine z_kA ?_ _)); exact BK172.out)) : gb192 ≠ gb172))
       have n16_ := z_aM ((by rw [hg]; exact Nat.ne_of_lt (z_kL (g := gb182) (o := .cells #[.slice Ao35 t179.length co35] 54 (0, 0)) (by (with_reducible repeat (first | refine z_kN ?_ _ | refine z_kD ?_ | refine z_kA ?_ _)); exact BK182.out)) : gb182 ≠ gb192))
       have n17_ := z_aM ((by rw [hg]; exact Nat.ne_of_gt (z_kL (g := gb182) (o := .cells #[.slice Ao35 t179.length co35] 54 (0, 0)) (by (with_reducible repeat (first | refine z_kN ?_ _ | refine z_kD ?_ | refine z_kA ?_ _)); exact BK182.out)) : gb192 ≠ gb182))
       have n18_ := z_aM ((by rw [hg]; exact Nat.ne_of_lt (z_kL (g := gb186) (o := .cells #[.slice Ao41 t183.length co41] 54 (0, 0)) (by (with_reducible repeat (first | refine z_kN ?_ _ | refine z_kD ?_ | refine z_kA ?_ _)); exact BK186.out)) : gb186 ≠ gb192))
       have n19_ := z_aM ((by rw [hg]; exact Nat.ne_of_gt (z_kL (g := gb186) (o := .cells #[.slice Ao41 t183.length co41] 54 (0, 0)) (by (with_reducible repeat (first | refine z_kN ?_ _ | refine z_kD ?_ | refine z_kA ?_ _)); exact BK186.out)) : gb192 ≠ gb186))
       clear HO176
       clear HO181
       clear HO185
       clear HO191
       clear BK171
       clear BK172
       clear BK182
       clear BK186
       clear HB
       have HO176 := n0_
       have HO181 := n1_
       have HO185 := n2_
       have HO191 := n3_
       have BK171 := n4_
       have BK172 := n5_
       have BK182 := n6_
       have BK186 := n7_
       have HB := n8_
       have BK192 := n9_
       have GW192 := n10_
       have GE192 := n11_
       have NB171_192 := n12_
       have NB192_171 := n13_
       have NB172_192 := n14_
       have NB192_172 := n15_
       have NB182_192 := n16_
       have NB192_182 := n17_
       have NB186_192 := n18_
       have NB192_186 := n19_
       clear n0_ n1_ n2_ n3_ n4_ n5_ n6_ n7_ n8_ n9_ n10_ n11_ n12_ n13_ n14_ n15_ n16_ n17_ n18_ n19_
       clear hb hbox hg
       refine hK.out _ _ ⟨(z_kC BK186.out 0).trans rfl, (z_kC BK172.out 0).trans rfl, (z_kC BK172.out 1).trans rfl⟩ (fun hHeld => ?_)
       clear hK K
       refine norm_ (a' := ?_) ?_ ?_
       rotate_left
       ·show Act.put _ (some 8) _ = _
        simp only [Act.put, z_lA, z_lZ, z_lS, i64_w, i32_w]
        rfl
       exact norm_ (by simp only [putAll, Act.put, z_lA, z_lZ, z_lS]) (hCont (v190, gb192) _ ⟨hHeld, (by (with_reducible repeat (first | apply z_rA | apply z_rN | apply z_rD)); exact z_rM HO176.out (fun _ hk => ⟨hk.1.1, ⟨hk.1.2, hk.2⟩⟩)), (by (with_reducible repeat (first | apply z_rA | apply z_rN | apply z_rD)); exact z_rM HO181.out (fun _ hk => ⟨hk.1.1, ⟨hk.1.2, hk.2⟩⟩)), (by (with_reducible repeat (first | apply z_rA | apply z_rN | apply z_rD)); exact z_rM HO185.out (fun _ hk => ⟨hk.1.1, ⟨hk.1.2, hk.2⟩⟩)), (by (with_reducible repeat (first | apply z_rA | apply z_rN | apply z_rD)); exact z_rM HO191.out (fun _ hk => ⟨hk.1.1.2, ⟨hk.1.2, hk.2⟩⟩)), (by (with_reducible repeat (first | refine z_kN ?_ _ | refine z_kD ?_ | refine z_kA ?_ _)); exact BK171.out), (by (with_reducible repeat (first | refine z_kN ?_ _ | refine z_kD ?_ | refine z_kA ?_ _)); exact BK172.out), (by (with_reducible repeat (first | refine z_kN ?_ _ | refine z_kD ?_ | refine z_kA ?_ _)); exact BK182.out), (by (with_reducible repeat (first | refine z_kN ?_ _ | refine z_kD ?_ | refine z_kA ?_ _)); exact BK186.out), (by (with_reducible repeat (first | refine z_kN ?_ _ | refine z_kD ?_ | refine z_kA ?_ _)); exact BK192.out), GW192.out, GE192.out, NB171_192.out, NB192_171.out, NB172_192.out, NB192_172.out, NB182_192.out, NB192_182.out, NB186_192.out, NB192_186.out, (by repeat (first | (with_reducible first | exact HB.out | apply z_bA | apply z_bN | apply z_bD | refine z_bS ?_ GE171.out | refine z_bS ?_ GE172.out | refine z_bS ?_ GE182.out | refine z_bS ?_ GE186.out | refine z_bS ?_ GE192.out) | exact HB.out))⟩)
      ·skip
       refine box_step ?hg (N := 8) ?hd (cs := #[.slice none 0 0]) (t := 54) ?hr ?_; (case hd => rfl); (case hg => rfl); (case hr => first | (go_simp; done) | (go_simp; rfl))
       intro gb192 hg w49 hbox hb
       have n0_ := z_aM (z_rB (by (with_reducible repeat (first | apply z_rA | apply z_rN | apply z_rD)); exact HO176.out) hb)
       have n1_ := z_aM (z_rB (by (with_reducible repeat (first | apply z_rA | apply z_rN | apply z_rD)); exact HO181.out) hb)
       have n2_ := z_aM (z_rB (by (with_reducible repeat (first | apply z_rA | apply z_rN | apply z_rD)); exact HO185.out) hb)
       have n3_ := z_aM (z_kB (g := gb171) (o := .cells #[.slice A0_0 l0_0.length c0_0] 48 (0, 0)) (by (with_reducible repeat (first | refine z_kN ?_ _ | refine z_kD ?_ | refine z_kA ?_ _)); exact BK171.out) hb)
       have n4_ := z_aM (z_kB (g := gb172) (o := .cells #[.int .i64 a1_0, .int .i64 a1_1] 50 (0, 0)) (by (with_reducible repeat (first | refine z_kN ?_ _ | refine z_kD ?_ | refine z_kA ?_ _)); exact BK172.out) hb)
       have n5_ := z_aM (z_kB (g := gb182) (o := .cells #[.slice Ao35 t179.length co35] 54 (0, 0)) (by (with_reducible repeat (first | refine z_kN ?_ _ | refine z_kD ?_ | refine z_kA ?_ _)); exact BK182.out) hb)
       have n6_ := z_aM (z_kB (g := gb186) (o := .cells #[.slice Ao41 t183.length co41] 54 (0, 0)) (by (with_reducible repeat (first | refine z_kN ?_ _ | refine z_kD ?_ | refine z_kA ?_ _)); exact BK186.out) hb)
       have n7_ := z_aM (z_bT (by repeat (first | (with_reducible first | exact HB.out | apply z_bA | apply z_bN | apply z_bD | refine z_bS ?_ GE171.out | refine z_bS ?_ GE172.out | refine z_bS ?_ GE182.out | refine z_bS ?_ GE186.out) | exact HB.out)) hb)
       have n8_ := z_aM (hbox)
       have n9_ := z_aM ((by rw [hg]; exact (z_bZ (by repeat (first | (with_reducible first | exact HB.out | apply z_bA | apply z_bN | apply z_bD | refine z_bS ?_ GE171.out | refine z_bS ?_ GE172.out | refine z_bS ?_ GE182.out | refine z_bS ?_ GE186.out) | exact HB.out))) : w.heap.size ≤ gb192))
       have n10_ := z_aM ((by rw [hg]; exact (z_bZ (by repeat (first | (with_reducible first | exact HB.out | apply z_bA | apply z_bN | apply z_bD | refine z_bS ?_ GE171.out | refine z_bS ?_ GE172.out | refine z_bS ?_ GE182.out | refine z_bS ?_ GE186.out) | exact HB.out))) : w.heap.size ≤ gb192))
       have n11_ := z_aM ((by rw [hg]; exact Nat.ne_of_lt (z_kL (g := gb171) (o := .cells #[.slice A0_0 l0_0.length c0_0] 48 (0, 0)) (by (with_reducible repeat (first | refine z_kN ?_ _ | refine z_kD ?_ | refine z_kA ?_ _)); exact BK171.out)) : gb171 ≠ gb192))
       have n12_ := z_aM ((by rw [hg]; exact Nat.ne_of_gt (z_kL (g := gb171) (o := .cells #[.slice A0_0 l0_0.length c0_0] 48 (0, 0)) (by (with_reducible repeat (first | refine z_kN ?_ _ | refine z_kD ?_ | refine z_kA ?_ _)); exact BK171.out)) : gb192 ≠ gb171))
       have n13_ := z_aM ((by rw [hg]; exact Nat.ne_of_lt (z_kL (g := gb172) (o := .cells #[.int .i64 a1_0, .int .i64 a1_1] 50 (0, 0)) (by (with_reducible repeat (first | refine z_kN ?_ _ | refine z_kD ?_ | refine z_kA ?_ _)); exact BK172.out)) : gb172 ≠ gb192))
       have n14_ := z_aM ((by rw [hg]; exact Nat.ne_of_gt (z_kL (g := gb172) (o := .cells #[.int .i64 a1_0, .int .i64 a1_1] 50 (0, 0)) (by (with_reducible repeat (first | refine z_kN ?_ _ | refine z_kD ?_ | refine z_kA ?_ _)); exact BK172.out)) : gb192 ≠ gb172))
       have n15_ := z_aM ((by rw [hg]; exact Nat.ne_of_lt (z_kL (g := gb182) (o := .cells #[.slice Ao35 t179.length co35] 54 (0, 0)) (by (with_reducible repeat (first | refine z_kN ?_ _ | refine z_kD ?_ | refine z_kA ?_ _)); exact BK182.out)) : gb182 ≠ gb192))
       have n16_ := z_aM ((by rw [hg]; exact Nat.ne_of_gt (z_kL (g := gb182) (o := .cells #[.slice Ao35 t179.length co35] 54 (0, 0)) (by (with_reducible repeat (first | refine z_kN ?_ _ | refine z_kD ?_ | refine z_kA ?_ _)); exact BK182.out)) : gb192 ≠ gb182))
       have n17_ := z_aM ((by rw [hg]; exact Nat.ne_of_lt (z_kL (g := gb186) (o := .cells #[.slice Ao41 t183.length co41] 54 (0, 0)) (by (with_reducible repeat (first | refine z_kN ?_ _ | refine z_kD ?_ | refine z_kA ?_ _)); exact BK186.out)) : gb186 ≠ gb192))
       have n18_ := z_aM ((by rw [hg]; exact Nat.ne_of_gt (z_kL (g := gb186) (o := .cells #[.slice Ao41 t183.length co41] 54 (0, 0)) (by (with_reducible repeat (first | refine z_kN ?_ _ | refine z_kD ?_ | refine z_kA ?_ _)); exact BK186.out)) : gb192 ≠ gb186))
       clear HO176
       clear HO181
       clear HO185
       clear BK171
       clear BK172
       clear BK182
       clear BK186
       clear HB
       have HO176 := n0_
       have HO181 := n1_
       have HO185 := n2_
       have BK171 := n3_
       have BK172 := n4_
       have BK182 := n5_
       have BK186 := n6_
       have HB := n7_
       have BK192 := n8_
       have GW192 := n9_
       have GE192 := n10_
       have NB171_192 := n11_
       have NB192_171 := n12_
       have NB172_192 := n13_
       have NB192_172 := n14_
       have NB182_192 := n15_
       have NB192_182 := n16_
       have NB186_192 := n17_
       have NB192_186 := n18_
       clear n0_ n1_ n2_ n3_ n4_ n5_ n6_ n7_ n8_ n9_ n10_ n11_ n12_ n13_ n14_ n15_ n16_ n17_ n18_
       clear hb hbox hg
       refine hK.out _ _ ⟨(z_kC BK186.out 0).trans rfl, (z_kC BK172.out 0).trans rfl, (z_kC BK172.out 1).trans rfl⟩ (fun hHeld => ?_)
       clear hK K
       refine norm_ (a' := ?_) ?_ ?_
       rotate_left
       ·show Act.put _ (some 8) _ = _
        simp only [Act.put, z_lA, z_lZ, z_lS, i64_w, i32_w]
        rfl
       refine one_ (i := 3) (N := some 28) #[true, true, true, true, true, false] rfl rfl (by kernel_rfl) (by decide) (fun K hK => ?_)
       refine goes_ Try.func66 (by kernel_rfl) rfl #[.agg #[.slice Ao41 t183.length co41], .agg #[.int .i64 t187, .int .i64 t188]] (by rfl) rfl rfl (by (try simp only [List.map_toArray, List.map_cons, List.map_nil]); first | done | rfl | (simp only [List.length_drop, List.length_take]; rfl)) ?_
       with_reducible refine (impl_ClearCells.calls k _ _ t183 t187 t188 t189 _ ?side1 ?side2 A15.out).mono ?_
       (case side1 => repeat (first | exact (Kd.R_reads' HO185.out).2.2 | (with_reducible refine Kd.C_alloc ?_ _) | (with_reducible refine Kd.C_drewN ?_ _) | (with_reducible refine Kd.C_drew ?_)))
       (case side2 => exact (Kd.R_reads' HO185.out).2.1)
       rintro e w50 ⟨v190, rfl, ho0, hb⟩
       refine ⟨_, rfl, ?_⟩
       have n0_ := z_aM (Kd.R_elder' (by (with_reducible repeat (first | apply z_rA | apply z_rN | apply z_rD)); exact HO176.out) (Kd.R_base ho0) hb)
       have n1_ := z_aM (Kd.R_elder' (by (with_reducible repeat (first | apply z_rA | apply z_rN | apply z_rD)); exact HO181.out) (Kd.R_base ho0) hb)
       have n2_ := z_aM (Kd.R_elder' (by (with_reducible repeat (first | apply z_rA | apply z_rN | apply z_rD)); exact HO185.out) (Kd.R_base ho0) hb)
       have n3_ := z_aM (Kd.R_lower (Kd.R_new' (Kd.R_new' (Kd.R_new' ho0 (z_rL (by (with_reducible repeat (first | apply z_rA | apply z_rN | apply z_rD)); exact HO176.out))) (z_rL (by (with_reducible repeat (first | apply z_rA | apply z_rN | apply z_rD)); exact HO181.out))) (z_rL (by (with_reducible repeat (first | apply z_rA | apply z_rN | apply z_rD)); exact HO185.out))) (z_bZ (by repeat (first | (with_reducible first | exact HB.out | apply z_bA | apply z_bN | apply z_bD | refine z_bS ?_ GE171.out | refine z_bS ?_ GE172.out | refine z_bS ?_ GE182.out | refine z_bS ?_ GE186.out | refine z_bS ?_ GE192.out) | exact HB.out))))
       have n4_ := z_aM (z_kB (g := gb171) (o := .cells #[.slice A0_0 l0_0.length c0_0] 48 (0, 0)) (by (with_reducible repeat (first | refine z_kN ?_ _ | refine z_kD ?_ | refine z_kA ?_ _)); exact BK171.out) hb)
       have n5_ := z_aM (z_kB (g := gb172) (o := .cells #[.int .i64 a1_0, .int .i64 a1_1] 50 (0, 0)) (by (with_reducible repeat (first | refine z_kN ?_ _ | refine z_kD ?_ | refine z_kA ?_ _)); exact BK172.out) hb)
       have n6_ := z_aM (z_kB (g := gb182) (o := .cells #[.slice Ao35 t179.length co35] 54 (0, 0)) (by (with_reducible repeat (first | refine z_kN ?_ _ | refine z_kD ?_ | refine z_kA ?_ _)); exact BK182.out) hb)
       have n7_ := z_aM (z_kB (g := gb186) (o := .cells #[.slice Ao41 t183.length co41] 54 (0, 0)) (by (with_reducible repeat (first | refine z_kN ?_ _ | refine z_kD ?_ | refine z_kA ?_ _)); exact BK186.out) hb)
       have n8_ := z_aM (z_kB (g := gb192) (o := .cells #[.slice none 0 0] 54 (0, 0)) (by (with_reducible repeat (first | refine z_kN ?_ _ | refine z_kD ?_ | refine z_kA ?_ _)); exact BK192.out) hb)
       have n9_ := z_aM (z_bT (by repeat (first | (with_reducible first | exact HB.out | apply z_bA | apply z_bN | apply z_bD | refine z_bS ?_ GE171.out | refine z_bS ?_ GE172.out | refine z_bS ?_ GE182.out | refine z_bS ?_ GE186.out | refine z_bS ?_ GE192.out) | exact HB.out)) hb)
       clear HO176
       clear HO181
       clear HO185
       clear BK171
       clear BK172
       clear BK182
       clear BK186
       clear BK192
       clear HB
       have HO176 := n0_
       have HO181 := n1_
       have HO185 := n2_
       have HO191 := n3_
       have BK171 := n4_
       have BK172 := n5_
       have BK182 := n6_
       have BK186 := n7_
       have BK192 := n8_
       have HB := n9_
       clear n0_ n1_ n2_ n3_ n4_ n5_ n6_ n7_ n8_ n9_
       (try clear hb)
       (try clear hb2)
       (try clear hk)
       (try clear hi)
       (try clear ho0)
       refine hK.out _ _ ⟨(z_kC BK186.out 0).trans rfl, (z_kC BK172.out 0).trans rfl, (z_kC BK172.out 1).trans rfl⟩ (fun hHeld => ?_)
       clear hK K
       refine norm_ (a' := ?_) ?_ ?_
       rotate_left
       ·show Act.put _ (some 28) _ = _
        simp only [Act.put, z_lA, z_lZ, z_lS, i64_w, i32_w]
        rfl
       exact norm_ (by simp only [putAll, Act.put, z_lA, z_lZ, z_lS]) (hCont (v190, gb192) _ ⟨hHeld, (by (with_reducible repeat (first | apply z_rA | apply z_rN | apply z_rD)); exact z_rM HO176.out (fun _ hk => ⟨hk.1.1, ⟨hk.1.2, hk.2⟩⟩)), (by (with_reducible repeat (first | apply z_rA | apply z_rN | apply z_rD)); exact z_rM HO181.out (fun _ hk => ⟨hk.1.1, ⟨hk.1.2, hk.2⟩⟩)), (by (with_reducible repeat (first | apply z_rA | apply z_rN | apply z_rD)); exact z_rM HO185.out (fun _ hk => ⟨hk.1.1, ⟨hk.1.2, hk.2⟩⟩)), (by (with_reducible repeat (first | apply z_rA | apply z_rN | apply z_rD)); exact z_rM HO191.out (fun _ hk => ⟨hk.1.1.2, ⟨hk.1.2, hk.2⟩⟩)), (by (with_reducible repeat (first | refine z_kN ?_ _ | refine z_kD ?_ | refine z_kA ?_ _)); exact BK171.out), (by (with_reducible repeat (first | refine z_kN ?_ _ | refine z_kD ?_ | refine z_kA ?_ _)); exact BK172.out), (by (with_reducible repeat (first | refine z_kN ?_ _ | refine z_kD ?_ | refine z_kA ?_ _)); exact BK182.out), (by (with_reducible repeat (first | refine z_kN ?_ _ | refine z_kD ?_ | refine z_kA ?_ _)); exact BK186.out), (by (with_reducible repeat (first | refine z_kN ?_ _ | refine z_kD ?_ | refine z_kA ?_ _)); exact BK192.out), GW192.out, GE192.out, NB171_192.out, NB192_171.out, NB172_192.out, NB192_172.out, NB182_192.out, NB192_182.out, NB186_192.out, NB192_186.out, (by repeat (first | (with_reducible first | exact HB.out | apply z_bA | apply z_bN | apply z_bD | refine z_bS ?_ GE171.out | refine z_bS ?_ GE172.out | refine z_bS ?_ GE182.out | refine z_bS ?_ GE186.out | refine z_bS ?_ GE192.out) | exact HB.out))⟩)
     ·skip
      refine box_step ?hg (N := 8) ?hd (cs := #[.slice none 0 0]) (t := 54) ?hr ?_; (case hd => rfl); (case hg => rfl); (case hr => first | (go_simp; done) | (go_simp; rfl))
      intro gb192 hg w48 hbox hb
      have n0_ := z_aM (z_rB (by (with_reducible repeat (first | apply z_rA | apply z_rN | apply z_rD)); exact HO176.out) hb)
      have n1_ := z_aM (z_rB (by (with_reducible repeat (first | apply z_rA | apply z_rN | apply z_rD)); exact HO181.out) hb)
      have n2_ := z_aM (z_rB (by (with_reducible repeat (first | apply z_rA | apply z_rN | apply z_rD)); exact HO185.out) hb)
      have n3_ := z_aM (z_kB (g := gb171) (o := .cells #[.slice A0_0 l0_0.length c0_0] 48 (0, 0)) (by (with_reducible repeat (first | refine z_kN ?_ _ | refine z_kD ?_ | refine z_kA ?_ _)); exact BK171.out) hb)
      have n4_ := z_aM (z_kB (g := gb172) (o := .cells #[.int .i64 a1_0, .int .i64 a1_1] 50 (0, 0)) (by (with_reducible repeat (first | refine z_kN ?_ _ | refine z_kD ?_ | refine z_kA ?_ _)); exact BK172.out) hb)
      have n5_ := z_aM (z_kB (g := gb182) (o := .cells #[.slice Ao35 t179.length co35] 54 (0, 0)) (by (with_reducible repeat (first | refine z_kN ?_ _ | refine z_kD ?_ | refine z_kA ?_ _)); exact BK182.out) hb)
      have n6_ := z_aM (z_kB (g := gb186) (o := .cells #[.slice Ao41 t183.length co41] 54 (0, 0)) (by (with_reducible repeat (first | refine z_kN ?_ _ | refine z_kD ?_ | refine z_kA ?_ _)); exact BK186.out) hb)
      have n7_ := z_aM (z_bT (by repeat (first | (with_reducible first | exact HB.out | apply z_bA | apply z_bN | apply z_bD | refine z_bS ?_ GE171.out | refine z_bS ?_ GE172.out | refine z_bS ?_ GE182.out | refine z_bS ?_ GE186.out) | exact HB.out)) hb)
      have n8_ := z_aM (hbox)
      have n9_ := z_aM ((by rw [hg]; exact (z_bZ (by repeat (first | (with_reducible first | exact HB.out | apply z_bA | apply z_bN | apply z_bD | refine z_bS ?_ GE171.out | refine z_bS ?_ GE172.out | refine z_bS ?_ GE182.out | refine z_bS ?_ GE186.out) | exact HB.out))) : w.heap.size ≤ gb192))
      have n10_ := z_aM ((by rw [hg]; exact (z_bZ (by repeat (first | (with_reducible first | exact HB.out | apply z_bA | apply z_bN | apply z_bD | refine z_bS ?_ GE171.out | refine z_bS ?_ GE172.out | refine z_bS ?_ GE182.out | refine z_bS ?_ GE186.out) | exact HB.out))) : w.heap.size ≤ gb192))
      have n11_ := z_aM ((by rw [hg]; exact Nat.ne_of_lt (z_kL (g := gb171) (o := .cells #[.slice A0_0 l0_0.length c0_0] 48 (0, 0)) (by (with_reducible repeat (first | refine z_kN ?_ _ | refine z_kD ?_ | refine z_kA ?_ _)); exact BK171.out)) : gb171 ≠ gb192))
      have n12_ := z_aM ((by rw [hg]; exact Nat.ne_of_gt (z_kL (g := gb171) (o := .cells #[.slice A0_0 l0_0.length c0_0] 48 (0, 0)) (by (with_reducible repeat (first | refine z_kN ?_ _ | refine z_kD ?_ | refine z_kA ?_ _)); exact BK171.out)) : gb192 ≠ gb171))
      have n13_ := z_aM ((by rw [hg]; exact Nat.ne_of_lt (z_kL (g := gb172) (o := .cells #[.int .i64 a1_0, .int .i64 a1_1] 50 (0, 0)) (by (with_reducible repeat (first | refine z_kN ?_ _ | refine z_kD ?_ | refine z_kA ?_ _)); exact BK172.out)) : gb172 ≠ gb192))
      have n14_ := z_aM ((by rw [hg]; exact Nat.ne_of_gt (z_kL (g := gb172) (o := .cells #[.int .i64 a1_0, .int .i64 a1_1] 50 (0, 0)) (by (with_reducible repeat (first | refine z_kN ?_ _ | refine z_kD ?_ | refine z_kA ?_ _)); exact BK172.out)) : gb192 ≠ gb172))
      have n15_ := z_aM ((by rw [hg]; exact Nat.ne_of_lt (z_kL (g := gb182) (o := .cells #[.slice Ao35 t179.length co35] 54 (0, 0)) (by (with_reducible repeat (first | refine z_kN ?_ _ | refine z_kD ?_ | refine z_kA ?_ _)); exact BK182.out)) : gb182 ≠ gb192))
      have n16_ := z_aM ((by rw [hg]; exact Nat.ne_of_gt (z_kL (g := gb182) (o := .cells #[.slice Ao35 t179.length co35] 54 (0, 0)) (by (with_reducible repeat (first | refine z_kN ?_ _ | refine z_kD ?_ | refine z_kA ?_ _)); exact BK182.out)) : gb192 ≠ gb182))
      have n17_ := z_aM ((by rw [hg]; exact Nat.ne_of_lt (z_kL (g := gb186) (o := .cells #[.slice Ao41 t183.length co41] 54 (0, 0)) (by (with_reducible repeat (first | refine z_kN ?_ _ | refine z_kD ?_ | refine z_kA ?_ _)); exact BK186.out)) : gb186 ≠ gb192))
      have n18_ := z_aM ((by rw [hg]; exact Nat.ne_of_gt (z_kL (g := gb186) (o := .cells #[.slice Ao41 t183.length co41] 54 (0, 0)) (by (with_reducible repeat (first | refine z_kN ?_ _ | refine z_kD ?_ | refine z_kA ?_ _)); exact BK186.out)) : gb192 ≠ gb186))
      clear HO176
      clear HO181
      clear HO185
      clear BK171
      clear BK172
      clear BK182
      clear BK186
      clear HB
      have HO176 := n0_
      have HO181 := n1_
      have HO185 := n2_
      have BK171 := n3_
      have BK172 := n4_
      have BK182 := n5_
      have BK186 := n6_
      have HB := n7_
      have BK192 := n8_
      have GW192 := n9_
      have GE192 := n10_
      have NB171_192 := n11_
      have NB192_171 := n12_
      have NB172_192 := n13_
      have NB192_172 := n14_
      have NB182_192 := n15_
      have NB192_182 := n16_
      have NB186_192 := n17_
      have NB192_186 := n18_
      clear n0_ n1_ n2_ n3_ n4_ n5_ n6_ n7_ n8_ n9_ n10_ n11_ n12_ n13_ n14_ n15_ n16_ n17_ n18_
      clear hb hbox hg
      refine hK.out _ _ ⟨(z_kC BK186.out 0).trans rfl, (z_kC BK172.out 0).trans rfl, (z_kC BK172.out 1).trans rfl⟩ (fun hHeld => ?_)
      clear hK K
      refine norm_ (a' := ?_) ?_ ?_
      rotate_left
      ·show Act.put _ (some 8) _ = _
       simp only [Act.put, z_lA, z_lZ, z_lS, i64_w, i32_w]
       rfl
      refine one_ (i := 2) (N := some 27) #[true, true, true, false, true, false] rfl rfl (by kernel_rfl) (by decide) (fun K hK => ?_)
      refine goes_ Try.func35 (by kernel_rfl) rfl #[.agg #[.int .i64 a1_0, .int .i64 a1_1]] (by rfl) rfl rfl (by (try simp only [List.map_toArray, List.map_cons, List.map_nil]); first | done | rfl | (simp only [List.length_drop, List.length_take]; rfl)) ?_
      with_reducible refine (laws_toRegion.calls a1_0 a1_1 t187 t188 _ A14.out).mono ?_
      rintro e w49 ⟨rfl, hb⟩
      refine ⟨_, rfl, ?_⟩
      have n0_ := z_aM (z_rB (by (with_reducible repeat (first | apply z_rA | apply z_rN | apply z_rD)); exact HO176.out) hb)
      have n1_ := z_aM (z_rB (by (with_reducible repeat (first | apply z_rA | apply z_rN | apply z_rD)); exact HO181.out) hb)
      have n2_ := z_aM (z_rB (by (with_reducible repeat (first | apply z_rA | apply z_rN | apply z_rD)); exact HO185.out) hb)
      have n3_ := z_aM (z_kB (g := gb171) (o := .cells #[.slice A0_0 l0_0.length c0_0] 48 (0, 0)) (by (with_reducible repeat (first | refine z_kN ?_ _ | refine z_kD ?_ | refine z_kA ?_ _)); exact BK171.out) hb)
      have n4_ := z_aM (z_kB (g := gb172) (o := .cells #[.int .i64 a1_0, .int .i64 a1_1] 50 (0, 0)) (by (with_reducible repeat (first | refine z_kN ?_ _ | refine z_kD ?_ | refine z_kA ?_ _)); exact BK172.out) hb)
      have n5_ := z_aM (z_kB (g := gb182) (o := .cells #[.slice Ao35 t179.length co35] 54 (0, 0)) (by (with_reducible repeat (first | refine z_kN ?_ _ | refine z_kD ?_ | refine z_kA ?_ _)); exact BK182.out) hb)
      have n6_ := z_aM (z_kB (g := gb186) (o := .cells #[.slice Ao41 t183.length co41] 54 (0, 0)) (by (with_reducible repeat (first | refine z_kN ?_ _ | refine z_kD ?_ | refine z_kA ?_ _)); exact BK186.out) hb)
      have n7_ := z_aM (z_kB (g := gb192) (o := .cells #[.slice none 0 0] 54 (0, 0)) (by (with_reducible repeat (first | refine z_kN ?_ _ | refine z_kD ?_ | refine z_kA ?_ _)); exact BK192.out) hb)
      have n8_ := z_aM (z_bT (by repeat (first | (with_reducible first | exact HB.out | apply z_bA | apply z_bN | apply z_bD | refine z_bS ?_ GE171.out | refine z_bS ?_ GE172.out | refine z_bS ?_ GE182.out | refine z_bS ?_ GE186.out | refine z_bS ?_ GE192.out) | exact HB.out)) hb)
      clear HO176
      clear HO181
      clear HO185
      clear BK171
      clear BK172
      clear BK182
      clear BK186
      clear BK192
      clear HB
      have HO176 := n0_
      have HO181 := n1_
      have HO185 := n2_
      have BK171 := n3_
      have BK172 := n4_
      have BK182 := n5_
      have BK186 := n6_
      have BK192 := n7_
      have HB := n8_
      clear n0_ n1_ n2_ n3_ n4_ n5_ n6_ n7_ n8_
      (try clear hb)
      (try clear hb2)
      (try clear hk)
      (try clear hi)
      refine hK.out _ _ ⟨(z_kC BK186.out 0).trans rfl, (z_kC BK172.out 0).trans rfl, (z_kC BK172.out 1).trans rfl⟩ (fun hHeld => ?_)
      clear hK K
      refine norm_ (a' := ?_) ?_ ?_
      rotate_left
      ·show Act.put _ (some 27) _ = _
       simp only [Act.put, z_lA, z_lZ, z_lS, i64_w, i32_w]
       rfl
      refine one_ (i := 3) (N := some 28) #[true, true, true, true, true, false] rfl rfl (by kernel_rfl) (by decide) (fun K hK => ?_)
      refine goes_ Try.func66 (by kernel_rfl) rfl #[.agg #[.slice Ao41 t183.length co41], .agg #[.int .i64 t187, .int .i64 t188]] (by rfl) rfl rfl (by (try simp only [List.map_toArray, List.map_cons, List.map_nil]); first | done | rfl | (simp only [List.length_drop, List.length_take]; rfl)) ?_
      with_reducible refine (impl_ClearCells.calls k _ _ t183 t187 t188 t189 _ ?side1 ?side2 A15.out).mono ?_
      (case side1 => repeat (first | exact (Kd.R_reads' HO185.out).2.2 | (with_reducible refine Kd.C_alloc ?_ _) | (with_reducible refine Kd.C_drewN ?_ _) | (with_reducible refine Kd.C_drew ?_)))
      (case side2 => exact (Kd.R_reads' HO185.out).2.1)
      rintro e w50 ⟨v190, rfl, ho0, hb⟩
      refine ⟨_, rfl, ?_⟩
      have n0_ := z_aM (Kd.R_elder' (by (with_reducible repeat (first | apply z_rA | apply z_rN | apply z_rD)); exact HO176.out) (Kd.R_base ho0) hb)
      have n1_ := z_aM (Kd.R_elder' (by (with_reducible repeat (first | apply z_rA | apply z_rN | apply z_rD)); exact HO181.out) (Kd.R_base ho0) hb)
      have n2_ := z_aM (Kd.R_elder' (by (with_reducible repeat (first | apply z_rA | apply z_rN | apply z_rD)); exact HO185.out) (Kd.R_base ho0) hb)
      have n3_ := z_aM (Kd.R_lower (Kd.R_new' (Kd.R_new' (Kd.R_new' ho0 (z_rL (by (with_reducible repeat (first | apply z_rA | apply z_rN | apply z_rD)); exact HO176.out))) (z_rL (by (with_reducible repeat (first | apply z_rA | apply z_rN | apply z_rD)); exact HO181.out))) (z_rL (by (with_reducible repeat (first | apply z_rA | apply z_rN | apply z_rD)); exact HO185.out))) (z_bZ (by repeat (first | (with_reducible first | exact HB.out | apply z_bA | apply z_bN | apply z_bD | refine z_bS ?_ GE171.out | refine z_bS ?_ GE172.out | refine z_bS ?_ GE182.out | refine z_bS ?_ GE186.out | refine z_bS ?_ GE192.out) | exact HB.out))))
      have n4_ := z_aM (z_kB (g := gb171) (o := .cells #[.slice A0_0 l0_0.length c0_0] 48 (0, 0)) (by (with_reducible repeat (first | refine z_kN ?_ _ | refine z_kD ?_ | refine z_kA ?_ _)); exact BK171.out) hb)
      have n5_ := z_aM (z_kB (g := gb172) (o := .cells #[.int .i64 a1_0, .int .i64 a1_1] 50 (0, 0)) (by (with_reducible repeat (first | refine z_kN ?_ _ | refine z_kD ?_ | refine z_kA ?_ _)); exact BK172.out) hb)
      have n6_ := z_aM (z_kB (g := gb182) (o := .cells #[.slice Ao35 t179.length co35] 54 (0, 0)) (by (with_reducible repeat (first | refine z_kN ?_ _ | refine z_kD ?_ | refine z_kA ?_ _)); exact BK182.out) hb)
      have n7_ := z_aM (z_kB (g := gb186) (o := .cells #[.slice Ao41 t183.length co41] 54 (0, 0)) (by (with_reducible repeat (first | refine z_kN ?_ _ | refine z_kD ?_ | refine z_kA ?_ _)); exact BK186.out) hb)
      have n8_ := z_aM (z_kB (g := gb192) (o := .cells #[.slice none 0 0] 54 (0, 0)) (by (with_reducible repeat (first | refine z_kN ?_ _ | refine z_kD ?_ | refine z_kA ?_ _)); exact BK192.out) hb)
      have n9_ := z_aM (z_bT (by repeat (first | (with_reducible first | exact HB.out | apply z_bA | apply z_bN | apply z_bD | refine z_bS ?_ GE171.out | refine z_bS ?_ GE172.out | refine z_bS ?_ GE182.out | refine z_bS ?_ GE186.out | refine z_bS ?_ GE192.out) | exact HB.out)) hb)
      clear HO176
      clear HO181
      clear HO185
      clear BK171
      clear BK172
      clear BK182
      clear BK186
      clear BK192
      clear HB
      have HO176 := n0_
      have HO181 := n1_
      have HO185 := n2_
      have HO191 := n3_
      have BK171 := n4_
      have BK172 := n5_
      have BK182 := n6_
      have BK186 := n7_
      have BK192 := n8_
      have HB := n9_
      clear n0_ n1_ n2_ n3_ n4_ n5_ n6_ n7_ n8_ n9_
      (try clear hb)
      (try clear hb2)
      (try clear hk)
      (try clear hi)
      (try clear ho0)
      refine hK.out _ _ ⟨(z_kC BK186.out 0).trans rfl, (z_kC BK172.out 0).trans rfl, (z_kC BK172.out 1).trans rfl⟩ (fun hHeld => ?_)
      clear hK K
      refine norm_ (a' := ?_) ?_ ?_
      rotate_left
      ·show Act.put _ (some 28) _ = _
       simp only [Act.put, z_lA, z_lZ, z_lS, i64_w, i32_w]
       rfl
      exact norm_ (by simp only [putAll, Act.put, z_lA, z_lZ, z_lS]) (hCont (v190, gb192) _ ⟨hHeld, (by (with_reducible repeat (first | apply z_rA | apply z_rN | apply z_rD)); exact z_rM HO176.out (fun _ hk => ⟨hk.1.1, ⟨hk.1.2, hk.2⟩⟩)), (by (with_reducible repeat (first | apply z_rA | apply z_rN | apply z_rD)); exact z_rM HO181.out (fun _ hk => ⟨hk.1.1, ⟨hk.1.2, hk.2⟩⟩)), (by (with_reducible repeat (first | apply z_rA | apply z_rN | apply z_rD)); exact z_rM HO185.out (fun _ hk => ⟨hk.1.1, ⟨hk.1.2, hk.2⟩⟩)), (by (with_reducible repeat (first | apply z_rA | apply z_rN | apply z_rD)); exact z_rM HO191.out (fun _ hk => ⟨hk.1.1.2, ⟨hk.1.2, hk.2⟩⟩)), (by (with_reducible repeat (first | refine z_kN ?_ _ | refine z_kD ?_ | refine z_kA ?_ _)); exact BK171.out), (by (with_reducible repeat (first | refine z_kN ?_ _ | refine z_kD ?_ | refine z_kA ?_ _)); exact BK172.out), (by (with_reducible repeat (first | refine z_kN ?_ _ | refine z_kD ?_ | refine z_kA ?_ _)); exact BK182.out), (by (with_reducible repeat (first | refine z_kN ?_ _ | refine z_kD ?_ | refine z_kA ?_ _)); exact BK186.out), (by (with_reducible repeat (first | refine z_kN ?_ _ | refine z_kD ?_ | refine z_kA ?_ _)); exact BK192.out), GW192.out, GE192.out, NB171_192.out, NB192_171.out, NB172_192.out, NB192_172.out, NB182_192.out, NB192_182.out, NB186_192.out, NB192_186.out, (by repeat (first | (with_reducible first | exact HB.out | apply z_bA | apply z_bN | apply z_bD | refine z_bS ?_ GE171.out | refine z_bS ?_ GE172.out | refine z_bS ?_ GE182.out | refine z_bS ?_ GE186.out | refine z_bS ?_ GE192.out) | exact HB.out))⟩)
    rintro ⟨v190, gb192⟩ w51 ⟨hS_, h0_, h1_, h2_, h3_, h4_, h5_, h6_, h7_, h8_, h9_, h10_, h11_, h12_, h13_, h14_, h15_, h16_, h17_, h18_, h19_⟩
    have n0_ : Aside0 (Kd.R (Kd.int .i64) 3 w51 w.heap.size (fun k_ => some k_ ≠ (.slice Ao35 t179.length co35 : Value).ownBlock ∧ some k_ ≠ (.slice Ao41 t183.length co41 : Value).ownBlock ∧ some k_ ≠ (v190 : Value).ownBlock) v175 t174) := ⟨h0_⟩
    have n1_ : Aside0 (Kd.R (Kd.int .i64) 3 w51 w.heap.size (fun k_ => some k_ ≠ (v175 : Value).ownBlock ∧ some k_ ≠ (.slice Ao41 t183.length co41 : Value).ownBlock ∧ some k_ ≠ (v190 : Value).ownBlock) (.slice Ao35 t179.length co35) t179) := ⟨h1_⟩
    have n2_ : Aside0 (Kd.R (Kd.int .i64) 3 w51 w.heap.size (fun k_ => some k_ ≠ (v175 : Value).ownBlock ∧ some k_ ≠ (.slice Ao35 t179.length co35 : Value).ownBlock ∧ some k_ ≠ (v190 : Value).ownBlock) (.slice Ao41 t183.length co41) t183) := ⟨h2_⟩
    have n3_ : Aside0 (Kd.R (Kd.int .i64) 3 w51 w.heap.size (fun k_ => some k_ ≠ (v175 : Value).ownBlock ∧ some k_ ≠ (.slice Ao35 t179.length co35 : Value).ownBlock ∧ some k_ ≠ (.slice Ao41 t183.length co41 : Value).ownBlock) v190 t189) := ⟨h3_⟩
    have n4_ : Aside0 (w51.heap[gb171]? = some (.cells #[.slice A0_0 l0_0.length c0_0] 48 (0, 0))) := ⟨h4_⟩
    have n5_ : Aside0 (w51.heap[gb172]? = some (.cells #[.int .i64 a1_0, .int .i64 a1_1] 50 (0, 0))) := ⟨h5_⟩
    have n6_ : Aside0 (w51.heap[gb182]? = some (.cells #[.slice Ao35 t179.length co35] 54 (0, 0))) := ⟨h6_⟩
    have n7_ : Aside0 (w51.heap[gb186]? = some (.cells #[.slice Ao41 t183.length co41] 54 (0, 0))) := ⟨h7_⟩
    have n8_ : Aside0 (w51.heap[gb192]? = some (.cells #[.slice none 0 0] 54 (0, 0))) := ⟨h8_⟩
    have n9_ : Aside0 (w.heap.size ≤ gb192) := ⟨h9_⟩
    have n10_ : Aside0 (w.heap.size ≤ gb192) := ⟨h10_⟩
    have n11_ : Aside0 (gb171 ≠ gb192) := ⟨h11_⟩
    have n12_ : Aside0 (gb192 ≠ gb171) := ⟨h12_⟩
    have n13_ : Aside0 (gb172 ≠ gb192) := ⟨h13_⟩
    have n14_ : Aside0 (gb192 ≠ gb172) := ⟨h14_⟩
    have n15_ : Aside0 (gb182 ≠ gb192) := ⟨h15_⟩
    have n16_ : Aside0 (gb192 ≠ gb182) := ⟨h16_⟩
    have n17_ : Aside0 (gb186 ≠ gb192) := ⟨h17_⟩
    have n18_ : Aside0 (gb192 ≠ gb186) := ⟨h18_⟩
    have n19_ : Aside0 (Below w.heap.size w w51) := ⟨h19_⟩
    clear HO176
    clear HO181
    clear HO185
    clear BK171
    clear BK172
    clear BK182
    clear BK186
    clear HB
    clear h0_ h1_ h2_ h3_ h4_ h5_ h6_ h7_ h8_ h9_ h10_ h11_ h12_ h13_ h14_ h15_ h16_ h17_ h18_ h19_
    have HO176 := n0_
    have HO181 := n1_
    have HO185 := n2_
    have HO191 := n3_
    have BK171 := n4_
    have BK172 := n5_
    have BK182 := n6_
    have BK186 := n7_
    have BK192 := n8_
    have GW192 := n9_
    have GE192 := n10_
    have NB171_192 := n11_
    have NB192_171 := n12_
    have NB172_192 := n13_
    have NB192_172 := n14_
    have NB182_192 := n15_
    have NB192_182 := n16_
    have NB186_192 := n17_
    have NB192_186 := n18_
    have HB := n19_
    clear n0_ n1_ n2_ n3_ n4_ n5_ n6_ n7_ n8_ n9_ n10_ n11_ n12_ n13_ n14_ n15_ n16_ n17_ n18_ n19_
    have hHeld : w51.cell? ⟨gb186, 0, none⟩ = some (.slice Ao41 t183.length co41) ∧ w51.cell? ⟨gb172, 0, none⟩ = some (.int .i64 a1_0) ∧ w51.cell? ⟨gb172, 1, none⟩ = some (.int .i64 a1_1) := hS_
    obtain ⟨Ao52, co52, eo52⟩ := Kd.R_slice HO191.out
    (first | subst eo52 | (injection eo52 with f1_ f2_ f3_; have f4_ := f1_.symm; have f5_ := f3_.symm; clear f1_ f2_ f3_; subst f4_; subst f5_))
    refine norm_ (a' := ?_) ?_ ?_
    rotate_left
    ·simp only [putAll, Act.put, z_lA, z_lZ, z_lS]
     rfl
    refine one_ (i := 5) (N := none) #[true, true, true, true, true, true] rfl rfl (by kernel_rfl) (by decide) (fun K hK => ?_)
    have hs53 : w51.cell? ⟨gb192, 0, none⟩ = some (.slice none 0 0) := (z_kC BK192.out 0).trans rfl
    have hfs53 := blk_frozen BK192.out 0
    have hns53_0 := NB171_192.out
    have hns53_1 := NB172_192.out
    have hns53_2 := NB182_192.out
    have hns53_3 := NB186_192.out
    have hms53_0 := NB192_171.out
    have hms53_1 := NB192_172.out
    have hms53_2 := NB192_182.out
    have hms53_3 := NB192_186.out
    refine skip_ (w1 := ?_) (by rfl) rfl ?_ ?_
    rotate_left
    ·go_simp
     rfl
    refine hK.out _ _ ⟨((cell_far (p := ⟨gb192, _, none⟩) NB186_192.out _).trans (hHeld.1)), ((cell_far (p := ⟨gb192, _, none⟩) NB172_192.out _).trans (hHeld.2.1)), ((cell_far (p := ⟨gb192, _, none⟩) NB172_192.out _).trans (hHeld.2.2))⟩ (fun hHeld => ?_)
    clear hK K
    refine done_ (by kernel_rfl) ?_
    have hnb54 := NB192_171.out
    have hnc54 := NB171_192.out
    have hnb55 := NB192_172.out
    have hnc55 := NB172_192.out
    have hnb56 := NB192_182.out
    have hnc56 := NB182_192.out
    have hnb57 := NB192_186.out
    have hnc57 := NB186_192.out
    have hcz58_0 : w51.cell? ⟨gb192, 0, none⟩ = some (.slice none 0 0) := (z_kC BK192.out 0).trans rfl
    have hfz58_0 := blk_frozen BK192.out 0
    have hnb59 := NB182_172.out
    have hnc59 := NB172_182.out
    have hcz60_0 : w51.cell? ⟨gb182, 0, none⟩ = some (.slice Ao35 t179.length co35) := (z_kC BK182.out 0).trans rfl
    have hfz60_0 := blk_frozen BK182.out 0
    try go_wp2_with (first | ((with_reducible refine gate_callee (f := 37) rfl ?_); refine goesL_ (some 31) rfl rfl Try.func37 (by kernel_rfl) rfl #[.agg #[.slice Ao52 t189.length co52], .agg #[.slice Ao35 t179.length co35]] rfl (by (try simp only [List.map_toArray, List.map_cons, List.map_nil]); first | done | rfl | (simp only [List.length_drop, List.length_take]; rfl)) ?_; (with_reducible refine (laws_eqArena.calls k _ _ t189 _ _ t179 true _ ?side1 ?side2 ?side3 ?side4 A16.out).mono ?_); (case side1 => refine (Kd.R_reads' (e := 3) (base := w.heap.size) (ok := fun k_ => (some k_ ≠ (v175 : Value).ownBlock ∧ (some k_ ≠ (.slice Ao35 t179.length co35 : Value).ownBlock ∧ some k_ ≠ (.slice Ao41 t183.length co41 : Value).ownBlock))) (n := t189.length) (c := co52) ?_).2.2; exact (by (with_reducible repeat (first | apply z_rA | apply z_rN | apply z_rD)); exact (z_rM (Kd.R_far (p := ⟨gb192, 0, none⟩) (Kd.R_types HO191.out BK192.out (by decide)) (fun _ hk => hk.2) (.slice Ao52 t189.length co52)) (fun _ h_ => h_.1)))); (case side2 => exact (Kd.R_reads' HO191.out).2.1); (case side3 => refine (Kd.R_reads' (e := 3) (base := w.heap.size) (ok := fun k_ => (some k_ ≠ (v175 : Value).ownBlock ∧ (some k_ ≠ (.slice Ao41 t183.length co41 : Value).ownBlock ∧ some k_ ≠ (.slice Ao52 t189.length co52 : Value).ownBlock))) (n := t179.length) (c := co35) ?_).2.2; exact (by (with_reducible repeat (first | apply z_rA | apply z_rN | apply z_rD)); exact (z_rM (Kd.R_far (p := ⟨gb192, 0, none⟩) (Kd.R_types HO181.out BK192.out (by decide)) (fun _ hk => hk.2) (.slice Ao52 t189.length co52)) (fun _ h_ => h_.1)))); (case side4 => exact (Kd.R_reads' HO181.out).2.1); rintro e w61 ⟨rfl, hb⟩; refine ⟨_, rfl, ?_⟩; have n0_ := z_aM (z_rB (by (with_reducible repeat (first | apply z_rA | apply z_rN | apply z_rD)); exact (z_rM (Kd.R_far (p := ⟨gb192, 0, none⟩) (Kd.R_types HO176.out BK192.out (by decide)) (fun _ hk => hk.2) (.slice Ao52 t189.length co52)) (fun _ h_ => h_.1))) hb); have n1_ := z_aM (z_rB (by (with_reducible repeat (first | apply z_rA | apply z_rN | apply z_rD)); exact (z_rM (Kd.R_far (p := ⟨gb192, 0, none⟩) (Kd.R_types HO181.out BK192.out (by decide)) (fun _ hk => hk.2) (.slice Ao52 t189.length co52)) (fun _ h_ => h_.1))) hb); have n2_ := z_aM (z_rB (by (with_reducible repeat (first | apply z_rA | apply z_rN | apply z_rD)); exact (z_rM (Kd.R_far (p := ⟨gb192, 0, none⟩) (Kd.R_types HO185.out BK192.out (by decide)) (fun _ hk => hk.2) (.slice Ao52 t189.length co52)) (fun _ h_ => h_.1))) hb); have n3_ := z_aM (z_rB (by (with_reducible repeat (first | apply z_rA | apply z_rN | apply z_rD)); exact (z_rM (Kd.R_far (p := ⟨gb192, 0, none⟩) (Kd.R_types HO191.out BK192.out (by decide)) (fun _ hk => hk.2) (.slice Ao52 t189.length co52)) (fun _ h_ => h_.1))) hb); have n4_ := z_aM (z_kB (g := gb171) (o := .cells #[.slice A0_0 l0_0.length c0_0] 48 (0, 0)) (by (with_reducible repeat (first | refine z_kN ?_ _ | refine z_kD ?_ | refine z_kA ?_ _)); refine blk_far ?_ NB171_192.out _; (with_reducible repeat (first | refine z_kN ?_ _ | refine z_kD ?_ | refine z_kA ?_ _)); exact BK171.out) hb); have n5_ := z_aM (z_kB (g := gb172) (o := .cells #[.int .i64 a1_0, .int .i64 a1_1] 50 (0, 0)) (by (with_reducible repeat (first | refine z_kN ?_ _ | refine z_kD ?_ | refine z_kA ?_ _)); refine blk_far ?_ NB172_192.out _; (with_reducible repeat (first | refine z_kN ?_ _ | refine z_kD ?_ | refine z_kA ?_ _)); exact BK172.out) hb); have n6_ := z_aM (z_kB (g := gb182) (o := .cells #[.slice Ao35 t179.length co35] 54 (0, 0)) (by (with_reducible repeat (first | refine z_kN ?_ _ | refine z_kD ?_ | refine z_kA ?_ _)); refine blk_far ?_ NB182_192.out _; (with_reducible repeat (first | refine z_kN ?_ _ | refine z_kD ?_ | refine z_kA ?_ _)); exact BK182.out) hb); have n7_ := z_aM (z_kB (g := gb186) (o := .cells #[.slice Ao41 t183.length co41] 54 (0, 0)) (by (with_reducible repeat (first | refine z_kN ?_ _ | refine z_kD ?_ | refine z_kA ?_ _)); refine blk_far ?_ NB186_192.out _; (with_reducible repeat (first | refine z_kN ?_ _ | refine z_kD ?_ | refine z_kA ?_ _)); exact BK186.out) hb); have n8_ := z_aM (z_kB (g := gb192) (o := .cells #[.slice Ao52 t189.length co52] 54 (0, 0)) (by (with_reducible repeat (first | refine z_kN ?_ _ | refine z_kD ?_ | refine z_kA ?_ _)); refine blk_put (cs := #[.slice none 0 0]) ?_ 0 _ rfl; (with_reducible repeat (first | refine z_kN ?_ _ | refine z_kD ?_ | refine z_kA ?_ _)); exact BK192.out) hb); have n9_ := z_aM (z_bT (by repeat (first | (with_reducible first | exact HB.out | apply z_bA | apply z_bN | apply z_bD | refine z_bS ?_ GE171.out | refine z_bS ?_ GE172.out | refine z_bS ?_ GE182.out | refine z_bS ?_ GE186.out | refine z_bS ?_ GE192.out) | exact HB.out)) hb); clear HO176; clear HO181; clear HO185; clear HO191; clear BK171; clear BK172; clear BK182; clear BK186; clear BK192; clear HB; have HO176 := n0_; have HO181 := n1_; have HO185 := n2_; have HO191 := n3_; have BK171 := n4_; have BK172 := n5_; have BK182 := n6_; have BK186 := n7_; have BK192 := n8_; have HB := n9_; clear n0_ n1_ n2_ n3_ n4_ n5_ n6_ n7_ n8_ n9_; (try clear hb); (try clear hb2); (try clear hk); (try clear hi)))
    have n0_ := z_aM (z_rD HO176.out)
    have n1_ := z_aM (z_rD HO181.out)
    have n2_ := z_aM (z_rD HO185.out)
    have n3_ := z_aM (z_rD HO191.out)
    have n4_ := z_aM (z_kD BK171.out)
    have n5_ := z_aM (z_kD BK172.out)
    have n6_ := z_aM (z_kD BK182.out)
    have n7_ := z_aM (z_kD BK186.out)
    have n8_ := z_aM (z_kD BK192.out)
    have n9_ := z_aM (z_bD HB.out)
    clear HO176
    clear HO181
    clear HO185
    clear HO191
    clear BK171
    clear BK172
    clear BK182
    clear BK186
    clear BK192
    clear HB
    have HO176 := n0_
    have HO181 := n1_
    have HO185 := n2_
    have HO191 := n3_
    have BK171 := n4_
    have BK172 := n5_
    have BK182 := n6_
    have BK186 := n7_
    have BK192 := n8_
    have HB := n9_
    clear n0_ n1_ n2_ n3_ n4_ n5_ n6_ n7_ n8_ n9_
    refine start_ (n := 5) (S := fun w' => w'.cell? ⟨gb186, 0, none⟩ = some (.slice Ao41 t183.length co41) ∧ w'.cell? ⟨gb171, 0, none⟩ = some (.slice A0_0 l0_0.length c0_0)) (ds := []) #[false, false, false, false, false] (by kernel_rfl) rfl rfl ⟨(z_kC BK186.out 0).trans rfl, (z_kC BK171.out 0).trans rfl⟩ (fun hHeld => ?_)
    generalize w61.drew = w62 at HO176 HO181 HO185 HO191 BK171 BK172 BK182 BK186 BK192 HB hHeld ⊢
    refine take_ (i := 0) (N := some 33) (v := ?_) (a' := ?_) #[true, false, false, false, false] rfl rfl (by kernel_rfl) (fun _ _ _ h => h) (Or.inl ⟨by rfl, ?_⟩) hHeld ?_ ?_
    rotate_left
    ·rintro w' ⟨s0, s1⟩
     go_simp
     with_reducible rfl
    rotate_left
    ·simp only [Act.put, z_lA, z_lZ, z_lS, i64_w, i32_w]
     rfl
    refine take_ (i := 1) (N := some 34) (v := ?_) (a' := ?_) #[true, true, false, false, false] rfl rfl (by kernel_rfl) (fun _ _ _ h => h) (Or.inl ⟨by rfl, ?_⟩) hHeld ?_ ?_
    rotate_left
    ·rintro w' ⟨s0, s1⟩
     go_simp
     with_reducible rfl
    rotate_left
    ·simp only [Act.put, z_lA, z_lZ, z_lS, i64_w, i32_w]
     rfl
    refine one_ (i := 2) (N := some 35) #[true, true, true, false, false] rfl rfl (by kernel_rfl) (by decide) (fun K hK => ?_)
    refine goes_ Try.func34 (by kernel_rfl) rfl #[.agg #[.slice A0_0 l0_0.length c0_0]] (by rfl) rfl rfl (by (try simp only [List.map_toArray, List.map_cons, List.map_nil]); first | done | rfl | (simp only [List.length_drop, List.length_take]; rfl)) ?_
    with_reducible refine (laws_toArena.calls k _ _ l0_0 t194 _ ?side1 ?side2 A18.out).mono ?_
    (case side1 => repeat (first | exact (Kd.C_below HR0_0.out HB.out) | (with_reducible refine Kd.C_alloc ?_ _) | (with_reducible refine Kd.C_drewN ?_ _) | (with_reducible refine Kd.C_drew ?_)))
    (case side2 => exact HC0_0.out)
    rintro e w63 ⟨v195, rfl, ho0, hb⟩
    refine ⟨_, rfl, ?_⟩
    have n0_ := z_aM (Kd.R_elder' (by (with_reducible repeat (first | apply z_rA | apply z_rN | apply z_rD)); exact HO176.out) (Kd.R_base ho0) hb)
    have n1_ := z_aM (Kd.R_elder' (by (with_reducible repeat (first | apply z_rA | apply z_rN | apply z_rD)); exact HO181.out) (Kd.R_base ho0) hb)
    have n2_ := z_aM (Kd.R_elder' (by (with_reducible repeat (first | apply z_rA | apply z_rN | apply z_rD)); exact HO185.out) (Kd.R_base ho0) hb)
    have n3_ := z_aM (Kd.R_elder' (by (with_reducible repeat (first | apply z_rA | apply z_rN | apply z_rD)); exact HO191.out) (Kd.R_base ho0) hb)
    have n4_ := z_aM (Kd.R_lower (Kd.R_new' (Kd.R_new' (Kd.R_new' (Kd.R_new' ho0 (z_rL (by (with_reducible repeat (first | apply z_rA | apply z_rN | apply z_rD)); exact HO176.out))) (z_rL (by (with_reducible repeat (first | apply z_rA | apply z_rN | apply z_rD)); exact HO181.out))) (z_rL (by (with_reducible repeat (first | apply z_rA | apply z_rN | apply z_rD)); exact HO185.out))) (z_rL (by (with_reducible repeat (first | apply z_rA | apply z_rN | apply z_rD)); exact HO191.out))) (z_bZ (by repeat (first | (with_reducible first | exact HB.out | apply z_bA | apply z_bN | apply z_bD | refine z_bS ?_ GE171.out | refine z_bS ?_ GE172.out | refine z_bS ?_ GE182.out | refine z_bS ?_ GE186.out | refine z_bS ?_ GE192.out) | exact HB.out))))
    have n5_ := z_aM (z_kB (g := gb171) (o := .cells #[.slice A0_0 l0_0.length c0_0] 48 (0, 0)) (by (with_reducible repeat (first | refine z_kN ?_ _ | refine z_kD ?_ | refine z_kA ?_ _)); exact BK171.out) hb)
    have n6_ := z_aM (z_kB (g := gb172) (o := .cells #[.int .i64 a1_0, .int .i64 a1_1] 50 (0, 0)) (by (with_reducible repeat (first | refine z_kN ?_ _ | refine z_kD ?_ | refine z_kA ?_ _)); exact BK172.out) hb)
    have n7_ := z_aM (z_kB (g := gb182) (o := .cells #[.slice Ao35 t179.length co35] 54 (0, 0)) (by (with_reducible repeat (first | refine z_kN ?_ _ | refine z_kD ?_ | refine z_kA ?_ _)); exact BK182.out) hb)
    have n8_ := z_aM (z_kB (g := gb186) (o := .cells #[.slice Ao41 t183.length co41] 54 (0, 0)) (by (with_reducible repeat (first | refine z_kN ?_ _ | refine z_kD ?_ | refine z_kA ?_ _)); exact BK186.out) hb)
    have n9_ := z_aM (z_kB (g := gb192) (o := .cells #[.slice Ao52 t189.length co52] 54 (0, 0)) (by (with_reducible repeat (first | refine z_kN ?_ _ | refine z_kD ?_ | refine z_kA ?_ _)); exact BK192.out) hb)
    have n10_ := z_aM (z_bT (by repeat (first | (with_reducible first | exact HB.out | apply z_bA | apply z_bN | apply z_bD | refine z_bS ?_ GE171.out | refine z_bS ?_ GE172.out | refine z_bS ?_ GE182.out | refine z_bS ?_ GE186.out | refine z_bS ?_ GE192.out) | exact HB.out)) hb)
    clear HO176
    clear HO181
    clear HO185
    clear HO191
    clear BK171
    clear BK172
    clear BK182
    clear BK186
    clear BK192
    clear HB
    have HO176 := n0_
    have HO181 := n1_
    have HO185 := n2_
    have HO191 := n3_
    have HO196 := n4_
    have BK171 := n5_
    have BK172 := n6_
    have BK182 := n7_
    have BK186 := n8_
    have BK192 := n9_
    have HB := n10_
    clear n0_ n1_ n2_ n3_ n4_ n5_ n6_ n7_ n8_ n9_ n10_
    (try clear hb)
    (try clear hb2)
    (try clear hk)
    (try clear hi)
    (try clear ho0)
    obtain ⟨Ao64, co64, eo64⟩ := Kd.R_slice HO196.out
    (first | subst eo64 | (injection eo64 with f1_ f2_ f3_; have f4_ := f1_.symm; have f5_ := f3_.symm; clear f1_ f2_ f3_; subst f4_; subst f5_))
    refine hK.out _ _ ⟨(z_kC BK186.out 0).trans rfl, (z_kC BK171.out 0).trans rfl⟩ (fun hHeld => ?_)
    clear hK K
    refine norm_ (a' := ?_) ?_ ?_
    rotate_left
    ·show Act.put _ (some 35) _ = _
     simp only [Act.put, z_lA, z_lZ, z_lS, i64_w, i32_w]
     rfl
    refine one_ (i := 3) (N := some 36) #[true, true, true, true, false] rfl rfl (by kernel_rfl) (by decide) (fun K hK => ?_)
    refine goes_ Try.func37 (by kernel_rfl) rfl #[.agg #[.slice Ao41 t183.length co41], .agg #[.slice Ao64 t194.length co64]] (by rfl) rfl rfl (by (try simp only [List.map_toArray, List.map_cons, List.map_nil]); first | done | rfl | (simp only [List.length_drop, List.length_take]; rfl)) ?_
    with_reducible refine (laws_eqArena.calls k _ _ t183 _ _ t194 true _ ?side1 ?side2 ?side3 ?side4 A19.out).mono ?_
    (case side1 => repeat (first | exact (Kd.R_reads' HO185.out).2.2 | (with_reducible refine Kd.C_alloc ?_ _) | (with_reducible refine Kd.C_drewN ?_ _) | (with_reducible refine Kd.C_drew ?_)))
    (case side2 => exact (Kd.R_reads' HO185.out).2.1)
    (case side3 => repeat (first | exact (Kd.R_reads' HO196.out).2.2 | (with_reducible refine Kd.C_alloc ?_ _) | (with_reducible refine Kd.C_drewN ?_ _) | (with_reducible refine Kd.C_drew ?_)))
    (case side4 => exact (Kd.R_reads' HO196.out).2.1)
    rintro e w65 ⟨rfl, hb⟩
    refine ⟨_, rfl, ?_⟩
    have n0_ := z_aM (z_rB (by (with_reducible repeat (first | apply z_rA | apply z_rN | apply z_rD)); exact HO176.out) hb)
    have n1_ := z_aM (z_rB (by (with_reducible repeat (first | apply z_rA | apply z_rN | apply z_rD)); exact HO181.out) hb)
    have n2_ := z_aM (z_rB (by (with_reducible repeat (first | apply z_rA | apply z_rN | apply z_rD)); exact HO185.out) hb)
    have n3_ := z_aM (z_rB (by (with_reducible repeat (first | apply z_rA | apply z_rN | apply z_rD)); exact HO191.out) hb)
    have n4_ := z_aM (z_rB (by (with_reducible repeat (first | apply z_rA | apply z_rN | apply z_rD)); exact HO196.out) hb)
    have n5_ := z_aM (z_kB (g := gb171) (o := .cells #[.slice A0_0 l0_0.length c0_0] 48 (0, 0)) (by (with_reducible repeat (first | refine z_kN ?_ _ | refine z_kD ?_ | refine z_kA ?_ _)); exact BK171.out) hb)
    have n6_ := z_aM (z_kB (g := gb172) (o := .cells #[.int .i64 a1_0, .int .i64 a1_1] 50 (0, 0)) (by (with_reducible repeat (first | refine z_kN ?_ _ | refine z_kD ?_ | refine z_kA ?_ _)); exact BK172.out) hb)
    have n7_ := z_aM (z_kB (g := gb182) (o := .cells #[.slice Ao35 t179.length co35] 54 (0, 0)) (by (with_reducible repeat (first | refine z_kN ?_ _ | refine z_kD ?_ | refine z_kA ?_ _)); exact BK182.out) hb)
    have n8_ := z_aM (z_kB (g := gb186) (o := .cells #[.slice Ao41 t183.length co41] 54 (0, 0)) (by (with_reducible repeat (first | refine z_kN ?_ _ | refine z_kD ?_ | refine z_kA ?_ _)); exact BK186.out) hb)
    have n9_ := z_aM (z_kB (g := gb192) (o := .cells #[.slice Ao52 t189.length co52] 54 (0, 0)) (by (with_reducible repeat (first | refine z_kN ?_ _ | refine z_kD ?_ | refine z_kA ?_ _)); exact BK192.out) hb)
    have n10_ := z_aM (z_bT (by repeat (first | (with_reducible first | exact HB.out | apply z_bA | apply z_bN | apply z_bD | refine z_bS ?_ GE171.out | refine z_bS ?_ GE172.out | refine z_bS ?_ GE182.out | refine z_bS ?_ GE186.out | refine z_bS ?_ GE192.out) | exact HB.out)) hb)
    clear HO176
    clear HO181
    clear HO185
    clear HO191
    clear HO196
    clear BK171
    clear BK172
    clear BK182
    clear BK186
    clear BK192
    clear HB
    have HO176 := n0_
    have HO181 := n1_
    have HO185 := n2_
    have HO191 := n3_
    have HO196 := n4_
    have BK171 := n5_
    have BK172 := n6_
    have BK182 := n7_
    have BK186 := n8_
    have BK192 := n9_
    have HB := n10_
    clear n0_ n1_ n2_ n3_ n4_ n5_ n6_ n7_ n8_ n9_ n10_
    (try clear hb)
    (try clear hb2)
    (try clear hk)
    (try clear hi)
    refine hK.out _ _ ⟨(z_kC BK186.out 0).trans rfl, (z_kC BK171.out 0).trans rfl⟩ (fun hHeld => ?_)
    clear hK K
    refine norm_ (a' := ?_) ?_ ?_
    rotate_left
    ·show Act.put _ (some 36) _ = _
     simp only [Act.put, z_lA, z_lZ, z_lS, i64_w, i32_w]
     rfl
    refine pure_ (i := 4) (N := some 37) (v := ?_) (a' := ?_) #[true, true, true, true, true] rfl rfl (by kernel_rfl) (fun _ _ _ h => h) (Or.inl ⟨by rfl, ?_⟩) ?_ ?_
    rotate_left
    ·intro w'
     go_simp
     with_reducible rfl
    rotate_left
    ·simp only [Act.put, z_lA, z_lZ, z_lS, i64_w, i32_w]
     rfl
    refine done_ (by kernel_rfl) ?_
    have hcz66_0 : w65.cell? ⟨gb186, 0, none⟩ = some (.slice Ao41 t183.length co41) := (z_kC BK186.out 0).trans rfl
    have hfz66_0 := blk_frozen BK186.out 0
    go_upto_region 14 with (first | ((with_reducible refine gate_callee (f := 62) rfl ?_); refine goesL_ (some 40) rfl rfl Try.func62 (by kernel_rfl) rfl #[.agg #[.slice Ao41 t183.length co41], .int .i64 1] rfl (by (try simp only [List.map_toArray, List.map_cons, List.map_nil]); first | done | rfl | (simp only [List.length_drop, List.length_take]; rfl)) ?_; (with_reducible refine (laws_markArena.calls k (fun k_ => some k_ = (.slice Ao41 t183.length co41 : Value).ownBlock) (.slice Ao41 t183.length co41) t183 1 t198 t199 w _ ?side1 ?side2 A21.out).mono ?_); (case side1 => repeat (first | (with_reducible first | exact HB.out | apply z_bA | apply z_bN | apply z_bD | refine z_bS ?_ GE171.out | refine z_bS ?_ GE172.out | refine z_bS ?_ GE182.out | refine z_bS ?_ GE186.out | refine z_bS ?_ GE192.out) | exact HB.out)); (case side2 => exact Kd.R_tight rfl HO185.out); rintro e w67 ⟨rfl, hy0, hb, hkp⟩; refine ⟨_, rfl, ?_⟩; have n0_ := z_aM (z_kK (by (with_reducible repeat (first | refine z_kN ?_ _ | refine z_kD ?_ | refine z_kA ?_ _)); exact BK171.out) hkp (fun hs_ => (fun e_ => (z_rE HO185.out BK171.out (by decide)) e_) hs_)); have n1_ := z_aM (z_kK (by (with_reducible repeat (first | refine z_kN ?_ _ | refine z_kD ?_ | refine z_kA ?_ _)); exact BK172.out) hkp (fun hs_ => (fun e_ => (z_rE HO185.out BK172.out (by decide)) e_) hs_)); have n2_ := z_aM (z_rM (ok' := fun k_ => some k_ ≠ (.slice Ao35 t179.length co35 : Value).ownBlock ∧ some k_ ≠ (.slice Ao41 t183.length co41 : Value).ownBlock ∧ some k_ ≠ (.slice Ao52 t189.length co52 : Value).ownBlock ∧ some k_ ≠ (.slice Ao64 t194.length co64 : Value).ownBlock) (z_rK (HO176.out) hkp (fun k_ hk_ hs_ => (hk_.1.2.1) hs_)) (fun k_ hk_ => ⟨hk_.1.1.1, hk_.1.1.2.1, hk_.1.1.2.2, hk_.1.2⟩)); have n3_ := z_aM (z_rM (ok' := fun k_ => some k_ ≠ (v175 : Value).ownBlock ∧ some k_ ≠ (.slice Ao41 t183.length co41 : Value).ownBlock ∧ some k_ ≠ (.slice Ao52 t189.length co52 : Value).ownBlock ∧ some k_ ≠ (.slice Ao64 t194.length co64 : Value).ownBlock) (z_rK (HO181.out) hkp (fun k_ hk_ hs_ => (hk_.1.2.1) hs_)) (fun k_ hk_ => ⟨hk_.1.1.1, hk_.1.1.2.1, hk_.1.1.2.2, hk_.1.2⟩)); have n4_ := z_aM (z_kK (by (with_reducible repeat (first | refine z_kN ?_ _ | refine z_kD ?_ | refine z_kA ?_ _)); exact BK182.out) hkp (fun hs_ => (fun e_ => (z_rE HO185.out BK182.out (by decide)) e_) hs_)); have n5_ := z_aM (Kd.R_reok rfl hy0 (fun k_ e_ => HO185.out.1 k_ e_)); have n6_ := z_aM (z_kK (by (with_reducible repeat (first | refine z_kN ?_ _ | refine z_kD ?_ | refine z_kA ?_ _)); exact BK186.out) hkp (fun hs_ => (fun e_ => (z_rE HO185.out BK186.out (by decide)) e_) hs_)); have n7_ := z_aM (z_rM (ok' := fun k_ => some k_ ≠ (v175 : Value).ownBlock ∧ some k_ ≠ (.slice Ao35 t179.length co35 : Value).ownBlock ∧ some k_ ≠ (.slice Ao41 t183.length co41 : Value).ownBlock ∧ some k_ ≠ (.slice Ao64 t194.length co64 : Value).ownBlock) (z_rK (HO191.out) hkp (fun k_ hk_ hs_ => (hk_.1.2.2) hs_)) (fun k_ hk_ => ⟨hk_.1.1.1, hk_.1.1.2.1, hk_.1.1.2.2, hk_.1.2⟩)); have n8_ := z_aM (z_kK (by (with_reducible repeat (first | refine z_kN ?_ _ | refine z_kD ?_ | refine z_kA ?_ _)); exact BK192.out) hkp (fun hs_ => (fun e_ => (z_rE HO185.out BK192.out (by decide)) e_) hs_)); have n9_ := z_aM (z_rM (ok' := fun k_ => some k_ ≠ (v175 : Value).ownBlock ∧ some k_ ≠ (.slice Ao35 t179.length co35 : Value).ownBlock ∧ some k_ ≠ (.slice Ao41 t183.length co41 : Value).ownBlock ∧ some k_ ≠ (.slice Ao52 t189.length co52 : Value).ownBlock) (z_rK (HO196.out) hkp (fun k_ hk_ hs_ => (hk_.1.2) hs_)) (fun k_ hk_ => ⟨hk_.1.1.1.1.2, hk_.1.1.1.2, hk_.1.1.2, hk_.1.2⟩)); have n10_ := z_aM (hb); clear BK171; clear BK172; clear HO176; clear HO181; clear BK182; clear HO185; clear BK186; clear HO191; clear BK192; clear HO196; clear HB; have BK171 := n0_; have BK172 := n1_; have HO176 := n2_; have HO181 := n3_; have BK182 := n4_; have HO185 := n5_; have BK186 := n6_; have HO191 := n7_; have BK192 := n8_; have HO196 := n9_; have HB := n10_; clear n0_ n1_ n2_ n3_ n4_ n5_ n6_ n7_ n8_ n9_ n10_; (try clear hb); (try clear hkp); (try clear hy0)))
    (try simp only [Act.put, z_lA, z_lZ, z_lS])
    go_cut [48] (fun v48 wc => ∃ (kq : Nat) (x48_21 : Bool), v48 = .bool x48_21 ∧ Aside0 (laws_FnExactClearCells.j0 kq x48_21 l0_0 a1_0 a1_1 t179 t189 = some r) ∧ Aside0 (kq ≤ k) ∧ Aside0 (Kd.R (Kd.int .i64) 3 wc w.heap.size (fun k_ => some k_ ≠ ((.slice Ao41 t183.length co41) : Value).ownBlock ∧ some k_ ≠ ((.slice Ao52 t189.length co52) : Value).ownBlock) (.slice Ao35 t179.length co35) t179) ∧ Aside0 (Kd.R (Kd.int .i64) 3 wc w.heap.size (fun k_ => some k_ ≠ ((.slice Ao35 t179.length co35) : Value).ownBlock ∧ some k_ ≠ ((.slice Ao52 t189.length co52) : Value).ownBlock) (.slice Ao41 t183.length co41) t199) ∧ Aside0 (Kd.R (Kd.int .i64) 3 wc w.heap.size (fun k_ => some k_ ≠ ((.slice Ao35 t179.length co35) : Value).ownBlock ∧ some k_ ≠ ((.slice Ao41 t183.length co41) : Value).ownBlock) (.slice Ao52 t189.length co52) t189) ∧ Aside0 (wc.heap[gb171]? = some (.cells #[(.slice A0_0 l0_0.length c0_0)] 48 (0, 0))) ∧ Aside0 (wc.heap[gb172]? = some (.cells #[.int .i64 a1_0, .int .i64 a1_1] 50 (0, 0))) ∧ Aside0 (wc.heap[gb182]? = some (.cells #[(.slice Ao35 t179.length co35)] 54 (0, 0))) ∧ Aside0 (wc.heap[gb186]? = some (.cells #[(.slice Ao41 t183.length co41)] 54 (0, 0))) ∧ Aside0 (wc.heap[gb192]? = some (.cells #[(.slice Ao52 t189.length co52)] 54 (0, 0))) ∧ Aside0 (Below w.heap.size w wc))
    case first =>
     have H := HC22.out
     clear HC22
     by_cases c68 : t198 < 0
     ·rw [if_pos c68] at H
      have c68b0 : decide (t198 < 0) = true := decide_eq_true c68
      clear c68
      (first | rw [c68b0] | (simp only [i64_w, i32_w]; rw [c68b0]) | skip)
      exfalso
      rw [hrt.out] at H
      rcases k with _ | k <;> simp [laws_FnExactClearCells.j0] at H
     ·rw [if_neg c68] at H
      have c68b0 : decide (t198 < 0) = false := decide_eq_false c68
      clear c68
      (first | rw [c68b0] | (simp only [i64_w, i32_w]; rw [c68b0]) | skip)
      replace H := Option.bind_eq_some_iff.mp H
      obtain ⟨t200, A690, H⟩ := H
      replace H : (laws_FnExactClearCells.j0 k (!t200) l0_0 a1_0 a1_1 t179 t189) = some r := H
      have A69 := z_aM A690
      clear A690
      have H' := z_aM H
      clear H
      have hnb70 := NB192_171.out
      have hnc70 := NB171_192.out
      have hnb71 := NB192_172.out
      have hnc71 := NB172_192.out
      have hnb72 := NB192_182.out
      have hnc72 := NB182_192.out
      have hnb73 := NB192_186.out
      have hnc73 := NB186_192.out
      have hcz74_0 : w67.cell? ⟨gb192, 0, none⟩ = some (.slice Ao52 t189.length co52) := (z_kC BK192.out 0).trans rfl
      have hfz74_0 := blk_frozen BK192.out 0
      have hnb75 := NB182_171.out
      have hnc75 := NB171_182.out
      have hnb76 := NB182_172.out
      have hnc76 := NB172_182.out
      have hnb77 := NB182_186.out
      have hnc77 := NB186_182.out
      have hcz78_0 : w67.cell? ⟨gb182, 0, none⟩ = some (.slice Ao35 t179.length co35) := (z_kC BK182.out 0).trans rfl
      have hfz78_0 := blk_frozen BK182.out 0
      go_wp2_with (first | (go_at_call 37; (with_reducible refine (laws_eqArena.calls k _ _ t189 _ _ t179 t200 _ ?side1 ?side2 ?side3 ?side4 A69.out).mono ?_); (case side1 => repeat (first | exact (Kd.R_reads' HO191.out).2.2 | (with_reducible refine Kd.C_alloc ?_ _) | (with_reducible refine Kd.C_drewN ?_ _) | (with_reducible refine Kd.C_drew ?_))); (case side2 => exact (Kd.R_reads' HO191.out).2.1); (case side3 => repeat (first | exact (Kd.R_reads' HO181.out).2.2 | (with_reducible refine Kd.C_alloc ?_ _) | (with_reducible refine Kd.C_drewN ?_ _) | (with_reducible refine Kd.C_drew ?_))); (case side4 => exact (Kd.R_reads' HO181.out).2.1); rintro e w79 ⟨rfl, hb⟩; have n0_ := z_aM (z_rB (by (with_reducible repeat (first | apply z_rA | apply z_rN | apply z_rD)); exact HO176.out) hb); have n1_ := z_aM (z_rB (by (with_reducible repeat (first | apply z_rA | apply z_rN | apply z_rD)); exact HO181.out) hb); have n2_ := z_aM (z_rB (by (with_reducible repeat (first | apply z_rA | apply z_rN | apply z_rD)); exact HO185.out) hb); have n3_ := z_aM (z_rB (by (with_reducible repeat (first | apply z_rA | apply z_rN | apply z_rD)); exact HO191.out) hb); have n4_ := z_aM (z_rB (by (with_reducible repeat (first | apply z_rA | apply z_rN | apply z_rD)); exact HO196.out) hb); have n5_ := z_aM (z_kB (g := gb171) (o := .cells #[.slice A0_0 l0_0.length c0_0] 48 (0, 0)) (by (with_reducible repeat (first | refine z_kN ?_ _ | refine z_kD ?_ | refine z_kA ?_ _)); exact BK171.out) hb); have n6_ := z_aM (z_kB (g := gb172) (o := .cells #[.int .i64 a1_0, .int .i64 a1_1] 50 (0, 0)) (by (with_reducible repeat (first | refine z_kN ?_ _ | refine z_kD ?_ | refine z_kA ?_ _)); exact BK172.out) hb); have n7_ := z_aM (z_kB (g := gb182) (o := .cells #[.slice Ao35 t179.length co35] 54 (0, 0)) (by (with_reducible repeat (first | refine z_kN ?_ _ | refine z_kD ?_ | refine z_kA ?_ _)); exact BK182.out) hb); have n8_ := z_aM (z_kB (g := gb186) (o := .cells #[.slice Ao41 t183.length co41] 54 (0, 0)) (by (with_reducible repeat (first | refine z_kN ?_ _ | refine z_kD ?_ | refine z_kA ?_ _)); exact BK186.out) hb); have n9_ := z_aM (z_kB (g := gb192) (o := .cells #[.slice Ao52 t189.length co52] 54 (0, 0)) (by (with_reducible repeat (first | refine z_kN ?_ _ | refine z_kD ?_ | refine z_kA ?_ _)); exact BK192.out) hb); have n10_ := z_aM (z_bT (by repeat (first | (with_reducible first | exact HB.out | apply z_bA | apply z_bN | apply z_bD | refine z_bS ?_ GE171.out | refine z_bS ?_ GE172.out | refine z_bS ?_ GE182.out | refine z_bS ?_ GE186.out | refine z_bS ?_ GE192.out) | exact HB.out)) hb); clear HO176; clear HO181; clear HO185; clear HO191; clear HO196; clear BK171; clear BK172; clear BK182; clear BK186; clear BK192; clear HB; have HO176 := n0_; have HO181 := n1_; have HO185 := n2_; have HO191 := n3_; have HO196 := n4_; have BK171 := n5_; have BK172 := n6_; have BK182 := n7_; have BK186 := n8_; have BK192 := n9_; have HB := n10_; clear n0_ n1_ n2_ n3_ n4_ n5_ n6_ n7_ n8_ n9_ n10_; (try clear hb); (try clear hb2); (try clear hk); (try clear hi)))
      go_meet
      case rel => exact ⟨_, (!t200), (by first | rfl | (simp; done) | (simp [*]; done)), H', ⟨by first | omega | exact Nat.le_refl _⟩, ⟨by (with_reducible repeat (first | apply z_rA | apply z_rN | apply z_rD)); exact z_rM HO181.out (fun _ hk => ⟨hk.2.1, hk.2.2.1⟩)⟩, ⟨by (with_reducible repeat (first | apply z_rA | apply z_rN | apply z_rD)); exact z_rM HO185.out (fun _ hk => ⟨hk.1.2.1, hk.1.2.2⟩)⟩, ⟨by (with_reducible repeat (first | apply z_rA | apply z_rN | apply z_rD)); exact z_rM HO191.out (fun _ hk => ⟨hk.2.1, hk.2.2.1⟩)⟩, ⟨by (with_reducible repeat (first | refine z_kN ?_ _ | refine z_kD ?_ | refine z_kA ?_ _)); exact BK171.out⟩, ⟨by (with_reducible repeat (first | refine z_kN ?_ _ | refine z_kD ?_ | refine z_kA ?_ _)); exact BK172.out⟩, ⟨by (with_reducible repeat (first | refine z_kN ?_ _ | refine z_kD ?_ | refine z_kA ?_ _)); exact BK182.out⟩, ⟨by (with_reducible repeat (first | refine z_kN ?_ _ | refine z_kD ?_ | refine z_kA ?_ _)); exact BK186.out⟩, ⟨by (with_reducible repeat (first | refine z_kN ?_ _ | refine z_kD ?_ | refine z_kA ?_ _)); exact BK192.out⟩, ⟨by repeat (first | (with_reducible first | exact HB.out | apply z_bA | apply z_bN | apply z_bD | refine z_bS ?_ GE171.out | refine z_bS ?_ GE172.out | refine z_bS ?_ GE182.out | refine z_bS ?_ GE186.out | refine z_bS ?_ GE192.out) | exact HB.out)⟩⟩
    case rest =>
     clear HC22
     try clear p2
     try clear c3
     try clear c5
     try clear c6
     try clear c7
     try clear c34
     try clear c35
     try clear c37
     try clear c54
     try clear c55
     try clear c56
     try clear c57
     try clear c59
     try clear c62
     try clear c66
     try clear c68
     try clear c68b0
     try clear c70
     try clear c71
     try clear c72
     try clear c73
     try clear c75
     try clear c76
     try clear c77
     try clear hcz58_0
     try clear hcz60_0
     try clear hcz66_0
     try clear hcz74_0
     try clear hcz78_0
     try clear hfz58_0
     try clear hfz60_0
     try clear hfz66_0
     try clear hfz74_0
     try clear hfz78_0
     obtain ⟨kq, x48_21, rfl, HA, HJ21, HO_183000, HO_187000, HO_193000, BK171, BK172, BK182, BK186, BK192, HB⟩ := hcut
     have hl187000_21 := (Kd.R_reads' HO_187000.out).1
     rw [hl187000_21] at HO_187000
     (try simp only [hl187000_21])
     (try simp only [hl187000_21] at BK171)
     (try simp only [hl187000_21] at BK172)
     (try simp only [hl187000_21] at BK182)
     (try simp only [hl187000_21] at BK186)
     (try simp only [hl187000_21] at BK192)
     (try simp only [hl187000_21] at HO_183000)
     (try simp only [hl187000_21] at HO_193000)
     cases kq with
     | zero => exact absurd HA.out (by simp [laws_FnExactClearCells.j0])
     | succ kj21 =>
      have H := HA.out
      clear HA
      simp only [laws_FnExactClearCells.j0] at H
      by_cases c80 : x48_21 = true
      ·subst c80
       have H1 : (some false) = some r := by rw [if_pos rfl] at H; exact H
       clear H
       have H := H1
       clear H1
       exact absurd (Option.some.inj H) (by rw [hrt.out]; decide)
      ·replace c80 := Bool.eq_false_iff.mpr c80
       subst c80
       have H1 : ((laws_markArena.f kj21 t189 1).bind fun bt201 => ((laws_heldArena.f kj21 bt201.2 1).bind fun t203 => (if t203 < 0 then (some false) else (if t203 = bt201.1 then ((laws_toArena.f kj21 l0_0).bind fun t204 => ((laws_toRegion.f a1_0 a1_1).bind fun bt207 => ((impl_ClearCells.f kj21 t204 bt207.1 bt207.2).bind fun t209 => ((laws_eqArena.f kj21 t209 t179).bind fun t213 => (if t213 = true then ((laws_heldArena.f kj21 bt201.2 1).bind fun t214 => (if t214 < 0 then (some false) else (if t214 = bt201.1 then (some true) else (some false)))) else (some false)))))) else (some false))))) = some r := by rw [if_neg (show ¬ (false = true) by decide)] at H; exact H
       clear H
       have H := H1
       clear H1
       replace H := Option.bind_eq_some_iff.mp H
       obtain ⟨⟨t201, t202⟩, A810, H⟩ := H
       replace H : ((laws_heldArena.f kj21 t202 1).bind fun t203 => (if t203 < 0 then (some false) else (if t203 = t201 then ((laws_toArena.f kj21 l0_0).bind fun t204 => ((laws_toRegion.f a1_0 a1_1).bind fun bt207 => ((impl_ClearCells.f kj21 t204 bt207.1 bt207.2).bind fun t209 => ((laws_eqArena.f kj21 t209 t179).bind fun t213 => (if t213 = true then ((laws_heldArena.f kj21 t202 1).bind fun t214 => (if t214 < 0 then (some false) else (if t214 = t201 then (some true) else (some false)))) else (some false)))))) else (some false)))) = some r := H
       have A81 := z_aM A810
       clear A810
       replace H := Option.bind_eq_some_iff.mp H
       obtain ⟨t203, A820, H⟩ := H
       replace H : (if t203 < 0 then (some false) else (if t203 = t201 then ((laws_toArena.f kj21 l0_0).bind fun t204 => ((laws_toRegion.f a1_0 a1_1).bind fun bt207 => ((impl_ClearCells.f kj21 t204 bt207.1 bt207.2).bind fun t209 => ((laws_eqArena.f kj21 t209 t179).bind fun t213 => (if t213 = true then ((laws_heldArena.f kj21 t202 1).bind fun t214 => (if t214 < 0 then (some false) else (if t214 = t201 then (some true) else (some false)))) else (some false)))))) else (some false))) = some r := H
       have A82 := z_aM A820
       clear A820
       by_cases c83 : t203 < 0
       ·rw [if_pos c83] at H
        have c83b0 : decide (t203 < 0) = true := decide_eq_true c83
        clear c83
        exact absurd (Option.some.inj H) (by rw [hrt.out]; decide)
       ·rw [if_neg c83] at H
        have c83b0 : decide (t203 < 0) = false := decide_eq_false c83
        clear c83
        by_cases c92 : t203 = t201
        ·rw [if_pos c92] at H
         have c92b0 : (t203 == t201) = true := beq_iff_eq.mpr c92
         have c92b1 : (t203 != t201) = false := bne_eq_false_iff_eq.mpr c92
         clear c92
         replace H := Option.bind_eq_some_iff.mp H
         obtain ⟨t204, A930, H⟩ := H
         replace H : ((laws_toRegion.f a1_0 a1_1).bind fun bt207 => ((impl_ClearCells.f kj21 t204 bt207.1 bt207.2).bind fun t209 => ((laws_eqArena.f kj21 t209 t179).bind fun t213 => (if t213 = true then ((laws_heldArena.f kj21 t202 1).bind fun t214 => (if t214 < 0 then (some false) else (if t214 = t201 then (some true) else (some false)))) else (some false))))) = some r := H
         have A93 := z_aM A930
         clear A930
         replace H := Option.bind_eq_some_iff.mp H
         obtain ⟨⟨t207, t208⟩, A940, H⟩ := H
         replace H : ((impl_ClearCells.f kj21 t204 t207 t208).bind fun t209 => ((laws_eqArena.f kj21 t209 t179).bind fun t213 => (if t213 = true then ((laws_heldArena.f kj21 t202 1).bind fun t214 => (if t214 < 0 then (some false) else (if t214 = t201 then (some true) else (some false)))) else (some false)))) = some r := H
         have A94 := z_aM A940
         clear A940
         replace H := Option.bind_eq_some_iff.mp H
         obtain ⟨t209, A950, H⟩ := H
         replace H : ((laws_eqArena.f kj21 t209 t179).bind fun t213 => (if t213 = true then ((laws_heldArena.f kj21 t202 1).bind fun t214 => (if t214 < 0 then (some false) else (if t214 = t201 then (some true) else (some false)))) else (some false))) = some r := H
         have A95 := z_aM A950
         clear A950
         replace H := Option.bind_eq_some_iff.mp H
         obtain ⟨t213, A960, H⟩ := H
         replace H : (if t213 = true then ((laws_heldArena.f kj21 t202 1).bind fun t214 => (if t214 < 0 then (some false) else (if t214 = t201 then (some true) else (some false)))) else (some false)) = some r := H
         have A96 := z_aM A960
         clear A960
         by_cases c97 : t213 = true
         ·subst c97
          have H1 : ((laws_heldArena.f kj21 t202 1).bind fun t214 => (if t214 < 0 then (some false) else (if t214 = t201 then (some true) else (some false)))) = some r := by rw [if_pos rfl] at H; exact H
          clear H
          have H := H1
          clear H1
          replace H := Option.bind_eq_some_iff.mp H
          obtain ⟨t214, A980, H⟩ := H
          replace H : (if t214 < 0 then (some false) else (if t214 = t201 then (some true) else (some false))) = some r := H
          have A98 := z_aM A980
          clear A980
          by_cases c99 : t214 < 0
          ·rw [if_pos c99] at H
           have c99b0 : decide (t214 < 0) = true := decide_eq_true c99
           clear c99
           exact absurd (Option.some.inj H) (by rw [hrt.out]; decide)
          ·rw [if_neg c99] at H
           have c99b0 : decide (t214 < 0) = false := decide_eq_false c99
           clear c99
           by_cases c130 : t214 = t201
           ·rw [if_pos c130] at H
            have c130b0 : (t214 == t201) = true := beq_iff_eq.mpr c130
            have c130b1 : (t214 != t201) = false := bne_eq_false_iff_eq.mpr c130
            clear c130
            obtain rfl := Option.some.inj H
            have hnb131 := NB192_171.out
            have hnc131 := NB171_192.out
            have hnb132 := NB192_172.out
            have hnc132 := NB172_192.out
            have hnb133 := NB192_182.out
            have hnc133 := NB182_192.out
            have hnb134 := NB192_186.out
            have hnc134 := NB186_192.out
            have hcz135_0 : wc.cell? ⟨gb192, 0, none⟩ = some (.slice Ao52 t189.length co52) := (z_kC BK192.out 0).trans rfl
            have hfz135_0 := blk_frozen BK192.out 0
            try go_wp2_with (first | ((with_reducible refine gate_callee (f := 62) rfl ?_); refine goesL_ (some 51) rfl rfl Try.func62 (by kernel_rfl) rfl #[.agg #[.slice Ao52 t189.length co52], .int .i64 1] rfl (by (try simp only [List.map_toArray, List.map_cons, List.map_nil]); first | done | rfl | (simp only [List.length_drop, List.length_take]; rfl)) ?_; (with_reducible refine (laws_markArena.calls kj21 (fun k_ => some k_ = (.slice Ao52 t189.length co52 : Value).ownBlock) (.slice Ao52 t189.length co52) t189 1 t201 t202 w _ ?side1 ?side2 A81.out).mono ?_); (case side1 => repeat (first | (with_reducible first | exact HB.out | apply z_bA | apply z_bN | apply z_bD | refine z_bS ?_ GE171.out | refine z_bS ?_ GE172.out | refine z_bS ?_ GE182.out | refine z_bS ?_ GE186.out | refine z_bS ?_ GE192.out) | exact HB.out)); (case side2 => exact Kd.R_tight rfl HO_193000.out); rintro e w136 ⟨rfl, hy0, hb, hkp⟩; refine ⟨_, rfl, ?_⟩; have n0_ := z_aM (z_rM (ok' := fun k_ => some k_ ≠ (.slice Ao41 t199.length co41 : Value).ownBlock ∧ some k_ ≠ (.slice Ao52 t189.length co52 : Value).ownBlock) (z_rK (HO_183000.out) hkp (fun k_ hk_ hs_ => (hk_.2) hs_)) (fun k_ hk_ => ⟨hk_.1.1, hk_.1.2⟩)); have n1_ := z_aM (z_rM (ok' := fun k_ => some k_ ≠ (.slice Ao35 t179.length co35 : Value).ownBlock ∧ some k_ ≠ (.slice Ao52 t189.length co52 : Value).ownBlock) (z_rK (HO_187000.out) hkp (fun k_ hk_ hs_ => (hk_.2) hs_)) (fun k_ hk_ => ⟨hk_.1.1, hk_.1.2⟩)); have n2_ := z_aM (Kd.R_reok rfl hy0 (fun k_ e_ => HO_193000.out.1 k_ e_)); have n3_ := z_aM (z_kK (by (with_reducible repeat (first | refine z_kN ?_ _ | refine z_kD ?_ | refine z_kA ?_ _)); exact BK171.out) hkp (fun hs_ => (fun e_ => (z_rE HO_193000.out BK171.out (by decide)) e_) hs_)); have n4_ := z_aM (z_kK (by (with_reducible repeat (first | refine z_kN ?_ _ | refine z_kD ?_ | refine z_kA ?_ _)); exact BK172.out) hkp (fun hs_ => (fun e_ => (z_rE HO_193000.out BK172.out (by decide)) e_) hs_)); have n5_ := z_aM (z_kK (by (with_reducible repeat (first | refine z_kN ?_ _ | refine z_kD ?_ | refine z_kA ?_ _)); exact BK182.out) hkp (fun hs_ => (fun e_ => (z_rE HO_193000.out BK182.out (by decide)) e_) hs_)); have n6_ := z_aM (z_kK (by (with_reducible repeat (first | refine z_kN ?_ _ | refine z_kD ?_ | refine z_kA ?_ _)); exact BK186.out) hkp (fun hs_ => (fun e_ => (z_rE HO_193000.out BK186.out (by decide)) e_) hs_)); have n7_ := z_aM (z_kK (by (with_reducible repeat (first | refine z_kN ?_ _ | refine z_kD ?_ | refine z_kA ?_ _)); exact BK192.out) hkp (fun hs_ => (fun e_ => (z_rE HO_193000.out BK192.out (by decide)) e_) hs_)); have n8_ := z_aM (hb); clear HO_183000; clear HO_187000; clear HO_193000; clear BK171; clear BK172; clear BK182; clear BK186; clear BK192; clear HB; have HO_183000 := n0_; have HO_187000 := n1_; have HO_193000 := n2_; have BK171 := n3_; have BK172 := n4_; have BK182 := n5_; have BK186 := n6_; have BK192 := n7_; have HB := n8_; clear n0_ n1_ n2_ n3_ n4_ n5_ n6_ n7_ n8_; (try clear hb); (try clear hkp); (try clear hy0); have hcz137_0 : w136.cell? ⟨gb192, 0, none⟩ = some (.slice Ao52 t189.length co52) := (z_kC BK192.out 0).trans rfl; have hfz137_0 := blk_frozen BK192.out 0) | ((with_reducible refine gate_callee (f := 67) rfl ?_); refine goesL_ (some 54) rfl rfl Try.func67 (by kernel_rfl) rfl #[.agg #[.slice Ao52 t202.length co52], .int .i64 1] rfl (by (try simp only [List.map_toArray, List.map_cons, List.map_nil]); first | done | (rw [show t202.length = t189.length from (Kd.R_reads' HO_193000.out).1.symm] <;> rfl) | rfl | (simp only [List.length_drop, List.length_take]; rfl)) ?_; (with_reducible refine (laws_heldArena.calls kj21 _ _ t202 1 t203 _ ?side1 ?side2 A82.out).mono ?_); (case side1 => repeat (first | exact (Kd.R_reads' HO_193000.out).2.2 | (with_reducible refine Kd.C_alloc ?_ _) | (with_reducible refine Kd.C_drewN ?_ _) | (with_reducible refine Kd.C_drew ?_))); (case side2 => rw [show t202.length = t189.length from (Kd.R_reads' HO_193000.out).1.symm]; exact (Kd.R_reads' HO_193000.out).2.1); rintro e w138 ⟨rfl, hb⟩; refine ⟨_, rfl, ?_⟩; have n0_ := z_aM (z_rB (by (with_reducible repeat (first | apply z_rA | apply z_rN | apply z_rD)); exact HO_183000.out) hb); have n1_ := z_aM (z_rB (by (with_reducible repeat (first | apply z_rA | apply z_rN | apply z_rD)); exact HO_187000.out) hb); have n2_ := z_aM (z_rB (by (with_reducible repeat (first | apply z_rA | apply z_rN | apply z_rD)); exact HO_193000.out) hb); have n3_ := z_aM (z_kB (g := gb171) (o := .cells #[.slice A0_0 l0_0.length c0_0] 48 (0, 0)) (by (with_reducible repeat (first | refine z_kN ?_ _ | refine z_kD ?_ | refine z_kA ?_ _)); exact BK171.out) hb); have n4_ := z_aM (z_kB (g := gb172) (o := .cells #[.int .i64 a1_0, .int .i64 a1_1] 50 (0, 0)) (by (with_reducible repeat (first | refine z_kN ?_ _ | refine z_kD ?_ | refine z_kA ?_ _)); exact BK172.out) hb); have n5_ := z_aM (z_kB (g := gb182) (o := .cells #[.slice Ao35 t179.length co35] 54 (0, 0)) (by (with_reducible repeat (first | refine z_kN ?_ _ | refine z_kD ?_ | refine z_kA ?_ _)); exact BK182.out) hb); have n6_ := z_aM (z_kB (g := gb186) (o := .cells #[.slice Ao41 t199.length co41] 54 (0, 0)) (by (with_reducible repeat (first | refine z_kN ?_ _ | refine z_kD ?_ | refine z_kA ?_ _)); exact BK186.out) hb); have n7_ := z_aM (z_kB (g := gb192) (o := .cells #[.slice Ao52 t189.length co52] 54 (0, 0)) (by (with_reducible repeat (first | refine z_kN ?_ _ | refine z_kD ?_ | refine z_kA ?_ _)); exact BK192.out) hb); have n8_ := z_aM (z_bT (by repeat (first | (with_reducible first | exact HB.out | apply z_bA | apply z_bN | apply z_bD | refine z_bS ?_ GE171.out | refine z_bS ?_ GE172.out | refine z_bS ?_ GE182.out | refine z_bS ?_ GE186.out | refine z_bS ?_ GE192.out) | exact HB.out)) hb); clear HO_183000; clear HO_187000; clear HO_193000; clear BK171; clear BK172; clear BK182; clear BK186; clear BK192; clear HB; have HO_183000 := n0_; have HO_187000 := n1_; have HO_193000 := n2_; have BK171 := n3_; have BK172 := n4_; have BK182 := n5_; have BK186 := n6_; have BK192 := n7_; have HB := n8_; clear n0_ n1_ n2_ n3_ n4_ n5_ n6_ n7_ n8_; (try clear hb); (try clear hb2); (try clear hk); (try clear hi)))
            have n0_ := z_aM (z_rD HO_183000.out)
            have n1_ := z_aM (z_rD HO_187000.out)
            have n2_ := z_aM (z_rD HO_193000.out)
            have n3_ := z_aM (z_kD BK171.out)
            have n4_ := z_aM (z_kD BK172.out)
            have n5_ := z_aM (z_kD BK182.out)
            have n6_ := z_aM (z_kD BK186.out)
            have n7_ := z_aM (z_kD BK192.out)
            have n8_ := z_aM (z_bD HB.out)
            clear HO_183000
            clear HO_187000
            clear HO_193000
            clear BK171
            clear BK172
            clear BK182
            clear BK186
            clear BK192
            clear HB
            have HO_183000 := n0_
            have HO_187000 := n1_
            have HO_193000 := n2_
            have BK171 := n3_
            have BK172 := n4_
            have BK182 := n5_
            have BK186 := n6_
            have BK192 := n7_
            have HB := n8_
            clear n0_ n1_ n2_ n3_ n4_ n5_ n6_ n7_ n8_
            refine start_ (n := 7) (S := fun w' => w'.cell? ⟨gb171, 0, none⟩ = some (.slice A0_0 l0_0.length c0_0) ∧ w'.cell? ⟨gb172, 0, none⟩ = some (.int .i64 a1_0) ∧ w'.cell? ⟨gb172, 1, none⟩ = some (.int .i64 a1_1)) (ds := []) #[false, false, false, false, false, false, false] (by kernel_rfl) rfl rfl ⟨(z_kC BK171.out 0).trans rfl, (z_kC BK172.out 0).trans rfl, (z_kC BK172.out 1).trans rfl⟩ (fun hHeld => ?_)
            generalize w138.drew = w139 at HO_183000 HO_187000 HO_193000 BK171 BK172 BK182 BK186 BK192 HB hHeld ⊢
            refine take_ (i := 0) (N := some 60) (v := ?_) (a' := ?_) #[true, false, false, false, false, false, false] rfl rfl (by kernel_rfl) (fun _ _ _ h => h) (Or.inl ⟨by rfl, ?_⟩) hHeld ?_ ?_
            rotate_left
            ·rintro w' ⟨s0, s1, s2⟩
             go_simp
             with_reducible rfl
            rotate_left
            ·simp only [Act.put, z_lA, z_lZ, z_lS, i64_w, i32_w]
             rfl
            refine take_ (i := 2) (N := some 62) (v := ?_) (a' := ?_) #[true, false, true, false, false, false, false] rfl rfl (by kernel_rfl) (fun _ _ _ h => h) (Or.inl ⟨by rfl, ?_⟩) hHeld ?_ ?_
            rotate_left
            ·rintro w' ⟨s0, s1, s2⟩
             go_simp
             with_reducible rfl
            rotate_left
            ·simp only [Act.put, z_lA, z_lZ, z_lS, i64_w, i32_w]
             rfl
            refine join_ (σ := Value × Value × Nat) 1 #[true, true, true, true, true, true, false] (fun s_ => [(61, .agg #[s_.1]), (63, .agg #[.int .i64 t207, .int .i64 t208]), (64, .agg #[s_.2.1]), (12, .pointer (some ⟨s_.2.2, 0, none⟩))]) (fun s_ w' => (w'.cell? ⟨gb171, 0, none⟩ = some (.slice A0_0 l0_0.length c0_0) ∧ w'.cell? ⟨gb172, 0, none⟩ = some (.int .i64 a1_0) ∧ w'.cell? ⟨gb172, 1, none⟩ = some (.int .i64 a1_1)) ∧ (Kd.R (Kd.int .i64) 3 w' w.heap.size (fun k_ => some k_ ≠ (s_.2.1 : Value).ownBlock ∧ some k_ ≠ (.slice Ao35 t179.length co35 : Value).ownBlock ∧ some k_ ≠ (.slice Ao41 t199.length co41 : Value).ownBlock ∧ some k_ ≠ (.slice Ao52 t189.length co52 : Value).ownBlock) s_.1 t204) ∧ (Kd.R (Kd.int .i64) 3 w' w.heap.size (fun k_ => some k_ ≠ (s_.1 : Value).ownBlock ∧ some k_ ≠ (.slice Ao35 t179.length co35 : Value).ownBlock ∧ some k_ ≠ (.slice Ao41 t199.length co41 : Value).ownBlock ∧ some k_ ≠ (.slice Ao52 t189.length co52 : Value).ownBlock) s_.2.1 t209) ∧ (Kd.R (Kd.int .i64) 3 w' w.heap.size (fun k_ => some k_ ≠ (s_.1 : Value).ownBlock ∧ some k_ ≠ (s_.2.1 : Value).ownBlock ∧ some k_ ≠ (.slice Ao41 t199.length co41 : Value).ownBlock ∧ some k_ ≠ (.slice Ao52 t189.length co52 : Value).ownBlock) (.slice Ao35 t179.length co35) t179) ∧ (Kd.R (Kd.int .i64) 3 w' w.heap.size (fun k_ => some k_ ≠ (s_.1 : Value).ownBlock ∧ some k_ ≠ (s_.2.1 : Value).ownBlock ∧ some k_ ≠ (.slice Ao35 t179.length co35 : Value).ownBlock ∧ some k_ ≠ (.slice Ao52 t189.length co52 : Value).ownBlock) (.slice Ao41 t199.length co41) t199) ∧ (Kd.R (Kd.int .i64) 3 w' w.heap.size (fun k_ => some k_ ≠ (s_.1 : Value).ownBlock ∧ some k_ ≠ (s_.2.1 : Value).ownBlock ∧ some k_ ≠ (.slice Ao35 t179.length co35 : Value).ownBlock ∧ some k_ ≠ (.slice Ao41 t199.length co41 : Value).ownBlock) (.slice Ao52 t189.length co52) t202) ∧ (w'.heap[gb171]? = some (.cells #[.slice A0_0 l0_0.length c0_0] 48 (0, 0))) ∧ (w'.heap[gb172]? = some (.cells #[.int .i64 a1_0, .int .i64 a1_1] 50 (0, 0))) ∧ (w'.heap[gb182]? = some (.cells #[.slice Ao35 t179.length co35] 54 (0, 0))) ∧ (w'.heap[gb186]? = some (.cells #[.slice Ao41 t199.length co41] 54 (0, 0))) ∧ (w'.heap[gb192]? = some (.cells #[.slice Ao52 t189.length co52] 54 (0, 0))) ∧ (w'.heap[s_.2.2]? = some (.cells #[.slice none 0 0] 54 (0, 0))) ∧ (w.heap.size ≤ s_.2.2) ∧ (w.heap.size ≤ s_.2.2) ∧ (gb171 ≠ s_.2.2) ∧ (s_.2.2 ≠ gb171) ∧ (gb172 ≠ s_.2.2) ∧ (s_.2.2 ≠ gb172) ∧ (gb182 ≠ s_.2.2) ∧ (s_.2.2 ≠ gb182) ∧ (gb186 ≠ s_.2.2) ∧ (s_.2.2 ≠ gb186) ∧ (gb192 ≠ s_.2.2) ∧ (s_.2.2 ≠ gb192) ∧ (Below w.heap.size w w')) ?_ ?_
            rotate_left
            ·intro hCont
             refine two_ (i := 1) (j := 5) (Ni := some 61) (Nj := some 12) #[true, true, true, false, false, false, false] #[true, false, true, false, false, true, false] rfl rfl rfl rfl (by kernel_rfl) (by decide) (by decide) (fun K hK => ?_) (fun K hK => ?_)
             ·skip
              refine goes_ Try.func34 (by kernel_rfl) rfl #[.agg #[.slice A0_0 l0_0.length c0_0]] (by rfl) rfl rfl (by (try simp only [List.map_toArray, List.map_cons, List.map_nil]); first | done | rfl | (simp only [List.length_drop, List.length_take]; rfl)) ?_
              with_reducible refine (laws_toArena.calls kj21 _ _ l0_0 t204 _ ?side1 ?side2 A93.out).mono ?_
              (case side1 => repeat (first | exact (Kd.C_below HR0_0.out HB.out) | (with_reducible refine Kd.C_alloc ?_ _) | (with_reducible refine Kd.C_drewN ?_ _) | (with_reducible refine Kd.C_drew ?_)))
              (case side2 => exact HC0_0.out)
              rintro e w140 ⟨v205, rfl, ho0, hb⟩
              refine ⟨_, rfl, ?_⟩
              have n0_ := z_aM (Kd.R_elder' (by (with_reducible repeat (first | apply z_rA | apply z_rN | apply z_rD)); exact HO_183000.out) (Kd.R_base ho0) hb)
              have n1_ := z_aM (Kd.R_elder' (by (with_reducible repeat (first | apply z_rA | apply z_rN | apply z_rD)); exact HO_187000.out) (Kd.R_base ho0) hb)
              have n2_ := z_aM (Kd.R_elder' (by (with_reducible repeat (first | apply z_rA | apply z_rN | apply z_rD)); exact HO_193000.out) (Kd.R_base ho0) hb)
              have n3_ := z_aM (Kd.R_lower (Kd.R_new' (Kd.R_new' (Kd.R_new' ho0 (z_rL (by (with_reducible repeat (first | apply z_rA | apply z_rN | apply z_rD)); exact HO_183000.out))) (z_rL (by (with_reducible repeat (first | apply z_rA | apply z_rN | apply z_rD)); exact HO_187000.out))) (z_rL (by (with_reducible repeat (first | apply z_rA | apply z_rN | apply z_rD)); exact HO_193000.out))) (z_bZ (by repeat (first | (with_reducible first | exact HB.out | apply z_bA | apply z_bN | apply z_bD | refine z_bS ?_ GE171.out | refine z_bS ?_ GE172.out | refine z_bS ?_ GE182.out | refine z_bS ?_ GE186.out | refine z_bS ?_ GE192.out) | exact HB.out))))
              have n4_ := z_aM (z_kB (g := gb171) (o := .cells #[.slice A0_0 l0_0.length c0_0] 48 (0, 0)) (by (with_reducible repeat (first | refine z_kN ?_ _ | refine z_kD ?_ | refine z_kA ?_ _)); exact BK171.out) hb)
              have n5_ := z_aM (z_kB (g := gb172) (o := .cells #[.int .i64 a1_0, .int .i64 a1_1] 50 (0, 0)) (by (with_reducible repeat (first | refine z_kN ?_ _ | refine z_kD ?_ | refine z_kA ?_ _)); exact BK172.out) hb)
              have n6_ := z_aM (z_kB (g := gb182) (o := .cells #[.slice Ao35 t179.length co35] 54 (0, 0)) (by (with_reducible repeat (first | refine z_kN ?_ _ | refine z_kD ?_ | refine z_kA ?_ _)); exact BK182.out) hb)
              have n7_ := z_aM (z_kB (g := gb186) (o := .cells #[.slice Ao41 t199.length co41] 54 (0, 0)) (by (with_reducible repeat (first | refine z_kN ?_ _ | refine z_kD ?_ | refine z_kA ?_ _)); exact BK186.out) hb)
              have n8_ := z_aM (z_kB (g := gb192) (o := .cells #[.slice Ao52 t189.length co52] 54 (0, 0)) (by (with_reducible repeat (first | refine z_kN ?_ _ | refine z_kD ?_ | refine z_kA ?_ _)); exact BK192.out) hb)
              have n9_ := z_aM (z_bT (by repeat (first | (with_reducible first | exact HB.out | apply z_bA | apply z_bN | apply z_bD | refine z_bS ?_ GE171.out | refine z_bS ?_ GE172.out | refine z_bS ?_ GE182.out | refine z_bS ?_ GE186.out | refine z_bS ?_ GE192.out) | exact HB.out)) hb)
              clear HO_183000
              clear HO_187000
              clear HO_193000
              clear BK171
              clear BK172
              clear BK182
              clear BK186
              clear BK192
              clear HB
              have HO_183000 := n0_
              have HO_187000 := n1_
              have HO_193000 := n2_
              have HO206 := n3_
              have BK171 := n4_
              have BK172 := n5_
              have BK182 := n6_
              have BK186 := n7_
              have BK192 := n8_
              have HB := n9_
              clear n0_ n1_ n2_ n3_ n4_ n5_ n6_ n7_ n8_ n9_
              (try clear hb)
              (try clear hb2)
              (try clear hk)
              (try clear hi)
              (try clear ho0)
              refine hK.out _ _ ⟨(z_kC BK171.out 0).trans rfl, (z_kC BK172.out 0).trans rfl, (z_kC BK172.out 1).trans rfl⟩ (fun hHeld => ?_)
              clear hK K
              refine norm_ (a' := ?_) ?_ ?_
              rotate_left
              ·show Act.put _ (some 61) _ = _
               simp only [Act.put, z_lA, z_lZ, z_lS, i64_w, i32_w]
               rfl
              refine two_ (i := 3) (j := 5) (Ni := some 63) (Nj := some 12) #[true, true, true, true, false, false, false] #[true, true, true, false, false, true, false] rfl rfl rfl rfl (by kernel_rfl) (by decide) (by decide) (fun K hK => ?_) (fun K hK => ?_)
              ·skip
               refine goes_ Try.func35 (by kernel_rfl) rfl #[.agg #[.int .i64 a1_0, .int .i64 a1_1]] (by rfl) rfl rfl (by (try simp only [List.map_toArray, List.map_cons, List.map_nil]); first | done | rfl | (simp only [List.length_drop, List.length_take]; rfl)) ?_
               with_reducible refine (laws_toRegion.calls a1_0 a1_1 t207 t208 _ A94.out).mono ?_
               rintro e w141 ⟨rfl, hb⟩
               refine ⟨_, rfl, ?_⟩
               have n0_ := z_aM (z_rB (by (with_reducible repeat (first | apply z_rA | apply z_rN | apply z_rD)); exact HO_183000.out) hb)
               have n1_ := z_aM (z_rB (by (with_reducible repeat (first | apply z_rA | apply z_rN | apply z_rD)); exact HO_187000.out) hb)
               have n2_ := z_aM (z_rB (by (with_reducible repeat (first | apply z_rA | apply z_rN | apply z_rD)); exact HO_193000.out) hb)
               have n3_ := z_aM (z_rB (by (with_reducible repeat (first | apply z_rA | apply z_rN | apply z_rD)); exact HO206.out) hb)
               have n4_ := z_aM (z_kB (g := gb171) (o := .cells #[.slice A0_0 l0_0.length c0_0] 48 (0, 0)) (by (with_reducible repeat (first | refine z_kN ?_ _ | refine z_kD ?_ | refine z_kA ?_ _)); exact BK171.out) hb)
               have n5_ := z_aM (z_kB (g := gb172) (o := .cells #[.int .i64 a1_0, .int .i64 a1_1] 50 (0, 0)) (by (with_reducible repeat (first | refine z_kN ?_ _ | refine z_kD ?_ | refine z_kA ?_ _)); exact BK172.out) hb)
               have n6_ := z_aM (z_kB (g := gb182) (o := .cells #[.slice Ao35 t179.length co35] 54 (0, 0)) (by (with_reducible repeat (first | refine z_kN ?_ _ | refine z_kD ?_ | refine z_kA ?_ _)); exact BK182.out) hb)
               have n7_ := z_aM (z_kB (g := gb186) (o := .cells #[.slice Ao41 t199.length co41] 54 (0, 0)) (by (with_reducible repeat (first | refine z_kN ?_ _ | refine z_kD ?_ | refine z_kA ?_ _)); exact BK186.out) hb)
               have n8_ := z_aM (z_kB (g := gb192) (o := .cells #[.slice Ao52 t189.length co52] 54 (0, 0)) (by (with_reducible repeat (first | refine z_kN ?_ _ | refine z_kD ?_ | refine z_kA ?_ _)); exact BK192.out) hb)
               have n9_ := z_aM (z_bT (by repeat (first | (with_reducible first | exact HB.out | apply z_bA | apply z_bN | apply z_bD | refine z_bS ?_ GE171.out | refine z_bS ?_ GE172.out | refine z_bS ?_ GE182.out | refine z_bS ?_ GE186.out | refine z_bS ?_ GE192.out) | exact HB.out)) hb)
               clear HO_183000
               clear HO_187000
               clear HO_193000
               clear HO206
               clear BK171
               clear BK172
               clear BK182
               clear BK186
               clear BK192
               clear HB
               have HO_183000 := n0_
               have HO_187000 := n1_
               have HO_193000 := n2_
               have HO206 := n3_
               have BK171 := n4_
               have BK172 := n5_
               have BK182 := n6_
               have BK186 := n7_
               have BK192 := n8_
               have HB := n9_
               clear n0_ n1_ n2_ n3_ n4_ n5_ n6_ n7_ n8_ n9_
               (try clear hb)
               (try clear hb2)
               (try clear hk)
               (try clear hi)
               obtain ⟨Ao142, co142, eo142⟩ := Kd.R_slice HO206.out
               (first | subst eo142 | (injection eo142 with f1_ f2_ f3_; have f4_ := f1_.symm; have f5_ := f3_.symm; clear f1_ f2_ f3_; subst f4_; subst f5_))
               refine hK.out _ _ ⟨(z_kC BK171.out 0).trans rfl, (z_kC BK172.out 0).trans rfl, (z_kC BK172.out 1).trans rfl⟩ (fun hHeld => ?_)
               clear hK K
               refine norm_ (a' := ?_) ?_ ?_
               rotate_left
               ·show Act.put _ (some 63) _ = _
                simp only [Act.put, z_lA, z_lZ, z_lS, i64_w, i32_w]
                rfl
               refine two_ (i := 4) (j := 5) (Ni := some 64) (Nj := some 12) #[true, true, true, true, true, false, false] #[true, true, true, true, false, true, false] rfl rfl rfl rfl (by kernel_rfl) (by decide) (by decide) (fun K hK => ?_) (fun K hK => ?_)
               ·skip
                refine goes_ Try.func66 (by kernel_rfl) rfl #[.agg #[.slice Ao142 t204.length co142], .agg #[.int .i64 t207, .int .i64 t208]] (by rfl) rfl rfl (by (try simp only [List.map_toArray, List.map_cons, List.map_nil]); first | done | rfl | (simp only [List.length_drop, List.length_take]; rfl)) ?_
                with_reducible refine (impl_ClearCells.calls kj21 _ _ t204 t207 t208 t209 _ ?side1 ?side2 A95.out).mono ?_
                (case side1 => repeat (first | exact (Kd.R_reads' HO206.out).2.2 | (with_reducible refine Kd.C_alloc ?_ _) | (with_reducible refine Kd.C_drewN ?_ _) | (with_reducible refine Kd.C_drew ?_)))
                (case side2 => exact (Kd.R_reads' HO206.out).2.1)
                rintro e w143 ⟨v210, rfl, ho0, hb⟩
                refine ⟨_, rfl, ?_⟩
                have n0_ := z_aM (Kd.R_elder' (by (with_reducible repeat (first | apply z_rA | apply z_rN | apply z_rD)); exact HO_183000.out) (Kd.R_base ho0) hb)
                have n1_ := z_aM (Kd.R_elder' (by (with_reducible repeat (first | apply z_rA | apply z_rN | apply z_rD)); exact HO_187000.out) (Kd.R_base ho0) hb)
                have n2_ := z_aM (Kd.R_elder' (by (with_reducible repeat (first | apply z_rA | apply z_rN | apply z_rD)); exact HO_193000.out) (Kd.R_base ho0) hb)
                have n3_ := z_aM (Kd.R_elder' (by (with_reducible repeat (first | apply z_rA | apply z_rN | apply z_rD)); exact HO206.out) (Kd.R_base ho0) hb)
                have n4_ := z_aM (Kd.R_lower (Kd.R_new' (Kd.R_new' (Kd.R_new' (Kd.R_new' ho0 (z_rL (by (with_reducible repeat (first | apply z_rA | apply z_rN | apply z_rD)); exact HO_183000.out))) (z_rL (by (with_reducible repeat (first | apply z_rA | apply z_rN | apply z_rD)); exact HO_187000.out))) (z_rL (by (with_reducible repeat (first | apply z_rA | apply z_rN | apply z_rD)); exact HO_193000.out))) (z_rL (by (with_reducible repeat (first | apply z_rA | apply z_rN | apply z_rD)); exact HO206.out))) (z_bZ (by repeat (first | (with_reducible first | exact HB.out | apply z_bA | apply z_bN | apply z_bD | refine z_bS ?_ GE171.out | refine z_bS ?_ GE172.out | refine z_bS ?_ GE182.out | refine z_bS ?_ GE186.out | refine z_bS ?_ GE192.out) | exact HB.out))))
                have n5_ := z_aM (z_kB (g := gb171) (o := .cells #[.slice A0_0 l0_0.length c0_0] 48 (0, 0)) (by (with_reducible repeat (first | refine z_kN ?_ _ | refine z_kD ?_ | refine z_kA ?_ _)); exact BK171.out) hb)
                have n6_ := z_aM (z_kB (g := gb172) (o := .cells #[.int .i64 a1_0, .int .i64 a1_1] 50 (0, 0)) (by (with_reducible repeat (first | refine z_kN ?_ _ | refine z_kD ?_ | refine z_kA ?_ _)); exact BK172.out) hb)
                have n7_ := z_aM (z_kB (g := gb182) (o := .cells #[.slice Ao35 t179.length co35] 54 (0, 0)) (by (with_reducible repeat (first | refine z_kN ?_ _ | refine z_kD ?_ | refine z_kA ?_ _)); exact BK182.out) hb)
                have n8_ := z_aM (z_kB (g := gb186) (o := .cells #[.slice Ao41 t199.length co41] 54 (0, 0)) (by (with_reducible repeat (first | refine z_kN ?_ _ | refine z_kD ?_ | refine z_kA ?_ _)); exact BK186.out) hb)
                have n9_ := z_aM (z_kB (g := gb192) (o := .cells #[.slice Ao52 t189.length co52] 54 (0, 0)) (by (with_reducible repeat (first | refine z_kN ?_ _ | refine z_kD ?_ | refine z_kA ?_ _)); exact BK192.out) hb)
                have n10_ := z_aM (z_bT (by repeat (first | (with_reducible first | exact HB.out | apply z_bA | apply z_bN | apply z_bD | refine z_bS ?_ GE171.out | refine z_bS ?_ GE172.out | refine z_bS ?_ GE182.out | refine z_bS ?_ GE186.out | refine z_bS ?_ GE192.out) | exact HB.out)) hb)
                clear HO_183000
                clear HO_187000
                clear HO_193000
                clear HO206
                clear BK171
                clear BK172
                clear BK182
                clear BK186
                clear BK192
                clear HB
                have HO_183000 := n0_
                have HO_187000 := n1_
                have HO_193000 := n2_
                have HO206 := n3_
                have HO211 := n4_
                have BK171 := n5_
                have BK172 := n6_
                have BK182 := n7_
                have BK186 := n8_
                have BK192 := n9_
                have HB := n10_
                clear n0_ n1_ n2_ n3_ n4_ n5_ n6_ n7_ n8_ n9_ n10_
                (try clear hb)
                (try clear hb2)
                (try clear hk)
                (try clear hi)
                (try clear ho0)
                refine hK.out _ _ ⟨(z_kC BK171.out 0).trans rfl, (z_kC BK172.out 0).trans rfl, (z_kC BK172.out 1).trans rfl⟩ (fun hHeld => ?_)
                clear hK K
                refine norm_ (a' := ?_) ?_ ?_
                rotate_left
                ·show Act.put _ (some 64) _ = _
                 simp only [Act.put, z_lA, z_lZ, z_lS, i64_w, i32_w]
                 rfl
                refine one_ (i := 5) (N := some 12) #[true, true, true, true, true, true, false] rfl rfl (by kernel_rfl) (by decide) (fun K hK => ?_)
                refine box_step ?hg (N := 12) ?hd (cs := #[.slice none 0 0]) (t := 54) ?hr ?_; (case hd => rfl); (case hg => rfl); (case hr => first | (go_simp; done) | (go_simp; rfl))
                intro gb212 hg w144 hbox hb
                have n0_ := z_aM (z_rB (by (with_reducible repeat (first | apply z_rA | apply z_rN | apply z_rD)); exact HO_183000.out) hb)
                have n1_ := z_aM (z_rB (by (with_reducible repeat (first | apply z_rA | apply z_rN | apply z_rD)); exact HO_187000.out) hb)
                have n2_ := z_aM (z_rB (by (with_reducible repeat (first | apply z_rA | apply z_rN | apply z_rD)); exact HO_193000.out) hb)
                have n3_ := z_aM (z_rB (by (with_reducible repeat (first | apply z_rA | apply z_rN | apply z_rD)); exact HO206.out) hb)
                have n4_ := z_aM (z_rB (by (with_reducible repeat (first | apply z_rA | apply z_rN | apply z_rD)); exact HO211.out) hb)
                have n5_ := z_aM (z_kB (g := gb171) (o := .cells #[.slice A0_0 l0_0.length c0_0] 48 (0, 0)) (by (with_reducible repeat (first | refine z_kN ?_ _ | refine z_kD ?_ | refine z_kA ?_ _)); exact BK171.out) hb)
                have n6_ := z_aM (z_kB (g := gb172) (o := .cells #[.int .i64 a1_0, .int .i64 a1_1] 50 (0, 0)) (by (with_reducible repeat (first | refine z_kN ?_ _ | refine z_kD ?_ | refine z_kA ?_ _)); exact BK172.out) hb)
                have n7_ := z_aM (z_kB (g := gb182) (o := .cells #[.slice Ao35 t179.length co35] 54 (0, 0)) (by (with_reducible repeat (first | refine z_kN ?_ _ | refine z_kD ?_ | refine z_kA ?_ _)); exact BK182.out) hb)
                have n8_ := z_aM (z_kB (g := gb186) (o := .cells #[.slice Ao41 t199.length co41] 54 (0, 0)) (by (with_reducible repeat (first | refine z_kN ?_ _ | refine z_kD ?_ | refine z_kA ?_ _)); exact BK186.out) hb)
                have n9_ := z_aM (z_kB (g := gb192) (o := .cells #[.slice Ao52 t189.length co52] 54 (0, 0)) (by (with_reducible repeat (first | refine z_kN ?_ _ | refine z_kD ?_ | refine z_kA ?_ _)); exact BK192.out) hb)
                have n10_ := z_aM (z_bT (by repeat (first | (with_reducible first | exact HB.out | apply z_bA | apply z_bN | apply z_bD | refine z_bS ?_ GE171.out | refine z_bS ?_ GE172.out | refine z_bS ?_ GE182.out | refine z_bS ?_ GE186.out | refine z_bS ?_ GE192.out) | exact HB.out)) hb)
                have n11_ := z_aM (hbox)
                have n12_ := z_aM ((by rw [hg]; exact (z_bZ (by repeat (first | (with_reducible first | exact HB.out | apply z_bA | apply z_bN | apply z_bD | refine z_bS ?_ GE171.out | refine z_bS ?_ GE172.out | refine z_bS ?_ GE182.out | refine z_bS ?_ GE186.out | refine z_bS ?_ GE192.out) | exact HB.out))) : w.heap.size ≤ gb212))
                have n13_ := z_aM ((by rw [hg]; exact (z_bZ (by repeat (first | (with_reducible first | exact HB.out | apply z_bA | apply z_bN | apply z_bD | refine z_bS ?_ GE171.out | refine z_bS ?_ GE172.out | refine z_bS ?_ GE182.out | refine z_bS ?_ GE186.out | refine z_bS ?_ GE192.out) | exact HB.out))) : w.heap.size ≤ gb212))
                have n14_ := z_aM ((by rw [hg]; exact Nat.ne_of_lt (z_kL (g := gb171) (o := .cells #[.slice A0_0 l0_0.length c0_0] 48 (0, 0)) (by (with_reducible repeat (first | refine z_kN ?_ _ | refine z_kD ?_ | refine z_kA ?_ _)); exact BK171.out)) : gb171 ≠ gb212))
                have n15_ := z_aM ((by rw [hg]; exact Nat.ne_of_gt (z_kL (g := gb171) (o := .cells #[.slice A0_0 l0_0.length c0_0] 48 (0, 0)) (by (with_reducible repeat (first | refine z_kN ?_ _ | refine z_kD ?_ | refine z_kA ?_ _)); exact BK171.out)) : gb212 ≠ gb171))
                have n16_ := z_aM ((by rw [hg]; exact Nat.ne_of_lt (z_kL (g := gb172) (o := .cells #[.int .i64 a1_0, .int .i64 a1_1] 50 (0, 0)) (by (with_reducible repeat (first | refine z_kN ?_ _ | refine z_kD ?_ | refine z_kA ?_ _)); exact BK172.out)) : gb172 ≠ gb212))
                have n17_ := z_aM ((by rw [hg]; exact Nat.ne_of_gt (z_kL (g := gb172) (o := .cells #[.int .i64 a1_0, .int .i64 a1_1] 50 (0, 0)) (by (with_reducible repeat (first | refine z_kN ?_ _ | refine z_kD ?_ | refine z_kA ?_ _)); exact BK172.out)) : gb212 ≠ gb172))
                have n18_ := z_aM ((by rw [hg]; exact Nat.ne_of_lt (z_kL (g := gb182) (o := .cells #[.slice Ao35 t179.length co35] 54 (0, 0)) (by (with_reducible repeat (first | refine z_kN ?_ _ | refine z_kD ?_ | refine z_kA ?_ _)); exact BK182.out)) : gb182 ≠ gb212))
                have n19_ := z_aM ((by rw [hg]; exact Nat.ne_of_gt (z_kL (g := gb182) (o := .cells #[.slice Ao35 t179.length co35] 54 (0, 0)) (by (with_reducible repeat (first | refine z_kN ?_ _ | refine z_kD ?_ | refine z_kA ?_ _)); exact BK182.out)) : gb212 ≠ gb182))
                have n20_ := z_aM ((by rw [hg]; exact Nat.ne_of_lt (z_kL (g := gb186) (o := .cells #[.slice Ao41 t199.length co41] 54 (0, 0)) (by (with_reducible repeat (first | refine z_kN ?_ _ | refine z_kD ?_ | refine z_kA ?_ _)); exact BK186.out)) : gb186 ≠ gb212))
                have n21_ := z_aM ((by rw [hg]; exact Nat.ne_of_gt (z_kL (g := gb186) (o := .cells #[.slice Ao41 t199.length co41] 54 (0, 0)) (by (with_reducible repeat (first | refine z_kN ?_ _ | refine z_kD ?_ | refine z_kA ?_ _)); exact BK186.out)) : gb212 ≠ gb186))
                have n22_ := z_aM ((by rw [hg]; exact Nat.ne_of_lt (z_kL (g := gb192) (o := .cells #[.slice Ao52 t189.length co52] 54 (0, 0)) (by (with_reducible repeat (first | refine z_kN ?_ _ | refine z_kD ?_ | refine z_kA ?_ _)); exact BK192.out)) : gb192 ≠ gb212))
                have n23_ := z_aM ((by rw [hg]; exact Nat.ne_of_gt (z_kL (g := gb192) (o := .cells #[.slice Ao52 t189.length co52] 54 (0, 0)) (by (with_reducible repeat (first | refine z_kN ?_ _ | refine z_kD ?_ | refine z_kA ?_ _)); exact BK192.out)) : gb212 ≠ gb192))
                clear HO_183000
                clear HO_187000
                clear HO_193000
                clear HO206
                clear HO211
                clear BK171
                clear BK172
                clear BK182
                clear BK186
                clear BK192
                clear HB
                have HO_183000 := n0_
                have HO_187000 := n1_
                have HO_193000 := n2_
                have HO206 := n3_
                have HO211 := n4_
                have BK171 := n5_
                have BK172 := n6_
                have BK182 := n7_
                have BK186 := n8_
                have BK192 := n9_
                have HB := n10_
                have BK212 := n11_
                have GW212 := n12_
                have GE212 := n13_
                have NB171_212 := n14_
                have NB212_171 := n15_
                have NB172_212 := n16_
                have NB212_172 := n17_
                have NB182_212 := n18_
                have NB212_182 := n19_
                have NB186_212 := n20_
                have NB212_186 := n21_
                have NB192_212 := n22_
                have NB212_192 := n23_
                clear n0_ n1_ n2_ n3_ n4_ n5_ n6_ n7_ n8_ n9_ n10_ n11_ n12_ n13_ n14_ n15_ n16_ n17_ n18_ n19_ n20_ n21_ n22_ n23_
                clear hb hbox hg
                refine hK.out _ _ ⟨(z_kC BK171.out 0).trans rfl, (z_kC BK172.out 0).trans rfl, (z_kC BK172.out 1).trans rfl⟩ (fun hHeld => ?_)
                clear hK K
                refine norm_ (a' := ?_) ?_ ?_
                rotate_left
                ·show Act.put _ (some 12) _ = _
                 simp only [Act.put, z_lA, z_lZ, z_lS, i64_w, i32_w]
                 rfl
                exact norm_ (by simp only [putAll, Act.put, z_lA, z_lZ, z_lS]) (hCont (.slice Ao142 t204.length co142, v210, gb212) _ ⟨hHeld, (by (with_reducible repeat (first | apply z_rA | apply z_rN | apply z_rD)); exact z_rM HO206.out (fun _ hk => ⟨hk.2, ⟨hk.1.1.1.2, ⟨hk.1.1.2, hk.1.2⟩⟩⟩)), (by (with_reducible repeat (first | apply z_rA | apply z_rN | apply z_rD)); exact z_rM HO211.out (fun _ hk => ⟨hk.2, ⟨hk.1.1.1.2, ⟨hk.1.1.2, hk.1.2⟩⟩⟩)), (by (with_reducible repeat (first | apply z_rA | apply z_rN | apply z_rD)); exact z_rM HO_183000.out (fun _ hk => ⟨hk.1.2, ⟨hk.2, ⟨hk.1.1.1, hk.1.1.2⟩⟩⟩)), (by (with_reducible repeat (first | apply z_rA | apply z_rN | apply z_rD)); exact z_rM HO_187000.out (fun _ hk => ⟨hk.1.2, ⟨hk.2, ⟨hk.1.1.1, hk.1.1.2⟩⟩⟩)), (by (with_reducible repeat (first | apply z_rA | apply z_rN | apply z_rD)); exact z_rM HO_193000.out (fun _ hk => ⟨hk.1.2, ⟨hk.2, ⟨hk.1.1.1, hk.1.1.2⟩⟩⟩)), (by (with_reducible repeat (first | refine z_kN ?_ _ | refine z_kD ?_ | refine z_kA ?_ _)); exact BK171.out), (by (with_reducible repeat (first | refine z_kN ?_ _ | refine z_kD ?_ | refine z_kA ?_ _)); exact BK172.out), (by (with_reducible repeat (first | refine z_kN ?_ _ | refine z_kD ?_ | refine z_kA ?_ _)); exact BK182.out), (by (with_reducible repeat (first | refine z_kN ?_ _ | refine z_kD ?_ | refine z_kA ?_ _)); exact BK186.out), (by (with_reducible repeat (first | refine z_kN ?_ _ | refine z_kD ?_ | refine z_kA ?_ _)); exact BK192.out), (by (with_reducible repeat (first | refine z_kN ?_ _ | refine z_kD ?_ | refine z_kA ?_ _)); exact BK212.out), GW212.out, GE212.out, NB171_212.out, NB212_171.out, NB172_212.out, NB212_172.out, NB182_212.out, NB212_182.out, NB186_212.out, NB212_186.out, NB192_212.out, NB212_192.out, (by repeat (first | (with_reducible first | exact HB.out | apply z_bA | apply z_bN | apply z_bD | refine z_bS ?_ GE171.out | refine z_bS ?_ GE172.out | refine z_bS ?_ GE182.out | refine z_bS ?_ GE186.out | refine z_bS ?_ GE192.out | refine z_bS ?_ GE212.out) | exact HB.out))⟩)
               ·skip
                refine box_step ?hg (N := 12) ?hd (cs := #[.slice none 0 0]) (t := 54) ?hr ?_; (case hd => rfl); (case hg => rfl); (case hr => first | (go_simp; done) | (go_simp; rfl))
                intro gb212 hg w142 hbox hb
                have n0_ := z_aM (z_rB (by (with_reducible repeat (first | apply z_rA | apply z_rN | apply z_rD)); exact HO_183000.out) hb)
                have n1_ := z_aM (z_rB (by (with_reducible repeat (first | apply z_rA | apply z_rN | apply z_rD)); exact HO_187000.out) hb)
                have n2_ := z_aM (z_rB (by (with_reducible repeat (first | apply z_rA | apply z_rN | apply z_rD)); exact HO_193000.out) hb)
                have n3_ := z_aM (z_rB (by (with_reducible repeat (first | apply z_rA | apply z_rN | apply z_rD)); exact HO206.out) hb)
                have n4_ := z_aM (z_kB (g := gb171) (o := .cells #[.slice A0_0 l0_0.length c0_0] 48 (0, 0)) (by (with_reducible repeat (first | refine z_kN ?_ _ | refine z_kD ?_ | refine z_kA ?_ _)); exact BK171.out) hb)
                have n5_ := z_aM (z_kB (g := gb172) (o := .cells #[.int .i64 a1_0, .int .i64 a1_1] 50 (0, 0)) (by (with_reducible repeat (first | refine z_kN ?_ _ | refine z_kD ?_ | refine z_kA ?_ _)); exact BK172.out) hb)
                have n6_ := z_aM (z_kB (g := gb182) (o := .cells #[.slice Ao35 t179.length co35] 54 (0, 0)) (by (with_reducible repeat (first | refine z_kN ?_ _ | refine z_kD ?_ | refine z_kA ?_ _)); exact BK182.out) hb)
                have n7_ := z_aM (z_kB (g := gb186) (o := .cells #[.slice Ao41 t199.length co41] 54 (0, 0)) (by (with_reducible repeat (first | refine z_kN ?_ _ | refine z_kD ?_ | refine z_kA ?_ _)); exact BK186.out) hb)
                have n8_ := z_aM (z_kB (g := gb192) (o := .cells #[.slice Ao52 t189.length co52] 54 (0, 0)) (by (with_reducible repeat (first | refine z_kN ?_ _ | refine z_kD ?_ | refine z_kA ?_ _)); exact BK192.out) hb)
                have n9_ := z_aM (z_bT (by repeat (first | (with_reducible first | exact HB.out | apply z_bA | apply z_bN | apply z_bD | refine z_bS ?_ GE171.out | refine z_bS ?_ GE172.out | refine z_bS ?_ GE182.out | refine z_bS ?_ GE186.out | refine z_bS ?_ GE192.out) | exact HB.out)) hb)
                have n10_ := z_aM (hbox)
                have n11_ := z_aM ((by rw [hg]; exact (z_bZ (by repeat (first | (with_reducible first | exact HB.out | apply z_bA | apply z_bN | apply z_bD | refine z_bS ?_ GE171.out | refine z_bS ?_ GE172.out | refine z_bS ?_ GE182.out | refine z_bS ?_ GE186.out | refine z_bS ?_ GE192.out) | exact HB.out))) : w.heap.size ≤ gb212))
                have n12_ := z_aM ((by rw [hg]; exact (z_bZ (by repeat (first | (with_reducible first | exact HB.out | apply z_bA | apply z_bN | apply z_bD | refine z_bS ?_ GE171.out | refine z_bS ?_ GE172.out | refine z_bS ?_ GE182.out | refine z_bS ?_ GE186.out | refine z_bS ?_ GE192.out) | exact HB.out))) : w.heap.size ≤ gb212))
                have n13_ := z_aM ((by rw [hg]; exact Nat.ne_of_lt (z_kL (g := gb171) (o := .cells #[.slice A0_0 l0_0.length c0_0] 48 (0, 0)) (by (with_reducible repeat (first | refine z_kN ?_ _ | refine z_kD ?_ | refine z_kA ?_ _)); exact BK171.out)) : gb171 ≠ gb212))
                have n14_ := z_aM ((by rw [hg]; exact Nat.ne_of_gt (z_kL (g := gb171) (o := .cells #[.slice A0_0 l0_0.length c0_0] 48 (0, 0)) (by (with_reducible repeat (first | refine z_kN ?_ _ | refine z_kD ?_ | refine z_kA ?_ _)); exact BK171.out)) : gb212 ≠ gb171))
                have n15_ := z_aM ((by rw [hg]; exact Nat.ne_of_lt (z_kL (g := gb172) (o := .cells #[.int .i64 a1_0, .int .i64 a1_1] 50 (0, 0)) (by (with_reducible repeat (first | refine z_kN ?_ _ | refine z_kD ?_ | refine z_kA ?_ _)); exact BK172.out)) : gb172 ≠ gb212))
                have n16_ := z_aM ((by rw [hg]; exact Nat.ne_of_gt (z_kL (g := gb172) (o := .cells #[.int .i64 a1_0, .int .i64 a1_1] 50 (0, 0)) (by (with_reducible repeat (first | refine z_kN ?_ _ | refine z_kD ?_ | refine z_kA ?_ _)); exact BK172.out)) : gb212 ≠ gb172))
                have n17_ := z_aM ((by rw [hg]; exact Nat.ne_of_lt (z_kL (g := gb182) (o := .cells #[.slice Ao35 t179.length co35] 54 (0, 0)) (by (with_reducible repeat (first | refine z_kN ?_ _ | refine z_kD ?_ | refine z_kA ?_ _)); exact BK182.out)) : gb182 ≠ gb212))
                have n18_ := z_aM ((by rw [hg]; exact Nat.ne_of_gt (z_kL (g := gb182) (o := .cells #[.slice Ao35 t179.length co35] 54 (0, 0)) (by (with_reducible repeat (first | refine z_kN ?_ _ | refine z_kD ?_ | refine z_kA ?_ _)); exact BK182.out)) : gb212 ≠ gb182))
                have n19_ := z_aM ((by rw [hg]; exact Nat.ne_of_lt (z_kL (g := gb186) (o := .cells #[.slice Ao41 t199.length co41] 54 (0, 0)) (by (with_reducible repeat (first | refine z_kN ?_ _ | refine z_kD ?_ | refine z_kA ?_ _)); exact BK186.out)) : gb186 ≠ gb212))
                have n20_ := z_aM ((by rw [hg]; exact Nat.ne_of_gt (z_kL (g := gb186) (o := .cells #[.slice Ao41 t199.length co41] 54 (0, 0)) (by (with_reducible repeat (first | refine z_kN ?_ _ | refine z_kD ?_ | refine z_kA ?_ _)); exact BK186.out)) : gb212 ≠ gb186))
                have n21_ := z_aM ((by rw [hg]; exact Nat.ne_of_lt (z_kL (g := gb192) (o := .cells #[.slice Ao52 t189.length co52] 54 (0, 0)) (by (with_reducible repeat (first | refine z_kN ?_ _ | refine z_kD ?_ | refine z_kA ?_ _)); exact BK192.out)) : gb192 ≠ gb212))
                have n22_ := z_aM ((by rw [hg]; exact Nat.ne_of_gt (z_kL (g := gb192) (o := .cells #[.slice Ao52 t189.length co52] 54 (0, 0)) (by (with_reducible repeat (first | refine z_kN ?_ _ | refine z_kD ?_ | refine z_kA ?_ _)); exact BK192.out)) : gb212 ≠ gb192))
                clear HO_183000
                clear HO_187000
                clear HO_193000
                clear HO206
                clear BK171
                clear BK172
                clear BK182
                clear BK186
                clear BK192
                clear HB
                have HO_183000 := n0_
                have HO_187000 := n1_
                have HO_193000 := n2_
                have HO206 := n3_
                have BK171 := n4_
                have BK172 := n5_
                have BK182 := n6_
                have BK186 := n7_
                have BK192 := n8_
                have HB := n9_
                have BK212 := n10_
                have GW212 := n11_
                have GE212 := n12_
                have NB171_212 := n13_
                have NB212_171 := n14_
                have NB172_212 := n15_
                have NB212_172 := n16_
                have NB182_212 := n17_
                have NB212_182 := n18_
                have NB186_212 := n19_
                have NB212_186 := n20_
                have NB192_212 := n21_
                have NB212_192 := n22_
                clear n0_ n1_ n2_ n3_ n4_ n5_ n6_ n7_ n8_ n9_ n10_ n11_ n12_ n13_ n14_ n15_ n16_ n17_ n18_ n19_ n20_ n21_ n22_
                clear hb hbox hg
                obtain ⟨Ao143, co143, eo143⟩ := Kd.R_slice HO206.out
                (first | subst eo143 | (injection eo143 with f1_ f2_ f3_; have f4_ := f1_.symm; have f5_ := f3_.symm; clear f1_ f2_ f3_; subst f4_; subst f5_))
                refine hK.out _ _ ⟨(z_kC BK171.out 0).trans rfl, (z_kC BK172.out 0).trans rfl, (z_kC BK172.out 1).trans rfl⟩ (fun hHeld => ?_)
                clear hK K
                refine norm_ (a' := ?_) ?_ ?_
                rotate_left
                ·show Act.put _ (some 12) _ = _
                 simp only [Act.put, z_lA, z_lZ, z_lS, i64_w, i32_w]
                 rfl
                refine one_ (i := 4) (N := some 64) #[true, true, true, true, true, true, false] rfl rfl (by kernel_rfl) (by decide) (fun K hK => ?_)
                refine goes_ Try.func66 (by kernel_rfl) rfl #[.agg #[.slice Ao143 t204.length co143], .agg #[.int .i64 t207, .int .i64 t208]] (by rfl) rfl rfl (by (try simp only [List.map_toArray, List.map_cons, List.map_nil]); first | done | rfl | (simp only [List.length_drop, List.length_take]; rfl)) ?_
                with_reducible refine (impl_ClearCells.calls kj21 _ _ t204 t207 t208 t209 _ ?side1 ?side2 A95.out).mono ?_
                (case side1 => repeat (first | exact (Kd.R_reads' HO206.out).2.2 | (with_reducible refine Kd.C_alloc ?_ _) | (with_reducible refine Kd.C_drewN ?_ _) | (with_reducible refine Kd.C_drew ?_)))
                (case side2 => exact (Kd.R_reads' HO206.out).2.1)
                rintro e w144 ⟨v210, rfl, ho0, hb⟩
                refine ⟨_, rfl, ?_⟩
                have n0_ := z_aM (Kd.R_elder' (by (with_reducible repeat (first | apply z_rA | apply z_rN | apply z_rD)); exact HO_183000.out) (Kd.R_base ho0) hb)
                have n1_ := z_aM (Kd.R_elder' (by (with_reducible repeat (first | apply z_rA | apply z_rN | apply z_rD)); exact HO_187000.out) (Kd.R_base ho0) hb)
                have n2_ := z_aM (Kd.R_elder' (by (with_reducible repeat (first | apply z_rA | apply z_rN | apply z_rD)); exact HO_193000.out) (Kd.R_base ho0) hb)
                have n3_ := z_aM (Kd.R_elder' (by (with_reducible repeat (first | apply z_rA | apply z_rN | apply z_rD)); exact HO206.out) (Kd.R_base ho0) hb)
                have n4_ := z_aM (Kd.R_lower (Kd.R_new' (Kd.R_new' (Kd.R_new' (Kd.R_new' ho0 (z_rL (by (with_reducible repeat (first | apply z_rA | apply z_rN | apply z_rD)); exact HO_183000.out))) (z_rL (by (with_reducible repeat (first | apply z_rA | apply z_rN | apply z_rD)); exact HO_187000.out))) (z_rL (by (with_reducible repeat (first | apply z_rA | apply z_rN | apply z_rD)); exact HO_193000.out))) (z_rL (by (with_reducible repeat (first | apply z_rA | apply z_rN | apply z_rD)); exact HO206.out))) (z_bZ (by repeat (first | (with_reducible first | exact HB.out | apply z_bA | apply z_bN | apply z_bD | refine z_bS ?_ GE171.out | refine z_bS ?_ GE172.out | refine z_bS ?_ GE182.out | refine z_bS ?_ GE186.out | refine z_bS ?_ GE192.out | refine z_bS ?_ GE212.out) | exact HB.out))))
                have n5_ := z_aM (z_kB (g := gb171) (o := .cells #[.slice A0_0 l0_0.length c0_0] 48 (0, 0)) (by (with_reducible repeat (first | refine z_kN ?_ _ | refine z_kD ?_ | refine z_kA ?_ _)); exact BK171.out) hb)
                have n6_ := z_aM (z_kB (g := gb172) (o := .cells #[.int .i64 a1_0, .int .i64 a1_1] 50 (0, 0)) (by (with_reducible repeat (first | refine z_kN ?_ _ | refine z_kD ?_ | refine z_kA ?_ _)); exact BK172.out) hb)
                have n7_ := z_aM (z_kB (g := gb182) (o := .cells #[.slice Ao35 t179.length co35] 54 (0, 0)) (by (with_reducible repeat (first | refine z_kN ?_ _ | refine z_kD ?_ | refine z_kA ?_ _)); exact BK182.out) hb)
                have n8_ := z_aM (z_kB (g := gb186) (o := .cells #[.slice Ao41 t199.length co41] 54 (0, 0)) (by (with_reducible repeat (first | refine z_kN ?_ _ | refine z_kD ?_ | refine z_kA ?_ _)); exact BK186.out) hb)
                have n9_ := z_aM (z_kB (g := gb192) (o := .cells #[.slice Ao52 t189.length co52] 54 (0, 0)) (by (with_reducible repeat (first | refine z_kN ?_ _ | refine z_kD ?_ | refine z_kA ?_ _)); exact BK192.out) hb)
                have n10_ := z_aM (z_kB (g := gb212) (o := .cells #[.slice none 0 0] 54 (0, 0)) (by (with_reducible repeat (first | refine z_kN ?_ _ | refine z_kD ?_ | refine z_kA ?_ _)); exact BK212.out) hb)
                have n11_ := z_aM (z_bT (by repeat (first | (with_reducible first | exact HB.out | apply z_bA | apply z_bN | apply z_bD | refine z_bS ?_ GE171.out | refine z_bS ?_ GE172.out | refine z_bS ?_ GE182.out | refine z_bS ?_ GE186.out | refine z_bS ?_ GE192.out | refine z_bS ?_ GE212.out) | exact HB.out)) hb)
                clear HO_183000
                clear HO_187000
                clear HO_193000
                clear HO206
                clear BK171
                clear BK172
                clear BK182
                clear BK186
                clear BK192
                clear BK212
                clear HB
                have HO_183000 := n0_
                have HO_187000 := n1_
                have HO_193000 := n2_
                have HO206 := n3_
                have HO211 := n4_
                have BK171 := n5_
                have BK172 := n6_
                have BK182 := n7_
                have BK186 := n8_
                have BK192 := n9_
                have BK212 := n10_
                have HB := n11_
                clear n0_ n1_ n2_ n3_ n4_ n5_ n6_ n7_ n8_ n9_ n10_ n11_
                (try clear hb)
                (try clear hb2)
                (try clear hk)
                (try clear hi)
                (try clear ho0)
                refine hK.out _ _ ⟨(z_kC BK171.out 0).trans rfl, (z_kC BK172.out 0).trans rfl, (z_kC BK172.out 1).trans rfl⟩ (fun hHeld => ?_)
                clear hK K
                refine norm_ (a' := ?_) ?_ ?_
                rotate_left
                ·show Act.put _ (some 64) _ = _
                 simp only [Act.put, z_lA, z_lZ, z_lS, i64_w, i32_w]
                 rfl
                exact norm_ (by simp only [putAll, Act.put, z_lA, z_lZ, z_lS]) (hCont (.slice Ao143 t204.length co143, v210, gb212) _ ⟨hHeld, (by (with_reducible repeat (first | apply z_rA | apply z_rN | apply z_rD)); exact z_rM HO206.out (fun _ hk => ⟨hk.2, ⟨hk.1.1.1.2, ⟨hk.1.1.2, hk.1.2⟩⟩⟩)), (by (with_reducible repeat (first | apply z_rA | apply z_rN | apply z_rD)); exact z_rM HO211.out (fun _ hk => ⟨hk.2, ⟨hk.1.1.1.2, ⟨hk.1.1.2, hk.1.2⟩⟩⟩)), (by (with_reducible repeat (first | apply z_rA | apply z_rN | apply z_rD)); exact z_rM HO_183000.out (fun _ hk => ⟨hk.1.2, ⟨hk.2, ⟨hk.1.1.1, hk.1.1.2⟩⟩⟩)), (by (with_reducible repeat (first | apply z_rA | apply z_rN | apply z_rD)); exact z_rM HO_187000.out (fun _ hk => ⟨hk.1.2, ⟨hk.2, ⟨hk.1.1.1, hk.1.1.2⟩⟩⟩)), (by (with_reducible repeat (first | apply z_rA | apply z_rN | apply z_rD)); exact z_rM HO_193000.out (fun _ hk => ⟨hk.1.2, ⟨hk.2, ⟨hk.1.1.1, hk.1.1.2⟩⟩⟩)), (by (with_reducible repeat (first | refine z_kN ?_ _ | refine z_kD ?_ | refine z_kA ?_ _)); exact BK171.out), (by (with_reducible repeat (first | refine z_kN ?_ _ | refine z_kD ?_ | refine z_kA ?_ _)); exact BK172.out), (by (with_reducible repeat (first | refine z_kN ?_ _ | refine z_kD ?_ | refine z_kA ?_ _)); exact BK182.out), (by (with_reducible repeat (first | refine z_kN ?_ _ | refine z_kD ?_ | refine z_kA ?_ _)); exact BK186.out), (by (with_reducible repeat (first | refine z_kN ?_ _ | refine z_kD ?_ | refine z_kA ?_ _)); exact BK192.out), (by (with_reducible repeat (first | refine z_kN ?_ _ | refine z_kD ?_ | refine z_kA ?_ _)); exact BK212.out), GW212.out, GE212.out, NB171_212.out, NB212_171.out, NB172_212.out, NB212_172.out, NB182_212.out, NB212_182.out, NB186_212.out, NB212_186.out, NB192_212.out, NB212_192.out, (by repeat (first | (with_reducible first | exact HB.out | apply z_bA | apply z_bN | apply z_bD | refine z_bS ?_ GE171.out | refine z_bS ?_ GE172.out | refine z_bS ?_ GE182.out | refine z_bS ?_ GE186.out | refine z_bS ?_ GE192.out | refine z_bS ?_ GE212.out) | exact HB.out))⟩)
              ·skip
               refine box_step ?hg (N := 12) ?hd (cs := #[.slice none 0 0]) (t := 54) ?hr ?_; (case hd => rfl); (case hg => rfl); (case hr => first | (go_simp; done) | (go_simp; rfl))
               intro gb212 hg w141 hbox hb
               have n0_ := z_aM (z_rB (by (with_reducible repeat (first | apply z_rA | apply z_rN | apply z_rD)); exact HO_183000.out) hb)
               have n1_ := z_aM (z_rB (by (with_reducible repeat (first | apply z_rA | apply z_rN | apply z_rD)); exact HO_187000.out) hb)
               have n2_ := z_aM (z_rB (by (with_reducible repeat (first | apply z_rA | apply z_rN | apply z_rD)); exact HO_193000.out) hb)
               have n3_ := z_aM (z_rB (by (with_reducible repeat (first | apply z_rA | apply z_rN | apply z_rD)); exact HO206.out) hb)
               have n4_ := z_aM (z_kB (g := gb171) (o := .cells #[.slice A0_0 l0_0.length c0_0] 48 (0, 0)) (by (with_reducible repeat (first | refine z_kN ?_ _ | refine z_kD ?_ | refine z_kA ?_ _)); exact BK171.out) hb)
               have n5_ := z_aM (z_kB (g := gb172) (o := .cells #[.int .i64 a1_0, .int .i64 a1_1] 50 (0, 0)) (by (with_reducible repeat (first | refine z_kN ?_ _ | refine z_kD ?_ | refine z_kA ?_ _)); exact BK172.out) hb)
               have n6_ := z_aM (z_kB (g := gb182) (o := .cells #[.slice Ao35 t179.length co35] 54 (0, 0)) (by (with_reducible repeat (first | refine z_kN ?_ _ | refine z_kD ?_ | refine z_kA ?_ _)); exact BK182.out) hb)
               have n7_ := z_aM (z_kB (g := gb186) (o := .cells #[.slice Ao41 t199.length co41] 54 (0, 0)) (by (with_reducible repeat (first | refine z_kN ?_ _ | refine z_kD ?_ | refine z_kA ?_ _)); exact BK186.out) hb)
               have n8_ := z_aM (z_kB (g := gb192) (o := .cells #[.slice Ao52 t189.length co52] 54 (0, 0)) (by (with_reducible repeat (first | refine z_kN ?_ _ | refine z_kD ?_ | refine z_kA ?_ _)); exact BK192.out) hb)
               have n9_ := z_aM (z_bT (by repeat (first | (with_reducible first | exact HB.out | apply z_bA | apply z_bN | apply z_bD | refine z_bS ?_ GE171.out | refine z_bS ?_ GE172.out | refine z_bS ?_ GE182.out | refine z_bS ?_ GE186.out | refine z_bS ?_ GE192.out) | exact HB.out)) hb)
               have n10_ := z_aM (hbox)
               have n11_ := z_aM ((by rw [hg]; exact (z_bZ (by repeat (first | (with_reducible first | exact HB.out | apply z_bA | apply z_bN | apply z_bD | refine z_bS ?_ GE171.out | refine z_bS ?_ GE172.out | refine z_bS ?_ GE182.out | refine z_bS ?_ GE186.out | refine z_bS ?_ GE192.out) | exact HB.out))) : w.heap.size ≤ gb212))
               have n12_ := z_aM ((by rw [hg]; exact (z_bZ (by repeat (first | (with_reducible first | exact HB.out | apply z_bA | apply z_bN | apply z_bD | refine z_bS ?_ GE171.out | refine z_bS ?_ GE172.out | refine z_bS ?_ GE182.out | refine z_bS ?_ GE186.out | refine z_bS ?_ GE192.out) | exact HB.out))) : w.heap.size ≤ gb212))
               have n13_ := z_aM ((by rw [hg]; exact Nat.ne_of_lt (z_kL (g := gb171) (o := .cells #[.slice A0_0 l0_0.length c0_0] 48 (0, 0)) (by (with_reducible repeat (first | refine z_kN ?_ _ | refine z_kD ?_ | refine z_kA ?_ _)); exact BK171.out)) : gb171 ≠ gb212))
               have n14_ := z_aM ((by rw [hg]; exact Nat.ne_of_gt (z_kL (g := gb171) (o := .cells #[.slice A0_0 l0_0.length c0_0] 48 (0, 0)) (by (with_reducible repeat (first | refine z_kN ?_ _ | refine z_kD ?_ | refine z_kA ?_ _)); exact BK171.out)) : gb212 ≠ gb171))
               have n15_ := z_aM ((by rw [hg]; exact Nat.ne_of_lt (z_kL (g := gb172) (o := .cells #[.int .i64 a1_0, .int .i64 a1_1] 50 (0, 0)) (by (with_reducible repeat (first | refine z_kN ?_ _ | refine z_kD ?_ | refine z_kA ?_ _)); exact BK172.out)) : gb172 ≠ gb212))
               have n16_ := z_aM ((by rw [hg]; exact Nat.ne_of_gt (z_kL (g := gb172) (o := .cells #[.int .i64 a1_0, .int .i64 a1_1] 50 (0, 0)) (by (with_reducible repeat (first | refine z_kN ?_ _ | refine z_kD ?_ | refine z_kA ?_ _)); exact BK172.out)) : gb212 ≠ gb172))
               have n17_ := z_aM ((by rw [hg]; exact Nat.ne_of_lt (z_kL (g := gb182) (o := .cells #[.slice Ao35 t179.length co35] 54 (0, 0)) (by (with_reducible repeat (first | refine z_kN ?_ _ | refine z_kD ?_ | refine z_kA ?_ _)); exact BK182.out)) : gb182 ≠ gb212))
               have n18_ := z_aM ((by rw [hg]; exact Nat.ne_of_gt (z_kL (g := gb182) (o := .cells #[.slice Ao35 t179.length co35] 54 (0, 0)) (by (with_reducible repeat (first | refine z_kN ?_ _ | refine z_kD ?_ | refine z_kA ?_ _)); exact BK182.out)) : gb212 ≠ gb182))
               have n19_ := z_aM ((by rw [hg]; exact Nat.ne_of_lt (z_kL (g := gb186) (o := .cells #[.slice Ao41 t199.length co41] 54 (0, 0)) (by (with_reducible repeat (first | refine z_kN ?_ _ | refine z_kD ?_ | refine z_kA ?_ _)); exact BK186.out)) : gb186 ≠ gb212))
               have n20_ := z_aM ((by rw [hg]; exact Nat.ne_of_gt (z_kL (g := gb186) (o := .cells #[.slice Ao41 t199.length co41] 54 (0, 0)) (by (with_reducible repeat (first | refine z_kN ?_ _ | refine z_kD ?_ | refine z_kA ?_ _)); exact BK186.out)) : gb212 ≠ gb186))
               have n21_ := z_aM ((by rw [hg]; exact Nat.ne_of_lt (z_kL (g := gb192) (o := .cells #[.slice Ao52 t189.length co52] 54 (0, 0)) (by (with_reducible repeat (first | refine z_kN ?_ _ | refine z_kD ?_ | refine z_kA ?_ _)); exact BK192.out)) : gb192 ≠ gb212))
               have n22_ := z_aM ((by rw [hg]; exact Nat.ne_of_gt (z_kL (g := gb192) (o := .cells #[.slice Ao52 t189.length co52] 54 (0, 0)) (by (with_reducible repeat (first | refine z_kN ?_ _ | refine z_kD ?_ | refine z_kA ?_ _)); exact BK192.out)) : gb212 ≠ gb192))
               clear HO_183000
               clear HO_187000
               clear HO_193000
               clear HO206
               clear BK171
               clear BK172
               clear BK182
               clear BK186
               clear BK192
               clear HB
               have HO_183000 := n0_
               have HO_187000 := n1_
               have HO_193000 := n2_
               have HO206 := n3_
               have BK171 := n4_
               have BK172 := n5_
               have BK182 := n6_
               have BK186 := n7_
               have BK192 := n8_
               have HB := n9_
               have BK212 := n10_
               have GW212 := n11_
               have GE212 := n12_
               have NB171_212 := n13_
               have NB212_171 := n14_
               have NB172_212 := n15_
               have NB212_172 := n16_
               have NB182_212 := n17_
               have NB212_182 := n18_
               have NB186_212 := n19_
               have NB212_186 := n20_
               have NB192_212 := n21_
               have NB212_192 := n22_
               clear n0_ n1_ n2_ n3_ n4_ n5_ n6_ n7_ n8_ n9_ n10_ n11_ n12_ n13_ n14_ n15_ n16_ n17_ n18_ n19_ n20_ n21_ n22_
               clear hb hbox hg
               refine hK.out _ _ ⟨(z_kC BK171.out 0).trans rfl, (z_kC BK172.out 0).trans rfl, (z_kC BK172.out 1).trans rfl⟩ (fun hHeld => ?_)
               clear hK K
               refine norm_ (a' := ?_) ?_ ?_
               rotate_left
               ·show Act.put _ (some 12) _ = _
                simp only [Act.put, z_lA, z_lZ, z_lS, i64_w, i32_w]
                rfl
               refine one_ (i := 3) (N := some 63) #[true, true, true, true, false, true, false] rfl rfl (by kernel_rfl) (by decide) (fun K hK => ?_)
               refine goes_ Try.func35 (by kernel_rfl) rfl #[.agg #[.int .i64 a1_0, .int .i64 a1_1]] (by rfl) rfl rfl (by (try simp only [List.map_toArray, List.map_cons, List.map_nil]); first | done | rfl | (simp only [List.length_drop, List.length_take]; rfl)) ?_
               with_reducible refine (laws_toRegion.calls a1_0 a1_1 t207 t208 _ A94.out).mono ?_
               rintro e w142 ⟨rfl, hb⟩
               refine ⟨_, rfl, ?_⟩
               have n0_ := z_aM (z_rB (by (with_reducible repeat (first | apply z_rA | apply z_rN | apply z_rD)); exact HO_183000.out) hb)
               have n1_ := z_aM (z_rB (by (with_reducible repeat (first | apply z_rA | apply z_rN | apply z_rD)); exact HO_187000.out) hb)
               have n2_ := z_aM (z_rB (by (with_reducible repeat (first | apply z_rA | apply z_rN | apply z_rD)); exact HO_193000.out) hb)
               have n3_ := z_aM (z_rB (by (with_reducible repeat (first | apply z_rA | apply z_rN | apply z_rD)); exact HO206.out) hb)
               have n4_ := z_aM (z_kB (g := gb171) (o := .cells #[.slice A0_0 l0_0.length c0_0] 48 (0, 0)) (by (with_reducible repeat (first | refine z_kN ?_ _ | refine z_kD ?_ | refine z_kA ?_ _)); exact BK171.out) hb)
               have n5_ := z_aM (z_kB (g := gb172) (o := .cells #[.int .i64 a1_0, .int .i64 a1_1] 50 (0, 0)) (by (with_reducible repeat (first | refine z_kN ?_ _ | refine z_kD ?_ | refine z_kA ?_ _)); exact BK172.out) hb)
               have n6_ := z_aM (z_kB (g := gb182) (o := .cells #[.slice Ao35 t179.length co35] 54 (0, 0)) (by (with_reducible repeat (first | refine z_kN ?_ _ | refine z_kD ?_ | refine z_kA ?_ _)); exact BK182.out) hb)
               have n7_ := z_aM (z_kB (g := gb186) (o := .cells #[.slice Ao41 t199.length co41] 54 (0, 0)) (by (with_reducible repeat (first | refine z_kN ?_ _ | refine z_kD ?_ | refine z_kA ?_ _)); exact BK186.out) hb)
               have n8_ := z_aM (z_kB (g := gb192) (o := .cells #[.slice Ao52 t189.length co52] 54 (0, 0)) (by (with_reducible repeat (first | refine z_kN ?_ _ | refine z_kD ?_ | refine z_kA ?_ _)); exact BK192.out) hb)
               have n9_ := z_aM (z_kB (g := gb212) (o := .cells #[.slice none 0 0] 54 (0, 0)) (by (with_reducible repeat (first | refine z_kN ?_ _ | refine z_kD ?_ | refine z_kA ?_ _)); exact BK212.out) hb)
               have n10_ := z_aM (z_bT (by repeat (first | (with_reducible first | exact HB.out | apply z_bA | apply z_bN | apply z_bD | refine z_bS ?_ GE171.out | refine z_bS ?_ GE172.out | refine z_bS ?_ GE182.out | refine z_bS ?_ GE186.out | refine z_bS ?_ GE192.out | refine z_bS ?_ GE212.out) | exact HB.out)) hb)
               clear HO_183000
               clear HO_187000
               clear HO_193000
               clear HO206
               clear BK171
               clear BK172
               clear BK182
               clear BK186
               clear BK192
               clear BK212
               clear HB
               have HO_183000 := n0_
               have HO_187000 := n1_
               have HO_193000 := n2_
               have HO206 := n3_
               have BK171 := n4_
               have BK172 := n5_
               have BK182 := n6_
               have BK186 := n7_
               have BK192 := n8_
               have BK212 := n9_
               have HB := n10_
               clear n0_ n1_ n2_ n3_ n4_ n5_ n6_ n7_ n8_ n9_ n10_
               (try clear hb)
               (try clear hb2)
               (try clear hk)
               (try clear hi)
               obtain ⟨Ao143, co143, eo143⟩ := Kd.R_slice HO206.out
               (first | subst eo143 | (injection eo143 with f1_ f2_ f3_; have f4_ := f1_.symm; have f5_ := f3_.symm; clear f1_ f2_ f3_; subst f4_; subst f5_))
               refine hK.out _ _ ⟨(z_kC BK171.out 0).trans rfl, (z_kC BK172.out 0).trans rfl, (z_kC BK172.out 1).trans rfl⟩ (fun hHeld => ?_)
               clear hK K
               refine norm_ (a' := ?_) ?_ ?_
               rotate_left
               ·show Act.put _ (some 63) _ = _
                simp only [Act.put, z_lA, z_lZ, z_lS, i64_w, i32_w]
                rfl
               refine one_ (i := 4) (N := some 64) #[true, true, true, true, true, true, false] rfl rfl (by kernel_rfl) (by decide) (fun K hK => ?_)
               refine goes_ Try.func66 (by kernel_rfl) rfl #[.agg #[.slice Ao143 t204.length co143], .agg #[.int .i64 t207, .int .i64 t208]] (by rfl) rfl rfl (by (try simp only [List.map_toArray, List.map_cons, List.map_nil]); first | done | rfl | (simp only [List.length_drop, List.length_take]; rfl)) ?_
               with_reducible refine (impl_ClearCells.calls kj21 _ _ t204 t207 t208 t209 _ ?side1 ?side2 A95.out).mono ?_
               (case side1 => repeat (first | exact (Kd.R_reads' HO206.out).2.2 | (with_reducible refine Kd.C_alloc ?_ _) | (with_reducible refine Kd.C_drewN ?_ _) | (with_reducible refine Kd.C_drew ?_)))
               (case side2 => exact (Kd.R_reads' HO206.out).2.1)
               rintro e w144 ⟨v210, rfl, ho0, hb⟩
               refine ⟨_, rfl, ?_⟩
               have n0_ := z_aM (Kd.R_elder' (by (with_reducible repeat (first | apply z_rA | apply z_rN | apply z_rD)); exact HO_183000.out) (Kd.R_base ho0) hb)
               have n1_ := z_aM (Kd.R_elder' (by (with_reducible repeat (first | apply z_rA | apply z_rN | apply z_rD)); exact HO_187000.out) (Kd.R_base ho0) hb)
               have n2_ := z_aM (Kd.R_elder' (by (with_reducible repeat (first | apply z_rA | apply z_rN | apply z_rD)); exact HO_193000.out) (Kd.R_base ho0) hb)
               have n3_ := z_aM (Kd.R_elder' (by (with_reducible repeat (first | apply z_rA | apply z_rN | apply z_rD)); exact HO206.out) (Kd.R_base ho0) hb)
               have n4_ := z_aM (Kd.R_lower (Kd.R_new' (Kd.R_new' (Kd.R_new' (Kd.R_new' ho0 (z_rL (by (with_reducible repeat (first | apply z_rA | apply z_rN | apply z_rD)); exact HO_183000.out))) (z_rL (by (with_reducible repeat (first | apply z_rA | apply z_rN | apply z_rD)); exact HO_187000.out))) (z_rL (by (with_reducible repeat (first | apply z_rA | apply z_rN | apply z_rD)); exact HO_193000.out))) (z_rL (by (with_reducible repeat (first | apply z_rA | apply z_rN | apply z_rD)); exact HO206.out))) (z_bZ (by repeat (first | (with_reducible first | exact HB.out | apply z_bA | apply z_bN | apply z_bD | refine z_bS ?_ GE171.out | refine z_bS ?_ GE172.out | refine z_bS ?_ GE182.out | refine z_bS ?_ GE186.out | refine z_bS ?_ GE192.out | refine z_bS ?_ GE212.out) | exact HB.out))))
               have n5_ := z_aM (z_kB (g := gb171) (o := .cells #[.slice A0_0 l0_0.length c0_0] 48 (0, 0)) (by (with_reducible repeat (first | refine z_kN ?_ _ | refine z_kD ?_ | refine z_kA ?_ _)); exact BK171.out) hb)
               have n6_ := z_aM (z_kB (g := gb172) (o := .cells #[.int .i64 a1_0, .int .i64 a1_1] 50 (0, 0)) (by (with_reducible repeat (first | refine z_kN ?_ _ | refine z_kD ?_ | refine z_kA ?_ _)); exact BK172.out) hb)
               have n7_ := z_aM (z_kB (g := gb182) (o := .cells #[.slice Ao35 t179.length co35] 54 (0, 0)) (by (with_reducible repeat (first | refine z_kN ?_ _ | refine z_kD ?_ | refine z_kA ?_ _)); exact BK182.out) hb)
               have n8_ := z_aM (z_kB (g := gb186) (o := .cells #[.slice Ao41 t199.length co41] 54 (0, 0)) (by (with_reducible repeat (first | refine z_kN ?_ _ | refine z_kD ?_ | refine z_kA ?_ _)); exact BK186.out) hb)
               have n9_ := z_aM (z_kB (g := gb192) (o := .cells #[.slice Ao52 t189.length co52] 54 (0, 0)) (by (with_reducible repeat (first | refine z_kN ?_ _ | refine z_kD ?_ | refine z_kA ?_ _)); exact BK192.out) hb)
               have n10_ := z_aM (z_kB (g := gb212) (o := .cells #[.slice none 0 0] 54 (0, 0)) (by (with_reducible repeat (first | refine z_kN ?_ _ | refine z_kD ?_ | refine z_kA ?_ _)); exact BK212.out) hb)
               have n11_ := z_aM (z_bT (by repeat (first | (with_reducible first | exact HB.out | apply z_bA | apply z_bN | apply z_bD | refine z_bS ?_ GE171.out | refine z_bS ?_ GE172.out | refine z_bS ?_ GE182.out | refine z_bS ?_ GE186.out | refine z_bS ?_ GE192.out | refine z_bS ?_ GE212.out) | exact HB.out)) hb)
               clear HO_183000
               clear HO_187000
               clear HO_193000
               clear HO206
               clear BK171
               clear BK172
               clear BK182
               clear BK186
               clear BK192
               clear BK212
               clear HB
               have HO_183000 := n0_
               have HO_187000 := n1_
               have HO_193000 := n2_
               have HO206 := n3_
               have HO211 := n4_
               have BK171 := n5_
               have BK172 := n6_
               have BK182 := n7_
               have BK186 := n8_
               have BK192 := n9_
               have BK212 := n10_
               have HB := n11_
               clear n0_ n1_ n2_ n3_ n4_ n5_ n6_ n7_ n8_ n9_ n10_ n11_
               (try clear hb)
               (try clear hb2)
               (try clear hk)
               (try clear hi)
               (try clear ho0)
               refine hK.out _ _ ⟨(z_kC BK171.out 0).trans rfl, (z_kC BK172.out 0).trans rfl, (z_kC BK172.out 1).trans rfl⟩ (fun hHeld => ?_)
               clear hK K
               refine norm_ (a' := ?_) ?_ ?_
               rotate_left
               ·show Act.put _ (some 64) _ = _
                simp only [Act.put, z_lA, z_lZ, z_lS, i64_w, i32_w]
                rfl
               exact norm_ (by simp only [putAll, Act.put, z_lA, z_lZ, z_lS]) (hCont (.slice Ao143 t204.length co143, v210, gb212) _ ⟨hHeld, (by (with_reducible repeat (first | apply z_rA | apply z_rN | apply z_rD)); exact z_rM HO206.out (fun _ hk => ⟨hk.2, ⟨hk.1.1.1.2, ⟨hk.1.1.2, hk.1.2⟩⟩⟩)), (by (with_reducible repeat (first | apply z_rA | apply z_rN | apply z_rD)); exact z_rM HO211.out (fun _ hk => ⟨hk.2, ⟨hk.1.1.1.2, ⟨hk.1.1.2, hk.1.2⟩⟩⟩)), (by (with_reducible repeat (first | apply z_rA | apply z_rN | apply z_rD)); exact z_rM HO_183000.out (fun _ hk => ⟨hk.1.2, ⟨hk.2, ⟨hk.1.1.1, hk.1.1.2⟩⟩⟩)), (by (with_reducible repeat (first | apply z_rA | apply z_rN | apply z_rD)); exact z_rM HO_187000.out (fun _ hk => ⟨hk.1.2, ⟨hk.2, ⟨hk.1.1.1, hk.1.1.2⟩⟩⟩)), (by (with_reducible repeat (first | apply z_rA | apply z_rN | apply z_rD)); exact z_rM HO_193000.out (fun _ hk => ⟨hk.1.2, ⟨hk.2, ⟨hk.1.1.1, hk.1.1.2⟩⟩⟩)), (by (with_reducible repeat (first | refine z_kN ?_ _ | refine z_kD ?_ | refine z_kA ?_ _)); exact BK171.out), (by (with_reducible repeat (first | refine z_kN ?_ _ | refine z_kD ?_ | refine z_kA ?_ _)); exact BK172.out), (by (with_reducible repeat (first | refine z_kN ?_ _ | refine z_kD ?_ | refine z_kA ?_ _)); exact BK182.out), (by (with_reducible repeat (first | refine z_kN ?_ _ | refine z_kD ?_ | refine z_kA ?_ _)); exact BK186.out), (by (with_reducible repeat (first | refine z_kN ?_ _ | refine z_kD ?_ | refine z_kA ?_ _)); exact BK192.out), (by (with_reducible repeat (first | refine z_kN ?_ _ | refine z_kD ?_ | refine z_kA ?_ _)); exact BK212.out), GW212.out, GE212.out, NB171_212.out, NB212_171.out, NB172_212.out, NB212_172.out, NB182_212.out, NB212_182.out, NB186_212.out, NB212_186.out, NB192_212.out, NB212_192.out, (by repeat (first | (with_reducible first | exact HB.out | apply z_bA | apply z_bN | apply z_bD | refine z_bS ?_ GE171.out | refine z_bS ?_ GE172.out | refine z_bS ?_ GE182.out | refine z_bS ?_ GE186.out | refine z_bS ?_ GE192.out | refine z_bS ?_ GE212.out) | exact HB.out))⟩)
             ·skip
              refine box_step ?hg (N := 12) ?hd (cs := #[.slice none 0 0]) (t := 54) ?hr ?_; (case hd => rfl); (case hg => rfl); (case hr => first | (go_simp; done) | (go_simp; rfl))
              intro gb212 hg w140 hbox hb
              have n0_ := z_aM (z_rB (by (with_reducible repeat (first | apply z_rA | apply z_rN | apply z_rD)); exact HO_183000.out) hb)
              have n1_ := z_aM (z_rB (by (with_reducible repeat (first | apply z_rA | apply z_rN | apply z_rD)); exact HO_187000.out) hb)
              have n2_ := z_aM (z_rB (by (with_reducible repeat (first | apply z_rA | apply z_rN | apply z_rD)); exact HO_193000.out) hb)
              have n3_ := z_aM (z_kB (g := gb171) (o := .cells #[.slice A0_0 l0_0.length c0_0] 48 (0, 0)) (by (with_reducible repeat (first | refine z_kN ?_ _ | refine z_kD ?_ | refine z_kA ?_ _)); exact BK171.out) hb)
              have n4_ := z_aM (z_kB (g := gb172) (o := .cells #[.int .i64 a1_0, .int .i64 a1_1] 50 (0, 0)) (by (with_reducible repeat (first | refine z_kN ?_ _ | refine z_kD ?_ | refine z_kA ?_ _)); exact BK172.out) hb)
              have n5_ := z_aM (z_kB (g := gb182) (o := .cells #[.slice Ao35 t179.length co35] 54 (0, 0)) (by (with_reducible repeat (first | refine z_kN ?_ _ | refine z_kD ?_ | refine z_kA ?_ _)); exact BK182.out) hb)
              have n6_ := z_aM (z_kB (g := gb186) (o := .cells #[.slice Ao41 t199.length co41] 54 (0, 0)) (by (with_reducible repeat (first | refine z_kN ?_ _ | refine z_kD ?_ | refine z_kA ?_ _)); exact BK186.out) hb)
              have n7_ := z_aM (z_kB (g := gb192) (o := .cells #[.slice Ao52 t189.length co52] 54 (0, 0)) (by (with_reducible repeat (first | refine z_kN ?_ _ | refine z_kD ?_ | refine z_kA ?_ _)); exact BK192.out) hb)
              have n8_ := z_aM (z_bT (by repeat (first | (with_reducible first | exact HB.out | apply z_bA | apply z_bN | apply z_bD | refine z_bS ?_ GE171.out | refine z_bS ?_ GE172.out | refine z_bS ?_ GE182.out | refine z_bS ?_ GE186.out | refine z_bS ?_ GE192.out) | exact HB.out)) hb)
              have n9_ := z_aM (hbox)
              have n10_ := z_aM ((by rw [hg]; exact (z_bZ (by repeat (first | (with_reducible first | exact HB.out | apply z_bA | apply z_bN | apply z_bD | refine z_bS ?_ GE171.out | refine z_bS ?_ GE172.out | refine z_bS ?_ GE182.out | refine z_bS ?_ GE186.out | refine z_bS ?_ GE192.out) | exact HB.out))) : w.heap.size ≤ gb212))
              have n11_ := z_aM ((by rw [hg]; exact (z_bZ (by repeat (first | (with_reducible first | exact HB.out | apply z_bA | apply z_bN | apply z_bD | refine z_bS ?_ GE171.out | refine z_bS ?_ GE172.out | refine z_bS ?_ GE182.out | refine z_bS ?_ GE186.out | refine z_bS ?_ GE192.out) | exact HB.out))) : w.heap.size ≤ gb212))
              have n12_ := z_aM ((by rw [hg]; exact Nat.ne_of_lt (z_kL (g := gb171) (o := .cells #[.slice A0_0 l0_0.length c0_0] 48 (0, 0)) (by (with_reducible repeat (first | refine z_kN ?_ _ | refine z_kD ?_ | refine z_kA ?_ _)); exact BK171.out)) : gb171 ≠ gb212))
              have n13_ := z_aM ((by rw [hg]; exact Nat.ne_of_gt (z_kL (g := gb171) (o := .cells #[.slice A0_0 l0_0.length c0_0] 48 (0, 0)) (by (with_reducible repeat (first | refine z_kN ?_ _ | refine z_kD ?_ | refine z_kA ?_ _)); exact BK171.out)) : gb212 ≠ gb171))
              have n14_ := z_aM ((by rw [hg]; exact Nat.ne_of_lt (z_kL (g := gb172) (o := .cells #[.int .i64 a1_0, .int .i64 a1_1] 50 (0, 0)) (by (with_reducible repeat (first | refine z_kN ?_ _ | refine z_kD ?_ | refine z_kA ?_ _)); exact BK172.out)) : gb172 ≠ gb212))
              have n15_ := z_aM ((by rw [hg]; exact Nat.ne_of_gt (z_kL (g := gb172) (o := .cells #[.int .i64 a1_0, .int .i64 a1_1] 50 (0, 0)) (by (with_reducible repeat (first | refine z_kN ?_ _ | refine z_kD ?_ | refine z_kA ?_ _)); exact BK172.out)) : gb212 ≠ gb172))
              have n16_ := z_aM ((by rw [hg]; exact Nat.ne_of_lt (z_kL (g := gb182) (o := .cells #[.slice Ao35 t179.length co35] 54 (0, 0)) (by (with_reducible repeat (first | refine z_kN ?_ _ | refine z_kD ?_ | refine z_kA ?_ _)); exact BK182.out)) : gb182 ≠ gb212))
              have n17_ := z_aM ((by rw [hg]; exact Nat.ne_of_gt (z_kL (g := gb182) (o := .cells #[.slice Ao35 t179.length co35] 54 (0, 0)) (by (with_reducible repeat (first | refine z_kN ?_ _ | refine z_kD ?_ | refine z_kA ?_ _)); exact BK182.out)) : gb212 ≠ gb182))
              have n18_ := z_aM ((by rw [hg]; exact Nat.ne_of_lt (z_kL (g := gb186) (o := .cells #[.slice Ao41 t199.length co41] 54 (0, 0)) (by (with_reducible repeat (first | refine z_kN ?_ _ | refine z_kD ?_ | refine z_kA ?_ _)); exact BK186.out)) : gb186 ≠ gb212))
              have n19_ := z_aM ((by rw [hg]; exact Nat.ne_of_gt (z_kL (g := gb186) (o := .cells #[.slice Ao41 t199.length co41] 54 (0, 0)) (by (with_reducible repeat (first | refine z_kN ?_ _ | refine z_kD ?_ | refine z_kA ?_ _)); exact BK186.out)) : gb212 ≠ gb186))
              have n20_ := z_aM ((by rw [hg]; exact Nat.ne_of_lt (z_kL (g := gb192) (o := .cells #[.slice Ao52 t189.length co52] 54 (0, 0)) (by (with_reducible repeat (first | refine z_kN ?_ _ | refine z_kD ?_ | refine z_kA ?_ _)); exact BK192.out)) : gb192 ≠ gb212))
              have n21_ := z_aM ((by rw [hg]; exact Nat.ne_of_gt (z_kL (g := gb192) (o := .cells #[.slice Ao52 t189.length co52] 54 (0, 0)) (by (with_reducible repeat (first | refine z_kN ?_ _ | refine z_kD ?_ | refine z_kA ?_ _)); exact BK192.out)) : gb212 ≠ gb192))
              clear HO_183000
              clear HO_187000
              clear HO_193000
              clear BK171
              clear BK172
              clear BK182
              clear BK186
              clear BK192
              clear HB
              have HO_183000 := n0_
              have HO_187000 := n1_
              have HO_193000 := n2_
              have BK171 := n3_
              have BK172 := n4_
              have BK182 := n5_
              have BK186 := n6_
              have BK192 := n7_
              have HB := n8_
              have BK212 := n9_
              have GW212 := n10_
              have GE212 := n11_
              have NB171_212 := n12_
              have NB212_171 := n13_
              have NB172_212 := n14_
              have NB212_172 := n15_
              have NB182_212 := n16_
              have NB212_182 := n17_
              have NB186_212 := n18_
              have NB212_186 := n19_
              have NB192_212 := n20_
              have NB212_192 := n21_
              clear n0_ n1_ n2_ n3_ n4_ n5_ n6_ n7_ n8_ n9_ n10_ n11_ n12_ n13_ n14_ n15_ n16_ n17_ n18_ n19_ n20_ n21_
              clear hb hbox hg
              refine hK.out _ _ ⟨(z_kC BK171.out 0).trans rfl, (z_kC BK172.out 0).trans rfl, (z_kC BK172.out 1).trans rfl⟩ (fun hHeld => ?_)
              clear hK K
              refine norm_ (a' := ?_) ?_ ?_
              rotate_left
              ·show Act.put _ (some 12) _ = _
               simp only [Act.put, z_lA, z_lZ, z_lS, i64_w, i32_w]
               rfl
              refine one_ (i := 1) (N := some 61) #[true, true, true, false, false, true, false] rfl rfl (by kernel_rfl) (by decide) (fun K hK => ?_)
              refine goes_ Try.func34 (by kernel_rfl) rfl #[.agg #[.slice A0_0 l0_0.length c0_0]] (by rfl) rfl rfl (by (try simp only [List.map_toArray, List.map_cons, List.map_nil]); first | done | rfl | (simp only [List.length_drop, List.length_take]; rfl)) ?_
              with_reducible refine (laws_toArena.calls kj21 _ _ l0_0 t204 _ ?side1 ?side2 A93.out).mono ?_
              (case side1 => repeat (first | exact (Kd.C_below HR0_0.out HB.out) | (with_reducible refine Kd.C_alloc ?_ _) | (with_reducible refine Kd.C_drewN ?_ _) | (with_reducible refine Kd.C_drew ?_)))
              (case side2 => exact HC0_0.out)
              rintro e w141 ⟨v205, rfl, ho0, hb⟩
              refine ⟨_, rfl, ?_⟩
              have n0_ := z_aM (Kd.R_elder' (by (with_reducible repeat (first | apply z_rA | apply z_rN | apply z_rD)); exact HO_183000.out) (Kd.R_base ho0) hb)
              have n1_ := z_aM (Kd.R_elder' (by (with_reducible repeat (first | apply z_rA | apply z_rN | apply z_rD)); exact HO_187000.out) (Kd.R_base ho0) hb)
              have n2_ := z_aM (Kd.R_elder' (by (with_reducible repeat (first | apply z_rA | apply z_rN | apply z_rD)); exact HO_193000.out) (Kd.R_base ho0) hb)
              have n3_ := z_aM (Kd.R_lower (Kd.R_new' (Kd.R_new' (Kd.R_new' ho0 (z_rL (by (with_reducible repeat (first | apply z_rA | apply z_rN | apply z_rD)); exact HO_183000.out))) (z_rL (by (with_reducible repeat (first | apply z_rA | apply z_rN | apply z_rD)); exact HO_187000.out))) (z_rL (by (with_reducible repeat (first | apply z_rA | apply z_rN | apply z_rD)); exact HO_193000.out))) (z_bZ (by repeat (first | (with_reducible first | exact HB.out | apply z_bA | apply z_bN | apply z_bD | refine z_bS ?_ GE171.out | refine z_bS ?_ GE172.out | refine z_bS ?_ GE182.out | refine z_bS ?_ GE186.out | refine z_bS ?_ GE192.out | refine z_bS ?_ GE212.out) | exact HB.out))))
              have n4_ := z_aM (z_kB (g := gb171) (o := .cells #[.slice A0_0 l0_0.length c0_0] 48 (0, 0)) (by (with_reducible repeat (first | refine z_kN ?_ _ | refine z_kD ?_ | refine z_kA ?_ _)); exact BK171.out) hb)
              have n5_ := z_aM (z_kB (g := gb172) (o := .cells #[.int .i64 a1_0, .int .i64 a1_1] 50 (0, 0)) (by (with_reducible repeat (first | refine z_kN ?_ _ | refine z_kD ?_ | refine z_kA ?_ _)); exact BK172.out) hb)
              have n6_ := z_aM (z_kB (g := gb182) (o := .cells #[.slice Ao35 t179.length co35] 54 (0, 0)) (by (with_reducible repeat (first | refine z_kN ?_ _ | refine z_kD ?_ | refine z_kA ?_ _)); exact BK182.out) hb)
              have n7_ := z_aM (z_kB (g := gb186) (o := .cells #[.slice Ao41 t199.length co41] 54 (0, 0)) (by (with_reducible repeat (first | refine z_kN ?_ _ | refine z_kD ?_ | refine z_kA ?_ _)); exact BK186.out) hb)
              have n8_ := z_aM (z_kB (g := gb192) (o := .cells #[.slice Ao52 t189.length co52] 54 (0, 0)) (by (with_reducible repeat (first | refine z_kN ?_ _ | refine z_kD ?_ | refine z_kA ?_ _)); exact BK192.out) hb)
              have n9_ := z_aM (z_kB (g := gb212) (o := .cells #[.slice none 0 0] 54 (0, 0)) (by (with_reducible repeat (first | refine z_kN ?_ _ | refine z_kD ?_ | refine z_kA ?_ _)); exact BK212.out) hb)
              have n10_ := z_aM (z_bT (by repeat (first | (with_reducible first | exact HB.out | apply z_bA | apply z_bN | apply z_bD | refine z_bS ?_ GE171.out | refine z_bS ?_ GE172.out | refine z_bS ?_ GE182.out | refine z_bS ?_ GE186.out | refine z_bS ?_ GE192.out | refine z_bS ?_ GE212.out) | exact HB.out)) hb)
              clear HO_183000
              clear HO_187000
              clear HO_193000
              clear BK171
              clear BK172
              clear BK182
              clear BK186
              clear BK192
              clear BK212
              clear HB
              have HO_183000 := n0_
              have HO_187000 := n1_
              have HO_193000 := n2_
              have HO206 := n3_
              have BK171 := n4_
              have BK172 := n5_
              have BK182 := n6_
              have BK186 := n7_
              have BK192 := n8_
              have BK212 := n9_
              have HB := n10_
              clear n0_ n1_ n2_ n3_ n4_ n5_ n6_ n7_ n8_ n9_ n10_
              (try clear hb)
              (try clear hb2)
              (try clear hk)
              (try clear hi)
              (try clear ho0)
              refine hK.out _ _ ⟨(z_kC BK171.out 0).trans rfl, (z_kC BK172.out 0).trans rfl, (z_kC BK172.out 1).trans rfl⟩ (fun hHeld => ?_)
              clear hK K
              refine norm_ (a' := ?_) ?_ ?_
              rotate_left
              ·show Act.put _ (some 61) _ = _
               simp only [Act.put, z_lA, z_lZ, z_lS, i64_w, i32_w]
               rfl
              refine one_ (i := 3) (N := some 63) #[true, true, true, true, false, true, false] rfl rfl (by kernel_rfl) (by decide) (fun K hK => ?_)
              refine goes_ Try.func35 (by kernel_rfl) rfl #[.agg #[.int .i64 a1_0, .int .i64 a1_1]] (by rfl) rfl rfl (by (try simp only [List.map_toArray, List.map_cons, List.map_nil]); first | done | rfl | (simp only [List.length_drop, List.length_take]; rfl)) ?_
              with_reducible refine (laws_toRegion.calls a1_0 a1_1 t207 t208 _ A94.out).mono ?_
              rintro e w142 ⟨rfl, hb⟩
              refine ⟨_, rfl, ?_⟩
              have n0_ := z_aM (z_rB (by (with_reducible repeat (first | apply z_rA | apply z_rN | apply z_rD)); exact HO_183000.out) hb)
              have n1_ := z_aM (z_rB (by (with_reducible repeat (first | apply z_rA | apply z_rN | apply z_rD)); exact HO_187000.out) hb)
              have n2_ := z_aM (z_rB (by (with_reducible repeat (first | apply z_rA | apply z_rN | apply z_rD)); exact HO_193000.out) hb)
              have n3_ := z_aM (z_rB (by (with_reducible repeat (first | apply z_rA | apply z_rN | apply z_rD)); exact HO206.out) hb)
              have n4_ := z_aM (z_kB (g := gb171) (o := .cells #[.slice A0_0 l0_0.length c0_0] 48 (0, 0)) (by (with_reducible repeat (first | refine z_kN ?_ _ | refine z_kD ?_ | refine z_kA ?_ _)); exact BK171.out) hb)
              have n5_ := z_aM (z_kB (g := gb172) (o := .cells #[.int .i64 a1_0, .int .i64 a1_1] 50 (0, 0)) (by (with_reducible repeat (first | refine z_kN ?_ _ | refine z_kD ?_ | refine z_kA ?_ _)); exact BK172.out) hb)
              have n6_ := z_aM (z_kB (g := gb182) (o := .cells #[.slice Ao35 t179.length co35] 54 (0, 0)) (by (with_reducible repeat (first | refine z_kN ?_ _ | refine z_kD ?_ | refine z_kA ?_ _)); exact BK182.out) hb)
              have n7_ := z_aM (z_kB (g := gb186) (o := .cells #[.slice Ao41 t199.length co41] 54 (0, 0)) (by (with_reducible repeat (first | refine z_kN ?_ _ | refine z_kD ?_ | refine z_kA ?_ _)); exact BK186.out) hb)
              have n8_ := z_aM (z_kB (g := gb192) (o := .cells #[.slice Ao52 t189.length co52] 54 (0, 0)) (by (with_reducible repeat (first | refine z_kN ?_ _ | refine z_kD ?_ | refine z_kA ?_ _)); exact BK192.out) hb)
              have n9_ := z_aM (z_kB (g := gb212) (o := .cells #[.slice none 0 0] 54 (0, 0)) (by (with_reducible repeat (first | refine z_kN ?_ _ | refine z_kD ?_ | refine z_kA ?_ _)); exact BK212.out) hb)
              have n10_ := z_aM (z_bT (by repeat (first | (with_reducible first | exact HB.out | apply z_bA | apply z_bN | apply z_bD | refine z_bS ?_ GE171.out | refine z_bS ?_ GE172.out | refine z_bS ?_ GE182.out | refine z_bS ?_ GE186.out | refine z_bS ?_ GE192.out | refine z_bS ?_ GE212.out) | exact HB.out)) hb)
              clear HO_183000
              clear HO_187000
              clear HO_193000
              clear HO206
              clear BK171
              clear BK172
              clear BK182
              clear BK186
              clear BK192
              clear BK212
              clear HB
              have HO_183000 := n0_
              have HO_187000 := n1_
              have HO_193000 := n2_
              have HO206 := n3_
              have BK171 := n4_
              have BK172 := n5_
              have BK182 := n6_
              have BK186 := n7_
              have BK192 := n8_
              have BK212 := n9_
              have HB := n10_
              clear n0_ n1_ n2_ n3_ n4_ n5_ n6_ n7_ n8_ n9_ n10_
              (try clear hb)
              (try clear hb2)
              (try clear hk)
              (try clear hi)
              obtain ⟨Ao143, co143, eo143⟩ := Kd.R_slice HO206.out
              (first | subst eo143 | (injection eo143 with f1_ f2_ f3_; have f4_ := f1_.symm; have f5_ := f3_.symm; clear f1_ f2_ f3_; subst f4_; subst f5_))
              refine hK.out _ _ ⟨(z_kC BK171.out 0).trans rfl, (z_kC BK172.out 0).trans rfl, (z_kC BK172.out 1).trans rfl⟩ (fun hHeld => ?_)
              clear hK K
              refine norm_ (a' := ?_) ?_ ?_
              rotate_left
              ·show Act.put _ (some 63) _ = _
               simp only [Act.put, z_lA, z_lZ, z_lS, i64_w, i32_w]
               rfl
              refine one_ (i := 4) (N := some 64) #[true, true, true, true, true, true, false] rfl rfl (by kernel_rfl) (by decide) (fun K hK => ?_)
              refine goes_ Try.func66 (by kernel_rfl) rfl #[.agg #[.slice Ao143 t204.length co143], .agg #[.int .i64 t207, .int .i64 t208]] (by rfl) rfl rfl (by (try simp only [List.map_toArray, List.map_cons, List.map_nil]); first | done | rfl | (simp only [List.length_drop, List.length_take]; rfl)) ?_
              with_reducible refine (impl_ClearCells.calls kj21 _ _ t204 t207 t208 t209 _ ?side1 ?side2 A95.out).mono ?_
              (case side1 => repeat (first | exact (Kd.R_reads' HO206.out).2.2 | (with_reducible refine Kd.C_alloc ?_ _) | (with_reducible refine Kd.C_drewN ?_ _) | (with_reducible refine Kd.C_drew ?_)))
              (case side2 => exact (Kd.R_reads' HO206.out).2.1)
              rintro e w144 ⟨v210, rfl, ho0, hb⟩
              refine ⟨_, rfl, ?_⟩
              have n0_ := z_aM (Kd.R_elder' (by (with_reducible repeat (first | apply z_rA | apply z_rN | apply z_rD)); exact HO_183000.out) (Kd.R_base ho0) hb)
              have n1_ := z_aM (Kd.R_elder' (by (with_reducible repeat (first | apply z_rA | apply z_rN | apply z_rD)); exact HO_187000.out) (Kd.R_base ho0) hb)
              have n2_ := z_aM (Kd.R_elder' (by (with_reducible repeat (first | apply z_rA | apply z_rN | apply z_rD)); exact HO_193000.out) (Kd.R_base ho0) hb)
              have n3_ := z_aM (Kd.R_elder' (by (with_reducible repeat (first | apply z_rA | apply z_rN | apply z_rD)); exact HO206.out) (Kd.R_base ho0) hb)
              have n4_ := z_aM (Kd.R_lower (Kd.R_new' (Kd.R_new' (Kd.R_new' (Kd.R_new' ho0 (z_rL (by (with_reducible repeat (first | apply z_rA | apply z_rN | apply z_rD)); exact HO_183000.out))) (z_rL (by (with_reducible repeat (first | apply z_rA | apply z_rN | apply z_rD)); exact HO_187000.out))) (z_rL (by (with_reducible repeat (first | apply z_rA | apply z_rN | apply z_rD)); exact HO_193000.out))) (z_rL (by (with_reducible repeat (first | apply z_rA | apply z_rN | apply z_rD)); exact HO206.out))) (z_bZ (by repeat (first | (with_reducible first | exact HB.out | apply z_bA | apply z_bN | apply z_bD | refine z_bS ?_ GE171.out | refine z_bS ?_ GE172.out | refine z_bS ?_ GE182.out | refine z_bS ?_ GE186.out | refine z_bS ?_ GE192.out | refine z_bS ?_ GE212.out) | exact HB.out))))
              have n5_ := z_aM (z_kB (g := gb171) (o := .cells #[.slice A0_0 l0_0.length c0_0] 48 (0, 0)) (by (with_reducible repeat (first | refine z_kN ?_ _ | refine z_kD ?_ | refine z_kA ?_ _)); exact BK171.out) hb)
              have n6_ := z_aM (z_kB (g := gb172) (o := .cells #[.int .i64 a1_0, .int .i64 a1_1] 50 (0, 0)) (by (with_reducible repeat (first | refine z_kN ?_ _ | refine z_kD ?_ | refine z_kA ?_ _)); exact BK172.out) hb)
              have n7_ := z_aM (z_kB (g := gb182) (o := .cells #[.slice Ao35 t179.length co35] 54 (0, 0)) (by (with_reducible repeat (first | refine z_kN ?_ _ | refine z_kD ?_ | refine z_kA ?_ _)); exact BK182.out) hb)
              have n8_ := z_aM (z_kB (g := gb186) (o := .cells #[.slice Ao41 t199.length co41] 54 (0, 0)) (by (with_reducible repeat (first | refine z_kN ?_ _ | refine z_kD ?_ | refine z_kA ?_ _)); exact BK186.out) hb)
              have n9_ := z_aM (z_kB (g := gb192) (o := .cells #[.slice Ao52 t189.length co52] 54 (0, 0)) (by (with_reducible repeat (first | refine z_kN ?_ _ | refine z_kD ?_ | refine z_kA ?_ _)); exact BK192.out) hb)
              have n10_ := z_aM (z_kB (g := gb212) (o := .cells #[.slice none 0 0] 54 (0, 0)) (by (with_reducible repeat (first | refine z_kN ?_ _ | refine z_kD ?_ | refine z_kA ?_ _)); exact BK212.out) hb)
              have n11_ := z_aM (z_bT (by repeat (first | (with_reducible first | exact HB.out | apply z_bA | apply z_bN | apply z_bD | refine z_bS ?_ GE171.out | refine z_bS ?_ GE172.out | refine z_bS ?_ GE182.out | refine z_bS ?_ GE186.out | refine z_bS ?_ GE192.out | refine z_bS ?_ GE212.out) | exact HB.out)) hb)
              clear HO_183000
              clear HO_187000
              clear HO_193000
              clear HO206
              clear BK171
              clear BK172
              clear BK182
              clear BK186
              clear BK192
              clear BK212
              clear HB
              have HO_183000 := n0_
              have HO_187000 := n1_
              have HO_193000 := n2_
              have HO206 := n3_
              have HO211 := n4_
              have BK171 := n5_
              have BK172 := n6_
              have BK182 := n7_
              have BK186 := n8_
              have BK192 := n9_
              have BK212 := n10_
              have HB := n11_
              clear n0_ n1_ n2_ n3_ n4_ n5_ n6_ n7_ n8_ n9_ n10_ n11_
              (try clear hb)
              (try clear hb2)
              (try clear hk)
              (try clear hi)
              (try clear ho0)
              refine hK.out _ _ ⟨(z_kC BK171.out 0).trans rfl, (z_kC BK172.out 0).trans rfl, (z_kC BK172.out 1).trans rfl⟩ (fun hHeld => ?_)
              clear hK K
              refine norm_ (a' := ?_) ?_ ?_
              rotate_left
              ·show Act.put _ (some 64) _ = _
               simp only [Act.put, z_lA, z_lZ, z_lS, i64_w, i32_w]
               rfl
              exact norm_ (by simp only [putAll, Act.put, z_lA, z_lZ, z_lS]) (hCont (.slice Ao143 t204.length co143, v210, gb212) _ ⟨hHeld, (by (with_reducible repeat (first | apply z_rA | apply z_rN | apply z_rD)); exact z_rM HO206.out (fun _ hk => ⟨hk.2, ⟨hk.1.1.1.2, ⟨hk.1.1.2, hk.1.2⟩⟩⟩)), (by (with_reducible repeat (first | apply z_rA | apply z_rN | apply z_rD)); exact z_rM HO211.out (fun _ hk => ⟨hk.2, ⟨hk.1.1.1.2, ⟨hk.1.1.2, hk.1.2⟩⟩⟩)), (by (with_reducible repeat (first | apply z_rA | apply z_rN | apply z_rD)); exact z_rM HO_183000.out (fun _ hk => ⟨hk.1.2, ⟨hk.2, ⟨hk.1.1.1, hk.1.1.2⟩⟩⟩)), (by (with_reducible repeat (first | apply z_rA | apply z_rN | apply z_rD)); exact z_rM HO_187000.out (fun _ hk => ⟨hk.1.2, ⟨hk.2, ⟨hk.1.1.1, hk.1.1.2⟩⟩⟩)), (by (with_reducible repeat (first | apply z_rA | apply z_rN | apply z_rD)); exact z_rM HO_193000.out (fun _ hk => ⟨hk.1.2, ⟨hk.2, ⟨hk.1.1.1, hk.1.1.2⟩⟩⟩)), (by (with_reducible repeat (first | refine z_kN ?_ _ | refine z_kD ?_ | refine z_kA ?_ _)); exact BK171.out), (by (with_reducible repeat (first | refine z_kN ?_ _ | refine z_kD ?_ | refine z_kA ?_ _)); exact BK172.out), (by (with_reducible repeat (first | refine z_kN ?_ _ | refine z_kD ?_ | refine z_kA ?_ _)); exact BK182.out), (by (with_reducible repeat (first | refine z_kN ?_ _ | refine z_kD ?_ | refine z_kA ?_ _)); exact BK186.out), (by (with_reducible repeat (first | refine z_kN ?_ _ | refine z_kD ?_ | refine z_kA ?_ _)); exact BK192.out), (by (with_reducible repeat (first | refine z_kN ?_ _ | refine z_kD ?_ | refine z_kA ?_ _)); exact BK212.out), GW212.out, GE212.out, NB171_212.out, NB212_171.out, NB172_212.out, NB212_172.out, NB182_212.out, NB212_182.out, NB186_212.out, NB212_186.out, NB192_212.out, NB212_192.out, (by repeat (first | (with_reducible first | exact HB.out | apply z_bA | apply z_bN | apply z_bD | refine z_bS ?_ GE171.out | refine z_bS ?_ GE172.out | refine z_bS ?_ GE182.out | refine z_bS ?_ GE186.out | refine z_bS ?_ GE192.out | refine z_bS ?_ GE212.out) | exact HB.out))⟩)
            rintro ⟨v205, v210, gb212⟩ w145 ⟨hS_, h0_, h1_, h2_, h3_, h4_, h5_, h6_, h7_, h8_, h9_, h10_, h11_, h12_, h13_, h14_, h15_, h16_, h17_, h18_, h19_, h20_, h21_, h22_, h23_⟩
            have n0_ : Aside0 (Kd.R (Kd.int .i64) 3 w145 w.heap.size (fun k_ => some k_ ≠ (v210 : Value).ownBlock ∧ some k_ ≠ (.slice Ao35 t179.length co35 : Value).ownBlock ∧ some k_ ≠ (.slice Ao41 t199.length co41 : Value).ownBlock ∧ some k_ ≠ (.slice Ao52 t189.length co52 : Value).ownBlock) v205 t204) := ⟨h0_⟩
            have n1_ : Aside0 (Kd.R (Kd.int .i64) 3 w145 w.heap.size (fun k_ => some k_ ≠ (v205 : Value).ownBlock ∧ some k_ ≠ (.slice Ao35 t179.length co35 : Value).ownBlock ∧ some k_ ≠ (.slice Ao41 t199.length co41 : Value).ownBlock ∧ some k_ ≠ (.slice Ao52 t189.length co52 : Value).ownBlock) v210 t209) := ⟨h1_⟩
            have n2_ : Aside0 (Kd.R (Kd.int .i64) 3 w145 w.heap.size (fun k_ => some k_ ≠ (v205 : Value).ownBlock ∧ some k_ ≠ (v210 : Value).ownBlock ∧ some k_ ≠ (.slice Ao41 t199.length co41 : Value).ownBlock ∧ some k_ ≠ (.slice Ao52 t189.length co52 : Value).ownBlock) (.slice Ao35 t179.length co35) t179) := ⟨h2_⟩
            have n3_ : Aside0 (Kd.R (Kd.int .i64) 3 w145 w.heap.size (fun k_ => some k_ ≠ (v205 : Value).ownBlock ∧ some k_ ≠ (v210 : Value).ownBlock ∧ some k_ ≠ (.slice Ao35 t179.length co35 : Value).ownBlock ∧ some k_ ≠ (.slice Ao52 t189.length co52 : Value).ownBlock) (.slice Ao41 t199.length co41) t199) := ⟨h3_⟩
            have n4_ : Aside0 (Kd.R (Kd.int .i64) 3 w145 w.heap.size (fun k_ => some k_ ≠ (v205 : Value).ownBlock ∧ some k_ ≠ (v210 : Value).ownBlock ∧ some k_ ≠ (.slice Ao35 t179.length co35 : Value).ownBlock ∧ some k_ ≠ (.slice Ao41 t199.length co41 : Value).ownBlock) (.slice Ao52 t189.length co52) t202) := ⟨h4_⟩
            have n5_ : Aside0 (w145.heap[gb171]? = some (.cells #[.slice A0_0 l0_0.length c0_0] 48 (0, 0))) := ⟨h5_⟩
            have n6_ : Aside0 (w145.heap[gb172]? = some (.cells #[.int .i64 a1_0, .int .i64 a1_1] 50 (0, 0))) := ⟨h6_⟩
            have n7_ : Aside0 (w145.heap[gb182]? = some (.cells #[.slice Ao35 t179.length co35] 54 (0, 0))) := ⟨h7_⟩
            have n8_ : Aside0 (w145.heap[gb186]? = some (.cells #[.slice Ao41 t199.length co41] 54 (0, 0))) := ⟨h8_⟩
            have n9_ : Aside0 (w145.heap[gb192]? = some (.cells #[.slice Ao52 t189.length co52] 54 (0, 0))) := ⟨h9_⟩
            have n10_ : Aside0 (w145.heap[gb212]? = some (.cells #[.slice none 0 0] 54 (0, 0))) := ⟨h10_⟩
            have n11_ : Aside0 (w.heap.size ≤ gb212) := ⟨h11_⟩
            have n12_ : Aside0 (w.heap.size ≤ gb212) := ⟨h12_⟩
            have n13_ : Aside0 (gb171 ≠ gb212) := ⟨h13_⟩
            have n14_ : Aside0 (gb212 ≠ gb171) := ⟨h14_⟩
            have n15_ : Aside0 (gb172 ≠ gb212) := ⟨h15_⟩
            have n16_ : Aside0 (gb212 ≠ gb172) := ⟨h16_⟩
            have n17_ : Aside0 (gb182 ≠ gb212) := ⟨h17_⟩
            have n18_ : Aside0 (gb212 ≠ gb182) := ⟨h18_⟩
            have n19_ : Aside0 (gb186 ≠ gb212) := ⟨h19_⟩
            have n20_ : Aside0 (gb212 ≠ gb186) := ⟨h20_⟩
            have n21_ : Aside0 (gb192 ≠ gb212) := ⟨h21_⟩
            have n22_ : Aside0 (gb212 ≠ gb192) := ⟨h22_⟩
            have n23_ : Aside0 (Below w.heap.size w w145) := ⟨h23_⟩
            clear HO_183000
            clear HO_187000
            clear HO_193000
            clear BK171
            clear BK172
            clear BK182
            clear BK186
            clear BK192
            clear HB
            clear h0_ h1_ h2_ h3_ h4_ h5_ h6_ h7_ h8_ h9_ h10_ h11_ h12_ h13_ h14_ h15_ h16_ h17_ h18_ h19_ h20_ h21_ h22_ h23_
            have HO206 := n0_
            have HO211 := n1_
            have HO_183000 := n2_
            have HO_187000 := n3_
            have HO_193000 := n4_
            have BK171 := n5_
            have BK172 := n6_
            have BK182 := n7_
            have BK186 := n8_
            have BK192 := n9_
            have BK212 := n10_
            have GW212 := n11_
            have GE212 := n12_
            have NB171_212 := n13_
            have NB212_171 := n14_
            have NB172_212 := n15_
            have NB212_172 := n16_
            have NB182_212 := n17_
            have NB212_182 := n18_
            have NB186_212 := n19_
            have NB212_186 := n20_
            have NB192_212 := n21_
            have NB212_192 := n22_
            have HB := n23_
            clear n0_ n1_ n2_ n3_ n4_ n5_ n6_ n7_ n8_ n9_ n10_ n11_ n12_ n13_ n14_ n15_ n16_ n17_ n18_ n19_ n20_ n21_ n22_ n23_
            have hHeld : w145.cell? ⟨gb171, 0, none⟩ = some (.slice A0_0 l0_0.length c0_0) ∧ w145.cell? ⟨gb172, 0, none⟩ = some (.int .i64 a1_0) ∧ w145.cell? ⟨gb172, 1, none⟩ = some (.int .i64 a1_1) := hS_
            obtain ⟨Ao146, co146, eo146⟩ := Kd.R_slice HO211.out
            (first | subst eo146 | (injection eo146 with f1_ f2_ f3_; have f4_ := f1_.symm; have f5_ := f3_.symm; clear f1_ f2_ f3_; subst f4_; subst f5_))
            refine norm_ (a' := ?_) ?_ ?_
            rotate_left
            ·simp only [putAll, Act.put, z_lA, z_lZ, z_lS]
             rfl
            refine one_ (i := 6) (N := none) #[true, true, true, true, true, true, true] rfl rfl (by kernel_rfl) (by decide) (fun K hK => ?_)
            have hs147 : w145.cell? ⟨gb212, 0, none⟩ = some (.slice none 0 0) := (z_kC BK212.out 0).trans rfl
            have hfs147 := blk_frozen BK212.out 0
            have hns147_0 := NB171_212.out
            have hns147_1 := NB172_212.out
            have hns147_2 := NB182_212.out
            have hns147_3 := NB186_212.out
            have hns147_4 := NB192_212.out
            have hms147_0 := NB212_171.out
            have hms147_1 := NB212_172.out
            have hms147_2 := NB212_182.out
            have hms147_3 := NB212_186.out
            have hms147_4 := NB212_192.out
            refine skip_ (w1 := ?_) (by rfl) rfl ?_ ?_
            rotate_left
            ·go_simp
             rfl
            refine hK.out _ _ ⟨((cell_far (p := ⟨gb212, _, none⟩) NB171_212.out _).trans (hHeld.1)), ((cell_far (p := ⟨gb212, _, none⟩) NB172_212.out _).trans (hHeld.2.1)), ((cell_far (p := ⟨gb212, _, none⟩) NB172_212.out _).trans (hHeld.2.2))⟩ (fun hHeld => ?_)
            clear hK K
            refine done_ (by kernel_rfl) ?_
            have hnb148 := NB212_171.out
            have hnc148 := NB171_212.out
            have hnb149 := NB212_172.out
            have hnc149 := NB172_212.out
            have hnb150 := NB212_182.out
            have hnc150 := NB182_212.out
            have hnb151 := NB212_186.out
            have hnc151 := NB186_212.out
            have hnb152 := NB212_192.out
            have hnc152 := NB192_212.out
            have hcz153_0 : w145.cell? ⟨gb212, 0, none⟩ = some (.slice none 0 0) := (z_kC BK212.out 0).trans rfl
            have hfz153_0 := blk_frozen BK212.out 0
            have hnb154 := NB182_171.out
            have hnc154 := NB171_182.out
            have hnb155 := NB182_172.out
            have hnc155 := NB172_182.out
            have hnb156 := NB182_186.out
            have hnc156 := NB186_182.out
            have hcz157_0 : w145.cell? ⟨gb182, 0, none⟩ = some (.slice Ao35 t179.length co35) := (z_kC BK182.out 0).trans rfl
            have hfz157_0 := blk_frozen BK182.out 0
            try go_wp2_with (first | ((with_reducible refine gate_callee (f := 37) rfl ?_); refine goesL_ (some 67) rfl rfl Try.func37 (by kernel_rfl) rfl #[.agg #[.slice Ao146 t209.length co146], .agg #[.slice Ao35 t179.length co35]] rfl (by (try simp only [List.map_toArray, List.map_cons, List.map_nil]); first | done | rfl | (simp only [List.length_drop, List.length_take]; rfl)) ?_; (with_reducible refine (laws_eqArena.calls kj21 _ _ t209 _ _ t179 true _ ?side1 ?side2 ?side3 ?side4 A96.out).mono ?_); (case side1 => refine (Kd.R_reads' (e := 3) (base := w.heap.size) (ok := fun k_ => (some k_ ≠ (v205 : Value).ownBlock ∧ (some k_ ≠ (.slice Ao35 t179.length co35 : Value).ownBlock ∧ (some k_ ≠ (.slice Ao41 t199.length co41 : Value).ownBlock ∧ some k_ ≠ (.slice Ao52 t189.length co52 : Value).ownBlock)))) (n := t209.length) (c := co146) ?_).2.2; exact (by (with_reducible repeat (first | apply z_rA | apply z_rN | apply z_rD)); exact (z_rM (Kd.R_far (p := ⟨gb212, 0, none⟩) (Kd.R_types HO211.out BK212.out (by decide)) (fun _ hk => hk.2) (.slice Ao146 t209.length co146)) (fun _ h_ => h_.1)))); (case side2 => exact (Kd.R_reads' HO211.out).2.1); (case side3 => refine (Kd.R_reads' (e := 3) (base := w.heap.size) (ok := fun k_ => (some k_ ≠ (v205 : Value).ownBlock ∧ (some k_ ≠ (.slice Ao146 t209.length co146 : Value).ownBlock ∧ (some k_ ≠ (.slice Ao41 t199.length co41 : Value).ownBlock ∧ some k_ ≠ (.slice Ao52 t189.length co52 : Value).ownBlock)))) (n := t179.length) (c := co35) ?_).2.2; exact (by (with_reducible repeat (first | apply z_rA | apply z_rN | apply z_rD)); exact (z_rM (Kd.R_far (p := ⟨gb212, 0, none⟩) (Kd.R_types HO_183000.out BK212.out (by decide)) (fun _ hk => hk.2) (.slice Ao146 t209.length co146)) (fun _ h_ => h_.1)))); (case side4 => exact (Kd.R_reads' HO_183000.out).2.1); rintro e w158 ⟨rfl, hb⟩; refine ⟨_, rfl, ?_⟩; have n0_ := z_aM (z_rB (by (with_reducible repeat (first | apply z_rA | apply z_rN | apply z_rD)); exact (z_rM (Kd.R_far (p := ⟨gb212, 0, none⟩) (Kd.R_types HO_183000.out BK212.out (by decide)) (fun _ hk => hk.2) (.slice Ao146 t209.length co146)) (fun _ h_ => h_.1))) hb); have n1_ := z_aM (z_rB (by (with_reducible repeat (first | apply z_rA | apply z_rN | apply z_rD)); exact (z_rM (Kd.R_far (p := ⟨gb212, 0, none⟩) (Kd.R_types HO_187000.out BK212.out (by decide)) (fun _ hk => hk.2) (.slice Ao146 t209.length co146)) (fun _ h_ => h_.1))) hb); have n2_ := z_aM (z_rB (by (with_reducible repeat (first | apply z_rA | apply z_rN | apply z_rD)); exact (z_rM (Kd.R_far (p := ⟨gb212, 0, none⟩) (Kd.R_types HO_193000.out BK212.out (by decide)) (fun _ hk => hk.2) (.slice Ao146 t209.length co146)) (fun _ h_ => h_.1))) hb); have n3_ := z_aM (z_rB (by (with_reducible repeat (first | apply z_rA | apply z_rN | apply z_rD)); exact (z_rM (Kd.R_far (p := ⟨gb212, 0, none⟩) (Kd.R_types HO206.out BK212.out (by decide)) (fun _ hk => hk.2) (.slice Ao146 t209.length co146)) (fun _ h_ => h_.1))) hb); have n4_ := z_aM (z_rB (by (with_reducible repeat (first | apply z_rA | apply z_rN | apply z_rD)); exact (z_rM (Kd.R_far (p := ⟨gb212, 0, none⟩) (Kd.R_types HO211.out BK212.out (by decide)) (fun _ hk => hk.2) (.slice Ao146 t209.length co146)) (fun _ h_ => h_.1))) hb); have n5_ := z_aM (z_kB (g := gb171) (o := .cells #[.slice A0_0 l0_0.length c0_0] 48 (0, 0)) (by (with_reducible repeat (first | refine z_kN ?_ _ | refine z_kD ?_ | refine z_kA ?_ _)); refine blk_far ?_ NB171_212.out _; (with_reducible repeat (first | refine z_kN ?_ _ | refine z_kD ?_ | refine z_kA ?_ _)); exact BK171.out) hb); have n6_ := z_aM (z_kB (g := gb172) (o := .cells #[.int .i64 a1_0, .int .i64 a1_1] 50 (0, 0)) (by (with_reducible repeat (first | refine z_kN ?_ _ | refine z_kD ?_ | refine z_kA ?_ _)); refine blk_far ?_ NB172_212.out _; (with_reducible repeat (first | refine z_kN ?_ _ | refine z_kD ?_ | refine z_kA ?_ _)); exact BK172.out) hb); have n7_ := z_aM (z_kB (g := gb182) (o := .cells #[.slice Ao35 t179.length co35] 54 (0, 0)) (by (with_reducible repeat (first | refine z_kN ?_ _ | refine z_kD ?_ | refine z_kA ?_ _)); refine blk_far ?_ NB182_212.out _; (with_reducible repeat (first | refine z_kN ?_ _ | refine z_kD ?_ | refine z_kA ?_ _)); exact BK182.out) hb); have n8_ := z_aM (z_kB (g := gb186) (o := .cells #[.slice Ao41 t199.length co41] 54 (0, 0)) (by (with_reducible repeat (first | refine z_kN ?_ _ | refine z_kD ?_ | refine z_kA ?_ _)); refine blk_far ?_ NB186_212.out _; (with_reducible repeat (first | refine z_kN ?_ _ | refine z_kD ?_ | refine z_kA ?_ _)); exact BK186.out) hb); have n9_ := z_aM (z_kB (g := gb192) (o := .cells #[.slice Ao52 t189.length co52] 54 (0, 0)) (by (with_reducible repeat (first | refine z_kN ?_ _ | refine z_kD ?_ | refine z_kA ?_ _)); refine blk_far ?_ NB192_212.out _; (with_reducible repeat (first | refine z_kN ?_ _ | refine z_kD ?_ | refine z_kA ?_ _)); exact BK192.out) hb); have n10_ := z_aM (z_kB (g := gb212) (o := .cells #[.slice Ao146 t209.length co146] 54 (0, 0)) (by (with_reducible repeat (first | refine z_kN ?_ _ | refine z_kD ?_ | refine z_kA ?_ _)); refine blk_put (cs := #[.slice none 0 0]) ?_ 0 _ rfl; (with_reducible repeat (first | refine z_kN ?_ _ | refine z_kD ?_ | refine z_kA ?_ _)); exact BK212.out) hb); have n11_ := z_aM (z_bT (by repeat (first | (with_reducible first | exact HB.out | apply z_bA | apply z_bN | apply z_bD | refine z_bS ?_ GE171.out | refine z_bS ?_ GE172.out | refine z_bS ?_ GE182.out | refine z_bS ?_ GE186.out | refine z_bS ?_ GE192.out | refine z_bS ?_ GE212.out) | exact HB.out)) hb); clear HO_183000; clear HO_187000; clear HO_193000; clear HO206; clear HO211; clear BK171; clear BK172; clear BK182; clear BK186; clear BK192; clear BK212; clear HB; have HO_183000 := n0_; have HO_187000 := n1_; have HO_193000 := n2_; have HO206 := n3_; have HO211 := n4_; have BK171 := n5_; have BK172 := n6_; have BK182 := n7_; have BK186 := n8_; have BK192 := n9_; have BK212 := n10_; have HB := n11_; clear n0_ n1_ n2_ n3_ n4_ n5_ n6_ n7_ n8_ n9_ n10_ n11_; (try clear hb); (try clear hb2); (try clear hk); (try clear hi); have hcz159_0 : w158.cell? ⟨gb192, 0, none⟩ = some (.slice Ao52 t189.length co52) := (z_kC BK192.out 0).trans rfl; have hfz159_0 := blk_frozen BK192.out 0) | ((with_reducible refine gate_callee (f := 67) rfl ?_); refine goesL_ (some 71) rfl rfl Try.func67 (by kernel_rfl) rfl #[.agg #[.slice Ao52 t202.length co52], .int .i64 1] rfl (by (try simp only [List.map_toArray, List.map_cons, List.map_nil]); first | done | (rw [show t202.length = t189.length from (Kd.R_reads' HO_193000.out).1.symm] <;> rfl) | rfl | (simp only [List.length_drop, List.length_take]; rfl)) ?_; (with_reducible refine (laws_heldArena.calls kj21 _ _ t202 1 t214 _ ?side1 ?side2 A98.out).mono ?_); (case side1 => repeat (first | exact (Kd.R_reads' HO_193000.out).2.2 | (with_reducible refine Kd.C_alloc ?_ _) | (with_reducible refine Kd.C_drewN ?_ _) | (with_reducible refine Kd.C_drew ?_))); (case side2 => rw [show t202.length = t189.length from (Kd.R_reads' HO_193000.out).1.symm]; exact (Kd.R_reads' HO_193000.out).2.1); rintro e w160 ⟨rfl, hb⟩; refine ⟨_, rfl, ?_⟩; have n0_ := z_aM (z_rB (by (with_reducible repeat (first | apply z_rA | apply z_rN | apply z_rD)); exact HO_183000.out) hb); have n1_ := z_aM (z_rB (by (with_reducible repeat (first | apply z_rA | apply z_rN | apply z_rD)); exact HO_187000.out) hb); have n2_ := z_aM (z_rB (by (with_reducible repeat (first | apply z_rA | apply z_rN | apply z_rD)); exact HO_193000.out) hb); have n3_ := z_aM (z_rB (by (with_reducible repeat (first | apply z_rA | apply z_rN | apply z_rD)); exact HO206.out) hb); have n4_ := z_aM (z_rB (by (with_reducible repeat (first | apply z_rA | apply z_rN | apply z_rD)); exact HO211.out) hb); have n5_ := z_aM (z_kB (g := gb171) (o := .cells #[.slice A0_0 l0_0.length c0_0] 48 (0, 0)) (by (with_reducible repeat (first | refine z_kN ?_ _ | refine z_kD ?_ | refine z_kA ?_ _)); exact BK171.out) hb); have n6_ := z_aM (z_kB (g := gb172) (o := .cells #[.int .i64 a1_0, .int .i64 a1_1] 50 (0, 0)) (by (with_reducible repeat (first | refine z_kN ?_ _ | refine z_kD ?_ | refine z_kA ?_ _)); exact BK172.out) hb); have n7_ := z_aM (z_kB (g := gb182) (o := .cells #[.slice Ao35 t179.length co35] 54 (0, 0)) (by (with_reducible repeat (first | refine z_kN ?_ _ | refine z_kD ?_ | refine z_kA ?_ _)); exact BK182.out) hb); have n8_ := z_aM (z_kB (g := gb186) (o := .cells #[.slice Ao41 t199.length co41] 54 (0, 0)) (by (with_reducible repeat (first | refine z_kN ?_ _ | refine z_kD ?_ | refine z_kA ?_ _)); exact BK186.out) hb); have n9_ := z_aM (z_kB (g := gb192) (o := .cells #[.slice Ao52 t189.length co52] 54 (0, 0)) (by (with_reducible repeat (first | refine z_kN ?_ _ | refine z_kD ?_ | refine z_kA ?_ _)); exact BK192.out) hb); have n10_ := z_aM (z_kB (g := gb212) (o := .cells #[.slice Ao146 t209.length co146] 54 (0, 0)) (by (with_reducible repeat (first | refine z_kN ?_ _ | refine z_kD ?_ | refine z_kA ?_ _)); exact BK212.out) hb); have n11_ := z_aM (z_bT (by repeat (first | (with_reducible first | exact HB.out | apply z_bA | apply z_bN | apply z_bD | refine z_bS ?_ GE171.out | refine z_bS ?_ GE172.out | refine z_bS ?_ GE182.out | refine z_bS ?_ GE186.out | refine z_bS ?_ GE192.out | refine z_bS ?_ GE212.out) | exact HB.out)) hb); clear HO_183000; clear HO_187000; clear HO_193000; clear HO206; clear HO211; clear BK171; clear BK172; clear BK182; clear BK186; clear BK192; clear BK212; clear HB; have HO_183000 := n0_; have HO_187000 := n1_; have HO_193000 := n2_; have HO206 := n3_; have HO211 := n4_; have BK171 := n5_; have BK172 := n6_; have BK182 := n7_; have BK186 := n8_; have BK192 := n9_; have BK212 := n10_; have HB := n11_; clear n0_ n1_ n2_ n3_ n4_ n5_ n6_ n7_ n8_ n9_ n10_ n11_; (try clear hb); (try clear hb2); (try clear hk); (try clear hi)))
            go_ret
            exact ⟨by first | rfl | (simp [errW_none, errW_some] <;> rfl) | (simp [*, errW_none, errW_some] <;> rfl), by repeat (first | (with_reducible first | exact HB.out | apply z_bA | apply z_bN | apply z_bD | refine z_bS ?_ GE171.out | refine z_bS ?_ GE172.out | refine z_bS ?_ GE182.out | refine z_bS ?_ GE186.out | refine z_bS ?_ GE192.out | refine z_bS ?_ GE212.out) | exact HB.out)⟩
           ·rw [if_neg c130] at H
            have c130b0 : (t214 == t201) = false := beq_eq_false_iff_ne.mpr c130
            have c130b1 : (t214 != t201) = true := bne_iff_ne.mpr c130
            exact absurd (Option.some.inj H) (by rw [hrt.out]; decide)
         ·replace c97 := Bool.eq_false_iff.mpr c97
          subst c97
          have H1 : (some false) = some r := by rw [if_neg (show ¬ (false = true) by decide)] at H; exact H
          clear H
          have H := H1
          clear H1
          exact absurd (Option.some.inj H) (by rw [hrt.out]; decide)
        ·rw [if_neg c92] at H
         have c92b0 : (t203 == t201) = false := beq_eq_false_iff_ne.mpr c92
         have c92b1 : (t203 != t201) = true := bne_iff_ne.mpr c92
         exact absurd (Option.some.inj H) (by rw [hrt.out]; decide)
   ·replace c20 := Bool.eq_false_iff.mpr c20
    subst c20
    have H1 : (some false) = some r := by rw [if_neg (show ¬ (false = true) by decide)] at H; exact H
    clear H
    have H := H1
    clear H1
    exact absurd (Option.some.inj H) (by rw [hrt.out]; decide)
  ·replace c17 := Bool.eq_false_iff.mpr c17
   subst c17
   have H1 : (some false) = some r := by rw [if_neg (show ¬ (false = true) by decide)] at H; exact H
   clear H
   have H := H1
   clear H1
   exact absurd (Option.some.inj H) (by rw [hrt.out]; decide)

end Go.Proofs.Ytimeeohggjagfaa.PFnExactClearCells
